import Derived.Test.YtaimpcnpifoidaaGreatDoorNh
set_option linter.unusedVariables false
set_option linter.unusedSimpArgs false
set_option maxRecDepth 100000
namespace Go.Proofs.YtaimpcnpifoidaaGreatDoor
open Go Go.RowKit
theorem kyc {α:Type} {f:α→List UInt8} {B:Nat}:∀ {l:List α},(∀ x∈l,(f x).length≤B)→(l.flatMap f).length≤l.length*B
 | [],_=>by simp
 | x::l,h=>by
  have h1:=h x (qu ..)
  have h2:=kyc (f:=f) (B:=B) (l:=l) fun y hy=>h y (ql _ hy)
  simp only [qak,qm,qk,Nat.add_mul,Nat.one_mul]
  omega
theorem ky4 {α:Type} {f:α→List UInt8} {l:List α} {k:Nat} (hk:k<l.length):(l.take (k+1)).flatMap f=(l.take k).flatMap f++f l[k]:=by
 rw [List.take_succ_eq_append_getElem hk,List.flatMap_append]
 simp
theorem ktm {α:Type} {f:α→List UInt8} {B n:Nat} {l:List α} (h:∀ x∈l,(f x).length≤B) (hn:l.length≤n) (k:Nat):((l.take k).flatMap f).length≤n*B:=by
 have h1:=kyc (f:=f) (B:=B) (l:=l.take k) fun x hx=>h x (List.mem_of_mem_take hx)
 have h2:(l.take k).length≤n:=by rw [qaj];omega
 exact qau h1 (qax B h2)
theorem kyr {w:List UInt8}:∀ {ls:List (List UInt8)},(kd2 w ls).length≤(ls.map fun x=>x.length+w.length).sum
 | []=>by simp [kd2]
 | [x]=>by simp [kd2]
 | x::y::l=>by
  have:=kyr (w:=w) (ls:=y::l)
  simp only [kd2,qaf,List.sum_cons,qm] at this ⊢
  omega
theorem k8e {B:Nat}:∀ {ls:List Nat},(∀ x∈ls,x≤B)→ls.sum≤ls.length*B
 | [],_=>by simp
 | x::l,h=>by
  have h1:=h x (qu ..)
  have h2:=k8e (B:=B) (ls:=l) fun y hy=>h y (ql _ hy)
  simp only [List.sum_cons,qk,Nat.add_mul,Nat.one_mul]
  omega
theorem k0s {w:List UInt8} {ls:List (List UInt8)} {B n:Nat} (h:∀ x∈ls,x.length+w.length≤B) (hn:ls.length≤n):(kd2 w ls).length≤n*B:=by
 have h1:=kyr (w:=w) (ls:=ls)
 have h2:=k8e (B:=B) (ls:=ls.map fun x=>x.length+w.length) fun y hy=>by
  obtain ⟨x,hx,rfl⟩:=qam.1 hy
  exact h x hx
 rw [q8] at h2
 exact qau h1 (qau h2 (qax B hn))
theorem k2w (w:List UInt8):∀ ls:List (List UInt8),Lib.join ls w=kd2 w ls
 | []=>rfl
 | [x]=>Lib.join_one x w
 | x::y::l=>by
  have h:=k2w w (y::l)
  rw [kd2,← h]
  unfold Lib.join
  simp [List.intercalate,List.intersperse]
theorem k4g {w:List UInt8} {ls:List (List UInt8)} (h1:ls.length≤1000000) (h2:(kd2 w ls).length≤1000000000):strings_Join (ls.map mkB) (mkB w)=some (mkB (kd2 w ls)):=by
 have e:kra (ls.map mkB) (mkB w)=mkB (kd2 w ls):=by
  unfold kra
  rw [kbl,List.map_map,show ((fun x:BA=>x.data.toList) ∘ mkB)=id from funext fun l=>kbl l,List.map_id,k2w]
  rfl
 unfold strings_Join
 rw [e,kbu,q8,if_pos ⟨by omega,by omega⟩]
theorem kuj {ls:List (List UInt8)} {xs:List BA} {acc:List UInt8} (hx:xs=ls.map mkB) (h1:ls.length≤1000000) (h2:(kd2 [32] ls).length≤1000000000) (h3:acc.length≤4000000000):kbx xs (iB acc)=some (iB (acc++(kd2 [32] ls++[10]))):=by
 subst hx
 unfold kbx
 rw [show ((⟨#[32]⟩:BA))=mkB [32] from rfl,k4g h1 h2,qa,show ((⟨#[10]⟩:BA))=mkB [10] from rfl,kfa (by simp only [qk,qq];omega),qa,
  kms rfl h3 (by simp only [qm,qk,qq];omega)]
 rfl
theorem k03 {t:Int} (h:kjd t):kh5 t=some (mkB (tyW t))∧kgj t=some (mkB (tyW t)):=by
 rcases ky5 h with rfl | rfl | rfl | rfl | rfl | rfl | rfl | rfl <;> exact ⟨by kernel_rfl,by kernel_rfl⟩
theorem kxg {l:La} (hv:ValidL l) {i:Int} (h:0≤i∧i<(l.symbols.length:Int)):(kf0 l.symbols i).length≤24:=by
 have:=(k66 hv h).1
 rw [kbu] at this
 exact this.2
theorem k1t {l:La} {i:Int} (h:0≤i∧i<(l.symbols.length:Int)):∃ x,idx l.symbols i=some x∧x.name=mkB (kf0 l.symbols i):=by
 obtain ⟨k,rfl⟩:∃ k:Nat,i=(k:Int):=⟨i.toNat,by omega⟩
 have hk:k<l.symbols.length:=by omega
 exact ⟨l.symbols[k],by rw [kap,List.getElem?_eq_getElem hk],by rw [kow hk,kkf]⟩
theorem ValidL.sym {l:La} (hv:ValidL l) {r:Ru} (hr:r∈l.rules):0≤r.symbol∧r.symbol<(l.symbols.length:Int):=by
 obtain ⟨j,hj,rfl⟩:=qy.1 hr
 exact (hv.valid j hj).1
theorem ValidL.arg {l:La} (hv:ValidL l) {r:Ru} (hr:r∈l.rules):∀ a∈r.args,0≤a∧a<(l.symbols.length:Int):=by
 obtain ⟨j,hj,rfl⟩:=qy.1 hr
 intro a ha
 rcases (hv.valid j hj).2 with q | q | q
 ·rw [q.2.2.2.1] at ha;cases ha
 ·rw [q.2.2.2.1] at ha;cases ha
 ·obtain ⟨_,_,_,o,_,_,q6,_⟩:=q
  obtain ⟨i,hi,rfl⟩:=qy.1 ha
  exact (q6 i hi).1
theorem kwb {l:La} (hl:kiq l) (hv:ValidL l) {r:Ru} (hr:r∈l.rules):r.args.length≤1000:=((kqp hl hv).ruls r hr).few
theorem kzb {l:La} (hl:kiq l) (hv:ValidL l) {r:Ru} (hr:r∈l.rules) (k:Nat):(kd2 [44,32] ((r.args.take k).map (kf0 l.symbols))).length≤26000:=by
 have ha:=kwb hl hv hr
 refine k0s (n:=1000) (B:=26) (fun x hx=>?_) (by rw [q8,qaj];omega)
 obtain ⟨a,h,rfl⟩:=qam.1 hx
 have:=kxg hv (hv.arg hr a (List.mem_of_mem_take h))
 simp only [qk,qq]
 omega
theorem kaep {l:La} (hl:kiq l) (hv:ValidL l) {r:Ru} (hr:r∈l.rules):(rhsT l.symbols r).length≤60000:=by
 have hw:=(kqp hl hv).ruls r hr
 have ok:=hv.okL hl
 unfold rhsT
 split
 ·have h1:=kzb hl hv hr r.args.length
  rw [List.take_length,← ksx] at h1
  have h2:=hw.op
  simp only [qm,qk,qq,ko5]
  omega
 ·rename_i h3
  exact kaba hw fun h1=>(ok.val hr h1 h3).2
theorem k3n {l:La} (hl:kiq l) (hv:ValidL l) {r:Ru} (hr:r∈l.rules):(ruT l.symbols r++[10]).length≤60100:=by
 have h1:=kaep hl hv hr
 have h2:=kxg hv (hv.sym hr)
 unfold ruT kou
 simp only [qm,qk,qq]
 omega
theorem k3y {l:La} (hv:ValidL l) {x:Sy} (hx:x∈l.symbols):(syT x++[10]).length≤50:=by
 obtain ⟨i,hi,rfl⟩:=qy.1 hx
 have h1:=(hv.names i hi).1
 have h2:=(k0b (hv.types i hi)).2
 unfold syT bSym
 simp only [qm,qk,qq,ko5]
 omega
theorem kabx {l:La} (hv:ValidL l) {t:Int} (ht:t∈l.inputs):(32::tyW t).length≤8:=by
 obtain ⟨i,hi,rfl⟩:=qy.1 ht
 have:=(k0b (hv.typs i hi)).2
 simp only [qk]
 omega
def accT (l:La) (k m:Nat):List UInt8:=nmT l.name++(10::(inT l.inputs++(10::(sysT (l.symbols.take k)++rusT l.symbols (l.rules.take m)))))
theorem k2s {l:La} (hl:kiq l) (hv:ValidL l) (k m:Nat):(accT l k m).length≤6000000:=by
 have h1:=hv.name.1
 have h2:=kyc (f:=fun t=>32::tyW t) (B:=8) (l:=l.inputs) fun t ht=>kabx hv ht
 have h3:=ktm (f:=fun x=>syT x++[10]) (B:=50) (fun x hx=>k3y hv hx) hv.sym16 k
 have h4:=ktm (f:=fun r=>ruT l.symbols r++[10]) (B:=60100) (fun r hr=>k3n hl hv hr) hv.rules m
 have h5:=hv.inputs
 have h6:l.inputs.length*8≤32:=by omega
 unfold accT nmT inT sysT rusT ksr bInp
 simp only [qm,qk,qq,ko5]
 omega
theorem k92 {l:La} {k:Nat} (hk:k<l.symbols.length):accT l (k+1) 0=accT l k 0++(syT l.symbols[k]++[10]):=by
 unfold accT
 rw [show rusT l.symbols (l.rules.take 0)=[] from rfl,show sysT (l.symbols.take (k+1))=sysT (l.symbols.take k)++(syT l.symbols[k]++[10]) from ky4 hk]
 simp
theorem kaa9 {l:La} {k m:Nat} (hm:m<l.rules.length):accT l k (m+1)=accT l k m++(ruT l.symbols l.rules[m]++[10]):=by
 unfold accT
 rw [show rusT l.symbols (l.rules.take (m+1))=rusT l.symbols (l.rules.take m)++(ruT l.symbols l.rules[m]++[10]) from ky4 hm]
 simp
theorem kaar (l:La):accT l l.symbols.length l.rules.length=kl6 l:=by
 unfold accT kl6
 rw [List.take_length,List.take_length]
theorem kaer {a b:List UInt8} (h:a.length+b.length≤4000000000):cat (mkB a) (⟨b.toArray⟩:BA)=some (mkB (a++b)):=kfa h
theorem kadk {l:La} (hl:kiq l) (hv:ValidL l) {r:Ru} (hr:r∈l.rules):kaa (kcs l r) fuel (0,([]:List BA))=some ((r.args.map (kf0 l.symbols)).map mkB):=by
 have ha:=kwb hl hv hr
 refine Ev.eq (kkp r.args.length (fun k s=>s=((k:Int),((r.args.take k).map (kf0 l.symbols)).map mkB)) (by omega) rfl (fun k s hk hI=>?_) fun s hI=>?_)
 ·subst hI
  obtain ⟨x,x1,x2⟩:=k1t (hv.arg hr _ (qs hk))
  refine kok (s:=(((k+1:Nat):Int),((r.args.take (k+1)).map (kf0 l.symbols)).map mkB)) ?_ rfl
  rw [List.take_succ_eq_append_getElem hk,List.map_append,List.map_append]
  simp only [kcs,kbk hk,qd,kap,List.getElem?_eq_getElem hk,qa,x1,x2,kho (b:=16) (xs:=((r.args.take k).map (kf0 l.symbols)).map mkB) (ys:=[mkB (kf0 l.symbols r.args[k])]) (by simp only [q8,qaj,qk,qq];omega),knv hk (show r.args.length≤9223372036854775807 by omega)]
  rfl
 ·subst hI
  refine kpo (b:=(r.args.map (kf0 l.symbols)).map mkB) ?_ rfl
  simp only [kcs,kgr,qb,List.take_length]
theorem rhs_p {l:La} (hl:kiq l) (hv:ValidL l) {r:Ru} (hr:r∈l.rules):(bif (r.kind == 3) then (Option.bind (kaa (kcs l r) fuel (0,([]:List (BA)))) fun (v23:(List BA))=>(Option.bind (cat r.op (⟨#[40]⟩:BA)) fun v24=>(Option.bind (strings_Join (v23) ((⟨#[44,32]⟩:BA))) fun v25=>(Option.bind (cat v24 v25) fun v26=>(Option.bind (cat v26 (⟨#[41]⟩:BA)) fun v27=>(some (v27))))))) else (Option.bind (kf5 (r)) fun v28=>(some (v28))))=some (mkB (rhsT l.symbols r)):=by
 have hw:=(kqp hl hv).ruls r hr
 unfold rhsT
 by_cases h3:r.kind=3
 ·have ho:=hw.op
  have ha:=kwb hl hv hr
  have hj:=kzb hl hv hr r.args.length
  rw [List.take_length] at hj
  have hob:=ko5 r.op
  rw [if_pos h3,show (r.kind == 3)=true by rw [h3];rfl,qd,kadk hl hv hr,qa]
  have c1:cat r.op (⟨#[40]⟩:BA)=some (mkB (bsOf r.op++[40])):=by
   have:=kfa (a:=bsOf r.op) (b:=[40]) (by rw [hob];simp;omega)
   rwa [kkf] at this
  rw [c1,qa,show ((⟨#[44,32]⟩:BA))=mkB [44,32] from rfl,k4g (by rw [q8];omega) (by omega),qa,kfa (by simp only [qm,qk,qq];omega),qa,
   kaer (by simp only [qm,qk,qq];omega),qa,ksx]
  simp
 ·rw [if_neg h3,show (r.kind == 3)=false from beq_false_of_ne h3,qb,kagi (hv.okL hl) hr h3]
  rfl
theorem kaf9 (a b c d:List UInt8):kd2 [32] [a,b,c,d]=a++(32::(b++(32::(c++(32::d))))):=by simp [kd2]
theorem kaf8 (a b c:List UInt8):kd2 [32] [a,b,c]=a++(32::(b++(32::c))):=by simp [kd2]
theorem k0m (a b:List UInt8):kd2 [32] [a,b]=a++(32::b):=by simp [kd2]
theorem kaay {l:La} (hl:kiq l):∃ c,kdd l=some c∧(c=0↔ValidL l)∧kdl l=some (if c=0 then (mkB (kl6 l),0) else (⟨#[]⟩,c)):=by
 obtain ⟨c,c1,_,c3,_⟩:=kyz hl
 refine ⟨c,c1,c3,?_⟩
 unfold kdl
 rw [c1,qa]
 by_cases hc:c=0
 ·subst hc
  have hv:=c3.1 rfl
  have hn1:=hv.name.1
  have hnb:=ko5 l.name
  have hin:=hv.inputs
  have h16:=hv.sym16
  have h96:=hv.rules
  rw [if_pos rfl,show ((0:Int) != 0)=false from rfl,qb]
  rw [show ([]:List Int)=iB [] from rfl,kuj (ls:=[ksr,bsOf l.name]) (by simp only [qaf,List.map_nil,kkf];rfl) (by simp) (by rw [k0m];simp only [qm,qk,hnb];unfold ksr;simp only [qk,qq];omega) (by simp),qa]
  have m1:kaa (kdw l) fuel (0,([(⟨#[105,110,112,117,116,115]⟩:BA)]:List (BA)))=some ((bInp::l.inputs.map tyW).map mkB):=by
   refine Ev.eq (kkp l.inputs.length (fun k s=>s=((k:Int),(bInp::(l.inputs.take k).map tyW).map mkB)) (by omega) rfl (fun k s hk hI=>?_) fun s hI=>?_)
   ·subst hI
    refine kok (s:=(((k+1:Nat):Int),(bInp::(l.inputs.take (k+1)).map tyW).map mkB)) ?_ rfl
    rw [List.take_succ_eq_append_getElem hk,List.map_append]
    simp only [kdw,kbk hk,qd,kap,List.getElem?_eq_getElem hk,qa,(k03 (hv.typs k hk)).1,kho (b:=16) (xs:=(bInp::(l.inputs.take k).map tyW).map mkB) (ys:=[mkB (tyW l.inputs[k])]) (by simp only [q8,qaj,qk,qq];omega),knv hk (show l.inputs.length≤9223372036854775807 by omega)]
    simp
   ·subst hI
    refine kpo (b:=(bInp::l.inputs.map tyW).map mkB) ?_ rfl
    simp only [kdw,kgr,qb,List.take_length]
  have hjl:(kd2 [32] (bInp::l.inputs.map tyW)).length≤5*20:=by
   refine k0s (fun x hx=>?_) (by rw [qk,q8];omega)
   rcases qz.1 hx with rfl | hx
   ·decide
   ·obtain ⟨t,ht,rfl⟩:=qam.1 hx
    obtain ⟨i,hi,rfl⟩:=qy.1 ht
    have:=(k0b (hv.typs i hi)).2
    simp only [qk,qq]
    omega
  rw [m1,qa,kuj rfl (by rw [qk,q8];omega) (by omega) (by rw [k0m];simp only [qm,qk,qq,hnb];unfold ksr;simp only [qk,qq];omega),qa]
  have e0:[]++(kd2 [32] [ksr,bsOf l.name]++[10])++(kd2 [32] (bInp::l.inputs.map tyW)++[10])=accT l 0 0:=by
   rw [k0m,kvz,List.flatMap_map]
   unfold accT nmT inT sysT rusT
   simp
  rw [e0]
  have m2:kaa (kdr l) fuel (0,iB (accT l 0 0))=some (iB (accT l l.symbols.length 0)):=by
   refine Ev.eq (kkp l.symbols.length (fun k s=>s=((k:Int),iB (accT l k 0))) (by omega) rfl (fun k s hk hI=>?_) fun s hI=>?_)
   ·subst hI
    refine kok (s:=(((k+1:Nat):Int),iB (accT l (k+1) 0))) ?_ rfl
    have hs:=k3y hv (qs hk)
    have ha:=k2s hl hv k 0
    have ej:kd2 [32] [bSym,bsOf l.symbols[k].name,tyW l.symbols[k].type]=syT l.symbols[k]:=by rw [kaf8];rfl
    rw [qm] at hs
    have ll:=kuj (ls:=[bSym,bsOf l.symbols[k].name,tyW l.symbols[k].type]) (xs:=[(⟨#[115,121,109,98,111,108]⟩:BA),l.symbols[k].name,mkB (tyW l.symbols[k].type)]) (acc:=accT l k 0) (by simp only [qaf,List.map_nil,kkf];rfl) (by simp) (by rw [ej];omega) (by omega)
    simp only [kdr,kbk hk,qd,kap,List.getElem?_eq_getElem hk,qa,(k03 (hv.types k hk)).1,ll,knv hk (show l.symbols.length≤9223372036854775807 by omega)]
    rw [ej,k92 hk]
   ·subst hI
    refine kpo (b:=iB (accT l l.symbols.length 0)) ?_ rfl
    simp only [kdr,kgr,qb]
  rw [m2,qa]
  have m3:kaa (kdy l) fuel (0,iB (accT l l.symbols.length 0))=some (iB (accT l l.symbols.length l.rules.length)):=by
   refine Ev.eq (kkp l.rules.length (fun k s=>s=((k:Int),iB (accT l l.symbols.length k))) (by omega) rfl (fun k s hk hI=>?_) fun s hI=>?_)
   ·subst hI
    refine kok (s:=(((k+1:Nat):Int),iB (accT l l.symbols.length (k+1)))) ?_ rfl
    have hm:=qs hk
    have hs:=k3n hl hv hm
    have ha:=k2s hl hv l.symbols.length k
    obtain ⟨x,x1,x2⟩:=k1t (hv.sym hm)
    have ej:kd2 [32] [kou,kf0 l.symbols l.rules[k].symbol,[61],rhsT l.symbols l.rules[k]]=ruT l.symbols l.rules[k]:=by rw [kaf9];rfl
    rw [qm] at hs
    have ll:=kuj (ls:=[kou,kf0 l.symbols l.rules[k].symbol,[61],rhsT l.symbols l.rules[k]]) (xs:=[(⟨#[114,117,108,101]⟩:BA),mkB (kf0 l.symbols l.rules[k].symbol),(⟨#[61]⟩:BA),mkB (rhsT l.symbols l.rules[k])]) (acc:=accT l l.symbols.length k) (by simp only [qaf,List.map_nil];rfl) (by simp) (by rw [ej];omega) (by omega)
    have rp:=rhs_p hl hv hm
    simp only [kdy,kbk hk,qd,kap,List.getElem?_eq_getElem hk,qa,rp,x1,x2,ll,knv hk (show l.rules.length≤9223372036854775807 by omega)]
    rw [ej,kaa9 hk]
   ·subst hI
    refine kpo (b:=iB (accT l l.symbols.length l.rules.length)) ?_ rfl
    simp only [kdy,kgr,qb]
  rw [m3,qa,kaar,kx8]
  rfl
 ·rw [if_neg hc,show (c != 0)=true by rw [bne_iff_ne];exact hc]
  rfl
end Go.Proofs.YtaimpcnpifoidaaGreatDoor
