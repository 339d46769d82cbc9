import Derived.Test.YtaimpcnpifoidaaGreatDoorNh
set_option linter.unusedVariables false
set_option linter.unusedSimpArgs false
set_option maxRecDepth 100000
namespace Go.Proofs.YtaimpcnpifoidaaGreatDoor
open Go Go.RowKit
theorem kw0 {α:Type} {f:α→List UInt8} {B:Nat}:∀ {l:List α},(∀ x∈l,(f x).length≤B)→(l.flatMap f).length≤l.length*B
 | [],_=>by simp
 | x::l,h=>by
  have h1:=h x (qo ..)
  have h2:=kw0 (f:=f) (B:=B) (l:=l) fun y hy=>h y (qm _ hy)
  simp only [qao,ql,qi,Nat.add_mul,Nat.one_mul]
  omega
theorem kvt {α:Type} {f:α→List UInt8} {l:List α} {k:Nat} (hk:k<l.length):(l.take (k+1)).flatMap f=(l.take k).flatMap f++f l[k]:=by
 rw [qar hk,List.flatMap_append]
 simp
theorem kqp {α:Type} {f:α→List UInt8} {B n:Nat} {l:List α} (h:∀ x∈l,(f x).length≤B) (hn:l.length≤n) (k:Nat):((l.take k).flatMap f).length≤n*B:=by
 have h1:=kw0 (f:=f) (B:=B) (l:=l.take k) fun x hx=>h x (List.mem_of_mem_take hx)
 have h2:(l.take k).length≤n:=by rw [qak];omega
 exact qau h1 (qa1 B h2)
theorem k15 {w:List UInt8}:∀ {ls:List (List UInt8)},(kcn w ls).length≤(ls.map fun x=>x.length+w.length).sum
 | []=>by simp [kcn]
 | [x]=>by simp [kcn]
 | x::y::l=>by
  have:=k15 (w:=w) (ls:=y::l)
  simp only [kcn,qac,List.sum_cons,ql] at this ⊢
  omega
theorem kaa1 {B:Nat}:∀ {ls:List Nat},(∀ x∈ls,x≤B)→ls.sum≤ls.length*B
 | [],_=>by simp
 | x::l,h=>by
  have h1:=h x (qo ..)
  have h2:=kaa1 (B:=B) (ls:=l) fun y hy=>h y (qm _ hy)
  simp only [List.sum_cons,qi,Nat.add_mul,Nat.one_mul]
  omega
theorem k4n {w:List UInt8} {ls:List (List UInt8)} {B n:Nat} (h:∀ x∈ls,x.length+w.length≤B) (hn:ls.length≤n):(kcn w ls).length≤n*B:=by
 have h1:=k15 (w:=w) (ls:=ls)
 have h2:=kaa1 (B:=B) (ls:=ls.map fun x=>x.length+w.length) fun y hy=>by
  obtain ⟨x,hx,rfl⟩:=qam.1 hy
  exact h x hx
 rw [qaa] at h2
 exact qau h1 (qau h2 (qa1 B hn))
theorem k3d (w:List UInt8):∀ ls:List (List UInt8),Lib.join ls w=kcn w ls
 | []=>rfl
 | [x]=>Lib.join_one x w
 | x::y::l=>by
  have h:=k3d w (y::l)
  rw [kcn,← h]
  unfold Lib.join
  simp [List.intercalate,List.intersperse]
theorem k6w {w:List UInt8} {ls:List (List UInt8)} (h1:ls.length≤1000000) (h2:(kcn w ls).length≤1000000000):strings_Join (ls.map mkB) (mkB w)=some (mkB (kcn w ls)):=by
 have e:ks7 (ls.map mkB) (mkB w)=mkB (kcn w ls):=by
  unfold ks7
  rw [kbh,List.map_map,show ((fun x:BA=>x.data.toList) ∘ mkB)=id from funext fun l=>kbh l,List.map_id,k3d]
  rfl
 unfold strings_Join
 rw [e,kbm,qaa,if_pos ⟨by omega,by omega⟩]
theorem kwd {ls:List (List UInt8)} {xs:List BA} {acc:List UInt8} (hx:xs=ls.map mkB) (h1:ls.length≤1000000) (h2:(kcn [32] ls).length≤1000000000) (h3:acc.length≤4000000000):kb5 xs (iB acc)=some (iB (acc++(kcn [32] ls++[10]))):=by
 subst hx
 unfold kb5
 rw [show ((⟨#[32]⟩:BA))=mkB [32] from rfl,k6w h1 h2,qa,show ((⟨#[10]⟩:BA))=mkB [10] from rfl,kcb (by simp only [qi,qn];omega),qa,
  knw rfl h3 (by simp only [ql,qi,qn];omega)]
 rfl
theorem kvq {t:Int} (h:kin t):ki1 t=some (mkB (tyW t))∧kew t=some (mkB (tyW t)):=by
 rcases kv2 h with rfl | rfl | rfl | rfl | rfl | rfl | rfl | rfl <;> exact ⟨by kernel_rfl,by kernel_rfl⟩
theorem kpx {l:La} (hv:ValidL l) {i:Int} (h:0≤i∧i<(l.symbols.length:Int)):(kb1 l.symbols i).length≤24:=by
 have:=(kvl hv h).1
 rw [kbm] at this
 exact this.2
theorem kuw {l:La} {i:Int} (h:0≤i∧i<(l.symbols.length:Int)):∃ x,idx l.symbols i=some x∧x.name=mkB (kb1 l.symbols i):=by
 obtain ⟨k,rfl⟩:∃ k:Nat,i=(k:Int):=⟨i.toNat,by omega⟩
 have hk:k<l.symbols.length:=by omega
 exact ⟨l.symbols[k],by rw [kal,List.getElem?_eq_getElem hk],by rw [klu hk,kfw]⟩
theorem ValidL.sym {l:La} (hv:ValidL l) {r:Ru} (hr:r∈l.rules):0≤r.symbol∧r.symbol<(l.symbols.length:Int):=by
 obtain ⟨j,hj,rfl⟩:=qu.1 hr
 exact (hv.valid j hj).1
theorem ValidL.arg {l:La} (hv:ValidL l) {r:Ru} (hr:r∈l.rules):∀ a∈r.args,0≤a∧a<(l.symbols.length:Int):=by
 obtain ⟨j,hj,rfl⟩:=qu.1 hr
 intro a ha
 rcases (hv.valid j hj).2 with q | q | q
 ·rw [q.2.2.2.1] at ha;cases ha
 ·rw [q.2.2.2.1] at ha;cases ha
 ·obtain ⟨_,_,_,o,_,_,q6,_⟩:=q
  obtain ⟨i,hi,rfl⟩:=qu.1 ha
  exact (q6 i hi).1
theorem ktq {l:La} (hl:kga l) (hv:ValidL l) {r:Ru} (hr:r∈l.rules):r.args.length≤1000:=((ko2 hl hv).ruls r hr).few
theorem krv {l:La} (hl:kga l) (hv:ValidL l) {r:Ru} (hr:r∈l.rules) (k:Nat):(kcn [44,32] ((r.args.take k).map (kb1 l.symbols))).length≤26000:=by
 have ha:=ktq hl hv hr
 refine k4n (n:=1000) (B:=26) (fun x hx=>?_) (by rw [qaa,qak];omega)
 obtain ⟨a,h,rfl⟩:=qam.1 hx
 have:=kpx hv (hv.arg hr a (List.mem_of_mem_take h))
 simp only [qi,qn]
 omega
theorem k60 {l:La} (hl:kga l) (hv:ValidL l) {r:Ru} (hr:r∈l.rules):(rhsT l.symbols r).length≤60000:=by
 have hw:=(ko2 hl hv).ruls r hr
 have ok:=hv.okL hl
 unfold rhsT
 split
 ·have h1:=krv hl hv hr r.args.length
  rw [qas,← klk] at h1
  have h2:=hw.op
  simp only [ql,qi,qn,kkk]
  omega
 ·rename_i h3
  exact k3w hw fun h1=>(ok.val hr h1 h3).2
theorem k6q {l:La} (hl:kga l) (hv:ValidL l) {r:Ru} (hr:r∈l.rules):(ruT l.symbols r++[10]).length≤60100:=by
 have h1:=k60 hl hv hr
 have h2:=kpx hv (hv.sym hr)
 unfold ruT kmj
 simp only [ql,qi,qn]
 omega
theorem k0m {l:La} (hv:ValidL l) {x:Sy} (hx:x∈l.symbols):(syT x++[10]).length≤50:=by
 obtain ⟨i,hi,rfl⟩:=qu.1 hx
 have h1:=(hv.names i hi).1
 have h2:=(k20 (hv.types i hi)).2
 unfold syT bSym
 simp only [ql,qi,qn,kkk]
 omega
theorem kts {l:La} (hv:ValidL l) {t:Int} (ht:t∈l.inputs):(32::tyW t).length≤8:=by
 obtain ⟨i,hi,rfl⟩:=qu.1 ht
 have:=(k20 (hv.typs i hi)).2
 simp only [qi]
 omega
theorem kajf {l:La} (hl:kga l) (hv:ValidL l) {i:Nat} (hi:i<l.rules.length) (h3:l.rules[i].kind≠3):kd8 fuel l (Tm.mk (i:Int) [])=some (mkB (kk3 l.rules[i])):=by
 have ok:=hv.okL hl
 have e:ker l (i:Int)=l.rules[i]:=by unfold ker;rw [show ((i:Int).toNat)=i from rfl,List.getD_eq_getElem?_getD,List.getElem?_eq_getElem hi];rfl
 have hok:OkT l (Tm.mk (i:Int) []) := .mk (by omega) (by omega) (fun h=>absurd (e ▸ h) h3) (by simp)
 have hs:(Tm.mk (i:Int) []).size=1:=rfl
 rw [k6c ok fuel _ (by rw [hs];exact Nat.le_of_lt (kec (by omega))) (by omega) hok]
 unfold txT
 rw [e,if_neg h3]
def accT (l:La) (k m:Nat):List UInt8:=nmT l.name++(10::(inT l.inputs++(10::(sysT (l.symbols.take k)++rusT l.symbols (l.rules.take m)))))
theorem kt1 {l:La} (hl:kga l) (hv:ValidL l) (k m:Nat):(accT l k m).length≤6000000:=by
 have h1:=hv.name.1
 have h2:=kw0 (f:=fun t=>32::tyW t) (B:=8) (l:=l.inputs) fun t ht=>kts hv ht
 have h3:=kqp (f:=fun x=>syT x++[10]) (B:=50) (fun x hx=>k0m hv hx) hv.sym16 k
 have h4:=kqp (f:=fun r=>ruT l.symbols r++[10]) (B:=60100) (fun r hr=>k6q hl hv hr) hv.rules m
 have h5:=hv.inputs
 have h6:l.inputs.length*8≤32:=by omega
 unfold accT nmT inT sysT rusT kr6 bInp
 simp only [ql,qi,qn,kkk]
 omega
theorem k4x {l:La} {k:Nat} (hk:k<l.symbols.length):accT l (k+1) 0=accT l k 0++(syT l.symbols[k]++[10]):=by
 unfold accT
 rw [show rusT l.symbols (l.rules.take 0)=[] from rfl,show sysT (l.symbols.take (k+1))=sysT (l.symbols.take k)++(syT l.symbols[k]++[10]) from kvt hk]
 simp
theorem k4b {l:La} {k m:Nat} (hm:m<l.rules.length):accT l k (m+1)=accT l k m++(ruT l.symbols l.rules[m]++[10]):=by
 unfold accT
 rw [show rusT l.symbols (l.rules.take (m+1))=rusT l.symbols (l.rules.take m)++(ruT l.symbols l.rules[m]++[10]) from kvt hm]
 simp
theorem k3o (l:La):accT l l.symbols.length l.rules.length=kj0 l:=by
 unfold accT kj0
 rw [qas,qas]
theorem klp {a:List UInt8} {s:BA} {b:List UInt8} (hs:s=mkB b) (h:a.length+b.length≤4000000000):cat (mkB a) s=some (mkB (a++b)):=by subst hs;exact kcb h
theorem kn9 {a b:List UInt8} (h:a.length+b.length≤4000000000):cat (mkB a) (⟨b.toArray⟩:BA)=some (mkB (a++b)):=kcb h
theorem kah1 {l:La} (hl:kga l) (hv:ValidL l) {r:Ru} (hr:r∈l.rules):kaa (kc6 l r) fuel (0,([]:List BA))=some ((r.args.map (kb1 l.symbols)).map mkB):=by
 have ha:=ktq hl hv hr
 refine Ev.eq (kh2 r.args.length (fun k s=>s=((k:Int),((r.args.take k).map (kb1 l.symbols)).map mkB)) (by omega) rfl (fun k s hk hI=>?_) fun s hI=>?_)
 ·subst hI
  obtain ⟨x,x1,x2⟩:=kuw (hv.arg hr _ (qr hk))
  refine kk2 (s:=(((k+1:Nat):Int),((r.args.take (k+1)).map (kb1 l.symbols)).map mkB)) ?_ rfl
  rw [qar hk,List.map_append,List.map_append]
  simp only [kc6,kbe hk,qd,kal,List.getElem?_eq_getElem hk,qa,x1,x2,kil (b:=16) (xs:=((r.args.take k).map (kb1 l.symbols)).map mkB) (ys:=[mkB (kb1 l.symbols r.args[k])]) (by simp only [qaa,qak,qi,qn];omega),kjq hk (show r.args.length≤9223372036854775807 by omega)]
  rfl
 ·subst hI
  refine kkp (b:=(r.args.map (kb1 l.symbols)).map mkB) ?_ rfl
  simp only [kc6,ket,qb,qas]
theorem rhs_p {l:La} (hl:kga l) (hv:ValidL l) {r:Ru} (hr:r∈l.rules):(bif (r.kind == 3) then (Option.bind (kaa (kc6 l r) fuel (0,([]:List (BA)))) fun (v23:(List BA))=>(Option.bind (cat r.op (⟨#[40]⟩:BA)) fun v24=>(Option.bind (strings_Join (v23) ((⟨#[44,32]⟩:BA))) fun v25=>(Option.bind (cat v24 v25) fun v26=>(Option.bind (cat v26 (⟨#[41]⟩:BA)) fun v27=>(some (v27))))))) else (Option.bind (kgx (r)) fun v28=>(some (v28))))=some (mkB (rhsT l.symbols r)):=by
 have hw:=(ko2 hl hv).ruls r hr
 unfold rhsT
 by_cases h3:r.kind=3
 ·have ho:=hw.op
  have ha:=ktq hl hv hr
  have hj:=krv hl hv hr r.args.length
  rw [qas] at hj
  have hob:=kkk r.op
  rw [if_pos h3,show (r.kind == 3)=true by rw [h3];rfl,qd,kah1 hl hv hr,qa]
  have c1:cat r.op (⟨#[40]⟩:BA)=some (mkB (bsOf r.op++[40])):=by
   have:=kcb (a:=bsOf r.op) (b:=[40]) (by rw [hob];simp;omega)
   rwa [kfw] at this
  rw [c1,qa,show ((⟨#[44,32]⟩:BA))=mkB [44,32] from rfl,k6w (by rw [qaa];omega) (by omega),qa,kcb (by simp only [ql,qi,qn];omega),qa,
   kn9 (by simp only [ql,qi,qn];omega),qa,klk]
  simp
 ·rw [if_neg h3,show (r.kind == 3)=false from beq_false_of_ne h3,qb,kakh (hv.okL hl) hr h3]
  rfl
theorem kaj3 (a b c d:List UInt8):kcn [32] [a,b,c,d]=a++(32::(b++(32::(c++(32::d))))):=by simp [kcn]
theorem kajz (a b c:List UInt8):kcn [32] [a,b,c]=a++(32::(b++(32::c))):=by simp [kcn]
theorem k3j (a b:List UInt8):kcn [32] [a,b]=a++(32::b):=by simp [kcn]
theorem kado {l:La} (hl:kga l):∃ c,kdu l=some c∧(c=0↔ValidL l)∧kd2 l=some (if c=0 then (mkB (kj0 l),0) else (⟨#[]⟩,c)):=by
 obtain ⟨c,c1,_,c3,_⟩:=kvs hl
 refine ⟨c,c1,c3,?_⟩
 unfold kd2
 rw [c1,qa]
 by_cases hc:c=0
 ·subst hc
  have hv:=c3.1 rfl
  have hn1:=hv.name.1
  have hnb:=kkk l.name
  have hin:=hv.inputs
  have h16:=hv.sym16
  have h96:=hv.rules
  rw [if_pos rfl,show ((0:Int) != 0)=false from rfl,qb]
  rw [show ([]:List Int)=iB [] from rfl,kwd (ls:=[kr6,bsOf l.name]) (by simp only [qac,List.map_nil,kfw];rfl) (by simp) (by rw [k3j];simp only [ql,qi,hnb];unfold kr6;simp only [qi,qn];omega) (by simp),qa]
  have m1:kaa (kem l) fuel (0,([(⟨#[105,110,112,117,116,115]⟩:BA)]:List (BA)))=some ((bInp::l.inputs.map tyW).map mkB):=by
   refine Ev.eq (kh2 l.inputs.length (fun k s=>s=((k:Int),(bInp::(l.inputs.take k).map tyW).map mkB)) (by omega) rfl (fun k s hk hI=>?_) fun s hI=>?_)
   ·subst hI
    refine kk2 (s:=(((k+1:Nat):Int),(bInp::(l.inputs.take (k+1)).map tyW).map mkB)) ?_ rfl
    rw [qar hk,List.map_append]
    simp only [kem,kbe hk,qd,kal,List.getElem?_eq_getElem hk,qa,(kvq (hv.typs k hk)).1,kil (b:=16) (xs:=(bInp::(l.inputs.take k).map tyW).map mkB) (ys:=[mkB (tyW l.inputs[k])]) (by simp only [qaa,qak,qi,qn];omega),kjq hk (show l.inputs.length≤9223372036854775807 by omega)]
    simp
   ·subst hI
    refine kkp (b:=(bInp::l.inputs.map tyW).map mkB) ?_ rfl
    simp only [kem,ket,qb,qas]
  have hjl:(kcn [32] (bInp::l.inputs.map tyW)).length≤5*20:=by
   refine k4n (fun x hx=>?_) (by rw [qi,qaa];omega)
   rcases qs.1 hx with rfl | hx
   ·decide
   ·obtain ⟨t,ht,rfl⟩:=qam.1 hx
    obtain ⟨i,hi,rfl⟩:=qu.1 ht
    have:=(k20 (hv.typs i hi)).2
    simp only [qi,qn]
    omega
  rw [m1,qa,kwd rfl (by rw [qi,qaa];omega) (by omega) (by rw [k3j];simp only [ql,qi,qn,hnb];unfold kr6;simp only [qi,qn];omega),qa]
  have e0:[]++(kcn [32] [kr6,bsOf l.name]++[10])++(kcn [32] (bInp::l.inputs.map tyW)++[10])=accT l 0 0:=by
   rw [k3j,ktr,List.flatMap_map]
   unfold accT nmT inT sysT rusT
   simp
  rw [e0]
  have m2:kaa (kee l) fuel (0,iB (accT l 0 0))=some (iB (accT l l.symbols.length 0)):=by
   refine Ev.eq (kh2 l.symbols.length (fun k s=>s=((k:Int),iB (accT l k 0))) (by omega) rfl (fun k s hk hI=>?_) fun s hI=>?_)
   ·subst hI
    refine kk2 (s:=(((k+1:Nat):Int),iB (accT l (k+1) 0))) ?_ rfl
    have hs:=k0m hv (qr hk)
    have ha:=kt1 hl hv k 0
    have ej:kcn [32] [bSym,bsOf l.symbols[k].name,tyW l.symbols[k].type]=syT l.symbols[k]:=by rw [kajz];rfl
    rw [ql] at hs
    have ll:=kwd (ls:=[bSym,bsOf l.symbols[k].name,tyW l.symbols[k].type]) (xs:=[(⟨#[115,121,109,98,111,108]⟩:BA),l.symbols[k].name,mkB (tyW l.symbols[k].type)]) (acc:=accT l k 0) (by simp only [qac,List.map_nil,kfw];rfl) (by simp) (by rw [ej];omega) (by omega)
    simp only [kee,kbe hk,qd,kal,List.getElem?_eq_getElem hk,qa,(kvq (hv.types k hk)).1,ll,kjq hk (show l.symbols.length≤9223372036854775807 by omega)]
    rw [ej,k4x hk]
   ·subst hI
    refine kkp (b:=iB (accT l l.symbols.length 0)) ?_ rfl
    simp only [kee,ket,qb]
  rw [m2,qa]
  have m3:kaa (kei l) fuel (0,iB (accT l l.symbols.length 0))=some (iB (accT l l.symbols.length l.rules.length)):=by
   refine Ev.eq (kh2 l.rules.length (fun k s=>s=((k:Int),iB (accT l l.symbols.length k))) (by omega) rfl (fun k s hk hI=>?_) fun s hI=>?_)
   ·subst hI
    refine kk2 (s:=(((k+1:Nat):Int),iB (accT l l.symbols.length (k+1)))) ?_ rfl
    have hm:=qr hk
    have hs:=k6q hl hv hm
    have ha:=kt1 hl hv l.symbols.length k
    obtain ⟨x,x1,x2⟩:=kuw (hv.sym hm)
    have ej:kcn [32] [kmj,kb1 l.symbols l.rules[k].symbol,[61],rhsT l.symbols l.rules[k]]=ruT l.symbols l.rules[k]:=by rw [kaj3];rfl
    rw [ql] at hs
    have ll:=kwd (ls:=[kmj,kb1 l.symbols l.rules[k].symbol,[61],rhsT l.symbols l.rules[k]]) (xs:=[(⟨#[114,117,108,101]⟩:BA),mkB (kb1 l.symbols l.rules[k].symbol),(⟨#[61]⟩:BA),mkB (rhsT l.symbols l.rules[k])]) (acc:=accT l l.symbols.length k) (by simp only [qac,List.map_nil];rfl) (by simp) (by rw [ej];omega) (by omega)
    have rp:=rhs_p hl hv hm
    simp only [kei,kbe hk,qd,kal,List.getElem?_eq_getElem hk,qa,rp,x1,x2,ll,kjq hk (show l.rules.length≤9223372036854775807 by omega)]
    rw [ej,k4b hk]
   ·subst hI
    refine kkp (b:=iB (accT l l.symbols.length l.rules.length)) ?_ rfl
    simp only [kei,ket,qb]
  rw [m3,qa,k3o,k0w]
  rfl
 ·rw [if_neg hc,show (c != 0)=true by rw [qa0];exact hc]
  rfl
theorem kah0 {l:La} (hl:kga l) (hv:ValidL l) {r:Ru} (hr:r∈l.rules) {a:List UInt8} (ha0:a.length≤2000000000):kaa (kdo l r) fuel (mkB a,0)=some (mkB (a++kcn [44,32] (r.args.map (kb1 l.symbols)))):=by
 have ha:=ktq hl hv hr
 refine Ev.eq (kh2 r.args.length (fun k s=>s=(mkB (a++kcn [44,32] ((r.args.take k).map (kb1 l.symbols))),(k:Int))) (by omega) (by simp [kcn]) (fun k s hk hI=>?_) fun s hI=>?_)
 ·subst hI
  obtain ⟨x,x1,x2⟩:=kuw (hv.arg hr _ (qr hk))
  have hj:=krv hl hv hr k
  have hn:=kpx hv (hv.arg hr _ (qr hk))
  refine kk2 (s:=(mkB (a++kcn [44,32] ((r.args.take (k+1)).map (kb1 l.symbols))),((k+1:Nat):Int))) ?_ rfl
  rw [qar hk,List.map_append]
  simp only [kdo,kbe hk,qd,kal,List.getElem?_eq_getElem hk,qa,x1,x2,kjq hk (show r.args.length≤9223372036854775807 by omega),qac,List.map_nil]
  by_cases hk0:k=0
  ·subst hk0
   rw [show decide ((0:Int)<((0:Nat):Int))=false from rfl,qb,qa,kcb (by simp only [ql];omega)]
   simp [kcn]
  ·rw [show decide ((0:Int)<((k:Nat):Int))=true from qf (by omega),qd,kn9 (by simp only [ql,qi,qn];omega),qa,qa,
    kcb (by simp only [ql,qi,qn];omega),qa]
   have hne:(r.args.take k).map (kb1 l.symbols)≠[]:=fun e=>by
    have:=congrArg List.length e
    rw [qaa,qak,qn] at this
    omega
   rw [← klk,← klk,ktg _ _ hne]
   simp
 ·subst hI
  refine kkp (b:=mkB (a++kcn [44,32] (r.args.map (kb1 l.symbols)))) ?_ rfl
  simp only [kdo,ket,qb,qas]
theorem kaku {l:La} (hl:kga l) (hv:ValidL l) {k:Nat} (hk:k<l.rules.length) {a:List UInt8} (ha0:a.length≤1000000000):kch l (mkB a,(k:Int))=some (.inl (mkB (a++(ruT l.symbols l.rules[k]++[10])),((k+1:Nat):Int))):=by
 have hr:=qr hk
 have hn:=kpx hv (hv.sym hr)
 have hrl:=k60 hl hv hr
 have h96:=hv.rules
 have ho:=((ko2 hl hv).ruls _ hr).op
 have hob:=kkk l.rules[k].op
 obtain ⟨x,x1,x2⟩:=kuw (hv.sym hr)
 have c1:=klp (a:=a) (b:=[114,117,108,101,32]) (s:=⟨#[114,117,108,101,32]⟩) rfl (by simp only [qi,qn];omega)
 have c2:=kcb (a:=a++[114,117,108,101,32]) (b:=kb1 l.symbols l.rules[k].symbol) (by simp only [ql,qi,qn];omega)
 have c3:=klp (a:=a++[114,117,108,101,32]++kb1 l.symbols l.rules[k].symbol) (b:=[32,61,32]) (s:=⟨#[32,61,32]⟩) rfl (by simp only [ql,qi,qn];omega)
 have eb:a++[114,117,108,101,32]++kb1 l.symbols l.rules[k].symbol++[32,61,32]++rhsT l.symbols l.rules[k]++[10]=a++(ruT l.symbols l.rules[k]++[10]):=by unfold ruT kmj;simp
 simp only [kch,kbe hk,qd,kal,List.getElem?_eq_getElem hk,qa,c1,x1,x2,c2,c3,kjq hk (show l.rules.length≤9223372036854775807 by omega)]
 by_cases h3:l.rules[k].kind=3
 ·rw [show (l.rules[k].kind != 3)=false by rw [h3];rfl,qb]
  have hj:=krv hl hv hr l.rules[k].args.length
  rw [qas] at hj
  have c4:cat (mkB (a++[114,117,108,101,32]++kb1 l.symbols l.rules[k].symbol++[32,61,32])) l.rules[k].op=some (mkB (a++[114,117,108,101,32]++kb1 l.symbols l.rules[k].symbol++[32,61,32]++bsOf l.rules[k].op)):=klp (kfw _).symm (by simp only [ql,qi,qn];omega)
  rw [c4,qa,kn9 (by simp only [ql,qi,qn];omega),qa,kah0 hl hv hr (by simp only [ql,qi,qn];omega),qa,
   kn9 (by simp only [ql,qi,qn];omega),qa,qa,qg,qa]
  rw [← eb]
  unfold rhsT
  rw [if_pos h3,klk]
  simp
 ·rw [show (l.rules[k].kind != 3)=true by rw [qa0];exact h3,qd,kajf hl hv hk h3,qa]
  have e:rhsT l.symbols l.rules[k]=kk3 l.rules[k]:=by unfold rhsT;rw [if_neg h3]
  rw [e] at hrl eb
  rw [kcb (by simp only [ql,qi,qn];omega),qa,kn9 (by simp only [ql,qi,qn];omega),qa,qa,qh,qa,eb]
theorem kadg {l:La} (hl:kga l):∃ c,kcc l=some c∧(c=0↔ValidL l)∧kef l=some (if c=0 then (mkB (kj0 l),0) else (⟨#[]⟩,c)):=by
 obtain ⟨c,_,c1,c3,_⟩:=kvs hl
 refine ⟨c,c1,c3,?_⟩
 unfold kef
 rw [c1,qa]
 by_cases hc:c=0
 ·subst hc
  have hv:=c3.1 rfl
  have hn1:=hv.name.1
  have hnb:=kkk l.name
  have hin:=hv.inputs
  have h16:=hv.sym16
  have h96:=hv.rules
  rw [if_pos rfl,show ((0:Int) != 0)=false from rfl,qb]
  have c2:cat (⟨#[108,97,110,103,117,97,103,101,32]⟩:BA) l.name=some (mkB (nmT l.name)):=by
   have:=klp (a:=[108,97,110,103,117,97,103,101,32]) (s:=l.name) (kfw _).symm (by rw [hnb];simp only [qi,qn];omega)
   exact this
  have hnl:(nmT l.name).length≤33:=by unfold nmT kr6;simp only [ql,qi,qn,hnb];omega
  rw [c2,qa,kn9 (by simp only [qi,qn];omega),qa]
  have m1:kaa (kdn l) fuel (mkB (nmT l.name++(10::bInp)),0)=some (mkB (nmT l.name++(10::inT l.inputs))):=by
   refine Ev.eq (kh2 l.inputs.length (fun k s=>s=(mkB (nmT l.name++(10::inT (l.inputs.take k))),(k:Int))) (by omega) (by simp [inT]) (fun k s hk hI=>?_) fun s hI=>?_)
   ·subst hI
    refine kk2 (s:=(mkB (nmT l.name++(10::inT (l.inputs.take (k+1)))),((k+1:Nat):Int))) ?_ rfl
    have h2:=kqp (f:=fun t=>32::tyW t) (B:=8) (l:=l.inputs) (fun t ht=>kts hv ht) hin k
    have h3:=kts hv (qr hk)
    have e2:nmT l.name++(10::inT (l.inputs.take k))++[32]++tyW l.inputs[k]=nmT l.name++(10::inT (l.inputs.take (k+1))):=by
     unfold inT
     rw [kvt hk]
     simp
    have hlen:(nmT l.name++(10::inT (l.inputs.take k))).length≤100:=by unfold inT bInp;simp only [ql,qi,qn];omega
    simp only [qi] at h3
    simp only [kdn,kbe hk,qd,kal,List.getElem?_eq_getElem hk,qa,klp (a:=nmT l.name++(10::inT (l.inputs.take k))) (b:=[32]) (s:=⟨#[32]⟩) rfl (by simp only [qi,qn];omega),(kvq (hv.typs k hk)).2,
     kcb (a:=nmT l.name++(10::inT (l.inputs.take k))++[32]) (b:=tyW l.inputs[k]) (by rw [ql];simp only [qi,qn];omega),kjq hk (show l.inputs.length≤9223372036854775807 by omega),e2]
   ·subst hI
    refine kkp (b:=mkB (nmT l.name++(10::inT l.inputs))) ?_ rfl
    simp only [kdn,ket,qb,qas]
  have hil:(nmT l.name++(10::inT l.inputs)).length≤100:=by
   have h2:=kw0 (f:=fun t=>32::tyW t) (B:=8) (l:=l.inputs) fun t ht=>kts hv ht
   unfold inT bInp;simp only [ql,qi,qn];omega
  have e0:nmT l.name++(10::inT l.inputs)++[10]=accT l 0 0:=by unfold accT sysT rusT;simp
  rw [show nmT l.name++[10,105,110,112,117,116,115]=nmT l.name++(10::bInp) from rfl,m1,qa,kn9 (by simp only [qi,qn];omega),qa,e0]
  have m2:kaa (kdl l) fuel (mkB (accT l 0 0),0)=some (mkB (accT l l.symbols.length 0)):=by
   refine Ev.eq (kh2 l.symbols.length (fun k s=>s=(mkB (accT l k 0),(k:Int))) (by omega) rfl (fun k s hk hI=>?_) fun s hI=>?_)
   ·subst hI
    refine kk2 (s:=(mkB (accT l (k+1) 0),((k+1:Nat):Int))) ?_ rfl
    have hs:=k0m hv (qr hk)
    have ha:=kt1 hl hv k 0
    have e2:accT l k 0++[115,121,109,98,111,108,32]++bsOf l.symbols[k].name++[32]++tyW l.symbols[k].type++[10]=accT l (k+1) 0:=by rw [k4x hk];unfold syT bSym;simp
    unfold syT bSym at hs
    simp only [ql,qi,qn] at hs
    have c3:cat (mkB (accT l k 0++[115,121,109,98,111,108,32])) l.symbols[k].name=some (mkB (accT l k 0++[115,121,109,98,111,108,32]++bsOf l.symbols[k].name)):=klp (kfw _).symm (by simp only [ql,qi,qn];omega)
    simp only [kdl,kbe hk,qd,kal,List.getElem?_eq_getElem hk,qa,klp (a:=accT l k 0) (b:=[115,121,109,98,111,108,32]) (s:=⟨#[115,121,109,98,111,108,32]⟩) rfl (by simp only [qi,qn];omega),c3,
     klp (a:=accT l k 0++[115,121,109,98,111,108,32]++bsOf l.symbols[k].name) (b:=[32]) (s:=⟨#[32]⟩) rfl (by simp only [ql,qi,qn];omega),(kvq (hv.types k hk)).2,
     kcb (a:=accT l k 0++[115,121,109,98,111,108,32]++bsOf l.symbols[k].name++[32]) (b:=tyW l.symbols[k].type) (by simp only [ql,qi,qn];omega),
     klp (a:=accT l k 0++[115,121,109,98,111,108,32]++bsOf l.symbols[k].name++[32]++tyW l.symbols[k].type) (b:=[10]) (s:=⟨#[10]⟩) rfl (by simp only [ql,qi,qn];omega),kjq hk (show l.symbols.length≤9223372036854775807 by omega),e2]
   ·subst hI
    refine kkp (b:=mkB (accT l l.symbols.length 0)) ?_ rfl
    simp only [kdl,ket,qb]
  rw [m2,qa]
  have m3:kaa (kch l) fuel (mkB (accT l l.symbols.length 0),0)=some (mkB (accT l l.symbols.length l.rules.length)):=by
   refine Ev.eq (kh2 l.rules.length (fun k s=>s=(mkB (accT l l.symbols.length k),(k:Int))) (by omega) rfl (fun k s hk hI=>?_) fun s hI=>?_)
   ·subst hI
    refine kk2 (s:=(mkB (accT l l.symbols.length (k+1)),((k+1:Nat):Int))) ?_ rfl
    have ha:=kt1 hl hv l.symbols.length k
    rw [kaku hl hv hk (by omega),k4b hk]
   ·subst hI
    refine kkp (b:=mkB (accT l l.symbols.length l.rules.length)) ?_ rfl
    simp only [kch,ket,qb]
  rw [m3,qa,k3o]
 ·rw [if_neg hc,show (c != 0)=true by rw [qa0];exact hc]
  rfl
end Go.Proofs.YtaimpcnpifoidaaGreatDoor
