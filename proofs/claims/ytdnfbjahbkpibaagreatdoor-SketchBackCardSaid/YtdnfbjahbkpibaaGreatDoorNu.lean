import Derived.Test.YtdnfbjahbkpibaaGreatDoorRj
import Derived.Test.YtdnfbjahbkpibaaGreatDoorEE
set_option linter.all false
set_option maxRecDepth 100000
namespace Go.Proofs.YtdnfbjahbkpibaaGreatDoor
open Go Go.RowKit Go.Proofs Go.Proofs.Tryz
set_option maxHeartbeats 2000000
attribute [local irreducible] NStep StepA kfw kiq LeSt
def nb1 (rr:Dk->Int->Option Bool) (a0:Dk) (a1:Int):Option (Bool):=(Option.bind (rr a0 a1) fun v1=>(some (!v1)))
theorem kall {rr:Dk->Int->Option Bool} (c:∀ a b v,rr a b=some v->PCall prog 29 [eDk a,eI b] (eB v)) (a0:Dk) (a1:Int) (r:Bool) (h:nb1 rr a0 a1=some r):HCall prog 60 ([.fz (eDk (a0))]++[.ref 1 0 0]) [(1,.box 3 [fI (a1)])] [1] (.ret (fB (r))) [(1,.box 3 [fI (a1)])] [1]:=by unfold nb1 at h;refine hcx 0 func60 ?_;intro p0 q0 w0;refine cl 9 h (c _ _) fun v1 h=>?_;obtain rfl:=qs h;exact lh 4 ⟨8,[(3,fB (!v1))],[(0,.was p0 [1] q0 w0),(1,.box 3 [fI (a1)])],[0,1],[]⟩ (le_a (by kernel_rfl)) (hc:=(by kernel_rfl)) (hr:=(by kernel_rfl))
def nbL (rr:Dk->Int->Option Bool) (a0:List Dk) (a1 v1:Int):Option ((Int) ⊕ ((Unit) ⊕ (Int))):=(bif (decide (v1<(List.length a0:Int))) then (Option.bind (idx a0 v1) fun v2=>(Option.bind (nb1 rr (v2) (a1)) fun v3=>(bif v3 then (some (.inr (.inr (v1)))) else (some (.inl (w64 (v1+1))))))) else (some (.inr (.inl ()))))
def nbI (rr:Dk->Int->Option Bool) (a0:List Dk) (a1:Int):Option (Int):=(Option.bind (kab (nbL rr a0 a1) fuel (0)) fun (v4:(Unit) ⊕ (Int))=>Sum.elim (fun v5=>(some (-1))) (fun v6=>(some (v6))) v4)
theorem kajy {rr:Dk->Int->Option Bool} (d:∀ a b v,rr a b=some v->PCall prog 29 [eDk a,eI b] (eB v)) (a0:List Dk) (a1 r:Int) (h:nbI rr a0 a1=some r):HCall prog 93 ([.fz ((eL 3 eDkR) (a0)),.fn 60 [.ref 1 0 0]]++[]) [(1,.box 3 [fI (a1)])] [1] (.ret (fI (r))) [(1,.box 3 [fI (a1)])] [1]:=by
 unfold nbI at h;refine hcx 0 func93 ?_;intro p0 q0 w0;refine lpx 12 (fun v1=>⟨19,[(0,.fz ((eL 3 eDkR) (a0))),(1,.fn 60 [.ref 1 0 0]),(7,fI ((List.length a0:Int))),(8,fI (v1))],[(0,.was p0 [1] q0 w0),(1,.box 3 [fI (a1)])],[0,1],[]⟩) (fun v4 e st=>Sum.elim (fun p=>e = .exit 0/\LeSt st ⟨19,[],[(0,.was p0 [1] q0 w0),(1,.box 3 [fI (a1)])],[0,1],[]⟩) (fun p=>e = .ret/\LeSt st ⟨19,[(4,fI (p))],[(0,.was p0 [1] q0 w0),(1,.box 3 [fI (a1)])],[0,1],[]⟩) v4) h (le_a (by kernel_rfl)) (fun v1 r h=>?_) fun v4 h e st' f=>?_;unfold nbL at h;refine cd 5 h (fun h=>?_) fun h=>?_;refine ix nDkR 13 h fun v2 h=>?_;refine hcl 1 [.one .keep] [(1,1)] [(1,1)] [1] h (kall d _ _) (fun _=>by kernel_rfl) fun v3 h=>?_;refine cd 1 h (fun h=>?_) fun h=>?_;cases h;exact lo 6 (by kernel_rfl);cases h;exact lj 5 (by kernel_rfl);cases h;exact lo 1 (by kernel_rfl);rcases v4 with v5 | v6
 ·(try simp only [qan,qba] at h);obtain ⟨rfl,c⟩:=f
  refine ⟨_,c,?_⟩;obtain rfl:=qs h;exact lh 5 ⟨19,[(4,fI (-1))],[(0,.was p0 [1] q0 w0),(1,.box 3 [fI (a1)])],[0,1],[]⟩ (le_a (by kernel_rfl)) (hc:=(by kernel_rfl)) (hr:=(by kernel_rfl))
 ·(try simp only [qan,qba] at h);obtain ⟨rfl,c⟩:=f
  refine ⟨_,c,?_⟩;obtain rfl:=qs h;exact lh 0 ⟨19,[(4,fI (v6))],[(0,.was p0 [1] q0 w0),(1,.box 3 [fI (a1)])],[0,1],[]⟩ (le_a (by kernel_rfl)) (hc:=(by kernel_rfl)) (hr:=(by kernel_rfl))
def nbC (rr:Dk->Int->Option Bool) (a0:List Dk) (a1:Int):Option (Bool):=(Option.bind (nbI rr (a0) (a1)) fun v1=>(some (decide (0<=v1))))
theorem kaku {rr:Dk->Int->Option Bool} (c:∀ a b v,rr a b=some v->PCall prog 29 [eDk a,eI b] (eB v)) (a0:List Dk) (a1:Int) (r:Bool) (h:nbC rr a0 a1=some r):HCall prog 59 ([.fz ((eL 3 eDkR) (a0)),.fn 60 [.ref 1 0 0]]++[]) [(1,.box 3 [fI (a1)])] [1] (.ret (fB (r))) [(1,.box 3 [fI (a1)])] [1]:=by unfold nbC at h;refine hcx 0 func59 ?_;intro p0 q0 w0;refine hcl 8 [.one .keep, .one .keep] [(1,1)] [(1,1)] [1] h (kajy c _ _) (fun _=>by kernel_rfl) fun v1 h=>?_;obtain rfl:=qs h;exact lh 4 ⟨9,[(4,fB (decide (0<=v1)))],[(0,.was p0 [1] q0 w0),(1,.box 3 [fI (a1)])],[0,1],[]⟩ (le_a (by kernel_rfl)) (hc:=(by kernel_rfl)) (hr:=(by kernel_rfl))
def nbB (rr:Dk->Int->Option Bool) (a0:Dk) (a1:Int):Option (Bool):=(Option.bind ((bif (decide (a0.hole<0)) then (some (true)) else (some (decide (a1<a0.hole)))):Option (Bool)) fun (v2:Bool)=>(bif v2 then (some (false)) else (Option.bind ((bif (decide (0<a0.hole)) then (some (true)) else (Option.bind (nbC rr (a0.args) (a1)) fun v3=>(some (!v3)))):Option (Bool)) fun (v5:Bool)=>(some (v5)))))
theorem kakx {rr:Dk->Int->Option Bool} (c:∀ a b v,rr a b=some v->PCall prog 29 [eDk a,eI b] (eB v)) (a0:Dk) (a1:Int) (r:Bool) (h:nbB rr a0 a1=some r):HCall prog 29 ([.fz (eDk (a0)),fI (a1)]++[]) [] [] (.ret (fB (r))) [] []:=by unfold nbB at h;refine hcx 0 func29 ?_;intro p0 q0 w0;refine jn1 8 .normal (fun v2=>⟨24,[(2,.ref 1 0 0),(3,.ref 2 0 0),(13,fB (v2))],[(0,.was p0 [] q0 w0),(1,.box 37 [fI (a0.rule),fI (a0.hole),.fz ((eL 3 eDkR) (a0.args))]),(2,.box 3 [fI (a1)])],[2,1,0],[]⟩) h (fun v2 h=>?_) fun v2 h=>?_;refine gd 5 h (fun h=>?_) fun h=>?_;cases h;exact lj 6 (by kernel_rfl);cases h;exact lj 6 (by kernel_rfl);refine cd 0 h (fun h=>?_) fun h=>?_;obtain rfl:=qs h;exact lh 5 ⟨24,[(4,fB (false))],[(0,.was p0 [] q0 w0)],[0],[]⟩ (le_a (by kernel_rfl)) (hc:=(by kernel_rfl)) (hr:=(by kernel_rfl));refine jn1 2 .normal (fun v5=>⟨24,[(4,fB (v5))],[(0,.was p0 [] q0 w0)],[0],[]⟩) h (fun v5 h=>?_) fun v5 h=>?_;refine gd 5 h (fun h=>?_) fun h=>?_;cases h;exact lj 8 (by kernel_rfl);refine hcl 3 [.one .keep, .one .keep] [(2,1)] [(1,2)] [1] h (kaku c _ _) (fun _=>by kernel_rfl) fun v3 h=>?_;cases h;exact lj 4 (by kernel_rfl);obtain rfl:=qs h;exact lh 1 ⟨24,[(4,fB (v5))],[(0,.was p0 [] q0 w0)],[0],[]⟩ (le_a (by kernel_rfl)) (hc:=(by kernel_rfl)) (hr:=(by kernel_rfl))
def numB:Nat->Dk->Int->Option Bool
  | 0=>fun _ _=>none
  | n+1=>nbB (numB n)
theorem k7m:∀ (n:Nat) (a:Dk) (b:Int) (v:Bool),numB n a b=some v->PCall prog 29 [eDk a,eI b] (eB v)
  | 0,_,_,_,h=>by cases h
  | n+1,a,b,v,h=>k52 _ _ (kakx (k7m n) a b v h)
def kmx (a0:Dk) (a1:Int):Option Bool:=numB fuel a0 a1
theorem ku2 (a0:Dk) (a1:Int) (r:Bool) (h:kmx a0 a1=some r):PCall prog 29 [eDk a0,eI a1] (eB r):=k7m _ _ _ _ h
end Go.Proofs.YtdnfbjahbkpibaaGreatDoor
