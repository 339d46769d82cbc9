import Derived.Test.YtpnnpkmjohkgiaaGreatDoorTT
set_option linter.all false
set_option maxRecDepth 100000
namespace Go.Proofs.YtpnnpkmjohkgiaaGreatDoor
open Go Go.RowKit Go.Proofs
set_option maxHeartbeats 2000000
attribute [local irreducible] NStep StepA kfg LeSt
def kdk (a0 a1:Int):Option (Int):=(bif (decide (a0<a1)) then (some (-1)) else (bif (decide (a1<a0)) then (some 1) else (some 0)))
theorem khl (a0 a1 r:Int) (h:kdk a0 a1=some r):PCall Tryz.prog 68 [eI a0,eI a1] (eI (r)):=by unfold kdk at h;refine pcl [.one .keep] Tryz.func68 (by kernel_rfl) (by kernel_rfl) (by kernel_rfl) ?_;refine cd 11 h (by kernel_rfl) (fun h=>?_) fun h=>?_;cases h;exact lq 5 (by kernel_rfl);refine cd 8 h (by kernel_rfl) (fun h=>?_) fun h=>?_;cases h;exact lq 5 (by kernel_rfl);cases h;exact lq 6 (by kernel_rfl)
def ka4 (a0 a1:List Int) (v1:Int):Option ((Int) ⊕ ((Unit) ⊕ (Int))):=(Option.bind ((bif (decide (v1<(List.length a0:Int))) then (some (decide (v1<(List.length a1:Int)))) else (some (false))):Option (Bool)) fun (v3:Bool)=>(bif v3 then (Option.bind (idx a0 v1) fun v4=>(Option.bind (idx a1 v1) fun v5=>(bif (decide (v4<v5)) then (some (.inr (.inr (-1)))) else (Option.bind (idx a0 v1) fun v6=>(Option.bind (idx a1 v1) fun v7=>(bif (decide (v7<v6)) then (some (.inr (.inr 1))) else (some (.inl (w64 (v1+1)))))))))) else (some (.inr (.inl ())))))
def kaz (a0 a1:List Int):Option (Int):=(Option.bind (kah (ka4 a0 a1) fuel (0)) fun (v8:(Unit) ⊕ (Int))=>Sum.elim (fun v9=>(Option.bind (kdk ((List.length a0:Int)) ((List.length a1:Int))) fun v10=>(some v10))) (fun v11=>(some v11)) v8)
theorem kbp (a0 a1:List Int) (r:Int) (h:kaz a0 a1=some r):PCall Tryz.prog 58 [(eL 1 eI) a0,(eL 1 eI) a1] (eI (r)):=by
 unfold kaz at h;refine pcl [.one .keep] Tryz.func58 (by kernel_rfl) (by kernel_rfl) (by kernel_rfl) ?_;refine lpx 10 (fun v1=>⟨41,[(0,.fz ((eL 1 eI) (a0))),(1,.fz ((eL 1 eI) (a1))),(5,fI (v1))],[],[],[]⟩) (fun v8 e st=>Sum.elim (fun p=>e = .exit 0/\LeSt st ⟨41,[(0,.fz ((eL 1 eI) (a0))),(1,.fz ((eL 1 eI) (a1)))],[],[],[]⟩) (fun p=>e = .ret/\retX TT st Tryz.f58.results.toList [.one .keep]=some (eI (p))) v8) h (by kernel_rfl) (le_a (by kernel_rfl)) (fun v1 r h=>?_) fun v8 h e st' c=>?_;unfold ka4 at h;refine jn1 2 .normal (fun v3=>⟨41,[(0,.fz ((eL 1 eI) (a0))),(1,.fz ((eL 1 eI) (a1))),(5,fI (v1)),(15,fB (v3))],[],[],[]⟩) h (by kernel_rfl) (fun v3 h=>?_) fun v3 h=>?_;refine gd 6 h (by kernel_rfl) (fun h=>?_) fun h=>?_;cases h;exact lj 6 (by kernel_rfl);cases h;exact lj 6 (by kernel_rfl);refine cd 0 h (by kernel_rfl) (fun h=>?_) fun h=>?_;refine dw 5 8 (by kernel_rfl) ?_;refine ix nI 2 h (by kernel_rfl) fun v4 h=>?_;refine ix nI 3 h (by kernel_rfl) fun v5 h=>?_;refine cd 4 h (by kernel_rfl) (fun h=>?_) fun h=>?_;cases h;exact lor 5 (by kernel_rfl);refine dw 2 8 (by kernel_rfl) ?_;refine ix nI 2 h (by kernel_rfl) fun v6 h=>?_;refine ix nI 3 h (by kernel_rfl) fun v7 h=>?_;refine cd 4 h (by kernel_rfl) (fun h=>?_) fun h=>?_;cases h;exact lor 5 (by kernel_rfl);cases h;exact lj 6 (by kernel_rfl);cases h;exact lo 1 (by kernel_rfl);rcases v8 with v9 | v11
 ·(try simp only [qu,qx] at h);obtain ⟨rfl,b⟩:=c
  refine ⟨_,b,?_⟩;refine cl 6 h (khl _ _) (by kernel_rfl) fun v10 h=>?_;cases h;exact lq 3 (by kernel_rfl)
 ·(try simp only [qu,qx] at h);obtain ⟨rfl,a⟩:=c
  refine ⟨_,LeSt.refl,?_⟩;cases h;exact lv a
structure Sab where
  f_Rule:Int
  f_Args:List Int
def kac (x:Sab):FV := .agg [eI (x.f_Rule),(eL 1 eI) (x.f_Args)]
def kaq:En Sab:=⟨kac,2,fun x=>(kac x).cells,fun _=>rfl,fun _=>rfl⟩
def kbn (a0 a1:Sab):Option (Int):=(bif (a0.f_Rule != a1.f_Rule) then (Option.bind (kaz (([a0.f_Rule]:List (Int))) (([a1.f_Rule]:List (Int)))) fun v1=>(some v1)) else (Option.bind (kaz (a0.f_Args) (a1.f_Args)) fun v2=>(some v2)))
theorem kfo (a0 a1:Sab) (r:Int) (h:kbn a0 a1=some r):PCall Tryz.prog 59 [kac a0,kac a1] (eI (r)):=by unfold kbn at h;refine pcl [.one .keep] Tryz.func59 (by kernel_rfl) (by kernel_rfl) (by kernel_rfl) ?_;refine cd 15 h (by kernel_rfl) (fun h=>?_) fun h=>?_;refine cl 8 h (kbp _ _) (by kernel_rfl) fun v1 h=>?_;cases h;exact lq 3 (by kernel_rfl);refine cl 7 h (kbp _ _) (by kernel_rfl) fun v2 h=>?_;cases h;exact lq 3 (by kernel_rfl)
structure Saa where
  f_Symbol:Int
  f_Size:Int
  f_Options:List Sab
def kaa (x:Saa):FV := .agg [eI (x.f_Symbol),eI (x.f_Size),(eL 2 kac) (x.f_Options)]
def kan:En Saa:=⟨kaa,3,fun x=>(kaa x).cells,fun _=>rfl,fun _=>rfl⟩
structure Sac where
  f_Nodes:List Saa
  f_Roots:List Int
def kbc (x:Sac):FV := .agg [(eL 3 kaa) (x.f_Nodes),(eL 1 eI) (x.f_Roots)]
def ke7 (a0 a1:Sac) (v5 v6:Saa):List (Nat×AObj):=[(1,.box 29 [.fz ((eL 3 kaa) (a0.f_Nodes)),.fz ((eL 1 eI) (a0.f_Roots))]),(2,.box 29 [.fz ((eL 3 kaa) (a1.f_Nodes)),.fz ((eL 1 eI) (a1.f_Roots))]),(3,.box 67 [fI (v5.f_Symbol),fI (v5.f_Size),.fz ((eL 2 kac) (v5.f_Options))]),(4,.box 67 [fI (v6.f_Symbol),fI (v6.f_Size),.fz ((eL 2 kac) (v6.f_Options))])]
def kdy (a0 a1:Sac):List (Nat×AObj):=[(1,.box 29 [.fz ((eL 3 kaa) (a0.f_Nodes)),.fz ((eL 1 eI) (a0.f_Roots))]),(2,.box 29 [.fz ((eL 3 kaa) (a1.f_Nodes)),.fz ((eL 1 eI) (a1.f_Roots))])]
def kbw (v5 v6:Saa) (v9:Int):Option ((Int) ⊕ ((Unit) ⊕ (Bool))):=(bif (decide (v9<(List.length v5.f_Options:Int))) then (Option.bind (idx v5.f_Options v9) fun v10=>(Option.bind (idx v6.f_Options v9) fun v11=>(Option.bind (kbn (v10) (v11)) fun v12=>(bif (v12 != 0) then (some (.inr (.inr false))) else (some (.inl (w64 (v9+1)))))))) else (some (.inr (.inl ()))))
def kbx (a0 a1:Sac) (v4:Int):Option ((Int) ⊕ ((Unit) ⊕ (Bool))):=(bif (decide (v4<(List.length a0.f_Nodes:Int))) then (Option.bind (idx a0.f_Nodes v4) fun v5=>(Option.bind (idx a1.f_Nodes v4) fun v6=>(Option.bind ((bif (v5.f_Symbol != v6.f_Symbol) then (some (true)) else (bif (v5.f_Size != v6.f_Size) then (some (true)) else (some ((List.length v5.f_Options:Int) != (List.length v6.f_Options:Int))))):Option (Bool)) fun (v8:Bool)=>(bif v8 then (some (.inr (.inr false))) else (Option.bind (kah (kbw v5 v6) fuel (0)) fun (v13:(Unit) ⊕ (Bool))=>Sum.elim (fun v14=>(some (.inl (w64 (v4+1))))) (fun v15=>(some (.inr (.inr v15)))) v13))))) else (some (.inr (.inl ()))))
def kby (a0 a1:Sac):Option (Bool):=(Option.bind ((bif ((List.length a0.f_Nodes:Int) != (List.length a1.f_Nodes:Int)) then (some (true)) else (Option.bind (kaz (a0.f_Roots) (a1.f_Roots)) fun v1=>(some (v1 != 0)))):Option (Bool)) fun (v3:Bool)=>(bif v3 then (some false) else (Option.bind (kah (kbx a0 a1) fuel (0)) fun (v16:(Unit) ⊕ (Bool))=>Sum.elim (fun v17=>(some true)) (fun v18=>(some v18)) v16)))
theorem kdx (a0 a1:Sac) (r:Bool) (h:kby a0 a1=some r):PCall Tryz.prog 22 [kbc a0,kbc a1] (eB (r)):=by
 unfold kby at h;refine pcl [.one .keep] Tryz.func22 (by kernel_rfl) (by kernel_rfl) (by kernel_rfl) ?_;refine jn1 8 .normal (fun v3=>⟨81,[(2,.ref 1 0 0),(3,.ref 2 0 0),(23,fB (v3))],kdy a0 a1,[2,1],[]⟩) h (by kernel_rfl) (fun v3 h=>?_) fun v3 h=>?_;refine gd 9 h (by kernel_rfl) (fun h=>?_) fun h=>?_;cases h;exact lj 8 (by kernel_rfl);refine cl 4 h (kbp _ _) (by kernel_rfl) fun v1 h=>?_;cases h;exact lj 3 (by kernel_rfl);refine cd 0 h (by kernel_rfl) (fun h=>?_) fun h=>?_;cases h;exact lq 5 (by kernel_rfl);refine lpx 7 (fun v4=>⟨81,[(2,.ref 1 0 0),(3,.ref 2 0 0),(5,fI (v4))],kdy a0 a1,[2,1],[]⟩) (fun v16 e st=>Sum.elim (fun p=>e = .exit 0/\LeSt st ⟨81,[],[],[],[]⟩) (fun p=>e = .ret/\retX TT st Tryz.f22.results.toList [.one .keep]=some (eB (p))) v16) h (by kernel_rfl) (le_a (by kernel_rfl)) (fun v4 r h=>?_) fun v16 h e st' c=>?_
 ·unfold kbx at h;refine cd 9 h (by kernel_rfl) (fun h=>?_) fun h=>?_
  ·refine dy 4 13 (List.range 7) (by kernel_rfl) ?_;refine ix kan 3 h (by kernel_rfl) fun v5 h=>?_;refine ix kan 4 h (by kernel_rfl) fun v6 h=>?_;refine jn1 9 .normal (fun v8=>⟨81,[(2,.ref 1 0 0),(3,.ref 2 0 0),(5,fI (v4)),(6,.ref 3 0 0),(7,.ref 4 0 0),(61,fB (v8))],ke7 a0 a1 v5 v6,[4,3,2,1],[]⟩) h (by kernel_rfl) (fun v8 h=>?_) fun v8 h=>?_;refine gd 7 h (by kernel_rfl) (fun h=>?_) fun h=>?_;cases h;exact lj 16 (by kernel_rfl);refine gd 7 h (by kernel_rfl) (fun h=>?_) fun h=>?_;cases h;exact lj 9 (by kernel_rfl);cases h;exact lj 9 (by kernel_rfl);refine cd 0 h (by kernel_rfl) (fun h=>?_) fun h=>?_;cases h;exact lor 5 (by kernel_rfl);refine lpx 6 (fun v9=>⟨81,[(2,.ref 1 0 0),(3,.ref 2 0 0),(5,fI (v4)),(6,.ref 3 0 0),(7,.ref 4 0 0),(8,fI (v9))],ke7 a0 a1 v5 v6,[4,3,2,1],[]⟩) (fun v13 e st=>Sum.elim (fun p=>e = .exit 2/\LeSt st ⟨81,[(2,.ref 1 0 0),(3,.ref 2 0 0),(5,fI (v4))],kdy a0 a1,[2,1],[]⟩) (fun p=>e = .ret/\retX TT st Tryz.f22.results.toList [.one .keep]=some (eB (p))) v13) h (by kernel_rfl) (le_a (by kernel_rfl)) (fun v9 r h=>?_) fun v13 h e st' c=>?_;unfold kbw at h;refine cd 9 h (by kernel_rfl) (fun h=>?_) fun h=>?_;refine dw 4 10 (by kernel_rfl) ?_;refine ix kaq 3 h (by kernel_rfl) fun v10 h=>?_;refine ix kaq 4 h (by kernel_rfl) fun v11 h=>?_;refine cl 2 h (kfo _ _) (by kernel_rfl) fun v12 h=>?_;refine cd 2 h (by kernel_rfl) (fun h=>?_) fun h=>?_;cases h;exact lor 5 (by kernel_rfl);cases h;exact lj 6 (by kernel_rfl);cases h;exact lo 1 (by kernel_rfl);rcases v13 with v14 | v15
   ·(try simp only [qu,qx] at h);obtain ⟨rfl,b⟩:=c
    refine ⟨_,b,?_⟩;cases h;exact lj 5 (by kernel_rfl)
   ·(try simp only [qu,qx] at h);obtain ⟨rfl,a⟩:=c
    refine ⟨_,LeSt.refl,?_⟩;cases h;exact lvo a
  cases h;exact lo 1 (by kernel_rfl)
 rcases v16 with v17 | v18
 ·(try simp only [qu,qx] at h);obtain ⟨rfl,b⟩:=c
  refine ⟨_,b,?_⟩;cases h;exact lq 5 (by kernel_rfl)
 ·(try simp only [qu,qx] at h);obtain ⟨rfl,a⟩:=c
  refine ⟨_,LeSt.refl,?_⟩;cases h;exact lv a
end Go.Proofs.YtpnnpkmjohkgiaaGreatDoor
