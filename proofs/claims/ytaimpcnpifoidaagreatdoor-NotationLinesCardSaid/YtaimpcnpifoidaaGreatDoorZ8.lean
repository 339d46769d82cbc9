import Derived.Test.YtaimpcnpifoidaaGreatDoorZ7
set_option linter.unusedVariables false
set_option linter.unusedSimpArgs false
set_option maxRecDepth 100000
namespace Go.Proofs.YtaimpcnpifoidaaGreatDoor
open Go Go.RowKit Go.Proofs
set_option maxHeartbeats 2000000
attribute [local irreducible] NStep kc0 knd LeSt
def kew (a0:BA):Option Bool:=(bif (decide (2000<(a0.size:Int))) then ((kd9 ).bind fun v1=>(some v1)) else ((kdh a0).bind fun v2=>(bif (v2.2.1 != 0) then ((bif ((List.length v2.2.2.2.2.1:Int) == 0) then ((kd9 ).bind fun v3=>(some v3)) else (some (false))).bind fun v5=>(some v5)) else ((kdl (La.mk v2.2.2.1 v2.2.2.2.1 v2.2.2.2.2.1 v2.2.2.2.2.2)).bind fun v6=>((bif (v6.2 == 0) then (bif (v6.1.toList == a0.toList) then ((kb4 (La.mk v2.2.2.1 v2.2.2.2.1 v2.2.2.2.2.1 v2.2.2.2.2.2)).bind fun v7=>(bif (v7 == 0) then ((kd9 ).bind fun v8=>(some v8)) else (some (false)))) else (some (false))) else (some (false))).bind fun v10=>(some v10))))))
theorem kk3 (a0:BA) (r:(Bool)) (h:kew a0=some r):kas Tryz.prog 8 ([(fS a0)]++[]) [(1,(.glb GV))] [1] (.ret (fB r)) [(1,(.glb GV))] [1]:=by
 unfold kew at h
 refine hcx (gi:=0) Tryz.func8 ?_
 intro p0 q0 w0
 refine cd 11 h (fun h=>?_) fun h=>?_
 ·refine hcl 2 [] [(1,1)] [(1,1)] [1] h (khk) (fun _=>by kernel_rfl) fun v1 h=>?_
  cases h;exact lhy 3
 refine hcl 4 [.one .keep] [(1,1)] [(1,1),(2,2)] [1] h (ki5 _) (fun _=>by kernel_rfl) fun v2 h=>?_
 refine cd 15 h (fun h=>?_) fun h=>?_
 ·refine jn1 1 .normal (fun v5=>⟨47,[(2,(fB v5))],[(0,(.was p0 [1] q0 w0)),(1,(.glb GV))],[0,1],[]⟩) h (fun v5 h=>?_) fun v5 h=>?_
  ·refine gd 6 h (fun h=>?_) fun h=>?_
   ·refine hcl 0 [] [(1,1)] [(1,1)] [1] h (khk) (fun _=>by kernel_rfl) fun v3 h=>?_
    cases h;exact lj 3
   cases h;exact lj 4
  cases h;exact lhy 1
 refine hcl 4 [(.ag [.keep, .sl 1, .sl 2, .sl 9])] [(1,1)] [(1,1)] [1] h (ki6 _) (fun _=>by kernel_rfl) fun v6 h=>?_
 refine jn1 7 .normal (fun v10=>⟨47,[(2,(fB v10))],[(0,(.was p0 [1] q0 w0)),(1,(.glb GV))],[0,1],[]⟩) h (fun v10 h=>?_) fun v10 h=>?_
 ·refine gd 4 h (fun h=>?_) fun h=>?_
  ·refine gd 5 h (fun h=>?_) fun h=>?_
   ·refine cl 1 h (kpz _) (by kernel_rfl) fun v7 h=>?_
    refine gd 3 h (fun h=>?_) fun h=>?_
    ·refine hcl 0 [] [(1,1)] [(1,1)] [1] h (khk) (fun _=>by kernel_rfl) fun v8 h=>?_
     cases h;exact lj 3
    cases h;exact lj 4
   cases h;exact lj 9
  cases h;exact lj 14
 cases h;exact lhy 1
end Go.Proofs.YtaimpcnpifoidaaGreatDoor
