import Derived.Test.YtjpkdegjcilndaaGreatDoorEE
import Derived.Test.YtjpkdegjcilndaaGreatDoorCg
set_option linter.all false
set_option maxRecDepth 100000
namespace Go.Proofs.YtjpkdegjcilndaaGreatDoor
open Go Go.RowKit Go.Proofs
set_option maxHeartbeats 2000000
attribute [local irreducible] NStep StepA kgr kiu LeSt
theorem StepA.eqv {P:Program} {o:Oper} {st:St} {c c':AV} {h:List (Nat×AObj)} {i:List Nat} (k:StepA P o st c h i) (e:c=c'):StepA P o st c' h i:=e ▸ k
def kth (a0:Int) (a1:List Tm):Option Tm:=bif decide ((List.length a1:Int) > 0) then Option.bind (mkL 32 (Tm.mk 0 []) (List.length a1:Int)) fun v1=>some (Tm.mk a0 a1) else some (Tm.mk a0 [])
theorem k3l (a0:Int) (a1:List Tm) (r:Tm) (h:kth a0 a1=some r):PCall Tryz.prog 84 [eI a0,eL 2 eTmR a1] (eTm r):=by
 unfold kth at h;refine pcl [.ag [.keep, .sl 2]] Tryz.func84 (by kernel_rfl) (by kernel_rfl) (by kernel_rfl) ?_;refine cd 18 h (fun h=>?_) fun h=>?_
 ·obtain ⟨v1,b,h⟩:=ql.1 h;cases h;have a:v1.length=a1.length:=by obtain ⟨rfl,_⟩:=kvc b;simp
  refine sst 4 (StepA.eqv (kaj2 (d:=tt27) (id:=3) (t:=27) nTmR (.tmp 12) (.tmp 12) 29 tt29 .i64 .i64 [.int .i64 0, .slice none 0 0] [.atom (.int .i64 0), .lst 2 0 []] b (by kernel_rfl) tt_ok (by kernel_rfl) (by kernel_rfl) (by kernel_rfl) (by kernel_rfl) (by kernel_rfl) (by kernel_rfl) (.at rfl (.sl (by decide) .nil)) (by kernel_rfl) (by kernel_rfl) (by kernel_rfl) (by kernel_rfl) (by kernel_rfl)) (show AV.row 3 v1.length = .row 3 a1.length by rw [a])) (by kernel_rfl) ?_;refine sst 7 (kaea (id:=3) nTmR v1 a1 (.tmp 16) (.tmp 17) 27 27 29 tt27 tt29 (List.length a1) tt_ok (by kernel_rfl) (by kernel_rfl) (by kernel_rfl) (by kernel_rfl) (by kernel_rfl) (by kernel_rfl) (by kernel_rfl) (by kernel_rfl) a.symm a (fun y q c=>by rcases qac.1 c with rfl | c <;> first | rfl | (rcases qac.1 c with rfl | c <;> first | rfl | cases c))) (by kernel_rfl) ?_;refine wle 2 (kfv 2 3 (List.length a1) 1 29 2 (List.map eTmR a1) 29 [fI a0, .row 3 a1.length]) ?_;exact lq 5 (by kernel_rfl)
 ·cases h;exact lq 7 (by kernel_rfl)
end Go.Proofs.YtjpkdegjcilndaaGreatDoor
