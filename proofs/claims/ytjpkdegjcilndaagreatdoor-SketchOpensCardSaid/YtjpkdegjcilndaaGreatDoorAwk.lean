import Derived.Test.YtjpkdegjcilndaaGreatDoorRj
import Derived.Test.YtjpkdegjcilndaaGreatDoorGp
import Derived.Test.YtjpkdegjcilndaaGreatDoorWE
set_option linter.unusedVariables false
set_option maxRecDepth 100000
namespace Go.Proofs.YtjpkdegjcilndaaGreatDoor
open Go Go.RowKit
set_option maxHeartbeats 4000000
theorem k2e:eLa lgL=lgT:=by kernel_rfl
theorem kamh:kcb drL=drT:=by kernel_rfl
theorem kady:kbw lgL=some 0:=by kernel_rfl
theorem kahs:PCall Tryz.prog 28 [lgF] (.atom (.int .i64 0)):=by have h:=khb _ _ kady;rw [k2e] at h;exact h.le (by kernel_rfl)
theorem kaei:kr0 (rcX 25) lgL 0 1=some ([Tm.mk 0 [],Tm.mk 1 []],0):=by kernel_rfl
theorem kaeq:kqg lgL drL=some (⟨#[97,100,100,40,63,49,44,32,105,110,48,41]⟩,0):=by kernel_rfl
theorem kag6:PCall Tryz.prog 75 [lgF,eI 0,eI 1] (.tup [.lst 2 2 [.agg [eI 0, .lst 2 0 []], .agg [eI 1, .lst 2 0 []]],eI 0]):=by have h:=k1p (by rw [k2e];exact kak2) kaei;rw [k2e] at h;exact h.le (by kernel_rfl)
theorem kagt:PCall Tryz.prog 17 [lgF,drF] (.tup [.atom (.string ⟨#[97,100,100,40,63,49,44,32,105,110,48,41]⟩), .atom (.int .i64 0)]):=by have h:=kz7 _ _ _ kaeq;rw [k2e,kamh] at h;exact h.le (by kernel_rfl)
theorem kaks:PCall Tryz.prog 13 [] lgF:=kuc (kxv [] (fun p hp=>by cases hp)) 100
def fx0:List (Nat×List FV×FV):=[(13,[],lgF),(28,[lgF], .atom (.int .i64 0)),(17,[lgF,drF], .tup [.atom (.string ⟨#[97,100,100,40,63,49,44,32,105,110,48,41]⟩), .atom (.int .i64 0)]),(75,[lgF,eI 0,eI 1], .tup [.lst 2 2 [.agg [eI 0, .lst 2 0 []], .agg [eI 1, .lst 2 0 []]],eI 0])]
theorem kams:∀ p∈fx0,PCall Tryz.prog p.1 p.2.1 p.2.2:=fun p hp=>by
 rcases qac.1 hp with rfl | hp;exact kaks;rcases qac.1 hp with rfl | hp;exact kahs
 ·rcases qac.1 hp with rfl | hp;exact kagt
  ·obtain rfl:=qa2.1 hp;exact kag6
theorem kad6:PCall Tryz.prog 6 [] (.atom (.bool true)):=kuc (kxv fx0 kams) 2000
def ke7:Option Bool:=some true
theorem kiz (r:Bool) (h:ke7=some r):PCall Tryz.prog 6 [] (eB r):=by cases h;exact kad6
end Go.Proofs.YtjpkdegjcilndaaGreatDoor
