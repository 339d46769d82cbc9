import Derived.Test.YtgebfaidgikieaaGreatDoorRj
import Derived.Test.YtgebfaidgikieaaGreatDoorGp
import Derived.Test.YtgebfaidgikieaaGreatDoorWE
set_option linter.unusedVariables false
set_option maxRecDepth 100000
namespace Go.Proofs.YtgebfaidgikieaaGreatDoor
open Go Go.RowKit
set_option maxHeartbeats 4000000
theorem k1t:eLa lgL=lgT:=by kernel_rfl
theorem kajw:ka5 drL=drT:=by kernel_rfl
theorem kab7:kei lgL=some 0:=by kernel_rfl
theorem kafl:PCall Tryz.prog 24 [lgF] (.atom (.int .i64 0)):=by have h:=kg3 _ _ kab7;rw [k1t] at h;exact h.le (by kernel_rfl)
theorem kacn:k0e (rcX 25) lgL 0 1=some ([Tm.mk 0 [],Tm.mk 1 []],0):=by kernel_rfl
theorem kacv:kqq lgL drL=some (⟨#[97,100,100,40,63,49,44,32,105,110,48,41]⟩,0):=by kernel_rfl
theorem kae2:PCall Tryz.prog 88 [lgF,eI 0,eI 1] (.tup [.lst 2 2 [.agg [eI 0, .lst 2 0 []], .agg [eI 1, .lst 2 0 []]],eI 0]):=by have h:=kaad (by rw [k1t];exact kaim) kacn;rw [k1t] at h;exact h.le (by kernel_rfl)
theorem kaev:PCall Tryz.prog 7 [lgF,drF] (.tup [.atom (.string ⟨#[97,100,100,40,63,49,44,32,105,110,48,41]⟩), .atom (.int .i64 0)]):=by have h:=kz3 _ _ _ kacv;rw [k1t,kajw] at h;exact h.le (by kernel_rfl)
theorem kaif:PCall Tryz.prog 13 [] lgF:=kud (kxv [] (fun p hp=>by cases hp)) 100
def fx0:List (Nat×List FV×FV):=[(13,[],lgF),(24,[lgF], .atom (.int .i64 0)),(7,[lgF,drF], .tup [.atom (.string ⟨#[97,100,100,40,63,49,44,32,105,110,48,41]⟩), .atom (.int .i64 0)]),(88,[lgF,eI 0,eI 1], .tup [.lst 2 2 [.agg [eI 0, .lst 2 0 []], .agg [eI 1, .lst 2 0 []]],eI 0])]
theorem kaka:∀ p∈fx0,PCall Tryz.prog p.1 p.2.1 p.2.2:=fun p hp=>by
 rcases qab.1 hp with rfl | hp;exact kaif;rcases qab.1 hp with rfl | hp;exact kafl
 ·rcases qab.1 hp with rfl | hp;exact kaev
  ·obtain rfl:=qbh.1 hp;exact kae2
theorem kacc:PCall Tryz.prog 6 [] (.atom (.bool true)):=kud (kxv fx0 kaka) 2000
def kii:Option Bool:=some true
theorem kmh (r:Bool) (h:kii=some r):PCall Tryz.prog 6 [] (eB r):=by cases h;exact kacc
end Go.Proofs.YtgebfaidgikieaaGreatDoor
