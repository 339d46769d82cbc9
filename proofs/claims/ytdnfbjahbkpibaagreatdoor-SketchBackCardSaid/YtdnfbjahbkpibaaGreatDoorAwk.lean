import Derived.Test.YtdnfbjahbkpibaaGreatDoorRj
import Derived.Test.YtdnfbjahbkpibaaGreatDoorGp
import Derived.Test.YtdnfbjahbkpibaaGreatDoorWE
set_option linter.unusedVariables false
set_option maxRecDepth 100000
namespace Go.Proofs.YtdnfbjahbkpibaaGreatDoor
open Go Go.RowKit
set_option maxHeartbeats 4000000
theorem kz2:eLa lgL=lgT:=by kernel_rfl
theorem kaki:kb0 drL=drT:=by kernel_rfl
theorem kabs:kbs lgL=some 0:=by kernel_rfl
theorem kafl:PCall Tryz.prog 21 [lgF] (.atom (.int .i64 0)):=by have h:=kf5 _ _ kabs;rw [kz2] at h;exact h.le (by kernel_rfl)
theorem kacd:kqn (rcX 25) lgL 0 1=some ([Tm.mk 0 [],Tm.mk 1 []],0):=by kernel_rfl
theorem kacm:kpb lgL drL=some (⟨#[97,100,100,40,63,49,44,32,105,110,48,41]⟩,0):=by kernel_rfl
theorem kae0:PCall Tryz.prog 57 [lgF,eI 0,eI 1] (.tup [.lst 2 2 [.agg [eI 0, .lst 2 0 []], .agg [eI 1, .lst 2 0 []]],eI 0]):=by have h:=kzj (by rw [kz2];exact kai2) kacd;rw [kz2] at h;exact h.le (by kernel_rfl)
theorem kaer:PCall Tryz.prog 18 [lgF,drF] (.tup [.atom (.string ⟨#[97,100,100,40,63,49,44,32,105,110,48,41]⟩), .atom (.int .i64 0)]):=by have h:=kx1 _ _ _ kacm;rw [kz2,kaki] at h;exact h.le (by kernel_rfl)
theorem kaiu:PCall Tryz.prog 15 [] lgF:=kse (kvr [] (fun p hp=>by cases hp)) 100
def fx0:List (Nat×List FV×FV):=[(15,[],lgF),(21,[lgF], .atom (.int .i64 0)),(18,[lgF,drF], .tup [.atom (.string ⟨#[97,100,100,40,63,49,44,32,105,110,48,41]⟩), .atom (.int .i64 0)]),(57,[lgF,eI 0,eI 1], .tup [.lst 2 2 [.agg [eI 0, .lst 2 0 []], .agg [eI 1, .lst 2 0 []]],eI 0])]
theorem kakv:∀ p∈fx0,PCall Tryz.prog p.1 p.2.1 p.2.2:=fun p hp=>by
 rcases qae.1 hp with rfl | hp;exact kaiu;rcases qae.1 hp with rfl | hp;exact kafl
 ·rcases qae.1 hp with rfl | hp;exact kaer
  ·obtain rfl:=qav.1 hp;exact kae0
theorem kab2:PCall Tryz.prog 6 [] (.atom (.bool true)):=kse (kvr fx0 kakv) 2000
def kfg:Option Bool:=some true
theorem kh1 (r:Bool) (h:kfg=some r):PCall Tryz.prog 6 [] (eB r):=by cases h;exact kab2
end Go.Proofs.YtdnfbjahbkpibaaGreatDoor
