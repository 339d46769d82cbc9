import Derived.Test.YtgebfaidgikieaaGreatDoorTT
import Derived.Test.YtgebfaidgikieaaGreatDoorVE
import Derived.Test.YtgebfaidgikieaaGreatDoorEE
set_option linter.unusedVariables false
namespace Go.Proofs.YtgebfaidgikieaaGreatDoor
open Go Go.RowKit Go.Proofs.Tryz
noncomputable def exF:FT:=(.nd 80 Tryz.f80 (.nd 44 Tryz.f44 (.nd 26 Tryz.f26 (.nd 17 Tryz.f17 (.nd 14 Tryz.f14 (.nd 9 Tryz.f9 (.nd 6 Tryz.f6 .lf .lf) (.nd 13 Tryz.f13 .lf .lf)) (.nd 16 Tryz.f16 (.nd 15 Tryz.f15 .lf .lf) .lf)) (.nd 20 Tryz.f20 (.nd 19 Tryz.f19 (.nd 18 Tryz.f18 .lf .lf) .lf) (.nd 25 Tryz.f25 (.nd 24 Tryz.f24 .lf .lf) .lf))) (.nd 38 Tryz.f38 (.nd 35 Tryz.f35 (.nd 33 Tryz.f33 (.nd 27 Tryz.f27 .lf .lf) (.nd 34 Tryz.f34 .lf .lf)) (.nd 37 Tryz.f37 (.nd 36 Tryz.f36 .lf .lf) .lf)) (.nd 41 Tryz.f41 (.nd 40 Tryz.f40 (.nd 39 Tryz.f39 .lf .lf) .lf) (.nd 43 Tryz.f43 (.nd 42 Tryz.f42 .lf .lf) .lf)))) (.nd 62 Tryz.f62 (.nd 52 Tryz.f52 (.nd 48 Tryz.f48 (.nd 46 Tryz.f46 (.nd 45 Tryz.f45 .lf .lf) (.nd 47 Tryz.f47 .lf .lf)) (.nd 50 Tryz.f50 (.nd 49 Tryz.f49 .lf .lf) .lf)) (.nd 59 Tryz.f59 (.nd 58 Tryz.f58 (.nd 54 Tryz.f54 .lf .lf) .lf) (.nd 61 Tryz.f61 (.nd 60 Tryz.f60 .lf .lf) .lf))) (.nd 74 Tryz.f74 (.nd 65 Tryz.f65 (.nd 64 Tryz.f64 (.nd 63 Tryz.f63 .lf .lf) .lf) (.nd 73 Tryz.f73 (.nd 66 Tryz.f66 .lf .lf) .lf)) (.nd 77 Tryz.f77 (.nd 76 Tryz.f76 (.nd 75 Tryz.f75 .lf .lf) .lf) (.nd 79 Tryz.f79 (.nd 78 Tryz.f78 .lf .lf) .lf))))) (.nd 123 Tryz.f123 (.nd 98 Tryz.f98 (.nd 88 Tryz.f88 (.nd 85 Tryz.f85 (.nd 83 Tryz.f83 (.nd 82 Tryz.f82 .lf .lf) (.nd 84 Tryz.f84 .lf .lf)) (.nd 87 Tryz.f87 (.nd 86 Tryz.f86 .lf .lf) .lf)) (.nd 95 Tryz.f95 (.nd 94 Tryz.f94 (.nd 90 Tryz.f90 .lf .lf) .lf) (.nd 97 Tryz.f97 (.nd 96 Tryz.f96 .lf .lf) .lf))) (.nd 117 Tryz.f117 (.nd 101 Tryz.f101 (.nd 100 Tryz.f100 (.nd 99 Tryz.f99 .lf .lf) .lf) (.nd 108 Tryz.f108 (.nd 107 Tryz.f107 .lf .lf) .lf)) (.nd 120 Tryz.f120 (.nd 119 Tryz.f119 (.nd 118 Tryz.f118 .lf .lf) .lf) (.nd 122 Tryz.f122 (.nd 121 Tryz.f121 .lf .lf) .lf)))) (.nd 157 Tryz.f157 (.nd 140 Tryz.f140 (.nd 127 Tryz.f127 (.nd 125 Tryz.f125 (.nd 124 Tryz.f124 .lf .lf) (.nd 126 Tryz.f126 .lf .lf)) (.nd 139 Tryz.f139 (.nd 130 Tryz.f130 .lf .lf) .lf)) (.nd 154 Tryz.f154 (.nd 145 Tryz.f145 (.nd 144 Tryz.f144 .lf .lf) .lf) (.nd 156 Tryz.f156 (.nd 155 Tryz.f155 .lf .lf) .lf))) (.nd 185 Tryz.f185 (.nd 160 Tryz.f160 (.nd 159 Tryz.f159 (.nd 158 Tryz.f158 .lf .lf) .lf) (.nd 170 Tryz.f170 (.nd 164 Tryz.f164 .lf .lf) .lf)) (.nd 193 Tryz.f193 (.nd 191 Tryz.f191 (.nd 190 Tryz.f190 .lf .lf) .lf) (.nd 203 Tryz.f203 (.nd 199 Tryz.f199 .lf .lf) .lf))))))
def exZ:List (TypeId×Value):=[(2, .int .i64 0),(4, .bool false)]
def exP:List Nat:=[6,9,15,19,20,24,25,26,27,33,37,40,44,45,46,49,50,52,58,59,60,63,66,77,78,79,83,84,85,87,90,94,95,96,99,100,117,119,123,124,126,130,139,140,145,159,164,190,191,193,199,203,7,88]
def exM:List Nat:=[14]
def exN:List Nat:=[]
theorem kajm:exF.ok prog:=FT.ok_of (by kernel_rfl)
theorem kakr:ZOk prog exZ:=by
 intro p hp;simp only [exZ,qab,List.not_mem_nil,or_false] at hp;rcases hp with rfl | rfl;exact ⟨_,show prog.info? 2=some Tryz.t2 from by kernel_rfl,by kernel_rfl⟩
 ·exact ⟨_,show prog.info? 4=some Tryz.t4 from by kernel_rfl,by kernel_rfl⟩
def exI:List Nat:=[208]
theorem kai9:∀ f∈exI,IbOk prog f:=by intro f a;simp only [exI,qab,List.not_mem_nil,or_false] at a;subst a;exact ⟨Tryz.f208,func208,by kernel_rfl,by kernel_rfl,by kernel_rfl,rfl⟩
noncomputable def exC (fx:List (Nat×List FV×FV)):Cx:={ T:=TT,Z:=exZ,fn:=exF,mu:=exM,pu:=exP,fx:=fx,ib:=exI,nf:=exN }
theorem kxv (fx:List (Nat×List FV×FV)) (h:∀ p∈fx,PCall prog p.1 p.2.1 p.2.2):CxOk prog (exC fx):=⟨kbc,kakr,kajm,h,kai9,by kernel_rfl⟩
-- 6 synthesis/synthesislaw34.awake
-- 9 synthesis/sketch.Check
-- 13 synthesis/synthesislaw34.language
-- 14 synthesis/synthesislaw34.draft
-- 15 synthesis/sketch.Count
-- 16 synthesis/sketch.All
-- 17 synthesis/sketch.Fill
-- 18 synthesis/sketch.Open
-- 19 synthesis/synthesisref13.Compare
-- 20 synthesis/synthesisref34.Same
-- 24 synthesis/grammar.Check
-- 25 synthesis/sketch.hole
-- 26 synthesis/sketch.node
-- 27 synthesis/sketch.levels
-- 33 synthesis/sketch.numbered
-- 34 synthesis/sketch.choices
-- 35 synthesis/sketch.fill
-- 36 slices.SortFunc[[]synthesis/api.Term,synthesis/api.Term]
-- 37 synthesis/term.Compare
-- 38 slices.CompactFunc[[]synthesis/api.Term,synthesis/api.Term]
-- 39 synthesis/sketch.All$1
-- 40 synthesis/term.Check
-- 41 synthesis/term.At
-- 42 synthesis/enumerate.UpTo
-- 43 synthesis/sketch.body
-- 44 synthesis/synthesisref13.order
-- 45 synthesis/synthesisref13.Size
-- 46 synthesis/synthesisref13.CompareInts
-- 47 synthesis/synthesisref13.Rules
-- 48 synthesis/synthesisref13.arities
-- 49 synthesis/synthesisref34.SameBody
-- 50 synthesis/synthesisref13.Same
-- 52 strconv.Itoa
-- 54 synthesis/sketch.made
-- 58 synthesis/grammar.named
-- 59 synthesis/grammar.typed
-- 60 synthesis/grammar.rule
-- 61 slices.ContainsFunc[[]synthesis/api.Rule,synthesis/api.Rule]
-- 62 synthesis/grammar.Check$1
-- 63 synthesis/grammar.sameRule
-- 64 slices.ContainsFunc[[]synthesis/api.Term,synthesis/api.Term]
-- 65 synthesis/sketch.hole$1
-- 66 synthesis/term.Depth
-- 73 slices.ContainsFunc[[]synthesis/api.Sketch,synthesis/api.Sketch]
-- 74 synthesis/sketch.numbered$1
-- 75 synthesis/sketch.copied
-- 76 slices.pdqsortCmpFunc[synthesis/api.Term]
-- 77 math/bits.Len
-- 78 synthesis/term.Size
-- 79 synthesis/term.lexical
-- 80 synthesis/term.Rules
-- 82 synthesis/term.collect
-- 83 synthesis/term.within
-- 84 synthesis/term.shallow
-- 85 synthesis/term.derived
-- 86 synthesis/term.clone
-- 87 synthesis/counting.Total
-- 88 synthesis/enumerate.Terms
-- 90 internal/strconv.Itoa
-- 94 synthesis/grammar.symbol
-- 95 synthesis/grammar.same
-- 96 synthesis/value.Check
-- 97 synthesis/operator.Find
-- 98 slices.IndexFunc[[]synthesis/api.Rule,synthesis/api.Rule]
-- 99 slices.Equal[[]int,int]
-- 100 synthesis/value.Equal
-- 101 slices.IndexFunc[[]synthesis/api.Term,synthesis/api.Term]
-- 107 slices.IndexFunc[[]synthesis/api.Sketch,synthesis/api.Sketch]
-- 108 slices.insertionSortCmpFunc[synthesis/api.Term]
-- 117 math/bits.Len64
-- 118 synthesis/term.Rules$1
-- 119 synthesis/counting.check
-- 120 synthesis/counting.open
-- 121 synthesis/counting.counted
-- 122 synthesis/counting.Total$1
-- 123 synthesis/counting.permitted
-- 124 synthesis/counting.plus
-- 125 (*synthesis/counting.counter).terms
-- 126 synthesis/counting.Count
-- 127 synthesis/enumerate.open
-- 130 internal/strconv.FormatInt
-- 139 synthesis/value.unused
-- 140 synthesis/value.ranged
-- 144 synthesis/operator.find
-- 145 synthesis/value.Compare
-- 154 synthesis/counting.counted$1
-- 155 synthesis/grammar.Of
-- 156 (*synthesis/counting.counter).lists
-- 157 synthesis/counting.args
-- 158 synthesis/counting.Count$1
-- 159 (synthesis/enumerate.lister).reach
-- 160 (synthesis/enumerate.lister).args
-- 164 internal/strconv.small
-- 170 synthesis/operator.catalog
-- 185 synthesis/operator.family
-- 190 strings.Cut
-- 191 synthesis/operator.typeOf
-- 193 internal/stringslite.Cut
-- 199 internal/stringslite.Index
-- 203 internal/stringslite.IndexByte
-- 208 internal/bytealg.IndexByteString
-- PU synthesis/synthesislaw34.awake
-- PU synthesis/sketch.Check
-- PU synthesis/sketch.Count
-- PU synthesis/synthesisref13.Compare
-- PU synthesis/synthesisref34.Same
-- PU synthesis/grammar.Check
-- PU synthesis/sketch.hole
-- PU synthesis/sketch.node
-- PU synthesis/sketch.levels
-- PU synthesis/sketch.numbered
-- PU synthesis/term.Compare
-- PU synthesis/term.Check
-- PU synthesis/synthesisref13.order
-- PU synthesis/synthesisref13.Size
-- PU synthesis/synthesisref13.CompareInts
-- PU synthesis/synthesisref34.SameBody
-- PU synthesis/synthesisref13.Same
-- PU strconv.Itoa
-- PU synthesis/grammar.named
-- PU synthesis/grammar.typed
-- PU synthesis/grammar.rule
-- PU synthesis/grammar.sameRule
-- PU synthesis/term.Depth
-- PU math/bits.Len
-- PU synthesis/term.Size
-- PU synthesis/term.lexical
-- PU synthesis/term.within
-- PU synthesis/term.shallow
-- PU synthesis/term.derived
-- PU synthesis/counting.Total
-- PU internal/strconv.Itoa
-- PU synthesis/grammar.symbol
-- PU synthesis/grammar.same
-- PU synthesis/value.Check
-- PU slices.Equal[[]int,int]
-- PU synthesis/value.Equal
-- PU math/bits.Len64
-- PU synthesis/counting.check
-- PU synthesis/counting.permitted
-- PU synthesis/counting.plus
-- PU synthesis/counting.Count
-- PU internal/strconv.FormatInt
-- PU synthesis/value.unused
-- PU synthesis/value.ranged
-- PU synthesis/value.Compare
-- PU (synthesis/enumerate.lister).reach
-- PU internal/strconv.small
-- PU strings.Cut
-- PU synthesis/operator.typeOf
-- PU internal/stringslite.Cut
-- PU internal/stringslite.Index
-- PU internal/stringslite.IndexByte
-- PU synthesis/sketch.Print
-- PU synthesis/enumerate.Terms
set_option maxRecDepth 100000
def lgF:FV := .agg [.atom (.string ⟨#[110]⟩), .lst 1 1 [.atom (.int .i64 2)], .lst 2 1 [.agg [.atom (.string ⟨#[83]⟩), .atom (.int .i64 2)]], .lst 9 3 [.agg [.atom (.int .i64 0), .atom (.int .i64 1), .atom (.int .i64 0), .atom (.int .i64 0), .atom (.int .i64 0), .atom (.string ⟨#[]⟩), .atom (.slice none 0 0), .atom (.string ⟨#[]⟩), .atom (.slice none 0 0)], .agg [.atom (.int .i64 0), .atom (.int .i64 2), .atom (.int .i64 0), .atom (.int .i64 2), .atom (.int .i64 1), .atom (.string ⟨#[]⟩), .atom (.slice none 0 0), .atom (.string ⟨#[]⟩), .atom (.slice none 0 0)], .agg [.atom (.int .i64 0), .atom (.int .i64 3), .atom (.int .i64 0), .atom (.int .i64 0), .atom (.int .i64 0), .atom (.string ⟨#[]⟩), .atom (.slice none 0 0), .atom (.string ⟨#[97,100,100]⟩), .lst 1 2 [.atom (.int .i64 0), .atom (.int .i64 0)]]]]
def lgT:FV := .agg [.atom (.string ⟨#[110]⟩), .lst 1 1 [.atom (.int .i64 2)], .lst 2 1 [.agg [.atom (.string ⟨#[83]⟩), .atom (.int .i64 2)]], .lst 9 3 [.agg [.atom (.int .i64 0), .atom (.int .i64 1), .atom (.int .i64 0), .atom (.int .i64 0), .atom (.int .i64 0), .atom (.string ⟨#[]⟩), .lst 4 0 [], .atom (.string ⟨#[]⟩), .lst 1 0 []], .agg [.atom (.int .i64 0), .atom (.int .i64 2), .atom (.int .i64 0), .atom (.int .i64 2), .atom (.int .i64 1), .atom (.string ⟨#[]⟩), .lst 4 0 [], .atom (.string ⟨#[]⟩), .lst 1 0 []], .agg [.atom (.int .i64 0), .atom (.int .i64 3), .atom (.int .i64 0), .atom (.int .i64 0), .atom (.int .i64 0), .atom (.string ⟨#[]⟩), .lst 4 0 [], .atom (.string ⟨#[97,100,100]⟩), .lst 1 2 [.atom (.int .i64 0), .atom (.int .i64 0)]]]]
def drF:FV := .agg [.atom (.int .i64 2), .atom (.int .i64 0), .lst 3 2 [.agg [.atom (.int .i64 0), .atom (.int .i64 1), .atom (.slice none 0 0)], .agg [.atom (.int .i64 0), .atom (.int .i64 0), .atom (.slice none 0 0)]], .lst 2 1 [.agg [.atom (.int .i64 0), .lst 2 2 [.agg [.atom (.int .i64 0), .atom (.slice none 0 0)], .agg [.atom (.int .i64 1), .atom (.slice none 0 0)]]]]]
def drT:FV := .agg [.atom (.int .i64 2), .atom (.int .i64 0), .lst 3 2 [.agg [.atom (.int .i64 0), .atom (.int .i64 1), .lst 3 0 []], .agg [.atom (.int .i64 0), .atom (.int .i64 0), .lst 3 0 []]], .lst 2 1 [.agg [.atom (.int .i64 0), .lst 2 2 [.agg [.atom (.int .i64 0), .lst 2 0 []], .agg [.atom (.int .i64 1), .lst 2 0 []]]]]]
def lgL:La:=⟨⟨#[110]⟩,[2],[⟨⟨#[83]⟩,2⟩],[Ru.mk 0 1 0 (Va.mk 0 0 ⟨#[]⟩ []) ⟨#[]⟩ [],Ru.mk 0 2 0 (Va.mk 2 1 ⟨#[]⟩ []) ⟨#[]⟩ [],Ru.mk 0 3 0 (Va.mk 0 0 ⟨#[]⟩ []) ⟨#[97,100,100]⟩ [0,0]]⟩
def drL:Saa:=Saa.mk (Dk.mk 2 0 [Dk.mk 0 1 [],Dk.mk 0 0 []]) [Sab.mk 0 [Tm.mk 0 [],Tm.mk 1 []]]
def kvy (a0:Va):Option (BA×Int):=none
theorem k0a (a0:Va) (r:BA×Int) (h:kvy a0=some r):PCall prog 168 [eVa a0] (.tup [eS r.1,eI r.2]):=by cases h
theorem kaj9:PCall prog 52 [.atom (.int .i64 0)] (.atom (.string ⟨#[48]⟩)):=kud (kxv [] (fun p hp=>by cases hp)) 2000
theorem kakt:PCall prog 52 [.atom (.int .i64 1)] (.atom (.string ⟨#[49]⟩)):=kud (kxv [] (fun p hp=>by cases hp)) 2000
def kog (a0:Int):Option BA:=if a0=0 then some ⟨#[48]⟩ else if a0=1 then some ⟨#[49]⟩ else none
theorem ks4 (a0:Int) (r:BA) (h:kog a0=some r):PCall prog 52 [eI a0] (eS r):=by
 unfold kog at h;split at h;rename_i e;subst e;obtain rfl:=qt h;exact kaj9
 ·split at h;rename_i e;subst e;obtain rfl:=qt h;exact kakt
  ·cases h
set_option maxHeartbeats 4000000
def hasAt (n:Nat):List Bool:=(List.range 25).map fun i=>i % 2 == 1 && Nat.blt i n
def rcX (n:Nat):kai:=⟨lgL,[hasAt n]⟩
def rcE:List (Nat×List Int×Int):=(List.range 24).flatMap fun i=>[(i+1,[],(i:Int)),(max (i+1) 2,[],(i:Int)),(max (i+1) 2,[0,0],(i:Int))]
def rcB (sy:List Int) (k:Int):Bool:=match sy with
 | []=>k == 0
 | _=>decide (2<=k) && k % 2 == 0
def rcL (sy:List Int):FV:=match sy with
 | [] => .atom (.slice none 0 0)
 | _ => .lst 1 sy.length (sy.map eI)
def fxR:List (Nat×List FV×FV):=rcE.map fun q=>(159,[kcz (rcX q.1),rcL q.2.1,eI q.2.2], .atom (.bool (rcB q.2.1 q.2.2)))
theorem kakz:rcE.map (fun q=>kg6 (rcX q.1) q.2.1 q.2.2)=rcE.map (fun q=>some (rcB q.2.1 q.2.2)):=by kernel_rfl
theorem rc_le:rcE.all (fun q=>klu [kcz (rcX q.1),rcL q.2.1,eI q.2.2] [kcz (rcX q.1),eL 1 eI q.2.1,eI q.2.2])=true:=by kernel_rfl
theorem kaje:∀ p∈fxR,PCall prog p.1 p.2.1 p.2.2:=fun p hp=>by obtain ⟨q,a,rfl⟩:=qaz.1 hp;have h:=List.map_inj_left.1 kakz q a;have h:=kk8 _ _ _ _ h;exact h.le (qp.1 rc_le q a)
theorem kaim:PCall prog 127 [lgT] (kcz (rcX 25)):=kud (kxv fxR kaje) 2000
end Go.Proofs.YtgebfaidgikieaaGreatDoor
