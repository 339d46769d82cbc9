import Derived.Test.YtdnfbjahbkpibaaGreatDoorTT
import Derived.Test.YtdnfbjahbkpibaaGreatDoorVE
import Derived.Test.YtdnfbjahbkpibaaGreatDoorEE
set_option linter.unusedVariables false
namespace Go.Proofs.YtdnfbjahbkpibaaGreatDoor
open Go Go.RowKit Go.Proofs.Tryz
noncomputable def exF:FT:=(.nd 64 Tryz.f64 (.nd 37 Tryz.f37 (.nd 22 Tryz.f22 (.nd 15 Tryz.f15 (.nd 11 Tryz.f11 (.nd 7 Tryz.f7 (.nd 6 Tryz.f6 .lf .lf) (.nd 10 Tryz.f10 .lf .lf)) (.nd 13 Tryz.f13 (.nd 12 Tryz.f12 .lf .lf) .lf)) (.nd 19 Tryz.f19 (.nd 17 Tryz.f17 (.nd 16 Tryz.f16 .lf .lf) .lf) (.nd 21 Tryz.f21 (.nd 20 Tryz.f20 .lf .lf) .lf))) (.nd 31 Tryz.f31 (.nd 26 Tryz.f26 (.nd 24 Tryz.f24 (.nd 23 Tryz.f23 .lf .lf) (.nd 25 Tryz.f25 .lf .lf)) (.nd 30 Tryz.f30 (.nd 29 Tryz.f29 .lf .lf) .lf)) (.nd 34 Tryz.f34 (.nd 33 Tryz.f33 (.nd 32 Tryz.f32 .lf .lf) .lf) (.nd 36 Tryz.f36 (.nd 35 Tryz.f35 .lf .lf) .lf)))) (.nd 52 Tryz.f52 (.nd 46 Tryz.f46 (.nd 41 Tryz.f41 (.nd 39 Tryz.f39 (.nd 38 Tryz.f38 .lf .lf) (.nd 40 Tryz.f40 .lf .lf)) (.nd 45 Tryz.f45 (.nd 44 Tryz.f44 .lf .lf) .lf)) (.nd 49 Tryz.f49 (.nd 48 Tryz.f48 (.nd 47 Tryz.f47 .lf .lf) .lf) (.nd 51 Tryz.f51 (.nd 50 Tryz.f50 .lf .lf) .lf))) (.nd 58 Tryz.f58 (.nd 55 Tryz.f55 (.nd 54 Tryz.f54 (.nd 53 Tryz.f53 .lf .lf) .lf) (.nd 57 Tryz.f57 (.nd 56 Tryz.f56 .lf .lf) .lf)) (.nd 61 Tryz.f61 (.nd 60 Tryz.f60 (.nd 59 Tryz.f59 .lf .lf) .lf) (.nd 63 Tryz.f63 (.nd 62 Tryz.f62 .lf .lf) .lf))))) (.nd 94 Tryz.f94 (.nd 81 Tryz.f81 (.nd 73 Tryz.f73 (.nd 69 Tryz.f69 (.nd 66 Tryz.f66 (.nd 65 Tryz.f65 .lf .lf) (.nd 67 Tryz.f67 .lf .lf)) (.nd 71 Tryz.f71 (.nd 70 Tryz.f70 .lf .lf) .lf)) (.nd 78 Tryz.f78 (.nd 77 Tryz.f77 (.nd 76 Tryz.f76 .lf .lf) .lf) (.nd 80 Tryz.f80 (.nd 79 Tryz.f79 .lf .lf) .lf))) (.nd 87 Tryz.f87 (.nd 84 Tryz.f84 (.nd 83 Tryz.f83 (.nd 82 Tryz.f82 .lf .lf) .lf) (.nd 86 Tryz.f86 (.nd 85 Tryz.f85 .lf .lf) .lf)) (.nd 90 Tryz.f90 (.nd 89 Tryz.f89 (.nd 88 Tryz.f88 .lf .lf) .lf) (.nd 93 Tryz.f93 (.nd 91 Tryz.f91 .lf .lf) .lf)))) (.nd 120 Tryz.f120 (.nd 114 Tryz.f114 (.nd 107 Tryz.f107 (.nd 104 Tryz.f104 (.nd 103 Tryz.f103 .lf .lf) (.nd 105 Tryz.f105 .lf .lf)) (.nd 110 Tryz.f110 (.nd 109 Tryz.f109 .lf .lf) .lf)) (.nd 117 Tryz.f117 (.nd 116 Tryz.f116 (.nd 115 Tryz.f115 .lf .lf) .lf) (.nd 119 Tryz.f119 (.nd 118 Tryz.f118 .lf .lf) .lf))) (.nd 145 Tryz.f145 (.nd 132 Tryz.f132 (.nd 122 Tryz.f122 (.nd 121 Tryz.f121 .lf .lf) .lf) (.nd 140 Tryz.f140 (.nd 135 Tryz.f135 .lf .lf) .lf)) (.nd 156 Tryz.f156 (.nd 152 Tryz.f152 (.nd 151 Tryz.f151 .lf .lf) .lf) (.nd 164 Tryz.f164 (.nd 158 Tryz.f158 .lf .lf) .lf))))))
def exZ:List (TypeId×Value):=[(2, .int .i64 0),(4, .bool false)]
def exP:List Nat:=[6,11,12,13,17,20,21,22,26,29,33,36,37,38,39,44,45,46,47,48,51,52,53,54,56,58,64,65,66,73,76,77,78,81,82,83,87,88,90,103,107,109,110,115,121,132,140,151,152,156,158,164,18,57]
def exM:List Nat:=[16]
def exN:List Nat:=[]
theorem kaj7:exF.ok prog:=FT.ok_of (by kernel_rfl)
theorem kald:ZOk prog exZ:=by
 intro p hp;simp only [exZ,qae,List.not_mem_nil,or_false] at hp;rcases hp with rfl | rfl;exact ⟨_,show prog.info? 2=some Tryz.t2 from by kernel_rfl,by kernel_rfl⟩
 ·exact ⟨_,show prog.info? 4=some Tryz.t4 from by kernel_rfl,by kernel_rfl⟩
def exI:List Nat:=[171]
theorem kaju:∀ f∈exI,IbOk prog f:=by intro f a;simp only [exI,qae,List.not_mem_nil,or_false] at a;subst a;exact ⟨Tryz.f171,func171,by kernel_rfl,by kernel_rfl,by kernel_rfl,rfl⟩
noncomputable def exC (fx:List (Nat×List FV×FV)):Cx:={ T:=TT,Z:=exZ,fn:=exF,mu:=exM,pu:=exP,fx:=fx,ib:=exI,nf:=exN }
theorem kvr (fx:List (Nat×List FV×FV)) (h:∀ p∈fx,PCall prog p.1 p.2.1 p.2.2):CxOk prog (exC fx):=⟨tt_ok,kald,kaj7,h,kaju,by kernel_rfl⟩
-- 6 synthesis/synthesislaw34.awake
-- 7 synthesis/sketch.Open
-- 10 synthesis/sketch.All
-- 11 synthesis/sketch.Check
-- 12 synthesis/synthesisref13.Compare
-- 13 synthesis/synthesisref13.Size
-- 15 synthesis/synthesislaw34.language
-- 16 synthesis/synthesislaw34.draft
-- 17 synthesis/sketch.Count
-- 19 synthesis/sketch.Fill
-- 20 synthesis/synthesisref34.Same
-- 21 synthesis/grammar.Check
-- 22 synthesis/term.Check
-- 23 synthesis/term.At
-- 24 synthesis/enumerate.UpTo
-- 25 synthesis/sketch.body
-- 26 synthesis/sketch.levels
-- 29 synthesis/sketch.numbered
-- 30 synthesis/sketch.choices
-- 31 synthesis/sketch.fill
-- 32 slices.SortFunc[[]synthesis/api.Term,synthesis/api.Term]
-- 33 synthesis/term.Compare
-- 34 slices.CompactFunc[[]synthesis/api.Term,synthesis/api.Term]
-- 35 synthesis/sketch.All$1
-- 36 synthesis/sketch.hole
-- 37 synthesis/sketch.node
-- 38 synthesis/synthesisref13.order
-- 39 synthesis/synthesisref13.CompareInts
-- 40 synthesis/synthesisref13.Rules
-- 41 synthesis/synthesisref13.arities
-- 44 synthesis/synthesisref34.SameBody
-- 45 synthesis/synthesisref13.Same
-- 46 synthesis/grammar.named
-- 47 synthesis/grammar.typed
-- 48 synthesis/grammar.rule
-- 49 slices.ContainsFunc[[]synthesis/api.Rule,synthesis/api.Rule]
-- 50 synthesis/grammar.Check$1
-- 51 synthesis/grammar.sameRule
-- 52 synthesis/term.within
-- 53 synthesis/term.shallow
-- 54 synthesis/term.derived
-- 55 synthesis/term.clone
-- 56 synthesis/counting.Total
-- 57 synthesis/enumerate.Terms
-- 58 synthesis/term.Depth
-- 59 slices.ContainsFunc[[]synthesis/api.Sketch,synthesis/api.Sketch]
-- 60 synthesis/sketch.numbered$1
-- 61 synthesis/sketch.copied
-- 62 synthesis/sketch.made
-- 63 slices.pdqsortCmpFunc[synthesis/api.Term]
-- 64 math/bits.Len
-- 65 synthesis/term.Size
-- 66 synthesis/term.lexical
-- 67 synthesis/term.Rules
-- 69 synthesis/term.collect
-- 70 slices.ContainsFunc[[]synthesis/api.Term,synthesis/api.Term]
-- 71 synthesis/sketch.hole$1
-- 73 strconv.Itoa
-- 76 synthesis/grammar.symbol
-- 77 synthesis/grammar.same
-- 78 synthesis/value.Check
-- 79 synthesis/operator.Find
-- 80 slices.IndexFunc[[]synthesis/api.Rule,synthesis/api.Rule]
-- 81 slices.Equal[[]int,int]
-- 82 synthesis/value.Equal
-- 83 synthesis/counting.check
-- 84 synthesis/counting.open
-- 85 synthesis/counting.counted
-- 86 synthesis/counting.Total$1
-- 87 synthesis/counting.permitted
-- 88 synthesis/counting.plus
-- 89 (*synthesis/counting.counter).terms
-- 90 synthesis/counting.Count
-- 91 synthesis/enumerate.open
-- 93 slices.IndexFunc[[]synthesis/api.Sketch,synthesis/api.Sketch]
-- 94 slices.insertionSortCmpFunc[synthesis/api.Term]
-- 103 math/bits.Len64
-- 104 synthesis/term.Rules$1
-- 105 slices.IndexFunc[[]synthesis/api.Term,synthesis/api.Term]
-- 107 internal/strconv.Itoa
-- 109 synthesis/value.unused
-- 110 synthesis/value.ranged
-- 114 synthesis/operator.find
-- 115 synthesis/value.Compare
-- 116 synthesis/counting.counted$1
-- 117 synthesis/grammar.Of
-- 118 (*synthesis/counting.counter).lists
-- 119 synthesis/counting.args
-- 120 synthesis/counting.Count$1
-- 121 (synthesis/enumerate.lister).reach
-- 122 (synthesis/enumerate.lister).args
-- 132 internal/strconv.FormatInt
-- 135 synthesis/operator.catalog
-- 140 internal/strconv.small
-- 145 synthesis/operator.family
-- 151 strings.Cut
-- 152 synthesis/operator.typeOf
-- 156 internal/stringslite.Cut
-- 158 internal/stringslite.Index
-- 164 internal/stringslite.IndexByte
-- 171 internal/bytealg.IndexByteString
-- PU synthesis/synthesislaw34.awake
-- PU synthesis/sketch.Check
-- PU synthesis/synthesisref13.Compare
-- PU synthesis/synthesisref13.Size
-- PU synthesis/sketch.Count
-- PU synthesis/synthesisref34.Same
-- PU synthesis/grammar.Check
-- PU synthesis/term.Check
-- PU synthesis/sketch.levels
-- PU synthesis/sketch.numbered
-- PU synthesis/term.Compare
-- PU synthesis/sketch.hole
-- PU synthesis/sketch.node
-- PU synthesis/synthesisref13.order
-- PU synthesis/synthesisref13.CompareInts
-- PU synthesis/synthesisref34.SameBody
-- PU synthesis/synthesisref13.Same
-- PU synthesis/grammar.named
-- PU synthesis/grammar.typed
-- PU synthesis/grammar.rule
-- PU synthesis/grammar.sameRule
-- PU synthesis/term.within
-- PU synthesis/term.shallow
-- PU synthesis/term.derived
-- PU synthesis/counting.Total
-- PU synthesis/term.Depth
-- PU math/bits.Len
-- PU synthesis/term.Size
-- PU synthesis/term.lexical
-- PU strconv.Itoa
-- PU synthesis/grammar.symbol
-- PU synthesis/grammar.same
-- PU synthesis/value.Check
-- PU slices.Equal[[]int,int]
-- PU synthesis/value.Equal
-- PU synthesis/counting.check
-- PU synthesis/counting.permitted
-- PU synthesis/counting.plus
-- PU synthesis/counting.Count
-- PU math/bits.Len64
-- PU internal/strconv.Itoa
-- PU synthesis/value.unused
-- PU synthesis/value.ranged
-- PU synthesis/value.Compare
-- PU (synthesis/enumerate.lister).reach
-- PU internal/strconv.FormatInt
-- PU internal/strconv.small
-- PU strings.Cut
-- PU synthesis/operator.typeOf
-- PU internal/stringslite.Cut
-- PU internal/stringslite.Index
-- PU internal/stringslite.IndexByte
-- PU synthesis/sketch.Print
-- PU synthesis/enumerate.Terms
set_option maxRecDepth 100000
def lgF:FV := .agg [.atom (.string ⟨#[110]⟩), .lst 1 1 [.atom (.int .i64 2)], .lst 2 1 [.agg [.atom (.string ⟨#[83]⟩), .atom (.int .i64 2)]], .lst 9 3 [.agg [.atom (.int .i64 0), .atom (.int .i64 1), .atom (.int .i64 0), .atom (.int .i64 0), .atom (.int .i64 0), .atom (.string ⟨#[]⟩), .atom (.slice none 0 0), .atom (.string ⟨#[]⟩), .atom (.slice none 0 0)], .agg [.atom (.int .i64 0), .atom (.int .i64 2), .atom (.int .i64 0), .atom (.int .i64 2), .atom (.int .i64 1), .atom (.string ⟨#[]⟩), .atom (.slice none 0 0), .atom (.string ⟨#[]⟩), .atom (.slice none 0 0)], .agg [.atom (.int .i64 0), .atom (.int .i64 3), .atom (.int .i64 0), .atom (.int .i64 0), .atom (.int .i64 0), .atom (.string ⟨#[]⟩), .atom (.slice none 0 0), .atom (.string ⟨#[97,100,100]⟩), .lst 1 2 [.atom (.int .i64 0), .atom (.int .i64 0)]]]]
def lgT:FV := .agg [.atom (.string ⟨#[110]⟩), .lst 1 1 [.atom (.int .i64 2)], .lst 2 1 [.agg [.atom (.string ⟨#[83]⟩), .atom (.int .i64 2)]], .lst 9 3 [.agg [.atom (.int .i64 0), .atom (.int .i64 1), .atom (.int .i64 0), .atom (.int .i64 0), .atom (.int .i64 0), .atom (.string ⟨#[]⟩), .lst 4 0 [], .atom (.string ⟨#[]⟩), .lst 1 0 []], .agg [.atom (.int .i64 0), .atom (.int .i64 2), .atom (.int .i64 0), .atom (.int .i64 2), .atom (.int .i64 1), .atom (.string ⟨#[]⟩), .lst 4 0 [], .atom (.string ⟨#[]⟩), .lst 1 0 []], .agg [.atom (.int .i64 0), .atom (.int .i64 3), .atom (.int .i64 0), .atom (.int .i64 0), .atom (.int .i64 0), .atom (.string ⟨#[]⟩), .lst 4 0 [], .atom (.string ⟨#[97,100,100]⟩), .lst 1 2 [.atom (.int .i64 0), .atom (.int .i64 0)]]]]
def drF:FV := .agg [.atom (.int .i64 2), .atom (.int .i64 0), .lst 3 2 [.agg [.atom (.int .i64 0), .atom (.int .i64 1), .atom (.slice none 0 0)], .agg [.atom (.int .i64 0), .atom (.int .i64 0), .atom (.slice none 0 0)]], .lst 2 1 [.agg [.atom (.int .i64 0), .lst 2 2 [.agg [.atom (.int .i64 0), .atom (.slice none 0 0)], .agg [.atom (.int .i64 1), .atom (.slice none 0 0)]]]]]
def drT:FV := .agg [.atom (.int .i64 2), .atom (.int .i64 0), .lst 3 2 [.agg [.atom (.int .i64 0), .atom (.int .i64 1), .lst 3 0 []], .agg [.atom (.int .i64 0), .atom (.int .i64 0), .lst 3 0 []]], .lst 2 1 [.agg [.atom (.int .i64 0), .lst 2 2 [.agg [.atom (.int .i64 0), .lst 2 0 []], .agg [.atom (.int .i64 1), .lst 2 0 []]]]]]
def lgL:La:=⟨⟨#[110]⟩,[2],[⟨⟨#[83]⟩,2⟩],[Ru.mk 0 1 0 (Va.mk 0 0 ⟨#[]⟩ []) ⟨#[]⟩ [],Ru.mk 0 2 0 (Va.mk 2 1 ⟨#[]⟩ []) ⟨#[]⟩ [],Ru.mk 0 3 0 (Va.mk 0 0 ⟨#[]⟩ []) ⟨#[97,100,100]⟩ [0,0]]⟩
def drL:Saa:=Saa.mk (Dk.mk 2 0 [Dk.mk 0 1 [],Dk.mk 0 0 []]) [Sab.mk 0 [Tm.mk 0 [],Tm.mk 1 []]]
def kt5 (a0:Va):Option (BA×Int):=none
theorem kyb (a0:Va) (r:BA×Int) (h:kt5 a0=some r):PCall prog 144 [eVa a0] (.tup [eS r.1,eI r.2]):=by cases h
theorem kaks:PCall prog 73 [.atom (.int .i64 0)] (.atom (.string ⟨#[48]⟩)):=kse (kvr [] (fun p hp=>by cases hp)) 2000
theorem kalf:PCall prog 73 [.atom (.int .i64 1)] (.atom (.string ⟨#[49]⟩)):=kse (kvr [] (fun p hp=>by cases hp)) 2000
def km5 (a0:Int):Option BA:=if a0=0 then some ⟨#[48]⟩ else if a0=1 then some ⟨#[49]⟩ else none
theorem kq8 (a0:Int) (r:BA) (h:km5 a0=some r):PCall prog 73 [eI a0] (eS r):=by
 unfold km5 at h;split at h;rename_i e;subst e;obtain rfl:=qs h;exact kaks
 ·split at h;rename_i e;subst e;obtain rfl:=qs h;exact kalf
  ·cases h
set_option maxHeartbeats 4000000
def hasAt (n:Nat):List Bool:=(List.range 25).map fun i=>i % 2 == 1 && Nat.blt i n
def rcX (n:Nat):kah:=⟨lgL,[hasAt n]⟩
def rcE:List (Nat×List Int×Int):=(List.range 24).flatMap fun i=>[(i+1,[],(i:Int)),(max (i+1) 2,[],(i:Int)),(max (i+1) 2,[0,0],(i:Int))]
def rcB (sy:List Int) (k:Int):Bool:=match sy with
 | []=>k == 0
 | _=>decide (2<=k) && k % 2 == 0
def rcL (sy:List Int):FV:=match sy with
 | [] => .atom (.slice none 0 0)
 | _ => .lst 1 sy.length (sy.map eI)
def fxR:List (Nat×List FV×FV):=rcE.map fun q=>(121,[kbw (rcX q.1),rcL q.2.1,eI q.2.2], .atom (.bool (rcB q.2.1 q.2.2)))
theorem kalj:rcE.map (fun q=>kb4 (rcX q.1) q.2.1 q.2.2)=rcE.map (fun q=>some (rcB q.2.1 q.2.2)):=by kernel_rfl
theorem rc_le:rcE.all (fun q=>kk5 [kbw (rcX q.1),rcL q.2.1,eI q.2.2] [kbw (rcX q.1),eL 1 eI q.2.1,eI q.2.2])=true:=by kernel_rfl
theorem kajz:∀ p∈fxR,PCall prog p.1 p.2.1 p.2.2:=fun p hp=>by obtain ⟨q,a,rfl⟩:=qai.1 hp;have h:=List.map_inj_left.1 kalj q a;have h:=khd _ _ _ _ h;exact h.le (qu.1 rc_le q a)
theorem kai2:PCall prog 91 [lgT] (kbw (rcX 25)):=kse (kvr fxR kajz) 2000
end Go.Proofs.YtdnfbjahbkpibaaGreatDoor
