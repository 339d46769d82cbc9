import Derived.Test.YtjpkdegjcilndaaGreatDoorTT
import Derived.Test.YtjpkdegjcilndaaGreatDoorVE
import Derived.Test.YtjpkdegjcilndaaGreatDoorEE
set_option linter.unusedVariables false
namespace Go.Proofs.YtjpkdegjcilndaaGreatDoor
open Go Go.RowKit Go.Proofs.Tryz
noncomputable def exF:FT:=(.nd 86 Tryz.f86 (.nd 50 Tryz.f50 (.nd 30 Tryz.f30 (.nd 16 Tryz.f16 (.nd 13 Tryz.f13 (.nd 9 Tryz.f9 (.nd 6 Tryz.f6 .lf .lf) (.nd 11 Tryz.f11 .lf .lf)) (.nd 15 Tryz.f15 (.nd 14 Tryz.f14 .lf .lf) .lf)) (.nd 20 Tryz.f20 (.nd 19 Tryz.f19 (.nd 18 Tryz.f18 .lf .lf) .lf) (.nd 29 Tryz.f29 (.nd 28 Tryz.f28 .lf .lf) .lf))) (.nd 42 Tryz.f42 (.nd 39 Tryz.f39 (.nd 32 Tryz.f32 (.nd 31 Tryz.f31 .lf .lf) (.nd 33 Tryz.f33 .lf .lf)) (.nd 41 Tryz.f41 (.nd 40 Tryz.f40 .lf .lf) .lf)) (.nd 45 Tryz.f45 (.nd 44 Tryz.f44 (.nd 43 Tryz.f43 .lf .lf) .lf) (.nd 47 Tryz.f47 (.nd 46 Tryz.f46 .lf .lf) .lf)))) (.nd 70 Tryz.f70 (.nd 64 Tryz.f64 (.nd 54 Tryz.f54 (.nd 52 Tryz.f52 (.nd 51 Tryz.f51 .lf .lf) (.nd 53 Tryz.f53 .lf .lf)) (.nd 56 Tryz.f56 (.nd 55 Tryz.f55 .lf .lf) .lf)) (.nd 67 Tryz.f67 (.nd 66 Tryz.f66 (.nd 65 Tryz.f65 .lf .lf) .lf) (.nd 69 Tryz.f69 (.nd 68 Tryz.f68 .lf .lf) .lf))) (.nd 76 Tryz.f76 (.nd 73 Tryz.f73 (.nd 72 Tryz.f72 (.nd 71 Tryz.f71 .lf .lf) .lf) (.nd 75 Tryz.f75 (.nd 74 Tryz.f74 .lf .lf) .lf)) (.nd 83 Tryz.f83 (.nd 82 Tryz.f82 (.nd 81 Tryz.f81 .lf .lf) .lf) (.nd 85 Tryz.f85 (.nd 84 Tryz.f84 .lf .lf) .lf))))) (.nd 126 Tryz.f126 (.nd 110 Tryz.f110 (.nd 97 Tryz.f97 (.nd 91 Tryz.f91 (.nd 88 Tryz.f88 (.nd 87 Tryz.f87 .lf .lf) (.nd 89 Tryz.f89 .lf .lf)) (.nd 96 Tryz.f96 (.nd 93 Tryz.f93 .lf .lf) .lf)) (.nd 107 Tryz.f107 (.nd 106 Tryz.f106 (.nd 105 Tryz.f105 .lf .lf) .lf) (.nd 109 Tryz.f109 (.nd 108 Tryz.f108 .lf .lf) .lf))) (.nd 116 Tryz.f116 (.nd 113 Tryz.f113 (.nd 112 Tryz.f112 (.nd 111 Tryz.f111 .lf .lf) .lf) (.nd 115 Tryz.f115 (.nd 114 Tryz.f114 .lf .lf) .lf)) (.nd 119 Tryz.f119 (.nd 118 Tryz.f118 (.nd 117 Tryz.f117 .lf .lf) .lf) (.nd 125 Tryz.f125 (.nd 120 Tryz.f120 .lf .lf) .lf)))) (.nd 157 Tryz.f157 (.nd 151 Tryz.f151 (.nd 140 Tryz.f140 (.nd 136 Tryz.f136 (.nd 135 Tryz.f135 .lf .lf) (.nd 138 Tryz.f138 .lf .lf)) (.nd 147 Tryz.f147 (.nd 146 Tryz.f146 .lf .lf) .lf)) (.nd 154 Tryz.f154 (.nd 153 Tryz.f153 (.nd 152 Tryz.f152 .lf .lf) .lf) (.nd 156 Tryz.f156 (.nd 155 Tryz.f155 .lf .lf) .lf))) (.nd 184 Tryz.f184 (.nd 170 Tryz.f170 (.nd 159 Tryz.f159 (.nd 158 Tryz.f158 .lf .lf) .lf) (.nd 179 Tryz.f179 (.nd 174 Tryz.f174 .lf .lf) .lf)) (.nd 195 Tryz.f195 (.nd 191 Tryz.f191 (.nd 190 Tryz.f190 .lf .lf) .lf) (.nd 203 Tryz.f203 (.nd 197 Tryz.f197 .lf .lf) .lf))))))
def exZ:List (TypeId×Value):=[(2, .int .i64 0),(4, .bool false)]
def exP:List Nat:=[6,11,15,19,20,28,29,33,39,40,41,45,50,51,52,53,54,64,65,66,69,70,71,72,74,76,86,87,88,93,105,106,107,110,111,112,116,117,119,135,138,146,147,152,158,170,179,190,191,195,197,203,17,75]
def exM:List Nat:=[14]
def exN:List Nat:=[]
theorem kal5:exF.ok prog:=FT.ok_of (by kernel_rfl)
theorem kanb:ZOk prog exZ:=by
 intro p hp;simp only [exZ,qac,List.not_mem_nil,or_false] at hp;rcases hp with rfl | rfl;exact ⟨_,show prog.info? 2=some Tryz.t2 from by kernel_rfl,by kernel_rfl⟩
 ·exact ⟨_,show prog.info? 4=some Tryz.t4 from by kernel_rfl,by kernel_rfl⟩
def exI:List Nat:=[210]
theorem kalt:∀ f∈exI,IbOk prog f:=by intro f a;simp only [exI,qac,List.not_mem_nil,or_false] at a;subst a;exact ⟨Tryz.f210,func210,by kernel_rfl,by kernel_rfl,by kernel_rfl,rfl⟩
noncomputable def exC (fx:List (Nat×List FV×FV)):Cx:={ T:=TT,Z:=exZ,fn:=exF,mu:=exM,pu:=exP,fx:=fx,ib:=exI,nf:=exN }
theorem kxv (fx:List (Nat×List FV×FV)) (h:∀ p∈fx,PCall prog p.1 p.2.1 p.2.2):CxOk prog (exC fx):=⟨tt_ok,kanb,kal5,h,kalt,by kernel_rfl⟩
-- 6 synthesis/synthesislaw34.awake
-- 9 synthesis/sketch.Open
-- 11 synthesis/synthesisref34.Same
-- 13 synthesis/synthesislaw34.language
-- 14 synthesis/synthesislaw34.draft
-- 15 synthesis/sketch.Count
-- 16 synthesis/sketch.All
-- 18 synthesis/sketch.Fill
-- 19 synthesis/sketch.Check
-- 20 synthesis/synthesisref13.Compare
-- 28 synthesis/grammar.Check
-- 29 synthesis/term.Check
-- 30 synthesis/term.At
-- 31 synthesis/enumerate.UpTo
-- 32 synthesis/sketch.body
-- 33 synthesis/sketch.levels
-- 39 synthesis/synthesisref34.SameBody
-- 40 synthesis/synthesisref13.Same
-- 41 synthesis/sketch.numbered
-- 42 synthesis/sketch.choices
-- 43 synthesis/sketch.fill
-- 44 slices.SortFunc[[]synthesis/api.Term,synthesis/api.Term]
-- 45 synthesis/term.Compare
-- 46 slices.CompactFunc[[]synthesis/api.Term,synthesis/api.Term]
-- 47 synthesis/sketch.All$1
-- 50 synthesis/sketch.hole
-- 51 synthesis/sketch.node
-- 52 synthesis/synthesisref13.order
-- 53 synthesis/synthesisref13.Size
-- 54 synthesis/synthesisref13.CompareInts
-- 55 synthesis/synthesisref13.Rules
-- 56 synthesis/synthesisref13.arities
-- 64 synthesis/grammar.named
-- 65 synthesis/grammar.typed
-- 66 synthesis/grammar.rule
-- 67 slices.ContainsFunc[[]synthesis/api.Rule,synthesis/api.Rule]
-- 68 synthesis/grammar.Check$1
-- 69 synthesis/grammar.sameRule
-- 70 synthesis/term.within
-- 71 synthesis/term.shallow
-- 72 synthesis/term.derived
-- 73 synthesis/term.clone
-- 74 synthesis/counting.Total
-- 75 synthesis/enumerate.Terms
-- 76 synthesis/term.Depth
-- 81 slices.ContainsFunc[[]synthesis/api.Sketch,synthesis/api.Sketch]
-- 82 synthesis/sketch.numbered$1
-- 83 synthesis/sketch.copied
-- 84 synthesis/sketch.made
-- 85 slices.pdqsortCmpFunc[synthesis/api.Term]
-- 86 math/bits.Len
-- 87 synthesis/term.Size
-- 88 synthesis/term.lexical
-- 89 synthesis/term.Rules
-- 91 synthesis/term.collect
-- 93 strconv.Itoa
-- 96 slices.ContainsFunc[[]synthesis/api.Term,synthesis/api.Term]
-- 97 synthesis/sketch.hole$1
-- 105 synthesis/grammar.symbol
-- 106 synthesis/grammar.same
-- 107 synthesis/value.Check
-- 108 synthesis/operator.Find
-- 109 slices.IndexFunc[[]synthesis/api.Rule,synthesis/api.Rule]
-- 110 slices.Equal[[]int,int]
-- 111 synthesis/value.Equal
-- 112 synthesis/counting.check
-- 113 synthesis/counting.open
-- 114 synthesis/counting.counted
-- 115 synthesis/counting.Total$1
-- 116 synthesis/counting.permitted
-- 117 synthesis/counting.plus
-- 118 (*synthesis/counting.counter).terms
-- 119 synthesis/counting.Count
-- 120 synthesis/enumerate.open
-- 125 slices.IndexFunc[[]synthesis/api.Sketch,synthesis/api.Sketch]
-- 126 slices.insertionSortCmpFunc[synthesis/api.Term]
-- 135 math/bits.Len64
-- 136 synthesis/term.Rules$1
-- 138 internal/strconv.Itoa
-- 140 slices.IndexFunc[[]synthesis/api.Term,synthesis/api.Term]
-- 146 synthesis/value.unused
-- 147 synthesis/value.ranged
-- 151 synthesis/operator.find
-- 152 synthesis/value.Compare
-- 153 synthesis/counting.counted$1
-- 154 synthesis/grammar.Of
-- 155 (*synthesis/counting.counter).lists
-- 156 synthesis/counting.args
-- 157 synthesis/counting.Count$1
-- 158 (synthesis/enumerate.lister).reach
-- 159 (synthesis/enumerate.lister).args
-- 170 internal/strconv.FormatInt
-- 174 synthesis/operator.catalog
-- 179 internal/strconv.small
-- 184 synthesis/operator.family
-- 190 strings.Cut
-- 191 synthesis/operator.typeOf
-- 195 internal/stringslite.Cut
-- 197 internal/stringslite.Index
-- 203 internal/stringslite.IndexByte
-- 210 internal/bytealg.IndexByteString
-- PU synthesis/synthesislaw34.awake
-- PU synthesis/synthesisref34.Same
-- PU synthesis/sketch.Count
-- PU synthesis/sketch.Check
-- PU synthesis/synthesisref13.Compare
-- PU synthesis/grammar.Check
-- PU synthesis/term.Check
-- PU synthesis/sketch.levels
-- PU synthesis/synthesisref34.SameBody
-- PU synthesis/synthesisref13.Same
-- PU synthesis/sketch.numbered
-- PU synthesis/term.Compare
-- PU synthesis/sketch.hole
-- PU synthesis/sketch.node
-- PU synthesis/synthesisref13.order
-- PU synthesis/synthesisref13.Size
-- PU synthesis/synthesisref13.CompareInts
-- PU synthesis/grammar.named
-- PU synthesis/grammar.typed
-- PU synthesis/grammar.rule
-- PU synthesis/grammar.sameRule
-- PU synthesis/term.within
-- PU synthesis/term.shallow
-- PU synthesis/term.derived
-- PU synthesis/counting.Total
-- PU synthesis/term.Depth
-- PU math/bits.Len
-- PU synthesis/term.Size
-- PU synthesis/term.lexical
-- PU strconv.Itoa
-- PU synthesis/grammar.symbol
-- PU synthesis/grammar.same
-- PU synthesis/value.Check
-- PU slices.Equal[[]int,int]
-- PU synthesis/value.Equal
-- PU synthesis/counting.check
-- PU synthesis/counting.permitted
-- PU synthesis/counting.plus
-- PU synthesis/counting.Count
-- PU math/bits.Len64
-- PU internal/strconv.Itoa
-- PU synthesis/value.unused
-- PU synthesis/value.ranged
-- PU synthesis/value.Compare
-- PU (synthesis/enumerate.lister).reach
-- PU internal/strconv.FormatInt
-- PU internal/strconv.small
-- PU strings.Cut
-- PU synthesis/operator.typeOf
-- PU internal/stringslite.Cut
-- PU internal/stringslite.Index
-- PU internal/stringslite.IndexByte
-- PU synthesis/sketch.Print
-- PU synthesis/enumerate.Terms
set_option maxRecDepth 100000
def lgF:FV := .agg [.atom (.string ⟨#[110]⟩), .lst 1 1 [.atom (.int .i64 2)], .lst 2 1 [.agg [.atom (.string ⟨#[83]⟩), .atom (.int .i64 2)]], .lst 9 3 [.agg [.atom (.int .i64 0), .atom (.int .i64 1), .atom (.int .i64 0), .atom (.int .i64 0), .atom (.int .i64 0), .atom (.string ⟨#[]⟩), .atom (.slice none 0 0), .atom (.string ⟨#[]⟩), .atom (.slice none 0 0)], .agg [.atom (.int .i64 0), .atom (.int .i64 2), .atom (.int .i64 0), .atom (.int .i64 2), .atom (.int .i64 1), .atom (.string ⟨#[]⟩), .atom (.slice none 0 0), .atom (.string ⟨#[]⟩), .atom (.slice none 0 0)], .agg [.atom (.int .i64 0), .atom (.int .i64 3), .atom (.int .i64 0), .atom (.int .i64 0), .atom (.int .i64 0), .atom (.string ⟨#[]⟩), .atom (.slice none 0 0), .atom (.string ⟨#[97,100,100]⟩), .lst 1 2 [.atom (.int .i64 0), .atom (.int .i64 0)]]]]
def lgT:FV := .agg [.atom (.string ⟨#[110]⟩), .lst 1 1 [.atom (.int .i64 2)], .lst 2 1 [.agg [.atom (.string ⟨#[83]⟩), .atom (.int .i64 2)]], .lst 9 3 [.agg [.atom (.int .i64 0), .atom (.int .i64 1), .atom (.int .i64 0), .atom (.int .i64 0), .atom (.int .i64 0), .atom (.string ⟨#[]⟩), .lst 4 0 [], .atom (.string ⟨#[]⟩), .lst 1 0 []], .agg [.atom (.int .i64 0), .atom (.int .i64 2), .atom (.int .i64 0), .atom (.int .i64 2), .atom (.int .i64 1), .atom (.string ⟨#[]⟩), .lst 4 0 [], .atom (.string ⟨#[]⟩), .lst 1 0 []], .agg [.atom (.int .i64 0), .atom (.int .i64 3), .atom (.int .i64 0), .atom (.int .i64 0), .atom (.int .i64 0), .atom (.string ⟨#[]⟩), .lst 4 0 [], .atom (.string ⟨#[97,100,100]⟩), .lst 1 2 [.atom (.int .i64 0), .atom (.int .i64 0)]]]]
def drF:FV := .agg [.atom (.int .i64 2), .atom (.int .i64 0), .lst 3 2 [.agg [.atom (.int .i64 0), .atom (.int .i64 1), .atom (.slice none 0 0)], .agg [.atom (.int .i64 0), .atom (.int .i64 0), .atom (.slice none 0 0)]], .lst 2 1 [.agg [.atom (.int .i64 0), .lst 2 2 [.agg [.atom (.int .i64 0), .atom (.slice none 0 0)], .agg [.atom (.int .i64 1), .atom (.slice none 0 0)]]]]]
def drT:FV := .agg [.atom (.int .i64 2), .atom (.int .i64 0), .lst 3 2 [.agg [.atom (.int .i64 0), .atom (.int .i64 1), .lst 3 0 []], .agg [.atom (.int .i64 0), .atom (.int .i64 0), .lst 3 0 []]], .lst 2 1 [.agg [.atom (.int .i64 0), .lst 2 2 [.agg [.atom (.int .i64 0), .lst 2 0 []], .agg [.atom (.int .i64 1), .lst 2 0 []]]]]]
def lgL:La:=⟨⟨#[110]⟩,[2],[⟨⟨#[83]⟩,2⟩],[Ru.mk 0 1 0 (Va.mk 0 0 ⟨#[]⟩ []) ⟨#[]⟩ [],Ru.mk 0 2 0 (Va.mk 2 1 ⟨#[]⟩ []) ⟨#[]⟩ [],Ru.mk 0 3 0 (Va.mk 0 0 ⟨#[]⟩ []) ⟨#[97,100,100]⟩ [0,0]]⟩
def drL:Saa:=Saa.mk (Dk.mk 2 0 [Dk.mk 0 1 [],Dk.mk 0 0 []]) [Sab.mk 0 [Tm.mk 0 [],Tm.mk 1 []]]
def kv6 (a0:Va):Option (BA×Int):=none
theorem k0f (a0:Va) (r:BA×Int) (h:kv6 a0=some r):PCall prog 183 [eVa a0] (.tup [eS r.1,eI r.2]):=by cases h
theorem kamr:PCall prog 93 [.atom (.int .i64 0)] (.atom (.string ⟨#[48]⟩)):=kuc (kxv [] (fun p hp=>by cases hp)) 2000
theorem kand:PCall prog 93 [.atom (.int .i64 1)] (.atom (.string ⟨#[49]⟩)):=kuc (kxv [] (fun p hp=>by cases hp)) 2000
def kn3 (a0:Int):Option BA:=if a0=0 then some ⟨#[48]⟩ else if a0=1 then some ⟨#[49]⟩ else none
theorem ksq (a0:Int) (r:BA) (h:kn3 a0=some r):PCall prog 93 [eI a0] (eS r):=by
 unfold kn3 at h;split at h;rename_i e;subst e;obtain rfl:=qw h;exact kamr
 ·split at h;rename_i e;subst e;obtain rfl:=qw h;exact kand
  ·cases h
set_option maxHeartbeats 4000000
def hasAt (n:Nat):List Bool:=(List.range 25).map fun i=>i % 2 == 1 && Nat.blt i n
def rcX (n:Nat):kah:=⟨lgL,[hasAt n]⟩
def rcE:List (Nat×List Int×Int):=(List.range 24).flatMap fun i=>[(i+1,[],(i:Int)),(max (i+1) 2,[],(i:Int)),(max (i+1) 2,[0,0],(i:Int))]
def rcB (sy:List Int) (k:Int):Bool:=match sy with
 | []=>k == 0
 | _=>decide (2<=k) && k % 2 == 0
def rcL (sy:List Int):FV:=match sy with
 | [] => .atom (.slice none 0 0)
 | _ => .lst 1 sy.length (sy.map eI)
def fxR:List (Nat×List FV×FV):=rcE.map fun q=>(158,[kb4 (rcX q.1),rcL q.2.1,eI q.2.2], .atom (.bool (rcB q.2.1 q.2.2)))
theorem kani:rcE.map (fun q=>kci (rcX q.1) q.2.1 q.2.2)=rcE.map (fun q=>some (rcB q.2.1 q.2.2)):=by kernel_rfl
theorem rc_le:rcE.all (fun q=>klr [kb4 (rcX q.1),rcL q.2.1,eI q.2.2] [kb4 (rcX q.1),eL 1 eI q.2.1,eI q.2.2])=true:=by kernel_rfl
theorem kalw:∀ p∈fxR,PCall prog p.1 p.2.1 p.2.2:=fun p hp=>by obtain ⟨q,a,rfl⟩:=qas.1 hp;have h:=List.map_inj_left.1 kani q a;have h:=kh8 _ _ _ _ h;exact h.le (qr.1 rc_le q a)
theorem kak2:PCall prog 120 [lgT] (kb4 (rcX 25)):=kuc (kxv fxR kalw) 2000
end Go.Proofs.YtjpkdegjcilndaaGreatDoor
