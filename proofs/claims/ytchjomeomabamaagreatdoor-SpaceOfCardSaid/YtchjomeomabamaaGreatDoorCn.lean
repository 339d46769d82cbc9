import Derived.Test.YtchjomeomabamaaGreatDoorGl
import Derived.Test.YtchjomeomabamaaGreatDoorVE
import Derived.Test.YtchjomeomabamaaGreatDoorGl
set_option linter.unusedVariables false
namespace Go.Proofs.YtchjomeomabamaaGreatDoor
open Go Go.RowKit Go.Proofs.Tryz
noncomputable def exF:FT:=(.nd 96 Tryz.f96 (.nd 50 Tryz.f50 (.nd 25 Tryz.f25 (.nd 17 Tryz.f17 (.nd 13 Tryz.f13 (.nd 7 Tryz.f7 (.nd 5 Tryz.f5 .lf .lf) (.nd 12 Tryz.f12 .lf .lf)) (.nd 15 Tryz.f15 (.nd 14 Tryz.f14 .lf .lf) (.nd 16 Tryz.f16 .lf .lf))) (.nd 21 Tryz.f21 (.nd 19 Tryz.f19 (.nd 18 Tryz.f18 .lf .lf) (.nd 20 Tryz.f20 .lf .lf)) (.nd 23 Tryz.f23 (.nd 22 Tryz.f22 .lf .lf) .lf))) (.nd 43 Tryz.f43 (.nd 29 Tryz.f29 (.nd 27 Tryz.f27 (.nd 26 Tryz.f26 .lf .lf) (.nd 28 Tryz.f28 .lf .lf)) (.nd 31 Tryz.f31 (.nd 30 Tryz.f30 .lf .lf) (.nd 34 Tryz.f34 .lf .lf))) (.nd 47 Tryz.f47 (.nd 45 Tryz.f45 (.nd 44 Tryz.f44 .lf .lf) (.nd 46 Tryz.f46 .lf .lf)) (.nd 49 Tryz.f49 (.nd 48 Tryz.f48 .lf .lf) .lf)))) (.nd 66 Tryz.f66 (.nd 59 Tryz.f59 (.nd 55 Tryz.f55 (.nd 53 Tryz.f53 (.nd 51 Tryz.f51 .lf .lf) (.nd 54 Tryz.f54 .lf .lf)) (.nd 57 Tryz.f57 (.nd 56 Tryz.f56 .lf .lf) (.nd 58 Tryz.f58 .lf .lf))) (.nd 63 Tryz.f63 (.nd 61 Tryz.f61 (.nd 60 Tryz.f60 .lf .lf) (.nd 62 Tryz.f62 .lf .lf)) (.nd 65 Tryz.f65 (.nd 64 Tryz.f64 .lf .lf) .lf))) (.nd 74 Tryz.f74 (.nd 70 Tryz.f70 (.nd 68 Tryz.f68 (.nd 67 Tryz.f67 .lf .lf) (.nd 69 Tryz.f69 .lf .lf)) (.nd 72 Tryz.f72 (.nd 71 Tryz.f71 .lf .lf) (.nd 73 Tryz.f73 .lf .lf))) (.nd 78 Tryz.f78 (.nd 76 Tryz.f76 (.nd 75 Tryz.f75 .lf .lf) (.nd 77 Tryz.f77 .lf .lf)) (.nd 95 Tryz.f95 (.nd 94 Tryz.f94 .lf .lf) .lf))))) (.nd 134 Tryz.f134 (.nd 118 Tryz.f118 (.nd 108 Tryz.f108 (.nd 104 Tryz.f104 (.nd 102 Tryz.f102 (.nd 101 Tryz.f101 .lf .lf) (.nd 103 Tryz.f103 .lf .lf)) (.nd 106 Tryz.f106 (.nd 105 Tryz.f105 .lf .lf) (.nd 107 Tryz.f107 .lf .lf))) (.nd 115 Tryz.f115 (.nd 113 Tryz.f113 (.nd 109 Tryz.f109 .lf .lf) (.nd 114 Tryz.f114 .lf .lf)) (.nd 117 Tryz.f117 (.nd 116 Tryz.f116 .lf .lf) .lf))) (.nd 127 Tryz.f127 (.nd 122 Tryz.f122 (.nd 120 Tryz.f120 (.nd 119 Tryz.f119 .lf .lf) (.nd 121 Tryz.f121 .lf .lf)) (.nd 124 Tryz.f124 (.nd 123 Tryz.f123 .lf .lf) (.nd 126 Tryz.f126 .lf .lf))) (.nd 131 Tryz.f131 (.nd 129 Tryz.f129 (.nd 128 Tryz.f128 .lf .lf) (.nd 130 Tryz.f130 .lf .lf)) (.nd 133 Tryz.f133 (.nd 132 Tryz.f132 .lf .lf) .lf)))) (.nd 188 Tryz.f188 (.nd 169 Tryz.f169 (.nd 165 Tryz.f165 (.nd 144 Tryz.f144 (.nd 140 Tryz.f140 .lf .lf) (.nd 155 Tryz.f155 .lf .lf)) (.nd 167 Tryz.f167 (.nd 166 Tryz.f166 .lf .lf) (.nd 168 Tryz.f168 .lf .lf))) (.nd 180 Tryz.f180 (.nd 178 Tryz.f178 (.nd 170 Tryz.f170 .lf .lf) (.nd 179 Tryz.f179 .lf .lf)) (.nd 187 Tryz.f187 (.nd 181 Tryz.f181 .lf .lf) .lf))) (.nd 222 Tryz.f222 (.nd 211 Tryz.f211 (.nd 204 Tryz.f204 (.nd 189 Tryz.f189 .lf .lf) (.nd 205 Tryz.f205 .lf .lf)) (.nd 221 Tryz.f221 (.nd 212 Tryz.f212 .lf .lf) .lf)) (.nd 230 Tryz.f230 (.nd 225 Tryz.f225 (.nd 224 Tryz.f224 .lf .lf) (.nd 226 Tryz.f226 .lf .lf)) (.nd 238 Tryz.f238 (.nd 235 Tryz.f235 .lf .lf) .lf))))))
def exZ:List (TypeId×Value):=[(2, .int .i64 0),(3, .int .i64 0),(4, .bool false),(101, .slice none 0 0)]
def exP:List Nat:=[5,18,19,20,21,22,23,25,26,34,46,48,53,55,57,59,60,63,65,68,69,70,71,74,75,78,96,101,102,105,113,120,121,123,124,128,129,130,131,132,133,140,144,165,167,178,181,188,204,205,224,225,226,230,235,238,12,16,7,56]
def exM:List Nat:=[13]
def exN:List Nat:=[7,16,56]
theorem kafb:exF.ok prog:=FT.ok_of (by kernel_rfl)
theorem kagb:ZOk prog exZ:=by
 intro p hp;simp only [exZ,qam,List.not_mem_nil,or_false] at hp;rcases hp with rfl | rfl | rfl | rfl;exact ⟨_,show prog.info? 2=some Tryz.t2 from by kernel_rfl,by kernel_rfl⟩;exact ⟨_,show prog.info? 3=some Tryz.t3 from by kernel_rfl,by kernel_rfl⟩;exact ⟨_,show prog.info? 4=some Tryz.t4 from by kernel_rfl,by kernel_rfl⟩
 ·exact ⟨_,show prog.info? 101=some Tryz.t101 from by kernel_rfl,by kernel_rfl⟩
def exI:List Nat:=[242]
theorem kaez:∀ f∈exI,IbOk prog f:=by intro f hf;simp only [exI,qam,List.not_mem_nil,or_false] at hf;subst hf;exact ⟨Tryz.f242,func242,by kernel_rfl,by kernel_rfl,by kernel_rfl,rfl⟩
noncomputable def exC (fx:List (Nat×List FV×FV)):Cx:={ T:=TT,Z:=exZ,fn:=exF,mu:=exM,pu:=exP,fx:=fx,ib:=exI,nf:=exN }
theorem k8w (fx:List (Nat×List FV×FV)) (h:∀ p∈fx,PCall prog p.1 p.2.1 p.2.2):CxOk prog (exC fx):=⟨kak,kagb,kafb,h,kaez,by kernel_rfl⟩
-- 5 synthesis/synthesislaw25.awake
-- 7 synthesis/space.Of
-- 12 synthesis/synthesislaw25.sums
-- 13 synthesis/synthesislaw25.two
-- 14 synthesis/space.Terms
-- 15 synthesis/space.All
-- 16 synthesis/synthesislaw25.double
-- 17 synthesis/space.Trim
-- 18 synthesis/space.Check
-- 19 synthesis/synthesisref13.Same
-- 20 synthesis/synthesisref13.Compare
-- 21 synthesis/space.Contains
-- 22 synthesis/space.Empty
-- 23 synthesis/synthesisref26.Equal
-- 25 synthesis/grammar.Check
-- 26 synthesis/space.check
-- 27 synthesis/space.newPool
-- 28 (*synthesis/space.pool).add
-- 29 slices.Clone[[]int,int]
-- 30 slices.Sort[[]int,int]
-- 31 slices.Compact[[]int,int]
-- 34 synthesis/synthesisref13.Size
-- 43 (*synthesis/space.pool).expand
-- 44 (*synthesis/space.pool).term
-- 45 slices.SortFunc[[]synthesis/api.Term,synthesis/api.Term]
-- 46 synthesis/term.Compare
-- 47 slices.Repeat[[]int,int]
-- 48 synthesis/counting.Count
-- 49 synthesis/grammar.Of
-- 50 (synthesis/space.grid).options
-- 51 slices.SortFunc[[]synthesis/api.Option,synthesis/api.Option]
-- 53 synthesis/space.formed
-- 54 synthesis/space.filled
-- 55 synthesis/space.whole
-- 56 synthesis/space.renumbered
-- 57 slices.Equal[synthesis/space.shape,int]
-- 58 synthesis/space.shapeOf
-- 59 synthesis/synthesisref13.order
-- 60 synthesis/synthesisref13.CompareInts
-- 61 synthesis/synthesisref13.Rules
-- 62 synthesis/synthesisref13.arities
-- 63 synthesis/space.small
-- 64 synthesis/space.owners
-- 65 slices.Contains[[]int,int]
-- 66 slices.ContainsFunc[[]int,int]
-- 67 synthesis/space.Empty$1
-- 68 synthesis/synthesisref26.compareOptions
-- 69 synthesis/grammar.named
-- 70 synthesis/grammar.typed
-- 71 synthesis/grammar.rule
-- 72 slices.ContainsFunc[[]synthesis/api.Rule,synthesis/api.Rule]
-- 73 synthesis/grammar.Check$1
-- 74 synthesis/grammar.sameRule
-- 75 synthesis/term.Check
-- 76 (*synthesis/space.pool).put
-- 77 slices.pdqsortOrdered[int]
-- 78 math/bits.Len
-- 94 (*synthesis/space.pool).expand$1
-- 95 slices.pdqsortCmpFunc[synthesis/api.Term]
-- 96 synthesis/term.Size
-- 101 math/bits.Mul
-- 102 synthesis/counting.check
-- 103 synthesis/counting.counted
-- 104 synthesis/counting.Count$1
-- 105 synthesis/counting.permitted
-- 106 synthesis/counting.open
-- 107 (*synthesis/counting.counter).terms
-- 108 (synthesis/space.grid).options$1
-- 109 slices.pdqsortCmpFunc[synthesis/api.Option]
-- 113 synthesis/space.ascending
-- 114 slices.ContainsFunc[[]synthesis/api.Option,synthesis/api.Option]
-- 115 synthesis/space.filled$1
-- 116 synthesis/space.small$1
-- 117 slices.ContainsFunc[[]synthesis/api.Term,synthesis/api.Term]
-- 118 synthesis/space.small$1$1
-- 119 synthesis/space.owners$1
-- 120 synthesis/space.belongs
-- 121 slices.Index[[]int,int]
-- 122 slices.IndexFunc[[]int,int]
-- 123 synthesis/grammar.symbol
-- 124 synthesis/grammar.same
-- 126 synthesis/operator.Find
-- 127 slices.IndexFunc[[]synthesis/api.Rule,synthesis/api.Rule]
-- 128 slices.Equal[[]int,int]
-- 129 synthesis/value.Equal
-- 130 synthesis/term.within
-- 131 synthesis/term.shallow
-- 132 synthesis/term.derived
-- 133 synthesis/space.key
-- 134 slices.insertionSortOrdered[int]
-- 140 cmp.Less[int]
-- 144 math/bits.Len64
-- 155 slices.insertionSortCmpFunc[synthesis/api.Term]
-- 165 math/bits.Mul64
-- 166 synthesis/counting.counted$1
-- 167 synthesis/counting.plus
-- 168 (*synthesis/counting.counter).lists
-- 169 synthesis/counting.args
-- 170 slices.insertionSortCmpFunc[synthesis/api.Option]
-- 178 cmp.isNaN[int]
-- 179 slices.IndexFunc[[]synthesis/api.Option,synthesis/api.Option]
-- 180 slices.IndexFunc[[]synthesis/api.Term,synthesis/api.Term]
-- 181 slices.BinarySearch[[]int,int]
-- 187 synthesis/operator.find
-- 188 synthesis/value.Compare
-- 189 strconv.AppendInt
-- 204 synthesis/counting.key
-- 205 synthesis/counting.times
-- 211 synthesis/operator.catalog
-- 212 internal/strconv.AppendInt
-- 221 synthesis/operator.family
-- 222 internal/strconv.AppendUint
-- 224 strings.Cut
-- 225 synthesis/operator.typeOf
-- 226 internal/strconv.small
-- 230 internal/stringslite.Cut
-- 235 internal/stringslite.Index
-- 238 internal/stringslite.IndexByte
-- 242 internal/bytealg.IndexByteString
-- NF synthesis/space.Of
-- NF synthesis/synthesislaw25.double
-- NF synthesis/space.renumbered
-- ODD ('synthesis/synthesisref26.Equal',6,'alloc','alloc')
-- PU synthesis/synthesislaw25.awake
-- PU synthesis/space.Check
-- PU synthesis/synthesisref13.Same
-- PU synthesis/synthesisref13.Compare
-- PU synthesis/space.Contains
-- PU synthesis/space.Empty
-- PU synthesis/synthesisref26.Equal
-- PU synthesis/grammar.Check
-- PU synthesis/space.check
-- PU synthesis/synthesisref13.Size
-- PU synthesis/term.Compare
-- PU synthesis/counting.Count
-- PU synthesis/space.formed
-- PU synthesis/space.whole
-- PU slices.Equal[synthesis/space.shape,int]
-- PU synthesis/synthesisref13.order
-- PU synthesis/synthesisref13.CompareInts
-- PU synthesis/space.small
-- PU slices.Contains[[]int,int]
-- PU synthesis/synthesisref26.compareOptions
-- PU synthesis/grammar.named
-- PU synthesis/grammar.typed
-- PU synthesis/grammar.rule
-- PU synthesis/grammar.sameRule
-- PU synthesis/term.Check
-- PU math/bits.Len
-- PU synthesis/term.Size
-- PU math/bits.Mul
-- PU synthesis/counting.check
-- PU synthesis/counting.permitted
-- PU synthesis/space.ascending
-- PU synthesis/space.belongs
-- PU slices.Index[[]int,int]
-- PU synthesis/grammar.symbol
-- PU synthesis/grammar.same
-- PU slices.Equal[[]int,int]
-- PU synthesis/value.Equal
-- PU synthesis/term.within
-- PU synthesis/term.shallow
-- PU synthesis/term.derived
-- PU synthesis/space.key
-- PU cmp.Less[int]
-- PU math/bits.Len64
-- PU math/bits.Mul64
-- PU synthesis/counting.plus
-- PU cmp.isNaN[int]
-- PU slices.BinarySearch[[]int,int]
-- PU synthesis/value.Compare
-- PU synthesis/counting.key
-- PU synthesis/counting.times
-- PU strings.Cut
-- PU synthesis/operator.typeOf
-- PU internal/strconv.small
-- PU internal/stringslite.Cut
-- PU internal/stringslite.Index
-- PU internal/stringslite.IndexByte
-- PU synthesis/synthesislaw25.sums
-- PU synthesis/synthesislaw25.double
-- PU synthesis/space.Of
-- PU synthesis/space.renumbered
set_option maxRecDepth 100000
def adF:List FV:=[.atom (.string ⟨#[97,100,100]⟩)]
def adR:FV := .tup [.agg [.atom (.string ⟨#[97,100,100]⟩), .lst 1 2 [.atom (.int .i64 2), .atom (.int .i64 2)], .atom (.int .i64 2)], .atom (.bool true)]
theorem k9z:PCall prog 126 adF adR:=k4p (k8w [] (fun p h=>by cases h)) 10000
def twA:FV := .agg [.lst 3 2 [.agg [.atom (.int .i64 0), .atom (.int .i64 1), .lst 2 1 [.agg [.atom (.int .i64 0), .atom (.slice none 0 0)]]], .agg [.atom (.int .i64 0), .atom (.int .i64 3), .lst 2 1 [.agg [.atom (.int .i64 1), .lst 1 2 [.atom (.int .i64 0), .atom (.int .i64 0)]]]]], .lst 1 2 [.atom (.int .i64 0), .atom (.int .i64 1)]]
def twB:FV := .agg [.lst 3 2 [.agg [.atom (.int .i64 0), .atom (.int .i64 1), .lst 2 1 [.agg [.atom (.int .i64 0), .atom (.slice none 0 0)]]], .agg [.atom (.int .i64 0), .atom (.int .i64 3), .lst 2 1 [.agg [.atom (.int .i64 1), .lst 1 2 [.atom (.int .i64 0), .atom (.int .i64 0)]]]]], .lst 1 2 [.atom (.int .i64 0), .atom (.int .i64 1)]]
def twS:Sad:=Sad.mk [Saa.mk 0 1 [Sac.mk 0 []],Saa.mk 0 3 [Sac.mk 1 [0,0]]] [0,1]
theorem kaft:PCall prog 23 [twA,twB] (.atom (.bool true)):=PCall.le (kqj twS twS true (by kernel_rfl)) (by kernel_rfl)
def fx0:List (Nat×List FV×FV):=[(126,adF,adR),(23,[twA,twB], .atom (.bool true))]
theorem kafs:∀ p∈fx0,PCall prog p.1 p.2.1 p.2.2:=fun p hp=>by
 rcases qam.1 hp with rfl | hp;exact k9z
 ·obtain rfl:=qw.1 hp;exact kaft
theorem k7t:PCall prog 5 [] (.atom (.bool true)):=k4p (k8w fx0 kafs) 2000
def kfp:Option Bool:=some true
theorem kfx (r:Bool) (h:kfp=some r):PCall prog 5 [] (eB r):=by cases h;exact k7t
set_option linter.all false
open Go Go.RowKit Go.Proofs Go.Proofs.Tryz
set_option maxHeartbeats 2000000
attribute [local irreducible] NStep kau kkz LeSt
def khh (a0:List Int):Option (List Int):=Option.bind (app 8 ([]:List Int) a0) fun v2=>some v2
theorem kqi (a0 r:List Int) (h:khh a0=some r):PCall prog 29 [(eL 1 eI) a0] ((eL 1 eI) (r)):=by
 unfold khh at h;cases b:List.isEmpty a0 with
 | false=>
  have a:nonE a0=some ():=by unfold nonE;rw [b];rfl
  refine pcl [.one (.sl 1)] func29 ?_;refine nst 8 (k9u (t:=22) (.tmp 3) (.const (.slice none 0 0)) 22 3 1 eI a0 false a) ?_;refine sst 5 (kta 22 tt22 1 eI 0 #[] 3 tt3 ([]:List (Int))) ?_;refine ap nI 1 h fun v2 h=>?_;refine wle 2 (kjm 2 1 v2.length 3 1 (List.map eI v2)) ?_;cases h;exact lq 1
 | true=>
  obtain rfl:a0=[]:=List.isEmpty_iff.1 b;refine pcl [.one (.sl 1)] func29 ?_;refine nslb (t:=22) 8 (.tmp 3) (.const (.slice none 0 0)) 22 3 1 eI ([]:List Int) false rfl ?_ ?_;have e:(Option.bind (app 8 ([]:List Int) []) fun v2=>some v2)=some ([]:List Int):=by kernel_rfl
  rw [e] at h;cases h;exact lq 7;refine sst 5 (kta 22 tt22 1 eI 0 #[] 3 tt3 ([]:List (Int))) ?_;refine ap nI 1 h fun v2 h=>?_;refine wle 2 (kjm 2 1 v2.length 3 1 (List.map eI v2)) ?_;cases h;exact lq 1
end Go.Proofs.YtchjomeomabamaaGreatDoor
