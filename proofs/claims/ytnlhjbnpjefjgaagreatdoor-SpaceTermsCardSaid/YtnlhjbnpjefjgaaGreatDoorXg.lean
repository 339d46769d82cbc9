import Derived.Test.YtnlhjbnpjefjgaaGreatDoorMz
set_option linter.all false
namespace Go.Proofs.YtnlhjbnpjefjgaaGreatDoor
open Go Go.RowKit
inductive Dl where
  | no
  | new (ob:AObj)
  | upd (id:Nat) (ob:AObj)
def ki7 (st:St) (id:Nat):Dl->List (Nat×AObj)
  | .no=>st.heap
  | .new ob=>(id,ob)::st.heap
  | .upd i ob=>(i,ob)::st.heap
def dIds (st:St) (id:Nat):Dl->List Nat
  | .new _=>id::st.ids
  | _=>st.ids
def kme (E:Operand->AV) (ps:Array (Nat×Operand)):List (Nat×AV):=ps.toList.map fun p=>(p.1,E p.2)
def k3r (T:List (TypeId×TD)) (E:Operand->AV) (t:TypeId) (parts:Array (Nat×Operand)):Option AV:=match kad T t with
  | some d=>match d.kind,knm d with
    | .st fs,some zs=>match kmo T fs with
      | some ps=>(kn0 (fun i:Nat=>ps[i]?) zs (kme E parts)).map aggA
      | none=>none
    | .arr _ e,some zs=>match kad T e with
      | some de=>(kn0 (fun i:Nat=>some (i*de.size,de.size)) zs (kme E parts)).map aggA
      | none=>none
    | _,_=>none
  | none=>none
def litH (T:List (TypeId×TD)) (E:Operand->AV) (t:TypeId) (n:Nat) (parts:Array (Nat×Operand)):Option AV:=match kad T t with
  | some d=>match d.kind with
    | .slice e=>match kad T e with
      | some de=>match kks de.size 0 (kme E parts) with
        | some xs=>bif Nat.beq xs.length n && (Nat.ble 1 de.size && Nat.ble (n*de.size) 16777216) then some (.lim de.size n xs) else none
        | none=>none
      | none=>none
    | _=>none
  | none=>none
def fldE (T:List (TypeId×TD)) (E:Operand->AV) (H:Nat->Option AObj) (s:TypeId) (x:Operand) (f:Nat):Option AV:=match kad T s with
  | some d=>match d.kind with
    | .st fs=>match fs[f]? with
      | some (ft,off)=>match kad T ft with
        | some df=>bif Nat.beq df.size 0 then none else kqb H off (E x)
        | none=>none
      | none=>none
    | _=>none
  | none=>none
def idxE (T:List (TypeId×TD)) (E:Operand->AV) (H:Nat->Option AObj) (t:TypeId) (x y:Operand):Option AV:=match kad T t,E y with
  | some d, .fz (.atom (.int _ i))=>bif decide (0<=i) then (match d.kind with
    | .slice e=>match kad T e with
      | some de=>match E x with
        | .bsl id g off len _=>match objH H id with
          | some (g',_)=>bif Nat.beq g g' && decide (i<len) then some (.ref id g (off+i.toNat*de.size)) else none
          | none=>none
        | z=>match km1 z with
          | some xs=>match xs[i.toNat]? with
            | some z=>bif xs.all (fun z=>Nat.beq z.cells.length de.size) then some (.fz (.fp z.cells)) else none
            | none=>none
          | none=>none
      | none=>none
    | .arr n e=>match kad T e with
      | some de=>bif decide (i<n) then kqb H (i.toNat*de.size) (E x) else none
      | none=>none
    | _=>none) else none
  | _,_=>none
def bytE (T:List (TypeId×TD)) (E:Operand->AV) (H:Nat->Option AObj) (t:TypeId) (x y:Operand):Option AV:=match kad T t,E x,E y with
  | some d, .fz (.atom (.string s)), .fz (.atom (.int _ i))=>match d.kind with
    | .str=>bif decide (0<=i) then (match s.data.toList[i.toNat]? with
      | some c=>some (.fz (.atom (.int .u8 c.toNat)))
      | none=>none) else none
    | _=>none
  | _,_,_=>none
def cutB (s:BA) (l h:Nat):BA:=⟨⟨(s.data.toList.take h).drop l⟩⟩
def km4 (s:BA):Nat:=s.data.toList.length
def slcE (T:List (TypeId×TD)) (E:Operand->AV) (H:Nat->Option AObj) (t:TypeId) (x:Operand) (lo hi mx:Option Operand):Option AV:=match kad T t with
  | some d=>match d.kind with
    | .str=>match E x,mx with
      | .fz (.atom (.string s)),none=>match kev E 0 lo,kev E (km4 s) hi with
        | some L,some H=>bif Nat.ble L H && Nat.ble H (km4 s) then some (.fz (.atom (.string (cutB s L H)))) else none
        | _,_=>none
      | _,_=>none
    | .slice e=>match kad T e with
      | some de=>match E x with
        | .bsl id g off len (some k)=>match objH H id,kev E 0 lo,kev E len hi,kev E k mx with
          | some (g',_),some L,some H,some M=>bif Nat.beq g g' && (Nat.ble L H && (Nat.ble H M && (Nat.ble M k && (!mx.isSome || hi.isSome)))) then some (.bsl id g (offE off L M de.size) (H - L) (some (M - L))) else none
          | _,_,_,_=>none
        | .bsl id g 0 len none=>match objH H id,kev E 0 lo,kev E len hi with
          | some (g',_),some L,some H=>match mx with
            | none=>bif Nat.beq g g' && (Nat.beq L 0 && Nat.ble H len) then some (.bsl id g 0 H none) else none
            | some y=>match kev E 0 (some y) with
              | some M=>bif Nat.beq g g' && (Nat.ble L H && (Nat.ble H M && (Nat.ble M len && hi.isSome))) then some (.bsl id g (offE 0 L M de.size) (H - L) (some (M - L))) else none
              | none=>none
          | _,_,_=>none
        | .fz (.atom (.slice none 0 0))=>match kev E 0 lo,kev E 0 hi,kev E 0 mx with
          | some 0,some 0,some 0=>bif !mx.isSome || hi.isSome then some (.fz (.atom nilV)) else none
          | _,_,_=>none
        | z=>match lstX z with
          | some (s,n,xs)=>match kev E 0 lo,kev E n hi with
            | some L,some H=>bif Nat.beq s de.size && (Nat.ble L H && Nat.ble H n) then (match mx with
              | none=>some (.fz (.lst de.size (H - L) ((xs.take H).drop L)))
              | some y=>match kev E 0 (some y) with
                | some M=>bif Nat.beq M H && hi.isSome then some (.lim de.size (H - L) ((xs.take H).drop L)) else none
                | none=>none) else none
            | _,_=>none
          | none=>none
      | none=>none
    | .arr n e=>match kad T e,E x with
      | some de, .ref id g off=>match objH H id,kev E 0 lo,kev E n hi,kev E n mx with
        | some (g',_),some L,some H,some M=>bif Nat.beq g g' && (Nat.ble L H && (Nat.ble H M && (Nat.ble M n && ((!mx.isSome || hi.isSome) && Nat.ble n 9223372036854775807)))) then some (.bsl id g (offE off L M de.size) (H - L) (some (M - L))) else none
        | _,_,_,_=>none
      | _,_=>none
    | _=>none
  | none=>none
def lenE (T:List (TypeId×TD)) (E:Operand->AV) (H:Nat->Option AObj) (x:Operand) (t:TypeId):Option AV:=match kad T t with
  | some d=>match d.kind,E x with
    | .slice _, .bsl id g _ len _=>match objH H id with
      | some (g',_)=>bif Nat.beq g g' then some (.fz (.atom (.int .i64 len))) else none
      | none=>none
    | .slice _,z=>match lenOf z with
      | some n=>some (.fz (.atom (.int .i64 n)))
      | none=>none
    | .str, .fz (.atom (.string s))=>some (.fz (.atom (.int .i64 (km4 s))))
    | .map _ _, .mp id=>match H id with
      | some (.xo (.amap kv))=>some (.fz (.atom (.int .i64 kv.length)))
      | _=>none
    | _,_=>none
  | none=>none
def capE (T:List (TypeId×TD)) (E:Operand->AV) (H:Nat->Option AObj) (x:Operand) (t:TypeId):Option AV:=match kad T t with
  | some d=>match d.kind with
    | .slice e=>match kad T e with
      | some de=>match rdH H de.size (E x) with
        | some (_,some k,_)=>some (.fz (.atom (.int .i64 k)))
        | _=>none
      | none=>none
    | _=>none
  | none=>none
def cnvE (T:List (TypeId×TD)) (E:Operand->AV) (H:Nat->Option AObj) (s t:TypeId) (x:Operand):Option AV:=match kad T s,kad T t with
  | some ds,some d=>match d.kind,ds.kind,E x with
    | .int k,_, .fz (.atom (.int _ n))=>some (.fz (.atom (.int k (k.wrap n))))
    | .str, .str, .fz (.atom (.string u))=>some (.fz (.atom (.string u)))
    | .str, .slice e,z=>match kad T e with
      | some de=>match de.kind with
        | .int .u8=>match rdH H 1 z with
          | some (_,_,ys)=>match kor ys with
            | some xs=>some (.fz (.atom (.string (toBA xs))))
            | none=>none
          | none=>none
        | _=>none
      | none=>none
    | _,_,_=>none
  | _,_=>none
def lkE (T:List (TypeId×TD)) (Z:List (TypeId×Value)) (E:Operand->AV) (H:Nat->Option AObj) (t:TypeId) (x y:Operand) (ok:Bool):Option AV:=match kad T t,E x,E y with
  | some d, .mp id, .fz (.atom k)=>match d.kind with
    | .map kt et=>match kad T kt,H id with
      | some kd,some (.xo (.amap kv))=>bif keyK kd.kind k then (match kpc k kv 0 with
        | some r=>match (match r with | some (_,z)=>some z | none=>(match ktf Z et with | some zv=>bif zv.oneCell' then some (AV.fz (.atom zv)) else none | none=>none)) with
          | some c=>some (bif ok then .tup [c, .fz (.atom (.bool r.isSome))] else c)
          | none=>none
        | none=>none) else none
      | _,_=>none
    | _=>none
  | _,_,_=>none
def nilX (H:Nat->Option AObj):AV->Option Bool
  | .fz (.atom (.slice none 0 0))=>some true
  | .bsl id g _ _ _=>match objH H id with
    | some (g',_)=>bif Nat.beq g g' then some false else none
    | none=>none
  | z=>match lstX z with
    | some (_,_,_::_)=>some false
    | _=>none
def binE (T:List (TypeId×TD)) (E:Operand->AV) (H:Nat->Option AObj) (op:BinOp) (t:TypeId) (x y:Operand):Option AV:=match op,y with
  | .neq, .const .nilIface=>match kad T t,E x with
    | some d, .fz (.atom .nilIface)=>match d.kind with
      | .ifc=>some (.fz (.atom (.bool false)))
      | _=>none
    | _,_=>none
  | _,_=>match E x,E y with
    | .fz (.atom (.slice none 0 0)), .fz (.atom (.slice none 0 0))=>nilE true
    | .fz (.atom u), .fz (.atom v)=>match binV (kk4 T t) op u v with
      | some r=>some (.fz (.atom r))
      | none=>none
    | z, .fz (.atom (.slice none 0 0))=>match nilX H z with
      | some r=>nilE r
      | none=>none
    | _,_=>none
where nilE (r:Bool):Option AV:=match kad T t with
  | some d=>match d.kind,op with
    | .slice _, .eql=>some (.fz (.atom (.bool r)))
    | .slice _, .neq=>some (.fz (.atom (.bool !r)))
    | _,_=>none
  | none=>none
def mmE (E:Operand->AV) (H:Nat->Option AObj) (mx:Bool) (x y:Operand):Option AV:=match E x,E y with
  | .fz (.atom (.int k m)), .fz (.atom (.int k' n))=>bif decide (k=k') then some (.fz (.atom (.int k (bif mx then imax m n else imin m n)))) else none
  | _,_=>none
def entE (E:Operand->AV) (H:Nat->Option AObj) (x:Operand):Option AV:=match E x with
  | .ref id 0 0=>match H id with
    | some (.xo (.mit m since seen stepped))=>match H m,seen.getLast? with
      | some (.xo (.amap kv)),some j=>match kv[j]? with
        | some p=>bif Nat.beq stepped kv.length && p.1.oneCell' then some (.tup [.fz (.atom p.1),p.2]) else none
        | none=>none
      | _,_=>none
    | _=>none
  | _=>none
def nxtE (E:Operand->AV) (H:Nat->Option AObj) (x:Operand):Option (AV×Dl):=match E x with
  | .ref id 0 0=>match H id with
    | some (.xo (.mit m since seen stepped))=>match H m with
      | some (.xo (.amap kv))=>bif Nat.beq since kv.length && Nat.ble kv.length stepped then (match kil seen kv.length with
        | []=>some (.fz (.tup [.atom (.bool false)]), .no)
        | [j]=>match kv[j]? with
          | some p=>bif p.1.oneCell' then some (.tup [.fz (.atom (.bool true)), .fz (.atom p.1),p.2], .upd id (.xo (.mit m kv.length (seen++[j]) kv.length))) else none
          | none=>none
        | _=>none) else none
      | _=>none
    | _=>none
  | _=>none
def nE (T:List (TypeId×TD)) (Z:List (TypeId×Value)) (E:Operand->AV) (H:Nat->Option AObj) (o:Oper):Option AV:=match o.op with
  | .binOp op t x y _=>binE T E H op t x y
  | .load t x=>match kad T t,kt3 H (E x) with
    | some d,some xs=>kjt d xs
    | _,_=>none
  | .fieldAddr s x f=>fldE T E H s x f
  | .nilCheck x=>kqb H 0 (E x)
  | .indexAddr t x y=>idxE T E H t x y
  | .index t x y=>bytE T E H t x y
  | .slice t x lo hi mx=>slcE T E H t x lo hi mx
  | .convert s t x=>cnvE T E H s t x
  | .lookup t x y ok=>lkE T Z E H t x y ok
  | .entry x=>entE E H x
  | .call c=>match c.callee,c.args.toList,c.argTypes.toList with
    | .builtin .len,[x],[t]=>lenE T E H x t
    | .builtin .cap,[x],[t]=>capE T E H x t
    | .builtin .min,[x,y],_=>mmE E H false x y
    | .builtin .max,[x,y],_=>mmE E H true x y
    | _,_,_=>none
  | .move x=>some (E x)
  | .assign x=>some (E x)
  | .pick c x y=>match E c with
    | .fz (.atom (.bool b))=>some (bif b then E x else E y)
    | _=>none
  | .unOp op _ x=>match E x with
    | .fz (.atom u)=>match unV op u with
      | some r=>some (.fz (.atom r))
      | none=>none
    | _=>none
  | .extract x i=>match E x with | .fz (.tup xs)=>(xs[i]?).map .fz | .tup xs=>xs[i]? | _=>none
  | .build t parts=>k3r T E t parts
  | .buildSlice t n parts=>litH T E t n parts
  | .makeFunc (.func f) first cap=>bif first.isEmpty then some (.fn f (cap.toList.map E)) else (bif cap.isEmpty then some (.mth f (first.toList.map E)) else none)
  | _=>none
def reC:AObj->List AV->AObj
  | .box e _,c => .box e c
  | .xo (.blk g e sz _),c => .xo (.blk g e sz c)
  | ob,_=>ob
def setE (H:Nat->Option AObj) (id:Nat) (c:AV) (cells:List AV):Option (AV×Dl):=match H id with
  | some ob=>some (c, .upd id (reC ob cells))
  | none=>none
def stoE (T:List (TypeId×TD)) (E:Operand->AV) (H:Nat->Option AObj) (t:TypeId) (x y:Operand):Option (AV×Dl):=match kad T t,E x with
  | some d, .ref id n off=>match objH H id with
    | some (g,cells)=>bif Nat.beq n g && (Nat.beq (E y).cells.length d.size && ((E y).cells.all AV.single && Nat.ble (off+(E y).cells.length) cells.length)) then setE H id .any (kb9 cells off (E y).cells) else none
    | none=>none
  | _,_=>none
def mksE (T:List (TypeId×TD)) (E:Operand->AV) (H:Nat->Option AObj) (t:TypeId) (id:Nat) (x y:Operand):Option (AV×Dl):=match kad T t with
  | some d=>match d.kind with
    | .slice e=>match kad T e with
      | some de=>match de.zero,E x,E y with
        | [zv], .fz (.atom (.int _ n)), .fz (.atom (.int _ c))=>bif Nat.beq de.size 1 && (zv.oneCell' && (decide (0<=n) && (decide (n<=c) && (decide ((de.bytes:Int)*c<=281474976710656) && decide (c<=9223372036854775807))))) then
            some (.bsl id 0 0 n.toNat (some c.toNat), .new (.xo (.blk 0 e 1 (List.replicate c.toNat (.fz (.atom zv)))))) else none
        | _,_,_=>none
      | none=>none
    | _=>none
  | none=>none
def litE (T:List (TypeId×TD)) (E:Operand->AV) (H:Nat->Option AObj) (mu:Bool) (t:TypeId) (n id:Nat) (parts:Array (Nat×Operand)):Option (AV×Dl):=match (bif mu then none else litH T E t n parts) with
  | some c=>some (c, .no)
  | none=>match kad T t with
    | some d=>match d.kind with
      | .slice e=>match kad T e with
        | some de=>match kok de.size 0 (kme E parts) with
          | some ys=>bif Nat.beq parts.toList.length n && (Nat.ble 1 de.size && Nat.ble (n*de.size) 16777216) then some (.bsl id 0 0 n (some n), .new (.xo (.blk 0 e de.size ys))) else none
          | none=>none
        | none=>none
      | _=>none
    | none=>none
def mpuE (T:List (TypeId×TD)) (E:Operand->AV) (H:Nat->Option AObj) (t:TypeId) (x y v:Operand):Option (AV×Dl):=match kad T t,E x,E y with
  | some d, .mp id, .fz (.atom k)=>match d.kind with
    | .map kt _=>match kad T kt,H id with
      | some kd,some (.xo (.amap kv))=>bif keyK kd.kind k then (match vput k kv (E v) with
        | some kv'=>some (.any, .upd id (.xo (.amap kv')))
        | none=>none) else none
      | _,_=>none
    | _=>none
  | _,_,_=>none
def rngE (T:List (TypeId×TD)) (E:Operand->AV) (H:Nat->Option AObj) (t:TypeId) (id:Nat) (x:Operand):Option (AV×Dl):=match kad T t,E x with
  | some d, .mp m=>match d.kind,H m with
    | .map _ _,some (.xo (.amap kv))=>some (.ref id 0 0, .new (.xo (.mit m kv.length [] kv.length)))
    | _,_=>none
  | _,_=>none
def appE (T:List (TypeId×TD)) (E:Operand->AV) (H:Nat->Option AObj) (t tx:TypeId) (id:Nat) (x y:Operand):Option (AV×Dl):=match kad T t with
  | some d=>match d.kind with
    | .slice e=>match kad T e with
      | some de=>match srcH T H de.size tx (E y) with
        | some (0,_)=>match rdH H de.size (E x) with
          | some _=>some (E x, .no)
          | none=>none
        | some (n,ys)=>bif Nat.ble 1 de.size && Nat.beq de.zero.length de.size then (match E x with
          | .bsl i g off m none=>match H i with
            | some (.xo (.blk g' e' sz cells))=>bif Nat.beq off 0 && (Nat.beq g g' && (Nat.beq e e' && (Nat.beq sz de.size && (Nat.beq cells.length (m*de.size) && Nat.ble ((m+n)*(de.bytes+1)) 140737488355328)))) then
                some (.bsl i (g+1) 0 (m+n) none, .upd i (.xo (.blk (g+1) e de.size (cells++ys)))) else none
            | _=>none
          | .bsl i g off m (some k)=>bif Nat.ble (m+n) k then (match objH H i with
            | some (g',cells)=>bif Nat.beq g g' && Nat.ble (off+m*de.size+ys.length) cells.length then setE H i (.bsl i g off (m+n) (some k)) (kb9 cells (off+m*de.size) ys) else none
            | none=>none) else grow e de n ys
          | _=>grow e de n ys) else none
        | none=>none
      | none=>none
    | _=>none
  | none=>none
where grow (e:TypeId) (de:TD) (n:Nat) (ys:List AV):Option (AV×Dl):=match rdH H de.size (E x) with
  | some (m,some k,xs)=>bif Nat.blt k (m+n) && Nat.ble ((m+n)*(de.bytes+1)) 140737488355328 then some (.bsl id 0 0 (m+n) none, .new (.xo (.blk 0 e de.size (xs++ys)))) else none
  | _=>none
def cpyE (T:List (TypeId×TD)) (E:Operand->AV) (H:Nat->Option AObj) (t:TypeId) (x y:Operand):Option (AV×Dl):=match kad T t with
  | some d=>match d.kind with
    | .slice e=>match kad T e with
      | some de=>match E x,rdH H de.size (E y) with
        | .bsl i g off len _,some (n,_,ys)=>match objH H i with
          | some (g',cells)=>bif Nat.beq g g' && Nat.ble (off+(ys.take (min n len*de.size)).length) cells.length then setE H i (.fz (.atom (.int .i64 ((min n len:Nat):Int)))) (kb9 cells off (ys.take (min n len*de.size))) else none
          | none=>none
        | _,_=>none
      | none=>none
    | _=>none
  | none=>none
def sE (T:List (TypeId×TD)) (Z:List (TypeId×Value)) (E:Operand->AV) (H:Nat->Option AObj) (mu:Bool) (id:Nat) (o:Oper):Option (AV×Dl):=match o.op with
  | .box e x=>bif (E x).cells.all AV.single then some (.ref id 0 0, .new (.box e (E x).cells)) else none
  | .alloc e=>match kad T e with
    | some d=>match knm d with
      | some cells=>some (.ref id 0 0, .new (.box e cells))
      | none=>none
    | none=>none
  | .store t x y=>stoE T E H t x y
  | .makeSlice t x y=>mksE T E H t id x y
  | .buildSlice t n parts=>litE T E H mu t n id parts
  | .makeMap _ none=>some (.mp id, .new (.xo (.amap [])))
  | .mapUpdate t x y v=>mpuE T E H t x y v
  | .range t x=>rngE T E H t id x
  | .next x false=>nxtE E H x
  | .call c=>match c.callee,c.args.toList,c.argTypes.toList with
    | .builtin .append,[x,y],[t,tx]=>appE T E H t tx id x y
    | .builtin .copy,[x,y],[t,_]=>cpyE T E H t x y
    | _,_,_=>match nE T Z E H o with
      | some c=>some (c, .no)
      | none=>none
  | _=>match nE T Z E H o with
    | some c=>some (c, .no)
    | none=>none
def idsN:Nat->List Nat
  | 0=>[]
  | k+1=>k::idsN k
structure XS where
  n:Nat
  tmps:List (Nat×AV)
  heap:List (Nat×AObj)
  k:Nat
  lg:List Nat
def XS.st (s:XS) (D:List Deferred):St:=⟨s.n,s.tmps,s.heap,idsN s.k,D⟩
noncomputable def getQ (l:List (Nat×AV)) (t:Nat):AV:=List.rec (motive:=fun _=>AV) .any (fun p _ ih=>Bool.rec ih p.2 (Nat.beq p.1 t)) l
noncomputable def getO (l:List (Nat×AObj)) (t:Nat):Option AObj:=List.rec (motive:=fun _=>Option AObj) none (fun p _ ih=>Bool.rec ih (some p.2) (Nat.beq p.1 t)) l
noncomputable def kjs (l:List (Nat×AV)) (t:Nat) (v:AV):List (Nat×AV):=List.rec (motive:=fun _=>List (Nat×AV)) [(t,v)] (fun p l ih=>Bool.rec (p::ih) ((t,v)::l) (Nat.beq p.1 t)) l
noncomputable def krt (l:List (Nat×AObj)) (t:Nat) (v:AObj):List (Nat×AObj):=List.rec (motive:=fun _=>List (Nat×AObj)) [(t,v)] (fun p l ih=>Bool.rec (p::ih) ((t,v)::l) (Nat.beq p.1 t)) l
noncomputable def XS.E (s:XS) (x:Operand):AV:=match x with
  | .tmp t=>getQ s.tmps t
  | .const v=>kxk v
  | .global _ => .any
  | .func f => .fn f []
noncomputable def XS.H (s:XS):Nat->Option AObj:=getO s.heap
noncomputable def XS.put (s:XS) (d:Option Nat) (v:AV):XS:=match d with
  | some t=>{ s with tmps:=kjs s.tmps t v }
  | none=>s
noncomputable def XS.app (s:XS):Dl->XS
  | .no=>s
  | .new ob=>{ s with heap:=(s.k,ob)::s.heap,k:=s.k+1,lg:=s.k::s.lg }
  | .upd i ob=>{ s with heap:=krt s.heap i ob,lg:=i::s.lg }
def kwm:Value->Value->Bool
  | .int k m, .int k' n=>decide (k=k') && m == n
  | .string s, .string u=>s.toList == u.toList
  | .bool a, .bool b=>a == b
  | .slice none 0 0, .slice none 0 0=>true
  | .pointer none, .pointer none=>true
  | .map none, .map none=>true
  | .nilFunc, .nilFunc=>true
  | .nilIface, .nilIface=>true
  | _,_=>false
mutual
def eqFV:FV->FV->Bool
  | .atom v, .atom u=>kwm v u
  | .agg a, .agg b=>kjr a b
  | .tup a, .tup b=>kjr a b
  | .lst s n a, .lst s' n' b=>Nat.beq s s' && (Nat.beq n n' && kjr a b)
  | .fp a, .fp b=>kjr a b
  | .bx a, .bx b=>kjr a b
  | _,_=>false
def kjr:List FV->List FV->Bool
  | [],[]=>true
  | a::l,b::m=>eqFV a b && kjr l m
  | _,_=>false
end
def mkEl (sz:Nat) (xs:List FV):Option FV:=bif Nat.beq xs.length sz then (match xs with
  | [x]=>some x
  | xs=>some (.agg xs)) else none
def kmv (sz:Nat):Nat->List FV->Option (List FV)
  | 0,l=>match l with
    | []=>some []
    | _=>none
  | n+1,l=>match mkEl sz (l.take sz),kmv sz n (l.drop sz) with
    | some y,some r=>some (y::r)
    | _,_=>none
def atF:FV->Bool
  | .atom _=>true
  | .agg xs=>xs.all fun | .atom _=>true | _=>false
  | .tup xs=>xs.all fun | .atom _=>true | _=>false
  | _=>false
mutual
def frz (H:Nat->Option AObj) (fr:Bool):Nat->AV->Option FV
  | 0,_=>none
  | _+1, .fz x=>bif !fr || atF x then some x else none
  | _+1, .lim s n xs=>bif fr then none else some (.lst s n xs)
  | f+1, .agg cs=>match frzs H fr f cs with
    | some xs=>some (.agg xs)
    | none=>none
  | f+1, .tup cs=>match frzs H fr f cs with
    | some xs=>some (.tup xs)
    | none=>none
  | f+1, .bsl id g off len _=>match H id with
    | some (.xo (.blk g' _ sz cells))=>bif Nat.beq g g' then (match frzs H fr f ((cells.drop off).take (len*sz)) with
      | some xs=>match kmv sz len xs with
        | some ys=>some (.lst sz len ys)
        | none=>none
      | none=>none) else none
    | _=>none
  | _+1,_=>none
def frzs (H:Nat->Option AObj) (fr:Bool):Nat->List AV->Option (List FV)
  | 0,_=>none
  | _+1,[]=>some []
  | f+1,x::l=>match frz H fr f x,frzs H fr f l with
    | some y,some r=>some (y::r)
    | _,_=>none
end
def resE (T:List (TypeId×TD)) (E:Operand->AV) (H:Nat->Option AObj):ResultVar->Option AV
  | .tmp t=>some (E (.tmp t))
  | .cell x t=>match kad T t,kt3 H (E (.tmp x)) with
    | some d,some xs=>kjt d xs
    | _,_=>none
def kry (T:List (TypeId×TD)) (E:Operand->AV) (H:Nat->Option AObj):List ResultVar->Option (List AV)
  | []=>some []
  | r::rs=>match resE T E H r,kry T E H rs with
    | some y,some ys=>some (y::ys)
    | _,_=>none
def retE (T:List (TypeId×TD)) (E:Operand->AV) (H:Nat->Option AObj) (rs:List ResultVar):Option AV:=match kry T E H rs with
  | some [y]=>some y
  | some ys=>some (tupA ys)
  | none=>none
inductive FT where
  | lf
  | nd (k:Nat) (v:Func) (l r:FT)
noncomputable def FT.get (t:FT) (f:Nat):Option Func:=FT.rec (motive:=fun _=>Option Func) none (fun k v _ _ il ir=>Bool.rec (Bool.rec ir il (Nat.blt f k)) (some v) (Nat.beq k f)) t
structure Cx where
  T:List (TypeId×TD)
  Z:List (TypeId×Value)
  fn:FT
  mu:List Nat
  pu:List Nat
  fx:List (Nat×List FV×FV)
  ib:List Nat
  nf:List Nat
def kth:List (Nat×List FV×FV)->Nat->List FV->Option FV
  | [],_,_=>none
  | (f,as_,r)::l,g,xs=>bif Nat.beq f g && kjr as_ xs then some r else kth l g xs
def kj7 (E:Operand->AV) (f:Operand):Option (Nat×List AV×List AV):=match E f with
  | .fn f caps=>some (f,[],caps)
  | .mth f fst=>some (f,fst,[])
  | _=>none
abbrev EvT:=Bool->Code->XS->Option (Exit×XS)
def knp (c:UInt8):List UInt8->Nat->Int
  | [],_ => -1
  | x::l,i=>bif Nat.beq x.toNat c.toNat then (i:Int) else knp c l (i+1)
def kwj:Code->Option (Code×Nat×Oper×Oper×Nat×Code)
  | .seq x (.seq (.region rid os false) c)=>match os.toList with
    | [o1,o2]=>match o1.dst,o1.guard,o2.op,o2.dst,o2.guard with
      | some t,none, .defer cl,none,none=>match cl.callee,cl.args.toList with
        | .value (.tmp t'),[]=>bif Nat.beq t t' then some (x,rid,o1,o2,t,c) else none
        | _,_=>none
      | _,_,_,_,_=>none
    | _=>none
  | _=>none
def kwo:Exit->Bool
  | .ret=>true
  | .normal=>true
  | _=>false
def nilA:AV := .fz (.atom .nilIface)
noncomputable def k0x (C:Cx) (ih:EvT) (f:Nat) (fn:Func) (x:Code) (o1:Oper) (t:Nat) (c1:Code) (s0:XS):Option (AV×XS):=match ih (C.mu.contains f) x s0 with
  | some (.normal,s1)=>match nE C.T C.Z s1.E s1.H o1 with
    | some (.fn f2 caps)=>match C.fn.get f2 with
      | some fn2=>match krl fn2 with
        | some (ta,tb,c2)=>match ih (C.mu.contains f) c1 (s1.put (some t) (.fn f2 caps)) with
          | some (e,s2)=>match (bif kwo e && Nat.ble caps.length fn2.ntmps then ih (C.mu.contains f2) c2 ⟨fn2.ntmps,kjs (kjs (argT 0 caps) ta nilA) tb nilA,s2.heap,s2.k,s2.lg⟩ else none) with
            | some (e2,s3)=>match (bif kwo e2 then retE C.T s2.E s3.H fn.results.toList else none) with
              | some y=>some (y,⟨s2.n,s2.tmps,s3.heap,s3.k,s3.lg⟩)
              | none=>none
            | none=>none
          | none=>none
        | none=>none
      | none=>none
    | _=>none
  | _=>none
noncomputable def krs (C:Cx) (ih:EvT) (f:Nat) (args:List AV) (heap:List (Nat×AObj)) (k:Nat) (lg:List Nat):Option (AV×XS):=match C.fn.get f with
  | some fn=>match fn.body with
    | some c=>match kwj c with
      | some (x,_,o1,_,t,c1)=>bif Nat.ble args.length fn.ntmps && Nat.blt t fn.ntmps then k0x C ih f fn x o1 t c1 ⟨fn.ntmps,argT 0 args,heap,k,lg⟩ else none
      | none=>match (bif Nat.ble args.length fn.ntmps then ih (C.mu.contains f) c ⟨fn.ntmps,argT 0 args,heap,k,lg⟩ else none) with
      | some (e,s1)=>match e,retE C.T s1.E s1.H fn.results.toList with
        | .ret,some y=>some (y,s1)
        | .normal,some y=>some (y,s1)
        | _,_=>none
      | none=>none
    | none=>none
  | none=>none
noncomputable def kwh (C:Cx) (ih:EvT) (f:Nat) (xs:List FV):Option FV:=match kth C.fx f xs with
  | some r=>some r
  | none=>bif C.pu.contains f then (match krs C ih f (xs.map .fz) [] 0 [] with
    | some (y,s1)=>frz s1.H false 1000 y
    | none=>none) else none
noncomputable def kwc (C:Cx) (ih:EvT) (H:Nat->Option AObj) (f:Nat) (args:List AV):Option FV:=match kko args with
  | some xs=>(match C.ib.contains f,xs with
    | true,[.atom (.string u), .atom (.int .u8 c)]=>some (FV.atom (.int .i64 (knp c.toNat.toUInt8 u.data.toList 0)))
    | _,_=>kwh C ih f xs)
  | none=>match frzs (fun _=>none) false 1000 args with
   | some xs=>kwh C ih f xs
   | none=>bif C.pu.contains f then (match frzs H false 1000 args with
    | some xs=>(match kth C.fx f xs with
      | some r=>bif atF r then some r else none
      | none=>(match krs C ih f (xs.map .fz) [] 0 [] with
        | some (y,s1)=>frz s1.H true 1000 y
        | none=>none))
    | none=>none) else none
noncomputable def k68 (C:Cx) (ih:EvT) (s:XS) (f:Nat) (args:List AV):Option (AV×XS):=match kwc C ih s.H f args with
  | some r=>some (.fz r,s)
  | none=>match krs C ih f args s.heap s.k s.lg with
    | some (y,s1)=>some (y,{ s with heap:=s1.heap,k:=s1.k,lg:=s1.lg })
    | none=>none
def dstE (n:Nat) (o:Oper):Bool:=match o.dst with
  | some t=>Nat.blt t n
  | none=>true
noncomputable def kqz (ops:Array Oper) (E:Operand->AV) (o:Oper):Option Bool:=match o.guard with
  | none=>some true
  | some (j,want)=>match (ops[j]?).bind (·.dst) with
    | some t=>match E (.tmp t) with
      | .fz (.atom (.bool b))=>some (b == want)
      | .fz (.tup _)=>some false
      | _=>none
    | none=>none
def kwn (o:Oper):Option (Operand×List Operand):=match o.op with
  | .call c=>(match c.callee with
    | .value f=>some (f,c.args.toList)
    | _=>none)
  | _=>none
noncomputable def opE (C:Cx) (ih:EvT) (mu:Bool) (o:Oper) (s:XS):Option (AV×XS):=match kwn o with
  | some (f,as_)=>match kj7 s.E f with
    | some (f,fst,caps)=>k68 C ih s f (fst++(as_.map s.E++caps))
    | none=>none
  | none=>match sE C.T C.Z s.E s.H mu s.k o with
    | some (c,dl)=>some (c,s.app dl)
    | none=>none
noncomputable def opsE (C:Cx) (ih:EvT) (mu:Bool) (ops:Array Oper) (l:List Oper):XS->Option XS:=List.rec (motive:=fun _=>XS->Option XS) (fun s=>some s) (fun o _ k s=>bif dstE s.n o then (match kqz ops s.E o with
    | some true=>match opE C ih mu o s with
      | some (c,s1)=>k (s1.put o.dst c)
      | none=>none
    | some false=>k (s.put o.dst (.fz (.tup [])))
    | none=>none) else none) l
def isEs (nf:List Nat) (li:Bool) (o:Oper):Bool:=match o.op with
  | .alloc _=>true
  | .box _ _=>true
  | .store _ _ _=>true
  | .makeSlice _ _ _=>true
  | .makeMap _ _=>true
  | .mapUpdate _ _ _ _=>true
  | .range _ _=>true
  | .next _ _=>true
  | .buildSlice _ _ _=>li
  | .call c=>match c.callee with
    | .value (.func f)=>!nf.contains f
    | .value _=>true
    | .builtin .append=>true
    | .builtin .copy=>true
    | _=>false
  | _=>false
def esOf (nf:List Nat) (li:Bool):List Oper->Nat->List Nat
  | [],_=>[]
  | o::l,i=>bif isEs nf li o then i::esOf nf li l (i+1) else esOf nf li l (i+1)
def okN0 (k:Nat):AV->Bool
  | .fz _=>true
  | .lim _ _ _=>true
  | .any=>true
  | .ref id _ _=>Nat.blt id k
  | .mp id=>Nat.blt id k
  | .bsl id _ _ _ _=>Nat.blt id k
  | _=>false
def okN (k:Nat):AV->Bool
  | .agg cs=>cs.all (okN0 k)
  | .tup cs=>cs.all (okN0 k)
  | .fn _ cs=>cs.all (okN0 k)
  | .mth _ cs=>cs.all (okN0 k)
  | x=>okN0 k x
def idAV:AV->List Nat
  | .ref id _ _=>[id]
  | .mp id=>[id]
  | .bsl id _ _ _ _=>[id]
  | _=>[]
def krf (E:Operand->AV) (o:Oper):List Nat:=match o.op with
  | .move _=>[]
  | .assign _=>[]
  | .pick _ _ _=>[]
  | .build _ _=>[]
  | .buildSlice _ _ _=>[]
  | .makeFunc _ _ _=>[]
  | .extract _ _=>[]
  | _=>o.op.operands.toList.flatMap fun x=>idAV (E x)
def kl5 (rf:List Nat):List (Nat×AObj)->List (Nat×AObj)
  | []=>[]
  | (k,v)::l=>bif rf.contains k then (k,v)::kl5 rf l else kl5 rf l
noncomputable def dz1 (C:Cx) (ih:EvT) (mu:Bool) (os:Array Oper) (L:List Oper) (n:Nat) (es:List Nat) (s0:XS) (i:Nat) (o:Oper) (fs:List (Nat×Option Nat×AV)) (hs:XS):Option (AV×XS×List Nat):=
  match (⟨s0.n,hadd fs (kgc o) (khs L i n++s0.tmps),hs.heap,hs.k,hs.lg⟩:XS) with
  | v=>match kqz os v.E o with
    | some false=>some (.fz (.tup []),hs,[])
    | some true=>bif es.contains i then (match opE C ih mu o v with
        | some (c,v1)=>some (c,v1,[])
        | none=>none)
      else (match kwn o with
        | some (f,as_)=>(match kj7 v.E f with
          | some (f,fst,caps)=>(match kwc C ih (bif phB L es i then v.H else fun _=>none) f (fst++(as_.map v.E++caps)) with
            | some r=>some (.fz r,hs,[])
            | none=>none)
          | none=>none)
        | none=>bif phB L es i then (match nE C.T C.Z v.E v.H o with
            | some c=>some (c,hs,[])
            | none=>none)
          else (match nE C.T C.Z v.E (getO (kl5 (krf v.E o) s0.heap)) o with
            | some c=>bif okN s0.k c then some (c,hs,krf v.E o) else none
            | none=>none))
    | none=>none
noncomputable def dzE (C:Cx) (ih:EvT) (mu:Bool) (os:Array Oper) (L:List Oper) (n:Nat) (es:List Nat) (s0:XS):List Oper->Nat->List (Nat×Option Nat×AV)->XS->List (Nat×List Nat)->List (Nat×List Nat)->Option (List (Nat×Option Nat×AV)×XS×List (Nat×List Nat)×List (Nat×List Nat))
  | [],_,fs,hs,rf,sl=>some (fs,hs,rf,sl)
  | o::l,i,fs,hs,rf,sl=>match dz1 C ih mu os L n es s0 i o fs hs with
    | some (c,hs1,r1)=>dzE C ih mu os L n es s0 l (i+1) ((i,o.dst,c)::fs) hs1 ((i,r1)::rf) ((i,hs1.lg.take (hs1.lg.length - hs.lg.length))::sl)
    | none=>none
noncomputable def kmu (fs:List (Nat×Option Nat×AV)) (base:List (Nat×AV)):List (Nat×AV):=match fs with
  | []=>base
  | (_,some d,c)::l=>kjs (kmu l base) d c
  | (_,none,_)::l=>kmu l base
noncomputable def drzA (C:Cx) (ih:EvT) (mu:Bool) (ops:Array Oper) (s:XS) (es:List Nat):Option XS:=
  bif relB ops.toList ops.toList.length s.n && ktx ops.toList ops.toList.length es then
    (match dzE C ih mu ops ops.toList ops.toList.length es s ops.toList 0 [] s [] [] with
      | some (fs,hs,rf,sl)=>bif rf.all (fun p=>sl.all fun q=>anc ops.toList q.1 p.1 || p.2.all (fun r=>!q.2.contains r)) then some ⟨s.n,kmu fs s.tmps,hs.heap,hs.k,hs.lg⟩ else none
      | none=>none)
  else none
noncomputable def drzE (C:Cx) (ih:EvT) (mu:Bool) (ops:Array Oper) (s:XS):Option XS:=match drzA C ih mu ops s (esOf C.nf mu ops.toList 0) with
  | some r=>some r
  | none=>match drzA C ih mu ops s (esOf C.nf true ops.toList 0) with
    | some r=>some r
    | none=>match drzA C ih mu ops s (esOf [] mu ops.toList 0) with
      | some r=>some r
      | none=>drzA C ih mu ops s (esOf [] true ops.toList 0)
noncomputable def evB (C:Cx) (ih:EvT):EvT:=fun mu c s=>match c with
  | .skip=>some (.normal,s)
  | .region _ ops false=>match opsE C ih mu ops ops.toList s with
    | some s1=>some (.normal,s1)
    | none=>none
  | .region _ ops true=>match drzE C ih mu ops s with
    | some s1=>some (.normal,s1)
    | none=>none
  | .seq x y=>match ih mu x s with
    | some (.normal,s1)=>ih mu y s1
    | r=>r
  | .cond c x y=>match s.E c with
    | .fz (.atom (.bool b))=>ih mu (bif b then x else y) s
    | _=>none
  | .block id x=>match ih mu x s with
    | some (.exit i,s1)=>bif Nat.beq i id then some (.normal,s1) else some (.exit i,s1)
    | r=>r
  | .loop x=>match ih mu x s with
    | some (.normal,s1)=>ih mu (.loop x) s1
    | r=>r
  | .exit i=>some (.exit i,s)
  | .ret=>some (.ret,s)
  | .scope x=>ih mu x s
  | _=>none
noncomputable def ev (C:Cx) (n:Nat):EvT:=Nat.rec (motive:=fun _=>EvT) (fun _ _ _=>none) (fun _ ih=>evB C ih) n
noncomputable def runE (C:Cx) (n f:Nat) (args:List FV):Option FV:=match krs C (ev C n) f (args.map .fz) [] 0 [] with
  | some (y,s1)=>frz s1.H false 1000 y
  | none=>none
variable {P:Program} {w w':World} {a:Act}
theorem k8m (fn: Func) {fn2: Func} (f: FuncId) (cvals: List Value) {t1 t2: Nat} {c2: Code} (R: Ending -> World -> Prop) (u: a.defers = [dfn f cvals]) (hf: P.funcs[f]? = some fn2) (x: krl fn2 = some (t1, t2, c2)) (hn: (fn2.name == "runtime.NumGoroutine") = false) (z: cvals.length <= fn2.ntmps) (h:c2.wp P (fun e2 a2 w2=>(e2 = .normal\/e2 = .ret)/\a2.defers=[]/\∃ v,(results fn a.tmps).run P w2 = .ok v w2/\R (.returned v) w2)
      (((⟨cvals.toArray++Array.replicate (fn2.ntmps - cvals.toArray.size) undef,[]⟩:Act).put (some t1) .nilIface).put (some t2) .nilIface) w'):
    Leaves P fn a.tmps R a.defers .returning w':=by
  obtain ⟨id,os,o1,c1,b,p1,p2,p3,p4,p5,n1,n2,nres,c⟩:=kt8 x;rw [u];have k:fn2.body≠none:=by rw [b];simp
  simp only [qbu,ne_eq] at hn;refine leaves_cons (f:=f) (args:=cvals.toArray) (fun A=>by cases A) (by simp [invoke,callFunc,hf,k,hn]) ?_;refine callsD_of_wpS hf b fun c₀ cs hm=>?_;have m:(cvals.toArray++Array.replicate (fn2.ntmps - cvals.toArray.size) undef).size=fn2.ntmps:=by simp;omega
  let a0:Act:={ tmps:=cvals.toArray++Array.replicate (fn2.ntmps - cvals.toArray.size) undef,defers:=[] }
  let a2:Act:=(a0.put (some t1) .nilIface).put (some t2) .nilIface
  have g:∀ (R2:Ending->FrameMode->World->Prop),(∀ v w'',Leaves P fn a.tmps R [] .returning w''->R2 (.returned v) .returning w'') ->
      c2.wp P (fun e a' w''=>bodyPostS P fn2 c₀ cs R2 e a' ({ c₀ with mode := .returning }::cs) w'') a2 w':=by
    intro R2 B;refine wp_mono h ?_;rintro e2 a'' w'' ⟨o,p,v,hv,hr⟩;have i:a''.defers=[]/\∃ u'',({ c₀ with mode := .returning }::cs:List Frame)={ c₀ with mode:=u'' }::cs/\∃ v,(results fn2 a''.tmps).run P w'' = .ok v w''/\R2 (.returned v) u'' w'':=
      ⟨p, .returning,rfl, .tuple #[],by simp [results,nres],B _ _ ⟨v,hv,hr⟩⟩
    rcases o with rfl | rfl <;> exact i
  refine wpS_seq (wpS_region ?_);have q:∀ (a:Act) (w:World),(execOp a.eval o1).run P w = .ok .recover w:=fun a w=>by obtain ⟨cc,as_,ts⟩:=c1;simp only at p2 p3;subst p2 p3;simp [execOp,p1,resolve,invoke,builtin]
  have r:∀ y,Region.wanted o1 y=true:=fun y=>by simp [Region.wanted,p5]
  have key:∀ (cs':List Frame) (Q:Exit->Act->List Frame->World->Prop),(Q .normal a2 cs' w'->os[0]?=some o1/\∃ l,List.range os.size=0::l/\wpOpsS P os Q l (a0.put (some t1) .nilIface) cs' w'):=fun cs' Q hQ=>by
    rcases c with ⟨o2,rfl,q1,q2,q3⟩ | ⟨rfl,rfl⟩
    · refine ⟨rfl,[1],rfl,?_⟩
      have s:∀ y,Region.wanted o2 y=true:=fun y=>(by simp [Region.wanted,q3]);unfold wpOpsS;simp only [List.getElem?_toArray,qax,List.getElem?_cons_zero,s,if_true];have hv:(execOp (a0.put (some t1) .nilIface).eval o2).run P w' = .ok (.value .nilIface) w':=(by have:(a0.put (some t1) .nilIface).eval (.tmp t1) = .nilIface:=(by show (a0.put (some t1) .nilIface).tmps.getD t1 undef = .nilIface;rw [ko6 (some t1) fn2.ntmps t1 m (by intro t ht;injection ht with ht;omega),qn rfl]);simp [execOp,q1,this]);rw [hv];simp only [Oper.upon,q2];unfold wpOpsS;exact hQ
    · refine ⟨rfl,[],rfl,?_⟩
      unfold wpOpsS;have C:a2=a0.put (some t2) .nilIface:=(by show (a0.put (some t2) .nilIface).put (some t2) .nilIface=a0.put (some t2) .nilIface;simp [Act.put]);rw [<- C];exact hQ
  have j:recoverD (c₀::cs)=none:=by simp [recoverD,hm]
  have go:∀ (Q:Exit->Act->List Frame->World->Prop),Q .normal a2 (c₀::cs) w'->wpOpsS P os Q (List.range os.size) a0 (c₀::cs) w':=fun Q hQ=>by obtain ⟨k1,l,k2,k3⟩:=key (c₀::cs) Q hQ;rw [k2];unfold wpOpsS;simp only [k1,r,if_true];rw [q];simp only [j,p4];exact k3
  refine go _ ?_;show c2.wpS P _ a2 (c₀::cs) w';refine wpS_of_wp ?_;have hc:(c₀::cs)=({ c₀ with mode := .returning }::cs:List Frame):=by rw [<- hm]
  rw [hc];exact g _ fun v w'' hl=>hl
variable {F S0:Nat->Prop} {N0:Nat} {S S':Nat->Prop} {ψ ψ':Env} {K:Nat->Prop} {T:List (TypeId×TD)} {Z:List (TypeId×Value)} {o:Oper} {st:St} {t tx:TypeId} {d:TD} {id:Nat} {c:AV}
theorem kaq {α:Type} {b:Bool} {x:Option α} {y:α} (h:(bif b then x else none)=some y):b=true/\x=some y:=by
  cases b with
  | false=>cases h
  | true=>exact ⟨rfl,h⟩
theorem k8i (g:TOk P T) {s:TypeId} {x:Operand} {f:Nat} (ho:o.op = .fieldAddr s x f) (h:fldE T st.eval (kaa st.heap) s x f=some c):NStep P o st c:=by
  unfold fldE at h;split at h
  · rename_i d i
    split at h
    · rename_i fs hk
      split at h
      · rename_i ft off hf
        split at h
        · rename_i df b
          cases a:Nat.beq df.size 0 with
          | true=>rw [a] at h;cases h
          | false=>
            rw [a] at h;exact k49 ho (g.get i) hk hf (g.get b) (fun e=>by rw [e] at a;cases a) h
        · cases h
      · cases h
    · cases h
  · cases h
theorem k9w (f:TOk P T) {x y:Operand} (ho:o.op = .indexAddr t x y) (h:idxE T st.eval (kaa st.heap) t x y=some c):NStep P o st c:=by
  unfold idxE at h;split at h
  · rename_i d k i j hy
    replace h:=kaq h;obtain ⟨h0,h⟩:=h;have h0:0<=i:=(by simpa using h0);split at h
    · rename_i e hk
      split at h
      · rename_i de a
        split at h
        · rename_i id g off len cap p
          split at h
          · rename_i g' cells l
            replace h:=kaq h;obtain ⟨b,h⟩:=h;simp only [qv,qay] at b;obtain rfl:=qi b.1;injection h with h;subst h;exact kaas ho (f.get j) hk (f.get a) p l hy h0 b.2
          · cases h
        · split at h
          · rename_i xs hl
            split at h
            · rename_i z m
              replace h:=kaq h;obtain ⟨b,h⟩:=h;injection h with h;subst h;exact kzz ho (f.get j) hk (f.get a) hl (fun z m=>qi (qu.1 b z m)) hy h0 m rfl
            · cases h
          · cases h
      · cases h
    · rename_i n e hk
      split at h
      · rename_i de a
        replace h:=kaq h;obtain ⟨b,h⟩:=h;exact kabe ho (f.get j) hk (f.get a) hy h0 (by simpa using b) h
      · cases h
    · cases h
  · cases h
theorem k9k (e:TOk P T) {x y:Operand} (ho:o.op = .index t x y) (h:bytE T st.eval (kaa st.heap) t x y=some c):NStep P o st c:=by
  unfold bytE at h;split at h
  · rename_i d s k i f g hy
    split at h
    · rename_i hk
      replace h:=kaq h;obtain ⟨h0,h⟩:=h;split at h
      · rename_i b j
        injection h with h;subst h;have a:s.data[i.toNat]?=some b:=(by simpa using j);exact kabq b ho (e.get f) hk g hy (by simpa using h0) (by obtain ⟨hl,a⟩:=qa2.1 a;rw [<- a];exact getElem?_pos s i.toNat hl)
      · cases h
    · cases h
  · cases h
theorem k7t {s:BA} {l h:Nat} (h1:l<=h) (a:h<=s.size):cutB s l h=s.extract l h:=by apply ByteArray.ext;rw [ByteArray.data_extract];apply qbr;simp [cutB,Array.toList_extract,List.extract_eq_take_drop,List.drop_take]
theorem kv2 (s:BA):km4 s=s.size:=by unfold km4;rw [qa7];rfl
theorem kaaa {x:Operand} {lo hi:Option Operand} {s:BA} {L H:Nat} (ho:o.op = .slice t x lo hi none) (e:TdOk P t d) (hk:d.kind = .str) (f:st.eval x = .fz (.atom (.string s))) (hl:kdp st 0 lo=some L) (c:kdp st (km4 s) hi=some H) (h1:L<=H) (b:H<=km4 s):
    NStep P o st (.fz (.atom (.string (cutB s L H)))):=by
  intro ψ S a w ht g;have hv:=Sim.eval_tmps ht x;rw [f] at hv;rw [kv2] at c b;have e1:=kir P w none false s.size s.size (kbv ht hl) (kbv ht c) (.inl ⟨rfl,rfl⟩) h1 b (qy _) (fun h=>by cases h);refine kaf w (.string (s.extract L H)) ?_ ⟨kai _,by rw [k7t h1 b];exact .fz (.atom rfl)⟩;simp only [Option.map_none] at e1;simp [execOp,ho,Instr.sliceAt,Instr.slice,run_underlying (e.str hk),hv.atom,e1]
theorem k9s (p:TOk P T) {x:Operand} {lo hi mx:Option Operand} (ho:o.op = .slice t x lo hi mx) (h:slcE T st.eval (kaa st.heap) t x lo hi mx=some c):NStep P o st c:=by
  unfold slcE at h;split at h
  · rename_i d q
    split at h
    · rename_i hk
      split at h
      · rename_i s l
        split at h
        · rename_i L H f i
          replace h:=kaq h;obtain ⟨a,h⟩:=h;simp only [qv] at a;injection h with h;subst h;exact kaaa ho (p.get q) hk l f i (qr a.1) (qr a.2)
        · cases h
      · cases h
    · rename_i e hk
      split at h
      · rename_i de b
        split at h
        · rename_i id g off len k l
          split at h
          · rename_i g' cells L H M j f i m
            replace h:=kaq h;obtain ⟨a,h⟩:=h;simp only [qv,qbx,qb2] at a;obtain ⟨b1,b2,b3,b4,b5⟩:=a;obtain rfl:=qi b1;injection h with h;subst h;exact n_slB ho p q hk b l j f i m (qr b2) (qr b3) (qr b4) (fun hm=>b5.elim (fun h=>by rw [hm] at h;cases h) fun h=>h)
          · cases h
        · rename_i id g len l
          split at h
          · rename_i g' cells L H j f i
            split at h
            · replace h:=kaq h
              obtain ⟨a,h⟩:=h;simp only [qv] at a;obtain ⟨b1,b2,b3⟩:=a;obtain rfl:=qi b1;obtain rfl:=qi b2;injection h with h;subst h;exact n_slU ho p q hk b l j f i (qr b3)
            · rename_i y
              split at h
              · rename_i M m
                replace h:=kaq h;obtain ⟨a,h⟩:=h;simp only [qv] at a;obtain ⟨b1,b2,b3,b4,b5⟩:=a;obtain rfl:=qi b1;injection h with h;subst h;exact n_slM ho p q hk b l j f i m (qr b2) (qr b3) (qr b4) b5
              · cases h
          · cases h
        · rename_i l
          split at h
          · rename_i f i m
            replace h:=kaq h;obtain ⟨a,h⟩:=h;simp only [qbx,qb2] at a;injection h with h;subst h;exact n_sl0 ho p q hk b l f i m (fun hm=>a.elim (fun h=>by rw [hm] at h;cases h) fun h=>h)
          · cases h
        · split at h
          · rename_i s n xs hl
            split at h
            · rename_i L H f i
              replace h:=kaq h;obtain ⟨a,h⟩:=h;simp only [qv] at a;obtain ⟨b1,b2,b3⟩:=a;obtain rfl:=qi b1;split at h
              · injection h with h
                subst h;exact n_slF ho p q hk b hl f i (qr b2) (qr b3)
              · rename_i y
                split at h
                · rename_i M m
                  replace h:=kaq h;obtain ⟨a,h⟩:=h;simp only [qv] at a;obtain rfl:=qi a.1;injection h with h;subst h;exact kaak ho p q hk b hl f i m (qr b2) (qr b3) a.2
                · cases h
            · cases h
          · cases h
      · cases h
    · rename_i n e hk
      split at h
      · rename_i de id g off b l
        split at h
        · rename_i g' cells L H M j f i m
          replace h:=kaq h;obtain ⟨a,h⟩:=h;simp only [qv,qbx,qb2] at a;obtain ⟨b1,b2,b3,b4,b5,b6⟩:=a;obtain rfl:=qi b1;injection h with h;subst h;exact k8e ho p q hk b l j f i m (qr b2) (qr b3) (qr b4) (fun hm=>b5.elim (fun h=>by rw [hm] at h;cases h) fun h=>h) (qr b6)
        · cases h
      · cases h
    · cases h
  · cases h
theorem k8h (f:TOk P T) {x:Operand} (ho:o.op = .call { callee := .builtin .len,args:=#[x],argTypes:=#[t] }) (h:lenE T st.eval (kaa st.heap) x t=some c):NStep P o st c:=by
  unfold lenE at h;split at h
  · rename_i d i
    split at h
    · rename_i e id g off len cap hk b
      split at h
      · rename_i g' cells a
        replace h:=kaq h;obtain ⟨j,h⟩:=h;obtain rfl:=qi j;injection h with h;subst h;exact kaa0 ho (f.get i) hk b a
      · cases h
    · rename_i hk _
      split at h
      · rename_i n hn
        injection h with h;subst h;exact kud ho (f.get i) hk hn
      · cases h
    · rename_i s hk b
      injection h with h;subst h;rw [kv2];exact kvm ho (f.get i) hk b
    · rename_i kt et id hk b
      split at h
      · rename_i kv a
        injection h with h;subst h;exact kaao ho (f.get i) hk b a
      · cases h
    · cases h
  · cases h
theorem k9m (a:TOk P T) {x:Operand} (ho:o.op = .call { callee := .builtin .cap,args:=#[x],argTypes:=#[t] }) (h:capE T st.eval (kaa st.heap) x t=some c):NStep P o st c:=by
  unfold capE at h;split at h
  · rename_i d b
    split at h
    · rename_i e hk
      split at h
      · rename_i de f
        split at h
        · rename_i m k ys hr
          injection h with h;subst h;exact kabn ho (a.get b) hk hr
        · cases h
      · cases h
    · cases h
  · cases h
theorem k7g (b:TOk P T) {s:TypeId} {x:Operand} (ho:o.op = .convert s t x) (h:cnvE T st.eval (kaa st.heap) s t x=some c):NStep P o st c:=by
  unfold cnvE at h;split at h
  · rename_i ds d hs f
    split at h
    · rename_i k _ k' n hk g
      injection h with h;subst h;exact k26 b ho hs f hk g
    · rename_i u hk a g
      injection h with h;subst h;exact kz3 b ho hs a f hk g
    · rename_i e hk a
      split at h
      · rename_i de i
        split at h
        · rename_i j
          split at h
          · rename_i n c' ys hr
            split at h
            · rename_i xs hi
              injection h with h;subst h;exact kaaf b ho hs a i j f hk hr hi
            · cases h
          · cases h
        · cases h
      · cases h
    · cases h
  · cases h
theorem kabt (e:TOk P T) (f:ZOk P Z) {x y:Operand} {ok:Bool} (ho:o.op = .lookup t x y ok) (h:lkE T Z st.eval (kaa st.heap) t x y ok=some c):NStep P o st c:=by
  unfold lkE at h;split at h
  · rename_i d id k g i hy
    split at h
    · rename_i kt et hk
      split at h
      · rename_i kd kv a b
        replace h:=kaq h;obtain ⟨j,h⟩:=h;split at h
        · rename_i r hr
          split at h
          · rename_i c' hc
            injection h with h;subst h;exact k13 ho e f g hk a i b hy j hr (by cases r <;> exact hc)
          · cases h
        · cases h
      · cases h
    · cases h
  · cases h
theorem k2z (mx:Bool) {x y:Operand} {ts:Array TypeId} (ho:o.op = .call { callee := .builtin (bif mx then .max else .min),args:=#[x,y],argTypes:=ts }) (h:mmE st.eval (kaa st.heap) mx x y=some c):NStep P o st c:=by
  unfold mmE at h;split at h
  · rename_i k m k' n b hy
    replace h:=kaq h;obtain ⟨a,h⟩:=h;have a:k=k':=(by simpa using a);subst a;injection h with h;subst h;cases mx with
    | false=>exact k61 ho b hy
    | true=>exact k65 ho b hy
  · cases h
theorem k5z {x:Operand} {yt:TypeId} (ho:o.op = .binOp .neq t x (.const .nilIface) yt) (a:TdOk P t d) (hk:d.kind = .ifc) (b:st.eval x = .fz (.atom .nilIface)):NStep P o st (.fz (.atom (.bool false))):=
  kmt true true ho a hk b (.inr ⟨rfl,rfl⟩)
theorem k1d (c:TOk P T) (a:kk4 T t=true):P.underlying t=some .bool:=by
  unfold kk4 at a;split at a
  · rename_i d f
    split at a
    · rename_i hk
      obtain ⟨_,e,h1,b⟩:=c.get f;rw [hk] at b;cases e <;> simp [kff] at b;exact h1
    · cases a
  · cases a
theorem k0c (a:TOk P T) {op:BinOp} {x y:Operand} {yt:TypeId} {r:Bool} (ho:o.op = .binOp op t x y yt) (b:(r=true/\st.eval x = .fz (.atom nilV))\/(r=false/\((∃ id g off len cap cells,st.eval x = .bsl id g off len cap/\objC st id=some (g,cells))\/∃ s n z zs,lstX (st.eval x)=some (s,n,z::zs)))) (hy:st.eval y = .fz (.atom nilV))
    (h:binE.nilE T op t r=some c):NStep P o st c:=by
  unfold binE.nilE at h;split at h
  · rename_i d f
    split at h
    · rename_i e hk
      injection h with h;subst h;exact k2x false r ho ((a.get f).slice hk) b hy
    · rename_i e hk
      injection h with h;subst h;exact k2x true r ho ((a.get f).slice hk) b hy
    · cases h
  · cases h
theorem k91 {z:AV} {r:Bool} (h:nilX (kaa st.heap) z=some r):(r=true/\z = .fz (.atom nilV))\/(r=false/\((∃ id g off len cap cells,z = .bsl id g off len cap/\objC st id=some (g,cells))\/∃ s n x xs,lstX z=some (s,n,x::xs))):=by
  unfold nilX at h;split at h
  · injection h with h;exact .inl ⟨h.symm,rfl⟩
  · rename_i id g off len cap
    split at h
    · rename_i g' cells a
      replace h:=kaq h;obtain ⟨b,h⟩:=h;obtain rfl:=qi b;injection h with h;exact .inr ⟨h.symm, .inl ⟨id,g,off,len,cap,cells,rfl,a⟩⟩
    · cases h
  · split at h
    · rename_i s n x xs hl
      injection h with h;exact .inr ⟨h.symm, .inr ⟨s,n,x,xs,hl⟩⟩
    · cases h
theorem k9q (b:TOk P T) {op:BinOp} {x y:Operand} {yt:TypeId} (ho:o.op = .binOp op t x y yt) (h:binE T st.eval (kaa st.heap) op t x y=some c):NStep P o st c:=by
  unfold binE at h;split at h
  · split at h
    · rename_i d e a
      split at h
      · rename_i hk
        injection h with h;subst h;exact k5z ho (b.get e) hk a
      · cases h
    · cases h
  · split at h
    · rename_i a hy
      exact k0c b ho (.inl ⟨rfl,a⟩) hy h
    · rename_i u v _ a hy
      split at h
      · rename_i r hr
        injection h with h;subst h;exact k7d (kk4 T t) (fun f=>k1d b f) ho a hy hr
      · cases h
    · rename_i hy _ _
      split at h
      · rename_i r hr
        exact k0c b ho (k91 hr) hy h
      · cases h
    · cases h
theorem k9t {x:Operand} (ho:o.op = .entry x) (h:entE st.eval (kaa st.heap) x=some c):NStep P o st c:=by
  unfold entE at h;split at h
  · rename_i id e
    split at h
    · rename_i m since seen stepped a
      split at h
      · rename_i kv j b f
        split at h
        · rename_i p hp
          replace h:=kaq h;obtain ⟨d,h⟩:=h;simp only [qv] at d;injection h with h;subst h;obtain ⟨ys,rfl⟩:∃ ys,seen=ys++[j]:=(by obtain ⟨ys,rfl⟩:=List.getLast?_eq_some_iff.1 f;exact ⟨ys,rfl⟩);rw [qi d.1] at a;exact k6e ho e a b hp d.2
        · cases h
      · cases h
    · cases h
  · cases h
theorem k4a (a:TOk P T) {parts:Array (Nat×Operand)} (ho:o.op = .build t parts) (h:k3r T st.eval t parts=some c):NStep P o st c:=kzm a ho h
theorem kz7 (g:TOk P T) {n:Nat} {parts:Array (Nat×Operand)} (ho:o.op = .buildSlice t n parts) (h:litH T st.eval t n parts=some c):NStep P o st c:=by
  unfold litH at h;split at h
  · rename_i d i
    split at h
    · rename_i e hk
      split at h
      · rename_i de b
        split at h
        · rename_i xs f
          replace h:=kaq h;obtain ⟨a,h⟩:=h;injection h with h;subst h;simp only [qv] at a;exact k6y ho (g.get i) hk (g.get b) (qr a.2.1) (qi a.1) (qr a.2.2) f
        · cases h
      · cases h
    · cases h
  · cases h
theorem kwi (a:TOk P T) (m:ZOk P Z) (h:nE T Z st.eval (kaa st.heap) o=some c):NStep P o st c:=by
  unfold nE at h;split at h
  · rename_i ho;exact k9q a ho h
  · rename_i t x ho
    split at h
    · rename_i d xs p k
      exact k7i ho (a.get p) k h
    · cases h
  · rename_i ho;exact k8i a ho h
  · rename_i ho;exact kaaq ho h
  · rename_i ho;exact k9w a ho h
  · rename_i ho;exact k9k a ho h
  · rename_i ho;exact k9s a ho h
  · rename_i ho;exact k7g a ho h
  · rename_i ho;exact kabt a m ho h
  · rename_i ho;exact k9t ho h
  · rename_i cl ho
    obtain ⟨callee,args,tys⟩:=cl;simp only at h;split at h
    · rename_i x t e l
      rw [kj6 e,kj6 l] at ho;exact k8h a ho h
    · rename_i x t e l
      rw [kj6 e,kj6 l] at ho;exact k9m a ho h
    · rename_i x y e
      have:args=#[x,y]:=(by apply qbr;simpa using e);rw [this] at ho;exact k2z false ho h
    · rename_i x y e
      have:args=#[x,y]:=(by apply qbr;simpa using e);rw [this] at ho;exact k2z true ho h
    · cases h
  · rename_i x ho;injection h with h;subst h;exact ktr (.inl ho)
  · rename_i x ho;injection h with h;subst h;exact ktr (.inr ho)
  · rename_i cc x y ho
    split at h
    · rename_i b j
      injection h with h;subst h;exact k3h ho j
    · cases h
  · rename_i op t x ho
    split at h
    · rename_i u q
      split at h
      · rename_i r hr
        injection h with h;subst h;exact n_un ho q hr
      · cases h
    · cases h
  · rename_i x i ho
    exact kvi ho h
  · rename_i t parts ho
    exact k4a a ho h
  · rename_i t n parts ho
    exact kz7 a ho h
  · rename_i f first cap ho
    cases j:first.isEmpty with
    | false=>
      rw [j] at h;cases g:cap.isEmpty with
      | false=>rw [g] at h;cases h
      | true=>
        rw [g] at h;have:cap=#[]:=(by simpa using g);subst this;simp only [qf,qe,qc] at h;subst h;exact k6u ho
    | true=>
      rw [j] at h;have:first=#[]:=by simpa using j
      subst this;simp only [qe,qc] at h;subst h;exact k4d ho
  · cases h
theorem k60 {dl:Dl} (h:(match nE T Z st.eval (kaa st.heap) o with | some c=>some (c,Dl.no) | none=>none)=some (c,dl)) (a:TOk P T) (b:ZOk P Z):StepA P o st c (ki7 st id dl) (dIds st id dl):=by
  split at h
  · rename_i c' hc
    simp only [qc,qt] at h;obtain ⟨rfl,rfl⟩:=h;exact (kwi a b hc).step
  · cases h
theorem kuq (id:Nat) {i g:Nat} {cells cells':List AV} {x:AV} {dl:Dl} (a:objC st i=some (g,cells)) (h:setE (kaa st.heap) i x cells'=some (c,dl)):x=c/\ki7 st id dl=putC st i cells'/\dIds st id dl=st.ids:=by
  unfold setE at h;split at h
  · rename_i ob ho
    simp only [qc,qt] at h;obtain ⟨rfl,rfl⟩:=h;unfold objC objH at a;rw [ho] at a;unfold putC;rw [ho];split at a
    · rename_i e cs b;injection b with b;subst b;exact ⟨rfl,rfl,rfl⟩
    · rename_i g e sz cs b;injection b with b;subst b;exact ⟨rfl,rfl,rfl⟩
    · cases a
  · cases h
theorem k7p (e:TOk P T) {x y:Operand} {dl:Dl} (ho:o.op = .store t x y) (h:stoE T st.eval (kaa st.heap) t x y=some (c,dl)):StepA P o st c (ki7 st id dl) (dIds st id dl):=by
  unfold stoE at h;split at h
  · rename_i d i n off f j
    split at h
    · rename_i g cells a
      replace h:=kaq h;obtain ⟨b,h⟩:=h;simp only [qv] at b;obtain ⟨b1,b2,b3,b4⟩:=b;obtain rfl:=qi b1;obtain ⟨rfl,e2,e3⟩:=kuq id a h;rw [e2,e3];exact k5c ho (e.get f) j a rfl (qi b2) b3 (qr b4)
    · cases h
  · cases h
theorem k8u (g:TOk P T) {x y:Operand} {dl:Dl} (a:st.ids.contains id=false) (ho:o.op = .makeSlice t x y) (h:mksE T st.eval (kaa st.heap) t id x y=some (c,dl)):StepA P o st c (ki7 st id dl) (dIds st id dl):=by
  unfold mksE at h;split at h
  · rename_i d i
    split at h
    · rename_i e hk
      split at h
      · rename_i de b
        split at h
        · rename_i zv k n k' m j l hy
          replace h:=kaq h;obtain ⟨f,h⟩:=h;simp only [qv,qay] at f;obtain ⟨b1,b2,b3,b4,b5,b6⟩:=f;simp only [qc,qt] at h;obtain ⟨rfl,rfl⟩:=h;exact e_mkE ho g i hk b (qi b1) j b2 l hy b3 b4 b5 b6 a
        · cases h
      · cases h
    · cases h
  · cases h
theorem k8s (a:TOk P T) {mu:Bool} {n:Nat} {parts:Array (Nat×Operand)} {dl:Dl} (b:st.ids.contains id=false) (ho:o.op = .buildSlice t n parts) (h:litE T st.eval (kaa st.heap) mu t n id parts=some (c,dl)):StepA P o st c (ki7 st id dl) (dIds st id dl):=by
  unfold litE at h;split at h
  · rename_i c' hc
    simp only [qc,qt] at h;obtain ⟨rfl,rfl⟩:=h;cases mu with
    | true=>cases hc
    | false=>exact (kz7 a ho hc).step
  · split at h
    · rename_i d j
      split at h
      · rename_i e hk
        split at h
        · rename_i de f
          split at h
          · rename_i ys g
            replace h:=kaq h;obtain ⟨i,h⟩:=h;simp only [qv] at i;obtain ⟨b1,b2,b3⟩:=i;simp only [qc,qt] at h;obtain ⟨rfl,rfl⟩:=h;exact kabh ho (a.get j) hk (a.get f) (qr b2) (qi b1) (qr b3) g b
          · cases h
        · cases h
      · cases h
    · cases h
theorem k9o (e:TOk P T) {x y v:Operand} {dl:Dl} (ho:o.op = .mapUpdate t x y v) (h:mpuE T st.eval (kaa st.heap) t x y v=some (c,dl)):StepA P o st c (ki7 st id dl) (dIds st id dl):=by
  unfold mpuE at h;split at h
  · rename_i d i k f g hy
    split at h
    · rename_i kt et hk
      split at h
      · rename_i kd kv a b
        replace h:=kaq h;obtain ⟨j,h⟩:=h;split at h
        · rename_i kv' hp
          simp only [qc,qt] at h;obtain ⟨rfl,rfl⟩:=h;exact kx8 ho e f hk a g b hy j hp
        · cases h
      · cases h
    · cases h
  · cases h
theorem k71 (e:TOk P T) {x:Operand} {dl:Dl} (a:st.ids.contains id=false) (ho:o.op = .range t x) (h:rngE T st.eval (kaa st.heap) t id x=some (c,dl)):StepA P o st c (ki7 st id dl) (dIds st id dl):=by
  unfold rngE at h;split at h
  · rename_i d m f g
    split at h
    · rename_i kt et kv hk b
      simp only [qc,qt] at h;obtain ⟨rfl,rfl⟩:=h;exact k4m ho (e.get f) hk g b a
    · cases h
  · cases h
theorem k83 {x:Operand} {dl:Dl} (ho:o.op = .next x false) (h:nxtE st.eval (kaa st.heap) x=some (c,dl)):StepA P o st c (ki7 st id dl) (dIds st id dl):=by
  unfold nxtE at h;split at h
  · rename_i i e
    split at h
    · rename_i m since seen stepped a
      split at h
      · rename_i kv b
        replace h:=kaq h;obtain ⟨d,h⟩:=h;simp only [qv] at d;obtain ⟨b1,b2⟩:=d;rw [qi b1] at a;split at h
        · rename_i hl
          simp only [qc,qt] at h;obtain ⟨rfl,rfl⟩:=h;exact (k37 ho e a b (qr b2) hl).step
        · rename_i j hl
          split at h
          · rename_i p hp
            replace h:=kaq h;obtain ⟨d,h⟩:=h;simp only [qc,qt] at h;obtain ⟨rfl,rfl⟩:=h;exact k80 ho e a b (qr b2) hl hp d
          · cases h
        · cases h
      · cases h
    · cases h
  · cases h
theorem kyl (i:TOk P T) {x y:Operand} {e:TypeId} {de:TD} {n:Nat} {ys:List AV} {dl:Dl} (a:st.ids.contains id=false) (ho:o.op = .call { callee := .builtin .append,args:=#[x,y],argTypes:=#[t,tx] }) (j:kad T t=some d) (hk:d.kind = .slice e) (b:kad T e=some de)
    (l:0<de.size) (f:de.zero.length=de.size) (hy:srcE T de.size st tx (st.eval y)=some (n,ys)) (h:appE.grow st.eval (kaa st.heap) id x e de n ys=some (c,dl)):StepA P o st c (ki7 st id dl) (dIds st id dl):=by
  unfold appE.grow at h;split at h
  · rename_i m k xs p
    replace h:=kaq h;obtain ⟨g,h⟩:=h;simp only [qv] at g;simp only [qc,qt] at h;obtain ⟨rfl,rfl⟩:=h;exact k3k ho i j hk b l f p hy (by simpa [Nat.blt_eq] using g.1) (qr g.2) a
  · cases h
theorem k92 (l:TOk P T) {x y:Operand} {dl:Dl} (p:st.ids.contains id=false) (ho:o.op = .call { callee := .builtin .append,args:=#[x,y],argTypes:=#[t,tx] }) (h:appE T st.eval (kaa st.heap) t tx id x y=some (c,dl)):StepA P o st c (ki7 st id dl) (dIds st id dl):=by
  unfold appE at h;split at h
  · rename_i d q
    split at h
    · rename_i e hk
      split at h
      · rename_i de b
        split at h
        · rename_i ys0 hy
          split at h
          · rename_i r hr
            obtain ⟨m,cc,xs⟩:=r;simp only [qc,qt] at h;obtain ⟨rfl,rfl⟩:=h;exact (kabl ho l q hk b hr hy).step
          · cases h
        · rename_i n ys _ hy
          replace h:=kaq h;obtain ⟨s,h⟩:=h;simp only [qv] at s;have v:=qr s.1;have j:=qi s.2;split at h
          · rename_i i g off m u
            split at h
            · rename_i g' e' sz cells f
              replace h:=kaq h;obtain ⟨a,h⟩:=h;simp only [qv] at a;obtain ⟨b1,b2,b3,b4,b5,b6⟩:=a;obtain rfl:=qi b1;obtain rfl:=qi b2;obtain rfl:=qi b3;obtain rfl:=qi b4;simp only [qc,qt] at h;obtain ⟨rfl,rfl⟩:=h;exact k9p ho l q hk b j u f (qi b5) hy (qr b6)
            · cases h
          · rename_i i g off m k u
            cases hr:Nat.ble (m+n) k with
            | true=>
              rw [hr] at h;simp only [qe] at h;split at h
              · rename_i g' cells f
                replace h:=kaq h;obtain ⟨a,h⟩:=h;simp only [qv] at a;obtain rfl:=qi a.1;obtain ⟨rfl,e2,e3⟩:=kuq id f h;rw [e2,e3];exact k2k ho l q hk b u f hy (qr hr) (qr a.2)
              · cases h
            | false=>
              rw [hr] at h;exact kyl l p ho q hk b v j hy h
          · exact kyl l p ho q hk b v j hy h
        · cases h
      · cases h
    · cases h
  · cases h
theorem k7j (j:TOk P T) {x y:Operand} {dl:Dl} (ho:o.op = .call { callee := .builtin .copy,args:=#[x,y],argTypes:=#[t,tx] }) (h:cpyE T st.eval (kaa st.heap) t x y=some (c,dl)):StepA P o st c (ki7 st id dl) (dIds st id dl):=by
  unfold cpyE at h;split at h
  · rename_i d k
    split at h
    · rename_i e hk
      split at h
      · rename_i de b
        split at h
        · rename_i i g off len cap n c2 ys l hy
          split at h
          · rename_i g' cells a
            replace h:=kaq h;obtain ⟨f,h⟩:=h;simp only [qv] at f;obtain rfl:=qi f.1;obtain ⟨rfl,e2,e3⟩:=kuq id a h;rw [e2,e3];exact k8d ho j k hk b l a hy (qr f.2)
          · cases h
        · cases h
      · cases h
    · cases h
  · cases h
theorem sE_ok (b:TOk P T) (i:ZOk P Z) {mu:Bool} {dl:Dl} (a:st.ids.contains id=false) (h:sE T Z st.eval (kaa st.heap) mu id o=some (c,dl)):StepA P o st c (ki7 st id dl) (dIds st id dl):=by
  unfold sE at h;split at h
  · rename_i e x ho
    replace h:=kaq h;obtain ⟨j,h⟩:=h;simp only [qc,qt] at h;obtain ⟨rfl,rfl⟩:=h;exact k6z ho rfl j a
  · rename_i e ho
    split at h
    · rename_i d k
      split at h
      · rename_i cells l
        simp only [qc,qt] at h;obtain ⟨rfl,rfl⟩:=h;exact kuk ho (b.get k) l a
      · cases h
    · cases h
  · rename_i ho;exact k7p b ho h
  · rename_i ho;exact k8u b a ho h
  · rename_i ho;exact k8s b a ho h
  · rename_i ho
    simp only [qc,qt] at h;obtain ⟨rfl,rfl⟩:=h;exact k1g ho a
  · rename_i ho;exact k9o b ho h
  · rename_i ho;exact k71 b a ho h
  · rename_i ho;exact k83 ho h
  · rename_i cl ho
    obtain ⟨callee,args,tys⟩:=cl;simp only at h;split at h
    · rename_i x y t tx f g
      have e1:args=#[x,y]:=(by apply qbr;simpa using f);have e2:tys=#[t,tx]:=(by apply qbr;simpa using g);rw [e1,e2] at ho;exact k92 b a ho h
    · rename_i x y t tx f g
      have e1:args=#[x,y]:=(by apply qbr;simpa using f);have e2:tys=#[t,tx]:=(by apply qbr;simpa using g);rw [e1,e2] at ho;exact k7j b ho h
    · exact k60 h b i
  · exact k60 h b i
end Go.Proofs.YtnlhjbnpjefjgaaGreatDoor
