import Derived.Calls
import Derived.Orders
namespace Go.Ev
set_option linter.unusedVariables false
inductive D where
 | undef
 | int (k:IntKind) (n:Int)
 | bool (b:Bool)
 | str (s:List UInt8)
 | agg (cs:List D)
 | sl0
 | sl (b off len:Nat)
 | ptr (b i f:Nat)
 | fn (f:FuncId) (cap:List D)
 | tup (ds:List D)
 | list (rows:List (List D))
 | el (row:List D) (f:Nat)
 | ub
 deriving Inhabited
abbrev Rows:=List (List D)
abbrev Heap:=List (Option Rows)
abbrev Slots:=List (Nat×D)
abbrev R:=Option (D×Heap)
inductive Kd where
 | other | bool | int (k:IntKind) | str | bytes
 deriving DecidableEq
structure Ty where
 kd:Kd:=.other
 agg:Bool:=false
 size:Nat:=1
 zero:List D:=[]
 fields:List (Nat×Nat×Bool):=[]
 eq:List Kd:=[]
 esz:Nat:=0
 ebytes:Nat:=0
 ezero:List D:=[]
 isSl:Bool:=false
inductive Mode where
 | pure | own | view | raw | ext | shr
 deriving DecidableEq
structure Env where
 ty:TypeId→Option Ty
 code:FuncId→Option Func
 mode:FuncId→FuncId→Mode
 ext:FuncId→List D→Option D
 nt:FuncId→Nat
 keep:FuncId→Nat→Option (List Nat)
 cert:FuncId→Nat→List Nat
 nd:FuncId→Bool
def D.cells:D→List D
 | .agg cs=>cs
 | d=>[d]
def D.isCell:D→Bool
 | .int _ _ | .bool _ | .str _ | .sl0 | .sl _ _ _ | .ptr _ _ _ | .fn _ _ | .list _ | .el _ _=>true
 | _=>false
def D.scalar:D→Bool
 | .int _ _ | .bool _ | .str _=>true
 | _=>false
def getBlk (H:Heap) (b:Nat):Option Rows:=(H[b]?).join
def getRow (H:Heap) (b i:Nat):Option (List D):=(getBlk H b).bind fun rows=>rows[i]?
def lit:Value→D
 | .int k n=>.int k n
 | .bool b=>.bool b
 | .string s=>.str s.data.toList
 | .slice none 0 0=>.sl0
 | _=>.undef
def slot:Slots→Nat→D
 | [],_=>.undef
 | (k,v) :: r,t=>bif Nat.beq k t then v else slot r t
def opnd (s:Slots):Operand→D
 | .tmp t=>slot s t
 | .const v=>lit v
 | .global _=>.undef
 | .func f=>.fn f []
def putS (s:Slots) (d:Option Tmp) (v:D):Slots:=
 match d with
 | some d=>(d,v) :: s
 | none=>s
def nums:Nat→List D→Slots
 | _,[]=>[]
 | i,d :: ds=>(i,d) :: nums (i + 1) ds
def optAll {α β:Type} (f:α→Option β):List α→Option (List β)
 | []=>some []
 | a :: as=>(f a).bind fun b=>(optAll f as).bind fun bs=>some (b :: bs)
def optAllS {α β S:Type} (f:α→S→Option (β×S)):List α→S→Option (List β×S)
 | [],s=>some ([],s)
 | a :: as,s=>(f a s).bind fun r=>(optAllS f as r.2).bind fun q=>some (r.1 :: q.1,q.2)
def mapS {α β S:Type} (f:α→S→β×S):List α→S→List β×S
 | [],s=>([],s)
 | a :: as,s=>((f a s).1 :: (mapS f as (f a s).2).1,(mapS f as (f a s).2).2)
def readT (l:Bool):Nat→Heap→D→Option D
 | 0,_,d=>if d.scalar then some d else none
 | n + 1,H,d=>
  match d with
  | .int k n=>some (.int k n)
  | .bool b=>some (.bool b)
  | .str s=>some (.str s)
  | .list rows=>bif l then some (.list rows) else none
  | .agg cs=>(optAll (readT l n H) cs).map .agg
  | .tup ds=>(optAll (readT l n H) ds).map .tup
  | .sl0=>some (.list [])
  | .sl b off len=>(getBlk H b).bind fun rows=>
    if off + len≤rows.length then (optAll (optAll (readT l n H)) ((rows.drop off).take len)).map .list else none
  | _=>none
def killT:Nat→Heap→D→Heap→Heap
 | 0,_,_,K=>K
 | n + 1,H,d,K=>
  match d with
  | .agg cs=>cs.foldl (fun K c=>killT n H c K) K
  | .tup cs=>cs.foldl (fun K c=>killT n H c K) K
  | .sl b off len=>match getBlk H b with
   | some rows=>((rows.drop off).take len).foldl (fun K r=>r.foldl (fun K c=>killT n H c K) K) (K.set b none)
   | none=>K
  | _=>K
def takeT:Nat→D→Heap→Option (D×Heap)
 | 0,d,H=>if d.scalar then some (d,H) else none
 | n + 1,d,H=>
  match d with
  | .int k n=>some (.int k n,H)
  | .bool b=>some (.bool b,H)
  | .str s=>some (.str s,H)
  | .agg cs=>(optAllS (takeT n) cs H).map fun r=>(.agg r.1,r.2)
  | .tup ds=>(optAllS (takeT n) ds H).map fun r=>(.tup r.1,r.2)
  | .sl0=>some (.sl0,H)
  | .sl b off len=>(getBlk H b).bind fun rows=>
    if off + len≤rows.length then
     (optAllS (optAllS (takeT n)) ((rows.drop off).take len) (H.set b none)).map fun r=>(.list r.1,r.2)
    else none
  | _=>none
def layT:Nat→D→Heap→D×Heap
 | 0,d,H=>(d,H)
 | n + 1,d,H=>
  match d with
  | .agg cs=>let r:=mapS (layT n) cs H; (.agg r.1,r.2)
  | .tup ds=>let r:=mapS (layT n) ds H; (.tup r.1,r.2)
  | .list rows=>let r:=mapS (mapS (layT n)) rows H; (.sl r.2.length 0 rows.length,r.2++[some r.1])
  | d=>(d,H)
def takeL:Nat→D→Heap→Option (D×Heap)
 | 0,d,H=>if d.scalar then some (d,H) else none
 | n + 1,d,H=>
  match d with
  | .int k n=>some (.int k n,H)
  | .bool b=>some (.bool b,H)
  | .str s=>some (.str s,H)
  | .agg cs=>(optAllS (takeL n) cs H).map fun r=>(.agg r.1,r.2)
  | .tup ds=>(optAllS (takeL n) ds H).map fun r=>(.tup r.1,r.2)
  | .sl0=>some (.sl0,H)
  | .list rows=>some (.el [.list rows] 0,H)
  | .sl b off len=>(getBlk H b).bind fun rows=>
    if off + len≤rows.length then
     (optAllS (optAllS (takeL n)) ((rows.drop off).take len) (H.set b none)).map fun r=>(.list r.1,r.2)
    else none
  | _=>none
def layL:Nat→D→Heap→D×Heap
 | 0,d,H=>(d,H)
 | n + 1,d,H=>
  match d with
  | .agg cs=>let r:=mapS (layL n) cs H; (.agg r.1,r.2)
  | .tup ds=>let r:=mapS (layL n) ds H; (.tup r.1,r.2)
  | .list rows=>let r:=mapS (mapS (layL n)) rows H; (.sl r.2.length 0 rows.length,r.2++[some r.1])
  | .el [.list rows] 0=>(.list rows,H)
  | d=>(d,H)
def frzC:D→Bool
 | .int _ _ | .bool _ | .str _ | .sl0 | .list _ | .el _ _=>true
 | _=>false
def frzD:D→Bool
 | .agg cs=>cs.all frzC
 | d=>frzC d
def depth:Nat:=9
def scEq:Kd→D→D→Option Bool
 | .int k,.int k1 a,.int k2 b=>if k1=k∧k2=k then some (a == b) else none
 | .bool,.bool a,.bool b=>some (a == b)
 | .str,.str a,.str b=>some (a == b)
 | _,_,_=>none
def scEqs:List Kd→List D→List D→Option Bool
 | [],[],[]=>some true
 | k :: ks,a :: as,b :: bs=>(scEq k a b).bind fun x=>(scEqs ks as bs).bind fun y=>some (x && y)
 | _,_,_=>none
def maxStr:Nat:=4611686018427387904
def binInt (op:BinOp) (k:IntKind) (a b:Int):Option D:=
 match op with
 | .add=>some (.int k (k.wrap (a + b)))
 | .sub=>some (.int k (k.wrap (a - b)))
 | .mul=>some (.int k (k.wrap (a * b)))
 | .quo=>if b=0 then none else some (.int k (k.wrap (a.tdiv b)))
 | .rem=>if b=0 then none else some (.int k (a.tmod b))
 | .eql=>some (.bool (a == b))
 | .neq=>some (.bool (a != b))
 | .lss=>some (.bool (decide (a < b)))
 | .leq=>some (.bool (decide (a≤b)))
 | .gtr=>some (.bool (decide (a > b)))
 | .geq=>some (.bool (decide (a ≥ b)))
 | .shr=>if 0≤b∧b < 63 then some (.int k (a.fdiv (2 ^ (min b.toNat k.bits)))) else none
 | .and=>some (.int k (k.wrap (BitVec.ofInt k.bits a &&& BitVec.ofInt k.bits b).toNat))
 | .xor=>some (.int k (k.wrap (BitVec.ofInt k.bits a ^^^ BitVec.ofInt k.bits b).toNat))
 | _=>none
def binStr (op:BinOp) (a b:List UInt8):Option D:=
 match op with
 | .add=>if a.length + b.length≤maxStr then some (.str (a++b)) else none
 | .eql=>some (.bool (a == b))
 | .neq=>some (.bool (!(a == b)))
 | .lss=>some (.bool (Op.bytesLess a b))
 | .leq=>some (.bool (Op.bytesLess a b || a == b))
 | .gtr=>some (.bool (!(Op.bytesLess a b || a == b)))
 | .geq=>some (.bool (!Op.bytesLess a b))
 | _=>none
def bI (op:BinOp) (x y:D):Option D:=
 match x,y with
 | .int k a,.int k' b=>
  match op with
  | .shr=>binInt .shr k a b
  | op=>if k=k' then binInt op k a b else none
 | _,_=>none
def bS (op:BinOp) (x y:D):Option D:=
 match x,y with
 | .str a,.str b=>binStr op a b
 | _,_=>none
def bB (op:BinOp) (x y:D):Option D:=
 match x,y with
 | .bool a,.bool b=>
  match op with
  | .eql=>some (.bool (a == b))
  | .neq=>some (.bool (!(a == b)))
  | _=>none
 | _,_=>none
def bA (ks:List Kd) (op:BinOp) (x y:D):Option D:=
 match x,y with
 | .agg as,.agg bs=>
  match op with
  | .eql=>(scEqs ks as bs).map .bool
  | .neq=>(scEqs ks as bs).map fun b=>.bool (!b)
  | _=>none
 | _,_=>none
def binOp (E:Env) (op:BinOp) (t:TypeId) (x y:D):Option D:=
 (E.ty t).bind fun z=>match z.kd with
 | .int _=>bI op x y
 | .str=>bS op x y
 | .bool=>bB op x y
 | _=>match z.eq with
  | []=>none
  | ks=>bA ks op x y
def nilOf (x:D):Option D:=
 match x with
 | .sl0=>some .ub
 | .sl _ _ len=>if len=0 then some .ub else some (.bool false)
 | .list rows=>if rows.length=0 then some .ub else some (.bool false)
 | _=>none
def nilOp (op:BinOp) (x:D):Option D:=
 match op with
 | .eql=>nilOf x
 | _=>none
def nilCmp (E:Env) (op:BinOp) (t:TypeId) (x:D):Option D:=(E.ty t).bind fun y=>bif y.isSl then nilOp op x else none
def isNilC:Operand→Bool
 | .const (.slice none 0 0)=>true
 | _=>false
def unOp (op:UnOp) (x:D):Option D:=
 match op,x with
 | .neg,.int k n=>some (.int k (k.wrap (0 - n)))
 | .not,.bool b=>some (.bool (!b))
 | _,_=>none
def cI (k:IntKind) (x:D):Option D:=
 match x with
 | .int _ n=>some (.int k (k.wrap n))
 | _=>none
def toInt (E:Env) (t:TypeId) (x:D):Option D:=
 (E.ty t).bind fun y=>match y.kd with
 | .int k=>cI k x
 | _=>none
def byteOf:List D→Option UInt8
 | [.int .u8 n]=>some (UInt8.ofNat n.toNat)
 | _=>none
def part (cs:List D) (f:Nat×Nat×Bool):Option D:=
 if f.2.2 then (if f.1 + f.2.1≤cs.length then some (.agg ((cs.drop f.1).take f.2.1)) else none) else cs[f.1]?
def ld (agg:Bool) (size:Nat) (H:Heap) (p:D):Option D:=
 match p with
 | .ptr b i f=>(getRow H b i).bind fun row=>part row (f,size,agg)
 | .el row f=>part row (f,size,agg)
 | _=>none
def load (E:Env) (H:Heap) (t:TypeId) (p:D):Option D:=(E.ty t).bind fun y=>ld y.agg y.size H p
def rowLen (H:Heap) (b i:Nat):Option Nat:=(getRow H b i).map List.length
def ia (esz:Nat) (H:Heap) (x i:D):Option D:=
 match x,i with
 | .sl b off len,.int _ n=>if 0≤n∧n < len∧rowLen H b (off + n.toNat)=some esz then some (.ptr b (off + n.toNat) 0) else none
 | .list rows,.int _ n=>if 0≤n then (rows[n.toNat]?).bind fun row=>if row.length=esz then some (.el row 0) else none else none
 | _,_=>none
def indexAddr (E:Env) (H:Heap) (t:TypeId) (x i:D):Option D:=(E.ty t).bind fun y=>bif y.isSl then ia y.esz H x i else none
def ix (x i:D):Option D:=
 match x,i with
 | .str s,.int _ n=>if 0≤n then (s[n.toNat]?).map fun c=>.int .u8 c.toNat else none
 | _,_=>none
def index (E:Env) (t:TypeId) (x i:D):Option D:=
 (E.ty t).bind fun y=>match y.kd with
 | .str=>ix x i
 | _=>none
def bound (d:Nat):Option D→Option Int
 | none=>some d
 | some (.int _ n)=>some n
 | _=>none
def sliceStr (s:List UInt8) (l h:Int):Option D:=
 if 0≤l∧l≤h∧h≤s.length then some (.str ((s.take h.toNat).drop l.toNat)) else none
def rowsFit (esz:Nat) (rows:List (List D)):Bool:=
 match rows with
 | []=>true
 | r :: _=>r.length == esz
def cut0 (hi mx:Option D):Bool:=
 match mx with
 | none=>true
 | some (.int _ m)=>decide (m=0) && hi.isSome
 | _=>false
def slS (x:D) (lo hi mx:Option D):Option D:=
 match x with
 | .str s=>if mx.isNone=true then (bound 0 lo).bind fun l=>(bound s.length hi).bind fun h=>sliceStr s l h else none
 | _=>none
def slL (esz:Nat) (H:Heap) (x:D) (lo hi mx:Option D):Option D:=
 match x with
 | .sl0=>(bound 0 lo).bind fun l=>(bound 0 hi).bind fun h=>
   if l=0∧h=0∧cut0 hi mx=true then some .sl0 else none
 | .sl b off len=>(bound 0 lo).bind fun l=>(bound len hi).bind fun h=>
   if 0≤l∧l≤h∧h≤len then
    match mx with
    | some _=>if l=0∧h=0∧cut0 hi mx=true then some .sl0 else none
    | none=>if l=0∨rowLen H b off=some esz then some (.sl b (off + l.toNat) (h.toNat - l.toNat)) else none
   else none
 | .list rows=>(bound 0 lo).bind fun l=>(bound rows.length hi).bind fun h=>
   if 0≤l∧l≤h∧h≤rows.length then
    match mx with
    | some _=>if l=0∧h=0∧cut0 hi mx=true then some .sl0 else none
    | none=>if l=0∨rowsFit esz rows=true then some (.list ((rows.take h.toNat).drop l.toNat)) else none
   else none
 | _=>none
def slice (E:Env) (H:Heap) (t:TypeId) (x:D) (lo hi mx:Option D):Option D:=
 (E.ty t).bind fun y=>bif y.isSl then slL y.esz H x lo hi mx else
  match y.kd with
  | .str=>slS x lo hi mx
  | _=>none
def fa (off:Nat) (x:D):Option D:=
 match x with
 | .ptr b i o=>some (.ptr b i (o + off))
 | .el row o=>some (.el row (o + off))
 | _=>none
def fieldAddr (E:Env) (t:TypeId) (x:D) (f:Nat):Option D:=(E.ty t).bind fun y=>(y.fields[f]?).bind fun q=>fa q.1 x
def fd (q:Nat×Nat×Bool) (x:D):Option D:=
 match x with
 | .agg cs=>part cs q
 | _=>none
def field (E:Env) (t:TypeId) (x:D) (f:Nat):Option D:=(E.ty t).bind fun y=>(y.fields[f]?).bind fun q=>fd q x
def lnS (x:D):Option D:=
 match x with
 | .str s=>some (.int .i64 s.length)
 | _=>none
def lnL (x:D):Option D:=
 match x with
 | .sl0=>some (.int .i64 0)
 | .sl _ _ len=>some (.int .i64 len)
 | .list rows=>some (.int .i64 rows.length)
 | _=>none
def lenOf (E:Env) (t:TypeId) (x:D):Option D:=
 (E.ty t).bind fun y=>bif y.isSl then lnL x else
  match y.kd with
  | .str=>lnS x
  | _=>none
def fillC (place:Nat→Option (Nat×Nat)) (cells:List D):List (Nat×D)→Option (List D)
 | []=>some cells
 | (i,v) :: rest=>(place i).bind fun p=>
   if v.cells.length=p.2∧p.1 + p.2≤cells.length∧v.cells.all D.isCell=true then fillC place (cells.take p.1++v.cells++cells.drop (p.1 + p.2)) rest else none
def bld (zero:List D) (fields:List (Nat×Nat×Bool)) (ps:List (Nat×D)):Option D:=
 if zero.all D.isCell=true then (fillC (fun i=>(fields[i]?).map fun q=>(q.1,q.2.1)) zero ps).map .agg else none
def build (E:Env) (t:TypeId) (ps:List (Nat×D)):Option D:=(E.ty t).bind fun y=>bif y.agg then bld y.zero y.fields ps else none
def parts (s:Slots) (ps:Array (Nat×Operand)):List (Nat×D):=ps.toList.map fun p=>(p.1,opnd s p.2)
def extract (x:D) (i:Nat):Option D:=
 match x with
 | .tup ds=>ds[i]?
 | _=>none
def nilCheck (x:D):Option D:=
 match x with
 | .ptr b i f=>some (.ptr b i f)
 | .el row f=>some (.el row f)
 | .fn f c=>some (.fn f c)
 | _=>none
def storeRow (row:List D) (f:Nat) (v:List D):Option (List D):=
 if f + v.length≤row.length then some (row.take f++v++row.drop (f + v.length)) else none
def st (size:Nat) (H:Heap) (p v:D):Option Heap:=
 match p with
 | .ptr b i f=>(getBlk H b).bind fun rows=>
   if v.cells.length=size∧v.cells.all D.isCell=true then
    (rows[i]?).bind fun row=>(storeRow row f v.cells).map fun r=>H.set b (some (rows.set i r))
   else none
 | _=>none
def store (E:Env) (H:Heap) (t:TypeId) (p v:D):Option Heap:=(E.ty t).bind fun y=>st y.size H p v
def fillR (esz:Nat) (rows:List (List D)):List (Nat×D)→Option (List (List D))
 | []=>some rows
 | (i,v) :: rest=>if v.cells.length=esz∧i < rows.length∧v.cells.all D.isCell=true then fillR esz (rows.set i v.cells) rest else none
def bsl (esz:Nat) (zero:List D) (H:Heap) (len:Nat) (ps:List (Nat×D)):R:=
 if len * esz≤65536∧zero.all D.isCell=true then
  (fillR esz (List.replicate len zero) ps).map fun rows=>if len=0 then (.sl0,H) else (.sl H.length 0 len,H++[some rows])
 else none
def buildSlice (E:Env) (H:Heap) (t:TypeId) (len:Nat) (ps:List (Nat×D)):R:=(E.ty t).bind fun y=>bif y.isSl then bsl y.esz y.ezero H len ps else none
def maxLen:Nat:=1099511627776
def mks (ebytes:Nat) (zero:List D) (H:Heap) (len cap:D):R:=
 match len,cap with
 | .int _ l,.int _ c=>
   if 0≤l∧l≤c∧c * ebytes≤maxLen∧c≤maxLen∧zero.all D.isCell=true then some (.sl H.length 0 l.toNat,H++[some (List.replicate l.toNat zero)]) else none
 | _,_=>none
def makeSlice (E:Env) (H:Heap) (t:TypeId) (len cap:D):R:=(E.ty t).bind fun y=>bif y.isSl then mks y.ebytes y.ezero H len cap else none
def srcRows (H:Heap) (x:D):Option (List (List D)):=
 match x with
 | .sl0=>some []
 | .sl b off len=>(getBlk H b).bind fun rows=>if off + len≤rows.length then some ((rows.drop off).take len) else none
 | .list rows=>some rows
 | .str s=>some (s.map fun c=>[.int .u8 c.toNat])
 | _=>none
def app (esz ebytes:Nat) (H:Heap) (a x:D):R:=
 (srcRows H x).bind fun xs=>
  if rowsFit esz xs=true then
   match a with
   | .sl0=>if xs.isEmpty=true then some (.sl0,H) else if xs.length * (ebytes + 1)≤maxLen then some (.sl H.length 0 xs.length,H++[some xs]) else none
   | .sl b off len=>(getBlk H b).bind fun rows=>
     if 0 < len∧off + len≤rows.length∧rowsFit esz ((rows.drop off).take len)=true∧(len + xs.length) * (ebytes + 1)≤maxLen then
      some (.sl H.length 0 (len + xs.length),H.set b none++[some ((rows.drop off).take len++xs)])
     else none
   | _=>none
  else none
def append (E:Env) (H:Heap) (t:TypeId) (a x:D):R:=(E.ty t).bind fun y=>bif y.isSl then app y.esz y.ebytes H a x else none
def clr (esz:Nat) (zero:List D) (H:Heap) (x:D):R:=
 match x with
 | .sl0=>some (.tup [],H)
 | .sl b off len=>if len=0 then some (.tup [],H) else (getBlk H b).bind fun rows=>
   if off + len=rows.length∧rowsFit esz (rows.drop off)=true∧zero.all D.isCell=true then some (.tup [],H.set b (some (rows.take off))) else none
 | _=>none
def clear_ (E:Env) (H:Heap) (t:TypeId) (x:D):R:=(E.ty t).bind fun y=>bif y.isSl then clr y.esz y.ezero H x else none
def maxI (x y:D):Option D:=
 match x,y with
 | .int k a,.int _ b=>some (.int k (if b > a then b else a))
 | _,_=>none
def alloc_ (H:Heap) (cells:List D) (k:D→Heap→R):R:=
 bif cells.all D.isCell then k (.ptr H.length 0 0) (H++[some [cells]]) else none
def popOp (E:Env) (s:Slots) (H:Heap) (op:Op):Option D:=
 match op with
 | .build t ps=>build E t (parts s ps)
 | .load t a=>load E H t (opnd s a)
 | .nilCheck x=>nilCheck (opnd s x)
 | .binOp op t x y _=>bif isNilC y then nilCmp E op t (opnd s x) else binOp E op t (opnd s x) (opnd s y)
 | .unOp op _ x=>unOp op (opnd s x)
 | .slice t x lo hi mx=>slice E H t (opnd s x) (lo.map (opnd s)) (hi.map (opnd s)) (mx.map (opnd s))
 | .fieldAddr t x f=>fieldAddr E t (opnd s x) f
 | .field t x f=>field E t (opnd s x) f
 | .indexAddr t x i=>indexAddr E H t (opnd s x) (opnd s i)
 | .index t x i=>index E t (opnd s x) (opnd s i)
 | .extract t i=>extract (opnd s t) i
 | .convert _ t x=>toInt E t (opnd s x)
 | .call c=>match c.args.toList,c.argTypes.toList with | [x],[t]=>lenOf E t (opnd s x) | _,_=>none
 | _=>none
def isPop (E:Env):Op→Bool
 | .convert a t _=>(E.ty a).isSome && (E.ty t).any fun y=>match y.kd with | .int _=>true | _=>false
 | .call { callee:=.builtin .len,.. }=>true
 | .build _ _ | .load _ _ | .nilCheck _ | .binOp _ _ _ _ _ | .unOp _ _ _ | .slice _ _ _ _ _
 | .fieldAddr _ _ _ | .field _ _ _ | .indexAddr _ _ _ | .index _ _ _ | .extract _ _=>true
 | _=>false
def cSS (H:Heap) (x:D):R:=
 match x with
 | .str s=>some (.str s,H)
 | _=>none
def cSB (H:Heap) (x:D):R:=
 match x with
 | .str s=>if s.length≤maxLen then some (.sl H.length 0 s.length,H++[some (s.map fun c=>[.int .u8 c.toNat])]) else none
 | _=>none
def cBS (H:Heap) (x:D):R:=
 match x with
 | .sl0=>some (.str [],H)
 | .sl b off len=>(srcRows H (.sl b off len)).bind fun rows=>(optAll byteOf rows).bind fun s=>some (.str s,H)
 | .list rows=>(optAll byteOf rows).bind fun s=>some (.str s,H)
 | _=>none
def convert (E:Env) (H:Heap) (src dst:TypeId) (x:D):R:=
 (E.ty src).bind fun y=>(E.ty dst).bind fun z=>
 match y.kd,z.kd with
 | .str,.str=>cSS H x
 | .str,.bytes=>cSB H x
 | .bytes,.str=>cBS H x
 | _,_=>none
def stepOp (E:Env) (f:FuncId) (s:Slots) (H:Heap) (op:Op):R:=
 match op with
 | .buildSlice t n ps=>buildSlice E H t n (parts s ps)
 | .makeSlice t l c=>makeSlice E H t (opnd s l) (opnd s c)
 | .convert a b x=>convert E H a b (opnd s x)
 | .call c=>
  match c.callee with
  | .builtin .append=>match c.args.toList,c.argTypes.toList with
   | [a,x],[t,u]=>bif (E.ty u).any fun z=>(match z.kd with | .int _=>false | _=>true) then append E H t (opnd s a) (opnd s x) else none
   | _,_=>none
  | .builtin .clear=>match c.args.toList,c.argTypes.toList with
   | [x],[t]=>clear_ E H t (opnd s x)
   | _,_=>none
  | .builtin .max=>match c.args.toList with
   | [x,y]=>(maxI (opnd s x) (opnd s y)).map fun d=>(d,H)
   | _=>none
  | _=>none
 | op=>(popOp E s H op).map fun d=>(d,H)
def asB (x:D) (k:Bool→R):R:=
 match x with
 | .bool b=>k b
 | _=>none
open Classical in
noncomputable def asE (x:D) (k:Bool→R):R:=
 match x with
 | .bool b=>k b
 | .ub=>if k true=k false then k true else none
 | _=>none
def enter (E:Env) (rec:FuncId→List Item→Slots→Heap→R) (g:FuncId) (ds:List D) (H:Heap):R:=
 match E.code g with
 | some fn=>match fn.body with
  | some body=>rec g [.code body] (nums 0 ds) H
  | none=>none
 | none=>none
def run (E:Env) (rec:FuncId→List Item→Slots→Heap→R) (l:Bool) (g:FuncId) (ts:List D):Option D:=
 (enter E rec g ts []).bind fun q=>readT l depth q.2 q.1
def runO (E:Env) (rec:FuncId→List Item→Slots→Heap→R) (g:FuncId) (ts:List D):Option D:=
 (enter E rec g ts []).bind fun q=>(takeT depth q.1 q.2).map (·.1)
def readA (H:Heap) (d:D):Option D:=
 match d with
 | .ptr b i f=>(getRow H b i).bind fun row=>(optAll (readT true 8 H) row).map fun r=>.el r f
 | .el row f=>some (.el row f)
 | d=>readT true depth H d
def callFn (E:Env) (rec:FuncId→List Item→Slots→Heap→R) (m:Mode) (g:FuncId) (ds:List D) (H:Heap):R:=
 match m with
 | .pure=>(optAll (readA H) ds).bind fun ts=>(run E rec false g ts).bind fun t=>some (t,H)
 | .own=>(optAll (readA H) ds).bind fun ts=>(runO E rec g ts).bind fun t=>some (layT depth t H)
 | .view=>(optAll (readT true depth H) ds).bind fun ts=>(run E rec true g ts).bind fun t=>some (t,ds.foldl (fun K d=>killT depth H d K) H)
 | .ext=>(optAll (readT true depth H) ds).bind fun ts=>(E.ext g ts).bind fun t=>some (layT depth t H)
 | .raw=>enter E rec g ds H
 | .shr=>bif ds.all frzD then (enter E rec g ds []).bind fun q=>(takeL depth q.1 q.2).bind fun t=>some (layL depth t.1 H) else none
def asFn (x:D) (k:FuncId→List D→R):R:=
 match x with
 | .fn g cap=>k g cap
 | _=>none
def tyK (E:Env) (t:TypeId) (k:Ty→R):R:=
 match E.ty t with
 | some y=>k y
 | none=>none
def doOp (E:Env) (rec:FuncId→List Item→Slots→Heap→R) (f:FuncId) (o:Oper) (s:Slots) (H:Heap) (k:Slots→Heap→R):R:=
 match o.op with
 | .move x | .assign x=>k (putS s o.dst (opnd s x)) H
 | .pick c a b=>asB (opnd s c) fun t=>k (putS s o.dst (bif t then opnd s a else opnd s b)) H
 | .makeFunc (.func g) first captured=>bif Nat.beq first.size 0 && (captured.toList.map (opnd s)).all D.isCell then k (putS s o.dst (.fn g (captured.toList.map (opnd s)))) H else none
 | .alloc t=>tyK E t fun y=>alloc_ H y.zero fun p H=>k (putS s o.dst p) H
 | .box _ v=>alloc_ H (opnd s v).cells fun p H=>k (putS s o.dst p) H
 | .store t a x=>(store E H t (opnd s a) (opnd s x)).bind fun H=>k (putS s o.dst .undef) H
 | op=>
  bif isPop E op then (popOp E s H op).bind fun d=>k (putS s o.dst d) H
  else
   match op with
   | .call c=>
    match c.callee with
    | .value x=>asFn (opnd s x) fun g cap=>(callFn E rec (E.mode f g) g (c.args.toList.map (opnd s)++cap) H).bind fun r=>k (putS s o.dst r.1) r.2
    | _=>(stepOp E f s H op).bind fun r=>k (putS s o.dst r.1) r.2
   | _=>(stepOp E f s H op).bind fun r=>k (putS s o.dst r.1) r.2
def gslot (ops:Array Oper) (g:Nat):Option Nat:=
 match ops[g]? with
 | some o=>o.dst
 | none=>none
def insk (dst:Option Nat) (sk:List Nat):List Nat:=
 match dst with
 | some d=>d :: sk
 | none=>sk
def unsk (dst:Option Nat) (sk:List Nat):List Nat:=
 match dst with
 | some d=>sk.filter fun t=>!Nat.beq t d
 | none=>sk
def sameD:D→D→Bool
 | .sl b o n,.sl b' o' n'=>Nat.beq b b' && (Nat.beq o o' && Nat.beq n n')
 | .sl0,.sl0=>true
 | .int k i,.int k' i'=>decide (k=k') && decide (i=i')
 | .str s,.str s'=>decide (s=s')
 | .bool b,.bool b'=>b == b'
 | _,_=>false
def again (v v':D) (k:R):R:=bif sameD v v' then k else none
def rechk (E:Env) (ops:Array Oper) (s:Slots) (H:Heap) (k:R):List Nat→R
 | []=>k
 | j :: js=>match ops[j]? with
  | some o=>match o.op,o.dst with
   | .load t a,some d=>(load E H t (opnd s a)).bind fun v=>again v (slot s d) (rechk E ops s H k js)
   | _,_=>none
  | none=>none
def evOps (E:Env) (rec:FuncId→List Item→Slots→Heap→R) (f:FuncId) (ops:Array Oper) (fl:Nat→List Nat):List Nat→List Nat→Slots→Heap→(Slots→Heap→R)→R
 | [],_,s,H,k=>k s H
 | i :: is,sk,s,H,k=>
  match ops[i]? with
  | none=>none
  | some o=>
   match o.guard with
   | none=>doOp E rec f o s H fun s H=>rechk E ops s H (evOps E rec f ops fl is (unsk o.dst sk) s H k) (fl i)
   | some (g,want)=>
    match gslot ops g with
    | none=>none
    | some t=>
     bif sk.any (Nat.beq t) then evOps E rec f ops fl is (insk o.dst sk) (putS s o.dst (.tup [])) H k
     else asB (slot s t) fun b=>
      match want with
      | true=>bif b then doOp E rec f o ((t,.bool true) :: s) H fun s H=>rechk E ops s H (evOps E rec f ops fl is (unsk o.dst sk) s H k) (fl i) else evOps E rec f ops fl is (insk o.dst sk) (putS ((t,.bool false) :: s) o.dst (.tup [])) H k
      | false=>bif b then evOps E rec f ops fl is (insk o.dst sk) (putS ((t,.bool true) :: s) o.dst (.tup [])) H k else doOp E rec f o ((t,.bool false) :: s) H fun s H=>rechk E ops s H (evOps E rec f ops fl is (unsk o.dst sk) s H k) (fl i)
def heapy (E:Env):Op→Bool
 | .load _ _ | .store _ _ _ | .alloc _ | .box _ _ | .buildSlice _ _ _ | .makeSlice _ _ _ | .convert _ _ _ | .indexAddr _ _ _=>true
 | .slice t _ _ _ _=>!(E.ty t).any fun y=>y.kd == .str
 | .call { callee:=.builtin .len,.. }=>false
 | .call _=>true
 | _=>false
def writer (E:Env) (f:FuncId):Op→Bool
 | .store _ _ _=>true
 | .call { callee:=.builtin .len,.. }=>false
 | .call { callee:=.value (.func g),.. }=>match E.mode f g with | .pure | .own | .ext | .shr=>false | _=>true
 | .call _=>true
 | _=>false
def bitsOf (l:List Nat):Nat:=l.foldl (fun s t=>s ||| 2 ^ t) 0
def wm (o:Oper):Nat:=match o.dst with | some d=>2 ^ d | none=>0
def rm (ops:Array Oper) (o:Oper):Nat:=bitsOf (o.looksAt ops)
def apartB (ops:Array Oper) (o o':Oper):Bool:=
 Nat.beq (Nat.land (wm o) (rm ops o')) 0 && Nat.beq (Nat.land (wm o') (rm ops o)) 0 && Nat.beq (Nat.land (wm o) (wm o')) 0
def freePair (E:Env) (f:FuncId) (ops:Array Oper) (o o':Oper):Bool:=
 apartB ops o o' && !(writer E f o.op && heapy E o'.op) && !(heapy E o.op && writer E f o'.op)
def floatB (ops:Array Oper) (j:Nat):Bool:=
 match ops[j]? with
 | some o=>match o.op,o.dst,o.guard with
  | .load _ _,some d,none=>!((o.looksAt ops).any (Nat.beq d)) && (List.range ops.size).all fun k=>!(Nat.blt j k) || (match ops[k]? with
   | some o'=>(match o'.dst with
    | some d'=>!(Nat.beq d' d) && !((o.looksAt ops).any (Nat.beq d'))
    | none=>true)
   | none=>true)
  | _,_,_=>false
 | none=>false
def flOf (E:Env) (f:FuncId) (m:List Nat) (ops:Array Oper) (i:Nat):List Nat:=
 match ops[i]? with
 | some o=>bif writer E f o.op then (List.range i).filter fun j=>floatB ops j && !((m.getD i 0).testBit j) else []
 | none=>[]
def edgesOk (m:List Nat) (i:Nat) (es:List Edge):Bool:=
 (es.all fun e=>!Region.binds .any e || Nat.blt e.on i) &&
 Nat.beq (m.getD i 0) (es.foldl (fun s e=>bif Region.binds .any e then s ||| 2 ^ e.on ||| m.getD e.on 0 else s) 0)
def pairsOk (E:Env) (f:FuncId) (ops:Array Oper) (m:List Nat):List Oper→Nat→Bool
 | [],_=>true
 | o :: r,i=>edgesOk m i o.after.toList && pairs2 o r i (i + 1) && pairsOk E f ops m r (i + 1)
where
 pairs2 (o:Oper):List Oper→Nat→Nat→Bool
  | [],_,_=>true
  | o' :: r,i,j=>((m.getD j 0).testBit i || freePair E f ops o o' || (floatB ops i && (writer E f o'.op && apartB ops o o'))) && pairs2 o r i (j + 1)
def guardsOk (ops:Array Oper) (m:List Nat):List Oper→Nat→Bool
 | [],_=>true
 | o :: r,i=>(match o.guard with | none=>true | some (g,_)=>(m.getD i 0).testBit g && (gslot ops g).isSome) && guardsOk ops m r (i + 1)
def dstOk (n:Nat) (ops:List Oper):Bool:=ops.all fun o=>match o.dst with | some d=>Nat.blt d n | none=>true
def drawOk (E:Env) (f:FuncId) (m:List Nat) (ops:Array Oper):Bool:=
 Region.noSelect ops && pairsOk E f ops m ops.toList 0 && guardsOk ops m ops.toList 0
def restrict (s:Slots) (keep:List Nat):Slots:=keep.map fun i=>(i,slot s i)
def resOf (E:Env) (s:Slots) (H:Heap):ResultVar→Option D
 | .tmp t=>some (slot s t)
 | .cell a t=>load E H t (slot s a)
def tupOf:List D→D
 | [d]=>d
 | ds=>.tup ds
def ret_ (H:Heap) (l:List (Option D)):R:=(optAll id l).bind fun ds=>some (tupOf ds,H)
noncomputable def X (E:Env) (rec:FuncId→List Item→Slots→Heap→R) (f:FuncId) (cont:List Item→Slots→Heap→R) (todo:List Item) (s:Slots) (H:Heap):R:=
 match todo with
 | [] | .code .ret :: _=>match E.code f with
  | some fn=>ret_ H (fn.results.toList.map (resOf E s H))
  | none=>none
 | .code .skip :: k | .inBlock _ :: k=>cont k s H
 | .code (.seq a b) :: k=>cont (.code a :: .code b :: k) s H
 | .code (.cond c a b) :: k=>
  bif E.nd f then asE (opnd s c) fun t=>bif t then cont (.code a :: k) s H else cont (.code b :: k) s H
  else asB (opnd s c) fun t=>bif t then cont (.code a :: k) s H else cont (.code b :: k) s H
 | .code (.block id c) :: k=>cont (.code c :: .inBlock id :: k) s H
 | .code (.loop c) :: k | .inLoop c :: k=>cont (.code c :: .inLoop c :: k) s H
 | .code (.exit id) :: k=>match exitTo id k with
  | some k'=>cont k' s H
  | none=>none
 | .code (.region id ops draw) :: k=>
  bif !dstOk (E.nt f) ops.toList || (draw && !drawOk E f (E.cert f id) ops) then none else evOps E rec f ops (bif draw then flOf E f (E.cert f id) ops else fun _=>[]) (List.range ops.size) [] (match E.keep f id with | some l=>restrict s l | none=>s) H fun s H=>cont k s H
 | _=>none
noncomputable def execN (E:Env):Nat→FuncId→List Item→Slots→Heap→R
 | 0,_,_,_,_=>none
 | n + 1,f,todo,s,H=>X E (execN E n) f (execN E n f) todo s H
end Go.Ev
namespace Go.Ev
set_option linter.unusedVariables false
abbrev Rec:=FuncId→List Item→Slots→Heap→R
def Le {α:Type} (a b:Option α):Prop:=∀ r,a=some r→b=some r
theorem Le.refl {α:Type} (a:Option α):Le a a:=fun _ h=>h
theorem Le.bind {α β:Type} {a b:Option α} {f g:α→Option β} (h:Le a b) (hf:∀ x,Le (f x) (g x)):Le (a.bind f) (b.bind g):=by
 intro r hr
 obtain ⟨x,hx,hy⟩:=Option.bind_eq_some_iff.mp hr
 rw [h x hx]; exact hf x r hy
def LeR (a b:Rec):Prop:=∀ f t s H,Le (a f t s H) (b f t s H)
theorem enter_mono {E:Env} {a b:Rec} (h:LeR a b) (g:FuncId) (ds:List D) (H:Heap):Le (enter E a g ds H) (enter E b g ds H):=by
 unfold enter
 split
 ·split
  ·exact h _ _ _ _
  ·exact Le.refl _
 ·exact Le.refl _
theorem run_mono {E:Env} {a b:Rec} (h:LeR a b) (l:Bool) (g:FuncId) (ts:List D):Le (run E a l g ts) (run E b l g ts):=
 Le.bind (enter_mono h _ _ _) fun q=>Le.refl _
theorem runO_mono {E:Env} {a b:Rec} (h:LeR a b) (g:FuncId) (ts:List D):Le (runO E a g ts) (runO E b g ts):=
 Le.bind (enter_mono h _ _ _) fun q=>Le.refl _
theorem callFn_mono {E:Env} {a b:Rec} (h:LeR a b) (m:Mode) (g:FuncId) (ds:List D) (H:Heap):Le (callFn E a m g ds H) (callFn E b m g ds H):=by
 unfold callFn
 cases m <;> simp only
 ·exact Le.bind (Le.refl _) fun ts=>Le.bind (run_mono h _ _ _) fun t=>Le.refl _
 ·exact Le.bind (Le.refl _) fun ts=>Le.bind (runO_mono h _ _) fun t=>Le.refl _
 ·exact Le.bind (Le.refl _) fun ts=>Le.bind (run_mono h _ _ _) fun t=>Le.refl _
 ·exact enter_mono h _ _ _
 ·exact Le.refl _
 ·cases ds.all frzD <;> simp only [cond_true,cond_false]
  ·exact Le.refl _
  ·exact Le.bind (enter_mono h _ _ _) fun q=>Le.refl _
theorem asB_mono (x:D) {k k':Bool→R} (h:∀ b,Le (k b) (k' b)):Le (asB x k) (asB x k'):=by
 unfold asB
 split
 ·exact h _
 ·exact Le.refl _
theorem asE_some {x:D} {k:Bool→R} {r:D×Heap} (h:asE x k=some r):(∃ b,x = .bool b∧k b=some r)∨(x = .ub∧k true=some r∧k false=some r):=by
 unfold asE at h
 split at h
 ·exact .inl ⟨_,rfl,h⟩
 ·split at h
  ·rename_i e
   exact .inr ⟨rfl,h,by rw [← e]; exact h⟩
  ·cases h
 ·cases h
@[simp] theorem asE_bool (b:Bool) (k:Bool→R):asE (.bool b) k=k b:=rfl
theorem asE_ub {k:Bool→R} {r:D×Heap} (h1:k true=some r) (h2:k false=some r):asE .ub k=some r:=by
 unfold asE
 dsimp only
 rw [if_pos (by rw [h1,h2]),h1]
theorem asE_mono (x:D) {k k':Bool→R} (h:∀ b,Le (k b) (k' b)):Le (asE x k) (asE x k'):=by
 intro r hr
 rcases asE_some hr with ⟨b,rfl,h1⟩ | ⟨rfl,h1,h2⟩
 ·exact h b r h1
 ·exact asE_ub (h true r h1) (h false r h2)
theorem asFn_mono (x:D) {k k':FuncId→List D→R} (h:∀ g c,Le (k g c) (k' g c)):Le (asFn x k) (asFn x k'):=by
 unfold asFn
 split
 ·exact h _ _
 ·exact Le.refl _
theorem tyK_mono (E:Env) (t:TypeId) {k k':Ty→R} (h:∀ y,Le (k y) (k' y)):Le (tyK E t k) (tyK E t k'):=by
 unfold tyK
 split
 ·exact h _
 ·exact Le.refl _
theorem alloc_mono (H:Heap) (cs:List D) {k k':D→Heap→R} (h:∀ p H,Le (k p H) (k' p H)):Le (alloc_ H cs k) (alloc_ H cs k'):=by
 unfold alloc_
 cases cs.all D.isCell
 ·exact Le.refl _
 ·exact h _ _
theorem doOp_mono {E:Env} {a b:Rec} (h:LeR a b) (f:FuncId) (o:Oper) (s:Slots) (H:Heap) {k k':Slots→Heap→R} (hk:∀ s H,Le (k s H) (k' s H)) :
  Le (doOp E a f o s H k) (doOp E b f o s H k'):=by
 unfold doOp
 split
 ·exact hk _ _
 ·exact hk _ _
 ·exact asB_mono _ fun t=>hk _ _
 ·cases (Nat.beq _ 0 && _) <;> simp only [cond_true,cond_false]
  ·exact Le.refl _
  ·exact hk _ _
 ·exact tyK_mono _ _ fun y=>alloc_mono _ _ fun p H=>hk _ _
 ·exact alloc_mono _ _ fun p H=>hk _ _
 ·exact Le.bind (Le.refl _) fun y=>hk _ _
 ·cases isPop E _ <;> simp only [cond_true,cond_false]
  ·split
   ·split
    ·exact asFn_mono _ fun g c=>Le.bind (callFn_mono h _ _ _ _) fun r=>hk _ _
    ·exact Le.bind (Le.refl _) fun r=>hk _ _
   ·exact Le.bind (Le.refl _) fun r=>hk _ _
  ·exact Le.bind (Le.refl _) fun d=>hk _ _
theorem rechk_mono {E:Env} (ops:Array Oper) (s:Slots) (H:Heap) {k k':R} (hk:Le k k'):∀ l:List Nat,Le (rechk E ops s H k l) (rechk E ops s H k' l)
 | []=>hk
 | j :: js=>by
  unfold rechk
  split
  ·split
   ·refine Le.bind (Le.refl _) fun v=>?_
    unfold again
    cases sameD _ _ <;> simp only [cond_true,cond_false]
    ·exact Le.refl _
    ·exact rechk_mono ops s H hk js
   ·exact Le.refl _
  ·exact Le.refl _
theorem evOps_mono {E:Env} {a b:Rec} (h:LeR a b) (f:FuncId) (ops:Array Oper) (fl:Nat→List Nat):∀ (is sk:List Nat) (s:Slots) (H:Heap) {k k':Slots→Heap→R} (hk:∀ s H,Le (k s H) (k' s H)),
  Le (evOps E a f ops fl is sk s H k) (evOps E b f ops fl is sk s H k')
 | [],sk,s,H,k,k',hk=>hk _ _
 | i :: is,sk,s,H,k,k',hk=>by
  simp only [evOps]
  split
  ·exact Le.refl _
  ·split
   ·exact doOp_mono h _ _ _ _ fun s H=>rechk_mono ops s H (evOps_mono h f ops fl is _ s H hk) _
   ·split
    ·exact Le.refl _
    ·cases sk.any _ <;> simp only [cond_true,cond_false]
     ·refine asB_mono _ fun b=>?_
      split <;> cases b
      ·exact evOps_mono h f ops fl is _ _ _ hk
      ·exact doOp_mono h _ _ _ _ fun s H=>rechk_mono ops s H (evOps_mono h f ops fl is _ s H hk) _
      ·exact doOp_mono h _ _ _ _ fun s H=>rechk_mono ops s H (evOps_mono h f ops fl is _ s H hk) _
      ·exact evOps_mono h f ops fl is _ _ _ hk
     ·exact evOps_mono h f ops fl is _ _ _ hk
theorem X_mono {E:Env} {a b:Rec} (h:LeR a b) (f:FuncId) {c c':List Item→Slots→Heap→R} (hc:∀ t s H,Le (c t s H) (c' t s H)) (todo:List Item) (s:Slots) (H:Heap) :
  Le (X E a f c todo s H) (X E b f c' todo s H):=by
 unfold X
 split <;> (first | exact Le.refl _ | exact hc _ _ _ | skip)
 all_goals skip
 ·cases E.nd f <;> simp only [cond_true,cond_false]
  ·exact asB_mono _ fun t=>by cases t <;> exact hc _ _ _
  ·exact asE_mono _ fun t=>by cases t <;> exact hc _ _ _
 ·split
  ·exact hc _ _ _
  ·exact Le.refl _
 ·cases (!dstOk _ _ || (_ && !drawOk E _ _ _)) <;> simp only [cond_true,cond_false]
  ·exact evOps_mono h _ _ _ _ _ _ _ fun s H=>hc _ _ _
  ·exact Le.refl _
theorem execN_step (E:Env):∀ n,LeR (execN E n) (execN E (n + 1))
 | 0=>fun f t s H r h=>by simp [execN] at h
 | n + 1=>fun f t s H=>by
  have ih:=execN_step E n
  show Le (X E (execN E n) f (execN E n f) t s H) (X E (execN E (n + 1)) f (execN E (n + 1) f) t s H)
  exact X_mono ih f (fun t s H=>ih f t s H) t s H
theorem execN_le (E:Env) {n m:Nat} (h:n≤m):LeR (execN E n) (execN E m):=by
 induction h with
 | refl=>exact fun f t s H=>Le.refl _
 | step _ ih=>exact fun f t s H r hr=>execN_step E _ f t s H r (ih f t s H r hr)
open Classical in
noncomputable def exec (E:Env):Rec:=fun f t s H=>if h:∃ r n,execN E n f t s H=some r then some (Classical.choose h) else none
theorem exec_of {E:Env} {n:Nat} {f:FuncId} {t:List Item} {s:Slots} {H:Heap} {r:D×Heap} (h:execN E n f t s H=some r):exec E f t s H=some r:=by
 have hx:∃ r n,execN E n f t s H=some r:=⟨r,n,h⟩
 unfold exec
 rw [dif_pos hx]
 obtain ⟨m,hm⟩:=Classical.choose_spec hx
 have h1:=execN_le E (Nat.le_max_left n m) f t s H r h
 have h2:=execN_le E (Nat.le_max_right n m) f t s H _ hm
 rw [h1] at h2
 exact h2.symm
theorem exec_some {E:Env} {f:FuncId} {t:List Item} {s:Slots} {H:Heap} {r:D×Heap} (h:exec E f t s H=some r):∃ n,execN E n f t s H=some r:=by
 unfold exec at h
 split at h
 ·rename_i hx
  obtain ⟨m,hm⟩:=Classical.choose_spec hx
  exact ⟨m,by rw [hm]; exact h⟩
 ·cases h
theorem execN_exec (E:Env) (n:Nat):LeR (execN E n) (exec E):=fun _ _ _ _ _ h=>exec_of h
def Ct {α:Type} (c:Nat→Option α) (a:Option α):Prop:=∀ r,a=some r→∃ n,∀ m,n≤m→c m=some r
theorem Ct.const {α:Type} (a:Option α):Ct (fun _=>a) a:=fun r h=>⟨0,fun _ _=>h⟩
theorem Ct.bind {α β:Type} {c:Nat→Option α} {a:Option α} {f:Nat→α→Option β} {g:α→Option β} (h:Ct c a) (hf:∀ x,Ct (fun n=>f n x) (g x)) :
  Ct (fun n=>(c n).bind (f n)) (a.bind g):=by
 intro r hr
 obtain ⟨x,hx,hy⟩:=Option.bind_eq_some_iff.mp hr
 obtain ⟨n1,h1⟩:=h x hx
 obtain ⟨n2,h2⟩:=hf x r hy
 refine ⟨max n1 n2,fun m hm=>?_⟩
 simp only
 rw [h1 m (by omega)]
 exact h2 m (by omega)
theorem exec_ct (E:Env) (f:FuncId) (t:List Item) (s:Slots) (H:Heap):Ct (fun n=>execN E n f t s H) (exec E f t s H):=by
 intro r hr
 obtain ⟨n,hn⟩:=exec_some hr
 exact ⟨n,fun m hm=>execN_le E hm f t s H r hn⟩
theorem enter_ct (E:Env) (g:FuncId) (ds:List D) (H:Heap):Ct (fun n=>enter E (execN E n) g ds H) (enter E (exec E) g ds H):=by
 unfold enter
 cases E.code g with
 | none=>exact Ct.const _
 | some fn=>
  cases hb:fn.body with
  | none=>simp only [hb]; exact Ct.const _
  | some body=>simp only [hb]; exact exec_ct E _ _ _ _
theorem run_ct (E:Env) (l:Bool) (g:FuncId) (ts:List D):Ct (fun n=>run E (execN E n) l g ts) (run E (exec E) l g ts):=
 Ct.bind (enter_ct E _ _ _) fun q=>Ct.const _
theorem runO_ct (E:Env) (g:FuncId) (ts:List D):Ct (fun n=>runO E (execN E n) g ts) (runO E (exec E) g ts):=
 Ct.bind (enter_ct E _ _ _) fun q=>Ct.const _
theorem asB_ct (x:D) {k:Nat→Bool→R} {k':Bool→R} (h:∀ b,Ct (fun n=>k n b) (k' b)):Ct (fun n=>asB x (k n)) (asB x k'):=by
 cases x with
 | bool b=>exact h b
 | _=>exact Ct.const _
theorem asE_ct (x:D) {k:Nat→Bool→R} {k':Bool→R} (h:∀ b,Ct (fun n=>k n b) (k' b)):Ct (fun n=>asE x (k n)) (asE x k'):=by
 intro r hr
 rcases asE_some hr with ⟨b,rfl,h1⟩ | ⟨rfl,h1,h2⟩
 ·exact h b r h1
 ·obtain ⟨n1,g1⟩:=h true r h1
  obtain ⟨n2,g2⟩:=h false r h2
  exact ⟨max n1 n2,fun m hm=>asE_ub (g1 m (by omega)) (g2 m (by omega))⟩
theorem callFn_ct (E:Env) (m:Mode) (g:FuncId) (ds:List D) (H:Heap):Ct (fun n=>callFn E (execN E n) m g ds H) (callFn E (exec E) m g ds H):=by
 unfold callFn
 cases m <;> simp only
 ·exact Ct.bind (Ct.const _) fun ts=>Ct.bind (run_ct E _ _ _) fun t=>Ct.const _
 ·exact Ct.bind (Ct.const _) fun ts=>Ct.bind (runO_ct E _ _) fun t=>Ct.const _
 ·exact Ct.bind (Ct.const _) fun ts=>Ct.bind (run_ct E _ _ _) fun t=>Ct.const _
 ·exact enter_ct E _ _ _
 ·exact Ct.const _
 ·cases ds.all frzD <;> simp only [cond_true,cond_false]
  ·exact Ct.const _
  ·exact Ct.bind (enter_ct E _ _ _) fun q=>Ct.const _
theorem asFn_ct (x:D) {k:Nat→FuncId→List D→R} {k':FuncId→List D→R} (h:∀ g c,Ct (fun n=>k n g c) (k' g c)):Ct (fun n=>asFn x (k n)) (asFn x k'):=by
 cases x with
 | fn g c=>exact h g c
 | _=>exact Ct.const _
theorem tyK_ct (E:Env) (t:TypeId) {k:Nat→Ty→R} {k':Ty→R} (h:∀ y,Ct (fun n=>k n y) (k' y)):Ct (fun n=>tyK E t (k n)) (tyK E t k'):=by
 unfold tyK
 cases E.ty t with
 | some y=>exact h y
 | none=>exact Ct.const _
theorem alloc_ct (H:Heap) (cs:List D) {k:Nat→D→Heap→R} {k':D→Heap→R} (h:∀ p H,Ct (fun n=>k n p H) (k' p H)):Ct (fun n=>alloc_ H cs (k n)) (alloc_ H cs k'):=by
 unfold alloc_
 cases cs.all D.isCell
 ·exact Ct.const _
 ·exact h _ _
theorem doOp_ct {E:Env} (f:FuncId) (o:Oper) (s:Slots) (H:Heap) {k:Nat→Slots→Heap→R} {k':Slots→Heap→R} (hk:∀ s H,Ct (fun n=>k n s H) (k' s H)) :
  Ct (fun n=>doOp E (execN E n) f o s H (k n)) (doOp E (exec E) f o s H k'):=by
 unfold doOp
 split
 ·exact hk _ _
 ·exact hk _ _
 ·exact asB_ct _ fun t=>hk _ _
 ·cases (Nat.beq _ 0 && _) <;> simp only [cond_true,cond_false]
  ·exact Ct.const _
  ·exact hk _ _
 ·exact tyK_ct _ _ fun y=>alloc_ct _ _ fun p H=>hk _ _
 ·exact alloc_ct _ _ fun p H=>hk _ _
 ·exact Ct.bind (Ct.const _) fun y=>hk _ _
 ·cases isPop E _ <;> simp only [cond_true,cond_false]
  ·split
   ·split
    ·exact asFn_ct _ fun g c=>Ct.bind (callFn_ct E _ _ _ _) fun r=>hk _ _
    ·exact Ct.bind (Ct.const _) fun r=>hk _ _
   ·exact Ct.bind (Ct.const _) fun r=>hk _ _
  ·exact Ct.bind (Ct.const _) fun d=>hk _ _
theorem rechk_ct {E:Env} (ops:Array Oper) (s:Slots) (H:Heap) {k:Nat→R} {k':R} (hk:Ct k k'):∀ l:List Nat,Ct (fun n=>rechk E ops s H (k n) l) (rechk E ops s H k' l)
 | []=>hk
 | j :: js=>by
  unfold rechk
  split
  ·split
   ·refine Ct.bind (Ct.const _) fun v=>?_
    unfold again
    cases sameD _ _ <;> simp only [cond_true,cond_false]
    ·exact Ct.const _
    ·exact rechk_ct ops s H hk js
   ·exact Ct.const _
  ·exact Ct.const _
theorem evOps_ct {E:Env} (f:FuncId) (ops:Array Oper) (fl:Nat→List Nat):∀ (is sk:List Nat) (s:Slots) (H:Heap) {k:Nat→Slots→Heap→R} {k':Slots→Heap→R} (hk:∀ s H,Ct (fun n=>k n s H) (k' s H)),
  Ct (fun n=>evOps E (execN E n) f ops fl is sk s H (k n)) (evOps E (exec E) f ops fl is sk s H k')
 | [],sk,s,H,k,k',hk=>hk _ _
 | i :: is,sk,s,H,k,k',hk=>by
  simp only [evOps]
  cases ops[i]? with
  | none=>exact Ct.const _
  | some o=>
   simp only
   cases o.guard with
   | none=>exact doOp_ct f o s H fun s H=>rechk_ct ops s H (evOps_ct f ops fl is _ s H hk) _
   | some gw=>
    obtain ⟨g,want⟩:=gw
    simp only
    cases gslot ops g with
    | none=>exact Ct.const _
    | some t=>
     simp only
     cases sk.any _ <;> simp only [cond_true,cond_false]
     ·refine asB_ct _ fun b=>?_
      cases want <;> cases b <;> simp only [cond_true,cond_false] <;>
       first | exact doOp_ct f o _ H fun s H=>rechk_ct ops s H (evOps_ct f ops fl is _ s H hk) _ | exact evOps_ct f ops fl is _ _ _ hk
     ·exact evOps_ct f ops fl is _ _ _ hk
theorem X_ct {E:Env} (f:FuncId) (todo:List Item) (s:Slots) (H:Heap) :
  Ct (fun n=>X E (execN E n) f (execN E n f) todo s H) (X E (exec E) f (exec E f) todo s H):=by
 unfold X
 split <;> (first | exact Ct.const _ | exact exec_ct _ _ _ _ _ | skip)
 ·cases E.nd f <;> simp only [cond_true,cond_false]
  ·exact asB_ct _ fun t=>by cases t <;> exact exec_ct _ _ _ _ _
  ·exact asE_ct _ fun t=>by cases t <;> exact exec_ct _ _ _ _ _
 ·cases exitTo _ _ with
  | some k'=>exact exec_ct _ _ _ _ _
  | none=>exact Ct.const _
 ·cases (!dstOk _ _ || (_ && !drawOk E _ _ _)) <;> simp only [cond_true,cond_false]
  ·exact evOps_ct _ _ _ _ _ _ _ fun s H=>exec_ct _ _ _ _ _
  ·exact Ct.const _
theorem exec_eq (E:Env) (f:FuncId) (t:List Item) (s:Slots) (H:Heap):exec E f t s H=X E (exec E) f (exec E f) t s H:=by
 cases h:X E (exec E) f (exec E f) t s H with
 | some r=>
  obtain ⟨n,hn⟩:=X_ct f t s H r h
  exact exec_of (n:=n + 1) (hn n (Nat.le_refl _))
 | none=>
  cases h2:exec E f t s H with
  | none=>rfl
  | some r=>
   obtain ⟨n,hn⟩:=exec_some h2
   cases n with
   | zero=>simp [execN] at hn
   | succ n=>
    have:=X_mono (execN_exec E n) f (fun t s H=>execN_exec E n f t s H) t s H r hn
    rw [h] at this; cases this
theorem slot_restrict (s:Slots) (j:Nat):∀ keep:List Nat,keep.contains j=true→slot (restrict s keep) j=slot s j
 | [],h=>by simp at h
 | i :: keep,h=>by
  show (bif Nat.beq i j then slot s i else slot (restrict s keep) j)=slot s j
  cases e:Nat.beq i j with
  | true=>rw [Nat.eq_of_beq_eq_true e]; rfl
  | false=>
   refine slot_restrict s j keep ?_
   have hne:¬ j=i:=fun x=>by subst x; simp at e
   simpa [hne] using h
theorem restrict_restrict (s:Slots) (keep:List Nat):restrict (restrict s keep) keep=restrict s keep:=by
 show keep.map _=keep.map _
 refine List.map_congr_left fun i hi=>?_
 rw [slot_restrict s i keep (by simpa using hi)]
def stop (E:Env) (f:FuncId) (ids:List Nat):List Item→Option (List Nat)
 | .code (.region id _ _) :: _=>if ids.contains id then E.keep f id else none
 | _=>none
theorem exec_restrict (E:Env) (f:FuncId) (id:Nat) (ops:Array Oper) (draw:Bool) (k:List Item) (s:Slots) (H:Heap) (keep:List Nat) (h:E.keep f id=some keep) :
  exec E f (.code (.region id ops draw) :: k) (restrict s keep) H=exec E f (.code (.region id ops draw) :: k) s H:=by
 rw [exec_eq,exec_eq]
 simp only [X,h,restrict_restrict]
noncomputable def seg (E:Env) (f:FuncId) (ids:List Nat):Nat→List Item→Slots→Heap→R
 | 0,t,s,H=>exec E f t s H
 | n + 1,t,s,H=>match stop E f ids t with
  | some keep=>exec E f t (restrict s keep) H
  | none=>X E (exec E) f (seg E f ids n) t s H
theorem seg_eq (E:Env) (f:FuncId) (ids:List Nat):∀ n,seg E f ids n=exec E f
 | 0=>rfl
 | n + 1=>by
  funext t s H
  simp only [seg]
  split
  ·rename_i keep hs
   unfold stop at hs
   split at hs
   ·split at hs
    ·exact exec_restrict E f _ _ _ _ s H keep hs
    ·cases hs
   ·cases hs
  ·rw [seg_eq E f ids n,← exec_eq]
theorem exec_seg (E:Env) (f:FuncId) (ids:List Nat) (n:Nat) (t:List Item) (s:Slots) (H:Heap) :
  exec E f t s H=X E (exec E) f (seg E f ids n) t s H:=by rw [seg_eq,← exec_eq]
def locate (id:Nat):Code→List Item→Option (List Item)
 | .region i ops d,k=>if i == id then some (.code (.region i ops d) :: k) else none
 | .seq a b,k=>match locate id a (.code b :: k) with
  | some r=>some r
  | none=>locate id b k
 | .cond _ a b,k=>match locate id a k with
  | some r=>some r
  | none=>locate id b k
 | .block i c,k=>locate id c (.inBlock i :: k)
 | .loop c,k=>locate id c (.inLoop c :: k)
 | _,_=>none
def at_ (E:Env) (f:FuncId) (id:Nat):List Item:=(((E.code f).bind (·.body)).bind (locate id · [])).getD []
noncomputable def J (E:Env) (f:FuncId) (id:Nat) (vs:List D) (H:Heap):R:=
 exec E f (at_ E f id) (((E.keep f id).getD []).zip vs) H
noncomputable def ent (E:Env) (f:FuncId) (ds:List D) (H:Heap):R:=enter E (exec E) f ds H
theorem J_seg (E:Env) (f:FuncId) (id:Nat) (ids:List Nat) (n:Nat) (vs:List D) (H:Heap) :
  J E f id vs H=X E (exec E) f (seg E f ids n) (at_ E f id) (((E.keep f id).getD []).zip vs) H:=exec_seg _ _ _ _ _ _ _
theorem ent_seg (E:Env) (f:FuncId) (ids:List Nat) (n:Nat) (ds:List D) (H:Heap) :
  ent E f ds H=enter E (fun g t s H=>X E (exec E) g (seg E g ids n) t s H) f ds H:=by
 unfold ent enter
 cases E.code f with
 | none=>rfl
 | some fn=>
  cases hb:fn.body with
  | none=>simp only [hb]
  | some body=>simp only [hb]; exact exec_seg _ _ _ _ _ _ _
end Go.Ev
