/-
  Chapter 9's functions, walked over pure data: the library of the walk, the functions' code over data, and what each computes. (part 1)
-/
import Derived.WalkKit
import Derived.CallsIn
import Derived.OrdersIn
import Derived.ShutString
import Derived.Laws.Concat
import Derived.Deep.MidRow
import Derived.Laws.AppendOwn
import Derived.Laws.MakeOwn
import Derived.Laws.StructEq
import Derived.ChangeKeysEq
set_option linter.unusedVariables false
set_option linter.unusedSimpArgs false
/- A shadow semantics: Go code over pure data. Definitions: data values,the shadow heap,operations,code,and the weakest precondition. -/
namespace Sh
open Go
inductive DV where
 |undef
 |bool (b:Bool)
 |int (k:IntKind) (n:Int)
 |str (s:List UInt8)
 |agg (cs:List DV)
 |tuple (vs:List DV)
 |list (l:List DV)
 |full (l:List DV)
 |ip (d:DV)
 |func (f:FuncId) (caps:List DV)
 |meth (f:FuncId) (firsts:List DV)
 |nilptr
 |nilfunc
 |nilsl
 |abool
 |own (n off len tot:Nat)
 |ptr (n i off tot:Nat)
 |bptr (n off:Nat)
 |dict (n:Nat)
 |flt (k:FloatKind) (n:Nat)
 |fnan (k:FloatKind)
 |sub (n i off len tot:Nat)
 |sptr (n i j off tot:Nat)
 |inn (l:List DV)
 |vl (l:List DV)
 deriving Inhabited
def DV.cells:DV→List DV
 |.agg cs=>cs
 |d=>[d]
inductive DObj where
 |row (sz:Nat) (es:List DV) (fr:Bool)
 |box (sz:Nat) (d:DV)
 |fbox (sz:Nat) (d:DV)
 |dict (es:List (DV×DV))
 |siter (s:List UInt8) (pos:Nat)
 |ghost (rest:List (List DV)) (live:Bool) (l:Nat)
 |nrow (sz c isz:Nat) (es:List DV) (pd:Option (Nat×List DV))
 deriving Inhabited
abbrev Tmps:=List (Nat×DV)
abbrev Heap:=List (Nat×DObj)
def tget:Tmps→Nat→DV
 |[],_=>.undef
 |(k,v) :: r,i=>bif Nat.beq k i then v else tget r i
def hlook:Heap→Nat→Option DObj
 |[],_=>none
 |(k,v) :: r,i=>bif Nat.beq k i then some v else hlook r i
def putO (dst:Option Nat) (d:DV) (t:Tmps):Tmps :=
 match dst with
 |some k=>(k,d) :: t
 |none=>t
mutual
def pureB:DV→Bool
 |.own ..|.ptr ..|.bptr ..|.dict ..|.sub ..|.sptr ..|.inn ..|.vl ..=>false
 |.agg cs=>pureBs cs
 |.tuple cs=>pureBs cs
 |.func _ cs=>pureBs cs
 |.meth _ cs=>pureBs cs
 |_=>true
def pureBs:List DV→Bool
 |[]=>true
 |d :: r=>pureB d && pureBs r
end
mutual
def flatB:DV→Bool
 |.undef|.bool _|.int _ _|.str _|.nilptr|.nilfunc|.nilsl|.abool|.flt _ _|.fnan _=>true
 |.agg cs=>flatBs cs
 |.tuple cs=>flatBs cs
 |.func _ cs=>flatBs cs
 |.meth _ cs=>flatBs cs
 |_=>false
def flatBs:List DV→Bool
 |[]=>true
 |d :: r=>flatB d && flatBs r
end
mutual
def names:DV→List Nat
 |.own n ..|.ptr n ..|.bptr n _|.dict n|.sub n ..|.sptr n ..=>[n]
 |.vl cs=>namess cs
 |.agg cs=>namess cs
 |.tuple cs=>namess cs
 |.func _ cs=>namess cs
 |.meth _ cs=>namess cs
 |_=>[]
def namess:List DV→List Nat
 |[]=>[]
 |d :: r=>names d++namess r
end
def innD:DV→Option (List DV)
 |.inn l=>some l
 |_=>none
def innOf (c:Nat) (e:DV):Option (List DV):=innD (e.cells.getD c .undef)
def closeC:DV→DV
 |.inn l=>.list l
 |d=>d
def closeD:DV→DV
 |.agg cs=>.agg (cs.map closeC)
 |d=>closeC d
def openC (n i:Nat):DV→DV
 |.inn l=>.sub n i 0 l.length l.length
 |d=>d
def setInn (sz c:Nat) (e:DV) (l:List DV):DV:=bif Nat.beq sz 1 then .inn l else .agg (e.cells.set c (.inn l))
def window {α:Type} (es:List α) (off len:Nat):List α:=(es.drop off).take len
def pand:Option Prop→Option Prop→Option Prop
 |none,q=>q
 |p,none=>p
 |some p,some q=>some (p∧q)
mutual
def pur (lk:Nat→Option DObj):DV→Option (Option Prop×DV)
 |.own n off len tot=>match lk n with
  |some (.row _ es _)=>some (some (tot=es.length),.list (window es off len))
  |some (.nrow _ _ _ es none)=>some (some (tot=es.length),.list (window (es.map closeD) off len))
  |_=>none
 |.sub ..|.sptr ..|.inn ..|.vl ..=>none
 |.ptr ..=>none
 |.bptr n off=>match lk n with
  |some (.box _ d)=>bif Nat.beq off 0 && pureB d then some (none,.ip d) else none
  |some (.fbox _ d)=>bif Nat.beq off 0 && pureB d then some (none,.ip d) else none
  |_=>none
 |.dict ..=>none
 |.full l=>some (none,.list l)
 |.agg cs=>match purs lk cs with
  |some (p,ds)=>some (p,.agg ds)
  |none=>none
 |.tuple cs=>match purs lk cs with
  |some (p,ds)=>some (p,.tuple ds)
  |none=>none
 |.func f cs=>match purs lk cs with
  |some (p,ds)=>some (p,.func f ds)
  |none=>none
 |.meth f cs=>match purs lk cs with
  |some (p,ds)=>some (p,.meth f ds)
  |none=>none
 |d=>some (none,d)
def purs (lk:Nat→Option DObj):List DV→Option (Option Prop×List DV)
 |[]=>some (none,[])
 |d :: r=>match pur lk d,purs lk r with
  |some (p,d'),some (q,r')=>some (pand p q,d' :: r')
  |_,_=>none
end
def ofCell:Value→DV
 |.bool b=>.bool b
 |.int k n=>.int k n
 |.string s=>.str s.data.toList
 |.slice none 0 0=>.full []
 |.pointer none=>.nilptr
 |.nilFunc=>.nilfunc
 |.float k n=>.flt k n
 |.map none=>.nilfunc
 |.tuple vs=>match vs.toList with
  |[]=>.tuple []
  |_=>.undef
 |_=>.undef
def ofValue:Value→DV
 |.agg cs=>.agg (cs.toList.map ofCell)
 |v=>ofCell v
def tyK (k:Nat) (t:TypeId):TypeId:=match k with
 |0=>t
 |k+1=>k
def tyN (n:Nat) (t:TypeId):TypeId:=tyK (n / 1000000) t
theorem tyN_lt {n:Nat} {t:TypeId} (h:Nat.blt n 1000000=true):tyN n t=t:=by
 have h:n < 1000000:=Nat.le_of_ble_eq_true h
 unfold tyN
 rw [show n / 1000000=0 by omega];rfl
def ofZero:Value→DV
 |.agg cs=>match cs.toList with
  |[.pointer none,.slice none 0 0]=>.agg [.nilptr,.nilsl]
  |_=>ofValue (.agg cs)
 |v=>ofValue v
def szZero (e:Nat) (sz:Nat):Value→Nat
 |.agg cs=>match cs.toList with
  |[.pointer none,.slice none 0 0]=>(e+1) * 1000000+sz
  |_=>sz
 |_=>sz
def evalOpd (G:Nat→Option DV) (t:Tmps):Operand→DV
 |.tmp i=>tget t i
 |.const v=>ofValue v
 |.func f=>.func f []
 |.global g=>match G g with
  |some d=>.ip d
  |none=>.undef
def part (agg:Bool) (off sz:Nat) (cs:List DV):DV:=bif agg then .agg ((cs.drop off).take sz) else cs.getD off .undef
def setCells (cs:List DV) (off:Nat) (new:List DV):List DV:=cs.take off++new++cs.drop (off+new.length)
inductive DOp where
 |mov (x:Operand)
 |pick (c a b:Operand)
 |alloc (z:DV) (sz:Nat)
 |allocO (z:DV) (sz:Nat) (slots:List (Nat×Nat))
 |box (sz:Nat) (x:Operand)
 |boxI (sz:Nat) (x:Operand)
 |build (z:List DV) (parts:List (Nat×Nat×Operand))
 |lit (imm:Bool) (sz len:Nat) (z:DV) (parts:List (Nat×Operand))
 |load (agg:Option Nat) (a:Operand)
 |store (sz:Nat) (a x:Operand)
 |nilCheck (x:Operand)
 |bin (op:BinOp) (x y:Operand)
 |eqB (neg:Bool) (x y:Operand)
 |eqA (neg:Bool) (ks:List Nat) (x y:Operand)
 |eqNil (neg:Bool) (x:Operand)
 |un (op:UnOp) (x:Operand)
 |conv (k:IntKind) (x:Operand)
 |same (x:Operand)
 |mkfunc (f:FuncId) (caps:List Operand)
 |mkmeth (f:FuncId) (firsts:List Operand)
 |slice (sz:Nat) (x:Operand) (lo hi mx:Option Operand)
 |sliceS (x:Operand) (lo hi:Option Operand)
 |sliceA (n esz:Nat) (agg:Bool) (x:Operand)
 |sliceH (n esz:Nat) (agg:Bool) (x y:Operand)
 |faddr (off sz:Nat) (agg:Bool) (x:Operand)
 |field (off sz:Nat) (agg:Bool) (x:Operand)
 |iaddr (sz:Nat) (x i:Operand)
 |iaddrA (len esz:Nat) (agg:Bool) (x i:Operand)
 |indexS (x i:Operand)
 |indexA (len esz:Nat) (agg:Bool) (x i:Operand)
 |extract (x:Operand) (i:Nat)
 |call (f:Operand) (args:List Operand)
 |len (x:Operand)
 |lenS (x:Operand)
 |capF (x:Operand)
 |appendZ (sz:Nat) (z:DV) (s x:Operand)
 |lenC (n:Nat)
 |append (imm:Bool) (sz:Nat) (s x:Operand)
 |appendE (sz:Nat) (s x:Operand)
 |copy (sz:Nat) (d x:Operand)
 |minmax (mx:Bool) (x:Operand) (r:List Operand)
 |mkslice (sz:Nat) (z:DV) (l c:Operand)
 |makemap
 |mapset (kk:Nat) (ks:List Nat) (m k v:Operand)
 |lookup (kk:Nat) (ks:List Nat) (ok:Bool) (z:DV) (m k:Operand)
 |mapentry (kk:Nat) (ks:List Nat) (z:DV) (m k:Operand)
 |entrystore (m s v:Operand)
 |lenM (x:Operand)
 |rangeS (x:Operand)
 |nextS (x:Operand)
 |strOf (x:Operand)
 |sliceW (sz:Nat) (x:Operand) (lo hi:Option Operand)
 |clear (sz:Nat) (z:DV) (x:Operand)
 |fconv (j k:FloatKind) (x:Operand)
 |ftoi (j:FloatKind) (k:IntKind) (x:Operand)
 |itof (j:IntKind) (k:FloatKind) (x:Operand)
 |litV (sz len:Nat) (z:DV) (parts:List (Nat×Operand))
 |appendN (m sz:Nat) (s x:Operand)
 |mksliceN (sz:Nat) (l c:Operand)
 |bad
 deriving Inhabited
structure DOper where
 dst:Option Nat
 op:DOp
 guard:Option (Nat×Bool)
 bef:List Nat
 deriving Inhabited
structure Keep where
 cv:List (Nat×Nat)
 kt:List Nat
 kh:List Nat
 deriving Inhabited
inductive DC where
 |skip
 |ops (draw:Bool) (l:List DOper)
 |seq (a b:DC)
 |cond (c:Operand) (a b:DC)
 |block (id:Nat) (k:Option Keep) (a:DC)
 |loop (k:Keep) (b:DC)
 |exit (id:Nat)
 |ret
 |rangeF (k:Keep) (f:Operand) (ps:List Nat) (a b:DC)
 deriving Inhabited
inductive DExit where
 |normal
 |exit (id:Nat)
 |ret
inductive Ev where
 |fail
 |ok (p:Option Prop) (d:DV) (u:Heap)
 |okF (ns:List Nat) (p:Option Prop) (d:DV) (u:Heap)
 |call (f:FuncId) (vs:List DV)
 |yield (n:Nat) (vs:List DV)
def andI (k:IntKind) (a b:Int):Int:=k.wrap (BitVec.ofInt k.bits a &&& BitVec.ofInt k.bits b).toNat
def shlI (k:IntKind) (a b:Int):Int:=k.wrap (a * 2 ^ (min b.toNat k.bits))
def shrI (k:IntKind) (a b:Int):Int:=a.fdiv (2 ^ (min b.toNat k.bits))
def fkNo:FloatKind→Nat
 |.f32=>0|.f64=>1
def fkEq (j k:FloatKind):Bool:=Nat.beq (fkNo j) (fkNo k)
def fltO (k:FloatKind):Option Nat→Ev
 |some r=>.ok none (.flt k r) []
 |none=>.ok none (.fnan k) []
def fltBin (op:BinOp) (k:FloatKind) (a b:Nat):Ev :=
 match op with
 |.add=>fltO k (k.format.add a b)
 |.sub=>fltO k (k.format.sub a b)
 |.mul=>fltO k (k.format.mul a b)
 |.quo=>fltO k (k.format.div a b)
 |.eql=>.ok none (.bool (k.format.order a b == some .eq)) []
 |.neq=>.ok none (.bool (k.format.order a b != some .eq)) []
 |.lss=>.ok none (.bool (k.format.order a b == some .lt)) []
 |.leq=>.ok none (.bool (k.format.order a b == some .lt || k.format.order a b == some .eq)) []
 |.gtr=>.ok none (.bool (k.format.order a b == some .gt)) []
 |.geq=>.ok none (.bool (k.format.order a b == some .gt || k.format.order a b == some .eq)) []
 |_=>.fail
def nanBin:BinOp→Ev
 |.neq=>.ok none (.bool true) []
 |.eql|.lss|.leq|.gtr|.geq=>.ok none (.bool false) []
 |_=>.fail
def fltConv (j k:FloatKind) (a:Nat):Ev :=
 bif fkEq j k then .ok none (.flt k a) [] else match j.decode a with
 |.nan _ _=>.ok none (.fnan k) []
 |.infinity s=>.ok none (.flt k (k.encode (.infinity s))) []
 |.number s m e=>bif (k.decode (k.encode (.number s m e))).isInfinity then .fail else .ok none (.flt k (k.encode (.number s m e))) []
def fltInt (j:FloatKind) (k:IntKind) (a:Nat):Ev :=
 match (j.decode a).toInt .zero with
 |some n=>bif decide (k.min≤n∧n≤k.max) then .ok none (.int k n) [] else .fail
 |none=>.fail
def isSh:BinOp→Bool
 |.shl|.shr=>true
 |_=>false
def shBin (op:BinOp) (k:IntKind) (a b:Int):Ev :=
 match op with
 |.shl=>.ok (some (0≤b)) (.int k (shlI k a b)) []
 |.shr=>.ok (some (0≤b)) (.int k (shrI k a b)) []
 |_=>.fail
def intBin (op:BinOp) (k:IntKind) (a b:Int):Ev :=
 match op with
 |.and=>.ok none (.int k (andI k a b)) []
 |.add=>.ok none (.int k (k.wrap (a+b))) []
 |.sub=>.ok none (.int k (k.wrap (a - b))) []
 |.mul=>.ok none (.int k (k.wrap (a * b))) []
 |.quo=>.ok (some (b≠0)) (.int k (k.wrap (a.tdiv b))) []
 |.rem=>.ok (some (b≠0)) (.int k (a.tmod b)) []
 |.eql=>.ok none (.bool (decide (a=b))) []
 |.neq=>.ok none (.bool (decide (a≠b))) []
 |.lss=>.ok none (.bool (decide (a < b))) []
 |.leq=>.ok none (.bool (decide (a≤b))) []
 |.gtr=>.ok none (.bool (decide (b < a))) []
 |.geq=>.ok none (.bool (decide (b≤a))) []
 |_=>.fail
def strBin (op:BinOp) (a b:List UInt8):Ev :=
 match op with
 |.add=>.ok (some (a.length+b.length≤9223372036854775807)) (.str (a++b)) []
 |.eql=>.ok none (.bool (decide (a=b))) []
 |.neq=>.ok none (.bool (decide (a≠b))) []
 |.lss=>.ok none (.bool (Op.bytesLess a b)) []
 |_=>.fail
def kindNo:IntKind→Nat
 |.i8=>0|.i16=>1|.i32=>2|.i64=>3|.u8=>4|.u16=>5|.u32=>6|.u64=>7
def kindEq (j k:IntKind):Bool:=Nat.beq (kindNo j) (kindNo k)
def eqCells:List Nat→List DV→List DV→Option Bool
 |[],[],[]=>some true
 |1 :: ks,.int j a :: r,.int k b :: r'=>match eqCells ks r r' with
  |some e=>bif kindEq j k then some (decide (a=b) && e) else none
  |none=>none
 |0 :: ks,.bool a :: r,.bool b :: r'=>match eqCells ks r r' with
  |some e=>some ((a == b) && e)
  |none=>none
 |2 :: ks,.str a :: r,.str b :: r'=>match eqCells ks r r' with
  |some e=>some (decide (a=b) && e)
  |none=>none
 |_,_,_=>none
def keyEq (kk:Nat) (ks:List Nat) (a b:DV):Option Bool :=
 match kk with
 |0=>match a,b with
  |.bool a,.bool b=>some (a == b)
  |_,_=>none
 |1=>match a,b with
  |.int j a,.int k b=>bif kindEq j k then some (decide (a=b)) else none
  |_,_=>none
 |2=>match a,b with
  |.str a,.str b=>some (decide (a=b))
  |_,_=>none
 |_=>match a,b with
  |.agg xs,.agg ys=>eqCells ks xs ys
  |_,_=>none
def keyB (kk:Nat) (ks:List Nat) (k:DV):Bool :=
 bif Nat.beq kk 3 then (match k with
  |.agg xs=>(eqCells ks xs xs).isSome
  |_=>false)
 else pureB k
def dfind (eq:DV→DV→Option Bool) (k:DV):List (DV×DV)→Nat→Option (Option (Nat×DV))
 |[],_=>some none
 |(k',v) :: r,i=>match eq k k' with
  |some true=>some (some (i,v))
  |some false=>dfind eq k r (i+1)
  |none=>none
def sdecode (s:List UInt8) (pos:Nat):Nat×Nat:=Utf8.decode ⟨s.toArray⟩ pos
def litElems (ev:Operand→DV):List (Nat×Operand)→List DV→List DV
 |[],es=>es
 |(i,x) :: r,es=>litElems ev r (es.set i (ev x))
def elems (lk:Nat→Option DObj):DV→Option (Option Prop×List DV)
 |.list l=>some (none,l)
 |.full l=>some (none,l)
 |.own n off len tot=>match lk n with
  |some (.row _ es _)=>some (some (tot=es.length),window es off len)
  |_=>none
 |_=>none
def bound (o:Option Operand) (ev:Operand→DV) (dflt:Int):Option Int :=
 match o with
 |none=>some dflt
 |some x=>match ev x with
  |.int _ n=>some n
  |_=>none
def chunks (agg:Bool) (esz:Nat) (cs:List DV):Nat→List DV
 |0=>[]
 |n+1=>chunks agg esz cs n++[part agg (n * esz) esz cs]
def minmaxI (mx:Bool) (a b:Int):Int:=bif mx then (if b > a then b else a) else (if b < a then b else a)
def minmaxAll (ev:Operand→DV) (mx:Bool) (k:IntKind):List Operand→Int→Option Int
 |[],a=>some a
 |x :: r,a=>match ev x with
  |.int k' b=>bif kindEq k k' then minmaxAll ev mx k r (minmaxI mx a b) else none
  |_=>none
def cellB:DV→Bool
 |.undef|.agg _|.tuple _=>false
 |_=>true
def cellsB:List DV→Bool
 |[]=>true
 |d :: r=>cellB d && cellsB r
def okE (sz:Nat) (d:DV):Bool:=Nat.beq d.cells.length sz && cellsB d.cells
def isAggB:DV→Bool
 |.agg _=>true
 |_=>false
def fillCells (ev:Operand→DV):List (Nat×Nat×Operand)→List DV→Option (List DV)
 |[],cs=>some cs
 |(off,sz,x) :: r,cs=>bif okE sz (ev x) && Nat.ble (off+sz) cs.length then fillCells ev r (setCells cs off (ev x).cells) else none
def nrow (n c:Nat):Nat:=500000+n * 10+c
def nilRows (n:Nat) (slots:List (Nat×Nat)):List (Nat×DObj):=slots.map fun x=>(nrow n x.1,.row x.2 [] false)
def putCells (n:Nat):List (Nat×Nat)→List DV→List DV
 |[],cs=>cs
 |(c,_) :: r,cs=>putCells n r (cs.set c (.own (nrow n c) 0 0 0))
def putNil (n:Nat) (slots:List (Nat×Nat)):DV→DV
 |.agg cs=>.agg (putCells n slots cs)
 |d=>match slots with
  |[(0,_)]=>.own (nrow n 0) 0 0 0
  |_=>d
def isNilS:DV→Bool
 |.full []=>true
 |_=>false
def slotsOk (lk:Nat→Option DObj) (n:Nat) (cs:List DV):List (Nat×Nat)→Nat→Bool
 |[],_=>true
 |(c,_) :: r,k=>Nat.ble k c && (match lk (nrow n c) with|none=>true|some _=>false) && isNilS (cs.getD c .undef) && slotsOk lk n cs r (c+1)
def isU8:DV→Bool
 |.int k _=>kindEq k .u8
 |_=>false
def byteV:DV→UInt8
 |.int _ n=>UInt8.ofNat n.toNat
 |_=>0
def evalOp (ev:Operand→DV) (lk:Nat→Option DObj) (n:Nat):DOp→Ev
 |.mov x=>.ok none (ev x) []
 |.same x=>match ev x with
  |.str s=>.ok none (.str s) []
  |_=>.fail
 |.pick c a b=>match ev c with
  |.bool c=>match ev a,ev b with
   |.bool x,.bool y=>.ok none (.bool (bif c then x else y)) []
   |_,_=>.ok none (bif c then ev a else ev b) []
  |_=>.fail
 |.alloc z sz=>bif Nat.blt sz 1000000 then
   (match lk n with
   |none=>bif okE sz z && Nat.blt n 1000000 then .ok none (.bptr n 0) [(n,.box sz z)] else .fail
   |some _=>.fail)
  else
   (match lk (sz / 1000000 * 1000000+n) with
   |none=>bif okE (sz % 1000000) z && Nat.blt n 1000000 then .ok none (.bptr (sz / 1000000 * 1000000+n) 0) [(sz / 1000000 * 1000000+n,.box (sz % 1000000) z)] else .fail
   |some _=>.fail)
 |.allocO z sz slots=>match lk n with
  |none=>bif okE sz (putNil n slots z) && Nat.blt n 40000 && slotsOk lk n z.cells slots 0 then .ok none (.bptr n 0) (nilRows n slots++[(n,.box sz (putNil n slots z))]) else .fail
  |some _=>.fail
 |.box sz x=>match lk n with
  |none=>bif okE sz (ev x) && Nat.blt n 1000000 then .ok none (.bptr n 0) [(n,.box sz (ev x))] else .fail
  |some _=>.fail
 |.boxI sz x=>match purs lk [ev x] with
  |some (p,[d])=>bif okE sz (ev x) then .okF (namess [ev x]) p (.ip d) [] else .fail
  |_=>.fail
 |.build z parts=>match fillCells ev parts z with
  |some cs=>.ok none (.agg cs) []
  |none=>.fail
 |.lit imm sz len z parts =>
  match purs lk (litElems ev parts (List.replicate len z)) with
  |some (p,es)=>bif parts.all (fun q=>okE sz (ev q.2)) then
    (bif imm then .okF (namess (litElems ev parts (List.replicate len z))) p (.full es) []
     else match lk n with
      |none=>bif Nat.blt n 1000000 then .okF (namess (litElems ev parts (List.replicate len z))) p (.own n 0 es.length es.length) [(n,.row sz es false)] else .fail
      |some _=>.fail)
   else .fail
  |none=>.fail
 |.load agg a=>match ev a with
  |.ip d=>match agg with
   |none=>bif isAggB d then .fail else .ok none d []
   |some k=>match d with
    |.agg cs=>bif Nat.beq cs.length k then .ok none (.agg cs) [] else .fail
    |_=>.fail
  |.bptr n off=>match lk n with
   |some (.box sz d)=>match agg with
    |none=>bif Nat.blt off sz then .ok none (d.cells.getD off .undef) [] else .fail
    |some k=>bif Nat.beq off 0 && Nat.beq k sz && isAggB d then .ok none d []
     else bif Nat.ble (off+k) sz then .ok none (.agg ((d.cells.drop off).take k)) [] else .fail
   |some (.fbox sz d)=>match agg with
    |none=>bif Nat.blt off sz then .ok none (d.cells.getD off .undef) [] else .fail
    |some k=>bif Nat.beq off 0 && Nat.beq k sz && isAggB d then .ok none d []
     else bif Nat.ble (off+k) sz then .ok none (.agg ((d.cells.drop off).take k)) [] else .fail
   |_=>.fail
  |.ptr n i off tot=>match lk n with
   |some (.row sz es _)=>match agg with
    |none=>.ok (some (tot=es.length∧off < sz)) ((es.getD i .undef).cells.getD off .undef) []
    |some k=>bif Nat.beq off 0 && Nat.beq k sz then .ok (some (tot=es.length∧isAggB (es.getD i .undef)=true)) (es.getD i .undef) []
     else .ok (some (tot=es.length∧off+k≤sz)) (.agg (((es.getD i .undef).cells.drop off).take k)) []
   |some (.nrow sz _ _ es none)=>match agg with
    |none=>.ok (some (tot=es.length∧off < sz)) (openC n i ((es.getD i .undef).cells.getD off .undef)) []
    |some k=>.ok (some (tot=es.length∧off+k≤sz)) (.agg ((((es.getD i .undef).cells.drop off).take k).map (openC n i))) []
   |_=>.fail
  |.sptr n i j off tot=>match lk n with
   |some (.nrow _ c isz es none)=>match innOf c (es.getD i .undef) with
    |some l=>match agg with
     |none=>.ok (some (tot=l.length∧off < isz)) ((l.getD j .undef).cells.getD off .undef) []
     |some k=>bif Nat.beq off 0 && Nat.beq k isz then .ok (some (tot=l.length∧isAggB (l.getD j .undef)=true)) (l.getD j .undef) []
      else .ok (some (tot=l.length∧off+k≤isz)) (.agg (((l.getD j .undef).cells.drop off).take k)) []
    |none=>.fail
   |_=>.fail
  |_=>.fail
 |.store k a x=>match ev a with
  |.bptr n off=>match lk n with
   |some (.box sz d)=>bif okE k (ev x) && Nat.ble (off+k) sz then
     .ok none (.tuple []) [(n,.box sz (bif Nat.beq off 0 && Nat.beq k sz then ev x else .agg (setCells d.cells off (ev x).cells)))] else .fail
   |_=>.fail
  |.ptr n i off tot=>match lk n with
   |some (.row sz es false)=>match pur lk (ev x) with
    |some (q,v)=>bif (names (ev x)).any (Nat.beq n) || !cellsB (ev x).cells then .fail else .okF (names (ev x)) (pand q (some (tot=es.length∧off+k≤sz∧okE k v=true))) (.tuple [])
     [(n,.row sz (es.set i (bif Nat.beq off 0 && Nat.beq k sz then v else .agg (setCells (es.getD i .undef).cells off v.cells))) false)]
    |none=>.fail
   |some (.nrow sz c isz es none)=>match pur lk (ev x) with
    |some (q,v)=>bif (names (ev x)).any (Nat.beq n) || !cellsB (ev x).cells then .fail else .okF (names (ev x)) (pand q (some (tot=es.length∧off+k≤sz∧okE k v=true))) (.tuple [])
     [(n,.nrow sz c isz (es.set i (bif Nat.beq off 0 && Nat.beq k sz then v else .agg (setCells (es.getD i .undef).cells off v.cells))) none)]
    |none=>.fail
   |some (.nrow sz c isz es (some (ip,l)))=>match ev x with
    |.sub m i' o len' tot'=>bif Nat.beq m n && Nat.beq k 1 && Nat.beq off c then .ok (some (tot=es.length∧i'=i∧ip=i∧o=0∧len'=l.length∧tot'=l.length)) (.tuple [])
     [(n,.nrow sz c isz (es.set i (setInn sz c (es.getD i .undef) l)) none)] else .fail
    |_=>.fail
   |_=>.fail
  |.sptr n i j off tot=>match lk n with
   |some (.nrow sz c isz es none)=>match innOf c (es.getD i .undef) with
    |some l=>match pur lk (ev x) with
     |some (q,v)=>bif (names (ev x)).any (Nat.beq n) || !cellsB (ev x).cells then .fail else .okF (names (ev x)) (pand q (some (tot=l.length∧off+k≤isz∧okE k v=true))) (.tuple [])
      [(n,.nrow sz c isz (es.set i (setInn sz c (es.getD i .undef) (l.set j (bif Nat.beq off 0 && Nat.beq k isz then v else .agg (setCells (l.getD j .undef).cells off v.cells))))) none)]
     |none=>.fail
    |none=>.fail
   |_=>.fail
  |_=>.fail
 |.nilCheck x=>match ev x with
  |.ip d=>.ok none (.ip d) []
  |.ptr n i off tot=>match lk n with
   |some (.row _ es _)=>.ok (some (tot=es.length)) (.ptr n i off tot) []
   |some (.nrow _ _ _ es none)=>.ok (some (tot=es.length)) (.ptr n i off tot) []
   |_=>.fail
  |.sptr n i j off tot=>match lk n with
   |some (.nrow _ c _ es none)=>match innOf c (es.getD i .undef) with
    |some l=>.ok (some (tot=l.length)) (.sptr n i j off tot) []
    |none=>.fail
   |_=>.fail
  |.bptr n off=>.ok none (.bptr n off) []
  |.func f cs=>.ok none (.func f cs) []
  |_=>.fail
 |.bin op x y=>match ev x,ev y with
  |.int j a,.int k b=>bif isSh op then shBin op j a b else (bif kindEq j k then intBin op j a b else .fail)
  |.str a,.str b=>strBin op a b
  |.flt j a,.flt k b=>bif fkEq j k then fltBin op k a b else .fail
  |.fnan j,.flt k _=>bif fkEq j k then nanBin op else .fail
  |.flt j _,.fnan k=>bif fkEq j k then nanBin op else .fail
  |.fnan j,.fnan k=>bif fkEq j k then nanBin op else .fail
  |_,_=>.fail
 |.eqB neg x y=>match ev x,ev y with
  |.bool a,.bool b=>.ok none (.bool (bif neg then a != b else a == b)) []
  |_,_=>.fail
 |.eqA neg ks x y=>match ev x,ev y with
  |.agg xs,.agg ys=>match eqCells ks xs ys with
   |some e=>.ok none (.bool (bif neg then !e else e)) []
   |none=>.fail
  |_,_=>.fail
 |.eqNil neg x=>match ev x with
  |.list []=>.ok none .abool []
  |.full []=>.ok none .abool []
  |.list (_ :: _)=>.ok none (.bool neg) []
  |.full (_ :: _)=>.ok none (.bool neg) []
  |_=>.fail
 |.un op x=>match op,ev x with
  |.neg,.int k a=>.ok none (.int k (k.wrap (-a))) []
  |.neg,.flt k a=>.ok none (.flt k (Op.negFloat k a)) []
  |.not,.bool b=>.ok none (.bool (!b)) []
  |_,_=>.fail
 |.conv k x=>match ev x with
  |.int _ a=>.ok none (.int k (k.wrap a)) []
  |_=>.fail
 |.mkfunc f caps=>.ok none (.func f (caps.map ev)) []
 |.mkmeth f caps=>.ok none (.meth f (caps.map ev)) []
 |.slice sz x lo hi mx=>match mx with
  |none=>match ev x with
   |.list s=>match bound lo ev 0,bound hi ev s.length with
    |some l,some h=>.ok (some (0≤l∧l≤h∧h≤s.length∧∀ e ∈ s,okE sz e=true)) (.list (window s l.toNat (h - l).toNat)) []
    |_,_=>.fail
   |.full []=>match bound lo ev 0,bound hi ev 0 with
    |some l,some h=>.ok (some (0≤l∧l≤h∧h≤0)) (.full []) []
    |_,_=>.fail
   |.full s=>match bound lo ev 0,bound hi ev s.length with
    |some l,some h=>.ok (some (0≤l∧l≤h∧h≤s.length∧∀ e ∈ s,okE sz e=true)) (.list (window s l.toNat (h - l).toNat)) []
    |_,_=>.fail
   |.own n off len tot=>match bound lo ev 0,bound hi ev len with
    |some l,some h=>match lk n with
     |some (.row sz' es _)=>bif Nat.beq sz sz' then .ok (some (tot=es.length∧0≤l∧l≤h∧h≤len)) (.own n (off+l.toNat) (h - l).toNat tot) [] else .fail
     |_=>.fail
    |_,_=>.fail
   |_=>.fail
  |some m=>match ev x with
   |.list _=>(match bound lo ev 0,bound hi ev 1,ev m with
    |some 0,some 0,.int _ 0=>.ok none (.full []) []
    |_,_,_=>.fail)
   |.full _=>(match bound lo ev 0,bound hi ev 1,ev m with
    |some 0,some 0,.int _ 0=>.ok none (.full []) []
    |_,_,_=>.fail)
   |.own n off len tot=>(match bound lo ev 0,bound hi ev 1,ev m with
    |some l,some h,.int _ k=>(match hi with
     |none=>.fail
     |some _=>match lk n with
      |some (.row sz' es _)=>bif Nat.beq sz sz' then .ok (some (tot=es.length∧0≤l∧l≤h∧h≤k∧k≤len)) .undef [] else .fail
      |_=>.fail)
    |_,_,_=>.fail)
   |_=>.fail
 |.sliceS x lo hi=>match ev x with
  |.str s=>match bound lo ev 0,bound hi ev s.length with
   |some l,some h=>.ok (some (0≤l∧l≤h∧h≤s.length)) (.str (window s l.toNat (h - l).toNat)) []
   |_,_=>.fail
  |_=>.fail
 |.sliceA n esz agg x=>match ev x with
  |.ip (.agg cs)=>.ok (some (cs.length=n * esz∧cellsB cs=true)) (.full (chunks agg esz cs n)) []
  |_=>.fail
 |.sliceH n esz agg x y=>match ev x,ev y with
  |.ip (.agg cs),.int _ u=>.ok (some (cs.length=n * esz∧cellsB cs=true∧0≤u∧u≤n)) (.list (window (chunks agg esz cs n) 0 u.toNat)) []
  |_,_=>.fail
 |.faddr off sz agg x=>match ev x with
  |.ip (.agg cs)=>bif Nat.ble (off+sz) cs.length && (agg || !isAggB (part agg off sz cs)) then .ok none (.ip (part agg off sz cs)) [] else .fail
  |.ptr n i o tot=>match lk n with
   |some (.row _ es _)=>.ok (some (tot=es.length)) (.ptr n i (o+off) tot) []
   |some (.nrow _ _ _ es none)=>.ok (some (tot=es.length)) (.ptr n i (o+off) tot) []
   |_=>.fail
  |.sptr n i j o tot=>match lk n with
   |some (.nrow _ c _ es none)=>match innOf c (es.getD i .undef) with
    |some l=>.ok (some (tot=l.length)) (.sptr n i j (o+off) tot) []
    |none=>.fail
   |_=>.fail
  |.bptr n o=>.ok none (.bptr n (o+off)) []
  |_=>.fail
 |.field off sz agg x=>match ev x with
  |.agg cs=>bif Nat.ble (off+sz) cs.length then .ok none (part agg off sz cs) [] else .fail
  |_=>.fail
 |.iaddr sz x i=>match ev i with
  |.int _ i=>match ev x with
   |.list l=>.ok (some (0≤i∧i < l.length∧(l.getD i.toNat .undef).cells.length=sz)) (.ip (l.getD i.toNat .undef)) []
   |.full l=>.ok (some (0≤i∧i < l.length∧(l.getD i.toNat .undef).cells.length=sz)) (.ip (l.getD i.toNat .undef)) []
   |.own n off len tot=>match lk n with
    |some (.row sz' es _)=>bif Nat.beq sz sz' then .ok (some (tot=es.length∧0≤i∧i < len)) (.ptr n (off+i.toNat) 0 tot) [] else .fail
    |some (.nrow sz' _ _ es _)=>bif Nat.beq sz sz' then .ok (some (tot=es.length∧0≤i∧i < len)) (.ptr n (off+i.toNat) 0 tot) [] else .fail
    |_=>.fail
   |.sub n k off len tot=>match lk n with
    |some (.nrow _ c isz es none)=>match innOf c (es.getD k .undef) with
     |some l=>bif Nat.beq sz isz then .ok (some (tot=l.length∧0≤i∧i < len)) (.sptr n k (off+i.toNat) 0 tot) [] else .fail
     |none=>.fail
    |_=>.fail
   |_=>.fail
  |_=>.fail
 |.iaddrA len esz agg x i=>match ev i with
  |.int _ i=>match ev x with
   |.ip (.agg cs)=>.ok (some (0≤i∧i < len∧cs.length=len * esz∧isAggB (part agg (i.toNat * esz) esz cs)=agg)) (.ip (part agg (i.toNat * esz) esz cs)) []
   |.ptr n j off tot=>match lk n with
    |some (.row _ es _)=>.ok (some (tot=es.length∧0≤i∧i < len)) (.ptr n j (off+i.toNat * esz) tot) []
    |_=>.fail
   |.bptr n off=>.ok (some (0≤i∧i < len)) (.bptr n (off+i.toNat * esz)) []
   |_=>.fail
  |_=>.fail
 |.indexS x i=>match ev x,ev i with
  |.str s,.int _ i=>.ok (some (0≤i∧i < s.length)) (.int .u8 (s.getD i.toNat 0).toNat) []
  |_,_=>.fail
 |.indexA len esz agg x i=>match ev x,ev i with
  |.agg cs,.int _ i=>.ok (some (0≤i∧i < len∧cs.length=len * esz)) (part agg (i.toNat * esz) esz cs) []
  |_,_=>.fail
 |.extract x i=>match ev x with
  |.tuple vs=>bif Nat.blt i vs.length then .ok none (vs.getD i .undef) [] else .fail
  |_=>.fail
 |.call f args=>match ev f with
  |.func g caps=>.call g (args.map ev++caps)
  |.meth g caps=>.call g (caps++args.map ev)
  |.dict n=>.yield n (args.map ev)
  |_=>.fail
 |.len x=>match ev x with
  |.list l=>.ok none (.int .i64 l.length) []
  |.full l=>.ok none (.int .i64 l.length) []
  |.own n _ len tot=>match lk n with
   |some (.row _ es _)=>.ok (some (tot=es.length)) (.int .i64 len) []
   |some (.nrow _ _ _ es none)=>.ok (some (tot=es.length)) (.int .i64 len) []
   |_=>.fail
  |.sub n i _ len tot=>match lk n with
   |some (.nrow _ c _ es none)=>match innOf c (es.getD i .undef) with
    |some l=>.ok (some (tot=l.length)) (.int .i64 len) []
    |none=>.fail
   |_=>.fail
  |_=>.fail
 |.lenS x=>match ev x with
  |.str s=>.ok none (.int .i64 s.length) []
  |_=>.fail
 |.appendZ sz z s x=>match ev s,ev x with
  |.full [],.int _ k=>match lk n with
   |none=>bif Nat.blt n 1000000 then .ok (some (0 < k∧k≤1073741824∧okE sz z=true∧pureB z=true)) (.own n 0 k.toNat k.toNat) [(n,.row sz (List.replicate k.toNat z) false)] else .fail
   |some _=>.fail
  |_,_=>.fail
 |.capF x=>match ev x with
  |.full l=>.ok none (.int .i64 l.length) []
  |_=>.fail
 |.lenC n=>.ok none (.int .i64 n) []
 |.append imm sz s x=>match elems lk (ev x) with
  |none=>match ev x with
   |.vl [e]=>match ev s with
    |.own m off len tot=>match lk m with
     |some (.nrow sz' c isz es (some (ip,l)))=>match e.cells.getD c .undef with
      |.sub m' i' o len' tot'=>bif !imm && Nat.beq sz' sz && Nat.beq m' m && okE sz e && pureBs (e.cells.set c .undef) && Nat.blt m 1000000 then
        .ok (some (off=0∧len=es.length∧tot=es.length∧es.length+1≤1073741824∧i'=es.length∧ip=es.length∧o=0∧len'=l.length∧tot'=l.length))
         (.own m 0 (es.length+1) (es.length+1)) [(m,.nrow sz c isz (es++[setInn sz c e l]) none)] else .fail
      |_=>.fail
     |_=>.fail
    |_=>.fail
   |_=>.fail
  |some (q,xs)=>match ev s with
   |.full l=>bif imm then .ok (pand q (some (l.length+xs.length≤1073741824∧(∀ e ∈ xs,okE sz e=true)∧(∀ e ∈ l,okE sz e=true)))) (.list (l++xs)) []
    else match lk n with
     |none=>bif Nat.blt n 1000000 then .ok (pand q (some (l.length+xs.length≤1073741824∧(∀ e ∈ xs,okE sz e=true)∧(∀ e ∈ l,okE sz e=true)∧(l=[]∨xs≠[]))))
       (.own n 0 (l++xs).length (l++xs).length) [(n,.row sz (l++xs) false)] else .fail
     |some _=>.fail
   |.own m off len tot=>match lk m with
    |some (.row sz' es false)=>bif imm then (bif Nat.beq sz' sz && Nat.beq off 0 && Nat.blt m 1000000 then
      .ok (pand q (some (tot=es.length∧len+xs.length≤es.length∧(∀ e ∈ xs,okE sz e=true)))) (.own m 0 (len+xs.length) tot) [(m,.row sz (es.take len++xs++es.drop (len+xs.length)) false)] else .fail)
     else bif (!(Nat.beq sz' sz || Nat.beq sz' 0) || !Nat.blt m 1000000) then .fail else
     .ok (pand q (some (off=0∧len=es.length∧tot=es.length∧es.length+xs.length≤1073741824∧(∀ e ∈ xs,okE sz e=true))))
       (.own m 0 (es++xs).length (es++xs).length) [(m,.row sz (es++xs) false)]
    |some (.nrow sz' c isz es none)=>match xs with
     |[e]=>bif !imm && Nat.beq sz' sz && Nat.blt m 1000000 then
      .ok (pand q (some (off=0∧len=es.length∧tot=es.length∧es.length+1≤1073741824∧okE sz e=true)))
       (.own m 0 (es.length+1) (es.length+1)) [(m,.nrow sz c isz (es++[e]) none)] else .fail
     |_=>.fail
    |_=>.fail
   |.sub m i off len tot=>match lk m with
    |some (.nrow sz' c isz es none)=>match innOf c (es.getD i .undef) with
     |some l=>bif !imm && Nat.beq isz sz then
       .ok (pand q (some (off=0∧len=l.length∧tot=l.length∧l.length+xs.length≤1073741824∧(∀ e ∈ xs,okE sz e=true))))
        (.sub m i 0 (l++xs).length (l++xs).length) [(m,.nrow sz' c isz es (some (i,l++xs)))] else .fail
     |none=>.fail
    |_=>.fail
   |_=>.fail
 |.appendN m sz s x=>match elems lk (ev x) with
  |none=>.fail
  |some (q,xs)=>match ev s with
   |.full []=>match lk m with
    |some (.nrow sz' c isz es none)=>bif Nat.beq isz sz then
      .ok (pand q (some (xs.length≤1073741824∧(∀ e ∈ xs,okE sz e=true)))) (.sub m es.length 0 xs.length xs.length) [(m,.nrow sz' c isz es (some (es.length,xs)))] else .fail
    |_=>.fail
   |.sub m' i off len tot=>match lk m' with
    |some (.nrow sz' c isz es (some (ip,l)))=>bif Nat.beq isz sz then
       .ok (pand q (some (ip=i∧off=0∧len=l.length∧tot=l.length∧l.length+xs.length≤1073741824∧(∀ e ∈ xs,okE sz e=true))))
        (.sub m' i 0 (l++xs).length (l++xs).length) [(m',.nrow sz' c isz es (some (i,l++xs)))] else .fail
    |_=>.fail
   |_=>.fail
 |.litV sz len z parts=>bif parts.all (fun q=>okE sz (ev q.2)) then .ok none (.vl (litElems ev parts (List.replicate len z))) [] else .fail
 |.mksliceN sz l c=>match ev l,ev c with
  |.int _ a,.int _ b=>match lk n with
   |none=>bif Nat.blt n 1000000 then .ok (some (0≤a∧a≤b∧b≤1073741824)) (.own n 0 a.toNat a.toNat) [(n,.nrow 1 0 sz (List.replicate a.toNat (.inn [])) none)] else .fail
   |some _=>.fail
  |_,_=>.fail
 |.fconv j k x=>match ev x with
  |.flt j' a=>bif fkEq j j' then fltConv j k a else .fail
  |.fnan j'=>bif fkEq j j' then .ok none (.fnan k) [] else .fail
  |_=>.fail
 |.ftoi j k x=>match ev x with
  |.flt j' a=>bif fkEq j j' then fltInt j k a else .fail
  |_=>.fail
 |.itof j k x=>match ev x with
  |.int j' a=>bif kindEq j j' then .ok none (.flt k (k.nearest a)) [] else .fail
  |_=>.fail
 |.appendE sz s x=>match ev s with
  |.full l=>match elems lk (ev x) with
   |some (q,xs)=>.ok (pand q (some (xs=[]))) (.full l) []
   |none=>.fail
  |_=>.fail
 |.copy sz d x=>match elems lk (ev x) with
  |none=>.fail
  |some (q,xs)=>match ev d with
   |.own m off len tot=>match lk m with
    |some (.row sz' es false)=>bif Nat.beq sz sz' then
     .ok (pand q (some (tot=es.length∧(∀ e ∈ xs,okE sz e=true)))) (.int .i64 (min xs.length len:Nat))
      [(m,.row sz (es.take off++xs.take len++es.drop (off+min xs.length len)) false)] else .fail
    |_=>.fail
   |_=>.fail
 |.minmax mx x r=>match ev x with
  |.int k a=>match minmaxAll ev mx k r a with
   |some b=>.ok none (.int k b) []
   |none=>.fail
  |_=>.fail
 |.mkslice sz z l c=>match ev l,ev c with
  |.int _ a,.int _ b=>match lk n with
   |none=>bif Nat.blt n 1000000 then .ok (some (0≤a∧a≤b∧b≤1073741824∧okE sz z=true∧pureB z=true)) (.own n 0 a.toNat a.toNat) [(n,.row sz (List.replicate a.toNat z) false)] else .fail
   |some _=>.fail
  |_,_=>.fail
 |.makemap=>match lk n with
  |none=>.ok none (.dict n) [(n,.dict [])]
  |some _=>.fail
 |.mapset kk ks m k v=>match ev m with
  |.dict q=>match lk q with
   |some (.dict es)=>bif keyB kk ks (ev k) && pureB (ev v) then (match dfind (keyEq kk ks) (ev k) es 0 with
    |some (some (i,_))=>.ok none (.tuple []) [(q,.dict (es.set i (ev k,ev v)))]
    |some none=>.ok none (.tuple []) [(q,.dict (es++[(ev k,ev v)]))]
    |none=>.fail) else .fail
   |_=>.fail
  |_=>.fail
 |.lookup kk ks ok z m k=>match ev m with
  |.dict q=>match lk q with
   |some (.dict es)=>bif keyB kk ks (ev k) then (match dfind (keyEq kk ks) (ev k) es 0 with
    |some (some (_,v))=>.ok none (bif ok then .tuple [v,.bool true] else v) []
    |some none=>.ok none (bif ok then .tuple [z,.bool false] else z) []
    |none=>.fail) else .fail
   |_=>.fail
  |_=>.fail
 |.mapentry kk ks z m k=>match ev m with
  |.dict q=>match lk q with
   |some (.dict es)=>bif keyB kk ks (ev k) then (match dfind (keyEq kk ks) (ev k) es 0 with
    |some (some (i,v))=>.ok none (.tuple [v,.int .i64 i]) [(q,.dict (es.set i (ev k,v)))]
    |some none=>.ok none (.tuple [z,.int .i64 es.length]) [(q,.dict (es++[(ev k,z)]))]
    |none=>.fail) else .fail
   |_=>.fail
  |_=>.fail
 |.entrystore m s v=>match ev m,ev s with
  |.dict q,.int _ i=>match lk q with
   |some (.dict es)=>bif pureB (ev v) then .ok (some (0≤i∧i < es.length)) (.tuple []) [(q,.dict (es.set i.toNat ((es.getD i.toNat (.undef,.undef)).1,ev v)))] else .fail
   |_=>.fail
  |_,_=>.fail
 |.lenM x=>match ev x with
  |.dict q=>match lk q with
   |some (.dict es)=>.ok none (.int .i64 es.length) []
   |_=>.fail
  |_=>.fail
 |.rangeS x=>match ev x with
  |.str s=>match lk n with
   |none=>.ok none (.dict n) [(n,.siter s 0)]
   |some _=>.fail
  |_=>.fail
 |.nextS x=>match ev x with
  |.dict q=>match lk q with
   |some (.siter s pos)=>match Nat.blt pos s.length with
    |true=>.ok none (.tuple [.bool true,.int .i64 pos,.int .i32 (sdecode s pos).1]) [(q,.siter s (pos+(sdecode s pos).2))]
    |false=>.ok none (.tuple [.bool false]) []
   |_=>.fail
  |_=>.fail
 |.strOf x=>match elems lk (ev x) with
  |none=>.fail
  |some (q,xs)=>.ok (pand q (some (∀ e ∈ xs,isU8 e=true))) (.str (xs.map byteV)) []
 |.sliceW sz x lo hi=>match ev x with
  |.own n off len tot=>match bound lo ev 0,bound hi ev len with
   |some l,some h=>match lk n with
    |some (.row sz' es _)=>bif Nat.beq sz sz' && Nat.beq off 0 then .ok (some (tot=es.length∧0≤l∧l≤h∧h≤tot)) (.own n l.toNat (h - l).toNat tot) [] else .fail
    |_=>.fail
   |_,_=>.fail
  |_=>.fail
 |.clear sz z x=>match ev x with
  |.own n off len tot=>match lk n with
   |some (.row sz' es false)=>bif Nat.beq sz sz' then .ok (some (tot=es.length∧okE sz z=true)) (.tuple []) [(n,.row sz (es.take off++List.replicate len z++es.drop (off+len)) false)] else .fail
   |_=>.fail
  |_=>.fail
 |.bad=>.fail
end Sh
namespace Sh
open Go
abbrev oq (d:Nat) (o:DOp):DOper:=⟨some d,o,none,[]⟩
abbrev mq (d s:Nat):DOper:=⟨some d,.mov (.tmp s),none,[]⟩
abbrev nq (o:DOp):DOper:=⟨none,o,none,[]⟩
abbrev gq (d:Nat) (o:DOp) (g:Nat) (b:Bool):DOper:=⟨some d,o,some (g,b),[]⟩
abbrev bq (b:Bool):Operand:=.const (.bool b)
abbrev iq (n:Int):Operand:=.const (.int .i64 n)
abbrev sq (l:List DOper) (c:DC):DC:=.seq (.ops false l) c
abbrev pq (l:List DOper):DC:=.ops false l
end Sh

/- What it means that a Go value reads as data;what a pure function is. -/
namespace Sh
open Go
abbrev Mem:=Nat→Nat→Option Value
def flat (l:List DV):List DV:=l.flatMap DV.cells
inductive RelP (M:Mem):DV→Value→Prop
 |undef (v):RelP M .undef v
 |bool (b):RelP M (.bool b) (.bool b)
 |int (k n):RelP M (.int k n) (.int k n)
 |str (s:List UInt8):RelP M (.str s) (.string ⟨s.toArray⟩)
 |agg (ds:List DV) (vs:Array Value) (hl:ds.length=vs.size) (h:∀ i,i < ds.length→RelP M (ds.getD i .undef) (vs.getD i Go.undef)):RelP M (.agg ds) (.agg vs)
 |tuple (ds:List DV) (vs:Array Value) (hl:ds.length=vs.size) (h:∀ i,i < ds.length→RelP M (ds.getD i .undef) (vs.getD i Go.undef)):RelP M (.tuple ds) (.tuple vs)
 |func (f) (ds:List DV) (vs:Array Value) (hl:ds.length=vs.size) (h:∀ i,i < ds.length→RelP M (ds.getD i .undef) (vs.getD i Go.undef)):RelP M (.func f ds) (.func (.func f) #[] vs)
 |meth (f) (ds:List DV) (vs:Array Value) (hl:ds.length=vs.size) (h:∀ i,i < ds.length→RelP M (ds.getD i .undef) (vs.getD i Go.undef)):RelP M (.meth f ds) (.func (.func f) vs #[])
 |list (l:List DV) (a:Option Addr) (cap sz b o:Nat) (g:Nat→Value) (hcap:l.length≤cap) (ha:l=[]∨a=some ⟨b,o,none⟩) (hsz:∀ e ∈ l,e.cells.length=sz)
   (hM:∀ i,i < (flat l).length→M b (o+i)=some (g i)) (hr:∀ i,i < (flat l).length→RelP M ((flat l).getD i .undef) (g i)):RelP M (.list l) (.slice a l.length cap)
 |full (l:List DV) (a:Option Addr) (sz b o:Nat) (g:Nat→Value) (ha:l=[]∨a=some ⟨b,o,none⟩) (hsz:∀ e ∈ l,e.cells.length=sz)
   (hM:∀ i,i < (flat l).length→M b (o+i)=some (g i)) (hr:∀ i,i < (flat l).length→RelP M ((flat l).getD i .undef) (g i)):RelP M (.full l) (.slice a l.length l.length)
 |ip (d:DV) (b o:Nat) (g:Nat→Value) (hM:∀ i,i < d.cells.length→M b (o+i)=some (g i)) (hr:∀ i,i < d.cells.length→RelP M (d.cells.getD i .undef) (g i)):RelP M (.ip d) (.pointer (some ⟨b,o,none⟩))
 |nilptr:RelP M .nilptr (.pointer none)
 |nilfunc:RelP M .nilfunc .nilFunc
 |nilmap:RelP M .nilfunc (.map none)
 |nilslice:RelP M .nilsl (.slice none 0 0)
 |abool (b):RelP M .abool (.bool b)
 |flt (k n):RelP M (.flt k n) (.float k n)
 |fnan (k n) (h:∃ s p,k.decode n=.nan s p):RelP M (.fnan k) (.float k n)
def Mem.le (M M':Mem):Prop:=∀ b o v,M b o=some v→M' b o=some v
theorem Mem.le_refl (M:Mem):M.le M:=fun _ _ _ h=>h
theorem Mem.le_trans {A B C:Mem} (h:A.le B) (k:B.le C):A.le C:=fun b o v e=>k b o v (h b o v e)
theorem RelP.mono {M M':Mem} (hm:M.le M') {d:DV} {v:Value} (h:RelP M d v):RelP M' d v:=by
 induction h with
 |undef v=>exact .undef v
 |bool b=>exact .bool b
 |int k n=>exact .int k n
 |str s=>exact .str s
 |agg ds vs hl _ ih=>exact .agg ds vs hl ih
 |tuple ds vs hl _ ih=>exact .tuple ds vs hl ih
 |func f ds vs hl _ ih=>exact .func f ds vs hl ih
 |meth f ds vs hl _ ih=>exact .meth f ds vs hl ih
 |list l a cap sz b o g hcap ha hsz hM _ ih=>exact .list l a cap sz b o g hcap ha hsz (fun i hi=>hm _ _ _ (hM i hi)) ih
 |full l a sz b o g ha hsz hM _ ih=>exact .full l a sz b o g ha hsz (fun i hi=>hm _ _ _ (hM i hi)) ih
 |ip d b o g hM _ ih=>exact .ip d b o g (fun i hi=>hm _ _ _ (hM i hi)) ih
 |nilptr=>exact .nilptr
 |nilfunc=>exact .nilfunc
 |nilmap=>exact .nilmap
 |nilslice=>exact .nilslice
 |abool b=>exact .abool b
 |flt k n=>exact .flt k n
 |fnan k n h=>exact .fnan k n h
def Mem.holds (M:Mem) (w:World):Prop:=∀ b o v,M b o=some v→w.cell? ⟨b,o,none⟩=some v
def GOk (G:Nat→Option DV) (M:Mem):Prop:=∀ g d,G g=some d→RelP M (.ip d) (.pointer (some ⟨g,0,none⟩))
theorem GOk.mono {G:Nat→Option DV} {M M':Mem} (hm:M.le M') (h:GOk G M):GOk G M':=fun g d e=>(h g d e).mono hm
def RelPs (M:Mem) (ds:List DV) (vs:Array Value):Prop:=ds.length=vs.size∧∀ i,i < ds.length→RelP M (ds.getD i .undef) (vs.getD i Go.undef)
def After (M:Mem) (w:World) (d:DV) (e:Ending) (w':World):Prop :=
 ∃ v M',e=.returned v∧M.le M'∧M'.holds w'∧RelP M' d v∧RowKit.Below w.heap.size w w' ∧
  ∀ b o v,M' b o=some v→M b o=none→w.heap.size≤b
def Enters (P:Program) (f:FuncId):Prop:=∀ (args:Array Value) (w:World),(callFunc f args).run P w=.ok (.enter f args) w
structure OpenF (F:Fence):Prop where
 fn:∀ f,F.fn f
 quiet:F.alive=false
def blockLen (w:World) (g:Nat):Option Nat:=match w.heap[g]? with
 |some (.cells cs _ _)=>some cs.size
 |_=>none
def openI:DV→Bool
 |.agg [.undef]=>true
 |_=>false
def Tabs (G:Nat→Option DV) (w:World):Prop:=∀ g d,G g=some d→blockLen w g=some d.cells.length∧(openI d=true→∃ m,w.cell? ⟨g,0,none⟩=some (.int .i64 m))
def Tb (G:Nat→Option DV) (w0:World) (p:Nat→Prop):Prop:=∀ w',(∀ k,k < w0.heap.size→¬ p k→w'.heap[k]?=w0.heap[k]?)→Tabs G w'
theorem Tb.now {G:Nat→Option DV} {w:World} {p:Nat→Prop} (h:Tb G w p):Tabs G w:=h w (fun _ _ _=>rfl)
theorem Tb.step {G:Nat→Option DV} {w0 w:World} {p q:Nat→Prop} (h:Tb G w0 p) (e:∀ k,k < w0.heap.size→¬ p k→w.heap[k]?=w0.heap[k]?) (hs:w0.heap.size≤w.heap.size) (hq:∀ k,k < w0.heap.size→q k→p k):Tb G w q :=
 fun w' h'=>h w' (fun k hk hp=>(h' k (Nat.lt_of_lt_of_le hk hs) (fun hq'=>hp (hq k hk hq'))).trans (e k hk hp))
theorem blockLen_lt {w:World} {g n:Nat} (h:blockLen w g=some n):g < w.heap.size:=by
 unfold blockLen at h
 split at h
 ·rename_i e;exact (Array.getElem?_eq_some_iff.1 e).1
 ·cases h
theorem Tabs.tb {G:Nat→Option DV} {w:World} {p:Nat→Prop} (h:Tabs G w) (hp:∀ k,k < w.heap.size→¬ p k):Tb G w p:=fun w' h' g d e=>by
 obtain ⟨h1,h3⟩:=h g d e
 have h2:=blockLen_lt h1
 refine ⟨?_,fun ho=>?_⟩
 ·unfold blockLen at h1 ⊢
  rw [h' g h2 (hp g h2)]
  exact h1
 ·obtain ⟨m,h4⟩:=h3 ho
  refine ⟨m,?_⟩
  unfold World.cell? at h4 ⊢
  simp only at h4 ⊢
  rw [h' g h2 (hp g h2)]
  exact h4
structure PureCall (P:Program) (G:Nat→Option DV) (f:FuncId) (ds:List DV) (d:DV):Prop where
 enters:Enters P f
 call:∀ (F:Fence) (n:Nat),OpenF F→F.depth=none→F.round=none→∀ (M:Mem) (w:World) (vs:Array Value),GOk G M→Tabs G w→M.holds w→RelPs M ds vs→CallsIn F n P f vs w (After M w d)
structure Locs where
 main:Nat→Option (Nat×Nat)
 sub:Nat→Nat→Option (Nat×Nat)
instance:CoeFun Locs (fun _=>Nat→Option (Nat×Nat)):=⟨Locs.main⟩
def Locs.none:Locs:=⟨fun _=>.none,fun _ _=>.none⟩
@[simp] theorem Locs.none_main (n:Nat):Locs.none n=.none:=rfl
@[simp] theorem Locs.none_sub (n i:Nat):Locs.none.sub n i=.none:=rfl
def curL (c:Nat) (es:List DV) (pd:Option (Nat×List DV)) (i:Nat):Option (List DV) :=
 match pd with
 |some (k,l)=>if k=i then some l else innOf c (es.getD i .undef)
 |none=>innOf c (es.getD i .undef)
def hasL (es:List DV) (pd:Option (Nat×List DV)) (i:Nat):Prop:=i < es.length∨∃ l,pd=some (i,l)
structure Base where
 lo:Nat
 L:Nat→Prop
 ρ0:Locs
 h0:Heap
 gh:Bool
 nd:Bool
def Base.wr (B:Base) (b:Nat):Prop:=B.lo≤b∨B.L b
def Base.plain (lo:Nat):Base:=⟨lo,fun _=>False,Locs.none,[],false,false⟩
structure Base.touch (B:Base) (w w':World):Prop where
 os:w'.os=w.os
 tape:w'.tape=w.tape
 output:w'.output=w.output
 size:w.heap.size≤w'.heap.size
 block:∀ k,¬ B.wr k→w'.heap[k]?=w.heap[k]?
section
variable {B:Base} {w w' w'':World}
theorem Base.touch.refl (B:Base) (w:World):B.touch w w:=⟨rfl,rfl,rfl,Nat.le_refl _,fun _ _=>rfl⟩
theorem Base.touch.trans (h:B.touch w w') (k:B.touch w' w''):B.touch w w'' :=
 ⟨k.os.trans h.os,k.tape.trans h.tape,k.output.trans h.output,Nat.le_trans h.size k.size,fun i hi=>(k.block i hi).trans (h.block i hi)⟩
theorem Base.touch.of_below (h:RowKit.Below B.lo w w'):B.touch w w' :=
 ⟨h.os,h.tape,h.output,h.size,fun k hk=>h.block k (by unfold Base.wr at hk;omega)⟩
theorem Base.touch.drew (h:B.touch w w'):B.touch w w'.drew:=⟨h.os,h.tape,h.output,h.size,h.block⟩
theorem Base.touch.alloc (h:B.touch w w') (hB:B.lo≤w'.heap.size) (o:Obj):B.touch w (w'.alloc o) :=
 h.trans (.of_below ((RowKit.Below.refl _ _).alloc hB o))
theorem Base.touch.setCell (h:B.touch w w') {p:Addr} (hp:B.wr p.block) (u:Value):B.touch w (w'.setCell p u) :=
 h.trans ⟨rfl,rfl,rfl,by simp [World.setCell],fun k hk=>RowKit.Below.heap_setCell _ _ _ _ (fun e=>hk (by rw [e];exact hp))⟩
theorem Base.touch.below (h:(Base.plain w.heap.size).touch w w'):RowKit.Below w.heap.size w w' :=
 ⟨h.os,h.tape,h.output,h.size,fun k hk=>h.block k (by unfold Base.wr Base.plain;simp;omega)⟩
theorem Base.touch.world (h:B.touch w w') {W:World} (hs:W.heap=w'.heap) (h1:W.os=w'.os) (h2:W.tape=w'.tape) (h3:W.output=w'.output):B.touch w W :=
 ⟨h1.trans h.os,h2.trans h.tape,h3.trans h.output,by rw [hs];exact h.size,fun k hk=>by rw [hs];exact h.block k hk⟩
end
structure OpenB (G:Nat→Option DV) (F:Fence) (B:Base) (w0:World):Prop extends OpenF F where
 tb:Tb G w0 B.wr
theorem Tb.touch {G:Nat→Option DV} {B:Base} {w0 w:World} {q:Nat→Prop} (h:Tb G w0 B.wr) (e:B.touch w0 w) (hq:∀ k,k < w0.heap.size→q k→B.wr k):Tb G w q:=h.step (fun k _ hk=>e.block k hk) e.size hq
def SliceIs (loc:Option (Nat×Nat)) (sz off len tot:Nat) (v:Value):Prop :=
 off+len≤tot∧match loc with
 |none=>∃ a,v=.slice a len 0
 |some (b,c)=>∃ a,v=.slice a len (c - off)∧(a=some ⟨b,off * sz,none⟩∨(len=0∧off≠0))
inductive RelV (M:Mem) (ρ:Locs) (h:Heap):DV→Value→Prop
 |pure {d v} (hp:RelP M d v):RelV M ρ h d v
 |agg (ds:List DV) (vs:Array Value) (hl:ds.length=vs.size) (hr:∀ i,i < ds.length→RelV M ρ h (ds.getD i .undef) (vs.getD i Go.undef)):RelV M ρ h (.agg ds) (.agg vs)
 |tuple (ds:List DV) (vs:Array Value) (hl:ds.length=vs.size) (hr:∀ i,i < ds.length→RelV M ρ h (ds.getD i .undef) (vs.getD i Go.undef)):RelV M ρ h (.tuple ds) (.tuple vs)
 |func (f) (ds:List DV) (vs:Array Value) (hl:ds.length=vs.size) (hr:∀ i,i < ds.length→RelV M ρ h (ds.getD i .undef) (vs.getD i Go.undef)):RelV M ρ h (.func f ds) (.func (.func f) #[] vs)
 |meth (f) (ds:List DV) (vs:Array Value) (hl:ds.length=vs.size) (hr:∀ i,i < ds.length→RelV M ρ h (ds.getD i .undef) (vs.getD i Go.undef)):RelV M ρ h (.meth f ds) (.func (.func f) vs #[])
 |own (n off len tot sz:Nat) (es:List DV) (fr:Bool) (v:Value) (hl:hlook h n=some (.row sz es fr)) (ht:tot≤es.length) (hs:∃ a l c,v=.slice a l c) (hv:tot=es.length→SliceIs (ρ n) sz off len tot v):RelV M ρ h (.own n off len tot) v
 |ptr (n i off tot sz:Nat) (es:List DV) (fr:Bool) (v:Value) (hl:hlook h n=some (.row sz es fr)) (ht:tot≤es.length) (hi:i < tot) (hs:∃ p,v=.pointer (some p))
   (hv:tot=es.length→∃ b c,ρ n=some (b,c)∧v=.pointer (some ⟨b,i * sz+off,none⟩)):RelV M ρ h (.ptr n i off tot) v
 |bptr (n off sz b c:Nat) (d:DV) (hl:hlook h n=some (.box sz d)) (hρ:ρ n=some (b,c)):RelV M ρ h (.bptr n off) (.pointer (some ⟨b,off,none⟩))
 |fptr (n off sz b c:Nat) (d:DV) (hl:hlook h n=some (.fbox sz d)) (hρ:ρ n=some (b,c)):RelV M ρ h (.bptr n off) (.pointer (some ⟨b,off,none⟩))
 |dictv (n b c:Nat) (es:List (DV×DV)) (hl:hlook h n=some (.dict es)) (hρ:ρ n=some (b,c)):RelV M ρ h (.dict n) (.map (some b))
 |yldv (n l:Nat) (rest:List (List DV)) (live:Bool) (hl:hlook h n=some (.ghost rest live l)):RelV M ρ h (.dict n) (.func (.yield l) #[] #[])
 |sitv (n b c pos:Nat) (s:List UInt8) (hl:hlook h n=some (.siter s pos)) (hρ:ρ n=some (b,c)):RelV M ρ h (.dict n) (.pointer (some ⟨b,0,none⟩))
 |nown (n off len tot sz c isz:Nat) (es:List DV) (pd:Option (Nat×List DV)) (v:Value) (hl:hlook h n=some (.nrow sz c isz es pd)) (ht:tot≤es.length) (hs:∃ a l c,v=.slice a l c) (hv:tot=es.length→SliceIs (ρ n) sz off len tot v):RelV M ρ h (.own n off len tot) v
 |nptr (n i off tot sz c isz:Nat) (es:List DV) (pd:Option (Nat×List DV)) (v:Value) (hl:hlook h n=some (.nrow sz c isz es pd)) (ht:tot≤es.length) (hi:i < tot) (hs:∃ p,v=.pointer (some p))
   (hv:tot=es.length→∃ b c,ρ n=some (b,c)∧v=.pointer (some ⟨b,i * sz+off,none⟩)):RelV M ρ h (.ptr n i off tot) v
 |subv (n i off len tot:Nat) (v:Value) (hs:∃ a l c,v=.slice a l c) (hh:(∃ sz c isz es pd,hlook h n=some (.nrow sz c isz es pd)∧hasL es pd i∧∀ l,curL c es pd i=some l→tot≤l.length∧(tot=l.length→SliceIs (ρ.sub n i) isz off len tot v))∨∃ sz es fr,hlook h n=some (.row sz es fr)):RelV M ρ h (.sub n i off len tot) v
 |sptrv (n i j off tot:Nat) (v:Value) (hs:∃ p,v=.pointer (some p)) (hh:(∃ sz c isz es pd,hlook h n=some (.nrow sz c isz es pd)∧hasL es pd i∧∀ l,curL c es pd i=some l→tot≤l.length∧(tot=l.length→j < tot∧∃ b k,ρ.sub n i=some (b,k)∧v=.pointer (some ⟨b,j * isz+off,none⟩)))∨∃ sz es fr,hlook h n=some (.row sz es fr)):RelV M ρ h (.sptr n i j off tot) v
 |vl (l:List DV) (b sz:Nat) (g:Nat→Value) (hsz:∀ e ∈ l,e.cells.length=sz) (hM:∀ i,i < (flat l).length→M b i=some (g i)) (hr:∀ i,i < (flat l).length→RelV M ρ h ((flat l).getD i .undef) (g i)):RelV M ρ h (.vl l) (.slice (some ⟨b,0,none⟩) l.length l.length)
def DObj.isRow:DObj→Bool
 |.row ..=>true
 |.nrow ..=>true
 |_=>false
def DObj.like:DObj→DObj→Prop
 |.box sz _,.box sz' _=>sz'=sz
 |.box sz _,.fbox sz' _=>sz'=sz
 |.fbox sz _,.fbox sz' _=>sz'=sz
 |.dict _,.dict _=>True
 |.siter _ _,.siter _ _=>True
 |.ghost r v l,.ghost r' v' l'=>r'=r∧v'=v∧l'=l
 |_,_=>False
theorem like_refl {o:DObj} (h:o.isRow=false):o.like o:=by cases o<;>simp_all [DObj.like,DObj.isRow]
theorem like_trans {a b c:DObj} (h:a.like b) (k:b.like c):a.like c:=by
 cases a<;>cases b<;>cases c<;>simp_all [DObj.like]
theorem like_row {a b:DObj} (h:a.like b):b.isRow=false:=by cases a<;>cases b<;>simp_all [DObj.like,DObj.isRow]
structure Ext (M:Mem) (ρ:Locs) (h:Heap) (M':Mem) (ρ':Locs) (h':Heap):Prop where
 le:M.le M'
 row:∀ n sz es fr,hlook h n=some (.row sz es fr)→∃ sz' es' fr',hlook h' n=some (.row sz' es' fr')∧es.length≤es'.length∧(es.length=es'.length→(sz'=sz∨es=[])∧ρ' n=ρ n)
 box:∀ n o,hlook h n=some o→o.isRow=false→ρ' n=ρ n∧∃ o',hlook h' n=some o'∧o.like o'
 nrw:∀ n sz c isz es pd,hlook h n=some (.nrow sz c isz es pd) →
  (∃ es' pd',hlook h' n=some (.nrow sz c isz es' pd')∧es.length≤es'.length∧(es.length=es'.length→ρ' n=ρ n)∧(∀ i,hasL es pd i→hasL es' pd' i) ∧
    ∀ i l',hasL es pd i→curL c es' pd' i=some l'→∃ l,curL c es pd i=some l∧l.length≤l'.length∧(l.length=l'.length→ρ'.sub n i=ρ.sub n i)) ∨
  ∃ sz' es' fr,hlook h' n=some (.row sz' es' fr)∧es.length≤es'.length∧(es.length=es'.length→(sz'=sz∨es=[])∧ρ' n=ρ n)
theorem Ext.refl (M:Mem) (ρ:Locs) (h:Heap):Ext M ρ h M ρ h :=
 ⟨M.le_refl,fun n sz es fr hl=>⟨sz,es,fr,hl,Nat.le_refl _,fun _=>⟨.inl rfl,rfl⟩⟩,fun n o hl hk=>⟨rfl,o,hl,like_refl hk⟩,
   fun n sz c isz es pd hl=>.inl ⟨es,pd,hl,Nat.le_refl _,fun _=>rfl,fun i hi=>hi,fun i l' _ e=>⟨l',e,Nat.le_refl _,fun _=>rfl⟩⟩⟩
theorem Ext.trans {M1 M2 M3:Mem} {ρ1 ρ2 ρ3:Locs} {h1 h2 h3:Heap} (a:Ext M1 ρ1 h1 M2 ρ2 h2) (b:Ext M2 ρ2 h2 M3 ρ3 h3):Ext M1 ρ1 h1 M3 ρ3 h3:=by
 refine ⟨Mem.le_trans a.le b.le,fun n sz es fr hl=>?_,fun n o hl hk=>?_,fun n sz c isz es pd hl=>?_⟩
 ·obtain ⟨sz2,es2,fr2,g1,g2,g3⟩:=a.row n sz es fr hl
  obtain ⟨sz3,es3,fr3,k1,k2,k3⟩:=b.row n sz2 es2 fr2 g1
  refine ⟨sz3,es3,fr3,k1,by omega,fun e=>?_⟩
  obtain ⟨q1,q2⟩:=g3 (by omega)
  obtain ⟨r1,r2⟩:=k3 (by omega)
  refine ⟨?_,r2.trans q2⟩
  rcases q1 with q1|q1
  ·rcases r1 with r1|r1
   ·exact .inl (r1.trans q1)
   ·have h0:es2.length=0:=by rw [r1];rfl
    exact .inr (List.eq_nil_of_length_eq_zero (by omega))
  ·exact .inr q1
 ·obtain ⟨g1,o2,g2,g3⟩:=a.box n o hl hk
  obtain ⟨k1,o3,k2,k3⟩:=b.box n o2 g2 (like_row g3)
  exact ⟨k1.trans g1,o3,k2,like_trans g3 k3⟩
 ·rcases a.nrw n sz c isz es pd hl with ⟨es2,pd2,g1,g2,g3,g4,g5⟩|⟨sz2,es2,fr2,g1,g2,g3⟩
  ·rcases b.nrw n sz c isz es2 pd2 g1 with ⟨es3,pd3,k1,k2,k3,k4,k5⟩|⟨sz3,es3,fr3,k1,k2,k3⟩
   ·refine .inl ⟨es3,pd3,k1,by omega,fun e=>(k3 (by omega)).trans (g3 (by omega)),fun i hi=>k4 i (g4 i hi),fun i l' hi e=>?_⟩
    obtain ⟨l2,q1,q2,q3⟩:=k5 i l' (g4 i hi) e
    obtain ⟨l1,r1,r2,r3⟩:=g5 i l2 hi q1
    exact ⟨l1,r1,by omega,fun e=>(q3 (by omega)).trans (r3 (by omega))⟩
   ·refine .inr ⟨sz3,es3,fr3,k1,by omega,fun e=>?_⟩
    obtain ⟨q1,q2⟩:=k3 (by omega)
    refine ⟨?_,q2.trans (g3 (by omega))⟩
    rcases q1 with q1|q1
    ·exact .inl q1
    ·have h0:es2.length=0:=by rw [q1];rfl
     exact .inr (List.eq_nil_of_length_eq_zero (by omega))
  ·obtain ⟨sz3,es3,fr3,k1,k2,k3⟩:=b.row n sz2 es2 fr2 g1
   refine .inr ⟨sz3,es3,fr3,k1,by omega,fun e=>?_⟩
   obtain ⟨q1,q2⟩:=g3 (by omega)
   obtain ⟨r1,r2⟩:=k3 (by omega)
   refine ⟨?_,r2.trans q2⟩
   rcases q1 with q1|q1
   ·rcases r1 with r1|r1
    ·exact .inl (r1.trans q1)
    ·have h0:es2.length=0:=by rw [r1];rfl
     exact .inr (List.eq_nil_of_length_eq_zero (by omega))
   ·exact .inr q1
theorem Ext.of_mem {M M':Mem} (ρ:Locs) (h:Heap) (hm:M.le M'):Ext M ρ h M' ρ h :=
 ⟨hm,(Ext.refl M ρ h).row,(Ext.refl M ρ h).box,(Ext.refl M ρ h).nrw⟩
theorem RelV.ext {M M':Mem} {ρ ρ':Locs} {h h':Heap} (hx:Ext M ρ h M' ρ' h') {d:DV} {v:Value} (hr:RelV M ρ h d v):RelV M' ρ' h' d v:=by
 induction hr with
 |pure hp=>exact .pure (hp.mono hx.le)
 |agg ds vs hl _ ih=>exact .agg ds vs hl ih
 |tuple ds vs hl _ ih=>exact .tuple ds vs hl ih
 |func f ds vs hl _ ih=>exact .func f ds vs hl ih
 |meth f ds vs hl _ ih=>exact .meth f ds vs hl ih
 |own n off len tot sz es fr v hl ht hs hv =>
  obtain ⟨sz',es',fr',hl',hle,heq⟩:=hx.row n sz es fr hl
  refine .own n off len tot sz' es' fr' v hl' (by omega) hs (fun e=>?_)
  have e1:es.length=es'.length:=by omega
  obtain ⟨h1,h2⟩:=heq e1
  have h3:=hv (by omega)
  rw [h2]
  rcases h1 with rfl|rfl
  ·exact h3
  ·simp only [List.length_nil] at e1 ht
   have ht0:tot=0:=by omega
   subst ht0
   unfold SliceIs at *
   have hoff:off=0:=by have:=h3.1;omega
   subst hoff
   refine ⟨h3.1,?_⟩
   cases hρ:ρ n with
   |none=>have:=h3.2;rw [hρ] at this;exact this
   |some bc=>obtain ⟨b,c⟩:=bc;have:=h3.2;rw [hρ] at this;simpa using this
 |ptr n i off tot sz es fr v hl ht hi hs hv =>
  obtain ⟨sz',es',fr',hl',hle,heq⟩:=hx.row n sz es fr hl
  refine .ptr n i off tot sz' es' fr' v hl' (by omega) hi hs (fun e=>?_)
  have e1:es.length=es'.length:=by omega
  obtain ⟨h1,h2⟩:=heq e1
  rcases h1 with rfl|rfl
  ·rw [h2];exact hv (by omega)
  ·simp at e1;omega
 |bptr n off sz b c d hl hρ =>
  obtain ⟨h1,o',h2,h3⟩:=hx.box n _ hl rfl
  cases o' with
  |box sz' d'=>simp only [DObj.like] at h3;subst h3;exact .bptr n off _ b c d' h2 (by rw [h1];exact hρ)
  |fbox sz' d'=>simp only [DObj.like] at h3;subst h3;exact .fptr n off _ b c d' h2 (by rw [h1];exact hρ)
  |_=>exact h3.elim
 |fptr n off sz b c d hl hρ =>
  obtain ⟨h1,o',h2,h3⟩:=hx.box n _ hl rfl
  cases o' with
  |fbox sz' d'=>simp only [DObj.like] at h3;subst h3;exact .fptr n off _ b c d' h2 (by rw [h1];exact hρ)
  |_=>exact h3.elim
 |dictv n b c es hl hρ =>
  obtain ⟨h1,o',h2,h3⟩:=hx.box n _ hl rfl
  cases o' with
  |dict es'=>exact .dictv n b c es' h2 (by rw [h1];exact hρ)
  |_=>exact h3.elim
 |sitv n b c pos s hl hρ =>
  obtain ⟨h1,o',h2,h3⟩:=hx.box n _ hl rfl
  cases o' with
  |siter s' p'=>exact .sitv n b c p' s' h2 (by rw [h1];exact hρ)
  |_=>exact h3.elim
 |yldv n l rest live hl =>
  obtain ⟨h1,o',h2,h3⟩:=hx.box n _ hl rfl
  cases o' with
  |ghost r' v' l'=>simp only [DObj.like] at h3;obtain ⟨_,_,rfl⟩:=h3;exact .yldv n _ r' v' h2
  |_=>exact h3.elim
 |nown n off len tot sz c isz es pd v hl ht hs hv =>
  have key:∀ (sz':Nat) (l':Nat),es.length=l'→tot=l'→(sz'=sz∨es=[])→ρ' n=ρ n→SliceIs (ρ' n) sz' off len tot v:=fun sz' l' e e' h1 h2=>by
   have h3:=hv (by omega)
   rw [h2]
   rcases h1 with rfl|rfl
   ·exact h3
   ·simp only [List.length_nil] at e ht
    have ht0:tot=0:=by omega
    subst ht0
    unfold SliceIs at *
    have hoff:off=0:=by have:=h3.1;omega
    subst hoff
    refine ⟨h3.1,?_⟩
    cases hρ:ρ n with
    |none=>have:=h3.2;rw [hρ] at this;exact this
    |some bc=>obtain ⟨b,c⟩:=bc;have:=h3.2;rw [hρ] at this;simpa using this
  rcases hx.nrw n sz c isz es pd hl with ⟨es',pd',g1,g2,g3,_⟩|⟨sz',es',fr',g1,g2,g3⟩
  ·exact .nown n off len tot sz c isz es' pd' v g1 (by omega) hs (fun e=>key sz _ (by omega) e (.inl rfl) (g3 (by omega)))
  ·exact .own n off len tot sz' es' fr' v g1 (by omega) hs (fun e=>by obtain ⟨q1,q2⟩:=g3 (by omega);exact key sz' _ (by omega) e q1 q2)
 |nptr n i off tot sz c isz es pd v hl ht hi hs hv =>
  rcases hx.nrw n sz c isz es pd hl with ⟨es',pd',g1,g2,g3,_⟩|⟨sz',es',fr',g1,g2,g3⟩
  ·exact .nptr n i off tot sz c isz es' pd' v g1 (by omega) hi hs (fun e=>by rw [g3 (by omega)];exact hv (by omega))
  ·refine .ptr n i off tot sz' es' fr' v g1 (by omega) hi hs (fun e=>?_)
   obtain ⟨q1,q2⟩:=g3 (by omega)
   rcases q1 with rfl|rfl
   ·rw [q2];exact hv (by omega)
   ·simp at ht;omega
 |subv n i off len tot v hs hh =>
  refine .subv n i off len tot v hs ?_
  rcases hh with ⟨sz,c,isz,es,pd,hl,hi,hv⟩|⟨sz,es,fr,hl⟩
  ·rcases hx.nrw n sz c isz es pd hl with ⟨es',pd',g1,g2,g3,g4,g5⟩|⟨sz',es',fr',g1,g2,g3⟩
   ·refine .inl ⟨sz,c,isz,es',pd',g1,g4 i hi,fun l' e=>?_⟩
    obtain ⟨l,q1,q2,q3⟩:=g5 i l' hi e
    obtain ⟨r1,r2⟩:=hv l q1
    exact ⟨by omega,fun e=>by rw [q3 (by omega)];exact r2 (by omega)⟩
   ·exact .inr ⟨sz',es',fr',g1⟩
  ·obtain ⟨sz',es',fr',g1,_⟩:=hx.row n sz es fr hl
   exact .inr ⟨sz',es',fr',g1⟩
 |sptrv n i j off tot v hs hh =>
  refine .sptrv n i j off tot v hs ?_
  rcases hh with ⟨sz,c,isz,es,pd,hl,hi,hv⟩|⟨sz,es,fr,hl⟩
  ·rcases hx.nrw n sz c isz es pd hl with ⟨es',pd',g1,g2,g3,g4,g5⟩|⟨sz',es',fr',g1,g2,g3⟩
   ·refine .inl ⟨sz,c,isz,es',pd',g1,g4 i hi,fun l' e=>?_⟩
    obtain ⟨l,q1,q2,q3⟩:=g5 i l' hi e
    obtain ⟨r1,r2⟩:=hv l q1
    exact ⟨by omega,fun e=>by rw [q3 (by omega)];exact r2 (by omega)⟩
   ·exact .inr ⟨sz',es',fr',g1⟩
  ·obtain ⟨sz',es',fr',g1,_⟩:=hx.row n sz es fr hl
   exact .inr ⟨sz',es',fr',g1⟩
 |vl l b sz g hsz hM _ ih=>exact .vl l b sz g hsz (fun i hi=>hx.le _ _ _ (hM i hi)) ih
def RowAt (fr:Bool) (w:World) (b:Nat) (cs:Array Value) (t:TypeId):Prop:=∃ fz,w.heap[b]?=some (.cells cs t fz)∧(fr=false→fz=(0,0))
theorem RowAt.plain {w:World} {b:Nat} {cs:Array Value} {t:TypeId} (h:RowAt false w b cs t):w.heap[b]?=some (.cells cs t (0,0)):=by
 obtain ⟨fz,h1,h2⟩:=h
 rw [← h2 rfl];exact h1
theorem RowAt.of {fr:Bool} {w:World} {b:Nat} {cs:Array Value} {t:TypeId} (h:w.heap[b]?=some (.cells cs t (0,0))):RowAt fr w b cs t:=⟨_,h,fun _=>rfl⟩
theorem RowAt.heap {fr:Bool} {w w':World} {b:Nat} {cs:Array Value} {t:TypeId} (h:RowAt fr w b cs t) (e:w'.heap[b]?=w.heap[b]?):RowAt fr w' b cs t:=by
 obtain ⟨fz,h1,h2⟩:=h
 exact ⟨fz,e.trans h1,h2⟩
theorem RowAt.lt {fr:Bool} {w:World} {b:Nat} {cs:Array Value} {t:TypeId} (h:RowAt fr w b cs t):b < w.heap.size:=by
 obtain ⟨fz,h1,_⟩:=h
 exact (Array.getElem?_eq_some_iff.1 h1).1
theorem RowAt.froze {fr:Bool} {w:World} {b:Nat} {cs:Array Value} {t:TypeId} (h:RowAt fr w b cs t):RowAt true w b cs t:=by
 obtain ⟨fz,h1,_⟩:=h
 exact ⟨fz,h1,fun e=>by cases e⟩
def InnerAt (B:Base) (M:Mem) (loc:Option (Nat×Nat)) (w:World) (isz:Nat) (l:List DV):Prop :=
 match loc with
 |none=>l=[]
 |some (b,k)=>B.wr b∧∃ cs t,w.heap[b]?=some (.cells cs t (0,0))∧cs.size=k * isz∧l.length≤k∧(∀ e ∈ l,okE isz e=true) ∧
   (∀ i,i < (flat l).length→RelP M ((flat l).getD i .undef) (cs.getD i Go.undef))∧∀ o,M b o=none
def CellAt (M:Mem) (loc:Option (Nat×Nat)) (c isz:Nat) (pd:Option (Nat×List DV)) (i j:Nat) (d:DV) (v:Value):Prop :=
 match d with
 |.inn l=>j=c∧(∃ a m k,v=.slice a m k)∧((∀ l',pd≠some (i,l'))→SliceIs loc isz 0 l.length l.length v)
 |d=>RelP M d v
def ObjRel (B:Base) (M:Mem) (ρ:Locs) (h:Heap) (w:World) (n:Nat):DObj→Prop
 |.row sz es fr=>match ρ n with
  |none=>es=[]
  |some (b,c)=>(B.wr b∧sz≠0)∧∃ cs t,RowAt fr w b cs (tyN n t)∧cs.size=c * sz∧es.length≤c∧(∀ e ∈ es,okE sz e=true) ∧
    (∀ i,i < (flat es).length→RelP M ((flat es).getD i .undef) (cs.getD i Go.undef)) ∧
    (fr=true→∀ i,i < (flat es).length→M b i=some (cs.getD i Go.undef))∧(fr=false→∀ o,M b o=none)
 |.box sz d=>∃ b c,ρ n=some (b,c)∧B.wr b∧∃ cs t,w.heap[b]?=some (.cells cs (tyN n t) (0,0))∧cs.size=sz∧okE sz d=true ∧
    (∀ i,i < sz→RelV M ρ h (d.cells.getD i .undef) (cs.getD i Go.undef))∧∀ o,M b o=none
 |.fbox sz d=>∃ b c,ρ n=some (b,c)∧B.wr b∧∃ cs t,w.heap[b]?=some (.cells cs (tyN n t) (0,0))∧cs.size=sz∧okE sz d=true ∧
    (∀ i,i < sz→RelP M (d.cells.getD i .undef) (cs.getD i Go.undef))∧∀ i,i < sz→M b i=some (cs.getD i Go.undef)
 |.dict es=>∃ b c,ρ n=some (b,c)∧B.wr b∧(∃ E,w.heap[b]?=some (.map E es.length)∧E.size=es.length ∧
    ∀ i e,E[i]?=some e→e.born=i∧RelP M (es.getD i (.undef,.undef)).1 e.key∧RelP M (es.getD i (.undef,.undef)).2 e.val)∧∀ o,M b o=none
 |.siter s pos=>∃ b c,ρ n=some (b,c)∧B.wr b∧w.heap[b]?=some (.stringIter ⟨s.toArray⟩ pos)∧∀ o,M b o=none
 |.ghost _ _ _=>ρ n=none∧B.gh=true
 |.nrow sz c isz es pd=>(c < sz∧isz≠0∧(∀ l k,pd=some (k,l)→k≤es.length)) ∧
   (∀ i l,curL c es pd i=some l→InnerAt B M (ρ.sub n i) w isz l) ∧
   match ρ n with
   |none=>es=[]
   |some (b,k)=>B.wr b∧∃ cs t,w.heap[b]?=some (.cells cs (tyN n t) (0,0))∧cs.size=k * sz∧es.length≤k∧(∀ e ∈ es,okE sz e=true) ∧
     (∀ i,i < es.length→∀ j,j < sz→CellAt M (ρ.sub n i) c isz pd i j ((es.getD i .undef).cells.getD j .undef) (cs.getD (i * sz+j) Go.undef))∧∀ o,M b o=none
def app (π:List (Nat×Nat)) (n:Nat):Nat :=
 match π with
 |[]=>n
 |(k,m) :: r=>bif Nat.beq k n then m else app r n
mutual
def ren (π:List (Nat×Nat)):DV→DV
 |.own n a b c=>.own (app π n) a b c
 |.ptr n a b c=>.ptr (app π n) a b c
 |.bptr n a=>.bptr (app π n) a
 |.dict n=>.dict (app π n)
 |.sub n i a b c=>.sub (app π n) i a b c
 |.sptr n i j a b=>.sptr (app π n) i j a b
 |.vl cs=>.vl (rens π cs)
 |.agg cs=>.agg (rens π cs)
 |.tuple cs=>.tuple (rens π cs)
 |.func f cs=>.func f (rens π cs)
 |.meth f cs=>.meth f (rens π cs)
 |d=>d
def rens (π:List (Nat×Nat)):List DV→List DV
 |[]=>[]
 |d :: r=>ren π d :: rens π r
end
def renO (π:List (Nat×Nat)):DObj→DObj
 |.box sz d=>.box sz (ren π d)
 |o=>o
def renH (π:List (Nat×Nat)):Heap→Heap
 |[]=>[]
 |(n,o) :: r=>(app π n,renO π o) :: renH π r
def anyB:Base:=Base.plain 0
def SubAt (ρ:Locs) (h:Heap) (n i b:Nat):Prop:=∃ sz c isz es pd l k,hlook h n=some (.nrow sz c isz es pd)∧curL c es pd i=some l∧ρ.sub n i=some (b,k)
def DSub (ρ:Locs) (h:Heap):Prop:=∀ n i b,SubAt ρ h n i b→(∀ m o k,hlook h m=some o→ρ m≠some (b,k))∧∀ m j,SubAt ρ h m j b→m=n∧j=i
structure HeapIn (M:Mem) (ρ:Locs) (h:Heap) (w:World):Prop where
 mem:M.holds w
 obj:∀ n o,hlook h n=some o→ObjRel anyB M ρ h w n o
 dis:∀ n m o p b c b' c',n≠m→hlook h n=some o→hlook h m=some p→ρ n=some (b,c)→ρ m=some (b',c')→b≠b'
 dsub:DSub ρ h
structure Stays (lo:Nat) (C:Nat→Prop) (K:Nat→Prop) (W W':World):Prop where
 os:W'.os=W.os
 tape:W'.tape=W.tape
 output:W'.output=W.output
 size:W.heap.size≤W'.heap.size
 block:∀ b,b < W.heap.size→K b∨(b < lo∧¬ C b)→W'.heap[b]?=W.heap[b]?
structure Turns (K:Nat→Prop) (W W':World):Prop where
 os:W'.os=W.os
 tape:W'.tape=W.tape
 output:W'.output=W.output
 size:W.heap.size≤W'.heap.size
 block:∀ b,b < W.heap.size→¬ K b→W'.heap[b]?=W.heap[b]?
theorem Turns.refl (K:Nat→Prop) (W:World):Turns K W W:=⟨rfl,rfl,rfl,Nat.le_refl _,fun _ _ _=>rfl⟩
abbrev ProtoJ:=List (List DV)→Bool→(Nat→Prop)→World→Prop
structure Proto (F:Fence) (P:Program) (lo:Nat) (C:Nat→Prop) (l:Nat) (J:ProtoJ):Prop where
 stays:∀ r b K W W',J r b K W→Stays lo C K W W'→J r b K W'
 round:∀ x r K W args m,J (x :: r) true K W→(∀ b,K b→b < W.heap.size)→RelPs (fun _ _=>none) x args →
  ∃ fn tmps assign body,(Instr.yield l args).run P W=.ok (.round l fn tmps assign body) W ∧
   RoundIn F m P l fn tmps assign body W fun e W'=>∃ b K',e=.returned (.bool b)∧J r b K' W'∧(∀ k,K' k→K k∨W.heap.size≤k)∧(∀ k,K k→K' k)∧(∀ k,K' k→k < W'.heap.size)∧Turns K W W'
def callB (w:World) (ρ:Locs) (h:Heap):Base:=⟨w.heap.size,fun b=>(∃ n o c,hlook h n=some o∧ρ n=some (b,c))∨∃ n i,SubAt ρ h n i b,ρ,h,false,false⟩
def RelVs (M:Mem) (ρ:Locs) (h:Heap) (ds:List DV) (vs:Array Value):Prop:=ds.length=vs.size∧∀ i,i < ds.length→RelV M ρ h (ds.getD i .undef) (vs.getD i Go.undef)
def HAfter (M:Mem) (ρ:Locs) (w:World) (h:Heap) (d:DV) (h':Heap) (e:Ending) (w':World):Prop :=
 ∃ v M' ρ',e=.returned v∧HeapIn M' ρ' h' w'∧Ext M ρ h M' ρ' h'∧RelV M' ρ' h' d v∧(callB w ρ h).touch w w'∧(∀ b o v,M' b o=some v→M b o=none→(callB w ρ h).wr b) ∧
  (∀ n o b c,hlook h' n=some o→ρ' n=some (b,c)→(callB w ρ h).wr b)∧∀ n i b,SubAt ρ' h' n i b→(callB w ρ h).wr b
structure HCall (P:Program) (G:Nat→Option DV) (f:FuncId) (ds:List DV) (h:Heap) (d:DV) (h':Heap):Prop where
 enters:Enters P f
 call:∀ (F:Fence) (n:Nat),OpenF F→F.depth=none→F.round=none→∀ (M:Mem) (ρ:Locs) (w:World) (vs:Array Value),GOk G M→Tb G w (callB w ρ h).wr→HeapIn M ρ h w→RelVs M ρ h ds vs→CallsIn F n P f vs w (HAfter M ρ w h d h')
def ISeqW (P:Program) (G:Nat→Option DV) (g:FuncId) (cs:List DV) (hc:Heap) (xs:List (List DV)):Prop :=
 Enters P g∧(∀ x ∈ xs,flatBs x=true)∧∀ (F:Fence) (n:Nat),OpenF F→F.depth=none→∀ (M:Mem) (ρ:Locs) (w:World) (vs:Array Value) (l:Nat) (K C:Nat→Prop) (J:ProtoJ),
  GOk G M→Tb G w (fun b=>K b∨C b)→HeapIn M ρ hc w→ρ 0=none→RelVs M ρ hc cs vs→((∀ n o b c,hlook hc n=some o→ρ n=some (b,c)→C b)∧∀ n i b,SubAt ρ hc n i b→C b)→(∀ b,C b→¬ K b) →
  (∀ b,K b→b < w.heap.size)→(∀ b o v,M b o=some v→¬ K b)→Proto F P w.heap.size C l J→J xs true K w →
  CallsIn F n P g (#[.func (.yield l) #[] #[]]++vs) w fun e w'=>∃ v K',e=.returned v∧(J [] true K' w'∨∃ r,J r false K' w')∧(∀ b,K b→K' b)∧Turns (fun b=>K b∨C b) w w'
abbrev ISeq (P:Program) (G:Nat→Option DV) (g:FuncId) (cs:List DV) (xs:List (List DV)):Prop:=ISeqW P G g cs [] xs
mutual
def namesIn (l:List Nat):DV→Bool
 |.own n ..|.ptr n ..|.bptr n _|.dict n|.sub n ..|.sptr n ..=>l.any (Nat.beq n)
 |.vl _=>false
 |.agg cs=>namesIns l cs
 |.tuple cs=>namesIns l cs
 |.func _ cs=>namesIns l cs
 |.meth _ cs=>namesIns l cs
 |_=>true
def namesIns (l:List Nat):List DV→Bool
 |[]=>true
 |d :: r=>namesIn l d && namesIns l r
end
def namesInO (l:List Nat):DObj→Bool
 |.box _ d=>namesIn l d
 |.ghost _ _ _=>false
 |_=>true
def namesInH (l:List Nat):Heap→Bool
 |[]=>true
 |(_,o) :: r=>namesInO l o && namesInH l r
def distinct:List Nat→Bool
 |[]=>true
 |n :: r=>!(r.any (Nat.beq n)) && distinct r
def instOk (π:List (Nat×Nat)) (ds:List DV) (h h':Heap):Bool :=
 (h'.all fun x=>Nat.beq (x.1 / 1000000) (app π x.1 / 1000000)) && distinct (h.map (·.1)) && distinct (h'.map fun x=>app π x.1) && (h.map (·.1)).all (fun n=>(h'.map (·.1)).any (Nat.beq n)) && namesIns (h.map (·.1)) ds && namesInH (h.map (·.1)) h
def hereH (lk:Nat→Option DObj) (π:List (Nat×Nat)):Heap→Prop
 |[]=>True
 |(n,o) :: r=>lk (app π n)=some (renO π o)∧hereH lk π r
def freeH (lk:Nat→Option DObj) (π:List (Nat×Nat)) (h:Heap):Heap→Prop
 |[]=>True
 |(n,_) :: r=>((h.map (·.1)).any (Nat.beq n)=true∨lk (app π n)=none)∧freeH lk π h r
def freeze:List Nat→Heap→Heap
 |[],h=>h
 |n :: r,h=>match hlook h n with
  |some (.row sz es _)=>freeze r ((n,.row sz es true) :: h)
  |some (.nrow sz _ _ es none)=>freeze r ((n,.row sz (es.map closeD) true) :: h)
  |some (.box sz d)=>bif pureB d then freeze r ((n,.fbox sz d) :: h) else freeze r h
  |_=>freeze r h
def pre:Option Prop→Prop→Prop
 |none,N=>N
 |some p,N=>p∧N
def force (k:DV→Prop):DV→Prop
 |.undef=>k .undef
 |.bool b=>k (.bool b)
 |.int i n=>k (.int i n)
 |.str s=>k (.str s)
 |.agg cs=>k (.agg cs)
 |.tuple cs=>k (.tuple cs)
 |.list l=>k (.list l)
 |.full l=>k (.full l)
 |.ip d=>k (.ip d)
 |.func f c=>k (.func f c)
 |.meth f c=>k (.meth f c)
 |.nilptr=>k .nilptr
 |.nilfunc=>k .nilfunc
 |.nilsl=>k .nilsl
 |.abool=>k .abool
 |.own a b c d=>k (.own a b c d)
 |.ptr a b c d=>k (.ptr a b c d)
 |.bptr a b=>k (.bptr a b)
 |.dict n=>k (.dict n)
 |.flt a b=>k (.flt a b)
 |.fnan a=>k (.fnan a)
 |.sub a b c d e=>k (.sub a b c d e)
 |.sptr a b c d e=>k (.sptr a b c d e)
 |.inn l=>k (.inn l)
 |.vl l=>k (.vl l)
theorem force_eq (k:DV→Prop) (d:DV):force k d=k d:=by cases d<;>rfl
def forceS (k:List DV→Prop):List DV→List DV→Prop
 |[],acc=>k acc.reverse
 |d :: r,acc=>force (fun d=>forceS k r (d :: acc)) d
theorem forceS_eq (k:List DV→Prop):∀ l acc,forceS k l acc=k (acc.reverse++l)
 |[],acc=>by simp [forceS]
 |d :: r,acc=>by simp [forceS,force_eq,forceS_eq k r]
abbrev SP:=Tmps→Heap→Prop
def forceU (k:Heap→Prop):Heap→Heap→Prop
 |[],h=>k h
 |(n,.box sz d) :: r,h=>force (fun d=>forceU k r ((n,.box sz d) :: h)) d
 |(n,o) :: r,h=>forceU k r ((n,o) :: h)
def putK (dst:Option Nat) (d:DV) (t:Tmps) (k:Tmps→Prop):Prop :=
 match dst with
 |some n=>force (fun d=>k ((n,d) :: t)) d
 |none=>k t
def putD (deep:Bool) (dst:Option Nat) (d:DV) (t:Tmps) (k:Tmps→Prop):Prop :=
 bif deep then force (fun d=>match d with
  |.agg cs=>forceS (fun cs=>putK dst (.agg cs) t k) cs []
  |.full es=>forceS (fun es=>putK dst (.full es) t k) es []
  |d=>putK dst d t k) d
 else putK dst d t k
def deepB (ev:Operand→DV):DOp→Bool
 |.build _ _=>true
 |.load (some _) a=>match ev a with
  |.bptr _ _=>true
  |_=>false
 |_=>false
def onG (known b want:Bool) (A B:Prop):Prop :=
 bif known then (match b with
  |true=>bif want then A else B
  |false=>bif want then B else A)
 else (b=want→A)∧(b=!want→B)
theorem onG_spec {known b want:Bool} {A B:Prop} (h:onG known b want A B):(b=want→A)∧(b=!want→B):=by
 cases known
 ·exact h
 ·cases b<;>cases want<;>simp_all [onG]
theorem onG_mono {known b want:Bool} {A B A' B':Prop} (ha:A→A') (hb:B→B') (h:onG known b want A B):onG known b want A' B':=by
 cases known
 ·exact ⟨fun e=>ha (h.1 e),fun e=>hb (h.2 e)⟩
 ·cases b<;>cases want<;>simp_all [onG]
def memB (n:Nat):List Nat→Bool
 |[]=>false
 |k :: r=>bif Nat.beq k n then true else memB n r
def freezeK:List Nat→Heap→(Heap→Prop)→Prop
 |[],h,k=>k h
 |n :: r,h,k=>match hlook h n with
  |some (.row sz es _)=>freezeK r ((n,.row sz es true) :: h) k
  |some (.nrow sz _ _ es none)=>freezeK r ((n,.row sz (es.map closeD) true) :: h) k
  |some (.box sz d)=>bif pureB d then freezeK r ((n,.fbox sz d) :: h) k else freezeK r h k
  |_=>freezeK r h k
theorem freezeK_eq:∀ ns h k,freezeK ns h k=k (freeze ns h)
 |[],_,_=>rfl
 |n :: r,h,k=>by
  unfold freezeK freeze
  split
  ·exact freezeK_eq r _ k
  ·exact freezeK_eq r _ k
  ·rename_i sz d hn
   cases pureB d<;>exact freezeK_eq r _ k
  ·exact freezeK_eq r _ k
def stepWp (P:Program) (G:Nat→Option DV) (o:DOper) (N:SP) (t:Tmps) (h:Heap):Prop :=
 match evalOp (evalOpd G t) (hlook h) (o.dst.getD 0) o.op with
 |.fail=>False
 |.ok p d u=>pre p (putD (deepB (evalOpd G t) o.op) o.dst d t fun t'=>forceU (fun h'=>N t' h') u h)
 |.okF ns p d u=>pre p (putD true o.dst d t fun t'=>freezeK ns h fun h=>forceU (fun h'=>N t' h') u h)
 |.call f vs=>(match purs (hlook h) vs with
  |none=>False
  |some (p,ds)=>pre p (∃ d,PureCall P G f ds d∧putK o.dst d t fun t'=>(bif flatB d then N t' h else freezeK (namess vs) h (N t')))) ∨
  ∃ π ds hs d hs',HCall P G f ds hs d hs'∧(rens π ds=vs∧instOk π ds hs hs'=true∧hereH (hlook h) π hs∧freeH (hlook h) π hs hs')∧putK o.dst (ren π d) t fun t'=>forceU (fun h'=>N t' h') (renH π hs') h
 |.yield _ _=>False
def opsWp (P:Program) (G:Nat→Option DV):List DOper→List Nat→SP→SP
 |[],_,Q,t,h=>Q t h
 |o :: r,K,Q,t,h=>match o.guard with
  |none=>stepWp P G o (opsWp P G r K Q) t h
  |some (g,want)=>match tget t g with
   |.bool b=>onG (memB g K) b want (stepWp P G o (opsWp P G r (g :: K) Q) ((g,.bool want) :: t) h) (putK o.dst (.tuple []) ((g,.bool (!want)) :: t) fun t'=>opsWp P G r (g :: K) Q t' h)
   |.tuple []=>putK o.dst (.tuple []) t fun t'=>opsWp P G r K Q t' h
   |_=>False
abbrev Soft:=Bool×Nat×Nat×List Nat×DV×DV
structure Foot where
 bef:List Nat
 rd:List Nat
 wr:List Nat
 so:Option Soft
def softOf (ev:Operand→DV):DOp→Option Soft
 |.lookup kk ks false z m k=>match ev m with
  |.dict q=>some (false,q,kk,ks,ev k,z)
  |_=>none
 |.mapentry kk ks z m k=>match ev m with
  |.dict q=>some (true,q,kk,ks,ev k,z)
  |_=>none
 |_=>none
def eqNs:List Nat→List Nat→Bool
 |[],[]=>true
 |a :: r,b :: s=>Nat.beq a b && eqNs r s
 |_,_=>false
def sameZ:DV→DV→Bool
 |.int j a,.int k b=>kindEq j k && decide (a=b)
 |.bool a,.bool b=>a == b
 |_,_=>false
def softPair (g f:Foot):Bool:=g.wr.isEmpty && match g.so,f.so with
 |some (false,q,kk,ks,k,z),some (true,q',kk',ks',k',z')=>Nat.beq q q' && (Nat.beq kk kk' && (eqNs ks ks' && ((keyEq kk ks k k').isSome && sameZ z z')))
 |_,_=>false
def disj (a b:List Nat):Bool:=a.all fun x=>!b.any (Nat.beq x)
def footsOk (f:Foot):List Foot→Nat→Bool
 |[],_=>true
 |g :: r,j=>((disj g.wr f.rd && disj g.wr f.wr && disj g.rd f.wr) || f.bef.any (Nat.beq j) || softPair g f) && footsOk f r (j+1)
def allFeet:List Foot→List Foot→Bool
 |_,[]=>true
 |fs,f :: r=>footsOk f fs 0 && allFeet (fs++[f]) r
def operandsOf:DOp→List Operand
 |.fconv _ _ x|.ftoi _ _ x|.itof _ _ x|.mov x|.same x|.load _ x|.nilCheck x|.un _ x|.conv _ x|.sliceA _ _ _ x|.faddr _ _ _ x|.field _ _ _ x|.extract x _|.len x|.lenS x|.capF x|.box _ x|.boxI _ x=>[x]
 |.pick c a b=>[c,a,b]
 |.sliceH _ _ _ x y=>[x,y]
 |.alloc ..|.allocO ..|.lenC _=>[]
 |.build _ ps=>ps.map (·.2.2)
 |.lit _ _ _ _ ps=>ps.map (·.2)
 |.litV _ _ _ ps=>ps.map (·.2)
 |.appendN _ _ s x=>[s,x]
 |.mksliceN _ l c=>[l,c]
 |.store _ a x=>[a,x]
 |.bin _ x y|.eqA _ _ x y|.eqB _ x y=>[x,y]
 |.mkfunc _ c=>c
 |.mkmeth _ c=>c
 |.slice _ x lo hi mx=>x :: (lo.toList++hi.toList++mx.toList)
 |.sliceS x lo hi=>x :: (lo.toList++hi.toList)
 |.iaddr _ x i|.iaddrA _ _ _ x i|.indexS x i|.indexA _ _ _ x i=>[x,i]
 |.call f args=>f :: args
 |.append _ _ s x=>[s,x]
 |.appendZ _ _ s x=>[s,x]
 |.copy _ d x=>[d,x]
 |.appendE _ s x=>[s,x]
 |.minmax _ x r=>x :: r
 |.mkslice _ _ l c=>[l,c]
 |.makemap=>[]
 |.mapset _ _ m k v=>[m,k,v]
 |.lookup _ _ _ _ m k=>[m,k]
 |.mapentry _ _ _ m k=>[m,k]
 |.entrystore m s v=>[m,s,v]
 |.lenM x|.rangeS x|.nextS x|.strOf x|.clear _ _ x|.eqNil _ x=>[x]
 |.sliceW _ x lo hi=>x :: (lo.toList++hi.toList)
 |.bad=>[]
def readsOf (ev:Operand→DV) (n:Nat):DOp→List Nat
 |.alloc _ sz=>[n,sz / 1000000 * 1000000+n]
 |.allocO _ _ slots=>n :: slots.map fun x=>nrow n x.1
 |.box ..=>[n]
 |.boxI _ x=>namess [ev x]
 |.mkslice ..=>[n]
 |.appendZ ..=>[n]
 |.mksliceN ..=>[n]
 |.appendN m _ s x=>m :: (names (ev s)++names (ev x))
 |.makemap|.rangeS _=>[n]
 |.mapset _ _ m _ _=>names (ev m)
 |.lookup _ _ _ _ m _=>names (ev m)
 |.mapentry _ _ _ m _=>names (ev m)
 |.entrystore m _ _=>names (ev m)
 |.lenM x=>names (ev x)
 |.nextS x=>names (ev x)
 |.lit _ _ len z ps=>n :: namess (litElems ev ps (List.replicate len z))
 |.load _ a=>names (ev a)
 |.store _ a x=>names (ev a)++names (ev x)
 |.slice _ x _ _ _=>names (ev x)
 |.iaddr _ x _=>names (ev x)
 |.iaddrA _ _ _ x _=>names (ev x)
 |.faddr _ _ _ x=>names (ev x)
 |.nilCheck x=>names (ev x)
 |.len x=>names (ev x)
 |.call f args=>names (ev f)++namess (args.map ev)
 |.append _ _ s x=>n :: (names (ev s)++names (ev x))
 |.copy _ d x=>names (ev d)++names (ev x)
 |.appendE _ s x=>names (ev x)
 |.strOf x=>names (ev x)
 |.sliceW _ x _ _=>names (ev x)
 |.clear _ _ x=>names (ev x)
 |_=>[]
def drawRun (P:Program) (G:Nat→Option DV) (o:DOper) (fs:List Foot) (N:List Foot→SP) (t:Tmps) (h:Heap):Prop :=
 match evalOp (evalOpd G t) (hlook h) (o.dst.getD 0) o.op with
 |.fail=>False
 |.ok p d u=>pre p (putD (deepB (evalOpd G t) o.op) o.dst d t fun t'=>forceU (fun h'=>N (⟨o.bef,readsOf (evalOpd G t) (o.dst.getD 0) o.op,u.map (·.1),softOf (evalOpd G t) o.op⟩ :: fs) t' h') u h)
 |.okF ns p d u=>pre p (putD true o.dst d t fun t'=>freezeK ns h fun h=>forceU (fun h'=>N (⟨o.bef,readsOf (evalOpd G t) (o.dst.getD 0) o.op,ns++u.map (·.1),none⟩ :: fs) t' h') u h)
 |.call f vs=>(match purs (hlook h) vs with
  |none=>False
  |some (p,ds)=>pre p (∃ d,PureCall P G f ds d∧putK o.dst d t fun t' =>
    (bif flatB d then N (⟨o.bef,namess vs,[],none⟩ :: fs) t' h else freezeK (namess vs) h (N (⟨o.bef,namess vs,namess vs,none⟩ :: fs) t')))) ∨
  ∃ π ds hs d hs',HCall P G f ds hs d hs'∧(rens π ds=vs∧instOk π ds hs hs'=true∧hereH (hlook h) π hs∧freeH (hlook h) π hs hs') ∧
   putK o.dst (ren π d) t fun t'=>forceU (fun h'=>N (⟨o.bef,namess vs++(hs'.map fun x=>app π x.1),hs'.map fun x=>app π x.1,none⟩ :: fs) t' h') (renH π hs') h
 |.yield _ _=>False
def drawWp (P:Program) (G:Nat→Option DV):List DOper→List Nat→List Foot→SP→SP
 |[],_,fs,Q,t,h=>allFeet [] fs.reverse=true∧Q t h
 |o :: r,K,fs,Q,t,h=>match o.guard with
  |none=>drawRun P G o fs (fun fs=>drawWp P G r K fs Q) t h
  |some (g,want)=>match tget t g with
   |.bool b=>onG (memB g K) b want (drawRun P G o fs (fun fs=>drawWp P G r (g :: K) fs Q) ((g,.bool want) :: t) h)
     (putK o.dst (.tuple []) ((g,.bool (!want)) :: t) fun t'=>drawWp P G r (g :: K) (⟨o.bef,[],[],none⟩ :: fs) Q t' h)
   |.tuple []=>putK o.dst (.tuple []) t fun t'=>drawWp P G r K (⟨o.bef,[],[],none⟩ :: fs) Q t' h
   |_=>False
mutual
def res (kh:List Nat) (lk:Nat→Option DObj):DV→DV
 |.own n off len tot=>bif memB n kh then .own n off len tot else match lk n with
  |some (.row _ es _)=>if tot=es.length then .list (window es off len) else .undef
  |_=>.undef
 |.ptr n i off tot=>bif memB n kh then .ptr n i off tot else .undef
 |.bptr n off=>bif memB n kh then .bptr n off else match lk n with
  |some (.box _ d)=>bif Nat.beq off 0 && pureB d then .ip d else .undef
  |some (.fbox _ d)=>bif Nat.beq off 0 && pureB d then .ip d else .undef
  |_=>.undef
 |.dict n=>bif memB n kh then .dict n else .undef
 |.sub n i off len tot=>bif memB n kh then .sub n i off len tot else .undef
 |.sptr n i j off tot=>bif memB n kh then .sptr n i j off tot else .undef
 |.vl _=>.undef
 |.agg cs=>.agg (ress kh lk cs)
 |.tuple cs=>.tuple (ress kh lk cs)
 |.func f cs=>.func f (ress kh lk cs)
 |.meth f cs=>.meth f (ress kh lk cs)
 |d=>d
def ress (kh:List Nat) (lk:Nat→Option DObj):List DV→List DV
 |[]=>[]
 |d :: r=>res kh lk d :: ress kh lk r
end
def resObj (kh:List Nat) (lk:Nat→Option DObj):DObj→DObj
 |.box sz d=>.box sz (res kh lk d)
 |o=>o
def keepH (kh:List Nat) (lk:Nat→Option DObj):List Nat→Heap
 |[]=>[]
 |n :: r=>match lk n with
  |some o=>(n,resObj kh lk o) :: keepH kh lk r
  |none=>keepH kh lk r
def keepT (kh:List Nat) (lk:Nat→Option DObj) (t:Tmps):List Nat→Tmps
 |[]=>[]
 |i :: r=>(i,res kh lk (tget t i)) :: keepT kh lk t r
def keepTK (kh:List Nat) (lk:Nat→Option DObj) (t:Tmps):List Nat→Tmps→(Tmps→Prop)→Prop
 |[],acc,k=>k acc.reverse
 |i :: r,acc,k=>force (fun d=>keepTK kh lk t r ((i,d) :: acc) k) (res kh lk (tget t i))
theorem keepTK_eq (kh:List Nat) (lk:Nat→Option DObj) (t:Tmps):∀ l acc k,keepTK kh lk t l acc k=k (acc.reverse++keepT kh lk t l)
 |[],acc,k=>by simp [keepTK,keepT]
 |i :: r,acc,k=>by simp [keepTK,keepT,force_eq,keepTK_eq kh lk t r]
def boxesOk (kh:List Nat) (lk:Nat→Option DObj):List Nat→Bool
 |[]=>true
 |n :: r=>match lk n with
  |some (.box sz d)=>okE sz (res kh lk d) && boxesOk kh lk r
  |_=>boxesOk kh lk r
def keepHK (kh:List Nat) (lk:Nat→Option DObj):List Nat→Heap→(Heap→Prop)→Prop
 |[],acc,k=>k acc.reverse
 |n :: r,acc,k=>match lk n with
  |some (.box sz d)=>force (fun d=>bif okE sz d then keepHK kh lk r ((n,.box sz d) :: acc) k else False) (res kh lk d)
  |some o=>keepHK kh lk r ((n,resObj kh lk o) :: acc) k
  |none=>keepHK kh lk r acc k
theorem keepHK_eq (kh:List Nat) (lk:Nat→Option DObj):∀ l acc k,keepHK kh lk l acc k=(boxesOk kh lk l=true∧k (acc.reverse++keepH kh lk l))
 |[],acc,k=>by simp [keepHK,keepH,boxesOk]
 |n :: r,acc,k=>by
  unfold keepHK keepH boxesOk
  split
  ·rename_i sz d hn
   rw [hn]
   simp only [force_eq,resObj]
   cases ho:okE sz (res kh lk d)
   ·simp
   ·simp [keepHK_eq kh lk r]
  ·rename_i o hno hn
   rw [hn]
   cases o with
   |box sz d=>exact absurd rfl (hno sz d)
   |_=>simp only [keepHK_eq kh lk r,List.reverse_cons,List.append_assoc,List.singleton_append]
  ·rename_i hn
   rw [hn];simp only [keepHK_eq kh lk r]
def keepK:Option Keep→Tmps→Heap→SP→Prop
 |none,t,h,k=>k t h
 |some kp,t,h,k=>keepTK kp.kh (hlook h) t kp.kt [] fun t'=>keepHK kp.kh (hlook h) kp.kh [] fun h'=>k t' h'
def rowAt (sz:Nat):DObj:=bif Nat.blt sz 1000000 then .row sz [] false else .nrow ((sz - 1000000) / 10000) ((sz - 1000000) / 100 % 100) ((sz - 1000000) % 100) [] none
def rowOk (sz:Nat):Bool:=Nat.blt sz 1000000 || (Nat.blt ((sz - 1000000) / 100 % 100) ((sz - 1000000) / 10000) && Nat.blt 0 ((sz - 1000000) % 100))
def enterK:List (Nat×Nat)→Tmps→Heap→SP→Prop
 |[],t,h,k=>k t h
 |(i,sz) :: r,t,h,k=>match tget t i with
  |.full []=>match hlook h i with
   |none=>bif rowOk sz then enterK r ((i,.own i 0 0 0) :: t) ((i,rowAt sz) :: h) k else False
   |some _=>enterK r t h k
  |_=>enterK r t h k
def seqQ (N:SP) (Q:DExit→SP):DExit→SP
 |.normal,t,h=>N t h
 |.exit i,t,h=>Q (.exit i) t h
 |.ret,t,h=>Q .ret t h
def blockQ (id:Nat) (k:Option Keep) (Q:DExit→SP):DExit→SP
 |.normal,t,h=>keepK k t h (Q .normal)
 |.exit i,t,h=>bif Nat.beq i id then keepK k t h (Q .normal) else Q (.exit i) t h
 |.ret,t,h=>Q .ret t h
def loopN (body:(DExit→SP)→SP) (k:Keep) (Q:DExit→SP):Nat→SP
 |0,_,_=>False
 |n+1,t,h=>body (seqQ (fun t' h'=>boxesOk k.kh (hlook h') k.kh=true∧loopN body k Q n (keepT k.kh (hlook h') t' k.kt) (keepH k.kh (hlook h') k.kh)) Q) t h
@[irreducible] def loopWp (body:(DExit→SP)→SP) (k:Keep) (Q:DExit→SP) (t:Tmps) (h:Heap):Prop :=
 enterK k.cv t h fun t' h'=>boxesOk k.kh (hlook h') k.kh=true∧∃ n,loopN body k Q n (keepT k.kh (hlook h') t' k.kt) (keepH k.kh (hlook h') k.kh)
def setPs:List Nat→List DV→Tmps→Tmps
 |p :: ps,d :: ds,t=>setPs ps ds ((p,d) :: t)
 |_,_,t=>t
def roundsN (body:(DExit→SP)→SP) (kh ps:List Nat) (Q:DExit→SP) (t:Tmps):List (List DV)→Heap→Prop
 |[],h=>Q .normal t h
 |x :: r,h=>body (fun e _ h'=>boxesOk kh (hlook h') kh=true∧match e with
   |.normal=>roundsN body kh ps Q t r (keepH kh (hlook h') kh)
   |e=>Q e t (keepH kh (hlook h') kh)) (setPs ps x t) h
def livO:DObj→Bool
 |.row _ _ fr=>!fr
 |.box ..=>true
 |.dict _=>true
 |.siter ..=>true
 |.nrow ..=>true
 |_=>false
def livH:Heap→Bool
 |[]=>true
 |(_,o) :: r=>livO o && livH r
def cutV (n:Nat) (d:DV):DV:=bif (names d).any (Nat.beq n) then .undef else d
def cutT (n:Nat):Tmps→Tmps
 |[]=>[]
 |(k,d) :: r=>(k,cutV n d) :: cutT n r
def cutH (n:Nat):Heap→Heap
 |[]=>[]
 |(k,o) :: r=>bif Nat.beq k n then cutH n r else (k,o) :: cutH n r
def freeOf (n:Nat):Heap→Bool
 |[]=>true
 |(_,.box _ d) :: r=>!((names d).any (Nat.beq n)) && freeOf n r
 |_ :: r=>freeOf n r
def capsB (n:Nat):List DV→Bool
 |[]=>true
 |.bptr m off :: r=>Nat.beq m n && Nat.beq off 0 && capsB n r
 |d :: r=>pureB d && capsB n r
@[irreducible] def rangeWp (P:Program) (G:Nat→Option DV) (body:(DExit→SP)→SP) (k:Keep) (ps:List Nat) (Q:DExit→SP) (f:DV) (t:Tmps) (h:Heap):Prop :=
 match f with
 |.func g caps=>(match purs (hlook h) caps with
  |some (p,cs)=>pre p (∃ xs,ISeq P G g cs xs∧(∀ x ∈ xs,x.length=ps.length)∧boxesOk k.kh (hlook (freeze (namess caps) h)) k.kh=true∧livH (keepH k.kh (hlook (freeze (namess caps) h)) k.kh)=true ∧
    roundsN body k.kh ps Q (keepT k.kh (hlook (freeze (namess caps) h)) t k.kt) xs (keepH k.kh (hlook (freeze (namess caps) h)) k.kh))
  |none=>False) ∨
  ∃ n sz d xs,(capsB n caps=true∧hlook h n=some (.box sz d)∧pureB d=true∧n≠0∧memB n k.kh=false∧freeOf n h=true)∧ISeqW P G g caps [(n,.box sz d)] xs∧(∀ x ∈ xs,x.length=ps.length)∧boxesOk k.kh (hlook (cutH n h)) k.kh=true ∧
    livH (keepH k.kh (hlook (cutH n h)) k.kh)=true∧roundsN body k.kh ps Q (keepT k.kh (hlook (cutH n h)) (cutT n t) k.kt) xs (keepH k.kh (hlook (cutH n h)) k.kh)
 |_=>False
def dwp (P:Program) (G:Nat→Option DV):DC→(DExit→SP)→SP
 |.skip,Q,t,h=>Q .normal t h
 |.ops false l,Q,t,h=>opsWp P G l [] (Q .normal) t h
 |.ops true l,Q,t,h=>drawWp P G l [] [] (Q .normal) t h
 |.seq a b,Q,t,h=>dwp P G a (seqQ (dwp P G b Q) Q) t h
 |.cond c a b,Q,t,h=>match evalOpd G t c with
  |.bool v=>(v=true→dwp P G a Q t h)∧(v=false→dwp P G b Q t h)
  |.abool=>dwp P G a Q t h∧dwp P G b Q t h
  |_=>False
 |.block id k a,Q,t,h=>dwp P G a (blockQ id k Q) t h
 |.loop k b,Q,t,h=>loopWp (dwp P G b) k Q t h
 |.exit id,Q,t,h=>Q (.exit id) t h
 |.ret,Q,t,h=>Q .ret t h
 |.rangeF k f ps x y,Q,t,h=>rangeWp P G (fun R=>dwp P G x (seqQ (dwp P G y R) (fun _ _ _=>False))) k ps Q (evalOpd G t f) t h
inductive DRes where
 |tmp (i:Nat)
 |cell (a:Nat) (agg:Option Nat)
 deriving Inhabited
def resVal (lk:Nat→Option DObj) (t:Tmps):DRes→Option DV
 |.tmp i=>some (tget t i)
 |.cell a agg=>match tget t a with
  |.bptr n off=>match lk n with
   |some (.box sz d)=>match agg with
    |none=>bif Nat.beq off 0 && Nat.blt 0 sz then some (d.cells.getD 0 .undef) else none
    |some k=>bif Nat.beq off 0 && Nat.beq k sz && isAggB d then some d else none
   |_=>none
  |_=>none
def resVals (lk:Nat→Option DObj) (t:Tmps):List DRes→Option (List DV)
 |[]=>some []
 |r :: l=>match resVal lk t r,resVals lk t l with
  |some d,some ds=>some (d :: ds)
  |_,_=>none
def pack:List DV→DV
 |[x]=>x
 |l=>.tuple l
def outs (results:List DRes) (d:DV) (t:Tmps) (h:Heap):Prop :=
 match resVals (hlook h) t results with
 |none=>False
 |some vs=>match purs (hlook h) vs with
  |some (p,ds)=>pre p (forceS (fun ds=>pack ds=d) ds [])
  |none=>False
def outsH (results:List DRes) (d:DV) (hs':Heap) (t:Tmps) (h:Heap):Prop :=
 match resVals (hlook h) t results with
 |none=>False
 |some vs=>keepHK (hs'.map (·.1)) (hlook h) (hs'.map (·.1)) [] fun h2=>h2=hs'∧forceS (fun ds=>pack ds=d) (ress (hs'.map (·.1)) (hlook h) vs) []
def retH (results:List DRes) (d:DV) (hs':Heap):DExit→SP
 |.exit _,_,_=>False
 |.normal,t,h=>outsH results d hs' t h
 |.ret,t,h=>outsH results d hs' t h
def retQ (results:List DRes) (d:DV):DExit→SP
 |.exit _,_,_=>False
 |.normal,t,h=>outs results d t h
 |.ret,t,h=>outs results d t h
def params:List DV→Nat→Tmps
 |[],_=>[]
 |d :: r,i=>(i,d) :: params r (i+1)
end Sh

/- From the model's code to the shadow code: a check by computation. -/
namespace Sh
open Go
structure Ann where
 loops:List (Nat×Keep)
 blocks:List (Nat×Keep)
 imm:List Nat
 deriving Inhabited
def assoc {α:Type}:List (Nat×α)→Nat→Option α
 |[],_=>none
 |(k,v) :: r,i=>bif Nat.beq k i then some v else assoc r i
section
variable (P:Program)
def isAggT (t:TypeId):Option Bool :=
 match P.underlying t with
 |some (.struct _)=>some true
 |some (.array _ _)=>some true
 |some _=>some false
 |none=>none
def sizeT (t:TypeId):Option Nat:=(P.info? t).map (·.size)
def zeroT (t:TypeId):Option Value:=(P.info? t).bind (·.zero)
def bytesOk (t:TypeId):Bool:=match P.info? t with
 |some i=>Nat.ble i.bytes 65536
 |none=>false
def shapeFs (g:TypeId→Option (List Nat)):List Field→Nat→Option (List Nat)
 |[],_=>some []
 |f :: r,off=>match g f.type,sizeT P f.type,isAggT P f.type,shapeFs g r (off+(sizeT P f.type).getD 0) with
  |some s,some sz,some agg,some q=>bif (f.name != "_") && Nat.beq f.offset off && Nat.beq s.length sz && (agg || Nat.beq sz 1) then some (s++q) else none
  |_,_,_,_=>none
def shapeT:Nat→TypeId→Option (List Nat)
 |0,_=>none
 |n+1,t=>match P.underlying t with
  |some .bool=>some [0]
  |some (.int _)=>some [1]
  |some .string=>some [2]
  |some (.struct fs)=>bif P.stoodInHeld t then none else shapeFs P (shapeT n) fs.toList 0
  |some (.array k e)=>match shapeT n e,sizeT P e,isAggT P e with
   |some s,some sz,some agg=>bif Nat.beq s.length sz && (agg || Nat.beq sz 1) then some (List.replicate k s).flatten else none
   |_,_,_=>none
  |_=>none
def mapO {α β:Type} (f:α→Option β):List α→Option (List β)
 |[]=>some []
 |a :: r=>match f a,mapO f r with
  |some b,some s=>some (b :: s)
  |_,_=>none
def fieldOf (s:TypeId) (f:Nat):Option (Nat×Nat×Bool) :=
 match P.underlying s with
 |some (.struct fs)=>match fs[f]? with
  |some f=>match sizeT P f.type,isAggT P f.type with
   |some sz,some agg=>bif Nat.beq sz 0 || (!agg && !Nat.beq sz 1) then none else some (f.offset,sz,agg)
   |_,_=>none
  |none=>none
 |_=>none
def buildPart (t:TypeId) (p:Nat×Operand):Option (Nat×Nat×Operand) :=
 match P.underlying t with
 |some (.struct fs)=>match fs[p.1]? with
  |some f=>match sizeT P f.type with
   |some sz=>some (f.offset,sz,p.2)
   |none=>none
  |none=>none
 |some (.array _ e)=>match sizeT P e with
  |some sz=>some (p.1 * sz,sz,p.2)
  |none=>none
 |_=>none
def buildOk (t:TypeId):Bool :=
 match P.underlying t with
 |some (.struct fs)=>fs.toList.all fun f=>(sizeT P f.type).isSome
 |some (.array _ e)=>(sizeT P e).isSome
 |_=>false
def elemT (e:TypeId):Option (Nat×Bool) :=
 match sizeT P e,isAggT P e with
 |some sz,some agg=>bif Nat.beq sz 0 || (!agg && !Nat.beq sz 1) || !bytesOk P e then none else some (sz,agg)
 |_,_=>none
def cBuiltin (imm:Bool) (b:Builtin) (args:List Operand) (ts:List TypeId):Option DOp :=
 match b,args,ts with
 |.len,[x],[t]=>match P.underlying t with
  |some (.array n _)=>some (.lenC n)
  |some (.slice _)=>some (.len x)
  |some .string=>some (.lenS x)
  |some (.map _ _)=>some (.lenM x)
  |_=>none
 |.cap,[x],[t]=>match P.underlying t with
  |some (.slice _)=>some (.capF x)
  |_=>none
 |.append,[s,x],[t,u]=>match P.underlying t,P.underlying u with
  |some (.slice e),some (.slice _)=>match elemT P e with
   |some (sz,_)=>match zeroT P e with
    |some z=>bif Nat.beq z.cells.size sz then some (.append imm sz s x) else none
    |none=>none
   |none=>none
  |some (.slice e),some (.int _)=>match elemT P e with
   |some (sz,_)=>match zeroT P e with
    |some z=>bif Nat.beq z.cells.size sz then some (.appendZ sz (ofValue z) s x) else none
    |none=>none
   |none=>none
  |_,_=>none
 |.copy,[d,x],[t,u]=>match P.underlying t,P.underlying u with
  |some (.slice e),some (.slice _)=>match elemT P e with
   |some (sz,_)=>some (.copy sz d x)
   |none=>none
  |_,_=>none
 |.clear,[x],[t]=>match P.underlying t with
  |some (.slice e)=>match elemT P e with
   |some (sz,_)=>match zeroT P e with
    |some z=>bif Nat.beq z.cells.size sz then some (.clear sz (ofValue z) x) else none
    |none=>none
   |none=>none
  |_=>none
 |.min,x :: r,_=>some (.minmax false x r)
 |.max,x :: r,_=>some (.minmax true x r)
 |_,_,_=>none
def plainT (t:TypeId):Bool :=
 match P.underlying t with
 |some .bool|some (.int _)|some .string=>true
 |_=>false
def keyT (k:TypeId):Option (Nat×List Nat) :=
 match P.underlying k with
 |some .bool=>some (0,[])
 |some (.int _)=>some (1,[])
 |some .string=>some (2,[])
 |some (.struct fs)=>match shapeT P 20 k,isAggT P k with
  |some ks,some true=>bif fs.toList.all (fun f=>plainT P f.type) then some (3,ks) else none
  |_,_=>none
 |_=>none
def mapT (t:TypeId):Option (TypeId×TypeId×Nat×List Nat) :=
 match P.underlying t with
 |some (.map k e)=>match keyT P k with
  |some (kk,ks)=>some (k,e,kk,ks)
  |none=>none
 |_=>none
def cEq (neg:Bool) (t:TypeId) (x y:Operand):Option DOp :=
 match shapeT P 20 t with
 |some ks=>bif !P.eqGuardType P.depth t then some (.eqA neg ks x y) else none
 |none=>none
def isNilC:Operand→Bool
 |.const (.slice none 0 0)=>true
 |_=>false
theorem isNilC_eq {y:Operand} (h:isNilC y=true):y=.const (.slice none 0 0):=by
 unfold isNilC at h
 split at h
 ·rfl
 ·cases h
def isEql:BinOp→Bool
 |.eql=>true
 |_=>false
theorem isEql_eq {op:BinOp} (h:isEql op=true):op=.eql:=by cases op<;>first|rfl|cases h
def cNil (op:BinOp) (x y:Operand):Option DOp:=bif isEql op && isNilC y then some (.eqNil false x) else none
def cBin (op:BinOp) (t:TypeId) (x y:Operand):Option DOp :=
 match P.underlying t with
 |some (.int _)=>some (.bin op x y)
 |some .string=>some (.bin op x y)
 |some (.float _)=>some (.bin op x y)
 |some .bool=>match op with
  |.eql=>some (.eqB false x y)
  |.neq=>some (.eqB true x y)
  |_=>none
 |some (.struct _)=>match op with
  |.eql=>cEq P false t x y
  |.neq=>cEq P true t x y
  |_=>none
 |some (.array _ _)=>match op with
  |.eql=>cEq P false t x y
  |.neq=>cEq P true t x y
  |_=>none
 |some (.slice _)=>cNil op x y
 |_=>none
def slotsT:Nat→TypeId→Nat→List (Nat×Nat)
 |0,_,_=>[]
 |n+1,e,off=>match P.underlying e with
  |some (.slice el)=>match elemT P el with
   |some (sz,_)=>[(off,sz)]
   |none=>[]
  |some (.struct fs)=>(fs.toList.foldl (fun (r:List (Nat×Nat)×Nat) f=>(r.1++slotsT n f.type r.2,r.2+(match sizeT P f.type with|some k=>k|none=>0))) ([],off)).1
  |_=>[]
def cOp (imm:Bool) (o:Op):Option DOp :=
 match o with
 |.move x=>some (.mov x)
 |.assign x=>some (.mov x)
 |.pick c a b=>some (.pick c a b)
 |.alloc e=>match zeroT P e,elemT P e with
  |some z,some (sz,_)=>bif imm then some (.allocO (ofZero z) sz (slotsT P 3 e 0)) else (bif Nat.blt sz 1000000 then some (.alloc (ofZero z) (szZero e sz z)) else none)
  |_,_=>none
 |.box e x=>match elemT P e with
  |some (sz,_)=>bif imm then some (.boxI sz x) else some (.box sz x)
  |_=>none
 |.build t parts=>match zeroT P t,mapO (buildPart P t) parts.toList with
  |some (.agg z),some ps=>bif buildOk P t then some (.build (z.toList.map ofCell) ps) else none
  |_,_=>none
 |.buildSlice t len parts=>match P.underlying t with
  |some (.slice e)=>match elemT P e,zeroT P e with
   |some (sz,_),some z=>bif Nat.ble (len * sz) 16777216 && Nat.beq z.cells.size sz && okE sz (ofValue z) && parts.toList.all (fun p=>Nat.blt p.1 len) then some (.lit imm sz len (ofValue z) parts.toList) else none
   |_,_=>none
  |_=>none
 |.load t a=>match elemT P t with
  |some (sz,agg)=>some (.load (bif agg then some sz else none) a)
  |none=>none
 |.store t a x=>match elemT P t with
  |some (sz,_)=>some (.store sz a x)
  |none=>none
 |.nilCheck x=>some (.nilCheck x)
 |.binOp op t x y _=>cBin P op t x y
 |.unOp op _ x=>some (.un op x)
 |.convert s d x=>match P.underlying s,P.underlying d with
  |some (.int _),some (.int k)=>some (.conv k x)
  |some (.int j),some (.float k)=>some (.itof j k x)
  |some (.float j),some (.int k)=>some (.ftoi j k x)
  |some (.float j),some (.float k)=>some (.fconv j k x)
  |some .string,some .string=>some (.same x)
  |some (.slice e),some .string=>match P.underlying e with
   |some (.int .u8)=>some (.strOf x)
   |_=>none
  |_,_=>none
 |.makeFunc (.func f) first caps=>bif first.isEmpty then some (.mkfunc f caps.toList) else bif caps.isEmpty then some (.mkmeth f first.toList) else none
 |.slice t x lo hi mx=>match P.underlying t with
  |some .string=>match mx with
   |none=>some (.sliceS x lo hi)
   |_=>none
  |some (.slice e)=>match elemT P e with
   |some (sz,_)=>bif imm then (match mx with
     |none=>some (.sliceW sz x lo hi)
     |some _=>none) else some (.slice sz x lo hi mx)
   |none=>none
  |some (.array n e)=>match elemT P e,lo,hi,mx with
   |some (sz,agg),none,none,none=>some (.sliceA n sz agg x)
   |some (sz,agg),none,some y,none=>some (.sliceH n sz agg x y)
   |_,_,_,_=>none
  |_=>none
 |.fieldAddr s x f=>match fieldOf P s f with
  |some (off,sz,agg)=>some (.faddr off sz agg x)
  |none=>none
 |.field s x f=>match fieldOf P s f with
  |some (off,sz,agg)=>some (.field off sz agg x)
  |none=>none
 |.indexAddr t x i=>match P.underlying t with
  |some (.slice e)=>match elemT P e with
   |some (sz,_)=>some (.iaddr sz x i)
   |none=>none
  |some (.array n e)=>match elemT P e with
   |some (sz,agg)=>some (.iaddrA n sz agg x i)
   |none=>none
  |_=>none
 |.index t x i=>match P.underlying t with
  |some .string=>some (.indexS x i)
  |some (.array n e)=>match elemT P e with
   |some (sz,agg)=>some (.indexA n sz agg x i)
   |none=>none
  |_=>none
 |.extract x i=>some (.extract x i)
 |.makeMap _ r=>match r with
  |none=>some .makemap
  |some _=>none
 |.mapUpdate t m k v=>match mapT P t with
  |some (_,_,kk,ks)=>some (.mapset kk ks m k v)
  |none=>none
 |.insert t m k v=>match mapT P t with
  |some (_,_,kk,ks)=>some (.mapset kk ks m k v)
  |none=>none
 |.lookup t m k ok=>match mapT P t with
  |some (_,e,kk,ks)=>match zeroT P e with
   |some z=>some (.lookup kk ks ok (ofValue z) m k)
   |none=>none
  |none=>none
 |.mapEntry t m k=>match mapT P t with
  |some (_,e,kk,ks)=>match zeroT P e with
   |some z=>some (.mapentry kk ks (ofValue z) m k)
   |none=>none
  |none=>none
 |.entryStore _ m s v=>some (.entrystore m s v)
 |.range t x=>match P.underlying t with
  |some .string=>some (.rangeS x)
  |_=>none
 |.next x is=>match is with
  |true=>some (.nextS x)
  |false=>none
 |.call c=>match c.callee with
  |.value f=>some (.call f c.args.toList)
  |.builtin b=>cBuiltin P imm b c.args.toList c.argTypes.toList
  |_=>none
 |.makeSlice t l c=>match P.underlying t with
  |some (.slice e)=>match elemT P e,zeroT P e with
   |some (sz,_),some z=>bif Nat.beq z.cells.size sz then some (.mkslice sz (ofValue z) l c) else none
   |_,_=>none
  |_=>none
 |.panic _=>some .bad
 |.makeInterface _ _=>some .bad
 |_=>none
def cEmp (o:Op):Option DOp :=
 match o with
 |.call c=>match c.callee,c.args.toList,c.argTypes.toList with
  |.builtin .append,[s,x],[t,u]=>match P.underlying t,P.underlying u with
   |some (.slice e),some (.slice _)=>match elemT P e with
    |some (sz,_)=>some (.appendE sz s x)
    |none=>none
   |_,_=>none
  |_,_,_=>none
 |_=>none
def cX (k:Nat) (o:Op):Option DOp :=
 match k with
 |0=>cEmp P o
 |1=>match o with
  |.buildSlice t len parts=>match P.underlying t with
   |some (.slice e)=>match elemT P e,zeroT P e with
    |some (sz,_),some z=>bif Nat.ble (len * sz) 16777216 && Nat.beq z.cells.size sz && okE sz (ofValue z) && parts.toList.all (fun p=>Nat.blt p.1 len) then some (.litV sz len (ofValue z) parts.toList) else none
    |_,_=>none
   |_=>none
  |_=>none
 |2=>match o with
  |.makeSlice t l c=>match P.underlying t with
   |some (.slice e)=>match P.underlying e,elemT P e,zeroT P e with
    |some (.slice el),some (1,false),some (.slice none 0 0)=>match elemT P el with
     |some (sz,_)=>some (.mksliceN sz l c)
     |none=>none
    |_,_,_=>none
   |_=>none
  |_=>none
 |3=>none
 |m+4=>match o with
  |.call c=>match c.callee,c.args.toList,c.argTypes.toList with
   |.builtin .append,[s,x],[t,u]=>match P.underlying t,P.underlying u with
    |some (.slice e),some (.slice _)=>match elemT P e with
     |some (sz,_)=>match zeroT P e with
      |some z=>bif Nat.beq z.cells.size sz then some (.appendN m sz s x) else none
      |none=>none
     |none=>none
    |_,_=>none
   |_,_,_=>none
  |_=>none
def findN (d:Nat):List Nat→Option Nat
 |[]=>none
 |x :: r=>bif Nat.beq (x / 1000000) (1000000+d) then some (x % 1000000+4) else findN d r
def xKind (imm:List Nat) (d:Nat):Option Nat :=
 bif memB (d+1000000) imm then some 0 else bif memB (d+2000000) imm then some 1 else bif memB (d+3000000) imm then some 2 else bif memB (d+4000000) imm then some 3 else findN d imm
def cAny (imm:List Nat) (o:Oper):Option DOp :=
 match (match o.dst with|some d=>xKind imm d|none=>none) with
 |some k=>cX P k o.op
 |none=>cOp P (match o.dst with|some d=>memB d imm|none=>false) o.op
def insertN (n:Nat) (l:List Nat):List Nat:=bif memB n l then l else l++[n]
def unionN (a b:List Nat):List Nat:=b.foldl (fun s n=>insertN n s) a
def befOf (o:Oper) (befs:List (List Nat)):List Nat :=
 (o.after.toList.filter (Region.binds .any ·)).foldl (fun s e=>unionN (insertN e.on s) (befs.getD e.on [])) []
def edgesBack (o:Oper) (i:Nat):Bool:=(o.after.toList.filter (Region.binds .any ·)).all fun e=>Nat.blt e.on i
def cGuard (ops:Array Oper) (o:Oper):Option (Option (Nat×Bool)) :=
 match o.guard with
 |none=>some none
 |some (j,want)=>match ops[j]? with
  |some oj=>match oj.dst with
   |some d=>some (some (d,want))
   |none=>none
  |none=>none
def cOpers (ann:Ann) (ntmps:Nat) (ops:Array Oper):List Oper→Nat→List (List Nat)→Option (List DOper)
 |[],_,_=>some []
 |o :: r,i,befs =>
  match cAny P ann.imm o,cGuard ops o,cOpers ann ntmps ops r (i+1) (befs++[befOf o befs]) with
  |some op,some g,some r=>bif edgesBack o i && (match o.dst with|some d=>Nat.blt d ntmps|none=>true) then some (⟨o.dst,op,g,befOf o befs⟩ :: r) else none
  |_,_,_=>none
def looksOf (o:DOper):List Nat :=
 (operandsOf o.op).filterMap (fun|.tmp t=>some t|_=>none)++(match o.guard with|some (g,_)=>[g]|none=>[])
def statPair (a:DOper) (i:Nat) (b:DOper):Bool :=
 memB i b.bef ||
 ((match a.dst with|some d=>!memB d (looksOf b)|none=>true) &&
  (match b.dst with|some d=>!memB d (looksOf a)|none=>true) &&
  (match a.dst,b.dst with|some d,some e=>!Nat.beq d e|_,_=>true))
def statFrom (b:DOper):List DOper→Nat→Bool
 |[],_=>true
 |a :: r,i=>statPair a i b && statFrom b r (i+1)
def statAll:List DOper→List DOper→Bool
 |_,[]=>true
 |pre,b :: r=>statFrom b pre 0 && statAll (pre++[b]) r
def keepsAll (ns:List Nat):DC→Bool
 |.seq a b=>keepsAll ns a && keepsAll ns b
 |.cond _ a b=>keepsAll ns a && keepsAll ns b
 |.block _ k a=>(match k with|none=>true|some k=>ns.all (memB · k.kh)) && keepsAll ns a
 |.loop k b=>ns.all (memB · k.kh) && keepsAll ns b
 |.rangeF k _ _ a b=>ns.all (memB · k.kh) && (keepsAll ns a && keepsAll ns b)
 |_=>true
def noRange:DC→Bool
 |.seq a b=>noRange a && noRange b
 |.cond _ a b=>noRange a && noRange b
 |.block _ _ a=>noRange a
 |.loop _ b=>noRange b
 |.rangeF ..=>false
 |_=>true
def clrB (o:DOper):DOper:=⟨o.dst,o.op,o.guard,[]⟩
def cCode (ann:Ann) (ntmps:Nat):(blk:Nat)→Code→Option DC
 |_,.skip=>some .skip
 |_,.region _ ops draw=>match cOpers P ann ntmps ops ops.toList 0 [] with
  |some l=>bif !draw || statAll [] l then some (.ops draw (bif draw then l else l.map clrB)) else none
  |none=>none
 |b,.seq x y=>match cCode ann ntmps b x,cCode ann ntmps b y with
  |some x,some y=>some (.seq x y)
  |_,_=>none
 |b,.cond c x y=>match cCode ann ntmps b x,cCode ann ntmps b y with
  |some x,some y=>some (.cond c x y)
  |_,_=>none
 |_,.block id x=>match cCode ann ntmps id x with
  |some x=>some (.block id (assoc ann.blocks id) x)
  |none=>none
 |b,.loop x=>match cCode ann ntmps b x with
  |some x=>some (.loop ((assoc ann.loops b).getD default) x)
  |none=>none
 |b,.scope x=>cCode ann ntmps b x
 |_,.label _=>some .skip
 |_,.exit id=>some (.exit id)
 |_,.ret=>some .ret
 |b,.rangeFunc f ps x y=>match cCode ann ntmps b x,cCode ann ntmps b y with
  |some x,some y=>bif keepsAll ((assoc ann.loops b).getD default).kh x && keepsAll ((assoc ann.loops b).getD default).kh y && (noRange x && noRange y) && ps.toList.all (Nat.blt · ntmps) then some (.rangeF ((assoc ann.loops b).getD default) f ps.toList x y) else none
  |_,_=>none
 |_,_=>none
structure DFunc where
 ntmps:Nat
 nargs:Nat
 results:List DRes
 body:DC
 deriving Inhabited
def resultsOf:List ResultVar→Option (List DRes)
 |[]=>some []
 |.tmp t :: r=>match resultsOf r with
  |some l=>some (.tmp t :: l)
  |none=>none
 |.cell a t :: r=>match elemT P t,resultsOf r with
  |some (sz,agg),some l=>some (.cell a (bif agg then some sz else none) :: l)
  |_,_=>none
def cFunc (ann:Ann) (fn:Func):Option DFunc :=
 match fn.body,resultsOf P fn.results.toList with
 |some c,some rs=>match cCode P ann fn.ntmps 0 c with
  |some d=>bif P.follows .mixedOrders && !(fn.name == "runtime.NumGoroutine") && Nat.ble (fn.params.size+fn.nfree) fn.ntmps then some ⟨fn.ntmps,fn.params.size+fn.nfree,rs,d⟩ else none
  |none=>none
 |_,_=>none
def cProg (ann:Ann) (f:FuncId):Option DFunc :=
 match P.funcs[f]? with
 |some fn=>cFunc P ann fn
 |none=>none
end
end Sh

/- Rules for proofs over the shadow semantics. -/
namespace Sh
open Go
variable {P:Program} {G:Nat→Option DV}
theorem pre_mono {p:Option Prop} {N N':Prop} (h:N→N') (hs:pre p N):pre p N':=by
 cases p with
 |none=>exact h hs
 |some p=>exact ⟨hs.1,h hs.2⟩
theorem force_mono {k k':DV→Prop} (h:∀ d,k d→k' d) {d:DV} (hs:force k d):force k' d:=by
 rw [force_eq] at *;exact h _ hs
theorem forceU_mono {k k':Heap→Prop} (h:∀ d,k d→k' d):∀ {u a:Heap},forceU k u a→forceU k' u a
 |[],_,hs=>h _ hs
 |(n,.box sz d) :: r,_,hs=>force_mono (fun _=>forceU_mono h) hs
 |(n,.row _ _ _) :: r,_,hs=>forceU_mono (u:=r) h hs
 |(n,.fbox _ _) :: r,_,hs=>forceU_mono (u:=r) h hs
 |(n,.dict _) :: r,_,hs=>forceU_mono (u:=r) h hs
 |(n,.siter _ _) :: r,_,hs=>forceU_mono (u:=r) h hs
 |(n,.ghost _ _ _) :: r,_,hs=>forceU_mono (u:=r) h hs
 |(n,.nrow ..) :: r,_,hs=>forceU_mono (u:=r) h hs
theorem putK_mono {dst:Option Nat} {d:DV} {t:Tmps} {k k':Tmps→Prop} (h:∀ t,k t→k' t) (hs:putK dst d t k):putK dst d t k':=by
 unfold putK at *
 cases dst with
 |none=>exact h _ hs
 |some n=>exact force_mono (fun _=>h _) hs
theorem forceS_mono {k k':List DV→Prop} (h:∀ l,k l→k' l) {l acc:List DV} (hs:forceS k l acc):forceS k' l acc:=by
 rw [forceS_eq] at *;exact h _ hs
theorem putD_mono {deep:Bool} {dst:Option Nat} {d:DV} {t:Tmps} {k k':Tmps→Prop} (h:∀ t,k t→k' t) (hs:putD deep dst d t k):putD deep dst d t k':=by
 cases deep with
 |false=>exact putK_mono h hs
 |true =>
  simp only [putD,cond_true,force_eq] at hs ⊢
  cases d with
  |agg cs=>exact forceS_mono (fun _=>putK_mono h) hs
  |full es=>exact forceS_mono (fun _=>putK_mono h) hs
  |_=>exact putK_mono h hs
theorem freezeK_mono {k k':Heap→Prop} (h:∀ d,k d→k' d) {ns:List Nat} {s:Heap} (hs:freezeK ns s k):freezeK ns s k':=by
 rw [freezeK_eq] at *;exact h _ hs
theorem stepWp_mono {o:DOper} {N N':SP} (h:∀ t s,N t s→N' t s) {t:Tmps} {s:Heap} (hs:stepWp P G o N t s):stepWp P G o N' t s:=by
 unfold stepWp at *
 split
 ·rename_i he;rw [he] at hs;exact hs
 ·rename_i he;rw [he] at hs;exact pre_mono (putD_mono fun _=>forceU_mono fun _=>h _ _) hs
 ·rename_i he;rw [he] at hs;exact pre_mono (putD_mono fun _=>freezeK_mono fun _=>forceU_mono fun _=>h _ _) hs
 ·rename_i he;rw [he] at hs
  simp only at hs
  rcases hs with hs|⟨π,ds,hs',d,hs'',h1,h2,h3⟩
  ·refine .inl ?_
   split
   ·rename_i hp;rw [hp] at hs;exact hs
   ·rename_i hp;rw [hp] at hs
    refine pre_mono (fun ⟨d,h2,h3⟩=>⟨d,h2,putK_mono (fun t' h4=>?_) h3⟩) hs
    revert h4;cases flatB d
    ·exact freezeK_mono fun _=>h _ _
    ·exact h _ _
  ·exact .inr ⟨π,ds,hs',d,hs'',h1,h2,putK_mono (fun _=>forceU_mono fun _=>h _ _) h3⟩
 ·rename_i he;rw [he] at hs;exact hs
theorem opsWp_mono {Q Q':SP} (h:∀ t s,Q t s→Q' t s):∀ {l:List DOper} {K:List Nat} {t:Tmps} {s:Heap},opsWp P G l K Q t s→opsWp P G l K Q' t s
 |[],_,_,_,hs=>h _ _ hs
 |o :: r,K,t,s,hs=>by
  unfold opsWp at *
  split
  ·rename_i hg;rw [hg] at hs;exact stepWp_mono (fun _ _=>opsWp_mono h) hs
  ·rename_i hg;rw [hg] at hs;simp only at hs
   split
   ·rename_i hb;rw [hb] at hs;exact onG_mono (stepWp_mono (fun _ _=>opsWp_mono h)) (putK_mono (fun _=>opsWp_mono h)) hs
   ·rename_i hb;rw [hb] at hs;exact putK_mono (fun _=>opsWp_mono h) hs
   ·rename_i h1 h2;split at hs
    ·exact absurd ‹_› (h1 _)
    ·exact absurd ‹_› h2
    ·exact hs
theorem drawRun_mono {o:DOper} {fs:List Foot} {N N':List Foot→SP} (h:∀ fs t s,N fs t s→N' fs t s) {t:Tmps} {s:Heap} (hs:drawRun P G o fs N t s):drawRun P G o fs N' t s:=by
 unfold drawRun at *
 split
 ·rename_i he;rw [he] at hs;exact hs
 ·rename_i he;rw [he] at hs;exact pre_mono (putD_mono fun _=>forceU_mono fun _=>h _ _ _) hs
 ·rename_i he;rw [he] at hs;exact pre_mono (putD_mono fun _=>freezeK_mono fun _=>forceU_mono fun _=>h _ _ _) hs
 ·rename_i he;rw [he] at hs
  simp only at hs
  rcases hs with hs|⟨π,ds,hs',d,hs'',h1,h2,h3⟩
  ·refine .inl ?_
   split
   ·rename_i hp;rw [hp] at hs;exact hs
   ·rename_i hp;rw [hp] at hs
    refine pre_mono (fun ⟨d,h2,h3⟩=>⟨d,h2,putK_mono (fun t' h4=>?_) h3⟩) hs
    revert h4;cases flatB d
    ·exact freezeK_mono fun _=>h _ _ _
    ·exact h _ _ _
  ·exact .inr ⟨π,ds,hs',d,hs'',h1,h2,putK_mono (fun _=>forceU_mono fun _=>h _ _ _) h3⟩
 ·rename_i he;rw [he] at hs;exact hs
theorem drawWp_mono {Q Q':SP} (h:∀ t s,Q t s→Q' t s):∀ {l:List DOper} {K:List Nat} {fs:List Foot} {t:Tmps} {s:Heap},drawWp P G l K fs Q t s→drawWp P G l K fs Q' t s
 |[],_,_,_,_,hs=>⟨hs.1,h _ _ hs.2⟩
 |o :: r,K,fs,t,s,hs=>by
  unfold drawWp at *
  split
  ·rename_i hg;rw [hg] at hs;exact drawRun_mono (fun _ _ _=>drawWp_mono h) hs
  ·rename_i hg;rw [hg] at hs;simp only at hs
   split
   ·rename_i hb;rw [hb] at hs;exact onG_mono (drawRun_mono (fun _ _ _=>drawWp_mono h)) (putK_mono (fun _=>drawWp_mono h)) hs
   ·rename_i hb;rw [hb] at hs;exact putK_mono (fun _=>drawWp_mono h) hs
   ·rename_i h1 h2;split at hs
    ·exact absurd ‹_› (h1 _)
    ·exact absurd ‹_› h2
    ·exact hs
theorem seqQ_mono {N N':SP} {Q Q':DExit→SP} (h:∀ t s,N t s→N' t s) (h':∀ e t s,Q e t s→Q' e t s):∀ e t s,seqQ N Q e t s→seqQ N' Q' e t s
 |.normal,_,_,hs=>h _ _ hs
 |.exit _,_,_,hs=>h' _ _ _ hs
 |.ret,_,_,hs=>h' _ _ _ hs
theorem keepK_mono {k:Option Keep} {t:Tmps} {s:Heap} {N N':SP} (h:∀ t s,N t s→N' t s) (hs:keepK k t s N):keepK k t s N':=by
 cases k with
 |none=>exact h _ _ hs
 |some k=>simp only [keepK,keepTK_eq,keepHK_eq] at *;exact ⟨hs.1,h _ _ hs.2⟩
theorem enterK_mono {N N':SP} (h:∀ t s,N t s→N' t s):∀ {l:List (Nat×Nat)} {t:Tmps} {s:Heap},enterK l t s N→enterK l t s N'
 |[],_,_,hs=>h _ _ hs
 |(i,sz) :: r,t,s,hs=>by
  unfold enterK at *
  split
  ·rename_i ht;rw [ht] at hs;simp only at hs
   split
   ·rename_i hh;rw [hh] at hs;revert hs;cases rowOk sz
    ·exact id
    ·exact enterK_mono h
   ·rename_i hh;rw [hh] at hs;exact enterK_mono h hs
  ·rename_i ht;split at hs
   ·exact absurd ‹_› ht
   ·exact enterK_mono h hs
theorem loopN_mono {b b':(DExit→SP)→SP} {k:Keep} {Q Q':DExit→SP} (hb:∀ (R R':DExit→SP) t s,(∀ e t s,R e t s→R' e t s)→b R t s→b' R' t s) (h:∀ e t s,Q e t s→Q' e t s) :
  ∀ n t s,loopN b k Q n t s→loopN b' k Q' n t s
 |0,_,_,hs=>hs
 |n+1,_,_,hs=>hb _ _ _ _ (seqQ_mono (fun _ _ hh=>⟨hh.1,loopN_mono hb h n _ _ hh.2⟩) h) hs
theorem roundsN_mono {b:(DExit→SP)→SP} {kh ps:List Nat} {Q Q':DExit→SP} {t:Tmps} (hb:∀ (R R':DExit→SP) (t:Tmps) (s:Heap),(∀ e t s,R e t s→R' e t s)→b R t s→b R' t s) (h:∀ e t s,Q e t s→Q' e t s) :
  ∀ (xs:List (List DV)) (s:Heap),roundsN b kh ps Q t xs s→roundsN b kh ps Q' t xs s
 |[],s,hs=>h _ _ _ hs
 |x :: r,s,hs=>by
  unfold roundsN at *
  refine hb _ _ _ _ (fun e t' s' hh=>⟨hh.1,?_⟩) hs
  cases e with
  |normal=>exact roundsN_mono hb h r _ hh.2
  |ret=>exact h _ _ _ hh.2
  |exit i=>exact h _ _ _ hh.2
theorem dwp_mono:∀ {c:DC} {Q Q':DExit→SP} {t:Tmps} {s:Heap},(∀ e t s,Q e t s→Q' e t s)→dwp P G c Q t s→dwp P G c Q' t s
 |.skip,_,_,_,_,h,hs=>h _ _ _ hs
 |.ops false _,_,_,_,_,h,hs=>opsWp_mono (h _) hs
 |.ops true _,_,_,_,_,h,hs=>drawWp_mono (h _) hs
 |.seq a b,Q,Q',t,s,h,hs=>by
  unfold dwp at *
  exact dwp_mono (seqQ_mono (fun _ _ hh=>dwp_mono h hh) h) hs
 |.cond c a b,Q,Q',t,s,h,hs=>by
  unfold dwp at *
  split
  ·rename_i hc;rw [hc] at hs;exact ⟨fun e=>dwp_mono h (hs.1 e),fun e=>dwp_mono h (hs.2 e)⟩
  ·rename_i hc;rw [hc] at hs;exact ⟨dwp_mono h hs.1,dwp_mono h hs.2⟩
  ·rename_i hc hc2;split at hs
   ·exact absurd ‹_› (hc _)
   ·exact absurd ‹_› hc2
   ·exact hs
 |.block id k a,Q,Q',t,s,h,hs=>by
  unfold dwp at *
  refine dwp_mono (fun e t' s' hh=>?_) hs
  cases e with
  |normal=>exact keepK_mono (h _) hh
  |ret=>exact h _ _ _ hh
  |exit i =>
   simp only [blockQ] at *
   cases hb:Nat.beq i id
   ·simp only [hb,cond_false] at hh ⊢;exact h _ _ _ hh
   ·simp only [hb,cond_true] at hh ⊢;exact keepK_mono (h _) hh
 |.loop k b,Q,Q',t,s,h,hs=>by
  unfold dwp loopWp at *
  exact enterK_mono (fun _ _ ⟨hb,n,hn⟩=>⟨hb,n,loopN_mono (b:=dwp P G b) (b':=dwp P G b) (fun R R' t s hr hb=>dwp_mono hr hb) h n _ _ hn⟩) hs
 |.rangeF k f ps x y,Q,Q',t,s,h,hs=>by
  unfold dwp rangeWp at *
  split
  ·rename_i g caps hf
   rw [hf] at hs
   simp only at hs
   have key:∀ (xs:List (List DV)) (t1:Tmps) (h1:Heap),roundsN (fun R=>dwp P G x (seqQ (dwp P G y R) (fun _ _ _=>False))) k.kh ps Q t1 xs h1→roundsN (fun R=>dwp P G x (seqQ (dwp P G y R) (fun _ _ _=>False))) k.kh ps Q' t1 xs h1:=fun xs t1 h1 h5 =>
    roundsN_mono (b:=fun R=>dwp P G x (seqQ (dwp P G y R) (fun _ _ _=>False))) (fun R R' t s hr hb=>dwp_mono (fun e t s hh=>by
     cases e with
     |normal=>exact dwp_mono hr hh
     |ret=>exact hh
     |exit i=>exact hh) hb) h _ _ h5
   rcases hs with hs|⟨n,sz,d,xs,h1,h2,h3,h4,hl,h5⟩
   ·left
    split
    ·rename_i p cs hp
     rw [hp] at hs
     refine pre_mono (fun ⟨xs,h2,h3,h4,hl,h5⟩=>?_) hs
     exact ⟨xs,h2,h3,h4,hl,key _ _ _ h5⟩
    ·rename_i hp;rw [hp] at hs;exact hs
   ·exact .inr ⟨n,sz,d,xs,h1,h2,h3,h4,hl,key _ _ _ h5⟩
  ·rename_i hf;split at hs
   ·exact absurd ‹_› (hf _ _)
   ·exact hs
 |.exit _,_,_,_,_,h,hs=>h _ _ _ hs
 |.ret,_,_,_,_,h,hs=>h _ _ _ hs
theorem dwp_loop {α:Type} (T:α→Tmps) (H:α→Heap) (inv:α→Prop) (μ:α→Nat) {k:Keep} {b:DC} {Q:DExit→SP} {t:Tmps} {s:Heap} (a0:α)
  (h0:enterK k.cv t s fun t' h'=>boxesOk k.kh (hlook h') k.kh=true∧keepT k.kh (hlook h') t' k.kt=T a0∧keepH k.kh (hlook h') k.kh=H a0) (hi:inv a0)
  (step:∀ a,inv a→dwp P G b (seqQ (fun t' h'=>∃ a',boxesOk k.kh (hlook h') k.kh=true∧keepT k.kh (hlook h') t' k.kt=T a'∧keepH k.kh (hlook h') k.kh=H a'∧inv a'∧μ a' < μ a) Q) (T a) (H a)) :
  loopWp (dwp P G b) k Q t s:=by
 unfold loopWp
 have h2:∀ n a,inv a→μ a < n→loopN (dwp P G b) k Q n (T a) (H a):=by
  intro n
  induction n with
  |zero=>intro a _ h;omega
  |succ n ihn =>
   intro a ha hn
   refine dwp_mono (seqQ_mono (fun t' s' hs'=>?_) (fun _ _ _ h=>h)) (step a ha)
   obtain ⟨a',hbx,hk,hk',hi',hlt⟩:=hs'
   rw [hk,hk'];exact ⟨hbx,ihn a' hi' (by omega)⟩
 refine enterK_mono (fun t' h' hh=>?_) h0
 rw [hh.2.1,hh.2.2]
 exact ⟨hh.1,μ a0+1,h2 _ a0 hi (by omega)⟩
end Sh

/- The relation between the shadow state and the state of the model. -/
namespace Sh
open Go
def MarksOk (B:Base) (w:World) (ds:List Deferred):Prop :=
 (∀ d ∈ ds,∃ D,d={ target:=.collected D,args:=#[] }∧B.lo≤D∧w.heap[D]?=some (.deferred (some [])))∧ds.Pairwise (·≠·)∧(B.nd=true→ds=[])
structure Sim (B:Base) (nt:Nat) (M0:Mem) (w0:World) (M:Mem) (ρ:Locs) (t:Tmps) (h:Heap) (a:Act) (w:World):Prop where
 le:M0.le M
 tm:∀ i,RelV M ρ h (tget t i) (a.tmps.getD i Go.undef)
 mem:M.holds w
 obj:∀ n o,hlook h n=some o→ObjRel B M ρ h w n o
 dis:∀ n m o p b c b' c',n≠m→hlook h n=some o→hlook h m=some p→ρ n=some (b,c)→ρ m=some (b',c')→b≠b'
 dsub:DSub ρ h
 below:B.touch w0 w
 hB:B.lo=w0.heap.size
 new:∀ b o v,M b o=some v→M0 b o=none→B.wr b
 size:a.tmps.size=nt
 marks:MarksOk B w a.defers
 ext:Ext M0 B.ρ0 B.h0 M ρ h
theorem Ext.congr {M:Mem} {ρ:Locs} {h h':Heap} (e:∀ n,hlook h' n=hlook h n):Ext M ρ h M ρ h' :=
 ⟨M.le_refl,fun n sz es fr hl=>⟨sz,es,fr,by rw [e];exact hl,Nat.le_refl _,fun _=>⟨.inl rfl,rfl⟩⟩,fun n o hl hk=>⟨rfl,o,by rw [e];exact hl,like_refl hk⟩,
   fun n sz c isz es pd hl=>.inl ⟨es,pd,by rw [e];exact hl,Nat.le_refl _,fun _=>rfl,fun i hi=>hi,fun i l' _ e=>⟨l',e,Nat.le_refl _,fun _=>rfl⟩⟩⟩
theorem RelV.congr {M:Mem} {ρ:Locs} {h h':Heap} (e:∀ n,hlook h' n=hlook h n) {d:DV} {v:Value} (hr:RelV M ρ h d v):RelV M ρ h' d v :=
 hr.ext (Ext.congr e)
theorem SubAt.congr {ρ:Locs} {h h':Heap} (e:∀ n,hlook h' n=hlook h n) {n i b:Nat} (hs:SubAt ρ h' n i b):SubAt ρ h n i b:=by
 obtain ⟨sz,c,isz,es,pd,l,k,h1,h2⟩:=hs
 exact ⟨sz,c,isz,es,pd,l,k,by rw [← e];exact h1,h2⟩
theorem DSub.congr {ρ:Locs} {h h':Heap} (e:∀ n,hlook h' n=hlook h n) (hd:DSub ρ h):DSub ρ h':=fun n i b hs=>by
 obtain ⟨h1,h2⟩:=hd n i b (hs.congr e)
 exact ⟨fun m o k hm=>h1 m o k (by rw [← e];exact hm),fun m j hm=>h2 m j (hm.congr e)⟩
theorem ObjRel.congr {B:Base} {M:Mem} {ρ:Locs} {h h':Heap} {w:World} {n:Nat} (e:∀ n,hlook h' n=hlook h n) {o:DObj} (ho:ObjRel B M ρ h w n o):ObjRel B M ρ h' w n o:=by
 cases o with
 |row sz es fr=>exact ho
 |box sz d =>
  obtain ⟨b,c,h1,h2,cs,t,h3,h4,h5,h6,h7⟩:=ho
  exact ⟨b,c,h1,h2,cs,t,h3,h4,h5,fun i hi=>(h6 i hi).congr e,h7⟩
 |fbox sz d=>exact ho
 |dict _=>exact ho
 |siter _ _=>exact ho
 |ghost _ _ _=>exact ho
 |nrow _ _ _ _ _=>exact ho
theorem Sim.congr {B:Base} {nt:Nat} {M0:Mem} {w0:World} {M:Mem} {ρ:Locs} {t t':Tmps} {h h':Heap} {a:Act} {w:World} (S:Sim B nt M0 w0 M ρ t h a w)
  (et:∀ i,tget t' i=tget t i) (eh:∀ n,hlook h' n=hlook h n):Sim B nt M0 w0 M ρ t' h' a w :=
 {le:=S.le,tm:=fun i=>by rw [et];exact (S.tm i).congr eh,mem:=S.mem,obj:=fun n o hn=>(S.obj n o (by rw [← eh];exact hn)).congr eh,
  dis:=fun n m o p b c b' c' hne h1 h2=>S.dis n m o p b c b' c' hne (by rw [← eh];exact h1) (by rw [← eh];exact h2),
  dsub:=S.dsub.congr eh,
  below:=S.below,hB:=S.hB,new:=S.new,size:=S.size,marks:=S.marks,
  ext:=S.ext.trans (Ext.congr eh) }
theorem natbeq (k i:Nat):Nat.beq k i=decide (k=i):=by
 by_cases e:k=i
 ·subst e;simp
 ·rw [decide_eq_false e]
  cases hb:Nat.beq k i with
  |false=>rfl
  |true=>exact absurd (Nat.eq_of_beq_eq_true hb) e
theorem tget_cons (k:Nat) (d:DV) (t:Tmps) (i:Nat):tget ((k,d) :: t) i=if k=i then d else tget t i:=by
 show (bif Nat.beq k i then d else tget t i)=_
 rw [natbeq]
 by_cases e:k=i<;>simp [e]
theorem hlook_cons (k:Nat) (o:DObj) (h:Heap) (i:Nat):hlook ((k,o) :: h) i=if k=i then some o else hlook h i:=by
 show (bif Nat.beq k i then some o else hlook h i)=_
 rw [natbeq]
 by_cases e:k=i<;>simp [e]
theorem Sim.put {B:Base} {nt:Nat} {M0:Mem} {w0:World} {M:Mem} {ρ:Locs} {t:Tmps} {h:Heap} {a:Act} {w:World} (S:Sim B nt M0 w0 M ρ t h a w) {dst:Option Nat} (hd:∀ k,dst=some k→k < nt)
  {d:DV} {v:Value} (hr:RelV M ρ h d v):Sim B nt M0 w0 M ρ (putO dst d t) h (a.put dst v) w:=by
 cases dst with
 |none=>exact S
 |some k =>
  refine { S with tm:=fun i=>?_,size:=by simpa [Act.put] using S.size,marks:=S.marks }
  simp only [putO,tget_cons,Act.put]
  have hk:k < a.tmps.size:=by rw [S.size];exact hd k rfl
  by_cases e:k=i
  ·subst e;simp [hk,hr,Array.getD_eq_getD_getElem?]
  ·simp only [e,if_false]
   have:(a.tmps.setIfInBounds k v).getD i Go.undef=a.tmps.getD i Go.undef:=by
    simp [Array.getD_eq_getD_getElem?,Array.getElem?_setIfInBounds_ne e]
   rw [this];exact S.tm i
theorem relP_ofCell (M:Mem) (v:Value):RelP M (ofCell v) v:=by
 unfold ofCell
 split
 ·exact .bool _
 ·exact .int _ _
 ·rename_i s
  have:Value.string s=.string ⟨s.data.toList.toArray⟩:=by simp
  rw [this];exact .str _
 ·exact .full [] none 0 0 0 (fun _=>Go.undef) (.inl rfl) (by simp) (by simp [flat]) (by simp [flat])
 ·exact .nilptr
 ·exact .nilfunc
 ·exact .flt _ _
 ·exact .nilmap
 ·rename_i vs
  split
  ·rename_i hv
   have:vs=#[]:=by simpa using hv
   subst this
   exact .tuple [] #[] rfl (by simp)
  ·exact .undef _
 ·exact .undef _
theorem relP_ofValue (M:Mem) (v:Value):RelP M (ofValue v) v:=by
 unfold ofValue
 split
 ·rename_i cs
  refine .agg _ _ (by simp) (fun i hi=>?_)
  simp only [List.length_map,Array.length_toList] at hi
  have h1:(cs.toList.map ofCell).getD i .undef=ofCell cs[i]:=by simp [List.getD_eq_getElem?_getD,hi]
  have h2:cs.getD i Go.undef=cs[i]:=by simp [Array.getD_eq_getD_getElem?,hi]
  rw [h1,h2];exact relP_ofCell M _
 ·exact relP_ofCell M _
theorem relP_ofZero (M:Mem) (v:Value):RelP M (ofZero v) v:=by
 unfold ofZero
 split
 ·rename_i cs
  split
  ·rename_i hv
   have h0:cs=#[.pointer none,.slice none 0 0]:=by
    apply Array.ext'
    simpa using hv
   subst h0
   refine .agg _ _ rfl (fun i hi=>?_)
   match i,hi with
   |0,_=>exact .nilptr
   |1,_=>exact .nilslice
  ·exact relP_ofValue M _
 ·exact relP_ofValue M _
theorem Sim.opd {G:Nat→Option DV} {B:Base} {nt:Nat} {M0:Mem} {w0:World} {M:Mem} {ρ:Locs} {t:Tmps} {h:Heap} {a:Act} {w:World} (hG:GOk G M0) (S:Sim B nt M0 w0 M ρ t h a w) (x:Operand) :
  RelV M ρ h (evalOpd G t x) (a.eval x):=by
 cases x with
 |tmp i=>exact S.tm i
 |const v=>exact .pure (relP_ofValue M v)
 |func f=>exact .pure (.func f [] #[] rfl (by simp))
 |global g =>
  simp only [evalOpd,Act.eval]
  cases hg:G g with
  |none=>exact .pure (.undef _)
  |some d=>exact .pure ((hG g d hg).mono S.le)
end Sh

/- Where objects lie,and what becomes of them when other things turn. -/
namespace Sh
open Go
def DObj.isN:DObj→Bool
 |.nrow ..=>true
 |_=>false
def OnB (ρ:Locs) (n:Nat) (o:DObj) (b:Nat):Prop:=(∃ c,ρ n=some (b,c))∨∃ sz c isz es pd i l k,o=.nrow sz c isz es pd∧curL c es pd i=some l∧ρ.sub n i=some (b,k)
def Occ (ρ:Locs) (h:Heap) (n b:Nat):Prop:=∃ o,hlook h n=some o∧OnB ρ n o b
theorem Occ.main {ρ:Locs} {h:Heap} {n b c:Nat} {o:DObj} (hn:hlook h n=some o) (hρ:ρ n=some (b,c)):Occ ρ h n b:=⟨o,hn,.inl ⟨c,hρ⟩⟩
theorem SubAt.occ {ρ:Locs} {h:Heap} {n i b:Nat} (hs:SubAt ρ h n i b):Occ ρ h n b:=by
 obtain ⟨sz,c,isz,es,pd,l,k,h1,h2,h3⟩:=hs
 exact ⟨_,h1,.inr ⟨sz,c,isz,es,pd,i,l,k,rfl,h2,h3⟩⟩
theorem Occ.cases {ρ:Locs} {h:Heap} {n b:Nat} (hs:Occ ρ h n b):(∃ o c,hlook h n=some o∧ρ n=some (b,c))∨∃ i,SubAt ρ h n i b:=by
 obtain ⟨o,h1,h2⟩:=hs
 rcases h2 with ⟨c,h2⟩|⟨sz,c,isz,es,pd,i,l,k,rfl,h3,h4⟩
 ·exact .inl ⟨o,c,h1,h2⟩
 ·exact .inr ⟨i,sz,c,isz,es,pd,l,k,h1,h3,h4⟩
theorem hlook_cons_of {k n:Nat} {o p:DObj} {h:Heap} (hp:hlook ((k,o) :: h) n=some p):(k=n∧p=o)∨(k≠n∧hlook h n=some p):=by
 rw [hlook_cons] at hp
 by_cases e:k=n
 ·rw [if_pos e] at hp;exact .inl ⟨e,(Option.some.inj hp).symm⟩
 ·rw [if_neg e] at hp;exact .inr ⟨e,hp⟩
theorem SubAt.cons {ρ ρ':Locs} {h:Heap} {k n i b:Nat} {o:DObj} (ho:o.isN=false) (hρ:n≠k→ρ'.sub n=ρ.sub n) (hs:SubAt ρ' ((k,o) :: h) n i b):SubAt ρ h n i b∧n≠k:=by
 obtain ⟨sz,c,isz,es,pd,l,q,h1,h2,h3⟩:=hs
 rcases hlook_cons_of h1 with ⟨rfl,rfl⟩|⟨hne,h1⟩
 ·cases ho
 ·exact ⟨⟨sz,c,isz,es,pd,l,q,h1,h2,by rw [← hρ (Ne.symm hne)];exact h3⟩,Ne.symm hne⟩
theorem DSub.of {ρ ρ':Locs} {h h':Heap} (hd:DSub ρ h) (h1:∀ n i b,SubAt ρ' h' n i b→SubAt ρ h n i b)
  (h2:∀ m o k b,hlook h' m=some o→ρ' m=some (b,k)→(∃ o',hlook h m=some o'∧ρ m=some (b,k))∨∀ n i,¬ SubAt ρ h n i b):DSub ρ' h':=fun n i b hs=>by
 obtain ⟨d1,d2⟩:=hd n i b (h1 n i b hs)
 refine ⟨fun m o k hm e=>?_,fun m j hm=>d2 m j (h1 m j b hm)⟩
 rcases h2 m o k b hm e with ⟨o',q1,q2⟩|q
 ·exact d1 m o' k q1 q2
 ·exact q n i (h1 n i b hs)
theorem DSub.nil (ρ:Locs):DSub ρ []:=fun n i b hs=>by
 obtain ⟨sz,c,isz,es,pd,l,q,h1,_⟩:=hs
 cases h1
theorem DSub.set {ρ:Locs} {h:Heap} {n:Nat} {o o':DObj} (hd:DSub ρ h) (hn:hlook h n=some o') (ho:o.isN=false):DSub ρ ((n,o) :: h) :=
 hd.of (fun m i b hs=>(hs.cons ho (fun _=>rfl)).1) (fun m p k b hm e=>by
  rcases hlook_cons_of hm with ⟨rfl,rfl⟩|⟨hne,h1⟩
  ·exact .inl ⟨o',hn,e⟩
  ·exact .inl ⟨p,h1,e⟩)
section
variable {B B':Base} {M M':Mem} {ρ ρ':Locs} {h h':Heap} {w w':World} {n:Nat} {o:DObj}
theorem ObjRel.turn (ho:ObjRel B M ρ h w n o) (hr:∀ d v,RelV M ρ h d v→RelV M' ρ' h' d v) (hM:M.le M') (hρ:ρ' n=ρ n) (hs:ρ'.sub n=ρ.sub n)
  (hb:∀ b,OnB ρ n o b→(B.wr b→B'.wr b)∧w'.heap[b]?=w.heap[b]?∧((∀ o,M b o=none)→∀ o,M' b o=none)) (hg:B.gh=true→B'.gh=true):ObjRel B' M' ρ' h' w' n o:=by
 cases o with
 |row sz es fr =>
  simp only [ObjRel] at ho ⊢
  rw [hρ]
  cases e:ρ n with
  |none=>rw [e] at ho;exact ho
  |some bc =>
   obtain ⟨b,c⟩:=bc
   rw [e] at ho
   obtain ⟨q1,q2,q3⟩:=hb b (.inl ⟨c,e⟩)
   obtain ⟨h2,cs,ty,h3,h4,h5,h6,h7,h8,h9⟩:=ho
   exact ⟨⟨q1 h2.1,h2.2⟩,cs,ty,h3.heap q2,h4,h5,h6,fun i hi=>(h7 i hi).mono hM,fun e i hi=>hM _ _ _ (h8 e i hi),fun e=>q3 (h9 e)⟩
 |box sz d =>
  obtain ⟨b,c,h1,h2,cs,ty,h3,h4,h5,h6,h7⟩:=ho
  obtain ⟨q1,q2,q3⟩:=hb b (.inl ⟨c,h1⟩)
  exact ⟨b,c,hρ.trans h1,q1 h2,cs,ty,q2.trans h3,h4,h5,fun i hi=>hr _ _ (h6 i hi),q3 h7⟩
 |fbox sz d =>
  obtain ⟨b,c,h1,h2,cs,ty,h3,h4,h5,h6,h7⟩:=ho
  obtain ⟨q1,q2,q3⟩:=hb b (.inl ⟨c,h1⟩)
  exact ⟨b,c,hρ.trans h1,q1 h2,cs,ty,q2.trans h3,h4,h5,fun i hi=>(h6 i hi).mono hM,fun i hi=>hM _ _ _ (h7 i hi)⟩
 |dict es =>
  obtain ⟨b,c,h1,h2,⟨E,h3,h4,h5⟩,h6⟩:=ho
  obtain ⟨q1,q2,q3⟩:=hb b (.inl ⟨c,h1⟩)
  exact ⟨b,c,hρ.trans h1,q1 h2,⟨E,q2.trans h3,h4,fun i e hi=>by obtain ⟨r1,r2,r3⟩:=h5 i e hi;exact ⟨r1,r2.mono hM,r3.mono hM⟩⟩,q3 h6⟩
 |siter s pos =>
  obtain ⟨b,c,h1,h2,h3,h6⟩:=ho
  obtain ⟨q1,q2,q3⟩:=hb b (.inl ⟨c,h1⟩)
  exact ⟨b,c,hρ.trans h1,q1 h2,q2.trans h3,q3 h6⟩
 |ghost _ _ _=>exact ⟨hρ.trans ho.1,hg ho.2⟩
 |nrow sz c isz es pd =>
  obtain ⟨h1,h2,h3⟩:=ho
  refine ⟨h1,fun i l e=>?_,?_⟩
  ·rw [hs]
   have h4:=h2 i l e
   unfold InnerAt at *
   cases e2:ρ.sub n i with
   |none=>rw [e2] at h4;exact h4
   |some bk =>
    obtain ⟨b,k⟩:=bk
    rw [e2] at h4
    obtain ⟨q1,q2,q3⟩:=hb b (.inr ⟨sz,c,isz,es,pd,i,l,k,rfl,e,e2⟩)
    obtain ⟨g1,cs,t,g2,g3,g4,g5,g6,g7⟩:=h4
    exact ⟨q1 g1,cs,t,q2.trans g2,g3,g4,g5,fun i hi=>(g6 i hi).mono hM,q3 g7⟩
  ·rw [hρ]
   cases e:ρ n with
   |none=>rw [e] at h3;exact h3
   |some bk =>
    obtain ⟨b,k⟩:=bk
    rw [e] at h3
    obtain ⟨q1,q2,q3⟩:=hb b (.inl ⟨k,e⟩)
    obtain ⟨g1,cs,t,g2,g3,g4,g5,g6,g7⟩:=h3
    refine ⟨q1 g1,cs,t,q2.trans g2,g3,g4,g5,fun i hi j hj=>?_,q3 g7⟩
    have g8:=g6 i hi j hj
    rw [hs]
    generalize (es.getD i .undef).cells.getD j .undef=d at *
    unfold CellAt at *
    cases d<;>first|exact g8|exact g8.mono hM
theorem ObjRel.heap (ho:ObjRel B M ρ h w n o) (hb:∀ b,OnB ρ n o b→w'.heap[b]?=w.heap[b]?):ObjRel B M ρ h w' n o :=
 ho.turn (fun _ _ h=>h) M.le_refl rfl rfl (fun b hb'=>⟨id,hb b hb',id⟩) id
theorem ObjRel.occ (ho:ObjRel B M ρ h w n o) {b:Nat} (hb:OnB ρ n o b):B.wr b∧∃ ob,w.heap[b]?=some ob∧∀ ds,ob≠.deferred ds:=by
 rcases hb with ⟨c,hρ⟩|⟨sz,c,isz,es,pd,i,l,k,rfl,h2,h3⟩
 ·cases o with
  |row sz es fr =>
   simp only [ObjRel,hρ] at ho
   obtain ⟨h2,cs,ty,⟨fz,h3,_⟩,_⟩:=ho
   exact ⟨h2.1,_,h3,fun ds e=>by cases e⟩
  |box sz d =>
   obtain ⟨b',c',h1,h2,cs,ty,h3,_⟩:=ho
   rw [hρ] at h1;cases h1
   exact ⟨h2,_,h3,fun ds e=>by cases e⟩
  |fbox sz d =>
   obtain ⟨b',c',h1,h2,cs,ty,h3,_⟩:=ho
   rw [hρ] at h1;cases h1
   exact ⟨h2,_,h3,fun ds e=>by cases e⟩
  |dict es =>
   obtain ⟨b',c',h1,h2,⟨E,h3,_⟩,_⟩:=ho
   rw [hρ] at h1;cases h1
   exact ⟨h2,_,h3,fun ds e=>by cases e⟩
  |siter s pos =>
   obtain ⟨b',c',h1,h2,h3,_⟩:=ho
   rw [hρ] at h1;cases h1
   exact ⟨h2,_,h3,fun ds e=>by cases e⟩
  |ghost _ _ _=>obtain ⟨h1,_⟩:=ho;rw [hρ] at h1;cases h1
  |nrow sz c' isz es pd =>
   obtain ⟨_,_,h3⟩:=ho
   rw [hρ] at h3
   obtain ⟨g1,cs,t,g2,_⟩:=h3
   exact ⟨g1,_,g2,fun ds e=>by cases e⟩
 ·obtain ⟨_,h4,_⟩:=ho
  have h5:=h4 i l h2
  unfold InnerAt at h5
  rw [h3] at h5
  obtain ⟨g1,cs,t,g2,_⟩:=h5
  exact ⟨g1,_,g2,fun ds e=>by cases e⟩
end
section
variable {B:Base} {nt:Nat} {M0:Mem} {w0:World} {M:Mem} {ρ:Locs} {t:Tmps} {h:Heap} {a:Act} {w:World}
theorem Sim.occ (S:Sim B nt M0 w0 M ρ t h a w) {n b:Nat} (ho:Occ ρ h n b):B.wr b∧∃ ob,w.heap[b]?=some ob∧∀ ds,ob≠.deferred ds:=by
 obtain ⟨o,h1,h2⟩:=ho
 exact (S.obj n o h1).occ h2
theorem Sim.occ_lt (S:Sim B nt M0 w0 M ρ t h a w) {n b:Nat} (ho:Occ ρ h n b):b < w.heap.size:=by
 obtain ⟨_,ob,h1,_⟩:=S.occ ho
 exact (Array.getElem?_eq_some_iff.1 h1).1
theorem Sim.occ_dis (S:Sim B nt M0 w0 M ρ t h a w) {n m b:Nat} (hne:n≠m) (hn:Occ ρ h n b) (hm:Occ ρ h m b):False:=by
 rcases hn.cases with ⟨o,c,h1,h2⟩|⟨i,h1⟩
 ·rcases hm.cases with ⟨o',c',k1,k2⟩|⟨j,k1⟩
  ·exact S.dis n m o o' b c b c' hne h1 k1 h2 k2 rfl
  ·exact (S.dsub m j b k1).1 n o c h1 h2
 ·rcases hm.cases with ⟨o',c',k1,k2⟩|⟨j,k1⟩
  ·exact (S.dsub n i b h1).1 m o' c' k1 k2
  ·exact hne ((S.dsub n i b h1).2 m j k1).1.symm
theorem Sim.sub_fresh (S:Sim B nt M0 w0 M ρ t h a w) {b:Nat} (hb:w.heap.size≤b):∀ n i,¬ SubAt ρ h n i b:=fun n i hs=>by
 have:=S.occ_lt hs.occ;omega
end
end Sh

/- What single operations come to: those that only compute. -/
namespace Sh
open Go
section
variable {M:Mem} {ρ:Locs} {h:Heap}
theorem RelV.inv_int {k:IntKind} {n:Int} {v:Value} (r:RelV M ρ h (.int k n) v):v=.int k n:=by
 cases r with|pure hp=>cases hp;rfl
theorem RelV.inv_bool {b:Bool} {v:Value} (r:RelV M ρ h (.bool b) v):v=.bool b:=by
 cases r with|pure hp=>cases hp;rfl
theorem RelV.inv_abool {v:Value} (r:RelV M ρ h .abool v):∃ b,v=.bool b:=by
 cases r with|pure hp=>cases hp;exact ⟨_,rfl⟩
theorem RelV.inv_str {s:List UInt8} {v:Value} (r:RelV M ρ h (.str s) v):v=.string ⟨s.toArray⟩:=by
 cases r with|pure hp=>cases hp;rfl
theorem RelV.inv_agg {ds:List DV} {v:Value} (r:RelV M ρ h (.agg ds) v):∃ vs,v=.agg vs∧ds.length=vs.size∧∀ i,i < ds.length→RelV M ρ h (ds.getD i .undef) (vs.getD i Go.undef):=by
 cases r with
 |pure hp=>cases hp with|agg _ vs hl hr=>exact ⟨vs,rfl,hl,fun i hi=>.pure (hr i hi)⟩
 |agg _ vs hl hr=>exact ⟨vs,rfl,hl,hr⟩
theorem RelV.inv_tuple {ds:List DV} {v:Value} (r:RelV M ρ h (.tuple ds) v):∃ vs,v=.tuple vs∧ds.length=vs.size∧∀ i,i < ds.length→RelV M ρ h (ds.getD i .undef) (vs.getD i Go.undef):=by
 cases r with
 |pure hp=>cases hp with|tuple _ vs hl hr=>exact ⟨vs,rfl,hl,fun i hi=>.pure (hr i hi)⟩
 |tuple _ vs hl hr=>exact ⟨vs,rfl,hl,hr⟩
theorem RelV.inv_func {f:FuncId} {ds:List DV} {v:Value} (r:RelV M ρ h (.func f ds) v):∃ vs,v=.func (.func f) #[] vs∧ds.length=vs.size∧∀ i,i < ds.length→RelV M ρ h (ds.getD i .undef) (vs.getD i Go.undef):=by
 cases r with
 |pure hp=>cases hp with|func _ _ vs hl hr=>exact ⟨vs,rfl,hl,fun i hi=>.pure (hr i hi)⟩
 |func _ _ vs hl hr=>exact ⟨vs,rfl,hl,hr⟩
theorem RelV.inv_meth {f:FuncId} {ds:List DV} {v:Value} (r:RelV M ρ h (.meth f ds) v):∃ vs,v=.func (.func f) vs #[]∧ds.length=vs.size∧∀ i,i < ds.length→RelV M ρ h (ds.getD i .undef) (vs.getD i Go.undef):=by
 cases r with
 |pure hp=>cases hp with|meth _ _ vs hl hr=>exact ⟨vs,rfl,hl,fun i hi=>.pure (hr i hi)⟩
 |meth _ _ vs hl hr=>exact ⟨vs,rfl,hl,hr⟩
theorem RelV.inv_list {l:List DV} {v:Value} (r:RelV M ρ h (.list l) v):RelP M (.list l) v:=by
 cases r with|pure hp=>exact hp
theorem RelV.inv_full {l:List DV} {v:Value} (r:RelV M ρ h (.full l) v):RelP M (.full l) v:=by
 cases r with|pure hp=>exact hp
theorem RelV.inv_ip {d:DV} {v:Value} (r:RelV M ρ h (.ip d) v):RelP M (.ip d) v:=by
 cases r with|pure hp=>exact hp
theorem RelV.ofBox {n sz b c:Nat} {d:DV} (off:Nat) (hl:hlook h n=some (.box sz d)∨hlook h n=some (.fbox sz d)) (hρ:ρ n=some (b,c)):RelV M ρ h (.bptr n off) (.pointer (some ⟨b,off,none⟩)):=by
 rcases hl with hl|hl
 ·exact .bptr n off sz b c d hl hρ
 ·exact .fptr n off sz b c d hl hρ
theorem RelV.inv_bptr {n off:Nat} {v:Value} (r:RelV M ρ h (.bptr n off) v):∃ (sz b c:Nat) (d:DV),v=.pointer (some ⟨b,off,none⟩)∧(hlook h n=some (.box sz d)∨hlook h n=some (.fbox sz d))∧ρ n=some (b,c):=by
 cases r with
 |pure hp=>cases hp
 |bptr _ _ sz b c d hl hρ=>exact ⟨sz,b,c,d,rfl,.inl hl,hρ⟩
 |fptr _ _ sz b c d hl hρ=>exact ⟨sz,b,c,d,rfl,.inr hl,hρ⟩
theorem RelV.inv_own {n off len tot sz:Nat} {es:List DV} {fr:Bool} {v:Value} (r:RelV M ρ h (.own n off len tot) v) (hl:hlook h n=some (.row sz es fr)) :
  tot≤es.length∧(tot=es.length→SliceIs (ρ n) sz off len tot v):=by
 cases r with
 |pure hp=>cases hp
 |own _ _ _ _ sz' es' fr' _ hl' ht hs hv=>rw [hl'] at hl;cases hl;exact ⟨ht,hv⟩
 |nown _ _ _ _ _ _ _ _ _ _ hl'=>rw [hl'] at hl;cases hl
theorem RelV.inv_ptr {n i off tot sz:Nat} {es:List DV} {fr:Bool} {v:Value} (r:RelV M ρ h (.ptr n i off tot) v) (hl:hlook h n=some (.row sz es fr)) :
  tot≤es.length∧i < tot∧(tot=es.length→∃ b c,ρ n=some (b,c)∧v=.pointer (some ⟨b,i * sz+off,none⟩)):=by
 cases r with
 |pure hp=>cases hp
 |ptr _ _ _ _ sz' es' fr' _ hl' ht hi hs hv=>rw [hl'] at hl;cases hl;exact ⟨ht,hi,hv⟩
 |nptr _ _ _ _ _ _ _ _ _ _ hl'=>rw [hl'] at hl;cases hl
theorem RelV.inv_nown {n off len tot sz c isz:Nat} {es:List DV} {pd:Option (Nat×List DV)} {v:Value} (r:RelV M ρ h (.own n off len tot) v) (hl:hlook h n=some (.nrow sz c isz es pd)) :
  tot≤es.length∧(tot=es.length→SliceIs (ρ n) sz off len tot v):=by
 cases r with
 |pure hp=>cases hp
 |own _ _ _ _ _ _ _ _ hl'=>rw [hl'] at hl;cases hl
 |nown _ _ _ _ _ _ _ _ _ _ hl' ht hs hv=>rw [hl'] at hl;cases hl;exact ⟨ht,hv⟩
theorem RelV.inv_nptr {n i off tot sz c isz:Nat} {es:List DV} {pd:Option (Nat×List DV)} {v:Value} (r:RelV M ρ h (.ptr n i off tot) v) (hl:hlook h n=some (.nrow sz c isz es pd)) :
  tot≤es.length∧i < tot∧(tot=es.length→∃ b c,ρ n=some (b,c)∧v=.pointer (some ⟨b,i * sz+off,none⟩)):=by
 cases r with
 |pure hp=>cases hp
 |ptr _ _ _ _ _ _ _ _ hl'=>rw [hl'] at hl;cases hl
 |nptr _ _ _ _ _ _ _ _ _ _ hl' ht hi hs hv=>rw [hl'] at hl;cases hl;exact ⟨ht,hi,hv⟩
theorem RelV.inv_sub {n i off len tot sz c isz:Nat} {es l:List DV} {pd:Option (Nat×List DV)} {v:Value} (r:RelV M ρ h (.sub n i off len tot) v) (hl:hlook h n=some (.nrow sz c isz es pd)) (hc:curL c es pd i=some l) :
  hasL es pd i∧tot≤l.length∧(tot=l.length→SliceIs (ρ.sub n i) isz off len tot v):=by
 cases r with
 |pure hp=>cases hp
 |subv _ _ _ _ _ _ hs hh =>
  rcases hh with ⟨sz',c',isz',es',pd',h1,h2,h3⟩|⟨_,_,_,h1⟩
  ·rw [hl] at h1;cases h1;exact ⟨h2,h3 l hc⟩
  ·rw [hl] at h1;cases h1
theorem RelV.inv_sptr {n i j off tot sz c isz:Nat} {es l:List DV} {pd:Option (Nat×List DV)} {v:Value} (r:RelV M ρ h (.sptr n i j off tot) v) (hl:hlook h n=some (.nrow sz c isz es pd)) (hc:curL c es pd i=some l) :
  hasL es pd i∧tot≤l.length∧(tot=l.length→j < tot∧∃ b k,ρ.sub n i=some (b,k)∧v=.pointer (some ⟨b,j * isz+off,none⟩)):=by
 cases r with
 |pure hp=>cases hp
 |sptrv _ _ _ _ _ _ hs hh =>
  rcases hh with ⟨sz',c',isz',es',pd',h1,h2,h3⟩|⟨_,_,_,h1⟩
  ·rw [hl] at h1;cases h1;exact ⟨h2,h3 l hc⟩
  ·rw [hl] at h1;cases h1
theorem RelV.inv_flt {k:FloatKind} {n:Nat} {v:Value} (r:RelV M ρ h (.flt k n) v):v=.float k n:=by
 cases r with|pure hp=>cases hp;rfl
theorem RelV.inv_fnan {k:FloatKind} {v:Value} (r:RelV M ρ h (.fnan k) v):∃ n,v=.float k n∧∃ s p,k.decode n=.nan s p:=by
 cases r with|pure hp=>cases hp with|fnan _ n h=>exact ⟨n,rfl,h⟩
end
theorem bsize (l:List UInt8):(⟨l.toArray⟩:ByteArray).size=l.length:=by simp [ByteArray.size]
theorem kindEq_eq {j k:IntKind} (hk:kindEq j k=true):j=k:=by
 revert hk;cases j<;>cases k<;>simp [kindEq,kindNo]
def OpGoal (P:Program) (B:Base) (nt:Nat) (M0:Mem) (w0:World) (M:Mem) (ρ:Locs) (t:Tmps) (h:Heap) (a:Act) (w:World) (o:Oper) (d:DV) (u:Heap):Prop :=
 ∃ (nx:Next) (v:Value) (w':World) (M':Mem) (ρ':Locs),(execOp a.eval o).run P w=.ok nx w'∧(nx=.value v∨(nx=.skip∧v=Go.undef)) ∧
  Sim B nt M0 w0 M' ρ' t (u.reverse++h) a w'∧RelV M' ρ' (u.reverse++h) d v
section
variable {P:Program} {G:Nat→Option DV} {B:Base} {nt:Nat} {M0:Mem} {w0:World} {M:Mem} {ρ:Locs} {t:Tmps} {h:Heap} {a:Act} {w:World} {o:Oper}
theorem OpGoal.same (S:Sim B nt M0 w0 M ρ t h a w) {d:DV} {v:Value} (hr:(execOp a.eval o).run P w=.ok (.value v) w) (hv:RelV M ρ h d v):OpGoal P B nt M0 w0 M ρ t h a w o d [] :=
 ⟨_,v,w,M,ρ,hr,.inl rfl,S,hv⟩
variable (hG:GOk G M0) (S:Sim B nt M0 w0 M ρ t h a w)
include hG S
theorem op_mov (x:Operand) (ho:o.op=.move x∨o.op=.assign x):OpGoal P B nt M0 w0 M ρ t h a w o (evalOpd G t x) []:=by
 refine OpGoal.same S (v:=a.eval x) ?_ (S.opd hG x)
 rcases ho with ho|ho<;>simp [execOp,ho]
theorem op_pick (c x y:Operand) (b:Bool) (ho:o.op=.pick c x y) (hc:evalOpd G t c=.bool b):OpGoal P B nt M0 w0 M ρ t h a w o (bif b then evalOpd G t x else evalOpd G t y) []:=by
 have h1:=S.opd hG c
 rw [hc] at h1
 have h2:=h1.inv_bool
 refine OpGoal.same S (v:=if b then a.eval x else a.eval y) ?_ ?_
 ·simp [execOp,ho,h2,asBool]
 ·cases b
  ·exact S.opd hG y
  ·exact S.opd hG x
theorem op_extract (x:Operand) (i:Nat) (vs:List DV) (ho:o.op=.extract x i) (hx:evalOpd G t x=.tuple vs) (hi:i < vs.length):OpGoal P B nt M0 w0 M ρ t h a w o (vs.getD i .undef) []:=by
 have h1:=S.opd hG x
 rw [hx] at h1
 obtain ⟨ws,e,hl,hr⟩:=h1.inv_tuple
 refine OpGoal.same S (v:=ws.getD i Go.undef) ?_ (hr i hi)
 have hi':i < ws.size:=by omega
 simp [execOp,ho,e,Instr.extract,hi',Array.getD_eq_getD_getElem?]
theorem op_bin_int (op:BinOp) (ty ty':TypeId) (x y:Operand) (k:IntKind) (m n:Int) (ho:o.op=.binOp op ty x y ty') (hx:evalOpd G t x=.int k m) (hy:evalOpd G t y=.int k n)
  (p:Option Prop) (d:DV) (u:Heap) (he:intBin op k m n=.ok p d u) (hp:∀ q,p=some q→q):OpGoal P B nt M0 w0 M ρ t h a w o d u:=by
 have h1:=S.opd hG x;rw [hx] at h1
 have h2:=S.opd hG y;rw [hy] at h2
 have e1:=h1.inv_int
 have e2:=h2.inv_int
 unfold intBin at he
 split at he<;>first|(cases he;done)|skip
 all_goals
  simp only [Ev.ok.injEq] at he
  obtain ⟨rfl,rfl,rfl⟩:=he
 ·refine OpGoal.same S (v:=.int k (andI k m n)) ?_ (.pure (.int _ _));simp [execOp,ho,e1,e2,eqGuard,binOp,Op.intBits,andI]
 ·refine OpGoal.same S (v:=.int k (k.wrap (m+n))) ?_ (.pure (.int _ _));simp [execOp,ho,e1,e2,eqGuard,binOp,Op.intArith]
 ·refine OpGoal.same S (v:=.int k (k.wrap (m - n))) ?_ (.pure (.int _ _));simp [execOp,ho,e1,e2,eqGuard,binOp,Op.intArith]
 ·refine OpGoal.same S (v:=.int k (k.wrap (m * n))) ?_ (.pure (.int _ _));simp [execOp,ho,e1,e2,eqGuard,binOp,Op.intArith]
 ·have hz:=hp _ rfl
  refine OpGoal.same S (v:=.int k (k.wrap (m.tdiv n))) ?_ (.pure (.int _ _));simp [execOp,ho,e1,e2,eqGuard,binOp,Op.intDiv,hz]
 ·have hz:=hp _ rfl
  refine OpGoal.same S (v:=.int k (m.tmod n)) ?_ (.pure (.int _ _));simp [execOp,ho,e1,e2,eqGuard,binOp,Op.intDiv,hz]
 ·refine OpGoal.same S (v:=.bool (decide (m=n))) ?_ (.pure (.bool _));simp [execOp,ho,e1,e2,eqGuard,binOp,Op.intCmp];rw [Bool.eq_iff_iff];simp
 ·refine OpGoal.same S (v:=.bool (decide (m≠n))) ?_ (.pure (.bool _));simp [execOp,ho,e1,e2,eqGuard,binOp,Op.intCmp];rw [Bool.eq_iff_iff];simp
 ·refine OpGoal.same S (v:=.bool (decide (m < n))) ?_ (.pure (.bool _));simp [execOp,ho,e1,e2,eqGuard,binOp,Op.intCmp]
 ·refine OpGoal.same S (v:=.bool (decide (m≤n))) ?_ (.pure (.bool _));simp [execOp,ho,e1,e2,eqGuard,binOp,Op.intCmp]
 ·refine OpGoal.same S (v:=.bool (decide (n < m))) ?_ (.pure (.bool _));simp [execOp,ho,e1,e2,eqGuard,binOp,Op.intCmp]
 ·refine OpGoal.same S (v:=.bool (decide (n≤m))) ?_ (.pure (.bool _));simp [execOp,ho,e1,e2,eqGuard,binOp,Op.intCmp]
theorem op_bin_str (op:BinOp) (ty ty':TypeId) (x y:Operand) (m n:List UInt8) (ho:o.op=.binOp op ty x y ty') (hx:evalOpd G t x=.str m) (hy:evalOpd G t y=.str n)
  (p:Option Prop) (d:DV) (u:Heap) (he:strBin op m n=.ok p d u) (hp:∀ q,p=some q→q):OpGoal P B nt M0 w0 M ρ t h a w o d u:=by
 have h1:=S.opd hG x;rw [hx] at h1
 have h2:=S.opd hG y;rw [hy] at h2
 have e1:=h1.inv_str
 have e2:=h2.inv_str
 have tl:∀ s:List UInt8,(⟨s.toArray⟩:ByteArray).toList=s:=fun s=>by
  exact ByteArray.toList_mk s
 have he1:∀ m n:List UInt8,(m == n)=decide (m=n):=fun m n=>by rw [Bool.eq_iff_iff];simp
 unfold strBin at he
 split at he<;>first|(cases he;done)|skip
 all_goals
  simp only [Ev.ok.injEq] at he
  obtain ⟨rfl,rfl,rfl⟩:=he
 ·have hz:=hp _ rfl
  have hs:¬ (9223372036854775807 < ((m.length:Int)+(n.length:Int))):=by omega
  refine OpGoal.same S (v:=.string ⟨(m++n).toArray⟩) ?_ (.pure (.str _))
  have hz':¬ (IntKind.i64.max < (((⟨m.toArray⟩:ByteArray).size+(⟨n.toArray⟩:ByteArray).size:Nat):Int)):=by
   rw [bsize,bsize]
   have:IntKind.i64.max=9223372036854775807:=by decide
   rw [this];omega
  simp only [execOp,ho,e1,e2,eqGuard,binOp,Op.stringOp,Sem.run_bind,gt_iff_lt,hz',if_false,ByteArray.mk_append_mk]
  simp
 ·refine OpGoal.same S (v:=.bool (decide (m=n))) ?_ (.pure (.bool _))
  simp [execOp,ho,e1,e2,eqGuard,binOp,Op.stringOp,tl,he1]
 ·refine OpGoal.same S (v:=.bool (decide (m≠n))) ?_ (.pure (.bool _))
  simp [execOp,ho,e1,e2,eqGuard,binOp,Op.stringOp,tl,he1]
 ·refine OpGoal.same S (v:=.bool (Op.bytesLess m n)) ?_ (.pure (.bool _))
  simp [execOp,ho,e1,e2,eqGuard,binOp,Op.stringOp,tl]
end
end Sh

/- What single operations come to: parts of values. -/
set_option linter.unusedSectionVars false
namespace Sh
open Go
theorem getD_lt {α:Type} {l:List α} {i:Nat} (hi:i < l.length) (d:α):l.getD i d=l[i]:=by simp [List.getD_eq_getElem?_getD,hi]
theorem agetD_lt {α:Type} {l:Array α} {i:Nat} (hi:i < l.size) (d:α):l.getD i d=l[i]:=by simp [Array.getD_eq_getD_getElem?,hi]
theorem extract_getD (vs:Array Value) (off sz i:Nat) (hi:i < sz) (ho:off+sz≤vs.size):(vs.extract off (off+sz)).getD i Go.undef=vs.getD (off+i) Go.undef:=by
 have h1:i < (vs.extract off (off+sz)).size:=by simp;omega
 rw [agetD_lt h1,agetD_lt (by omega)]
 simp
theorem take_drop_getD {α:Type} (l:List α) (off sz i:Nat) (d:α) (hi:i < sz):((l.drop off).take sz).getD i d=l.getD (off+i) d:=by
 simp [List.getD_eq_getElem?_getD,hi,List.getElem?_drop]
section
variable {P:Program} {G:Nat→Option DV} {B:Base} {nt:Nat} {M0:Mem} {w0:World} {M:Mem} {ρ:Locs} {t:Tmps} {h:Heap} {a:Act} {w:World} {o:Oper}
theorem isAgg_run {ty:TypeId} {b:Bool} (hb:isAggT P ty=some b) (w:World):(isAgg ty).run P w=.ok b w:=by
 unfold isAggT at hb
 unfold isAgg
 split at hb
 ·rename_i fs e;cases hb;simp [run_underlying e]
 ·rename_i n e' e;cases hb;simp [run_underlying e]
 ·rename_i d h1 h2 e;cases hb
  rw [Sem.run_bind,run_underlying e]
  cases d with
  |struct fs=>exact absurd rfl (h1 fs)
  |array n e'=>exact absurd rfl (h2 n e')
  |_=>rfl
 ·cases hb
theorem size_run {ty:TypeId} {n:Nat} (hs:sizeT P ty=some n) (w:World):(Go.sizeOf ty).run P w=.ok n w:=by
 unfold sizeT at hs
 cases hi:P.info? ty with
 |none=>rw [hi] at hs;cases hs
 |some i=>rw [hi] at hs;cases hs;simp [Go.sizeOf,typeInfo,hi]
theorem part_run {ty:TypeId} {agg:Bool} {sz off:Nat} {vs:Array Value} (ha:isAggT P ty=some agg) (hs:sizeT P ty=some sz) (h1:agg=false→sz=1) (ho:off+sz≤vs.size) (w:World) :
  (Go.part ty vs off).run P w=.ok (bif agg then .agg (vs.extract off (off+sz)) else vs.getD off Go.undef) w:=by
 unfold Go.part
 rw [Sem.run_bind,isAgg_run ha,Result.andThen_ok]
 cases agg with
 |true=>simp [size_run hs]
 |false =>
  have:=h1 rfl;subst this
  have h2:off < vs.size:=by omega
  simp [h2,Array.getD_eq_getD_getElem?]
theorem part_rel {agg:Bool} {sz off:Nat} {cs:List DV} {vs:Array Value} (hl:cs.length=vs.size) (hr:∀ i,i < cs.length→RelV M ρ h (cs.getD i .undef) (vs.getD i Go.undef))
  (h1:agg=false→sz=1) (ho:off+sz≤cs.length):RelV M ρ h (part agg off sz cs) (bif agg then .agg (vs.extract off (off+sz)) else vs.getD off Go.undef):=by
 cases agg with
 |true =>
  refine .agg _ _ (by simp;omega) (fun i hi=>?_)
  have hi':i < sz:=by simp at hi;omega
  rw [take_drop_getD _ _ _ _ _ hi',extract_getD _ _ _ _ hi' (by omega)]
  exact hr _ (by omega)
 |false =>
  have:=h1 rfl;subst this
  exact hr _ (by omega)
theorem fieldOf_spec {s:TypeId} {f off sz:Nat} {agg:Bool} (hf:fieldOf P s f=some (off,sz,agg)) :
  ∃ fs fd,P.underlying s=some (.struct fs)∧fs[f]?=some fd∧fd.offset=off∧sizeT P fd.type=some sz∧isAggT P fd.type=some agg∧sz≠0∧(agg=false→sz=1):=by
 unfold fieldOf at hf
 split at hf
 ·rename_i fs e
  split at hf
  ·rename_i fd e2
   split at hf
   ·rename_i s' a' e3 e4
    cases hc:(Nat.beq s' 0 || (!a' && !Nat.beq s' 1)) with
    |true=>rw [hc] at hf;cases hf
    |false =>
     rw [hc] at hf
     simp only [cond_false,Option.some.injEq,Prod.mk.injEq] at hf
     obtain ⟨rfl,rfl,rfl⟩:=hf
     rw [natbeq,natbeq] at hc
     refine ⟨fs,fd,e,e2,rfl,e3,e4,?_,?_⟩
     ·intro e5;subst e5;simp at hc
     ·intro e5;subst e5;simp at hc;exact hc.2
   ·cases hf
  ·cases hf
 ·cases hf
variable (hG:GOk G M0) (S:Sim B nt M0 w0 M ρ t h a w)
include hG S
theorem op_field (s:TypeId) (x:Operand) (f off sz:Nat) (agg:Bool) (cs:List DV) (ho:o.op=.field s x f) (hf:fieldOf P s f=some (off,sz,agg)) (hx:evalOpd G t x=.agg cs)
  (hb:off+sz≤cs.length):OpGoal P B nt M0 w0 M ρ t h a w o (part agg off sz cs) []:=by
 obtain ⟨fs,fd,e1,e2,rfl,e4,e5,e6,e7⟩:=fieldOf_spec hf
 have h1:=S.opd hG x;rw [hx] at h1
 obtain ⟨vs,ev,hl,hr⟩:=h1.inv_agg
 refine OpGoal.same S ?_ (part_rel hl hr e7 hb)
 simp only [execOp,ho,Instr.field,Sem.run_bind,run_underlying e1,Result.andThen_ok,e2,ev,asAgg,Sem.run_pure,part_run e5 e4 e7 (show fd.offset+sz≤vs.size by omega)]
theorem op_indexA (ty e:TypeId) (x i:Operand) (len esz:Nat) (agg:Bool) (cs:List DV) (k:IntKind) (n:Int) (ho:o.op=.index ty x i) (ht:P.underlying ty=some (.array len e))
  (hs:sizeT P e=some esz) (ha:isAggT P e=some agg) (h1:agg=false→esz=1) (hx:evalOpd G t x=.agg cs) (hi:evalOpd G t i=.int k n) (hb:0≤n∧n < len∧cs.length=len * esz) :
  OpGoal P B nt M0 w0 M ρ t h a w o (part agg (n.toNat * esz) esz cs) []:=by
 have r1:=S.opd hG x;rw [hx] at r1
 obtain ⟨vs,ev,hl,hr⟩:=r1.inv_agg
 have r2:=S.opd hG i;rw [hi] at r2
 have ei:=r2.inv_int
 obtain ⟨hb1,hb2,hb3⟩:=hb
 have hle:n.toNat * esz+esz≤cs.length:=by
  rw [hb3,← Nat.succ_mul];exact Nat.mul_le_mul_right _ (by omega)
 refine OpGoal.same S ?_ (part_rel hl hr h1 hle)
 simp only [execOp,ho,Instr.index,ei,ev,asIntOf,Sem.run_bind,Sem.run_pure,Result.andThen_ok,run_underlying ht,hb1,hb2,and_self,if_true,size_run hs,part_run ha hs h1 (show n.toNat * esz+esz≤vs.size by omega)]
theorem op_un (op:UnOp) (ty:TypeId) (x:Operand) (d:DV) (p:Option Prop) (u:Heap) (ho:o.op=.unOp op ty x) (lk:Nat→Option DObj) (n:Nat) (he:evalOp (evalOpd G t) lk n (.un op x)=.ok p d u) :
  OpGoal P B nt M0 w0 M ρ t h a w o d u:=by
 have r1:=S.opd hG x
 simp only [evalOp] at he
 split at he
 ·rename_i k m e
  rw [e] at r1
  simp only [Ev.ok.injEq] at he;obtain ⟨rfl,rfl,rfl⟩:=he
  refine OpGoal.same S (v:=.int k (k.wrap (-m))) ?_ (.pure (.int _ _))
  simp [execOp,ho,r1.inv_int,Op.unary,Op.intArith]
 ·rename_i k m e
  rw [e] at r1
  simp only [Ev.ok.injEq] at he;obtain ⟨rfl,rfl,rfl⟩:=he
  refine OpGoal.same S (v:=.float k (Op.negFloat k m)) ?_ (.pure (.flt _ _))
  simp [execOp,ho,r1.inv_flt,Op.unary]
 ·rename_i b e
  rw [e] at r1
  simp only [Ev.ok.injEq] at he;obtain ⟨rfl,rfl,rfl⟩:=he
  refine OpGoal.same S (v:=.bool (!b)) ?_ (.pure (.bool _))
  simp [execOp,ho,r1.inv_bool,Op.unary]
 ·cases he
theorem op_conv (sT dT:TypeId) (x:Operand) (j k k':IntKind) (m:Int) (ho:o.op=.convert sT dT x) (hs:P.underlying sT=some (.int j)) (hd:P.underlying dT=some (.int k)) (hx:evalOpd G t x=.int k' m) :
  OpGoal P B nt M0 w0 M ρ t h a w o (.int k (k.wrap m)) []:=by
 have r1:=S.opd hG x;rw [hx] at r1
 refine OpGoal.same S (v:=.int k (k.wrap m)) ?_ (.pure (.int _ _))
 simp [execOp,ho,convert,run_underlying hs,run_underlying hd,r1.inv_int,Conv.intToInt]
theorem op_same (sT dT:TypeId) (x:Operand) (s:List UInt8) (ho:o.op=.convert sT dT x) (hs:P.underlying sT=some .string) (hd:P.underlying dT=some .string) (hx:evalOpd G t x=.str s) :
  OpGoal P B nt M0 w0 M ρ t h a w o (.str s) []:=by
 have r1:=S.opd hG x;rw [hx] at r1
 refine OpGoal.same S (v:=.string ⟨s.toArray⟩) ?_ (.pure (.str _))
 simp [execOp,ho,convert,run_underlying hs,run_underlying hd,r1.inv_str]
theorem op_mkfunc (f:FuncId) (first caps:Array Operand) (ho:o.op=.makeFunc (.func f) first caps) (hf:first.isEmpty=true):OpGoal P B nt M0 w0 M ρ t h a w o (.func f (caps.toList.map (evalOpd G t))) []:=by
 have e:first=#[]:=by simpa using hf
 subst e
 refine OpGoal.same S (v:=.func (.func f) #[] (caps.map a.eval)) ?_ ?_
 ·simp [execOp,ho,Instr.makeFunc]
 ·refine .func _ _ _ (by simp) (fun i hi=>?_)
  have hi':i < caps.size:=by simpa using hi
  rw [getD_lt hi,agetD_lt (by simpa using hi')]
  simp only [List.getElem_map,Array.getElem_map,Array.getElem_toList]
  exact S.opd hG _
theorem op_mkmeth (f:FuncId) (first caps:Array Operand) (ho:o.op=.makeFunc (.func f) first caps) (hf:caps.isEmpty=true):OpGoal P B nt M0 w0 M ρ t h a w o (.meth f (first.toList.map (evalOpd G t))) []:=by
 have e:caps=#[]:=by simpa using hf
 subst e
 refine OpGoal.same S (v:=.func (.func f) (first.map a.eval) #[]) ?_ ?_
 ·simp [execOp,ho,Instr.makeFunc]
 ·refine .meth _ _ _ (by simp) (fun i hi=>?_)
  have hi':i < first.size:=by simpa using hi
  rw [getD_lt hi,agetD_lt (by simpa using hi')]
  simp only [List.getElem_map,Array.getElem_map,Array.getElem_toList]
  exact S.opd hG _
theorem op_indexS (ty:TypeId) (x i:Operand) (s:List UInt8) (k:IntKind) (n:Int) (ho:o.op=.index ty x i) (ht:P.underlying ty=some .string) (hx:evalOpd G t x=.str s) (hi:evalOpd G t i=.int k n)
  (hb:0≤n∧n < s.length):OpGoal P B nt M0 w0 M ρ t h a w o (.int .u8 (s.getD n.toNat 0).toNat) []:=by
 have r1:=S.opd hG x;rw [hx] at r1
 have r2:=S.opd hG i;rw [hi] at r2
 have hlt:n.toNat < s.length:=by omega
 have hg:(⟨s.toArray⟩:ByteArray)[n.toNat]?=some s[n.toNat]:=by
  have:n.toNat < (⟨s.toArray⟩:ByteArray).size:=by rw [bsize];exact hlt
  rw [getElem?_pos (⟨s.toArray⟩:ByteArray) n.toNat this]
  rfl
 refine OpGoal.same S (v:=.int .u8 (s.getD n.toNat 0).toNat) ?_ (.pure (.int _ _))
 rw [getD_lt hlt]
 simp [execOp,ho,Instr.index,r1.inv_str,r2.inv_int,asIntOf,run_underlying ht,hb.1,hg]
end
end Sh

/- Equality of aggregates. -/
namespace Sh
open Go
theorem eqCells_append:∀ (a b:List Nat) (cx cy:List DV) (r:Bool),eqCells (a++b) cx cy=some r →
  ∃ r1 r2,eqCells a (cx.take a.length) (cy.take a.length)=some r1∧eqCells b (cx.drop a.length) (cy.drop a.length)=some r2∧r=(r1 && r2)∧a.length≤cx.length∧a.length≤cy.length
 |[],b,cx,cy,r,h=>⟨true,r,by simp [eqCells],by simpa using h,by simp,by simp,by simp⟩
 |k :: a,b,cx,cy,r,h=>by
  rw [List.cons_append] at h
  unfold eqCells at h
  split at h
  ·rename_i heq;cases heq
  ·rename_i ks j x rx k' y ry heq
   simp only [List.cons.injEq] at heq
   obtain ⟨rfl,rfl⟩:=heq
   split at h
   ·rename_i e he
    obtain ⟨c1,h⟩:kindEq j k'=true∧(decide (x=y) && e)=r:=by cases hk:kindEq j k'<;>simp_all
    obtain ⟨r1,r2,h1,h2,h3,h4,h5⟩:=eqCells_append a b rx ry e he
    refine ⟨decide (x=y) && r1,r2,?_,by simpa using h2,by rw [← h,h3,Bool.and_assoc],by simp;omega,by simp;omega⟩
    simp only [List.length_cons,List.take_succ_cons,eqCells,h1,c1,cond_true]
   ·cases h
  ·rename_i ks x rx y ry heq
   simp only [List.cons.injEq] at heq
   obtain ⟨rfl,rfl⟩:=heq
   split at h
   ·rename_i e he
    simp only [Option.some.injEq] at h
    obtain ⟨r1,r2,h1,h2,h3,h4,h5⟩:=eqCells_append a b rx ry e he
    refine ⟨(x == y) && r1,r2,?_,by simpa using h2,by rw [← h,h3,Bool.and_assoc],by simp;omega,by simp;omega⟩
    simp only [List.length_cons,List.take_succ_cons,eqCells,h1]
   ·cases h
  ·rename_i ks x rx y ry heq
   simp only [List.cons.injEq] at heq
   obtain ⟨rfl,rfl⟩:=heq
   split at h
   ·rename_i e he
    simp only [Option.some.injEq] at h
    obtain ⟨r1,r2,h1,h2,h3,h4,h5⟩:=eqCells_append a b rx ry e he
    refine ⟨decide (x=y) && r1,r2,?_,by simpa using h2,by rw [← h,h3,Bool.and_assoc],by simp;omega,by simp;omega⟩
    simp only [List.length_cons,List.take_succ_cons,eqCells,h1]
   ·cases h
  ·cases h
theorem eqCells_length:∀ (a:List Nat) (cx cy:List DV) (r:Bool),eqCells a cx cy=some r→cx.length=a.length∧cy.length=a.length
 |[],cx,cy,r,h=>by
  unfold eqCells at h
  split at h<;>first|(cases h;done)|simp_all
 |k :: a,cx,cy,r,h=>by
  unfold eqCells at h
  split at h
  ·rename_i heq;cases heq
  ·rename_i heq
   simp only [List.cons.injEq] at heq
   obtain ⟨rfl,rfl⟩:=heq
   split at h
   ·rename_i e he
    obtain ⟨h1,h2⟩:=eqCells_length a _ _ e he
    simp [h1,h2]
   ·cases h
  ·rename_i heq
   simp only [List.cons.injEq] at heq
   obtain ⟨rfl,rfl⟩:=heq
   split at h
   ·rename_i e he
    obtain ⟨h1,h2⟩:=eqCells_length a _ _ e he
    simp [h1,h2]
   ·cases h
  ·rename_i heq
   simp only [List.cons.injEq] at heq
   obtain ⟨rfl,rfl⟩:=heq
   split at h
   ·rename_i e he
    obtain ⟨h1,h2⟩:=eqCells_length a _ _ e he
    simp [h1,h2]
   ·cases h
  ·cases h
theorem eqCells_nil {cx cy:List DV} {r:Bool} (he:eqCells [] cx cy=some r):cx=[]∧cy=[]∧r=true:=by
 obtain ⟨h1,h2⟩:=eqCells_length _ _ _ _ he
 have e1:=List.length_eq_zero_iff.1 h1
 have e2:=List.length_eq_zero_iff.1 h2
 subst e1;subst e2
 exact ⟨rfl,rfl,by simpa [eqCells] using he.symm⟩
theorem eq_one0 {cx cy:List DV} {r:Bool} (h:eqCells [0] cx cy=some r):∃ a b,cx=[.bool a]∧cy=[.bool b]∧r=(a == b):=by
 unfold eqCells at h
 split at h
 ·rename_i heq;cases heq
 ·rename_i ks j a rx k b ry heq;simp at heq
 ·rename_i ks a rx b ry heq
  simp only [List.cons.injEq,true_and] at heq;subst heq
  split at h
  ·rename_i e he
   obtain ⟨rfl,rfl,rfl⟩:=eqCells_nil he
   exact ⟨a,b,rfl,rfl,by simpa using h.symm⟩
  ·cases h
 ·rename_i ks a rx b ry heq;simp at heq
 ·cases h
theorem eq_one1 {cx cy:List DV} {r:Bool} (h:eqCells [1] cx cy=some r):∃ j a b,cx=[.int j a]∧cy=[.int j b]∧r=decide (a=b):=by
 unfold eqCells at h
 split at h
 ·rename_i heq;cases heq
 ·rename_i ks j a rx k b ry heq
  simp only [List.cons.injEq,true_and] at heq;subst heq
  split at h
  ·rename_i e he
   obtain ⟨rfl,rfl,rfl⟩:=eqCells_nil he
   cases hk:kindEq j k with
   |false=>rw [hk] at h;cases h
   |true =>
    rw [hk] at h
    have:=kindEq_eq hk;subst this
    exact ⟨j,a,b,rfl,rfl,by simpa using h.symm⟩
  ·cases h
 ·rename_i ks a rx b ry heq;simp at heq
 ·rename_i ks a rx b ry heq;simp at heq
 ·cases h
theorem eq_one2 {cx cy:List DV} {r:Bool} (h:eqCells [2] cx cy=some r):∃ a b,cx=[.str a]∧cy=[.str b]∧r=decide (a=b):=by
 unfold eqCells at h
 split at h
 ·rename_i heq;cases heq
 ·rename_i ks j a rx k b ry heq;simp at heq
 ·rename_i ks a rx b ry heq;simp at heq
 ·rename_i ks a rx b ry heq
  simp only [List.cons.injEq,true_and] at heq;subst heq
  split at h
  ·rename_i e he
   obtain ⟨rfl,rfl,rfl⟩:=eqCells_nil he
   exact ⟨a,b,rfl,rfl,by simpa using h.symm⟩
  ·cases h
 ·cases h
section
variable {P:Program} {M:Mem} {ρ:Locs} {h:Heap}
def valOf (agg:Bool) (sz off:Nat) (xs:Array Value):Value:=bif agg then .agg (xs.extract off (off+sz)) else xs.getD off Go.undef
def RelC (M:Mem) (ρ:Locs) (h:Heap) (cs:List DV) (xs:Array Value) (off:Nat):Prop:=off+cs.length≤xs.size∧∀ i,i < cs.length→RelV M ρ h (cs.getD i .undef) (xs.getD (off+i) Go.undef)
theorem RelC.take {cs:List DV} {xs:Array Value} {off:Nat} (hr:RelC M ρ h cs xs off) (n:Nat):RelC M ρ h (cs.take n) xs off :=
 ⟨by have:=hr.1;simp;omega,fun i hi=>by
   simp at hi
   have:=hr.2 i (by omega)
   rwa [show (cs.take n).getD i .undef=cs.getD i .undef by rw [List.getD_eq_getElem?_getD,List.getElem?_take_of_lt (by omega),List.getD_eq_getElem?_getD]]⟩
theorem RelC.drop {cs:List DV} {xs:Array Value} {off:Nat} (hr:RelC M ρ h cs xs off) (n:Nat) (hn:n≤cs.length):RelC M ρ h (cs.drop n) xs (off+n) :=
 ⟨by have:=hr.1;simp;omega,fun i hi=>by
   simp at hi
   have:=hr.2 (n+i) (by omega)
   rwa [show (cs.drop n).getD i .undef=cs.getD (n+i) .undef by simp [List.getD_eq_getElem?_getD],show off+n+i=off+(n+i) by omega]⟩
theorem RelC.extract {cs:List DV} {xs:Array Value} {off:Nat} (hr:RelC M ρ h cs xs off) (sz:Nat) (hs:cs.length=sz):RelC M ρ h cs (xs.extract off (off+sz)) 0:=by
 have:=hr.1
 exact ⟨by simp;omega,fun i hi=>by rw [Nat.zero_add,extract_getD _ _ _ _ (by omega) (by omega)];exact hr.2 i hi⟩
def EqAt (P:Program) (M:Mem) (ρ:Locs) (h:Heap) (d:Nat) (e:TypeId) (agg:Bool) (s:List Nat):Prop :=
 ∀ (xs ys:Array Value) (ox oy:Nat) (cx cy:List DV) (r:Bool) (w:World),RelC M ρ h cx xs ox→RelC M ρ h cy ys oy→eqCells s cx cy=some r→(Op.equalIn d e (valOf agg s.length ox xs) (valOf agg s.length oy ys)).run P w=.ok r w
theorem eq_fields {g:TypeId→Option (List Nat)} {d:Nat} (hg:∀ e s agg,g e=some s→isAggT P e=some agg→(agg=false→s.length=1)→EqAt P M ρ h d e agg s) :
  ∀ (fs:List Field) (off:Nat) (ks:List Nat),shapeFs P g fs off=some ks→∀ (xs ys:Array Value) (cx cy:List DV) (r:Bool) (w:World),RelC M ρ h cx xs off→RelC M ρ h cy ys off→eqCells ks cx cy=some r →
   (Op.eqFields d xs ys fs).run P w=.ok r w
 |[],off,ks,hs,xs,ys,cx,cy,r,w,hx,hy,he=>by
  simp only [shapeFs,Option.some.injEq] at hs;subst hs
  obtain ⟨_,_,rfl⟩:=eqCells_nil he
  simp [Op.eqFields]
 |f :: fs,off,ks,hs,xs,ys,cx,cy,r,w,hx,hy,he=>by
  simp only [shapeFs] at hs
  split at hs
  ·rename_i s sz agg q e1 e2 e3 e4
   cases hcnd:((f.name != "_") && Nat.beq f.offset off && Nat.beq s.length sz && (agg || Nat.beq sz 1)) with
   |false=>rw [hcnd] at hs;cases hs
   |true =>
    rw [hcnd] at hs
    simp only [cond_true,Option.some.injEq] at hs;subst hs
    simp only [Bool.and_eq_true,Bool.or_eq_true] at hcnd
    obtain ⟨⟨⟨c1,c2⟩,c3⟩,c4⟩:=hcnd
    have c2:=Nat.eq_of_beq_eq_true c2
    have c3:=Nat.eq_of_beq_eq_true c3
    have hname:f.name ≠ "_":=by simpa using c1
    have h1:agg=false→sz=1:=fun e=>by
     rcases c4 with c4|c4
     ·rw [e] at c4;cases c4
     ·exact Nat.eq_of_beq_eq_true c4
    obtain ⟨r1,r2,k1,k2,k3,k4,k5⟩:=eqCells_append s q cx cy r he
    have hl1:=hx.1
    have hl2:=hy.1
    have p1:=part_run (P:=P) e3 e2 (off:=f.offset) (vs:=xs) h1 (by omega) w
    have p2:=part_run (P:=P) e3 e2 (off:=f.offset) (vs:=ys) h1 (by omega) w
    have p3:=hg f.type s agg e1 e3 (fun e=>by rw [c3];exact h1 e) xs ys off off _ _ r1 w (hx.take s.length) (hy.take s.length) k1
    unfold valOf at p3
    rw [c2] at p1 p2
    rw [c3] at p3
    simp only [Op.eqFields,hname,ne_eq,not_false_eq_true,if_true,Sem.run_bind,c2,p1,p2,p3,Result.andThen_ok]
    cases r1 with
    |false=>simp [k3]
    |true =>
     simp only [Bool.not_true,Bool.false_eq_true,if_false,k3,Bool.true_and]
     rw [e2,Option.getD_some,← c3] at e4
     exact eq_fields hg fs (off+s.length) q e4 xs ys _ _ r2 w (hx.drop _ k4) (hy.drop _ k5) k2
  ·cases hs
theorem eq_items {d:Nat} {e:TypeId} {agg:Bool} {s:List Nat} (hg:EqAt P M ρ h d e agg s) (ha:isAggT P e=some agg) (hz:sizeT P e=some s.length) (h1:agg=false→s.length=1) :
  ∀ (k j:Nat) (xs ys:Array Value) (cx cy:List DV) (r:Bool) (w:World),RelC M ρ h cx xs (j * s.length)→RelC M ρ h cy ys (j * s.length)→eqCells (List.replicate k s).flatten cx cy=some r →
   (Op.eqItems d e s.length xs ys (List.range' j k)).run P w=.ok r w
 |0,j,xs,ys,cx,cy,r,w,hx,hy,he=>by
  simp only [List.replicate_zero,List.flatten_nil] at he
  obtain ⟨_,_,rfl⟩:=eqCells_nil he
  simp [Op.eqItems]
 |k+1,j,xs,ys,cx,cy,r,w,hx,hy,he=>by
  rw [List.replicate_succ,List.flatten_cons] at he
  obtain ⟨r1,r2,k1,k2,k3,k4,k5⟩:=eqCells_append s _ cx cy r he
  have hl1:=hx.1
  have hl2:=hy.1
  have p1:=part_run (P:=P) ha hz (off:=j * s.length) (vs:=xs) h1 (by omega) w
  have p2:=part_run (P:=P) ha hz (off:=j * s.length) (vs:=ys) h1 (by omega) w
  have p3:=hg xs ys _ _ _ _ r1 w (hx.take s.length) (hy.take s.length) k1
  unfold valOf at p3
  rw [List.range'_succ]
  simp only [Op.eqItems,Sem.run_bind,p1,p2,p3,Result.andThen_ok]
  cases r1 with
  |false=>simp [k3]
  |true =>
   simp only [Bool.not_true,Bool.false_eq_true,if_false,k3,Bool.true_and]
   refine eq_items hg ha hz h1 k (j+1) xs ys _ _ r2 w ?_ ?_ k2
   ·rw [show (j+1) * s.length=j * s.length+s.length by rw [Nat.succ_mul]];exact hx.drop _ k4
   ·rw [show (j+1) * s.length=j * s.length+s.length by rw [Nat.succ_mul]];exact hy.drop _ k5
theorem isAgg_of {t:TypeId} {d:TypeDesc} (hu:P.underlying t=some d) {agg:Bool} (ha:isAggT P t=some agg):agg=(match d with|.struct _=>true|.array _ _=>true|_=>false):=by
 unfold isAggT at ha
 rw [hu] at ha
 cases d<;>simp_all
theorem eq_run:∀ (n:Nat) (t:TypeId) (ks:List Nat) (agg:Bool) (m:Nat),shapeT P n t=some ks→isAggT P t=some agg→(agg=false→ks.length=1)→EqAt P M ρ h (n+m) t agg ks
 |0,_,_,_,_,hs,_,_=>by simp [shapeT] at hs
 |n+1,t,ks,agg,m,hs,ha,h1=>by
  intro xs ys ox oy cx cy r w hx hy he
  rw [show n+1+m=(n+m)+1 by omega]
  simp only [shapeT] at hs
  split at hs
  ·rename_i hu
   simp only [Option.some.injEq] at hs;subst hs
   have:=isAgg_of hu ha;simp only at this;subst this
   obtain ⟨x,y,rfl,rfl,rfl⟩:=eq_one0 he
   have r1:=hx.2 0 (by simp)
   have r2:=hy.2 0 (by simp)
   simp only [List.getD_cons_zero,Nat.add_zero] at r1 r2
   simp only [valOf,cond_false,r1.inv_bool,r2.inv_bool]
   exact run_equalIn_bool' w _ _ _ _ hu
  ·rename_i q hu
   simp only [Option.some.injEq] at hs;subst hs
   have:=isAgg_of hu ha;simp only at this;subst this
   obtain ⟨k,x,y,rfl,rfl,rfl⟩:=eq_one1 he
   have r1:=hx.2 0 (by simp)
   have r2:=hy.2 0 (by simp)
   simp only [List.getD_cons_zero,Nat.add_zero] at r1 r2
   simp only [valOf,cond_false,r1.inv_int,r2.inv_int]
   exact run_equalIn_int w _ _ _ _ _ _ hu
  ·rename_i hu
   simp only [Option.some.injEq] at hs;subst hs
   have:=isAgg_of hu ha;simp only at this;subst this
   obtain ⟨x,y,rfl,rfl,rfl⟩:=eq_one2 he
   have r1:=hx.2 0 (by simp)
   have r2:=hy.2 0 (by simp)
   simp only [List.getD_cons_zero,Nat.add_zero] at r1 r2
   simp only [valOf,cond_false,r1.inv_str,r2.inv_str]
   rw [run_equalIn_string w _ _ _ _ hu]
   congr 1
   simp only [ByteArray.toList_eq]
   exact Bool.eq_iff_iff.2 (by simp)
  ·rename_i fs hu
   have:=isAgg_of hu ha;simp only at this;subst this
   cases hst:P.stoodInHeld t with
   |true=>rw [hst] at hs;cases hs
   |false =>
    rw [hst] at hs
    simp only [cond_false] at hs
    obtain ⟨l1,l2⟩:=eqCells_length _ _ _ _ he
    have hfs:P.fieldsOf t=fs:=by simp [Program.fieldsOf,hu]
    simp only [valOf,cond_true]
    rw [run_equalIn_struct w (n+m) t _ _ (by rw [hfs];exact hu) hst,hfs]
    exact eq_fields (fun e s agg h2 h3 h4=>eq_run n e s agg m h2 h3 h4) fs.toList 0 ks hs _ _ cx cy r w (hx.extract _ l1) (hy.extract _ l2) he
  ·rename_i k e hu
   have:=isAgg_of hu ha;simp only at this;subst this
   split at hs
   ·rename_i s sz agg' e1 e2 e3
    cases hcnd:(Nat.beq s.length sz && (agg' || Nat.beq sz 1)) with
    |false=>rw [hcnd] at hs;cases hs
    |true =>
     rw [hcnd] at hs
     simp only [cond_true,Option.some.injEq] at hs;subst hs
     simp only [Bool.and_eq_true,Bool.or_eq_true] at hcnd
     have c3:=Nat.eq_of_beq_eq_true hcnd.1
     subst c3
     have h2:agg'=false→s.length=1:=fun e=>by
      rcases hcnd.2 with c4|c4
      ·rw [e] at c4;cases c4
      ·exact Nat.eq_of_beq_eq_true c4
     obtain ⟨l1,l2⟩:=eqCells_length _ _ _ _ he
     obtain ⟨i,hi⟩:∃ i,P.info? e=some i:=by
      unfold sizeT at e2
      cases hi:P.info? e with
      |none=>rw [hi] at e2;cases e2
      |some i=>exact ⟨i,rfl⟩
     have hcell:P.cellsOf e=s.length:=by
      unfold sizeT at e2
      rw [hi] at e2
      simp only [Option.map_some,Option.some.injEq] at e2
      simp [Program.cellsOf,hi,e2]
     simp only [valOf,cond_true]
     rw [run_equalIn_array w (n+m) _ _ hu hi,hcell,List.range_eq_range']
     exact eq_items (eq_run n e s agg' m e1 e3 h2) e3 e2 h2 k 0 _ _ cx cy r w (by rw [Nat.zero_mul];exact hx.extract _ l1) (by rw [Nat.zero_mul];exact hy.extract _ l2) he
   ·cases hs
  ·cases hs
end
section
variable {P:Program} {G:Nat→Option DV} {B:Base} {nt:Nat} {M0:Mem} {w0:World} {M:Mem} {ρ:Locs} {t:Tmps} {h:Heap} {a:Act} {w:World} {o:Oper}
theorem op_eqA (hG:GOk G M0) (S:Sim B nt M0 w0 M ρ t h a w) (neg:Bool) (ty ty':TypeId) (x y:Operand) (ks:List Nat) (ho:o.op=.binOp (bif neg then .neq else .eql) ty x y ty') (hs:shapeT P 20 ty=some ks)
  (hagg:isAggT P ty=some true) (hgd:P.eqGuardType P.depth ty=false) {cx cy:List DV} (hx:evalOpd G t x=.agg cx) (hy:evalOpd G t y=.agg cy) {e:Bool} (he:eqCells ks cx cy=some e) :
  OpGoal P B nt M0 w0 M ρ t h a w o (.bool (bif neg then !e else e)) []:=by
 have r1:=S.opd hG x;rw [hx] at r1
 have r2:=S.opd hG y;rw [hy] at r2
 obtain ⟨xs,v1,l1,q1⟩:=r1.inv_agg
 obtain ⟨ys,v2,l2,q2⟩:=r2.inv_agg
 obtain ⟨n1,n2⟩:=eqCells_length _ _ _ _ he
 have hrun:=eq_run (P:=P) (M:=M) (ρ:=ρ) (h:=h) 20 ty ks true 9980 hs hagg (fun e=>by cases e) xs ys 0 0 cx cy e w ⟨by omega,fun i hi=>by rw [Nat.zero_add];exact q1 i hi⟩ ⟨by omega,fun i hi=>by rw [Nat.zero_add];exact q2 i hi⟩ he
 have e1:xs.extract 0 (0+ks.length)=xs:=by rw [Nat.zero_add,n1.symm.trans l1];simp
 have e2:ys.extract 0 (0+ks.length)=ys:=by rw [Nat.zero_add,n2.symm.trans l2];simp
 simp only [valOf,cond_true,e1,e2] at hrun
 refine OpGoal.same S (v:=.bool (bif neg then !e else e)) ?_ (.pure (.bool _))
 cases neg
 ·simp only [execOp,ho,v1,v2,cond_false,Sem.run_bind,run_eqGuard_agg w _ _ _ _ _ _ hgd,Result.andThen_ok,run_eql_struct,hrun,Sem.run_pure]
 ·simp only [execOp,ho,v1,v2,cond_true,Sem.run_bind,run_eqGuard_agg w _ _ _ _ _ _ hgd,Result.andThen_ok,run_neq_struct,hrun,Sem.run_pure]
end
end Sh

/- What single operations come to: addresses and loads. -/
namespace Sh
open Go
theorem getElem_flat (l:List DV) (sz:Nat) (hsz:∀ e ∈ l,e.cells.length=sz):∀ (i j:Nat),i < l.length→j < sz→(flat l).getD (i * sz+j) .undef=((l.getD i .undef).cells).getD j .undef:=by
 induction l with
 |nil=>intro i j hi;simp at hi
 |cons e r ih =>
  intro i j hi hj
  have he:e.cells.length=sz:=hsz e (by simp)
  simp only [flat,List.flatMap_cons,List.getD_eq_getElem?_getD]
  cases i with
  |zero=>simp [List.getElem?_append,he,hj]
  |succ i =>
   have:=ih (fun e' he'=>hsz e' (by simp [he'])) i j (by simpa using hi) hj
   simp only [flat,List.getD_eq_getElem?_getD] at this
   rw [List.getElem?_append_right (by rw [he,Nat.succ_mul];omega)]
   rw [show (i+1) * sz+j - e.cells.length=i * sz+j by rw [he,Nat.succ_mul];omega]
   simpa using this
theorem length_flat (l:List DV) (sz:Nat) (hsz:∀ e ∈ l,e.cells.length=sz):(flat l).length=l.length * sz:=by
 induction l with
 |nil=>simp [flat]
 |cons e r ih =>
  simp only [flat,List.flatMap_cons,List.length_append,List.length_cons]
  have:=ih (fun e' he'=>hsz e' (by simp [he']))
  simp only [flat] at this
  rw [this,hsz e (by simp),Nat.succ_mul];omega
theorem add_lit (b o n:Nat):(⟨b,o,none⟩:Addr).add n=⟨b,o+n,none⟩:=Addr.add_mid b o n
theorem elem_ip {M:Mem} {l:List DV} {b o sz:Nat} {g:Nat→Value} (hsz:∀ e ∈ l,e.cells.length=sz) (hM:∀ i,i < (flat l).length→M b (o+i)=some (g i))
  (hr:∀ i,i < (flat l).length→RelP M ((flat l).getD i .undef) (g i)) {i:Nat} (hi:i < l.length):RelP M (.ip (l.getD i .undef)) (.pointer (some ⟨b,o+i * sz,none⟩)):=by
 have hmem:l.getD i .undef ∈ l:=by rw [getD_lt hi];exact List.getElem_mem hi
 have hlen:=hsz _ hmem
 have hfl:=length_flat l sz hsz
 have hlt:∀ j,j < sz→i * sz+j < (flat l).length:=fun j hj=>by
  rw [hfl]
  have:(i+1) * sz≤l.length * sz:=Nat.mul_le_mul_right _ hi
  rw [Nat.succ_mul] at this;omega
 refine .ip _ b (o+i * sz) (fun j=>g (i * sz+j)) (fun j hj=>?_) (fun j hj=>?_)
 ·rw [hlen] at hj
  have:=hM _ (hlt j hj)
  rwa [Nat.add_assoc]
 ·rw [hlen] at hj
  have:=hr _ (hlt j hj)
  rwa [getElem_flat l sz hsz i j hi hj] at this
theorem part_ip {M:Mem} {cs:List DV} {b o off sz:Nat} {agg:Bool} {g:Nat→Value} (hM:∀ i,i < cs.length→M b (o+i)=some (g i)) (hr:∀ i,i < cs.length→RelP M (cs.getD i .undef) (g i))
  (h1:agg=false→sz=1) (hb:off+sz≤cs.length) (ha:agg=false→isAggB (part agg off sz cs)=false):RelP M (.ip (part agg off sz cs)) (.pointer (some ⟨b,o+off,none⟩)):=by
 cases agg with
 |true =>
  refine .ip _ b (o+off) (fun j=>g (off+j)) (fun j hj=>?_) (fun j hj=>?_)
  ·simp only [part,DV.cells,cond_true,List.length_take,List.length_drop] at hj
   rw [Nat.add_assoc];exact hM _ (by omega)
  ·simp only [part,DV.cells,cond_true,List.length_take,List.length_drop] at hj ⊢
   rw [take_drop_getD _ _ _ _ _ (by omega)];exact hr _ (by omega)
 |false =>
  have e:=h1 rfl;subst e
  have ha:=ha rfl
  simp only [part,cond_false] at ha ⊢
  have hc:(cs.getD off .undef).cells=[cs.getD off .undef]:=by
   generalize cs.getD off .undef=d at *
   cases d<;>first|rfl|simp [isAggB] at ha
  refine .ip _ b (o+off) (fun j=>g (off+j)) (fun j hj=>?_) (fun j hj=>?_)
  ·rw [hc] at hj;simp at hj;subst hj
   simpa using hM off (by omega)
  ·rw [hc] at hj ⊢;simp at hj;subst hj
   simpa using hr off (by omega)
section
variable {P:Program} {G:Nat→Option DV} {B:Base} {nt:Nat} {M0:Mem} {w0:World} {M:Mem} {ρ:Locs} {t:Tmps} {h:Heap} {a:Act} {w:World} {o:Oper}
variable (hG:GOk G M0) (S:Sim B nt M0 w0 M ρ t h a w)
include hG S
theorem op_nilCheck (x:Operand) (d:DV) (p:Option Prop) (u:Heap) (ho:o.op=.nilCheck x) (lk:Nat→Option DObj) (hlk:lk=hlook h) (n:Nat) (he:evalOp (evalOpd G t) lk n (.nilCheck x)=.ok p d u) (hp:∀ q,p=some q→q) :
  OpGoal P B nt M0 w0 M ρ t h a w o d u:=by
 have r1:=S.opd hG x
 simp only [evalOp] at he
 split at he
 ·rename_i d' e
  rw [e] at r1;simp only [Ev.ok.injEq] at he;obtain ⟨rfl,rfl,rfl⟩:=he
  have r2:=r1.inv_ip
  revert r1;intro r1
  generalize hv:a.eval x=v at *
  cases r2 with
  |ip _ b o' g hM hr=>exact OpGoal.same S (by simp [execOp,ho,hv]) r1
 ·rename_i m i off tot e
  rw [e] at r1
  split at he
  ·rename_i sz es fr e3
   simp only [Ev.ok.injEq] at he;obtain ⟨rfl,rfl,rfl⟩:=he
   subst hlk
   obtain ⟨h1,h2,h3⟩:=r1.inv_ptr e3
   obtain ⟨b,c,h4,h5⟩:=h3 (hp _ rfl)
   refine OpGoal.same S (v:=a.eval x) ?_ r1
   rw [h5];simp [execOp,ho,h5]
  ·rename_i sz c isz es e3
   simp only [Ev.ok.injEq] at he;obtain ⟨rfl,rfl,rfl⟩:=he
   subst hlk
   obtain ⟨h1,h2,h3⟩:=r1.inv_nptr e3
   obtain ⟨b,c',h4,h5⟩:=h3 (hp _ rfl)
   refine OpGoal.same S (v:=a.eval x) ?_ r1
   rw [h5];simp [execOp,ho,h5]
  ·cases he
 ·rename_i m i j off tot e
  rw [e] at r1
  split at he
  ·rename_i sz c isz es e3
   split at he
   ·rename_i l e4
    simp only [Ev.ok.injEq] at he;obtain ⟨rfl,rfl,rfl⟩:=he
    subst hlk
    obtain ⟨_,h1,h2⟩:=r1.inv_sptr e3 (l:=l) (by unfold curL;exact e4)
    obtain ⟨h3,b,k,h4,h5⟩:=h2 (hp _ rfl)
    refine OpGoal.same S (v:=a.eval x) ?_ r1
    rw [h5];simp [execOp,ho,h5]
   ·cases he
  ·cases he
 ·rename_i m off e
  rw [e] at r1;simp only [Ev.ok.injEq] at he;obtain ⟨rfl,rfl,rfl⟩:=he
  obtain ⟨sz,b,c,d',e2,h2,h3⟩:=r1.inv_bptr
  refine OpGoal.same S (v:=a.eval x) ?_ r1
  rw [e2];simp [execOp,ho,e2]
 ·rename_i f cs e
  rw [e] at r1;simp only [Ev.ok.injEq] at he;obtain ⟨rfl,rfl,rfl⟩:=he
  obtain ⟨vs,e2,h2,h3⟩:=r1.inv_func
  refine OpGoal.same S (v:=a.eval x) ?_ r1
  rw [e2];simp [execOp,ho,e2]
 ·cases he
theorem fieldAt_run {s:TypeId} {f off sz:Nat} {agg:Bool} (hf:fieldOf P s f=some (off,sz,agg)) (b o':Nat) (w:World) :
  (Instr.fieldAt s (.pointer (some ⟨b,o',none⟩)) f).run P w=.ok (.pointer (some ⟨b,o'+off,none⟩)) w:=by
 obtain ⟨fs,fd,e1,e2,rfl,e4,e5,e6,e7⟩:=fieldOf_spec hf
 simp only [Instr.fieldAt,Sem.run_bind,run_underlying e1,Result.andThen_ok,e2,Instr.sureAddr,Sem.run_pure,fieldPlace,size_run e4,e6,if_false,add_lit]
theorem op_faddr_ip (s:TypeId) (x:Operand) (f off sz:Nat) (agg:Bool) (cs:List DV) (ho:o.op=.fieldAddr s x f) (hf:fieldOf P s f=some (off,sz,agg)) (hx:evalOpd G t x=.ip (.agg cs))
  (hb:off+sz≤cs.length) (ha:agg=false→isAggB (part agg off sz cs)=false):OpGoal P B nt M0 w0 M ρ t h a w o (.ip (part agg off sz cs)) []:=by
 obtain ⟨fs,fd,e1,e2,e3,e4,e5,e6,e7⟩:=fieldOf_spec hf
 have r1:=S.opd hG x;rw [hx] at r1
 have r2:=r1.inv_ip
 generalize hv:a.eval x=v at *
 cases r2 with
 |ip _ b o' g hM hr =>
  refine OpGoal.same S (v:=.pointer (some ⟨b,o'+off,none⟩)) ?_ (.pure (part_ip hM hr e7 hb ha))
  simp only [execOp,ho,hv,Sem.run_bind,fieldAt_run hG S hf,Result.andThen_ok,Sem.run_pure]
theorem op_faddr_bptr (s:TypeId) (x:Operand) (f off sz:Nat) (agg:Bool) (n o1:Nat) (ho:o.op=.fieldAddr s x f) (hf:fieldOf P s f=some (off,sz,agg)) (hx:evalOpd G t x=.bptr n o1) :
  OpGoal P B nt M0 w0 M ρ t h a w o (.bptr n (o1+off)) []:=by
 have r1:=S.opd hG x;rw [hx] at r1
 obtain ⟨sz',b,c,d',e2,h2,h3⟩:=r1.inv_bptr
 refine OpGoal.same S (v:=.pointer (some ⟨b,o1+off,none⟩)) ?_ (RelV.ofBox _ h2 h3)
 simp only [execOp,ho,e2,Sem.run_bind,fieldAt_run hG S hf,Result.andThen_ok,Sem.run_pure]
theorem op_faddr_ptr (s:TypeId) (x:Operand) (f off sz:Nat) (agg:Bool) (n i o1 tot sz':Nat) (es:List DV) (fr:Bool) (ho:o.op=.fieldAddr s x f) (hf:fieldOf P s f=some (off,sz,agg))
  (hx:evalOpd G t x=.ptr n i o1 tot) (hl:hlook h n=some (.row sz' es fr)) (ht:tot=es.length):OpGoal P B nt M0 w0 M ρ t h a w o (.ptr n i (o1+off) tot) []:=by
 have r1:=S.opd hG x;rw [hx] at r1
 obtain ⟨h1,h2,h3⟩:=r1.inv_ptr hl
 obtain ⟨b,c,h4,h5⟩:=h3 ht
 refine OpGoal.same S (v:=.pointer (some ⟨b,i * sz'+o1+off,none⟩)) ?_ (.ptr _ _ _ _ _ _ _ _ hl h1 h2 ⟨_,rfl⟩ (fun _=>⟨b,c,h4,by rw [Nat.add_assoc]⟩))
 simp only [execOp,ho,h5,Sem.run_bind,fieldAt_run hG S hf,Result.andThen_ok,Sem.run_pure]
theorem indexAt_slice {ty e:TypeId} {sz:Nat} (ht:P.underlying ty=some (.slice e)) (hs:sizeT P e=some sz) (k:IntKind) (n:Int) (b o' len cap:Nat) (hb:0≤n∧n < len) (w:World) :
  (Instr.indexAt ty (.slice (some ⟨b,o',none⟩) len cap) (.int k n)).run P w=.ok (.pointer (some ⟨b,o'+n.toNat * sz,none⟩)) w:=by
 simp only [Instr.indexAt,asIntOf,Sem.run_bind,Sem.run_pure,Result.andThen_ok,run_underlying ht,hb.1,hb.2,and_self,if_true,size_run hs,add_lit]
theorem op_iaddr_imm (ty e:TypeId) (x i:Operand) (sz:Nat) (l:List DV) (k:IntKind) (n:Int) (ho:o.op=.indexAddr ty x i) (ht:P.underlying ty=some (.slice e)) (hs:sizeT P e=some sz)
  (hx:evalOpd G t x=.list l∨evalOpd G t x=.full l) (hi:evalOpd G t i=.int k n) (hb:0≤n∧n < l.length∧(l.getD n.toNat .undef).cells.length=sz) :
  OpGoal P B nt M0 w0 M ρ t h a w o (.ip (l.getD n.toNat .undef)) []:=by
 obtain ⟨hb1,hb2,hb3⟩:=hb
 have hlt:n.toNat < l.length:=by omega
 have r2:=S.opd hG i;rw [hi] at r2
 have ei:=r2.inv_int
 have key:∃ b o' cap,a.eval x=.slice (some ⟨b,o',none⟩) l.length cap∧RelP M (.ip (l.getD n.toNat .undef)) (.pointer (some ⟨b,o'+n.toNat * sz,none⟩)):=by
  have hne:l≠[]:=by intro e;subst e;simp at hlt
  have hmem:l.getD n.toNat .undef ∈ l:=by rw [getD_lt hlt];exact List.getElem_mem hlt
  have r1:=S.opd hG x
  generalize a.eval x=v at *
  rcases hx with hx|hx<;>rw [hx] at r1
  ·have r3:=r1.inv_list
   cases r3 with
   |list _ a' cap sz' b o' g hcap ha hsz hM hr =>
    have e1:sz'=sz:=by rw [← hsz _ hmem];exact hb3
    subst e1
    rcases ha with ha|ha
    ·exact absurd ha hne
    ·exact ⟨b,o',cap,by rw [ha],elem_ip hsz hM hr hlt⟩
  ·have r3:=r1.inv_full
   cases r3 with
   |full _ a' sz' b o' g ha hsz hM hr =>
    have e1:sz'=sz:=by rw [← hsz _ hmem];exact hb3
    subst e1
    rcases ha with ha|ha
    ·exact absurd ha hne
    ·exact ⟨b,o',_,by rw [ha],elem_ip hsz hM hr hlt⟩
 obtain ⟨b,o',cap,e1,h1⟩:=key
 refine OpGoal.same S ?_ (.pure h1)
 simp only [execOp,ho,e1,ei,Sem.run_bind,indexAt_slice hG S ht hs k n b o' l.length cap ⟨hb1,hb2⟩,Result.andThen_ok,Sem.run_pure]
theorem op_iaddr_own (ty e:TypeId) (x i:Operand) (sz:Nat) (m off len tot:Nat) (es:List DV) (fr:Bool) (k:IntKind) (n:Int) (ho:o.op=.indexAddr ty x i) (ht:P.underlying ty=some (.slice e)) (hs:sizeT P e=some sz)
  (hx:evalOpd G t x=.own m off len tot) (hl:hlook h m=some (.row sz es fr)) (hi:evalOpd G t i=.int k n) (hb:tot=es.length∧0≤n∧n < len) :
  OpGoal P B nt M0 w0 M ρ t h a w o (.ptr m (off+n.toNat) 0 tot) []:=by
 obtain ⟨hb0,hb1,hb2⟩:=hb
 have r2:=S.opd hG i;rw [hi] at r2
 have ei:=r2.inv_int
 have r1:=S.opd hG x;rw [hx] at r1
 obtain ⟨h1,h2⟩:=r1.inv_own hl
 obtain ⟨h3,h4⟩:=h2 hb0
 cases hρ:ρ m with
 |none =>
  exfalso
  have:=S.obj m _ hl
  simp only [ObjRel,hρ] at this
  subst this;simp at hb0;omega
 |some bc =>
  obtain ⟨b,c⟩:=bc
  rw [hρ] at h4
  obtain ⟨a',e1,h5⟩:=h4
  rcases h5 with h5|h5
  ·subst h5
   refine OpGoal.same S (v:=.pointer (some ⟨b,off * sz+n.toNat * sz,none⟩)) ?_ (.ptr _ _ _ _ _ _ _ _ hl h1 (by omega) ⟨_,rfl⟩ (fun _=>⟨b,c,hρ,by rw [Nat.add_mul,Nat.add_zero]⟩))
   simp only [execOp,ho,e1,ei,Sem.run_bind,indexAt_slice hG S ht hs k n b (off * sz) len (c - off) ⟨hb1,hb2⟩,Result.andThen_ok,Sem.run_pure]
  ·omega
theorem indexAt_array {ty e:TypeId} {sz len:Nat} (ht:P.underlying ty=some (.array len e)) (hs:sizeT P e=some sz) (k:IntKind) (n:Int) (b o':Nat) (hb:0≤n∧n < len) (w:World) :
  (Instr.indexAt ty (.pointer (some ⟨b,o',none⟩)) (.int k n)).run P w=.ok (.pointer (some ⟨b,o'+n.toNat * sz,none⟩)) w:=by
 simp only [Instr.indexAt,asIntOf,Sem.run_bind,Sem.run_pure,Result.andThen_ok,run_underlying ht,Instr.sureAddr,hb.1,hb.2,and_self,if_true,size_run hs,add_lit]
theorem op_iaddrA_ip (ty e:TypeId) (x i:Operand) (len esz:Nat) (agg:Bool) (cs:List DV) (k:IntKind) (n:Int) (ho:o.op=.indexAddr ty x i) (ht:P.underlying ty=some (.array len e)) (hs:sizeT P e=some esz)
  (h1:agg=false→esz=1) (hx:evalOpd G t x=.ip (.agg cs)) (hi:evalOpd G t i=.int k n) (hb:0≤n∧n < len∧cs.length=len * esz∧isAggB (part agg (n.toNat * esz) esz cs)=agg) :
  OpGoal P B nt M0 w0 M ρ t h a w o (.ip (part agg (n.toNat * esz) esz cs)) []:=by
 obtain ⟨hb1,hb2,hb3,hb4⟩:=hb
 have r2:=S.opd hG i;rw [hi] at r2
 have ei:=r2.inv_int
 have r1:=S.opd hG x;rw [hx] at r1
 have r2:=r1.inv_ip
 have hle:n.toNat * esz+esz≤cs.length:=by
  rw [hb3,← Nat.succ_mul];exact Nat.mul_le_mul_right _ (by omega)
 generalize hv:a.eval x=v at *
 cases r2 with
 |ip _ b o' g hM hr =>
  refine OpGoal.same S (v:=.pointer (some ⟨b,o'+n.toNat * esz,none⟩)) ?_ (.pure (part_ip hM hr h1 hle (fun e=>by rw [hb4];exact e)))
  simp only [execOp,ho,hv,ei,Sem.run_bind,indexAt_array hG S ht hs k n b o' ⟨hb1,hb2⟩,Result.andThen_ok,Sem.run_pure]
theorem op_iaddrA_bptr (ty e:TypeId) (x i:Operand) (len esz:Nat) (m o1:Nat) (k:IntKind) (n:Int) (ho:o.op=.indexAddr ty x i) (ht:P.underlying ty=some (.array len e)) (hs:sizeT P e=some esz)
  (hx:evalOpd G t x=.bptr m o1) (hi:evalOpd G t i=.int k n) (hb:0≤n∧n < len):OpGoal P B nt M0 w0 M ρ t h a w o (.bptr m (o1+n.toNat * esz)) []:=by
 have r2:=S.opd hG i;rw [hi] at r2
 have ei:=r2.inv_int
 have r1:=S.opd hG x;rw [hx] at r1
 obtain ⟨sz',b,c,d',e2,h2,h3⟩:=r1.inv_bptr
 refine OpGoal.same S (v:=.pointer (some ⟨b,o1+n.toNat * esz,none⟩)) ?_ (RelV.ofBox _ h2 h3)
 simp only [execOp,ho,e2,ei,Sem.run_bind,indexAt_array hG S ht hs k n b o1 hb,Result.andThen_ok,Sem.run_pure]
theorem op_iaddrA_ptr (ty e:TypeId) (x i:Operand) (len esz:Nat) (m j o1 tot sz':Nat) (es:List DV) (fr:Bool) (k:IntKind) (n:Int) (ho:o.op=.indexAddr ty x i) (ht:P.underlying ty=some (.array len e)) (hs:sizeT P e=some esz)
  (hx:evalOpd G t x=.ptr m j o1 tot) (hl:hlook h m=some (.row sz' es fr)) (hi:evalOpd G t i=.int k n) (hb:tot=es.length∧0≤n∧n < len):OpGoal P B nt M0 w0 M ρ t h a w o (.ptr m j (o1+n.toNat * esz) tot) []:=by
 have r2:=S.opd hG i;rw [hi] at r2
 have ei:=r2.inv_int
 have r1:=S.opd hG x;rw [hx] at r1
 obtain ⟨h1,h2,h3⟩:=r1.inv_ptr hl
 obtain ⟨b,c,h4,h5⟩:=h3 hb.1
 refine OpGoal.same S (v:=.pointer (some ⟨b,j * sz'+o1+n.toNat * esz,none⟩)) ?_ (.ptr _ _ _ _ _ _ _ _ hl h1 h2 ⟨_,rfl⟩ (fun _=>⟨b,c,h4,by rw [Nat.add_assoc]⟩))
 simp only [execOp,ho,h5,ei,Sem.run_bind,indexAt_array hG S ht hs k n b _ hb.2,Result.andThen_ok,Sem.run_pure]
end
end Sh

/- What single operations come to: loads,lengths,windows. -/
namespace Sh
open Go
def gcells (g:Nat→Value) (k:Nat):Array Value:=((List.range k).map g).toArray
theorem gcells_size (g:Nat→Value) (k:Nat):(gcells g k).size=k:=by simp [gcells]
theorem gcells_getD (g:Nat→Value) {k i:Nat} (hi:i < k):(gcells g k).getD i Go.undef=g i:=by
 rw [agetD_lt (by rw [gcells_size];exact hi)];simp [gcells]
theorem elemT_spec {P:Program} {e:TypeId} {sz:Nat} {agg:Bool} (he:elemT P e=some (sz,agg)):sizeT P e=some sz∧isAggT P e=some agg∧sz≠0∧(agg=false→sz=1)∧bytesOk P e=true:=by
 unfold elemT at he
 split at he
 ·rename_i s' a' e1 e2
  cases hc:(Nat.beq s' 0 || (!a' && !Nat.beq s' 1) || !bytesOk P e) with
  |true=>rw [hc] at he;cases he
  |false =>
   rw [hc] at he
   simp only [cond_false,Option.some.injEq,Prod.mk.injEq] at he
   obtain ⟨rfl,rfl⟩:=he
   rw [natbeq,natbeq] at hc
   simp only [Bool.or_eq_false_iff] at hc
   refine ⟨e1,e2,?_,?_,?_⟩
   ·intro e5;subst e5;simp at hc
   ·intro e5;subst e5;simpa using hc.1.2
   ·simpa using hc.2
 ·cases he
theorem loadVar_run {P:Program} {ty:TypeId} {k:Nat} {agg:Bool} (he:elemT P ty=some (k,agg)) {b o:Nat} {g:Nat→Value} {w:World} (hc:∀ j,j < k→w.cell? ⟨b,o+j,none⟩=some (g j)) :
  (loadVar ty ⟨b,o,none⟩).run P w=.ok (bif agg then .agg (gcells g k) else g 0) w:=by
 obtain ⟨h1,h2,h3,h4,h5⟩:=elemT_spec he
 cases agg with
 |true =>
  have hl:(loadCells ⟨b,o,none⟩ k).run P w=.ok (gcells g k) w:=by
   have:=run_loadCells_list (P:=P) w ⟨b,o,none⟩ ((List.range k).map g) (fun j v hv=>by
    rw [Addr.add_mid]
    rw [List.getElem?_map] at hv
    cases hj:(List.range k)[j]? with
    |none=>rw [hj] at hv;cases hv
    |some j' =>
     rw [hj] at hv
     have:j < k∧j'=j:=by
      have h6:=List.getElem?_eq_some_iff.1 hj
      obtain ⟨h7,h8⟩:=h6
      simp at h7 h8
      exact ⟨h7,h8.symm⟩
     obtain ⟨h6,rfl⟩:=this
     simp only [Option.map_some,Option.some.injEq] at hv
     rw [← hv];exact hc _ h6)
   simpa [gcells] using this
  unfold loadVar
  rw [Sem.run_bind,isAgg_run h2,Result.andThen_ok]
  simp [size_run h1,hl]
 |false =>
  have:=h4 rfl;subst this
  have h6:=hc 0 (by omega)
  unfold loadVar
  rw [Sem.run_bind,isAgg_run h2,Result.andThen_ok]
  simp only [Nat.add_zero] at h6
  simp [load,Sem.run,h6]
theorem loadVar_run1 {P:Program} {ty:TypeId} (he:elemT P ty=some (1,false)) {b o:Nat} {v:Value} {w:World} (hc:w.cell? ⟨b,o,none⟩=some v):(loadVar ty ⟨b,o,none⟩).run P w=.ok v w:=by
 have:=loadVar_run (P:=P) he (b:=b) (o:=o) (g:=fun _=>v) (w:=w) (fun j hj=>by
  have e:j=0:=by omega
  subst e;exact hc)
 simpa using this
theorem cells_ne_agg {d:DV} (h:isAggB d=false):d.cells=[d]:=by cases d<;>first|rfl|simp [isAggB] at h
theorem cell_of_heap {w:World} {b:Nat} {cs:Array Value} {ty:TypeId} {fz:Nat×Nat} (h:w.heap[b]?=some (.cells cs ty fz)) (j:Nat):w.cell? ⟨b,j,none⟩=cs[j]?:=by
 simp [World.cell?,h]
theorem okE_spec {sz:Nat} {d:DV} (h:okE sz d=true):d.cells.length=sz∧cellsB d.cells=true:=by
 unfold okE at h
 rw [natbeq] at h
 simpa using h
section
variable {P:Program} {G:Nat→Option DV} {B:Base} {nt:Nat} {M0:Mem} {w0:World} {M:Mem} {ρ:Locs} {t:Tmps} {h:Heap} {a:Act} {w:World} {o:Oper}
variable (hG:GOk G M0) (S:Sim B nt M0 w0 M ρ t h a w)
include hG S
theorem op_load_ip (ty:TypeId) (x:Operand) (d:DV) (ho:o.op=.load ty x) (he:elemT P ty=some (1,false)) (hx:evalOpd G t x=.ip d) (ha:isAggB d=false):OpGoal P B nt M0 w0 M ρ t h a w o d []:=by
 have r1:=S.opd hG x;rw [hx] at r1
 have r2:=r1.inv_ip
 generalize hv:a.eval x=v at *
 cases r2 with
 |ip _ b o' g hM hr =>
  rw [cells_ne_agg ha] at hM hr
  have h1:=hM 0 (by simp)
  have h2:=hr 0 (by simp)
  refine OpGoal.same S (v:=g 0) ?_ (.pure (by simpa using h2))
  have:=loadVar_run (P:=P) he (b:=b) (o:=o') (g:=g) (w:=w) (fun j hj=>S.mem _ _ _ (hM j (by simpa using hj)))
  simp only [execOp,ho,hv,Instr.loadAt,Instr.sureAddr,Sem.run_bind,Sem.run_pure,Result.andThen_ok,this,cond_false]
theorem op_load_ip_agg (ty:TypeId) (x:Operand) (cs:List DV) (k:Nat) (ho:o.op=.load ty x) (he:elemT P ty=some (k,true)) (hx:evalOpd G t x=.ip (.agg cs)) (hk:cs.length=k):OpGoal P B nt M0 w0 M ρ t h a w o (.agg cs) []:=by
 have r1:=S.opd hG x;rw [hx] at r1
 have r2:=r1.inv_ip
 generalize hv:a.eval x=v at *
 subst hk
 cases r2 with
 |ip _ b o' g hM hr =>
  simp only [DV.cells] at hM hr
  refine OpGoal.same S (v:=.agg (gcells g cs.length)) ?_ (.pure (.agg _ _ (by rw [gcells_size]) (fun i hi=>by rw [gcells_getD g hi];exact hr i hi)))
  have:=loadVar_run (P:=P) he (b:=b) (o:=o') (g:=g) (w:=w) (fun j hj=>S.mem _ _ _ (hM j hj))
  simp only [execOp,ho,hv,Instr.loadAt,Instr.sureAddr,Sem.run_bind,Sem.run_pure,Result.andThen_ok,this,cond_true]
theorem box_cells {n sz:Nat} {d:DV} (hl:hlook h n=some (.box sz d)∨hlook h n=some (.fbox sz d)) {b c:Nat} (hρ:ρ n=some (b,c)):∃ cs ty,w.heap[b]?=some (.cells cs ty (0,0))∧cs.size=sz∧d.cells.length=sz∧cellsB d.cells=true ∧
  ∀ i,i < sz→w.cell? ⟨b,i,none⟩=some (cs.getD i Go.undef)∧RelV M ρ h (d.cells.getD i .undef) (cs.getD i Go.undef):=by
 rcases hl with hl|hl
 ·obtain ⟨b',c',h1,h2,cs,ty,h3,h4,h5,h6,h7⟩:=S.obj n _ hl
  rw [hρ] at h1
  obtain ⟨rfl,rfl⟩:b=b'∧c=c':=by simpa using h1
  obtain ⟨h8,h9⟩:=okE_spec h5
  refine ⟨cs,_,h3,h4,h8,h9,fun i hi=>⟨?_,h6 i hi⟩⟩
  rw [cell_of_heap h3,agetD_lt (by omega),Array.getElem?_eq_getElem (by omega)]
 ·obtain ⟨b',c',h1,h2,cs,ty,h3,h4,h5,h6,h7⟩:=S.obj n _ hl
  rw [hρ] at h1
  obtain ⟨rfl,rfl⟩:b=b'∧c=c':=by simpa using h1
  obtain ⟨h8,h9⟩:=okE_spec h5
  refine ⟨cs,_,h3,h4,h8,h9,fun i hi=>⟨?_,.pure (h6 i hi)⟩⟩
  rw [cell_of_heap h3,agetD_lt (by omega),Array.getElem?_eq_getElem (by omega)]
theorem op_load_box (ty:TypeId) (x:Operand) (n off sz:Nat) (d:DV) (ho:o.op=.load ty x) (he:elemT P ty=some (1,false)) (hx:evalOpd G t x=.bptr n off) (hl:hlook h n=some (.box sz d)∨hlook h n=some (.fbox sz d)) (hb:off < sz) :
  OpGoal P B nt M0 w0 M ρ t h a w o (d.cells.getD off .undef) []:=by
 have r1:=S.opd hG x;rw [hx] at r1
 obtain ⟨sz',b,c,d',e2,h2,h3⟩:=r1.inv_bptr
 obtain ⟨cs,ty',e3,e4,e5,e6,e7⟩:=box_cells hG S hl h3
 obtain ⟨h4,h5⟩:=e7 off hb
 refine OpGoal.same S (v:=cs.getD off Go.undef) ?_ h5
 have:=loadVar_run1 (P:=P) he h4
 simp only [execOp,ho,e2,Instr.loadAt,Instr.sureAddr,Sem.run_bind,Sem.run_pure,Result.andThen_ok,this]
theorem op_load_box_agg (ty:TypeId) (x:Operand) (n off sz k:Nat) (d:DV) (ho:o.op=.load ty x) (he:elemT P ty=some (k,true)) (hx:evalOpd G t x=.bptr n off) (hl:hlook h n=some (.box sz d)∨hlook h n=some (.fbox sz d)) (hb:off+k≤sz) :
  OpGoal P B nt M0 w0 M ρ t h a w o (.agg ((d.cells.drop off).take k)) []:=by
 have r1:=S.opd hG x;rw [hx] at r1
 obtain ⟨sz',b,c,d',e2,h2,h3⟩:=r1.inv_bptr
 obtain ⟨cs,ty',e3,e4,e5,e6,e7⟩:=box_cells hG S hl h3
 refine OpGoal.same S (v:=.agg (gcells (fun j=>cs.getD (off+j) Go.undef) k)) ?_ (.agg _ _ (by rw [gcells_size];simp;omega) (fun i hi=>?_))
 ·have:=loadVar_run (P:=P) he (b:=b) (o:=off) (g:=fun j=>cs.getD (off+j) Go.undef) (w:=w) (fun j hj=>(e7 (off+j) (by omega)).1)
  simp only [execOp,ho,e2,Instr.loadAt,Instr.sureAddr,Sem.run_bind,Sem.run_pure,Result.andThen_ok,this,cond_true]
 ·have hi':i < k:=by simp at hi;omega
  rw [gcells_getD _ hi',take_drop_getD _ _ _ _ _ hi']
  exact (e7 (off+i) (by omega)).2
theorem row_cells {n sz:Nat} {es:List DV} {fr:Bool} (hl:hlook h n=some (.row sz es fr)) {b c:Nat} (hρ:ρ n=some (b,c)):∃ cs ty,RowAt fr w b cs ty∧cs.size=c * sz∧es.length≤c∧(∀ e ∈ es,okE sz e=true) ∧
  ∀ i j,i < es.length→j < sz→w.cell? ⟨b,i * sz+j,none⟩=some (cs.getD (i * sz+j) Go.undef)∧RelP M ((es.getD i .undef).cells.getD j .undef) (cs.getD (i * sz+j) Go.undef):=by
 have h1:=S.obj n _ hl
 simp only [ObjRel,hρ] at h1
 obtain ⟨h2,cs,ty,h3,h4,h5,h6,h7,h8,h9⟩:=h1
 refine ⟨cs,_,h3,h4,h5,h6,fun i j hi hj=>?_⟩
 have hs:∀ e ∈ es,e.cells.length=sz:=fun e he=>(okE_spec (h6 e he)).1
 have hlt:i * sz+j < es.length * sz:=by
  have:(i+1) * sz≤es.length * sz:=Nat.mul_le_mul_right _ hi
  rw [Nat.succ_mul] at this;omega
 have hlt2:i * sz+j < cs.size:=by
  have:es.length * sz≤c * sz:=Nat.mul_le_mul_right _ h5
  omega
 refine ⟨?_,?_⟩
 ·obtain ⟨fz,h3',_⟩:=h3
  rw [cell_of_heap h3',agetD_lt hlt2,Array.getElem?_eq_getElem hlt2]
 ·have:=h7 (i * sz+j) (by rw [length_flat es sz hs];exact hlt)
  rwa [getElem_flat es sz hs i j hi hj] at this
theorem op_load_row (ty:TypeId) (x:Operand) (n i off tot sz:Nat) (es:List DV) (fr:Bool) (ho:o.op=.load ty x) (he:elemT P ty=some (1,false)) (hx:evalOpd G t x=.ptr n i off tot) (hl:hlook h n=some (.row sz es fr))
  (hb:tot=es.length∧off < sz):OpGoal P B nt M0 w0 M ρ t h a w o ((es.getD i .undef).cells.getD off .undef) []:=by
 have r1:=S.opd hG x;rw [hx] at r1
 obtain ⟨h1,h2,h3⟩:=r1.inv_ptr hl
 obtain ⟨b,c,h4,h5⟩:=h3 hb.1
 obtain ⟨cs,ty',e3,e4,e5,e6,e7⟩:=row_cells hG S hl h4
 obtain ⟨h6,h7⟩:=e7 i off (by omega) hb.2
 refine OpGoal.same S (v:=cs.getD (i * sz+off) Go.undef) ?_ (.pure h7)
 have:=loadVar_run1 (P:=P) he h6
 simp only [execOp,ho,h5,Instr.loadAt,Instr.sureAddr,Sem.run_bind,Sem.run_pure,Result.andThen_ok,this]
theorem op_load_row_agg (ty:TypeId) (x:Operand) (n i off tot sz k:Nat) (es:List DV) (fr:Bool) (ho:o.op=.load ty x) (he:elemT P ty=some (k,true)) (hx:evalOpd G t x=.ptr n i off tot) (hl:hlook h n=some (.row sz es fr))
  (hb:tot=es.length∧off+k≤sz):OpGoal P B nt M0 w0 M ρ t h a w o (.agg (((es.getD i .undef).cells.drop off).take k)) []:=by
 have r1:=S.opd hG x;rw [hx] at r1
 obtain ⟨h1,h2,h3⟩:=r1.inv_ptr hl
 obtain ⟨b,c,h4,h5⟩:=h3 hb.1
 obtain ⟨cs,ty',e3,e4,e5,e6,e7⟩:=row_cells hG S hl h4
 have hi:i < es.length:=by omega
 have hlen:(es.getD i .undef).cells.length=sz:=(okE_spec (e6 _ (by rw [getD_lt hi];exact List.getElem_mem hi))).1
 refine OpGoal.same S (v:=.agg (gcells (fun j=>cs.getD (i * sz+(off+j)) Go.undef) k)) ?_ (.agg _ _ (by rw [gcells_size,List.length_take,List.length_drop];omega) (fun j hj=>?_))
 ·have:=loadVar_run (P:=P) he (b:=b) (o:=i * sz+off) (g:=fun j=>cs.getD (i * sz+(off+j)) Go.undef) (w:=w) (fun j hj=>by rw [Nat.add_assoc];exact (e7 i (off+j) hi (by omega)).1)
  simp only [execOp,ho,h5,Instr.loadAt,Instr.sureAddr,Sem.run_bind,Sem.run_pure,Result.andThen_ok,this,cond_true]
 ·have hj':j < k:=by simp at hj;omega
  rw [gcells_getD _ hj',take_drop_getD _ _ _ _ _ hj']
  exact .pure (e7 i (off+j) hi (by omega)).2
theorem whole_agg {d:DV} {sz:Nat} (ha:isAggB d=true) (hl:d.cells.length=sz):DV.agg ((d.cells.drop 0).take sz)=d:=by
 cases d<;>first|(simp [isAggB] at ha;done)|skip
 rename_i cs
 simp only [DV.cells] at hl ⊢
 subst hl;simp
end
end Sh

/- What single operations come to: lengths,windows,literals that nobody writes,equality. -/
namespace Sh
open Go
theorem flat_window (l:List DV) (sz:Nat) (hsz:∀ e ∈ l,e.cells.length=sz) (off len:Nat):∀ i,i < (flat (window l off len)).length→(flat (window l off len)).getD i .undef=(flat l).getD (off * sz+i) .undef:=by
 intro i hi
 have hw:∀ e ∈ window l off len,e.cells.length=sz:=fun e he=>hsz e (List.mem_of_mem_drop (List.mem_of_mem_take he))
 rw [length_flat _ sz hw] at hi
 have hlen:(window l off len).length=min len (l.length - off):=by simp [window]
 by_cases hs:sz=0
 ·subst hs;simp at hi
 obtain ⟨q,r,hq,hm,hdm⟩:∃ q r,q < (window l off len).length∧r < sz∧q * sz+r=i :=
  ⟨i / sz,i % sz,(Nat.div_lt_iff_lt_mul (by omega)).2 hi,Nat.mod_lt _ (by omega),by rw [Nat.mul_comm];exact Nat.div_add_mod i sz⟩
 subst hdm
 rw [getElem_flat (window l off len) sz hw q r hq hm]
 have e2:=getElem_flat l sz hsz (off+q) r (by omega) hm
 rw [show (off+q) * sz+r=off * sz+(q * sz+r) by rw [Nat.add_mul];omega] at e2
 rw [e2]
 unfold window
 rw [take_drop_getD _ _ _ _ _ (by omega)]
theorem window_list {M:Mem} {l:List DV} {b o sz:Nat} {g:Nat→Value} (hsz:∀ e ∈ l,e.cells.length=sz) (hM:∀ i,i < (flat l).length→M b (o+i)=some (g i))
  (hr:∀ i,i < (flat l).length→RelP M ((flat l).getD i .undef) (g i)) (off len cap:Nat) (hb:off+len≤l.length) (hc:len≤cap) (a:Option Addr) (ha:len=0∨a=some ⟨b,o+off * sz,none⟩) :
  RelP M (.list (window l off len)) (.slice a len cap):=by
 have hlen:(window l off len).length=len:=by simp [window];omega
 have hw:∀ e ∈ window l off len,e.cells.length=sz:=fun e he=>hsz e (List.mem_of_mem_drop (List.mem_of_mem_take he))
 have hfl:=length_flat _ sz hw
 rw [hlen] at hfl
 have hlt:∀ i,i < (flat (window l off len)).length→off * sz+i < (flat l).length:=fun i hi=>by
  rw [hfl] at hi
  rw [length_flat l sz hsz]
  have:(off+len) * sz≤l.length * sz:=Nat.mul_le_mul_right _ hb
  rw [Nat.add_mul] at this;omega
 have key:=RelP.list (M:=M) (window l off len) a cap sz b (o+off * sz) (fun i=>g (off * sz+i)) (by omega) (by
   rcases ha with ha|ha
   ·left;exact List.eq_nil_of_length_eq_zero (by omega)
   ·right;exact ha) hw (fun i hi=>by rw [Nat.add_assoc];exact hM _ (hlt i hi)) (fun i hi=>by
    rw [flat_window l sz hsz off len i hi];exact hr _ (hlt i hi))
 rwa [hlen] at key
section
variable {P:Program} {G:Nat→Option DV} {B:Base} {nt:Nat} {M0:Mem} {w0:World} {M:Mem} {ρ:Locs} {t:Tmps} {h:Heap} {a:Act} {w:World} {o:Oper}
variable (hG:GOk G M0) (S:Sim B nt M0 w0 M ρ t h a w)
include hG S
theorem op_len (args:Array Operand) (ts:Array TypeId) (ty:TypeId) (x:Operand) (v:Value) (n:Nat) (ho:o.op=.call ⟨.builtin .len,#[x],#[ty]⟩) (hv:a.eval x=v)
  (hr:∀ w,(Builtin.len_ #[ty] o.type #[v]).run P w=.ok (goInt n) w):OpGoal P B nt M0 w0 M ρ t h a w o (.int .i64 n) []:=by
 refine OpGoal.same S (v:=.int .i64 n) ?_ (.pure (.int _ _))
 simp only [execOp,ho,resolve,Array.map_singleton,invoke,builtin,Sem.run_bind,Sem.run_pure,Result.andThen_ok,hv,hr,goInt]
theorem op_len_slice (ty e:TypeId) (x:Operand) (n:Nat) (b:Option Addr) (cap:Nat) (ho:o.op=.call ⟨.builtin .len,#[x],#[ty]⟩) (ht:P.underlying ty=some (.slice e)) (hv:a.eval x=.slice b n cap) :
  OpGoal P B nt M0 w0 M ρ t h a w o (.int .i64 n) [] :=
 op_len hG S #[] #[] ty x _ n ho hv (fun w=>by simp [Builtin.len_,run_underlying ht])
theorem op_len_str (ty:TypeId) (x:Operand) (s:List UInt8) (ho:o.op=.call ⟨.builtin .len,#[x],#[ty]⟩) (ht:P.underlying ty=some .string) (hx:evalOpd G t x=.str s) :
  OpGoal P B nt M0 w0 M ρ t h a w o (.int .i64 s.length) []:=by
 have r1:=S.opd hG x;rw [hx] at r1
 exact op_len hG S #[] #[] ty x _ s.length ho r1.inv_str (fun w=>by simp [Builtin.len_,run_underlying ht,bsize])
theorem op_len_arr (ty e:TypeId) (n:Nat) (x:Operand) (ho:o.op=.call ⟨.builtin .len,#[x],#[ty]⟩) (ht:P.underlying ty=some (.array n e)):OpGoal P B nt M0 w0 M ρ t h a w o (.int .i64 n) [] :=
 op_len hG S #[] #[] ty x _ n ho rfl (fun w=>by simp [Builtin.len_,run_underlying ht])
theorem minmax_run (mx:Bool) (k:IntKind):∀ (r:List Operand) (m n:Int),minmaxAll (evalOpd G t) mx k r m=some n →
  ∀ w,(List.foldlM (bif mx then Builtin.max2 else Builtin.min2) (.int k m) (r.map a.eval)).run P w=.ok (.int k n) w
 |[],m,n,hm,w=>by
  simp only [minmaxAll,Option.some.injEq] at hm;subst hm;simp
 |x :: r,m,n,hm,w=>by
  simp only [minmaxAll] at hm
  split at hm
  ·rename_i k' b e
   cases hk:kindEq k k' with
   |false=>rw [hk] at hm;cases hm
   |true =>
    rw [hk] at hm
    have ek:=kindEq_eq hk;subst ek
    have r1:=S.opd hG x;rw [e] at r1
    have ih:=minmax_run mx k r (minmaxI mx m b) n hm
    simp only [List.map_cons,List.foldlM_cons,r1.inv_int]
    cases mx with
    |true =>
     simp only [cond_true,Sem.run_bind,Builtin.max2,Sem.run_pure,Result.andThen_ok] at ih ⊢
     simpa [minmaxI] using ih w
    |false =>
     simp only [cond_false,Sem.run_bind,Builtin.min2,Sem.run_pure,Result.andThen_ok] at ih ⊢
     simpa [minmaxI] using ih w
  ·cases hm
theorem op_minmax (mx:Bool) (args:Array Operand) (ts:Array TypeId) (x:Operand) (r:List Operand) (k:IntKind) (m n:Int) (ho:o.op=.call ⟨.builtin (bif mx then .max else .min),args,ts⟩) (ha:args.toList=x :: r)
  (hx:evalOpd G t x=.int k m) (hm:minmaxAll (evalOpd G t) mx k r m=some n):OpGoal P B nt M0 w0 M ρ t h a w o (.int k n) []:=by
 have r1:=S.opd hG x;rw [hx] at r1
 have h2:=minmax_run hG S (P:=P) mx k r m n hm w
 refine OpGoal.same S (v:=.int k n) ?_ (.pure (.int _ _))
 have ha':(args.map a.eval).toList=.int k m :: r.map a.eval:=by rw [Array.toList_map,ha,List.map_cons,r1.inv_int]
 cases mx with
 |true =>
  simp only [cond_true] at ho h2
  simp only [execOp,ho,resolve,invoke,builtin,Sem.run_bind,Sem.run_pure,Result.andThen_ok,Builtin.max_,ha',h2]
 |false =>
  simp only [cond_false] at ho h2
  simp only [execOp,ho,resolve,invoke,builtin,Sem.run_bind,Sem.run_pure,Result.andThen_ok,Builtin.min_,ha',h2]
end
theorem bound_run {G:Nat→Option DV} {B:Base} {nt:Nat} {M0:Mem} {w0:World} {M:Mem} {ρ:Locs} {t:Tmps} {h:Heap} {a:Act} {w:World} (hG:GOk G M0) (S:Sim B nt M0 w0 M ρ t h a w) (o:Option Operand) (d n:Int) (hb:bound o (evalOpd G t) d=some n) :
  (o=none∧n=d)∨(∃ x k,o=some x∧a.eval x=.int k n):=by
 cases o with
 |none=>left;simp only [bound,Option.some.injEq] at hb;exact ⟨rfl,hb.symm⟩
 |some x =>
  right
  simp only [bound] at hb
  split at hb
  ·rename_i k m e
   simp only [Option.some.injEq] at hb;subst hb
   have r1:=S.opd hG x;rw [e] at r1
   exact ⟨x,k,rfl,r1.inv_int⟩
  ·cases hb
section
variable {P:Program} {G:Nat→Option DV} {B:Base} {nt:Nat} {M0:Mem} {w0:World} {M:Mem} {ρ:Locs} {t:Tmps} {h:Heap} {a:Act} {w:World} {o:Oper}
variable (hG:GOk G M0) (S:Sim B nt M0 w0 M ρ t h a w)
include hG S
theorem sliceBounds_run (isS:Bool) (len cap:Nat) (lo hi:Option Operand) (l u:Int) (hl:bound lo (evalOpd G t) 0=some l) (hu:bound hi (evalOpd G t) len=some u) (hb:0≤l∧l≤u∧u≤len) (hc:len≤cap) (w':World) :
  (Instr.sliceBounds isS len cap (lo.map a.eval) (hi.map a.eval) none).run P w'=.ok (l.toNat,u.toNat,cap) w':=by
 have h1:=bound_run hG S lo 0 l hl
 have h2:=bound_run hG S hi len u hu
 obtain ⟨b1,b2,b3⟩:=hb
 have c1:0≤u:=by omega
 have c2:u≤(cap:Int):=by omega
 have c3:l≤(u.toNat:Int):=by omega
 rcases h1 with ⟨rfl,rfl⟩|⟨x,k,rfl,e1⟩<;>rcases h2 with ⟨rfl,e2⟩|⟨y,k',rfl,e2⟩
 ·subst e2;simp [Instr.sliceBounds]
 ·simp [Instr.sliceBounds,e2,Instr.sliceBound,asIntOf,c1,c2]
 ·subst e2
  have c4:l≤(len:Int):=by omega
  simp [Instr.sliceBounds,e1,Instr.sliceBound,asIntOf,b1,c4]
 ·have c5:¬ (max u 0 < l):=by omega
  simp [Instr.sliceBounds,e1,e2,Instr.sliceBound,asIntOf,b1,c1,c2,c5]
theorem op_slice_str (ty:TypeId) (x:Operand) (lo hi:Option Operand) (s:List UInt8) (l u:Int) (ho:o.op=.slice ty x lo hi none) (ht:P.underlying ty=some .string) (hx:evalOpd G t x=.str s)
  (hl:bound lo (evalOpd G t) 0=some l) (hu:bound hi (evalOpd G t) s.length=some u) (hb:0≤l∧l≤u∧u≤s.length):OpGoal P B nt M0 w0 M ρ t h a w o (.str (window s l.toNat (u - l).toNat)) []:=by
 have r1:=S.opd hG x;rw [hx] at r1
 have hsb:=sliceBounds_run hG S (P:=P) false s.length s.length lo hi l u hl hu hb (Nat.le_refl _)
 refine OpGoal.same S (v:=.string ⟨(window s l.toNat (u - l).toNat).toArray⟩) ?_ (.pure (.str _))
 have he:(⟨s.toArray⟩:ByteArray).extract l.toNat u.toNat=⟨(window s l.toNat (u - l).toNat).toArray⟩:=by
  apply Go.WideShapes.bytes_inj
  rw [ByteArray.data_extract]
  simp [window]
  omega
 simp only [execOp,ho,Instr.sliceAt,Instr.slice,Sem.run_bind,run_underlying ht,Result.andThen_ok,r1.inv_str,Option.map_none,bsize,hsb,he,Sem.run_pure,Option.isSome_none,Bool.false_eq_true,if_false]
theorem slice_addr (a':Option Addr) (b o' m l sz:Nat) (h:a'=some ⟨b,o',none⟩):(if m=l then a' else a'.map (·.add (l * sz)))=if m=l then some ⟨b,o',none⟩ else some ⟨b,o'+l * sz,none⟩:=by
 subst h;simp [add_lit]
theorem op_slice_imm (ty e:TypeId) (x:Operand) (lo hi:Option Operand) (s:List DV) (sz:Nat) (agg:Bool) (l u:Int) (ho:o.op=.slice ty x lo hi none) (ht:P.underlying ty=some (.slice e)) (he:elemT P e=some (sz,agg))
  (hs:∀ d ∈ s,d.cells.length=sz) (hx:evalOpd G t x=.list s∨evalOpd G t x=.full s)
  (hl:bound lo (evalOpd G t) 0=some l) (hu:bound hi (evalOpd G t) s.length=some u) (hb:0≤l∧l≤u∧u≤s.length):OpGoal P B nt M0 w0 M ρ t h a w o (.list (window s l.toNat (u - l).toNat)) []:=by
 obtain ⟨hs1,hs2,hs3,hs4,hs5⟩:=elemT_spec he
 obtain ⟨b1,b2,b3⟩:=hb
 have r1:=S.opd hG x
 have fin:∀ (a':Option Addr) (cap b o':Nat) (g:Nat→Value),a.eval x=.slice a' s.length cap→s.length≤cap→(s=[]∨a'=some ⟨b,o',none⟩)→(∀ i,i < (flat s).length→M b (o'+i)=some (g i)) →
   (∀ i,i < (flat s).length→RelP M ((flat s).getD i .undef) (g i))→OpGoal P B nt M0 w0 M ρ t h a w o (.list (window s l.toNat (u - l).toNat)) []:=by
  intro a' cap b o' g ev hcap ha hM hr
  have hsb:=sliceBounds_run hG S (P:=P) true s.length cap lo hi l u hl hu ⟨b1,b2,b3⟩ hcap
  have e1:u.toNat - l.toNat=(u - l).toNat:=by omega
  refine OpGoal.same S (v:=.slice (if cap=l.toNat then a' else a'.map (·.add (l.toNat * sz))) (u - l).toNat (cap - l.toNat)) ?_
   (.pure (window_list (b:=b) (o:=o') hs hM hr l.toNat (u - l).toNat (cap - l.toNat) (by omega) (by omega) _ ?_))
  ·simp only [execOp,ho,Instr.sliceAt,Instr.slice,Sem.run_bind,run_underlying ht,Result.andThen_ok,ev,Option.map_none,hsb,size_run hs1,Sem.run_pure,e1]
  ·by_cases h0:(u - l).toNat=0
   ·left;exact h0
   ·right
    rcases ha with ha|ha
    ·subst ha;simp at b3;omega
    ·rw [slice_addr hG S a' b o' cap l.toNat sz ha,if_neg (by omega)]
 generalize hv:a.eval x=v at *
 rcases hx with hx|hx<;>rw [hx] at r1
 ·have r2:=r1.inv_list
  cases r2 with
  |list _ a' cap sz' b o' g hcap ha hsz hM hr=>exact fin a' cap b o' g rfl hcap ha hM hr
 ·have r2:=r1.inv_full
  cases r2 with
  |full _ a' sz' b o' g ha hsz hM hr=>exact fin a' _ b o' g rfl (Nat.le_refl _) ha hM hr
theorem op_slice_own (ty e:TypeId) (x:Operand) (lo hi:Option Operand) (n off len tot:Nat) (es:List DV) (fr:Bool) (sz:Nat) (agg:Bool) (l u:Int) (ho:o.op=.slice ty x lo hi none) (ht:P.underlying ty=some (.slice e)) (he:elemT P e=some (sz,agg))
  (hx:evalOpd G t x=.own n off len tot) (hL:hlook h n=some (.row sz es fr))
  (hl:bound lo (evalOpd G t) 0=some l) (hu:bound hi (evalOpd G t) len=some u) (hb:tot=es.length∧0≤l∧l≤u∧u≤len):OpGoal P B nt M0 w0 M ρ t h a w o (.own n (off+l.toNat) (u - l).toNat tot) []:=by
 obtain ⟨hs1,hs2,hs3,hs4,hs5⟩:=elemT_spec he
 obtain ⟨b0,b1,b2,b3⟩:=hb
 have r1:=S.opd hG x;rw [hx] at r1
 obtain ⟨h1,h2⟩:=r1.inv_own hL
 obtain ⟨h3,h4⟩:=h2 b0
 have e1:u.toNat - l.toNat=(u - l).toNat:=by omega
 cases hρ:ρ n with
 |none =>
  have hes:=S.obj n _ hL
  simp only [ObjRel,hρ] at hes
  subst hes
  simp only [List.length_nil] at b0
  rw [hρ] at h4
  obtain ⟨a',ev⟩:=h4
  have hsb:=sliceBounds_run hG S (P:=P) true len 0 lo hi l u hl hu ⟨b1,b2,b3⟩ (by omega)
  refine OpGoal.same S (v:=.slice (if 0=l.toNat then a' else a'.map (·.add (l.toNat * sz))) (u - l).toNat (0 - l.toNat)) ?_ (.own _ _ _ _ _ _ _ _ hL h1 ⟨_,_,_,rfl⟩ (fun _=>⟨by omega,?_⟩))
  ·simp only [execOp,ho,Instr.sliceAt,Instr.slice,Sem.run_bind,run_underlying ht,Result.andThen_ok,ev,Option.map_none,hsb,size_run hs1,Sem.run_pure,e1]
  ·rw [hρ];simp
 |some bc =>
  obtain ⟨b,c⟩:=bc
  rw [hρ] at h4
  obtain ⟨a',ev,ha⟩:=h4
  obtain ⟨cs,ty',e3,e4,e5,e6,e7⟩:=row_cells hG S hL hρ
  have hsb:=sliceBounds_run hG S (P:=P) true len (c - off) lo hi l u hl hu ⟨b1,b2,b3⟩ (by omega)
  refine OpGoal.same S (v:=.slice (if c - off=l.toNat then a' else a'.map (·.add (l.toNat * sz))) (u - l).toNat (c - off - l.toNat)) ?_ (.own _ _ _ _ _ _ _ _ hL h1 ⟨_,_,_,rfl⟩ (fun _=>⟨by omega,?_⟩))
  ·simp only [execOp,ho,Instr.sliceAt,Instr.slice,Sem.run_bind,run_underlying ht,Result.andThen_ok,ev,Option.map_none,hsb,size_run hs1,Sem.run_pure,e1]
  ·rw [hρ]
   refine ⟨_,by rw [Nat.sub_sub],?_⟩
   rcases ha with ha|⟨ha1,ha2⟩
   ·rw [slice_addr hG S a' b (off * sz) (c - off) l.toNat sz ha]
    by_cases hc:c - off=l.toNat
    ·rw [if_pos hc]
     by_cases hz:off+l.toNat=0
     ·left
      have:off=0∧l.toNat=0:=by omega
      rw [this.1,this.2]
     ·right;exact ⟨by omega,hz⟩
    ·rw [if_neg hc];left;rw [Nat.add_mul]
   ·right;exact ⟨by omega,by omega⟩
theorem op_cap_full (ty e:TypeId) (x:Operand) (l:List DV) (ho:o.op=.call ⟨.builtin .cap,#[x],#[ty]⟩) (ht:P.underlying ty=some (.slice e)) (hx:evalOpd G t x=.full l) :
  OpGoal P B nt M0 w0 M ρ t h a w o (.int .i64 l.length) []:=by
 have r1:=S.opd hG x;rw [hx] at r1
 have ev:∃ a',a.eval x=.slice a' l.length l.length:=by
  generalize a.eval x=v at *
  have r3:=r1.inv_full
  cases r3 with|full _ a' sz' b o' g ha hsz hM hr=>exact ⟨_,rfl⟩
 obtain ⟨a',ev⟩:=ev
 refine OpGoal.same S (v:=.int .i64 l.length) ?_ (.pure (.int _ _))
 have hr:∀ w,(Builtin.cap_ #[ty] o.type #[.slice a' l.length l.length]).run P w=.ok (goInt l.length) w:=fun w=>by simp [Builtin.cap_,run_underlying ht]
 simp only [execOp,ho,resolve,Array.map_singleton,invoke,builtin,Sem.run_bind,Sem.run_pure,Result.andThen_ok,ev,hr,goInt]
theorem op_slice_nil (ty e:TypeId) (x:Operand) (lo hi:Option Operand) (sz:Nat) (agg:Bool) (l u:Int) (ho:o.op=.slice ty x lo hi none) (ht:P.underlying ty=some (.slice e)) (he:elemT P e=some (sz,agg))
  (hx:evalOpd G t x=.full []) (hl:bound lo (evalOpd G t) 0=some l) (hu:bound hi (evalOpd G t) 0=some u) (hb:0≤l∧l≤u∧u≤0):OpGoal P B nt M0 w0 M ρ t h a w o (.full []) []:=by
 obtain ⟨hs1,hs2,hs3,hs4,hs5⟩:=elemT_spec he
 have r1:=S.opd hG x;rw [hx] at r1
 have ev:∃ a',a.eval x=.slice a' 0 0:=by
  generalize a.eval x=v at *
  have r3:=r1.inv_full
  cases r3 with|full _ a' sz' b o' g ha hsz hM hr=>exact ⟨_,rfl⟩
 obtain ⟨a',ev⟩:=ev
 have hl0:l=0:=by omega
 have hu0:u=0:=by omega
 subst hl0;subst hu0
 have hsb:=sliceBounds_run hG S (P:=P) true 0 0 lo hi 0 0 hl hu ⟨by omega,by omega,by omega⟩ (Nat.le_refl _)
 have hrel:RelP M (.full []) (.slice a' 0 0):=RelP.full (M:=M) [] a' 0 0 0 (fun _=>Go.undef) (.inl rfl) (by simp) (by simp [flat]) (by simp [flat])
 refine OpGoal.same S (v:=.slice a' 0 0) ?_ (.pure hrel)
 simp only [execOp,ho,Instr.sliceAt,Instr.slice,Sem.run_bind,run_underlying ht,Result.andThen_ok,ev,Option.map_none,hsb,size_run hs1,Sem.run_pure]
 simp
theorem op_slice_max (ty e:TypeId) (x m:Operand) (lo hi:Option Operand) (s:List DV) (sz:Nat) (agg:Bool) (k:IntKind) (ho:o.op=.slice ty x lo hi (some m)) (ht:P.underlying ty=some (.slice e)) (he:elemT P e=some (sz,agg))
  (hx:evalOpd G t x=.list s∨evalOpd G t x=.full s) (hl:bound lo (evalOpd G t) 0=some 0) (hu:bound hi (evalOpd G t) 1=some 0) (hm:evalOpd G t m=.int k 0):OpGoal P B nt M0 w0 M ρ t h a w o (.full []) []:=by
 obtain ⟨hs1,hs2,hs3,hs4,hs5⟩:=elemT_spec he
 have r2:=S.opd hG m;rw [hm] at r2
 have em:=r2.inv_int
 have ev:∃ a' len cap,a.eval x=.slice a' len cap:=by
  have r1:=S.opd hG x
  generalize a.eval x=v at *
  rcases hx with hx|hx<;>rw [hx] at r1
  ·have r3:=r1.inv_list
   cases r3 with|list _ a' cap sz' b o' g hcap ha hsz hM hr=>exact ⟨_,_,_,rfl⟩
  ·have r3:=r1.inv_full
   cases r3 with|full _ a' sz' b o' g ha hsz hM hr=>exact ⟨_,_,_,rfl⟩
 obtain ⟨a',len,cap,ev⟩:=ev
 have h1:=bound_run hG S lo 0 0 hl
 have h2:=bound_run hG S hi 1 0 hu
 have e2:∃ y k',hi=some y∧a.eval y=.int k' 0:=by
  rcases h2 with ⟨_,h2⟩|h2
  ·omega
  ·exact h2
 obtain ⟨y,k',rfl,e2⟩:=e2
 have hsb:(Instr.sliceBounds true len cap (lo.map a.eval) (some (.int k' 0)) (some (.int k 0))).run P w=.ok (0,0,0) w:=by
  rcases h1 with ⟨rfl,_⟩|⟨z,k'',rfl,e3⟩
  ·simp [Instr.sliceBounds,Instr.sliceBound,asIntOf]
  ·simp [Instr.sliceBounds,Instr.sliceBound,asIntOf,e3]
 have hrel:RelP M (.full []) (.slice a' 0 0):=RelP.full (M:=M) [] a' 0 0 0 (fun _=>Go.undef) (.inl rfl) (by simp) (by simp [flat]) (by simp [flat])
 refine OpGoal.same S (v:=.slice a' 0 0) ?_ (.pure hrel)
 simp only [execOp,ho,Instr.sliceAt,Instr.slice,Sem.run_bind,run_underlying ht,Result.andThen_ok,ev,Option.map_some,e2,em,hsb,size_run hs1,Sem.run_pure,if_true,Nat.sub_self]
end
end Sh

/- The relation behind new blocks and new objects. -/
namespace Sh
open Go
def memWith (M:Mem) (b:Nat) (cs:Array Value):Mem:=fun b' o=>if b'=b then cs[o]? else M b' o
def locWith (ρ:Locs) (n b c:Nat):Locs:=⟨fun m=>if m=n then some (b,c) else ρ m,fun m i=>if m=n then none else ρ.sub m i⟩
theorem locWith_self (ρ:Locs) (n b c:Nat):locWith ρ n b c n=some (b,c):=if_pos rfl
theorem locWith_ne (ρ:Locs) {n m:Nat} (b c:Nat) (h:m≠n):locWith ρ n b c m=ρ m:=if_neg h
theorem locWith_sub (ρ:Locs) {n m:Nat} (b c:Nat) (h:m≠n):(locWith ρ n b c).sub m=ρ.sub m:=by funext i;exact if_neg h
theorem locWith_sub_self (ρ:Locs) (n b c i:Nat):(locWith ρ n b c).sub n i=none:=if_pos rfl
def locOut (ρ:Locs) (n:Nat):Locs:=⟨fun m=>if m=n then none else ρ m,fun m i=>if m=n then none else ρ.sub m i⟩
theorem locOut_self (ρ:Locs) (n:Nat):locOut ρ n n=none:=if_pos rfl
theorem locOut_ne (ρ:Locs) {n m:Nat} (h:m≠n):locOut ρ n m=ρ m:=if_neg h
theorem locOut_sub (ρ:Locs) {n m:Nat} (h:m≠n):(locOut ρ n).sub m=ρ.sub m:=by funext i;exact if_neg h
theorem locOut_sub_self (ρ:Locs) (n i:Nat):(locOut ρ n).sub n i=none:=if_pos rfl
theorem DSub.out {ρ:Locs} {h:Heap} {n:Nat} {o:DObj} (hd:DSub ρ h) (ho:o=o):DSub (locOut ρ n) ((n,o) :: h) :=
 hd.of (fun m i b hs=>by
  obtain ⟨sz,c,isz,es,pd,l,k,q1,q2,q3⟩:=hs
  rcases hlook_cons_of q1 with ⟨rfl,_⟩|⟨e,q1⟩
  ·rw [locOut_sub_self] at q3;cases q3
  ·exact ⟨sz,c,isz,es,pd,l,k,q1,q2,by rw [← locOut_sub ρ (Ne.symm e)];exact q3⟩) (fun m p k b hp e=>by
  rcases hlook_cons_of hp with ⟨rfl,_⟩|⟨e',hp⟩
  ·rw [locOut_self] at e;cases e
  ·exact .inl ⟨p,hp,by rw [← locOut_ne ρ (Ne.symm e')];exact e⟩)
theorem DSub.moved {ρ:Locs} {h:Heap} {n b c:Nat} {o:DObj} (hd:DSub ρ h) (ho:o.isN=false) (hf:∀ m i,¬ SubAt ρ h m i b):DSub (locWith ρ n b c) ((n,o) :: h) :=
 hd.of (fun m i b' hs=>by
  obtain ⟨sz,c',isz,es,pd,l,k,q1,q2,q3⟩:=hs
  rcases hlook_cons_of q1 with ⟨rfl,_⟩|⟨e,q1⟩
  ·rw [locWith_sub_self] at q3;cases q3
  ·exact ⟨sz,c',isz,es,pd,l,k,q1,q2,by rw [← locWith_sub ρ b c (Ne.symm e)];exact q3⟩) (fun m p k b' hp e=>by
  rcases hlook_cons_of hp with ⟨rfl,_⟩|⟨e',hp⟩
  ·rw [locWith_self] at e;cases e;exact .inr hf
  ·exact .inl ⟨p,hp,by rw [← locWith_ne ρ b c (Ne.symm e')];exact e⟩)
theorem nrw_same {ρ ρ':Locs} {h':Heap} {n sz c isz:Nat} {es:List DV} {pd:Option (Nat×List DV)} (hl:hlook h' n=some (.nrow sz c isz es pd)) (hρ:ρ' n=ρ n) (hs:ρ'.sub n=ρ.sub n) :
  (∃ es' pd',hlook h' n=some (.nrow sz c isz es' pd')∧es.length≤es'.length∧(es.length=es'.length→ρ' n=ρ n)∧(∀ i,hasL es pd i→hasL es' pd' i) ∧
    ∀ i l',hasL es pd i→curL c es' pd' i=some l'→∃ l,curL c es pd i=some l∧l.length≤l'.length∧(l.length=l'.length→ρ'.sub n i=ρ.sub n i)) ∨
  ∃ sz' es' fr,hlook h' n=some (.row sz' es' fr)∧es.length≤es'.length∧(es.length=es'.length→(sz'=sz∨es=[])∧ρ' n=ρ n) :=
 .inl ⟨es,pd,hl,Nat.le_refl _,fun _=>hρ,fun i hi=>hi,fun i l' _ e=>⟨l',e,Nat.le_refl _,fun _=>by rw [hs]⟩⟩
section
variable {B:Base} {nt:Nat} {M0:Mem} {w0:World} {M:Mem} {ρ:Locs} {t:Tmps} {h:Heap} {a:Act} {w:World}
theorem Sim.world (S:Sim B nt M0 w0 M ρ t h a w) {w':World} (hk:∀ k,k < w.heap.size→w'.heap[k]?=w.heap[k]?) (hb:B.touch w0 w'):Sim B nt M0 w0 M ρ t h a w':=by
 have hs:∀ {k:Nat} {o:Obj},w.heap[k]?=some o→w'.heap[k]?=some o:=fun {k o} e=>by
  rw [hk k (Array.getElem?_eq_some_iff.1 e).1];exact e
 refine { S with mem:=fun b o v e=>?_,obj:=fun n o hn=>(S.obj n o hn).heap fun b hb=>hk b (S.occ_lt ⟨o,hn,hb⟩),below:=hb,marks:=⟨fun d hd=>?_,S.marks.2⟩ }
 ·have h1:=S.mem b o v e
  have h2:b < w.heap.size:=World.block_lt_of_cell? (a:=⟨b,o,none⟩) _ h1
  rw [World.cell?_of_block (w:=w) (w':=w') (a:=⟨b,o,none⟩) (hk b h2)];exact h1
 ·obtain ⟨D,e1,e2,e3⟩:=S.marks.1 d hd
  exact ⟨D,e1,e2,hs e3⟩
theorem Sim.free_mem (S:Sim B nt M0 w0 M ρ t h a w) {b:Nat} (hb:w.heap.size≤b) (o:Nat):M b o=none:=by
 cases hm:M b o with
 |none=>rfl
 |some v =>
  have h1:=S.mem b o v hm
  have h2:b < w.heap.size:=World.block_lt_of_cell? (a:=⟨b,o,none⟩) _ h1
  omega
theorem Sim.loc_lt (S:Sim B nt M0 w0 M ρ t h a w) {n b c:Nat} {o:DObj} (hn:hlook h n=some o) (hρ:ρ n=some (b,c)):b < w.heap.size:=S.occ_lt (Occ.main hn hρ)
theorem memWith_le {b:Nat} {cs:Array Value} (hf:∀ o v,M b o=some v→cs[o]?=some v):M.le (memWith M b cs):=fun b' o v e=>by
 unfold memWith
 by_cases hb:b'=b
 ·subst hb;rw [if_pos rfl];exact hf o v e
 ·rw [if_neg hb];exact e
theorem ObjRel.mem {M':Mem} {n:Nat} {o:DObj} (hm:M.le M') (hfree:∀ b,OnB ρ n o b→(∀ o,M b o=none)→∀ o,M' b o=none) (ho:ObjRel B M ρ h w n o):ObjRel B M' ρ h w n o :=
 ho.turn (fun d v hr=>hr.ext (Ext.of_mem ρ h hm)) hm rfl rfl (fun b hb=>⟨id,rfl,hfree b hb⟩) id
theorem Sim.addMem (S:Sim B nt M0 w0 M ρ t h a w) {b:Nat} {cs:Array Value} {ty:TypeId} {fz:Nat×Nat} (hb:w.heap[b]?=some (.cells cs ty fz)) (hB:B.wr b) (hf:∀ o v,M b o=some v→cs[o]?=some v)
  (hn:∀ n,¬ Occ ρ h n b):Sim B nt M0 w0 (memWith M b cs) ρ t h a w:=by
 have hm:=memWith_le (M:=M) hf
 refine { S with le:=Mem.le_trans S.le hm,tm:=fun i=>(S.tm i).ext (Ext.of_mem ρ h hm),mem:=fun b' o v e=>?_,obj:=fun n o ho=>(S.obj n o ho).mem hm ?_,new:=fun b' o v e e0=>?_,ext:=S.ext.trans (Ext.of_mem ρ h hm) }
 ·unfold memWith at e
  by_cases hbb:b'=b
  ·subst hbb;rw [if_pos rfl] at e;rw [cell_of_heap hb];exact e
  ·rw [if_neg hbb] at e;exact S.mem _ _ _ e
 ·intro b' hb' hfree o'
  have:b'≠b:=fun e=>hn n ⟨o,ho,e ▸ hb'⟩
  unfold memWith;rw [if_neg this];exact hfree o'
 ·unfold memWith at e
  by_cases hbb:b'=b
  ·rw [hbb];exact hB
  ·rw [if_neg hbb] at e;exact S.new _ _ _ e e0
theorem ext_addObj (M:Mem) (ρ:Locs) (h:Heap) (n b c:Nat) (o:DObj) (hn:hlook h n=none):Ext M ρ h M (locWith ρ n b c) ((n,o) :: h):=by
 have hne:∀ m p,hlook h m=some p→m≠n:=fun m p e1 e2=>by subst e2;rw [hn] at e1;cases e1
 refine ⟨M.le_refl,fun m sz es fr hl=>⟨sz,es,fr,?_,Nat.le_refl _,fun _=>⟨.inl rfl,?_⟩⟩,fun m o hl hk=>⟨?_,o,?_,like_refl hk⟩,fun m sz c isz es pd hl=>nrw_same ?_ ?_ ?_⟩
 ·rw [hlook_cons,if_neg (Ne.symm (hne m _ hl))];exact hl
 ·exact locWith_ne ρ b c (hne m _ hl)
 ·exact locWith_ne ρ b c (hne m _ hl)
 ·rw [hlook_cons,if_neg (Ne.symm (hne m _ hl))];exact hl
 ·rw [hlook_cons,if_neg (Ne.symm (hne m _ hl))];exact hl
 ·exact locWith_ne ρ _ _ (hne m _ hl)
 ·exact locWith_sub ρ _ _ (hne m _ hl)
theorem ObjRel.ext {ρ':Locs} {h':Heap} {n:Nat} {o:DObj} (hx:Ext M ρ h M ρ' h') (hρ:ρ' n=ρ n) (ho:ObjRel B M ρ h w n o) (hs:ρ'.sub n=ρ.sub n:=by rfl):ObjRel B M ρ' h' w n o :=
 ho.turn (fun d v hr=>hr.ext hx) M.le_refl hρ hs (fun b hb=>⟨id,rfl,id⟩) id
theorem Sim.addObj (S:Sim B nt M0 w0 M ρ t h a w) {n b c:Nat} {o:DObj} (hn:hlook h n=none) (hfresh:∀ m,¬ Occ ρ h m b)
  (ho:ObjRel B M (locWith ρ n b c) ((n,o) :: h) w n o):Sim B nt M0 w0 M (locWith ρ n b c) t ((n,o) :: h) a w:=by
 have hx:=ext_addObj M ρ h n b c o hn
 have hne:∀ m p,hlook h m=some p→m≠n:=fun m p e1 e2=>by subst e2;rw [hn] at e1;cases e1
 have hl:∀ m,m≠n→locWith ρ n b c m=ρ m:=fun m hm=>locWith_ne ρ b c hm
 have hln:locWith ρ n b c n=some (b,c):=locWith_self ρ n b c
 refine { S with tm:=fun i=>(S.tm i).ext hx,obj:=fun m p hp=>?_,dis:=fun m m' p p' b1 c1 b2 c2 hmm h1 h2 e1 e2=>?_,dsub:=S.dsub.of (fun m i b' hs=>?_) (fun m p k b' hp e=>?_),ext:=S.ext.trans hx }
 ·rcases hlook_cons_of hp with ⟨rfl,rfl⟩|⟨e,hp⟩
  ·exact ho
  ·exact (S.obj m p hp).ext hx (hl m (Ne.symm e)) (locWith_sub ρ b c (Ne.symm e))
 ·rw [hlook_cons] at h1 h2
  by_cases e:n=m
  ·subst e
   rw [if_neg hmm] at h2
   rw [hln] at e1
   rw [hl m' (Ne.symm hmm)] at e2
   obtain ⟨rfl,rfl⟩:b=b1∧c=c1:=by simpa using e1
   intro e3;subst e3;exact hfresh m' (.main h2 e2)
  ·rw [if_neg e] at h1
   rw [hl m (Ne.symm e)] at e1
   by_cases e':n=m'
   ·subst e'
    rw [hln] at e2
    obtain ⟨rfl,rfl⟩:b=b2∧c=c2:=by simpa using e2
    intro e3;subst e3;exact hfresh m (.main h1 e1)
   ·rw [if_neg e'] at h2
    rw [hl m' (Ne.symm e')] at e2
    exact S.dis m m' p p' b1 c1 b2 c2 hmm h1 h2 e1 e2
 ·obtain ⟨sz,c',isz,es,pd,l,k,q1,q2,q3⟩:=hs
  rcases hlook_cons_of q1 with ⟨rfl,_⟩|⟨e,q1⟩
  ·rw [locWith_sub_self] at q3;cases q3
  ·exact ⟨sz,c',isz,es,pd,l,k,q1,q2,by rw [← locWith_sub ρ b c (Ne.symm e)];exact q3⟩
 ·rcases hlook_cons_of hp with ⟨rfl,rfl⟩|⟨e',hp⟩
  ·rw [hln] at e;cases e;exact .inr fun n' i hs=>hfresh n' hs.occ
  ·exact .inl ⟨p,hp,by rw [← hl m (Ne.symm e')];exact e⟩
theorem alloc_old (w:World) (o:Obj) (k:Nat) (hk:k < w.heap.size):(w.alloc o).heap[k]?=w.heap[k]?:=RowKit.Below.heap_alloc w o k hk
theorem alloc_new (w:World) (o:Obj):(w.alloc o).heap[w.heap.size]?=some o:=by show (w.heap.push o)[w.heap.size]?=some o;simp
theorem Sim.alloc (S:Sim B nt M0 w0 M ρ t h a w) (o:Obj):Sim B nt M0 w0 M ρ t h a (w.alloc o) :=
 S.world (fun k hk=>alloc_old w o k hk) (S.below.alloc (by rw [S.hB];exact S.below.size) o)
theorem Sim.drew (S:Sim B nt M0 w0 M ρ t h a w):Sim B nt M0 w0 M ρ t h a w.drew:=S.world (fun _ _=>rfl) S.below.drew
theorem Sim.Bsize (S:Sim B nt M0 w0 M ρ t h a w):B.lo≤w.heap.size:=by rw [S.hB];exact S.below.size
end
end Sh

/- What single operations come to: variables and rows of the call's own;literals;builds;equality. -/
namespace Sh
open Go
theorem cells_getD {d:DV} {v:Value} {M:Mem} {ρ:Locs} {h:Heap} (hr:RelV M ρ h d v) (hu:cellsB d.cells=true):v.cells.size=d.cells.length∧∀ i,i < d.cells.length→RelV M ρ h (d.cells.getD i .undef) (v.cells.getD i Go.undef):=by
 by_cases ha:isAggB d=true
 ·cases d<;>first|(simp [isAggB] at ha;done)|skip
  rename_i cs
  obtain ⟨vs,rfl,hl,hr'⟩:=hr.inv_agg
  exact ⟨hl.symm,hr'⟩
 ·have ha':isAggB d=false:=by simpa using ha
  have hc:=cells_ne_agg ha'
  rw [hc] at hu ⊢
  have hv:v.cells=#[v]:=by
   cases d with
   |undef=>simp [cellsB,cellB] at hu
   |bool b=>rw [hr.inv_bool];rfl
   |int k n=>rw [hr.inv_int];rfl
   |str s=>rw [hr.inv_str];rfl
   |agg cs=>simp [isAggB] at ha
   |tuple cs=>simp [cellsB,cellB] at hu
   |list l=>have:=hr.inv_list;cases this;rfl
   |full l=>have:=hr.inv_full;cases this;rfl
   |ip d=>have:=hr.inv_ip;cases this;rfl
   |func f cs=>obtain ⟨vs,rfl,_⟩:=hr.inv_func;rfl
   |meth f cs=>obtain ⟨vs,rfl,_⟩:=hr.inv_meth;rfl
   |nilptr=>cases hr with|pure hp=>cases hp;rfl
   |nilfunc=>cases hr with|pure hp=>cases hp<;>rfl
   |nilsl=>cases hr with|pure hp=>cases hp;rfl
   |abool=>cases hr with|pure hp=>cases hp;rfl
   |flt k n=>rw [hr.inv_flt];rfl
   |fnan k=>obtain ⟨_,rfl,_⟩:=hr.inv_fnan;rfl
   |sub n i off len tot=>cases hr with
    |pure hp=>cases hp
    |subv _ _ _ _ _ _ hs _=>obtain ⟨_,_,_,rfl⟩:=hs;rfl
   |sptr n i j off tot=>cases hr with
    |pure hp=>cases hp
    |sptrv _ _ _ _ _ _ hs _=>obtain ⟨_,rfl⟩:=hs;rfl
   |inn l=>cases hr with|pure hp=>cases hp
   |vl l=>cases hr with
    |pure hp=>cases hp
    |vl=>rfl
   |own n off len tot=>cases hr with
    |pure hp=>cases hp
    |own _ _ _ _ _ _ _ _ _ _ hs _=>obtain ⟨_,_,_,rfl⟩:=hs;rfl
    |nown _ _ _ _ _ _ _ _ _ _ _ _ hs _=>obtain ⟨_,_,_,rfl⟩:=hs;rfl
   |ptr n i off tot=>cases hr with
    |pure hp=>cases hp
    |ptr _ _ _ _ _ _ _ _ _ _ _ hs _=>obtain ⟨_,rfl⟩:=hs;rfl
    |nptr _ _ _ _ _ _ _ _ _ _ _ _ _ hs _=>obtain ⟨_,rfl⟩:=hs;rfl
   |bptr n off=>obtain ⟨_,_,_,_,rfl,_⟩:=hr.inv_bptr;rfl
   |dict n=>cases hr with
    |pure hp=>cases hp
    |dictv=>rfl
    |sitv=>rfl
    |yldv=>rfl
  rw [hv]
  refine ⟨by simp,fun i hi=>?_⟩
  simp at hi;subst hi;simpa using hr
section
variable {P:Program} {G:Nat→Option DV} {B:Base} {nt:Nat} {M0:Mem} {w0:World} {M:Mem} {ρ:Locs} {t:Tmps} {h:Heap} {a:Act} {w:World} {o:Oper}
theorem newVar_run (e:TypeId) (v:Value) (w:World):(newVar e v).run P w=.ok ⟨w.heap.size,0,none⟩ (w.alloc (.cells v.cells e)):=by
 simp [newVar,newRow,newObj,Sem.run]
theorem Sim.newBox (S:Sim B nt M0 w0 M ρ t h a w) {n sz:Nat} {d:DV} {v:Value} (hn:hlook h n=none) (hr:RelV M ρ h d v) (hok:okE sz d=true) (e:TypeId) (hty:tyN n e=e) :
  Sim B nt M0 w0 M (locWith ρ n w.heap.size 1) t ((n,.box sz d) :: h) a (w.alloc (.cells v.cells e)) ∧
  RelV M (locWith ρ n w.heap.size 1) ((n,.box sz d) :: h) (.bptr n 0) (.pointer (some ⟨w.heap.size,0,none⟩)):=by
 obtain ⟨h1,h2⟩:=okE_spec hok
 obtain ⟨h3,h4⟩:=cells_getD hr h2
 have hx:=ext_addObj M ρ h n w.heap.size 1 (.box sz d) hn
 refine ⟨(S.alloc _).addObj hn (fun m hm=>?_) ?_,.bptr n 0 sz w.heap.size 1 d (by rw [hlook_cons,if_pos rfl]) (locWith_self ..)⟩
 ·have:=S.occ_lt hm;omega
 ·refine ⟨w.heap.size,1,locWith_self ..,.inl S.Bsize,v.cells,e,by rw [hty];exact alloc_new w _,by omega,hok,fun i hi=>(h4 i (by omega)).ext hx,fun o=>S.free_mem (Nat.le_refl _) o⟩
theorem op_alloc (e:TypeId) (n sz:Nat) (agg:Bool) (z:Value) (ho:o.op=.alloc e) (hz:zeroT P e=some z) (hn:hlook h n=none) (hok:okE sz (ofZero z)=true) (hty:tyN n e=e) (S:Sim B nt M0 w0 M ρ t h a w) :
  OpGoal P B nt M0 w0 M ρ t h a w o (.bptr n 0) [(n,.box sz (ofZero z))]:=by
 obtain ⟨h1,h2⟩:=S.newBox hn (.pure (relP_ofZero M z)) hok e hty
 refine ⟨_,_,_,M,_,?_,.inl rfl,h1,h2⟩
 unfold zeroT at hz
 cases hi:P.info? e with
 |none=>rw [hi] at hz;cases hz
 |some i =>
  rw [hi] at hz
  simp only [Option.bind_some] at hz
  simp only [execOp,ho,Instr.alloc,zeroValue,typeInfo,Sem.run_bind,run_program,Result.andThen_ok,hi,Sem.run_pure,hz,newVar_run]
theorem op_box (hG:GOk G M0) (e:TypeId) (x:Operand) (n sz:Nat) (ho:o.op=.box e x) (hn:hlook h n=none) (hok:okE sz (evalOpd G t x)=true) (hty:tyN n e=e) (S:Sim B nt M0 w0 M ρ t h a w) :
  OpGoal P B nt M0 w0 M ρ t h a w o (.bptr n 0) [(n,.box sz (evalOpd G t x))]:=by
 obtain ⟨h1,h2⟩:=S.newBox hn (S.opd hG x) hok e hty
 refine ⟨_,_,_,M,_,?_,.inl rfl,h1,h2⟩
 simp only [execOp,ho,Instr.box,Sem.run_bind,newVar_run,Result.andThen_ok,Sem.run_pure]
theorem Sim.newRow (S:Sim B nt M0 w0 M ρ t h a w) {n sz c:Nat} {es:List DV} {cs:Array Value} (hsz0:sz≠0) (hn:hlook h n=none) (hc:cs.size=c * sz) (hle:es.length≤c) (hok:∀ e ∈ es,okE sz e=true)
  (hr:∀ i,i < (flat es).length→RelP M ((flat es).getD i .undef) (cs.getD i Go.undef)) (e:TypeId) (hty:tyN n e=e) :
  Sim B nt M0 w0 M (locWith ρ n w.heap.size c) t ((n,.row sz es false) :: h) a (w.alloc (.cells cs e)) ∧
  RelV M (locWith ρ n w.heap.size c) ((n,.row sz es false) :: h) (.own n 0 es.length es.length) (.slice (some ⟨w.heap.size,0,none⟩) es.length c):=by
 refine ⟨(S.alloc _).addObj hn (fun m hm=>?_) ?_,.own n 0 es.length es.length sz es false _ (by rw [hlook_cons,if_pos rfl]) (Nat.le_refl _) ⟨_,_,_,rfl⟩ (fun _=>⟨by omega,?_⟩)⟩
 ·have:=S.occ_lt hm;omega
 ·have:locWith ρ n w.heap.size c n=some (w.heap.size,c):=locWith_self ..
  simp only [ObjRel,this]
  exact ⟨⟨.inl S.Bsize,hsz0⟩,cs,e,.of (by rw [hty];exact alloc_new w _),hc,hle,hok,hr,by simp,fun _ o=>S.free_mem (Nat.le_refl _) o⟩
 ·have:locWith ρ n w.heap.size c n=some (w.heap.size,c):=locWith_self ..
  rw [this];exact ⟨_,by rw [Nat.sub_zero],.inl (by rw [Nat.zero_mul])⟩
theorem Sim.newImm (S:Sim B nt M0 w0 M ρ t h a w) {sz:Nat} {es:List DV} {cs:Array Value} (hle:(flat es).length≤cs.size) (hsz:∀ e ∈ es,e.cells.length=sz)
  (hr:∀ i,i < (flat es).length→RelP M ((flat es).getD i .undef) (cs.getD i Go.undef)) (e:TypeId) :
  Sim B nt M0 w0 (memWith M w.heap.size cs) ρ t h a (w.alloc (.cells cs e)) ∧
  (∀ cap,es.length≤cap→RelP (memWith M w.heap.size cs) (.list es) (.slice (some ⟨w.heap.size,0,none⟩) es.length cap)) ∧
  RelP (memWith M w.heap.size cs) (.full es) (.slice (some ⟨w.heap.size,0,none⟩) es.length es.length):=by
 have hf:∀ o v,M w.heap.size o=some v→cs[o]?=some v:=fun o v e=>by rw [S.free_mem (Nat.le_refl _) o] at e;cases e
 have hm:=memWith_le (M:=M) hf
 have hM:∀ i,i < (flat es).length→memWith M w.heap.size cs w.heap.size (0+i)=some (cs.getD i Go.undef):=fun i hi=>by
  unfold memWith;rw [if_pos rfl,Nat.zero_add,agetD_lt (by omega),Array.getElem?_eq_getElem (by omega)]
 refine ⟨(S.alloc _).addMem (alloc_new w _) (.inl S.Bsize) hf (fun n hn=>by have:=S.occ_lt hn;omega),fun cap hcap=>?_,?_⟩
 ·exact .list es _ cap sz w.heap.size 0 (fun i=>cs.getD i Go.undef) hcap (.inr rfl) hsz hM (fun i hi=>(hr i hi).mono hm)
 ·exact .full es _ sz w.heap.size 0 (fun i=>cs.getD i Go.undef) (.inr rfl) hsz hM (fun i hi=>(hr i hi).mono hm)
end
end Sh
