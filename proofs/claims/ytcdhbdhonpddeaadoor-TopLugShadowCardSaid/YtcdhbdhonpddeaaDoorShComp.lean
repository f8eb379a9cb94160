/- From the model's code to the shadow code: a check by computation. -/
import Derived.Test.YtcdhbdhonpddeaaDoorShRel
namespace Sh
open Go

/-- Operations whose soundness is not shown yet are refused. -/
def notYet : Bool := false

structure Ann where
  loops : List (Nat × Keep)
  blocks : List (Nat × Keep)
  imm : List Nat
  deriving Inhabited

def assoc {α : Type} : List (Nat × α) → Nat → Option α
  | [], _ => none
  | (k, v) :: r, i => bif Nat.beq k i then some v else assoc r i

section
variable (P : Program)

def isAggT (t : TypeId) : Option Bool :=
  match P.underlying t with
  | some (.struct _) => some true
  | some (.array _ _) => some true
  | some _ => some false
  | none => none
def sizeT (t : TypeId) : Option Nat := (P.info? t).map (·.size)
def zeroT (t : TypeId) : Option Value := (P.info? t).bind (·.zero)
def bytesOk (t : TypeId) : Bool := match P.info? t with
  | some i => Nat.ble i.bytes 65536
  | none => false

def shapeFs (g : TypeId → Option (List Nat)) : List Field → Nat → Option (List Nat)
  | [], _ => some []
  | f :: r, off => match g f.type, sizeT P f.type, isAggT P f.type, shapeFs g r (off + (sizeT P f.type).getD 0) with
    | some s, some sz, some agg, some q => bif (f.name != "_") && Nat.beq f.offset off && Nat.beq s.length sz && (agg || Nat.beq sz 1) then some (s ++ q) else none
    | _, _, _, _ => none

/-- The kinds of the cells of a type whose values may be compared cell by cell. -/
def shapeT : Nat → TypeId → Option (List Nat)
  | 0, _ => none
  | n + 1, t => match P.underlying t with
    | some .bool => some [0]
    | some (.int _) => some [1]
    | some .string => some [2]
    | some (.struct fs) => bif P.stoodInHeld t then none else shapeFs P (shapeT n) fs.toList 0
    | some (.array k e) => match shapeT n e, sizeT P e, isAggT P e with
      | some s, some sz, some agg => bif Nat.beq s.length sz && (agg || Nat.beq sz 1) then some (List.replicate k s).flatten else none
      | _, _, _ => none
    | _ => none

def mapO {α β : Type} (f : α → Option β) : List α → Option (List β)
  | [] => some []
  | a :: r => match f a, mapO f r with
    | some b, some s => some (b :: s)
    | _, _ => none

def fieldOf (s : TypeId) (f : Nat) : Option (Nat × Nat × Bool) :=
  match P.underlying s with
  | some (.struct fs) => match fs[f]? with
    | some f => match sizeT P f.type, isAggT P f.type with
      | some sz, some agg => bif Nat.beq sz 0 || (!agg && !Nat.beq sz 1) then none else some (f.offset, sz, agg)
      | _, _ => none
    | none => none
  | _ => none

def buildPart (t : TypeId) (p : Nat × Operand) : Option (Nat × Nat × Operand) :=
  match P.underlying t with
  | some (.struct fs) => match fs[p.1]? with
    | some f => match sizeT P f.type with
      | some sz => some (f.offset, sz, p.2)
      | none => none
    | none => none
  | some (.array _ e) => match sizeT P e with
    | some sz => some (p.1 * sz, sz, p.2)
    | none => none
  | _ => none

/-- May a value of the type be put together? -/
def buildOk (t : TypeId) : Bool :=
  match P.underlying t with
  | some (.struct fs) => fs.toList.all fun f => (sizeT P f.type).isSome
  | some (.array _ e) => (sizeT P e).isSome
  | _ => false

/-- An element type: its size, whether it is an aggregate; a plain one has one cell. -/
def elemT (e : TypeId) : Option (Nat × Bool) :=
  match sizeT P e, isAggT P e with
  | some sz, some agg => bif Nat.beq sz 0 || (!agg && !Nat.beq sz 1) || !bytesOk P e then none else some (sz, agg)
  | _, _ => none

def cBuiltin (imm : Bool) (b : Builtin) (args : List Operand) (ts : List TypeId) : Option DOp :=
  match b, args, ts with
  | .len, [x], [t] => match P.underlying t with
    | some (.array n _) => some (.lenC n)
    | some (.slice _) => some (.len x)
    | some .string => some (.lenS x)
    | some (.map _ _) => some (.lenM x)
    | _ => none
  | .append, [s, x], [t, u] => match P.underlying t, P.underlying u with
    | some (.slice e), some (.slice _) => match elemT P e with
      | some (sz, _) => match zeroT P e with
        | some z => bif Nat.beq z.cells.size sz then some (.append imm sz s x) else none
        | none => none
      | none => none
    | _, _ => none
  | .copy, [d, x], [t, u] => match P.underlying t, P.underlying u with
    | some (.slice e), some (.slice _) => match elemT P e with
      | some (sz, _) => bif notYet then some (.copy sz d x) else none
      | none => none
    | _, _ => none
  | .min, x :: r, _ => some (.minmax false x r)
  | .max, x :: r, _ => some (.minmax true x r)
  | _, _, _ => none

/-- What the keys of a map are compared by. -/
def keyT (k : TypeId) : Option (Nat × List Nat) :=
  match P.underlying k with
  | some .bool => some (0, [])
  | some (.int _) => some (1, [])
  | some .string => some (2, [])
  | _ => none

def mapT (t : TypeId) : Option (TypeId × TypeId × Nat × List Nat) :=
  match P.underlying t with
  | some (.map k e) => match keyT P k with
    | some (kk, ks) => some (k, e, kk, ks)
    | none => none
  | _ => none

def cEq (neg : Bool) (t : TypeId) (x y : Operand) : Option DOp :=
  match shapeT P 20 t with
  | some ks => bif !P.eqGuardType P.depth t then some (.eqA neg ks x y) else none
  | none => none

def cBin (op : BinOp) (t : TypeId) (x y : Operand) : Option DOp :=
  match P.underlying t with
  | some (.int _) => some (.bin op x y)
  | some .string => some (.bin op x y)
  | some .bool => match op with
    | .eql => some (.eqB false x y)
    | .neq => some (.eqB true x y)
    | _ => none
  | some (.struct _) => match op with
    | .eql => cEq P false t x y
    | .neq => cEq P true t x y
    | _ => none
  | some (.array _ _) => match op with
    | .eql => cEq P false t x y
    | .neq => cEq P true t x y
    | _ => none
  | _ => none

def cOp (imm : Bool) (o : Op) : Option DOp :=
  match o with
  | .move x => some (.mov x)
  | .assign x => some (.mov x)
  | .pick c a b => some (.pick c a b)
  | .alloc e => match zeroT P e, elemT P e with
    | some z, some (sz, _) => some (.alloc (ofValue z) sz)
    | _, _ => none
  | .box e x => match elemT P e with
    | some (sz, _) => some (.box sz x)
    | _ => none
  | .build t parts => match zeroT P t, mapO (buildPart P t) parts.toList with
    | some (.agg z), some ps => bif buildOk P t then some (.build (z.toList.map ofCell) ps) else none
    | _, _ => none
  | .buildSlice t len parts => match P.underlying t with
    | some (.slice e) => match elemT P e, zeroT P e with
      | some (sz, _), some z => bif Nat.ble (len * sz) 16777216 && Nat.beq z.cells.size sz && okE sz (ofValue z) && parts.toList.all (fun p => Nat.blt p.1 len) then some (.lit imm sz len (ofValue z) parts.toList) else none
      | _, _ => none
    | _ => none
  | .load t a => match elemT P t with
    | some (sz, agg) => some (.load (bif agg then some sz else none) a)
    | none => none
  | .store t a x => match elemT P t with
    | some (sz, _) => some (.store sz a x)
    | none => none
  | .nilCheck x => some (.nilCheck x)
  | .binOp op t x y _ => cBin P op t x y
  | .unOp op _ x => some (.un op x)
  | .convert s d x => match P.underlying s, P.underlying d with
    | some (.int _), some (.int k) => some (.conv k x)
    | some .string, some .string => some (.same x)
    | _, _ => none
  | .makeFunc (.func f) first caps => bif first.isEmpty then some (.mkfunc f caps.toList) else none
  | .slice t x lo hi mx => match P.underlying t with
    | some .string => match mx with
      | none => some (.sliceS x lo hi)
      | _ => none
    | some (.slice e) => match elemT P e with
      | some (sz, _) => some (.slice sz x lo hi mx)
      | none => none
    | some (.array n e) => match elemT P e, lo, hi, mx with
      | some (sz, agg), none, none, none => bif notYet then some (.sliceA n sz agg x) else none
      | _, _, _, _ => none
    | _ => none
  | .fieldAddr s x f => match fieldOf P s f with
    | some (off, sz, agg) => some (.faddr off sz agg x)
    | none => none
  | .field s x f => match fieldOf P s f with
    | some (off, sz, agg) => some (.field off sz agg x)
    | none => none
  | .indexAddr t x i => match P.underlying t with
    | some (.slice e) => match elemT P e with
      | some (sz, _) => some (.iaddr sz x i)
      | none => none
    | some (.array n e) => match elemT P e with
      | some (sz, agg) => some (.iaddrA n sz agg x i)
      | none => none
    | _ => none
  | .index t x i => match P.underlying t with
    | some .string => some (.indexS x i)
    | some (.array n e) => match elemT P e with
      | some (sz, agg) => some (.indexA n sz agg x i)
      | none => none
    | _ => none
  | .extract x i => some (.extract x i)
  | .makeMap _ r => match r with
    | none => some .makemap
    | some _ => none
  | .mapUpdate t m k v => match mapT P t with
    | some (_, _, kk, ks) => some (.mapset kk ks m k v)
    | none => none
  | .insert t m k v => match mapT P t with
    | some (_, _, kk, ks) => some (.mapset kk ks m k v)
    | none => none
  | .lookup t m k ok => match mapT P t with
    | some (_, e, kk, ks) => match zeroT P e with
      | some z => some (.lookup kk ks ok (ofValue z) m k)
      | none => none
    | none => none
  | .mapEntry t m k => match mapT P t with
    | some (_, e, kk, ks) => match zeroT P e with
      | some z => some (.mapentry kk ks (ofValue z) m k)
      | none => none
    | none => none
  | .entryStore _ m s v => some (.entrystore m s v)
  | .range t x => match P.underlying t with
    | some .string => some (.rangeS x)
    | _ => none
  | .next x is => match is with
    | true => some (.nextS x)
    | false => none
  | .call c => match c.callee with
    | .value f => some (.call f c.args.toList)
    | .builtin b => cBuiltin P imm b c.args.toList c.argTypes.toList
    | _ => none
  | .makeSlice t l c => match P.underlying t with
    | some (.slice e) => match elemT P e, zeroT P e with
      | some (sz, _), some z => bif Nat.beq z.cells.size sz then some (.mkslice sz (ofValue z) l c) else none
      | _, _ => none
    | _ => none
  | _ => none

def insertN (n : Nat) (l : List Nat) : List Nat := bif memB n l then l else l ++ [n]
def unionN (a b : List Nat) : List Nat := b.foldl (fun s n => insertN n s) a

/-- The operations that must come before, for each: direct ones and theirs. -/
def befOf (o : Oper) (befs : List (List Nat)) : List Nat :=
  (o.after.toList.filter (Region.binds .any ·)).foldl (fun s e => unionN (insertN e.on s) (befs.getD e.on [])) []

def edgesBack (o : Oper) (i : Nat) : Bool := (o.after.toList.filter (Region.binds .any ·)).all fun e => Nat.blt e.on i

def cGuard (ops : Array Oper) (o : Oper) : Option (Option (Nat × Bool)) :=
  match o.guard with
  | none => some none
  | some (j, want) => match ops[j]? with
    | some oj => match oj.dst with
      | some d => some (some (d, want))
      | none => none
    | none => none

def cOpers (ann : Ann) (ntmps : Nat) (ops : Array Oper) : List Oper → Nat → List (List Nat) → Option (List DOper)
  | [], _, _ => some []
  | o :: r, i, befs =>
    match cOp P (match o.dst with | some d => memB d ann.imm | none => false) o.op, cGuard ops o, cOpers ann ntmps ops r (i + 1) (befs ++ [befOf o befs]) with
    | some op, some g, some r => bif edgesBack o i && (match o.dst with | some d => Nat.blt d ntmps | none => true) then some (⟨o.dst, op, g, befOf o befs⟩ :: r) else none
    | _, _, _ => none

def looksOf (o : DOper) : List Nat :=
  (operandsOf o.op).filterMap (fun | .tmp t => some t | _ => none) ++ (match o.guard with | some (g, _) => [g] | none => [])

/-- Two operations of a region that draws: whatever one writes and the other looks at, they are ordered. -/
def statPair (a : DOper) (i : Nat) (b : DOper) : Bool :=
  memB i b.bef ||
  ((match a.dst with | some d => !memB d (looksOf b) | none => true) &&
   (match b.dst with | some d => !memB d (looksOf a) | none => true) &&
   (match a.dst, b.dst with | some d, some e => !Nat.beq d e | _, _ => true))

def statFrom (b : DOper) : List DOper → Nat → Bool
  | [], _ => true
  | a :: r, i => statPair a i b && statFrom b r (i + 1)

def statAll : List DOper → List DOper → Bool
  | _, [] => true
  | pre, b :: r => statFrom b pre 0 && statAll (pre ++ [b]) r

def cCode (ann : Ann) (ntmps : Nat) : (blk : Nat) → Code → Option DC
  | _, .skip => some .skip
  | _, .region _ ops draw => match cOpers P ann ntmps ops ops.toList 0 [] with
    | some l => bif !draw || statAll [] l then some (.ops draw l) else none
    | none => none
  | b, .seq x y => match cCode ann ntmps b x, cCode ann ntmps b y with
    | some x, some y => some (.seq x y)
    | _, _ => none
  | b, .cond c x y => match cCode ann ntmps b x, cCode ann ntmps b y with
    | some x, some y => some (.cond c x y)
    | _, _ => none
  | _, .block id x => match cCode ann ntmps id x with
    | some x => some (.block id (assoc ann.blocks id) x)
    | none => none
  | b, .loop x => match cCode ann ntmps b x with
    | some x => some (.loop ((assoc ann.loops b).getD default) x)
    | none => none
  | _, .exit id => some (.exit id)
  | _, .ret => some .ret
  | _, _ => none

structure DFunc where
  ntmps : Nat
  nargs : Nat
  results : List DRes
  body : DC
  deriving Inhabited

def resultsOf : List ResultVar → Option (List DRes)
  | [] => some []
  | .tmp t :: r => match resultsOf r with
    | some l => some (.tmp t :: l)
    | none => none
  | .cell a t :: r => match elemT P t, resultsOf r with
    | some (sz, agg), some l => some (.cell a (bif agg then some sz else none) :: l)
    | _, _ => none

def cFunc (ann : Ann) (fn : Func) : Option DFunc :=
  match fn.body, resultsOf P fn.results.toList with
  | some c, some rs => match cCode P ann fn.ntmps 0 c with
    | some d => bif P.follows .mixedOrders && !(fn.name == "runtime.NumGoroutine") && Nat.ble (fn.params.size + fn.nfree) fn.ntmps then some ⟨fn.ntmps, fn.params.size + fn.nfree, rs, d⟩ else none
    | none => none
  | _, _ => none

def cProg (ann : Ann) (f : FuncId) : Option DFunc :=
  match P.funcs[f]? with
  | some fn => cFunc P ann fn
  | none => none
end
end Sh
