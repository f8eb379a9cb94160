/- A shadow semantics: Go code over pure data. Definitions: data values, the shadow heap, operations, code, and the weakest precondition. -/
import Derived.WalkKit
import Derived.CallsIn
import Derived.OrdersIn
namespace Sh
open Go

/-- Pure data as a value: what a Go value reads as. 'own', 'ptr' refer to an object of the shadow heap. -/
inductive DV where
  | undef
  | bool (b : Bool)
  | int (k : IntKind) (n : Int)
  | str (s : List UInt8)
  | agg (cs : List DV)
  | tuple (vs : List DV)
  | list (l : List DV)
  | full (l : List DV)
  | ip (d : DV)
  | func (f : FuncId) (caps : List DV)
  | nilptr
  | nilfunc
  | own (n off len tot : Nat)
  | ptr (n i off tot : Nat)
  | bptr (n off : Nat)
  | dict (n : Nat)
  deriving Inhabited

def DV.cells : DV → List DV
  | .agg cs => cs
  | d => [d]

/-- An object of the shadow heap: a row of pure elements of 'sz' cells each ('fr': frozen: nobody writes any more); a variable of its own. -/
inductive DObj where
  | row (sz : Nat) (es : List DV) (fr : Bool)
  | box (sz : Nat) (d : DV)
  | fbox (sz : Nat) (d : DV)
  | dict (es : List (DV × DV))
  | siter (s : List UInt8) (pos : Nat)
  deriving Inhabited

abbrev Tmps := List (Nat × DV)
abbrev Heap := List (Nat × DObj)

def tget : Tmps → Nat → DV
  | [], _ => .undef
  | (k, v) :: r, i => bif Nat.beq k i then v else tget r i

def hlook : Heap → Nat → Option DObj
  | [], _ => none
  | (k, v) :: r, i => bif Nat.beq k i then some v else hlook r i

def putO (dst : Option Nat) (d : DV) (t : Tmps) : Tmps :=
  match dst with
  | some k => (k, d) :: t
  | none => t

mutual
/-- Does the value refer to no object of the heap? -/
def pureB : DV → Bool
  | .own .. | .ptr .. | .bptr .. | .dict .. => false
  | .agg cs => pureBs cs
  | .tuple cs => pureBs cs
  | .func _ cs => pureBs cs
  | _ => true
def pureBs : List DV → Bool
  | [] => true
  | d :: r => pureB d && pureBs r
end

mutual
/-- Does the value hold no address at all? -/
def flatB : DV → Bool
  | .undef | .bool _ | .int _ _ | .str _ | .nilptr | .nilfunc => true
  | .agg cs => flatBs cs
  | .tuple cs => flatBs cs
  | .func _ cs => flatBs cs
  | _ => false
def flatBs : List DV → Bool
  | [] => true
  | d :: r => flatB d && flatBs r
end

mutual
/-- The names that a value mentions. -/
def names : DV → List Nat
  | .own n .. | .ptr n .. | .bptr n _ | .dict n => [n]
  | .agg cs => namess cs
  | .tuple cs => namess cs
  | .func _ cs => namess cs
  | _ => []
def namess : List DV → List Nat
  | [] => []
  | d :: r => names d ++ namess r
end

/-- The window of a row. -/
def window {α : Type} (es : List α) (off len : Nat) : List α := (es.drop off).take len

def pand : Option Prop → Option Prop → Option Prop
  | none, q => q
  | p, none => p
  | some p, some q => some (p ∧ q)

mutual
/-- A value as a pure one: what it refers to is read out of the heap. -/
def pur (lk : Nat → Option DObj) : DV → Option (Option Prop × DV)
  | .own n off len tot => match lk n with
    | some (.row _ es _) => some (some (tot = es.length), .list (window es off len))
    | _ => none
  | .ptr .. => none
  | .bptr n off => match lk n with
    | some (.box _ d) => bif Nat.beq off 0 && pureB d then some (none, .ip d) else none
    | some (.fbox _ d) => bif Nat.beq off 0 && pureB d then some (none, .ip d) else none
    | _ => none
  | .dict .. => none
  | .full l => some (none, .list l)
  | .agg cs => match purs lk cs with
    | some (p, ds) => some (p, .agg ds)
    | none => none
  | .tuple cs => match purs lk cs with
    | some (p, ds) => some (p, .tuple ds)
    | none => none
  | .func f cs => match purs lk cs with
    | some (p, ds) => some (p, .func f ds)
    | none => none
  | d => some (none, d)
def purs (lk : Nat → Option DObj) : List DV → Option (Option Prop × List DV)
  | [] => some (none, [])
  | d :: r => match pur lk d, purs lk r with
    | some (p, d'), some (q, r') => some (pand p q, d' :: r')
    | _, _ => none
end

/-- What a constant of the program reads as. -/
def ofCell : Value → DV
  | .bool b => .bool b
  | .int k n => .int k n
  | .string s => .str s.data.toList
  | .slice none 0 0 => .full []
  | .pointer none => .nilptr
  | .nilFunc => .nilfunc
  | .tuple vs => match vs.toList with
    | [] => .tuple []
    | _ => .undef
  | _ => .undef
def ofValue : Value → DV
  | .agg cs => .agg (cs.toList.map ofCell)
  | v => ofCell v

def evalOpd (G : Nat → Option DV) (t : Tmps) : Operand → DV
  | .tmp i => tget t i
  | .const v => ofValue v
  | .func f => .func f []
  | .global g => match G g with
    | some d => .ip d
    | none => .undef

/-- A part of a flat row of cells. -/
def part (agg : Bool) (off sz : Nat) (cs : List DV) : DV := bif agg then .agg ((cs.drop off).take sz) else cs.getD off .undef

/-- Cells put into a flat row. -/
def setCells (cs : List DV) (off : Nat) (new : List DV) : List DV := cs.take off ++ new ++ cs.drop (off + new.length)

inductive DOp where
  | mov (x : Operand)
  | pick (c a b : Operand)
  | alloc (z : DV) (sz : Nat)
  | box (sz : Nat) (x : Operand)
  | build (z : List DV) (parts : List (Nat × Nat × Operand))
  | lit (imm : Bool) (sz len : Nat) (z : DV) (parts : List (Nat × Operand))
  | load (agg : Option Nat) (a : Operand)
  | store (sz : Nat) (a x : Operand)
  | nilCheck (x : Operand)
  | bin (op : BinOp) (x y : Operand)
  | eqB (neg : Bool) (x y : Operand)
  | eqA (neg : Bool) (ks : List Nat) (x y : Operand)
  | un (op : UnOp) (x : Operand)
  | conv (k : IntKind) (x : Operand)
  | same (x : Operand)
  | mkfunc (f : FuncId) (caps : List Operand)
  | slice (sz : Nat) (x : Operand) (lo hi mx : Option Operand)
  | sliceS (x : Operand) (lo hi : Option Operand)
  | sliceA (n esz : Nat) (agg : Bool) (x : Operand)
  | faddr (off sz : Nat) (agg : Bool) (x : Operand)
  | field (off sz : Nat) (agg : Bool) (x : Operand)
  | iaddr (sz : Nat) (x i : Operand)
  | iaddrA (len esz : Nat) (agg : Bool) (x i : Operand)
  | indexS (x i : Operand)
  | indexA (len esz : Nat) (agg : Bool) (x i : Operand)
  | extract (x : Operand) (i : Nat)
  | call (f : Operand) (args : List Operand)
  | len (x : Operand)
  | lenS (x : Operand)
  | lenC (n : Nat)
  | append (imm : Bool) (sz : Nat) (s x : Operand)
  | copy (sz : Nat) (d x : Operand)
  | minmax (mx : Bool) (x : Operand) (r : List Operand)
  | mkslice (sz : Nat) (z : DV) (l c : Operand)
  | makemap
  | mapset (kk : Nat) (ks : List Nat) (m k v : Operand)
  | lookup (kk : Nat) (ks : List Nat) (ok : Bool) (z : DV) (m k : Operand)
  | mapentry (kk : Nat) (ks : List Nat) (z : DV) (m k : Operand)
  | entrystore (m s v : Operand)
  | lenM (x : Operand)
  | rangeS (x : Operand)
  | nextS (x : Operand)
  deriving Inhabited

structure DOper where
  dst : Option Nat
  op : DOp
  guard : Option (Nat × Bool)
  bef : List Nat
  deriving Inhabited

structure Keep where
  cv : List Nat
  kt : List Nat
  kh : List Nat
  deriving Inhabited

inductive DC where
  | skip
  | ops (draw : Bool) (l : List DOper)
  | seq (a b : DC)
  | cond (c : Operand) (a b : DC)
  | block (id : Nat) (k : Option Keep) (a : DC)
  | loop (k : Keep) (b : DC)
  | exit (id : Nat)
  | ret
  deriving Inhabited

inductive DExit where
  | normal
  | exit (id : Nat)
  | ret

/-- What an operation comes to. -/
inductive Ev where
  | fail
  | ok (p : Option Prop) (d : DV) (u : Heap)
  | okF (ns : List Nat) (p : Option Prop) (d : DV) (u : Heap)
  | call (f : FuncId) (vs : List DV)

def intBin (op : BinOp) (k : IntKind) (a b : Int) : Ev :=
  match op with
  | .add => .ok none (.int k (k.wrap (a + b))) []
  | .sub => .ok none (.int k (k.wrap (a - b))) []
  | .mul => .ok none (.int k (k.wrap (a * b))) []
  | .quo => .ok (some (b ≠ 0)) (.int k (k.wrap (a.tdiv b))) []
  | .rem => .ok (some (b ≠ 0)) (.int k (a.tmod b)) []
  | .eql => .ok none (.bool (decide (a = b))) []
  | .neq => .ok none (.bool (decide (a ≠ b))) []
  | .lss => .ok none (.bool (decide (a < b))) []
  | .leq => .ok none (.bool (decide (a ≤ b))) []
  | .gtr => .ok none (.bool (decide (b < a))) []
  | .geq => .ok none (.bool (decide (b ≤ a))) []
  | _ => .fail

def strBin (op : BinOp) (a b : List UInt8) : Ev :=
  match op with
  | .add => .ok (some (a.length + b.length ≤ 9223372036854775807)) (.str (a ++ b)) []
  | .eql => .ok none (.bool (decide (a = b))) []
  | .neq => .ok none (.bool (decide (a ≠ b))) []
  | .lss => .ok none (.bool (Op.bytesLess a b)) []
  | _ => .fail

def kindNo : IntKind → Nat
  | .i8 => 0 | .i16 => 1 | .i32 => 2 | .i64 => 3 | .u8 => 4 | .u16 => 5 | .u32 => 6 | .u64 => 7
def kindEq (j k : IntKind) : Bool := Nat.beq (kindNo j) (kindNo k)

/-- Equality of flat cells, by the kinds of the cells (0: bool, 1: int, 2: string). -/
def eqCells : List Nat → List DV → List DV → Option Bool
  | [], [], [] => some true
  | 1 :: ks, .int j a :: r, .int k b :: r' => match eqCells ks r r' with
    | some e => bif kindEq j k then some (decide (a = b) && e) else none
    | none => none
  | 0 :: ks, .bool a :: r, .bool b :: r' => match eqCells ks r r' with
    | some e => some ((a == b) && e)
    | none => none
  | 2 :: ks, .str a :: r, .str b :: r' => match eqCells ks r r' with
    | some e => some (decide (a = b) && e)
    | none => none
  | _, _, _ => none

/-- Equality of a map's keys ('kk': 0 bools, 1 integers, 2 strings, 3 aggregates, whose cells' kinds are 'ks'). -/
def keyEq (kk : Nat) (ks : List Nat) (a b : DV) : Option Bool :=
  match kk with
  | 0 => match a, b with
    | .bool a, .bool b => some (a == b)
    | _, _ => none
  | 1 => match a, b with
    | .int j a, .int k b => bif kindEq j k then some (decide (a = b)) else none
    | _, _ => none
  | 2 => match a, b with
    | .str a, .str b => some (decide (a = b))
    | _, _ => none
  | _ => match a, b with
    | .agg xs, .agg ys => eqCells ks xs ys
    | _, _ => none

/-- Where a key stands in a map's entries. -/
def dfind (eq : DV → DV → Option Bool) (k : DV) : List (DV × DV) → Nat → Option (Option (Nat × DV))
  | [], _ => some none
  | (k', v) :: r, i => match eq k k' with
    | some true => some (some (i, v))
    | some false => dfind eq k r (i + 1)
    | none => none

/-- A rune of a string, and its width. -/
def sdecode (s : List UInt8) (pos : Nat) : Nat × Nat := Utf8.decode ⟨s.toArray⟩ pos

/-- The elements of a literal slice. -/
def litElems (ev : Operand → DV) : List (Nat × Operand) → List DV → List DV
  | [], es => es
  | (i, x) :: r, es => litElems ev r (es.set i (ev x))

/-- What a slice value reads as, with what must hold for it. -/
def elems (lk : Nat → Option DObj) : DV → Option (Option Prop × List DV)
  | .list l => some (none, l)
  | .full l => some (none, l)
  | .own n off len tot => match lk n with
    | some (.row _ es _) => some (some (tot = es.length), window es off len)
    | _ => none
  | _ => none

def bound (o : Option Operand) (ev : Operand → DV) (dflt : Int) : Option Int :=
  match o with
  | none => some dflt
  | some x => match ev x with
    | .int _ n => some n
    | _ => none

def chunks (agg : Bool) (esz : Nat) (cs : List DV) : Nat → List DV
  | 0 => []
  | n + 1 => chunks agg esz cs n ++ [part agg (n * esz) esz cs]

def minmaxI (mx : Bool) (a b : Int) : Int := bif mx then (if b > a then b else a) else (if b < a then b else a)

def minmaxAll (ev : Operand → DV) (mx : Bool) (k : IntKind) : List Operand → Int → Option Int
  | [], a => some a
  | x :: r, a => match ev x with
    | .int k' b => bif kindEq k k' then minmaxAll ev mx k r (minmaxI mx a b) else none
    | _ => none

/-- A value of one cell. -/
def cellB : DV → Bool
  | .undef | .agg _ | .tuple _ => false
  | _ => true
def cellsB : List DV → Bool
  | [] => true
  | d :: r => cellB d && cellsB r
/-- An element of so many cells. -/
def okE (sz : Nat) (d : DV) : Bool := Nat.beq d.cells.length sz && cellsB d.cells

def isAggB : DV → Bool
  | .agg _ => true
  | _ => false

def fillCells (ev : Operand → DV) : List (Nat × Nat × Operand) → List DV → Option (List DV)
  | [], cs => some cs
  | (off, sz, x) :: r, cs => bif okE sz (ev x) && Nat.ble (off + sz) cs.length then fillCells ev r (setCells cs off (ev x).cells) else none

def evalOp (ev : Operand → DV) (lk : Nat → Option DObj) (n : Nat) : DOp → Ev
  | .mov x => .ok none (ev x) []
  | .same x => match ev x with
    | .str s => .ok none (.str s) []
    | _ => .fail
  | .pick c a b => match ev c with
    | .bool c => match ev a, ev b with
      | .bool x, .bool y => .ok none (.bool (bif c then x else y)) []
      | _, _ => .ok none (bif c then ev a else ev b) []
    | _ => .fail
  | .alloc z sz => match lk n with
    | none => bif okE sz z then .ok none (.bptr n 0) [(n, .box sz z)] else .fail
    | some _ => .fail
  | .box sz x => match lk n with
    | none => bif okE sz (ev x) then .ok none (.bptr n 0) [(n, .box sz (ev x))] else .fail
    | some _ => .fail
  | .build z parts => match fillCells ev parts z with
    | some cs => .ok none (.agg cs) []
    | none => .fail
  | .lit imm sz len z parts =>
    match purs lk (litElems ev parts (List.replicate len z)) with
    | some (p, es) => bif parts.all (fun q => okE sz (ev q.2)) then
        (bif imm then .okF (namess (litElems ev parts (List.replicate len z))) p (.full es) []
         else match lk n with
          | none => .okF (namess (litElems ev parts (List.replicate len z))) p (.own n 0 es.length es.length) [(n, .row sz es false)]
          | some _ => .fail)
      else .fail
    | none => .fail
  | .load agg a => match ev a with
    | .ip d => match agg with
      | none => bif isAggB d then .fail else .ok none d []
      | some k => match d with
        | .agg cs => bif Nat.beq cs.length k then .ok none (.agg cs) [] else .fail
        | _ => .fail
    | .bptr n off => match lk n with
      | some (.box sz d) => match agg with
        | none => bif Nat.blt off sz then .ok none (d.cells.getD off .undef) [] else .fail
        | some k => bif Nat.beq off 0 && Nat.beq k sz && isAggB d then .ok none d []
          else bif Nat.ble (off + k) sz then .ok none (.agg ((d.cells.drop off).take k)) [] else .fail
      | some (.fbox sz d) => match agg with
        | none => bif Nat.blt off sz then .ok none (d.cells.getD off .undef) [] else .fail
        | some k => bif Nat.beq off 0 && Nat.beq k sz && isAggB d then .ok none d []
          else bif Nat.ble (off + k) sz then .ok none (.agg ((d.cells.drop off).take k)) [] else .fail
      | _ => .fail
    | .ptr n i off tot => match lk n with
      | some (.row sz es _) => match agg with
        | none => .ok (some (tot = es.length ∧ off < sz)) ((es.getD i .undef).cells.getD off .undef) []
        | some k => bif Nat.beq off 0 && Nat.beq k sz then .ok (some (tot = es.length ∧ isAggB (es.getD i .undef) = true)) (es.getD i .undef) []
          else .ok (some (tot = es.length ∧ off + k ≤ sz)) (.agg (((es.getD i .undef).cells.drop off).take k)) []
      | _ => .fail
    | _ => .fail
  | .store k a x => match ev a with
    | .bptr n off => match lk n with
      | some (.box sz d) => bif okE k (ev x) && Nat.ble (off + k) sz then
          .ok none (.tuple []) [(n, .box sz (bif Nat.beq off 0 && Nat.beq k sz then ev x else .agg (setCells d.cells off (ev x).cells)))] else .fail
      | _ => .fail
    | .ptr n i off tot => match lk n with
      | some (.row sz es false) => match pur lk (ev x) with
        | some (q, v) => bif (names (ev x)).any (Nat.beq n) || !cellsB (ev x).cells then .fail else .okF (names (ev x)) (pand q (some (tot = es.length ∧ off + k ≤ sz ∧ okE k v = true))) (.tuple [])
          [(n, .row sz (es.set i (bif Nat.beq off 0 && Nat.beq k sz then v else .agg (setCells (es.getD i .undef).cells off v.cells))) false)]
        | none => .fail
      | _ => .fail
    | _ => .fail
  | .nilCheck x => match ev x with
    | .ip d => .ok none (.ip d) []
    | .ptr n i off tot => match lk n with
      | some (.row _ es _) => .ok (some (tot = es.length)) (.ptr n i off tot) []
      | _ => .fail
    | .bptr n off => .ok none (.bptr n off) []
    | .func f cs => .ok none (.func f cs) []
    | _ => .fail
  | .bin op x y => match ev x, ev y with
    | .int j a, .int k b => bif kindEq j k then intBin op j a b else .fail
    | .str a, .str b => strBin op a b
    | _, _ => .fail
  | .eqB neg x y => match ev x, ev y with
    | .bool a, .bool b => .ok none (.bool (bif neg then a != b else a == b)) []
    | _, _ => .fail
  | .eqA neg ks x y => match ev x, ev y with
    | .agg xs, .agg ys => match eqCells ks xs ys with
      | some e => .ok none (.bool (bif neg then !e else e)) []
      | none => .fail
    | _, _ => .fail
  | .un op x => match op, ev x with
    | .neg, .int k a => .ok none (.int k (k.wrap (-a))) []
    | .not, .bool b => .ok none (.bool (!b)) []
    | _, _ => .fail
  | .conv k x => match ev x with
    | .int _ a => .ok none (.int k (k.wrap a)) []
    | _ => .fail
  | .mkfunc f caps => .ok none (.func f (caps.map ev)) []
  | .slice sz x lo hi mx => match mx with
    | none => match ev x with
      | .list s => match bound lo ev 0, bound hi ev s.length with
        | some l, some h => .ok (some (0 ≤ l ∧ l ≤ h ∧ h ≤ s.length ∧ ∀ e ∈ s, okE sz e = true)) (.list (window s l.toNat (h - l).toNat)) []
        | _, _ => .fail
      | .full s => match bound lo ev 0, bound hi ev s.length with
        | some l, some h => .ok (some (0 ≤ l ∧ l ≤ h ∧ h ≤ s.length ∧ ∀ e ∈ s, okE sz e = true)) (.list (window s l.toNat (h - l).toNat)) []
        | _, _ => .fail
      | .own n off len tot => match bound lo ev 0, bound hi ev len with
        | some l, some h => match lk n with
          | some (.row sz' es _) => bif Nat.beq sz sz' then .ok (some (tot = es.length ∧ 0 ≤ l ∧ l ≤ h ∧ h ≤ len)) (.own n (off + l.toNat) (h - l).toNat tot) [] else .fail
          | _ => .fail
        | _, _ => .fail
      | _ => .fail
    | some m => match ev x, bound lo ev 0, bound hi ev 1, ev m with
      | .list _, some 0, some 0, .int _ 0 => .ok none (.full []) []
      | .full _, some 0, some 0, .int _ 0 => .ok none (.full []) []
      | _, _, _, _ => .fail
  | .sliceS x lo hi => match ev x with
    | .str s => match bound lo ev 0, bound hi ev s.length with
      | some l, some h => .ok (some (0 ≤ l ∧ l ≤ h ∧ h ≤ s.length)) (.str (window s l.toNat (h - l).toNat)) []
      | _, _ => .fail
    | _ => .fail
  | .sliceA n esz agg x => match ev x with
    | .ip (.agg cs) => .ok (some (cs.length = n * esz)) (.full (chunks agg esz cs n)) []
    | _ => .fail
  | .faddr off sz agg x => match ev x with
    | .ip (.agg cs) => bif Nat.ble (off + sz) cs.length && (agg || !isAggB (part agg off sz cs)) then .ok none (.ip (part agg off sz cs)) [] else .fail
    | .ptr n i o tot => match lk n with
      | some (.row _ es _) => .ok (some (tot = es.length)) (.ptr n i (o + off) tot) []
      | _ => .fail
    | .bptr n o => .ok none (.bptr n (o + off)) []
    | _ => .fail
  | .field off sz agg x => match ev x with
    | .agg cs => bif Nat.ble (off + sz) cs.length then .ok none (part agg off sz cs) [] else .fail
    | _ => .fail
  | .iaddr sz x i => match ev i with
    | .int _ i => match ev x with
      | .list l => .ok (some (0 ≤ i ∧ i < l.length ∧ (l.getD i.toNat .undef).cells.length = sz)) (.ip (l.getD i.toNat .undef)) []
      | .full l => .ok (some (0 ≤ i ∧ i < l.length ∧ (l.getD i.toNat .undef).cells.length = sz)) (.ip (l.getD i.toNat .undef)) []
      | .own n off len tot => match lk n with
        | some (.row sz' es _) => bif Nat.beq sz sz' then .ok (some (tot = es.length ∧ 0 ≤ i ∧ i < len)) (.ptr n (off + i.toNat) 0 tot) [] else .fail
        | _ => .fail
      | _ => .fail
    | _ => .fail
  | .iaddrA len esz agg x i => match ev i with
    | .int _ i => match ev x with
      | .ip (.agg cs) => .ok (some (0 ≤ i ∧ i < len ∧ cs.length = len * esz ∧ isAggB (part agg (i.toNat * esz) esz cs) = agg)) (.ip (part agg (i.toNat * esz) esz cs)) []
      | .ptr n j off tot => match lk n with
        | some (.row _ es _) => .ok (some (tot = es.length ∧ 0 ≤ i ∧ i < len)) (.ptr n j (off + i.toNat * esz) tot) []
        | _ => .fail
      | .bptr n off => .ok (some (0 ≤ i ∧ i < len)) (.bptr n (off + i.toNat * esz)) []
      | _ => .fail
    | _ => .fail
  | .indexS x i => match ev x, ev i with
    | .str s, .int _ i => .ok (some (0 ≤ i ∧ i < s.length)) (.int .u8 (s.getD i.toNat 0).toNat) []
    | _, _ => .fail
  | .indexA len esz agg x i => match ev x, ev i with
    | .agg cs, .int _ i => .ok (some (0 ≤ i ∧ i < len ∧ cs.length = len * esz)) (part agg (i.toNat * esz) esz cs) []
    | _, _ => .fail
  | .extract x i => match ev x with
    | .tuple vs => bif Nat.blt i vs.length then .ok none (vs.getD i .undef) [] else .fail
    | _ => .fail
  | .call f args => match ev f with
    | .func g caps => .call g (args.map ev ++ caps)
    | _ => .fail
  | .len x => match ev x with
    | .list l => .ok none (.int .i64 l.length) []
    | .full l => .ok none (.int .i64 l.length) []
    | .own n _ len tot => match lk n with
      | some (.row _ es _) => .ok (some (tot = es.length)) (.int .i64 len) []
      | _ => .fail
    | _ => .fail
  | .lenS x => match ev x with
    | .str s => .ok none (.int .i64 s.length) []
    | _ => .fail
  | .lenC n => .ok none (.int .i64 n) []
  | .append imm sz s x => match elems lk (ev x) with
    | none => .fail
    | some (q, xs) => match ev s with
      | .full l => bif imm then .ok (pand q (some (l.length + xs.length ≤ 1073741824 ∧ (∀ e ∈ xs, okE sz e = true) ∧ (∀ e ∈ l, okE sz e = true)))) (.list (l ++ xs)) []
        else match lk n with
          | none => .ok (pand q (some (l.length + xs.length ≤ 1073741824 ∧ (∀ e ∈ xs, okE sz e = true) ∧ (∀ e ∈ l, okE sz e = true) ∧ (l = [] ∨ xs ≠ []))))
              (.own n 0 (l ++ xs).length (l ++ xs).length) [(n, .row sz (l ++ xs) false)]
          | some _ => .fail
      | .own m off len tot => match lk m with
        | some (.row sz' es false) => bif imm || !(Nat.beq sz' sz || Nat.beq sz' 0) then .fail else
          .ok (pand q (some (off = 0 ∧ len = es.length ∧ tot = es.length ∧ es.length + xs.length ≤ 1073741824 ∧ (∀ e ∈ xs, okE sz e = true))))
              (.own m 0 (es ++ xs).length (es ++ xs).length) [(m, .row sz (es ++ xs) false)]
        | _ => .fail
      | _ => .fail
  | .copy sz d x => match elems lk (ev x) with
    | none => .fail
    | some (q, xs) => match ev d with
      | .own m off len tot => match lk m with
        | some (.row sz' es false) => bif Nat.beq sz sz' then
          .ok (pand q (some (tot = es.length ∧ (∀ e ∈ xs, okE sz e = true)))) (.int .i64 (min xs.length len : Nat))
            [(m, .row sz (es.take off ++ xs.take len ++ es.drop (off + min xs.length len)) false)] else .fail
        | _ => .fail
      | _ => .fail
  | .minmax mx x r => match ev x with
    | .int k a => match minmaxAll ev mx k r a with
      | some b => .ok none (.int k b) []
      | none => .fail
    | _ => .fail
  | .mkslice sz z l c => match ev l, ev c with
    | .int _ a, .int _ b => match lk n with
      | none => .ok (some (0 ≤ a ∧ a ≤ b ∧ b ≤ 1073741824 ∧ okE sz z = true ∧ pureB z = true)) (.own n 0 a.toNat a.toNat) [(n, .row sz (List.replicate a.toNat z) false)]
      | some _ => .fail
    | _, _ => .fail
  | .makemap => match lk n with
    | none => .ok none (.dict n) [(n, .dict [])]
    | some _ => .fail
  | .mapset kk ks m k v => match ev m with
    | .dict q => match lk q with
      | some (.dict es) => bif pureB (ev k) && pureB (ev v) then (match dfind (keyEq kk ks) (ev k) es 0 with
        | some (some (i, _)) => .ok none (.tuple []) [(q, .dict (es.set i (ev k, ev v)))]
        | some none => .ok none (.tuple []) [(q, .dict (es ++ [(ev k, ev v)]))]
        | none => .fail) else .fail
      | _ => .fail
    | _ => .fail
  | .lookup kk ks ok z m k => match ev m with
    | .dict q => match lk q with
      | some (.dict es) => bif pureB (ev k) then (match dfind (keyEq kk ks) (ev k) es 0 with
        | some (some (_, v)) => .ok none (bif ok then .tuple [v, .bool true] else v) []
        | some none => .ok none (bif ok then .tuple [z, .bool false] else z) []
        | none => .fail) else .fail
      | _ => .fail
    | _ => .fail
  | .mapentry kk ks z m k => match ev m with
    | .dict q => match lk q with
      | some (.dict es) => bif pureB (ev k) then (match dfind (keyEq kk ks) (ev k) es 0 with
        | some (some (i, v)) => .ok none (.tuple [v, .int .i64 i]) [(q, .dict (es.set i (ev k, v)))]
        | some none => .ok none (.tuple [z, .int .i64 es.length]) [(q, .dict (es ++ [(ev k, z)]))]
        | none => .fail) else .fail
      | _ => .fail
    | _ => .fail
  | .entrystore m s v => match ev m, ev s with
    | .dict q, .int _ i => match lk q with
      | some (.dict es) => bif pureB (ev v) then .ok (some (0 ≤ i ∧ i < es.length)) (.tuple []) [(q, .dict (es.set i.toNat ((es.getD i.toNat (.undef, .undef)).1, ev v)))] else .fail
      | _ => .fail
    | _, _ => .fail
  | .lenM x => match ev x with
    | .dict q => match lk q with
      | some (.dict es) => .ok none (.int .i64 es.length) []
      | _ => .fail
    | _ => .fail
  | .rangeS x => match ev x with
    | .str s => match lk n with
      | none => .ok none (.dict n) [(n, .siter s 0)]
      | some _ => .fail
    | _ => .fail
  | .nextS x => match ev x with
    | .dict q => match lk q with
      | some (.siter s pos) => match Nat.blt pos s.length with
        | true => .ok none (.tuple [.bool true, .int .i64 pos, .int .i32 (sdecode s pos).1]) [(q, .siter s (pos + (sdecode s pos).2))]
        | false => .ok none (.tuple [.bool false]) []
      | _ => .fail
    | _ => .fail
end Sh
