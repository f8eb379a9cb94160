/- What it means that a Go value reads as data; what a pure function is. -/
import Derived.Test.YtcdhbdhonpddeaaDoorShDefs
namespace Sh
open Go

abbrev Mem := Nat → Nat → Option Value

def flat (l : List DV) : List DV := l.flatMap DV.cells

/-- The value reads as the data, in memory that nobody writes. -/
inductive RelP (M : Mem) : DV → Value → Prop
  | undef (v) : RelP M .undef v
  | bool (b) : RelP M (.bool b) (.bool b)
  | int (k n) : RelP M (.int k n) (.int k n)
  | str (s : List UInt8) : RelP M (.str s) (.string ⟨s.toArray⟩)
  | agg (ds : List DV) (vs : Array Value) (hl : ds.length = vs.size) (h : ∀ i, i < ds.length → RelP M (ds.getD i .undef) (vs.getD i Go.undef)) : RelP M (.agg ds) (.agg vs)
  | tuple (ds : List DV) (vs : Array Value) (hl : ds.length = vs.size) (h : ∀ i, i < ds.length → RelP M (ds.getD i .undef) (vs.getD i Go.undef)) : RelP M (.tuple ds) (.tuple vs)
  | func (f) (ds : List DV) (vs : Array Value) (hl : ds.length = vs.size) (h : ∀ i, i < ds.length → RelP M (ds.getD i .undef) (vs.getD i Go.undef)) : RelP M (.func f ds) (.func (.func f) #[] vs)
  | list (l : List DV) (a : Option Addr) (cap sz b o : Nat) (g : Nat → Value) (hcap : l.length ≤ cap) (ha : l = [] ∨ a = some ⟨b, o, none⟩) (hsz : ∀ e ∈ l, e.cells.length = sz)
      (hM : ∀ i, i < (flat l).length → M b (o + i) = some (g i)) (hr : ∀ i, i < (flat l).length → RelP M ((flat l).getD i .undef) (g i)) : RelP M (.list l) (.slice a l.length cap)
  | full (l : List DV) (a : Option Addr) (sz b o : Nat) (g : Nat → Value) (ha : l = [] ∨ a = some ⟨b, o, none⟩) (hsz : ∀ e ∈ l, e.cells.length = sz)
      (hM : ∀ i, i < (flat l).length → M b (o + i) = some (g i)) (hr : ∀ i, i < (flat l).length → RelP M ((flat l).getD i .undef) (g i)) : RelP M (.full l) (.slice a l.length l.length)
  | ip (d : DV) (b o : Nat) (g : Nat → Value) (hM : ∀ i, i < d.cells.length → M b (o + i) = some (g i)) (hr : ∀ i, i < d.cells.length → RelP M (d.cells.getD i .undef) (g i)) : RelP M (.ip d) (.pointer (some ⟨b, o, none⟩))
  | nilptr : RelP M .nilptr (.pointer none)
  | nilfunc : RelP M .nilfunc .nilFunc

def Mem.le (M M' : Mem) : Prop := ∀ b o v, M b o = some v → M' b o = some v
theorem Mem.le_refl (M : Mem) : M.le M := fun _ _ _ h => h
theorem Mem.le_trans {A B C : Mem} (h : A.le B) (k : B.le C) : A.le C := fun b o v e => k b o v (h b o v e)

theorem RelP.mono {M M' : Mem} (hm : M.le M') {d : DV} {v : Value} (h : RelP M d v) : RelP M' d v := by
  induction h with
  | undef v => exact .undef v
  | bool b => exact .bool b
  | int k n => exact .int k n
  | str s => exact .str s
  | agg ds vs hl _ ih => exact .agg ds vs hl ih
  | tuple ds vs hl _ ih => exact .tuple ds vs hl ih
  | func f ds vs hl _ ih => exact .func f ds vs hl ih
  | list l a cap sz b o g hcap ha hsz hM _ ih => exact .list l a cap sz b o g hcap ha hsz (fun i hi => hm _ _ _ (hM i hi)) ih
  | full l a sz b o g ha hsz hM _ ih => exact .full l a sz b o g ha hsz (fun i hi => hm _ _ _ (hM i hi)) ih
  | ip d b o g hM _ ih => exact .ip d b o g (fun i hi => hm _ _ _ (hM i hi)) ih
  | nilptr => exact .nilptr
  | nilfunc => exact .nilfunc

/-- The memory that nobody writes lies in the world. -/
def Mem.holds (M : Mem) (w : World) : Prop := ∀ b o v, M b o = some v → w.cell? ⟨b, o, none⟩ = some v

/-- The listed package-level variables read as data. -/
def GOk (G : Nat → Option DV) (M : Mem) : Prop := ∀ g d, G g = some d → RelP M (.ip d) (.pointer (some ⟨g, 0, none⟩))

theorem GOk.mono {G : Nat → Option DV} {M M' : Mem} (hm : M.le M') (h : GOk G M) : GOk G M' := fun g d e => (h g d e).mono hm

def RelPs (M : Mem) (ds : List DV) (vs : Array Value) : Prop := ds.length = vs.size ∧ ∀ i, i < ds.length → RelP M (ds.getD i .undef) (vs.getD i Go.undef)

/-- What a call of a pure function leaves. -/
def After (M : Mem) (w : World) (d : DV) (e : Ending) (w' : World) : Prop :=
  ∃ v M', e = .returned v ∧ M.le M' ∧ M'.holds w' ∧ RelP M' d v ∧ RowKit.Below w.heap.size w w' ∧
    ∀ b o v, M' b o = some v → M b o = none → w.heap.size ≤ b

/-- A call of the function goes into its body. -/
def Enters (P : Program) (f : FuncId) : Prop := ∀ (args : Array Value) (w : World), (callFunc f args).run P w = .ok (.enter f args) w

/-- Called with values that read as 'ds', the function returns a value that reads as 'd', and nothing that was there has changed. -/
def PureCall (P : Program) (G : Nat → Option DV) (f : FuncId) (ds : List DV) (d : DV) : Prop :=
  Enters P f ∧ ∀ (F : Fence) (n : Nat), (∀ f, F.fn f) → F.depth = none → F.round = none → ∀ (M : Mem) (w : World) (vs : Array Value), GOk G M → M.holds w → RelPs M ds vs → CallsIn F n P f vs w (After M w d)

abbrev Locs := Nat → Option (Nat × Nat)

/-- Where a run began: the size of the heap, the older blocks that it may write, and the objects that it must keep. -/
structure Base where
  lo : Nat
  L : Nat → Prop
  ρ0 : Locs
  h0 : Heap

def Base.wr (B : Base) (b : Nat) : Prop := B.lo ≤ b ∨ B.L b
/-- A run that may write new blocks alone. -/
def Base.plain (lo : Nat) : Base := ⟨lo, fun _ => False, fun _ => none, []⟩

/-- What the run may not write is as it was. -/
structure Base.touch (B : Base) (w w' : World) : Prop where
  os : w'.os = w.os
  tape : w'.tape = w.tape
  output : w'.output = w.output
  size : w.heap.size ≤ w'.heap.size
  block : ∀ k, ¬ B.wr k → w'.heap[k]? = w.heap[k]?

section
variable {B : Base} {w w' w'' : World}
theorem Base.touch.refl (B : Base) (w : World) : B.touch w w := ⟨rfl, rfl, rfl, Nat.le_refl _, fun _ _ => rfl⟩
theorem Base.touch.trans (h : B.touch w w') (k : B.touch w' w'') : B.touch w w'' :=
  ⟨k.os.trans h.os, k.tape.trans h.tape, k.output.trans h.output, Nat.le_trans h.size k.size, fun i hi => (k.block i hi).trans (h.block i hi)⟩
theorem Base.touch.of_below (h : RowKit.Below B.lo w w') : B.touch w w' :=
  ⟨h.os, h.tape, h.output, h.size, fun k hk => h.block k (by unfold Base.wr at hk; omega)⟩
theorem Base.touch.drew (h : B.touch w w') : B.touch w w'.drew := ⟨h.os, h.tape, h.output, h.size, h.block⟩
theorem Base.touch.alloc (h : B.touch w w') (hB : B.lo ≤ w'.heap.size) (o : Obj) : B.touch w (w'.alloc o) :=
  h.trans (.of_below ((RowKit.Below.refl _ _).alloc hB o))
theorem Base.touch.setCell (h : B.touch w w') {p : Addr} (hp : B.wr p.block) (u : Value) : B.touch w (w'.setCell p u) :=
  h.trans ⟨rfl, rfl, rfl, by simp [World.setCell], fun k hk => RowKit.Below.heap_setCell _ _ _ _ (fun e => hk (by rw [e]; exact hp))⟩
theorem Base.touch.below (h : (Base.plain w.heap.size).touch w w') : RowKit.Below w.heap.size w w' :=
  ⟨h.os, h.tape, h.output, h.size, fun k hk => h.block k (by unfold Base.wr Base.plain; simp; omega)⟩
theorem Base.touch.world (h : B.touch w w') {W : World} (hs : W.heap = w'.heap) (h1 : W.os = w'.os) (h2 : W.tape = w'.tape) (h3 : W.output = w'.output) : B.touch w W :=
  ⟨h1.trans h.os, h2.trans h.tape, h3.trans h.output, by rw [hs]; exact h.size, fun k hk => by rw [hs]; exact h.block k hk⟩
end

def SliceIs (loc : Option (Nat × Nat)) (sz off len tot : Nat) (v : Value) : Prop :=
  off + len ≤ tot ∧ match loc with
  | none => ∃ a, v = .slice a len 0
  | some (b, c) => ∃ a, v = .slice a len (c - off) ∧ (a = some ⟨b, off * sz, none⟩ ∨ (len = 0 ∧ off ≠ 0))

/-- A value reads as data that may refer to the heap. -/
inductive RelV (M : Mem) (ρ : Locs) (h : Heap) : DV → Value → Prop
  | pure {d v} (hp : RelP M d v) : RelV M ρ h d v
  | agg (ds : List DV) (vs : Array Value) (hl : ds.length = vs.size) (hr : ∀ i, i < ds.length → RelV M ρ h (ds.getD i .undef) (vs.getD i Go.undef)) : RelV M ρ h (.agg ds) (.agg vs)
  | tuple (ds : List DV) (vs : Array Value) (hl : ds.length = vs.size) (hr : ∀ i, i < ds.length → RelV M ρ h (ds.getD i .undef) (vs.getD i Go.undef)) : RelV M ρ h (.tuple ds) (.tuple vs)
  | func (f) (ds : List DV) (vs : Array Value) (hl : ds.length = vs.size) (hr : ∀ i, i < ds.length → RelV M ρ h (ds.getD i .undef) (vs.getD i Go.undef)) : RelV M ρ h (.func f ds) (.func (.func f) #[] vs)
  | own (n off len tot sz : Nat) (es : List DV) (fr : Bool) (v : Value) (hl : hlook h n = some (.row sz es fr)) (ht : tot ≤ es.length) (hs : ∃ a l c, v = .slice a l c) (hv : tot = es.length → SliceIs (ρ n) sz off len tot v) : RelV M ρ h (.own n off len tot) v
  | ptr (n i off tot sz : Nat) (es : List DV) (fr : Bool) (v : Value) (hl : hlook h n = some (.row sz es fr)) (ht : tot ≤ es.length) (hi : i < tot) (hs : ∃ p, v = .pointer (some p))
      (hv : tot = es.length → ∃ b c, ρ n = some (b, c) ∧ v = .pointer (some ⟨b, i * sz + off, none⟩)) : RelV M ρ h (.ptr n i off tot) v
  | bptr (n off sz b c : Nat) (d : DV) (hl : hlook h n = some (.box sz d)) (hρ : ρ n = some (b, c)) : RelV M ρ h (.bptr n off) (.pointer (some ⟨b, off, none⟩))
  | fptr (n off sz b c : Nat) (d : DV) (hl : hlook h n = some (.fbox sz d)) (hρ : ρ n = some (b, c)) : RelV M ρ h (.bptr n off) (.pointer (some ⟨b, off, none⟩))
  | dictv (n b c : Nat) (es : List (DV × DV)) (hl : hlook h n = some (.dict es)) (hρ : ρ n = some (b, c)) : RelV M ρ h (.dict n) (.map (some b))
  | sitv (n b c pos : Nat) (s : List UInt8) (hl : hlook h n = some (.siter s pos)) (hρ : ρ n = some (b, c)) : RelV M ρ h (.dict n) (.pointer (some ⟨b, 0, none⟩))

def DObj.isRow : DObj → Bool
  | .row .. => true
  | _ => false
/-- An object that stays what it is, with what it holds left open. -/
def DObj.like : DObj → DObj → Prop
  | .box sz _, .box sz' _ => sz' = sz
  | .box sz _, .fbox sz' _ => sz' = sz
  | .fbox sz _, .fbox sz' _ => sz' = sz
  | .dict _, .dict _ => True
  | .siter _ _, .siter _ _ => True
  | _, _ => False
theorem like_refl {o : DObj} (h : o.isRow = false) : o.like o := by cases o <;> simp_all [DObj.like, DObj.isRow]
theorem like_trans {a b c : DObj} (h : a.like b) (k : b.like c) : a.like c := by
  cases a <;> cases b <;> cases c <;> simp_all [DObj.like]
theorem like_row {a b : DObj} (h : a.like b) : b.isRow = false := by cases a <;> cases b <;> simp_all [DObj.like, DObj.isRow]

/-- What a later state keeps of an earlier one. -/
structure Ext (M : Mem) (ρ : Locs) (h : Heap) (M' : Mem) (ρ' : Locs) (h' : Heap) : Prop where
  le : M.le M'
  row : ∀ n sz es fr, hlook h n = some (.row sz es fr) → ∃ sz' es' fr', hlook h' n = some (.row sz' es' fr') ∧ es.length ≤ es'.length ∧ (es.length = es'.length → (sz' = sz ∨ es = []) ∧ ρ' n = ρ n)
  box : ∀ n o, hlook h n = some o → o.isRow = false → ρ' n = ρ n ∧ ∃ o', hlook h' n = some o' ∧ o.like o'

theorem Ext.refl (M : Mem) (ρ : Locs) (h : Heap) : Ext M ρ h M ρ h :=
  ⟨M.le_refl, fun n sz es fr hl => ⟨sz, es, fr, hl, Nat.le_refl _, fun _ => ⟨.inl rfl, rfl⟩⟩, fun n o hl hk => ⟨rfl, o, hl, like_refl hk⟩⟩

theorem Ext.trans {M1 M2 M3 : Mem} {ρ1 ρ2 ρ3 : Locs} {h1 h2 h3 : Heap} (a : Ext M1 ρ1 h1 M2 ρ2 h2) (b : Ext M2 ρ2 h2 M3 ρ3 h3) : Ext M1 ρ1 h1 M3 ρ3 h3 := by
  refine ⟨Mem.le_trans a.le b.le, fun n sz es fr hl => ?_, fun n o hl hk => ?_⟩
  · obtain ⟨sz2, es2, fr2, g1, g2, g3⟩ := a.row n sz es fr hl
    obtain ⟨sz3, es3, fr3, k1, k2, k3⟩ := b.row n sz2 es2 fr2 g1
    refine ⟨sz3, es3, fr3, k1, by omega, fun e => ?_⟩
    obtain ⟨q1, q2⟩ := g3 (by omega)
    obtain ⟨r1, r2⟩ := k3 (by omega)
    refine ⟨?_, r2.trans q2⟩
    rcases q1 with q1 | q1
    · rcases r1 with r1 | r1
      · exact .inl (r1.trans q1)
      · have h0 : es2.length = 0 := by rw [r1]; rfl
        exact .inr (List.eq_nil_of_length_eq_zero (by omega))
    · exact .inr q1
  · obtain ⟨g1, o2, g2, g3⟩ := a.box n o hl hk
    obtain ⟨k1, o3, k2, k3⟩ := b.box n o2 g2 (like_row g3)
    exact ⟨k1.trans g1, o3, k2, like_trans g3 k3⟩

theorem Ext.of_mem {M M' : Mem} (ρ : Locs) (h : Heap) (hm : M.le M') : Ext M ρ h M' ρ h :=
  ⟨hm, (Ext.refl M ρ h).row, (Ext.refl M ρ h).box⟩

theorem RelV.ext {M M' : Mem} {ρ ρ' : Locs} {h h' : Heap} (hx : Ext M ρ h M' ρ' h') {d : DV} {v : Value} (hr : RelV M ρ h d v) : RelV M' ρ' h' d v := by
  induction hr with
  | pure hp => exact .pure (hp.mono hx.le)
  | agg ds vs hl _ ih => exact .agg ds vs hl ih
  | tuple ds vs hl _ ih => exact .tuple ds vs hl ih
  | func f ds vs hl _ ih => exact .func f ds vs hl ih
  | own n off len tot sz es fr v hl ht hs hv =>
    obtain ⟨sz', es', fr', hl', hle, heq⟩ := hx.row n sz es fr hl
    refine .own n off len tot sz' es' fr' v hl' (by omega) hs (fun e => ?_)
    have e1 : es.length = es'.length := by omega
    obtain ⟨h1, h2⟩ := heq e1
    have h3 := hv (by omega)
    rw [h2]
    rcases h1 with rfl | rfl
    · exact h3
    · simp only [List.length_nil] at e1 ht
      have ht0 : tot = 0 := by omega
      subst ht0
      unfold SliceIs at *
      have hoff : off = 0 := by have := h3.1; omega
      subst hoff
      refine ⟨h3.1, ?_⟩
      cases hρ : ρ n with
      | none => have := h3.2; rw [hρ] at this; exact this
      | some bc => obtain ⟨b, c⟩ := bc; have := h3.2; rw [hρ] at this; simpa using this
  | ptr n i off tot sz es fr v hl ht hi hs hv =>
    obtain ⟨sz', es', fr', hl', hle, heq⟩ := hx.row n sz es fr hl
    refine .ptr n i off tot sz' es' fr' v hl' (by omega) hi hs (fun e => ?_)
    have e1 : es.length = es'.length := by omega
    obtain ⟨h1, h2⟩ := heq e1
    rcases h1 with rfl | rfl
    · rw [h2]; exact hv (by omega)
    · simp at e1; omega
  | bptr n off sz b c d hl hρ =>
    obtain ⟨h1, o', h2, h3⟩ := hx.box n _ hl rfl
    cases o' with
    | box sz' d' => simp only [DObj.like] at h3; subst h3; exact .bptr n off _ b c d' h2 (by rw [h1]; exact hρ)
    | fbox sz' d' => simp only [DObj.like] at h3; subst h3; exact .fptr n off _ b c d' h2 (by rw [h1]; exact hρ)
    | _ => exact h3.elim
  | fptr n off sz b c d hl hρ =>
    obtain ⟨h1, o', h2, h3⟩ := hx.box n _ hl rfl
    cases o' with
    | fbox sz' d' => simp only [DObj.like] at h3; subst h3; exact .fptr n off _ b c d' h2 (by rw [h1]; exact hρ)
    | _ => exact h3.elim
  | dictv n b c es hl hρ =>
    obtain ⟨h1, o', h2, h3⟩ := hx.box n _ hl rfl
    cases o' with
    | dict es' => exact .dictv n b c es' h2 (by rw [h1]; exact hρ)
    | _ => exact h3.elim
  | sitv n b c pos s hl hρ =>
    obtain ⟨h1, o', h2, h3⟩ := hx.box n _ hl rfl
    cases o' with
    | siter s' p' => exact .sitv n b c p' s' h2 (by rw [h1]; exact hρ)
    | _ => exact h3.elim

/-- An object of the shadow heap as it lies in the world. -/
def ObjRel (B : Base) (M : Mem) (ρ : Locs) (h : Heap) (w : World) (n : Nat) : DObj → Prop
  | .row sz es fr => match ρ n with
    | none => es = []
    | some (b, c) => (B.wr b ∧ sz ≠ 0) ∧ ∃ cs t, w.heap[b]? = some (.cells cs t (0, 0)) ∧ cs.size = c * sz ∧ es.length ≤ c ∧ (∀ e ∈ es, okE sz e = true) ∧
        (∀ i, i < (flat es).length → RelP M ((flat es).getD i .undef) (cs.getD i Go.undef)) ∧
        (fr = true → ∀ i, i < (flat es).length → M b i = some (cs.getD i Go.undef)) ∧ (fr = false → ∀ o, M b o = none)
  | .box sz d => ∃ b c, ρ n = some (b, c) ∧ B.wr b ∧ ∃ cs t, w.heap[b]? = some (.cells cs t (0, 0)) ∧ cs.size = sz ∧ okE sz d = true ∧
        (∀ i, i < sz → RelV M ρ h (d.cells.getD i .undef) (cs.getD i Go.undef)) ∧ ∀ o, M b o = none
  | .fbox sz d => ∃ b c, ρ n = some (b, c) ∧ B.wr b ∧ ∃ cs t, w.heap[b]? = some (.cells cs t (0, 0)) ∧ cs.size = sz ∧ okE sz d = true ∧
        (∀ i, i < sz → RelP M (d.cells.getD i .undef) (cs.getD i Go.undef)) ∧ ∀ i, i < sz → M b i = some (cs.getD i Go.undef)
  | .dict es => ∃ b c, ρ n = some (b, c) ∧ B.wr b ∧ (∃ E, w.heap[b]? = some (.map E es.length) ∧ E.size = es.length ∧
        ∀ i e, E[i]? = some e → e.born = i ∧ RelP M (es.getD i (.undef, .undef)).1 e.key ∧ RelP M (es.getD i (.undef, .undef)).2 e.val) ∧ ∀ o, M b o = none
  | .siter s pos => ∃ b c, ρ n = some (b, c) ∧ B.wr b ∧ w.heap[b]? = some (.stringIter ⟨s.toArray⟩ pos) ∧ ∀ o, M b o = none

/-! A call that reads and writes objects of the caller. -/

/-- Other names for the objects. -/
def app (π : List (Nat × Nat)) (n : Nat) : Nat :=
  match π with
  | [] => n
  | (k, m) :: r => bif Nat.beq k n then m else app r n

mutual
def ren (π : List (Nat × Nat)) : DV → DV
  | .own n a b c => .own (app π n) a b c
  | .ptr n a b c => .ptr (app π n) a b c
  | .bptr n a => .bptr (app π n) a
  | .dict n => .dict (app π n)
  | .agg cs => .agg (rens π cs)
  | .tuple cs => .tuple (rens π cs)
  | .func f cs => .func f (rens π cs)
  | d => d
def rens (π : List (Nat × Nat)) : List DV → List DV
  | [] => []
  | d :: r => ren π d :: rens π r
end

def renO (π : List (Nat × Nat)) : DObj → DObj
  | .box sz d => .box sz (ren π d)
  | o => o

def renH (π : List (Nat × Nat)) : Heap → Heap
  | [] => []
  | (n, o) :: r => (app π n, renO π o) :: renH π r

def anyB : Base := Base.plain 0

/-- The objects lie in the world. -/
structure HeapIn (M : Mem) (ρ : Locs) (h : Heap) (w : World) : Prop where
  mem : M.holds w
  obj : ∀ n o, hlook h n = some o → ObjRel anyB M ρ h w n o
  dis : ∀ n m o p b c b' c', n ≠ m → hlook h n = some o → hlook h m = some p → ρ n = some (b, c) → ρ m = some (b', c') → b ≠ b'

/-- What a call may write: new blocks, and those of the objects that it is given. -/
def callB (w : World) (ρ : Locs) (h : Heap) : Base := ⟨w.heap.size, fun b => ∃ n o c, hlook h n = some o ∧ ρ n = some (b, c), ρ, h⟩

def RelVs (M : Mem) (ρ : Locs) (h : Heap) (ds : List DV) (vs : Array Value) : Prop := ds.length = vs.size ∧ ∀ i, i < ds.length → RelV M ρ h (ds.getD i .undef) (vs.getD i Go.undef)

/-- What a call leaves that is given objects. -/
def HAfter (M : Mem) (ρ : Locs) (w : World) (h : Heap) (d : DV) (h' : Heap) (e : Ending) (w' : World) : Prop :=
  ∃ v M' ρ', e = .returned v ∧ HeapIn M' ρ' h' w' ∧ Ext M ρ h M' ρ' h' ∧ RelV M' ρ' h' d v ∧ (callB w ρ h).touch w w' ∧ (∀ b o v, M' b o = some v → M b o = none → (callB w ρ h).wr b) ∧
    ∀ n o b c, hlook h' n = some o → ρ' n = some (b, c) → (callB w ρ h).wr b

/-- Called with values that read as 'ds', which may name the objects 'h', the function returns a value that reads as 'd', and leaves the objects 'h''. -/
def HCall (P : Program) (G : Nat → Option DV) (f : FuncId) (ds : List DV) (h : Heap) (d : DV) (h' : Heap) : Prop :=
  Enters P f ∧ ∀ (F : Fence) (n : Nat), (∀ f, F.fn f) → F.depth = none → F.round = none → ∀ (M : Mem) (ρ : Locs) (w : World) (vs : Array Value), GOk G M → HeapIn M ρ h w → RelVs M ρ h ds vs → CallsIn F n P f vs w (HAfter M ρ w h d h')

mutual
def namesIn (l : List Nat) : DV → Bool
  | .own n .. | .ptr n .. | .bptr n _ | .dict n => l.any (Nat.beq n)
  | .agg cs => namesIns l cs
  | .tuple cs => namesIns l cs
  | .func _ cs => namesIns l cs
  | _ => true
def namesIns (l : List Nat) : List DV → Bool
  | [] => true
  | d :: r => namesIn l d && namesIns l r
end
def namesInO (l : List Nat) : DObj → Bool
  | .box _ d => namesIn l d
  | _ => true
def namesInH (l : List Nat) : Heap → Bool
  | [] => true
  | (_, o) :: r => namesInO l o && namesInH l r

def distinct : List Nat → Bool
  | [] => true
  | n :: r => !(r.any (Nat.beq n)) && distinct r

/-- May a contract over objects be used under these names? -/
def instOk (π : List (Nat × Nat)) (ds : List DV) (h h' : Heap) : Bool :=
  distinct (h.map (·.1)) && distinct (h'.map fun x => app π x.1) && (h.map (·.1)).all (fun n => (h'.map (·.1)).any (Nat.beq n)) && namesIns (h.map (·.1)) ds && namesInH (h.map (·.1)) h

/-- The objects that the contract is given are those of the caller. -/
def hereH (lk : Nat → Option DObj) (π : List (Nat × Nat)) : Heap → Prop
  | [] => True
  | (n, o) :: r => lk (app π n) = some (renO π o) ∧ hereH lk π r

/-- The names of new objects are free. -/
def freeH (lk : Nat → Option DObj) (π : List (Nat × Nat)) (h : Heap) : Heap → Prop
  | [] => True
  | (n, _) :: r => ((h.map (·.1)).any (Nat.beq n) = true ∨ lk (app π n) = none) ∧ freeH lk π h r

/-! The weakest precondition of code over data. -/

def freeze : List Nat → Heap → Heap
  | [], h => h
  | n :: r, h => match hlook h n with
    | some (.row sz es _) => freeze r ((n, .row sz es true) :: h)
    | some (.box sz d) => bif pureB d then freeze r ((n, .fbox sz d) :: h) else freeze r h
    | _ => freeze r h

def pre : Option Prop → Prop → Prop
  | none, N => N
  | some p, N => p ∧ N

/-- A list's spine is brought into its constructors' form. -/
def forceL (k : List DV → Prop) : List DV → List DV → Prop
  | [], acc => k acc.reverse
  | d :: r, acc => forceL k r (d :: acc)
theorem forceL_eq (k : List DV → Prop) : ∀ l acc, forceL k l acc = k (acc.reverse ++ l)
  | [], acc => by simp [forceL]
  | d :: r, acc => by simp [forceL, forceL_eq k r]

/-- The value is brought into a constructor's form before the walk goes on. -/
def force (k : DV → Prop) : DV → Prop
  | .undef => k .undef
  | .bool b => k (.bool b)
  | .int i n => k (.int i n)
  | .str s => k (.str s)
  | .agg cs => k (.agg cs)
  | .tuple cs => k (.tuple cs)
  | .list l => k (.list l)
  | .full l => k (.full l)
  | .ip d => k (.ip d)
  | .func f c => k (.func f c)
  | .nilptr => k .nilptr
  | .nilfunc => k .nilfunc
  | .own a b c d => k (.own a b c d)
  | .ptr a b c d => k (.ptr a b c d)
  | .bptr a b => k (.bptr a b)
  | .dict n => k (.dict n)
theorem force_eq (k : DV → Prop) (d : DV) : force k d = k d := by cases d <;> rfl

/-- Values are brought into constructors' form, one by one. -/
def forceS (k : List DV → Prop) : List DV → List DV → Prop
  | [], acc => k acc.reverse
  | d :: r, acc => force (fun d => forceS k r (d :: acc)) d
theorem forceS_eq (k : List DV → Prop) : ∀ l acc, forceS k l acc = k (acc.reverse ++ l)
  | [], acc => by simp [forceS]
  | d :: r, acc => by simp [forceS, force_eq, forceS_eq k r]

abbrev SP := Tmps → Heap → Prop

def forceU (k : Heap → Prop) : Heap → Heap → Prop
  | [], h => k h
  | (n, .box sz d) :: r, h => force (fun d => forceU k r ((n, .box sz d) :: h)) d
  | (n, o) :: r, h => forceU k r ((n, o) :: h)

def putK (dst : Option Nat) (d : DV) (t : Tmps) (k : Tmps → Prop) : Prop :=
  match dst with
  | some n => force (fun d => k ((n, d) :: t)) d
  | none => k t

/-- The same, with the parts of an aggregate. -/
def putD (deep : Bool) (dst : Option Nat) (d : DV) (t : Tmps) (k : Tmps → Prop) : Prop :=
  bif deep then force (fun d => match d with
    | .agg cs => forceS (fun cs => putK dst (.agg cs) t k) cs []
    | d => putK dst d t k) d
  else putK dst d t k

/-- Is the result put together, or a part of a variable? -/
def deepB (ev : Operand → DV) : DOp → Bool
  | .build _ _ => true
  | .load (some _) a => match ev a with
    | .bptr _ _ => true
    | _ => false
  | _ => false

/-- A guard: a test where it is met first, its outcome later on. -/
def onG (known b want : Bool) (A B : Prop) : Prop :=
  bif known then (match b with
    | true => bif want then A else B
    | false => bif want then B else A)
  else (b = want → A) ∧ (b = !want → B)
theorem onG_spec {known b want : Bool} {A B : Prop} (h : onG known b want A B) : (b = want → A) ∧ (b = !want → B) := by
  cases known
  · exact h
  · cases b <;> cases want <;> simp_all [onG]
theorem onG_mono {known b want : Bool} {A B A' B' : Prop} (ha : A → A') (hb : B → B') (h : onG known b want A B) : onG known b want A' B' := by
  cases known
  · exact ⟨fun e => ha (h.1 e), fun e => hb (h.2 e)⟩
  · cases b <;> cases want <;> simp_all [onG]

def memB (n : Nat) : List Nat → Bool
  | [] => false
  | k :: r => bif Nat.beq k n then true else memB n r

/-- Rows are frozen ahead of what follows. -/
def freezeK : List Nat → Heap → (Heap → Prop) → Prop
  | [], h, k => k h
  | n :: r, h, k => match hlook h n with
    | some (.row sz es _) => freezeK r ((n, .row sz es true) :: h) k
    | some (.box sz d) => bif pureB d then freezeK r ((n, .fbox sz d) :: h) k else freezeK r h k
    | _ => freezeK r h k
theorem freezeK_eq : ∀ ns h k, freezeK ns h k = k (freeze ns h)
  | [], _, _ => rfl
  | n :: r, h, k => by
    unfold freezeK freeze
    split
    · exact freezeK_eq r _ k
    · rename_i sz d hn
      cases pureB d <;> exact freezeK_eq r _ k
    · exact freezeK_eq r _ k

def stepWp (P : Program) (G : Nat → Option DV) (o : DOper) (N : SP) (t : Tmps) (h : Heap) : Prop :=
  match evalOp (evalOpd G t) (hlook h) (o.dst.getD 0) o.op with
  | .fail => False
  | .ok p d u => pre p (putD (deepB (evalOpd G t) o.op) o.dst d t fun t' => forceU (fun h' => N t' h') u h)
  | .okF ns p d u => pre p (putK o.dst d t fun t' => freezeK ns h fun h => forceU (fun h' => N t' h') u h)
  | .call f vs => (match purs (hlook h) vs with
    | none => False
    | some (p, ds) => pre p (∃ d, PureCall P G f ds d ∧ putK o.dst d t fun t' => (bif flatB d then N t' h else freezeK (namess vs) h (N t')))) ∨
    ∃ π ds hs d hs', HCall P G f ds hs d hs' ∧ (rens π ds = vs ∧ instOk π ds hs hs' = true ∧ hereH (hlook h) π hs ∧ freeH (hlook h) π hs hs') ∧ putK o.dst (ren π d) t fun t' => forceU (fun h' => N t' h') (renH π hs') h

def opsWp (P : Program) (G : Nat → Option DV) : List DOper → List Nat → SP → SP
  | [], _, Q, t, h => Q t h
  | o :: r, K, Q, t, h => match o.guard with
    | none => stepWp P G o (opsWp P G r K Q) t h
    | some (g, want) => match tget t g with
      | .bool b => onG (memB g K) b want (stepWp P G o (opsWp P G r (g :: K) Q) ((g, .bool want) :: t) h) (putK o.dst (.tuple []) ((g, .bool (!want)) :: t) fun t' => opsWp P G r (g :: K) Q t' h)
      | .tuple [] => putK o.dst (.tuple []) t fun t' => opsWp P G r K Q t' h
      | _ => False

structure Foot where
  bef : List Nat
  rd : List Nat
  wr : List Nat

def disj (a b : List Nat) : Bool := a.all fun x => !b.any (Nat.beq x)

def footsOk (f : Foot) : List Foot → Nat → Bool
  | [], _ => true
  | g :: r, j => ((disj g.wr f.rd && disj g.wr f.wr && disj g.rd f.wr) || f.bef.any (Nat.beq j)) && footsOk f r (j + 1)

/-- Each two operations that touch one object are ordered ('fs': of the earlier ones, in order). -/
def allFeet : List Foot → List Foot → Bool
  | _, [] => true
  | fs, f :: r => footsOk f fs 0 && allFeet (fs ++ [f]) r

def operandsOf : DOp → List Operand
  | .mov x | .same x | .load _ x | .nilCheck x | .un _ x | .conv _ x | .sliceA _ _ _ x | .faddr _ _ _ x | .field _ _ _ x | .extract x _ | .len x | .lenS x | .box _ x => [x]
  | .pick c a b => [c, a, b]
  | .alloc .. | .lenC _ => []
  | .build _ ps => ps.map (·.2.2)
  | .lit _ _ _ _ ps => ps.map (·.2)
  | .store _ a x => [a, x]
  | .bin _ x y | .eqA _ _ x y | .eqB _ x y => [x, y]
  | .mkfunc _ c => c
  | .slice _ x lo hi mx => x :: (lo.toList ++ hi.toList ++ mx.toList)
  | .sliceS x lo hi => x :: (lo.toList ++ hi.toList)
  | .iaddr _ x i | .iaddrA _ _ _ x i | .indexS x i | .indexA _ _ _ x i => [x, i]
  | .call f args => f :: args
  | .append _ _ s x => [s, x]
  | .copy _ d x => [d, x]
  | .minmax _ x r => x :: r
  | .mkslice _ _ l c => [l, c]
  | .makemap => []
  | .mapset _ _ m k v => [m, k, v]
  | .lookup _ _ _ _ m k => [m, k]
  | .mapentry _ _ _ m k => [m, k]
  | .entrystore m s v => [m, s, v]
  | .lenM x | .rangeS x | .nextS x => [x]

/-- The objects that an operation may hlook at. -/
def readsOf (ev : Operand → DV) (n : Nat) : DOp → List Nat
  | .alloc .. | .box .. => [n]
  | .mkslice .. => [n]
  | .makemap | .rangeS _ => [n]
  | .mapset _ _ m _ _ => names (ev m)
  | .lookup _ _ _ _ m _ => names (ev m)
  | .mapentry _ _ _ m _ => names (ev m)
  | .entrystore m _ _ => names (ev m)
  | .lenM x => names (ev x)
  | .nextS x => names (ev x)
  | .lit _ _ len z ps => n :: namess (litElems ev ps (List.replicate len z))
  | .load _ a => names (ev a)
  | .store _ a x => names (ev a) ++ names (ev x)
  | .slice _ x _ _ _ => names (ev x)
  | .iaddr _ x _ => names (ev x)
  | .iaddrA _ _ _ x _ => names (ev x)
  | .faddr _ _ _ x => names (ev x)
  | .nilCheck x => names (ev x)
  | .len x => names (ev x)
  | .call f args => names (ev f) ++ namess (args.map ev)
  | .append _ _ s x => n :: (names (ev s) ++ names (ev x))
  | .copy _ d x => names (ev d) ++ names (ev x)
  | _ => []

def drawRun (P : Program) (G : Nat → Option DV) (o : DOper) (fs : List Foot) (N : List Foot → SP) (t : Tmps) (h : Heap) : Prop :=
  match evalOp (evalOpd G t) (hlook h) (o.dst.getD 0) o.op with
  | .fail => False
  | .ok p d u => pre p (putD (deepB (evalOpd G t) o.op) o.dst d t fun t' => forceU (fun h' => N (⟨o.bef, readsOf (evalOpd G t) (o.dst.getD 0) o.op, u.map (·.1)⟩ :: fs) t' h') u h)
  | .okF ns p d u => pre p (putK o.dst d t fun t' => freezeK ns h fun h => forceU (fun h' => N (⟨o.bef, readsOf (evalOpd G t) (o.dst.getD 0) o.op, ns ++ u.map (·.1)⟩ :: fs) t' h') u h)
  | .call f vs => (match purs (hlook h) vs with
    | none => False
    | some (p, ds) => pre p (∃ d, PureCall P G f ds d ∧ putK o.dst d t fun t' =>
        (bif flatB d then N (⟨o.bef, namess vs, []⟩ :: fs) t' h else freezeK (namess vs) h (N (⟨o.bef, namess vs, namess vs⟩ :: fs) t')))) ∨
    ∃ π ds hs d hs', HCall P G f ds hs d hs' ∧ (rens π ds = vs ∧ instOk π ds hs hs' = true ∧ hereH (hlook h) π hs ∧ freeH (hlook h) π hs hs') ∧
      putK o.dst (ren π d) t fun t' => forceU (fun h' => N (⟨o.bef, namess vs ++ (hs'.map fun x => app π x.1), hs'.map fun x => app π x.1⟩ :: fs) t' h') (renH π hs') h

/-- A region that draws its order: the operations in the order of the text; at the end each two that touch one object must be ordered ('fs': the feet, the last one first). -/
def drawWp (P : Program) (G : Nat → Option DV) : List DOper → List Nat → List Foot → SP → SP
  | [], _, fs, Q, t, h => allFeet [] fs.reverse = true ∧ Q t h
  | o :: r, K, fs, Q, t, h => match o.guard with
    | none => drawRun P G o fs (fun fs => drawWp P G r K fs Q) t h
    | some (g, want) => match tget t g with
      | .bool b => onG (memB g K) b want (drawRun P G o fs (fun fs => drawWp P G r (g :: K) fs Q) ((g, .bool want) :: t) h)
          (putK o.dst (.tuple []) ((g, .bool (!want)) :: t) fun t' => drawWp P G r (g :: K) (⟨o.bef, [], []⟩ :: fs) Q t' h)
      | .tuple [] => putK o.dst (.tuple []) t fun t' => drawWp P G r K (⟨o.bef, [], []⟩ :: fs) Q t' h
      | _ => False

mutual
/-- A value at the end of a scope: references to objects that are dropped are read out. -/
def res (kh : List Nat) (lk : Nat → Option DObj) : DV → DV
  | .own n off len tot => bif memB n kh then .own n off len tot else match lk n with
    | some (.row _ es _) => if tot = es.length then .list (window es off len) else .undef
    | _ => .undef
  | .ptr n i off tot => bif memB n kh then .ptr n i off tot else .undef
  | .bptr n off => bif memB n kh then .bptr n off else match lk n with
    | some (.box _ d) => bif Nat.beq off 0 && pureB d then .ip d else .undef
    | some (.fbox _ d) => bif Nat.beq off 0 && pureB d then .ip d else .undef
    | _ => .undef
  | .dict n => bif memB n kh then .dict n else .undef
  | .agg cs => .agg (ress kh lk cs)
  | .tuple cs => .tuple (ress kh lk cs)
  | .func f cs => .func f (ress kh lk cs)
  | d => d
def ress (kh : List Nat) (lk : Nat → Option DObj) : List DV → List DV
  | [] => []
  | d :: r => res kh lk d :: ress kh lk r
end

def resObj (kh : List Nat) (lk : Nat → Option DObj) : DObj → DObj
  | .box sz d => .box sz (res kh lk d)
  | o => o

def keepH (kh : List Nat) (lk : Nat → Option DObj) : List Nat → Heap
  | [] => []
  | n :: r => match lk n with
    | some o => (n, resObj kh lk o) :: keepH kh lk r
    | none => keepH kh lk r

def keepT (kh : List Nat) (lk : Nat → Option DObj) (t : Tmps) : List Nat → Tmps
  | [] => []
  | i :: r => (i, res kh lk (tget t i)) :: keepT kh lk t r

/-- The same, value by value, ahead of what follows. -/
def keepTK (kh : List Nat) (lk : Nat → Option DObj) (t : Tmps) : List Nat → Tmps → (Tmps → Prop) → Prop
  | [], acc, k => k acc.reverse
  | i :: r, acc, k => force (fun d => keepTK kh lk t r ((i, d) :: acc) k) (res kh lk (tget t i))
theorem keepTK_eq (kh : List Nat) (lk : Nat → Option DObj) (t : Tmps) : ∀ l acc k, keepTK kh lk t l acc k = k (acc.reverse ++ keepT kh lk t l)
  | [], acc, k => by simp [keepTK, keepT]
  | i :: r, acc, k => by simp [keepTK, keepT, force_eq, keepTK_eq kh lk t r]

def boxesOk (kh : List Nat) (lk : Nat → Option DObj) : List Nat → Bool
  | [] => true
  | n :: r => match lk n with
    | some (.box sz d) => okE sz (res kh lk d) && boxesOk kh lk r
    | _ => boxesOk kh lk r

def keepHK (kh : List Nat) (lk : Nat → Option DObj) : List Nat → Heap → (Heap → Prop) → Prop
  | [], acc, k => k acc.reverse
  | n :: r, acc, k => match lk n with
    | some (.box sz d) => force (fun d => bif okE sz d then keepHK kh lk r ((n, .box sz d) :: acc) k else False) (res kh lk d)
    | some o => keepHK kh lk r ((n, resObj kh lk o) :: acc) k
    | none => keepHK kh lk r acc k
theorem keepHK_eq (kh : List Nat) (lk : Nat → Option DObj) : ∀ l acc k, keepHK kh lk l acc k = (boxesOk kh lk l = true ∧ k (acc.reverse ++ keepH kh lk l))
  | [], acc, k => by simp [keepHK, keepH, boxesOk]
  | n :: r, acc, k => by
    unfold keepHK keepH boxesOk
    split
    · rename_i sz d hn
      rw [hn]
      simp only [force_eq, resObj]
      cases ho : okE sz (res kh lk d)
      · simp
      · simp [keepHK_eq kh lk r]
    · rename_i o hno hn
      rw [hn]
      cases o with
      | box sz d => exact absurd rfl (hno sz d)
      | _ => simp only [keepHK_eq kh lk r, List.reverse_cons, List.append_assoc, List.singleton_append]
    · rename_i hn
      rw [hn]; simp only [keepHK_eq kh lk r]

def keepK : Option Keep → Tmps → Heap → SP → Prop
  | none, t, h, k => k t h
  | some kp, t, h, k => keepTK kp.kh (hlook h) t kp.kt [] fun t' => keepHK kp.kh (hlook h) kp.kh [] fun h' => k t' h'

/-- At a loop's entry: nil slices as rows without elements. -/
def enterK : List Nat → Tmps → Heap → SP → Prop
  | [], t, h, k => k t h
  | i :: r, t, h, k => match tget t i with
    | .full [] => match hlook h i with
      | none => enterK r ((i, .own i 0 0 0) :: t) ((i, .row 0 [] false) :: h) k
      | some _ => enterK r t h k
    | _ => enterK r t h k

def seqQ (N : SP) (Q : DExit → SP) : DExit → SP
  | .normal, t, h => N t h
  | .exit i, t, h => Q (.exit i) t h
  | .ret, t, h => Q .ret t h

def blockQ (id : Nat) (k : Option Keep) (Q : DExit → SP) : DExit → SP
  | .normal, t, h => keepK k t h (Q .normal)
  | .exit i, t, h => bif Nat.beq i id then keepK k t h (Q .normal) else Q (.exit i) t h
  | .ret, t, h => Q .ret t h

def loopN (body : (DExit → SP) → SP) (k : Keep) (Q : DExit → SP) : Nat → SP
  | 0, _, _ => False
  | n + 1, t, h => body (seqQ (fun t' h' => boxesOk k.kh (hlook h') k.kh = true ∧ loopN body k Q n (keepT k.kh (hlook h') t' k.kt) (keepH k.kh (hlook h') k.kh)) Q) t h

@[irreducible] def loopWp (body : (DExit → SP) → SP) (k : Keep) (Q : DExit → SP) (t : Tmps) (h : Heap) : Prop :=
  enterK k.cv t h fun t' h' => boxesOk k.kh (hlook h') k.kh = true ∧ ∃ n, loopN body k Q n (keepT k.kh (hlook h') t' k.kt) (keepH k.kh (hlook h') k.kh)

def dwp (P : Program) (G : Nat → Option DV) : DC → (DExit → SP) → SP
  | .skip, Q, t, h => Q .normal t h
  | .ops false l, Q, t, h => opsWp P G l [] (Q .normal) t h
  | .ops true l, Q, t, h => drawWp P G l [] [] (Q .normal) t h
  | .seq a b, Q, t, h => dwp P G a (seqQ (dwp P G b Q) Q) t h
  | .cond c a b, Q, t, h => match evalOpd G t c with
    | .bool v => (v = true → dwp P G a Q t h) ∧ (v = false → dwp P G b Q t h)
    | _ => False
  | .block id k a, Q, t, h => dwp P G a (blockQ id k Q) t h
  | .loop k b, Q, t, h => loopWp (dwp P G b) k Q t h
  | .exit id, Q, t, h => Q (.exit id) t h
  | .ret, Q, t, h => Q .ret t h

/-- A result: a temporary, or a variable of its own. -/
inductive DRes where
  | tmp (i : Nat)
  | cell (a : Nat) (agg : Option Nat)
  deriving Inhabited

def resVal (lk : Nat → Option DObj) (t : Tmps) : DRes → Option DV
  | .tmp i => some (tget t i)
  | .cell a agg => match tget t a with
    | .bptr n off => match lk n with
      | some (.box sz d) => match agg with
        | none => bif Nat.beq off 0 && Nat.blt 0 sz then some (d.cells.getD 0 .undef) else none
        | some k => bif Nat.beq off 0 && Nat.beq k sz && isAggB d then some d else none
      | _ => none
    | _ => none

def resVals (lk : Nat → Option DObj) (t : Tmps) : List DRes → Option (List DV)
  | [] => some []
  | r :: l => match resVal lk t r, resVals lk t l with
    | some d, some ds => some (d :: ds)
    | _, _ => none

/-- What a list of results comes to. -/
def pack : List DV → DV
  | [x] => x
  | l => .tuple l

def outs (results : List DRes) (d : DV) (t : Tmps) (h : Heap) : Prop :=
  match resVals (hlook h) t results with
  | none => False
  | some vs => match purs (hlook h) vs with
    | some (p, ds) => pre p (forceS (fun ds => pack ds = d) ds [])
    | none => False

/-- The results, and the objects that are left. -/
def outsH (results : List DRes) (d : DV) (hs' : Heap) (t : Tmps) (h : Heap) : Prop :=
  match resVals (hlook h) t results with
  | none => False
  | some vs => keepHK (hs'.map (·.1)) (hlook h) (hs'.map (·.1)) [] fun h2 => h2 = hs' ∧ forceS (fun ds => pack ds = d) (ress (hs'.map (·.1)) (hlook h) vs) []

/-- What the body must come to, of a call that is given objects. -/
def retH (results : List DRes) (d : DV) (hs' : Heap) : DExit → SP
  | .exit _, _, _ => False
  | .normal, t, h => outsH results d hs' t h
  | .ret, t, h => outsH results d hs' t h

/-- What the body must come to. -/
def retQ (results : List DRes) (d : DV) : DExit → SP
  | .exit _, _, _ => False
  | .normal, t, h => outs results d t h
  | .ret, t, h => outs results d t h

def params : List DV → Nat → Tmps
  | [], _ => []
  | d :: r, i => (i, d) :: params r (i + 1)
end Sh
