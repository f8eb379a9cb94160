/-
  Chapter 3's functions, walked over pure data: the library of the walk, the functions' code over data, and what each computes. (part 5)
-/
import Derived.Test.YtkaglomkahhjcaaGreatDoorP4
import Derived.Lib.ItoaNum
import Derived.Lib.ItoaLen
import Derived.Lib.MapLaws
import Derived.Lib.Bytealg
import Derived.Lib.Join
import Derived.Lib.Strings
import Derived.Test.YtkaglomkahhjcaaGreatDoorProg
set_option linter.unusedVariables false
set_option linter.unusedSimpArgs false
set_option linter.unusedSimpArgs false
set_option linter.unusedVariables false
namespace Sh
open Go
structure Pt where
  x : Int
  y : Int
def P0 : Pt := ⟨0, 0⟩
structure V3 where
  x : Int
  y : Int
  z : Int
def V0 : V3 := ⟨0, 0, 0⟩
def firstE : List Int → Int
  | [] => 0
  | a :: r => if a ≠ 0 then a else firstE r
theorem firstE_drop (l : List Int) (i : Nat) (h : i < l.length) : firstE (l.drop i) = if l.getD i 0 ≠ 0 then l.getD i 0 else firstE (l.drop (i + 1)) := by
  rw [List.drop_eq_getElem_cons h]; simp [firstE, List.getD_eq_getElem?_getD, h]
def withE (n l h : Int) : Int := if n < l ∨ h < n then 3 else 0
def whenE (b : Bool) (e : Int) : Int := if b then e else 0
theorem drop_getD {α : Type} (l : List α) (i : Nat) (d : α) (h : i < l.length) : l.drop i = l.getD i d :: l.drop (i + 1) := by
  rw [List.drop_eq_getElem_cons h]; simp [List.getD_eq_getElem?_getD, h]
theorem take_snoc {α : Type} (l : List α) (i : Nat) (d : α) (h : i < l.length) : l.take (i + 1) = l.take i ++ [l.getD i d] := by
  rw [List.take_add_one]; simp [List.getD_eq_getElem?_getD, h]
theorem getD_in {α : Type} {l : List α} {i : Nat} (d : α) (h : i < l.length) : l.getD i d ∈ l := by
  have : l.getD i d = l[i] := by simp [List.getD_eq_getElem?_getD, h]
  rw [this]; exact List.getElem_mem h
theorem take_map_succ {α β : Type} (f : α → β) (l : List α) (i : Nat) (d : α) (h : i < l.length) : (l.take (i + 1)).map f = (l.take i).map f ++ [f (l.getD i d)] := by
  rw [take_snoc l i d h, List.map_append]; rfl
theorem window_full {α : Type} (l : List α) : window l 0 l.length = l := by simp [window]
theorem int_eq {a b : Int} (h : a = b) : DV.int .i64 a = .int .i64 b := by rw [h]
theorem bool_eq {a b : Bool} (h : a = b) : DV.bool a = .bool b := by rw [h]
theorem idxA {α : Type} {enc : α → DV} {l : List α} {i n : Nat} {x : DV} (h : i < l.length) (hx : x.cells.length = n) : 0 ≤ (i : Int) ∧ (i : Int) < ((l.map enc).length : Nat) ∧ x.cells.length = n := ⟨by omega, by simpa using h, hx⟩
theorem idxB {α : Type} {enc : α → DV} {l : List α} {i : Int} {n : Nat} {x : DV} (h0 : 0 ≤ i) (h : i < l.length) (hx : x.cells.length = n) : 0 ≤ i ∧ i < ((l.map enc).length : Nat) ∧ x.cells.length = n := ⟨h0, by simpa using h, hx⟩
theorem wrap_succ (i : Nat) (h : i < 4611686018427387904) : IntKind.i64.wrap ((i : Int) + 1) = ((i + 1 : Nat) : Int) := by
  rw [wrap_W, W_in (by omega) (by omega)]; omega
theorem wrap_in {n : Int} (h1 : -9223372036854775808 ≤ n) (h2 : n ≤ 9223372036854775807) : IntKind.i64.wrap n = n := W_in h1 h2
theorem mul_bd {a b A B : Int} (h1 : -A ≤ a) (h2 : a ≤ A) (h3 : -B ≤ b) (h4 : b ≤ B) : -(A * B) ≤ a * b ∧ a * b ≤ A * B := by
  have hA : 0 ≤ A := by omega
  have hB : 0 ≤ B := by omega
  have ha : a.natAbs ≤ A.natAbs := by omega
  have hb : b.natAbs ≤ B.natAbs := by omega
  have h := Nat.mul_le_mul ha hb
  rw [← Int.natAbs_mul, ← Int.natAbs_mul] at h
  have hAB : 0 ≤ A * B := Int.mul_nonneg hA hB
  omega
theorem firstE_cons {a : Int} {l : List Int} (h : firstE (a :: l) = 0) : a = 0 ∧ firstE l = 0 := by
  unfold firstE at h
  split at h
  · exact absurd h ‹_›
  · rename_i h1; exact ⟨Classical.not_not.1 h1, h⟩
theorem withE_zero {n l h : Int} (e : withE n l h = 0) : l ≤ n ∧ n ≤ h := by
  unfold withE at e; split at e
  · cases e
  · omega
theorem whenE_zero {b : Bool} {e : Int} (h : whenE b e = 0) (he : e ≠ 0) : b = false := by
  cases b
  · rfl
  · exact absurd h he
theorem firstE_mem {l : List Int} (h : firstE l = 0) : ∀ e ∈ l, e = 0 := by
  induction l with
  | nil => simp
  | cons a r ih =>
    obtain ⟨h1, h2⟩ := firstE_cons h
    intro e he
    rcases List.mem_cons.1 he with rfl | he
    · exact h1
    · exact ih h2 e he
def sumI (l : List Int) : Int := l.foldr (· + ·) 0
theorem sumI_append (a b : List Int) : sumI (a ++ b) = sumI a + sumI b := by
  induction a with
  | nil => simp [sumI]
  | cons x r ih => simp only [sumI, List.cons_append, List.foldr_cons] at ih ⊢; omega
theorem sumI_one (a : Int) : sumI [a] = a := by simp [sumI]
def rng {α : Type} (m : Nat) (f : Nat → α) : List α := (List.range m).map f
theorem rng_len {α : Type} (m : Nat) (f : Nat → α) : (rng m f).length = m := by simp [rng]
theorem rng_getD {α : Type} {m i : Nat} (f : Nat → α) (d : α) (h : i < m) : (rng m f).getD i d = f i := by
  simp [rng, List.getD_eq_getElem?_getD, h]
theorem rng_set {α : Type} (m j : Nat) (f : Nat → α) (v : α) : (rng m f).set j v = rng m (fun k => if k = j then v else f k) := by
  apply List.ext_getElem
  · simp [rng]
  · intro i h1 h2
    simp only [rng, List.getElem_set, List.getElem_map, List.getElem_range]
    by_cases e : j = i
    · subst e; simp
    · rw [if_neg e, if_neg (Ne.symm e)]
theorem rng_congr {α : Type} {m : Nat} {f g : Nat → α} (h : ∀ k, k < m → f k = g k) : rng m f = rng m g := by
  unfold rng; exact List.map_congr_left (fun k hk => h k (List.mem_range.1 hk))
theorem rng_succ {α : Type} (m : Nat) (f : Nat → α) : rng (m + 1) f = rng m f ++ [f m] := by
  simp [rng, List.range_succ]
theorem rng_const {α : Type} (m : Nat) (v : α) : List.replicate m v = rng m (fun _ => v) := by
  apply List.ext_getElem <;> simp [rng]
theorem rng_map {α β : Type} (m : Nat) (f : Nat → α) (g : α → β) : (rng m f).map g = rng m (fun k => g (f k)) := by simp [rng]
section
variable {ev : Operand → DV} {lk : Nat → Option DObj} {o kk q i : Nat} {ks : List Nat} {z v : DV} {m k x : Operand} {es : List (DV × DV)}
theorem ev_lookup_some (hm : ev m = .dict q) (hl : lk q = some (.dict es)) (hp : keyB kk ks (ev k) = true) (hd : dfind (keyEq kk ks) (ev k) es 0 = some (some (i, v))) : evalOp ev lk o (.lookup kk ks false z m k) = .ok none v [] := by
  simp [evalOp, hm, hl, hp, hd]
theorem ev_lookup_none (hm : ev m = .dict q) (hl : lk q = some (.dict es)) (hp : keyB kk ks (ev k) = true) (hd : dfind (keyEq kk ks) (ev k) es 0 = some none) : evalOp ev lk o (.lookup kk ks false z m k) = .ok none z [] := by
  simp [evalOp, hm, hl, hp, hd]
theorem ev_mapset_none {kv vv : DV} (hm : ev m = .dict q) (hl : lk q = some (.dict es)) (hk : ev k = kv) (hv : ev x = vv) (hp : (keyB kk ks kv && pureB vv) = true) (hd : dfind (keyEq kk ks) kv es 0 = some none) : evalOp ev lk o (.mapset kk ks m k x) = .ok none (.tuple []) [(q, .dict (es ++ [(kv, vv)]))] := by
  simp only [evalOp, hm, hl, hk, hv, hp, hd, cond_true]
end
def mx (a b : Int) : Int := if a < b then b else a
def isD (c : UInt8) : Bool := decide (48 ≤ c.toNat) && decide (c.toNat ≤ 57)
def valD : List UInt8 → Int → Int
  | [], n => n
  | c :: r, n => valD r (10 * n + ((c.toNat : Int) - 48))
def badD (s : List UInt8) : Bool := decide (s = []) || decide (9 < s.length) || (decide (1 < s.length) && decide (s.getD 0 0 = 48))
def digS (s : List UInt8) : Int × Bool := if badD s || !s.all isD then (0, false) else (valD s 0, true)
theorem valD_append (a b : List UInt8) (n : Int) : valD (a ++ b) n = valD b (valD a n) := by
  induction a generalizing n with
  | nil => rfl
  | cons c r ih => exact ih _
theorem valD_bd : ∀ (s : List UInt8) (n : Int) (k : Nat), s.all isD = true → 0 ≤ n → n < 10 ^ k → 0 ≤ valD s n ∧ valD s n < 10 ^ (k + s.length)
  | [], n, k, _, h0, h1 => ⟨h0, h1⟩
  | c :: r, n, k, h, h0, h1 => by
    rw [List.all_cons, Bool.and_eq_true] at h
    have hc := h.1
    unfold isD at hc
    rw [Bool.and_eq_true, decide_eq_true_eq, decide_eq_true_eq] at hc
    have h2 : (10 : Int) ^ (k + 1) = 10 ^ k * 10 := Int.pow_succ ..
    have := valD_bd r (10 * n + ((c.toNat : Int) - 48)) (k + 1) h.2 (by omega) (by omega)
    rw [List.length_cons, show k + (r.length + 1) = k + 1 + r.length by omega]
    exact this
def glue (p : List UInt8) : List (List UInt8) → List (List UInt8)
  | [] => [p]
  | h :: t => (p ++ h) :: t
def splitC (b : UInt8) : List UInt8 → List (List UInt8)
  | [] => [[]]
  | c :: r => if c = b then [] :: splitC b r else glue [c] (splitC b r)
theorem splitC_ne (b : UInt8) : ∀ s, splitC b s ≠ []
  | [] => by simp [splitC]
  | c :: r => by
    unfold splitC
    split
    · simp
    · cases splitC b r <;> simp [glue]
theorem splitC_len (b : UInt8) : ∀ s : List UInt8, (splitC b s).length ≤ s.length + 1 ∧ ∀ x ∈ splitC b s, x.length ≤ s.length
  | [] => ⟨Nat.le_refl _, fun x hx => by simp [splitC] at hx; subst hx; exact Nat.le_refl _⟩
  | c :: r => by
    obtain ⟨h1, h2⟩ := splitC_len b r
    have hn := splitC_ne b r
    unfold splitC
    split
    · refine ⟨by simp; omega, fun x hx => ?_⟩
      rcases List.mem_cons.1 hx with rfl | hx
      · simp
      · have := h2 x hx; simp; omega
    · cases hs : splitC b r with
      | nil => exact absurd hs hn
      | cons h t =>
        rw [hs] at h1 h2
        refine ⟨by simp [glue] at h1 ⊢; omega, fun x hx => ?_⟩
        simp only [glue] at hx
        rcases List.mem_cons.1 hx with rfl | hx
        · have := h2 h (List.mem_cons_self ..); simp; omega
        · have := h2 x (List.mem_cons_of_mem _ hx); simp; omega
theorem firstE_zeros : ∀ {l : List Int}, (∀ x ∈ l, x = 0) → firstE l = 0
  | [], _ => rfl
  | x :: r, h => by
    have h0 := h x (List.mem_cons_self ..)
    have ih := firstE_zeros (l := r) (fun y hy => h y (List.mem_cons_of_mem _ hy))
    simp [firstE, h0, ih]
def wn (ns : List Int) : List UInt8 := Lib.joinTail [32] (ns.map Lib.itoa)
theorem wn_append (a b : List Int) : wn (a ++ b) = wn a ++ wn b := by simp [wn, Lib.joinTail]
theorem wn_cons (n : Int) (r : List Int) : wn (n :: r) = 32 :: (Lib.itoa n ++ wn r) := by simp [wn, Lib.joinTail]
theorem wn_nil : wn [] = [] := rfl
def linesC : List UInt8 → List (List UInt8)
  | [] => []
  | c :: r => if c = 10 then [c] :: linesC r else glue [c] (linesC r)
theorem lines_idx : ∀ s : List UInt8, s ≠ [] → (Lib.indexByte s 10 = -1 ∧ linesC s = [s]) ∨ ∃ i : Nat, Lib.indexByte s 10 = i ∧ i < s.length ∧ linesC s = s.take (i + 1) :: linesC (s.drop (i + 1))
  | [], h => absurd rfl h
  | b :: l, _ => by
    by_cases hb : b = 10
    · subst hb
      exact .inr ⟨0, rfl, by simp, by simp [linesC]⟩
    · have hbe : (b == (10 : UInt8)) = false := beq_eq_false_iff_ne.2 hb
      have e1 : Lib.indexByte (b :: l) 10 = if Lib.indexByte l 10 == -1 then -1 else Lib.indexByte l 10 + 1 := by rw [Lib.indexByte, hbe]; rfl
      have e2 : linesC (b :: l) = glue [b] (linesC l) := by rw [linesC, if_neg hb]
      by_cases hl : l = []
      · subst hl
        exact .inl ⟨by rw [e1]; rfl, by rw [e2]; rfl⟩
      · rcases lines_idx l hl with ⟨h1, h2⟩ | ⟨i, h1, h2, h3⟩
        · exact .inl ⟨by rw [e1, h1]; rfl, by rw [e2, h2]; rfl⟩
        · refine .inr ⟨i + 1, ?_, by simp; omega, ?_⟩
          · have hn : ((i : Int) == -1) = false := beq_eq_false_iff_ne.2 (by omega)
            rw [e1, h1, hn]; simp
          · rw [e2, h3]; rfl
theorem window_take (s : List UInt8) (k : Nat) (h : k ≤ s.length) : window s 0 k = s.take k := by simp [window]
theorem window_drop (s : List UInt8) (k : Nat) : window s k (s.length - k) = s.drop k := by unfold window; rw [List.take_of_length_le (by simp)]
def linesOf : List (List UInt8) → List (List UInt8)
  | [] => []
  | [l] => if l = [] then [] else [l]
  | h :: t => (h ++ [10]) :: linesOf t
theorem linesOf_cons (h : List UInt8) {t : List (List UInt8)} (ht : t ≠ []) : linesOf (h :: t) = (h ++ [10]) :: linesOf t := by
  cases t with
  | nil => exact absurd rfl ht
  | cons a r => rfl
theorem lines_split : ∀ s : List UInt8, linesC s = linesOf (splitC 10 s)
  | [] => rfl
  | c :: r => by
    have ih := lines_split r
    have hn := splitC_ne 10 r
    unfold linesC splitC
    by_cases h : c = 10
    · rw [if_pos h, if_pos h, linesOf_cons _ hn, ih, h]; rfl
    · rw [if_neg h, if_neg h, ih]
      cases hs : splitC 10 r with
      | nil => exact absurd hs hn
      | cons a t =>
        cases t with
        | nil =>
          simp only [linesOf, glue]
          by_cases ha : a = []
          · subst ha; rfl
          · rw [if_neg ha]; rfl
        | cons b u =>
          show glue [c] ((a ++ [10]) :: linesOf (b :: u)) = (([c] ++ a) ++ [10]) :: linesOf (b :: u)
          simp [glue]
theorem linesOf_len : ∀ (rows : List (List UInt8)) (m : Nat), rows.length = m + 1 → (linesOf rows).length = m + (if rows.getD m [] = [] then 0 else 1)
  | [], m, h => by simp at h
  | [l], m, h => by
    have : m = 0 := by simp at h; omega
    subst this
    unfold linesOf
    by_cases hl : l = [] <;> simp [hl]
  | h :: a :: t, m, hm => by
    obtain ⟨k, rfl⟩ : ∃ k, m = k + 1 := ⟨m - 1, by simp at hm; omega⟩
    have := linesOf_len (a :: t) k (by simpa using hm)
    rw [linesOf_cons h (by simp), List.length_cons, this]
    simp only [List.getD_cons_succ]; omega
theorem linesOf_get : ∀ (rows : List (List UInt8)) (m i : Nat), rows.length = m + 1 → i < m → (linesOf rows).getD i [] = rows.getD i [] ++ [10]
  | [], m, i, h, _ => by simp at h
  | [l], m, i, h, hi => by simp at h; omega
  | h :: a :: t, m, i, hm, hi => by
    obtain ⟨k, rfl⟩ : ∃ k, m = k + 1 := ⟨m - 1, by omega⟩
    rw [linesOf_cons h (by simp)]
    cases i with
    | zero => rfl
    | succ i =>
      rw [List.getD_cons_succ, List.getD_cons_succ]
      exact linesOf_get (a :: t) k i (by simpa using hm) (by omega)
theorem linesOf_last : ∀ (rows : List (List UInt8)) (m : Nat), rows.length = m + 1 → rows.getD m [] ≠ [] → (linesOf rows).getD m [] = rows.getD m []
  | [], m, h, _ => by simp at h
  | [l], m, h, hl => by
    have : m = 0 := by simp at h; omega
    subst this
    have hl : l ≠ [] := hl
    unfold linesOf
    rw [if_neg hl]
  | h :: a :: t, m, hm, hl => by
    obtain ⟨k, rfl⟩ : ∃ k, m = k + 1 := ⟨m - 1, by simp at hm; omega⟩
    rw [linesOf_cons h (by simp)]
    exact linesOf_last (a :: t) k (by simpa using hm) hl
theorem splitC_not (b : UInt8) : ∀ (s : List UInt8), ∀ x ∈ splitC b s, b ∉ x
  | [], x, hx => by simp [splitC] at hx; subst hx; simp
  | c :: r, x, hx => by
    have ih := splitC_not b r
    unfold splitC at hx
    by_cases h : c = b
    · rw [if_pos h] at hx
      rcases List.mem_cons.1 hx with rfl | hx
      · simp
      · exact ih x hx
    · rw [if_neg h] at hx
      cases hs : splitC b r with
      | nil => exact absurd hs (splitC_ne b r)
      | cons a t =>
        rw [hs] at hx ih
        simp only [glue] at hx
        rcases List.mem_cons.1 hx with rfl | hx
        · have := ih a (List.mem_cons_self ..)
          simp only [List.cons_append, List.nil_append, List.mem_cons, not_or]
          exact ⟨fun e => h e.symm, this⟩
        · exact ih x (List.mem_cons_of_mem _ hx)
theorem cut_yes (l : List UInt8) : Lib.trimSuffix (l ++ [10]) [10] = l ∧ Lib.hasSuffix (l ++ [10]) [10] = true := by
  have h : Lib.hasSuffix (l ++ [10]) [10] = true := by unfold Lib.hasSuffix; simp
  refine ⟨?_, h⟩
  unfold Lib.trimSuffix
  rw [if_pos h]; simp
theorem cut_no (l : List UInt8) (h : (10 : UInt8) ∉ l) : Lib.trimSuffix l [10] = l ∧ Lib.hasSuffix l [10] = false := by
  have h2 : Lib.hasSuffix l [10] = false := by
    cases e : Lib.hasSuffix l [10] with
    | false => rfl
    | true =>
      unfold Lib.hasSuffix at e
      rw [List.isSuffixOf_iff_suffix] at e
      obtain ⟨t, rfl⟩ := e
      exact absurd (by simp : (10 : UInt8) ∈ t ++ [10]) h
  refine ⟨?_, h2⟩
  unfold Lib.trimSuffix
  rw [h2]; rfl
theorem get_bytes (s : List UInt8) (i : Nat) : (⟨s.toArray⟩ : ByteArray).get! i = s.getD i 0 := by
  simp [ByteArray.get!, List.getD_eq_getElem?_getD, Array.getElem!_eq_getD]
  rfl
theorem sdecode_ascii (s : List UInt8) (i : Nat) (h : (s.getD i 0).toNat < 128) : sdecode s i = ((s.getD i 0).toNat, 1) := by
  unfold sdecode
  rw [Lib.decode_at, get_bytes, Lib.decodeN, if_pos h]
theorem sdecode_other (s : List UInt8) (i : Nat) (h : ¬ (s.getD i 0).toNat < 128) : 128 ≤ (sdecode s i).1 := by
  unfold sdecode
  rw [Lib.decode_at, get_bytes]
  rcases Lib.decodeN_shape ((⟨s.toArray⟩ : ByteArray).size - i) (s.getD i 0).toNat (((⟨s.toArray⟩ : ByteArray).get! (i + 1)).toNat) (((⟨s.toArray⟩ : ByteArray).get! (i + 2)).toNat) (((⟨s.toArray⟩ : ByteArray).get! (i + 3)).toNat) with h1 | h1 | h1 | h1 | h1
  · exact absurd h1.1 h
  · rw [h1.2.2.2.2]; exact h1.2.2.2.1
  · obtain ⟨_, _, _, _, h2, _, h3⟩ := h1; rw [h3]; show 128 ≤ _; omega
  · obtain ⟨_, _, _, _, _, h2, _, h3⟩ := h1; rw [h3]; show 128 ≤ _; omega
  · rw [h1]; decide
theorem isD_iff (c : UInt8) : isD c = true ↔ 48 ≤ c.toNat ∧ c.toNat ≤ 57 := by unfold isD; rw [Bool.and_eq_true, decide_eq_true_eq, decide_eq_true_eq]
theorem rune_yes (s : List UInt8) (i : Nat) (h : isD (s.getD i 0) = true) : sdecode s i = ((s.getD i 0).toNat, 1) := sdecode_ascii s i (by have := (isD_iff _).1 h; omega)
theorem rune_no (s : List UInt8) (i : Nat) (h : isD (s.getD i 0) = false) : (sdecode s i).1 < 48 ∨ 57 < (sdecode s i).1 := by
  by_cases h1 : (s.getD i 0).toNat < 128
  · rw [sdecode_ascii s i h1]
    show (s.getD i 0).toNat < 48 ∨ 57 < (s.getD i 0).toNat
    false_or_by_contra
    have := (isD_iff (s.getD i 0)).2 ⟨by omega, by omega⟩
    rw [h] at this; cases this
  · have := sdecode_other s i h1; omega
theorem wrap_i32 {n : Int} (h1 : -2147483648 ≤ n) (h2 : n ≤ 2147483647) : IntKind.i32.wrap n = n := by
  unfold IntKind.wrap
  simp only [IntKind.bits, IntKind.signed]
  simp; omega
end Sh


set_option maxRecDepth 100000
set_option linter.unusedSimpArgs false
set_option linter.unusedVariables false
namespace Sh
open Go Go.Proofs
def iL (l : List Int) : DV := .list (l.map (DV.int .i64))
theorem c_when (b : Bool) (e : Int) : PC 104 [.bool b, DV.int .i64 (e)] (DV.int .i64 (whenE b e)) := by
  refine pureCall_ofR dh104 rfl ?_
  conv => whnf
  refine ⟨fun hb => ?_, fun hb => ?_⟩ <;> try (exact absurd hb (by decide))
  all_goals conv => whnf
  all_goals subst hb; rfl
theorem q_When (b : Bool) (e : Int) : PC 95 [.bool b, DV.int .i64 (e)] (DV.int .i64 (whenE b e)) := by
  refine pureCall_ofR dh95 rfl ?_
  conv => whnf
  refine ⟨fun hb => ?_, fun hb => ?_⟩ <;> try (exact absurd hb (by decide))
  all_goals conv => whnf
  all_goals subst hb; rfl
theorem c_within (n l h : Int) : PC 103 [DV.int .i64 (n), DV.int .i64 (l), DV.int .i64 (h)] (DV.int .i64 (withE n l h)) := by
  refine pureCall_ofR dh103 rfl ?_
  conv => whnf
  refine ⟨fun hb => ?_, fun hb => ?_⟩ <;> try (exact absurd hb (by decide))
  all_goals conv => whnf
  · refine .inl ?_
    conv => whnf
    refine ⟨_, c_when .., ?_⟩
    conv => whnf
    exact int_eq (by simp_all [withE, whenE]; split <;> split <;> omega)
  · refine .inl ?_
    conv => whnf
    refine ⟨_, c_when .., ?_⟩
    conv => whnf
    exact int_eq (by simp_all [withE, whenE])
theorem q_CheckRange (n l h : Int) : PC 96 [DV.int .i64 (n), DV.int .i64 (l), DV.int .i64 (h)] (DV.int .i64 (withE n l h)) := by
  refine pureCall_ofR dh96 rfl ?_
  conv => whnf
  refine ⟨fun hb => ?_, fun hb => ?_⟩ <;> try (exact absurd hb (by decide))
  all_goals conv => whnf
  · refine .inl ?_
    conv => whnf
    refine ⟨_, q_When .., ?_⟩
    conv => whnf
    exact int_eq (by simp_all [withE, whenE]; split <;> split <;> omega)
  · refine .inl ?_
    conv => whnf
    refine ⟨_, q_When .., ?_⟩
    conv => whnf
    exact int_eq (by simp_all [withE, whenE])
theorem c_first (l : List Int) (hl : l.length < 4611686018427387904) : PC 89 [iL l] (DV.int .i64 (firstE l)) := by
  refine pureCall_ofR dh89 rfl ?_
  conv => whnf
  refine dwp_loopR (P := Tryz.prog) (G := GC) (k := dk89_0) (b := db89_0) (α := Nat) (fun i => [(5, iL l), (6, .int .i64 (l.map (DV.int .i64)).length), (7, .int .i64 i)]) (fun _ => []) (fun i => i ≤ l.length ∧ firstE l = firstE (l.drop i)) (fun i => l.length - i) 0 ⟨rfl, rfl, rfl⟩ ⟨Nat.zero_le _, rfl⟩ ?_
  intro i ⟨h1, h2⟩
  conv => whnf
  refine ⟨fun hb => ?_, fun hb => ?_⟩ <;> try (exact absurd hb (by decide))
  · have hi : i < l.length := by simpa using hb
    have hd := firstE_drop l i hi
    conv => whnf
    rw [getD_enc _ _ (i) 0 hi]
    refine ⟨idxA hi rfl, ?_⟩
    conv => whnf
    refine ⟨fun hb => ?_, fun hb => ?_⟩ <;> try (exact absurd hb (by decide))
    · conv => whnf
      exact int_eq (by simp_all)
    · conv => whnf
      rw [wrap_succ i (by omega)]
      exact ⟨i + 1, rfl, rfl, rfl, ⟨hi, by simp_all⟩, by omega⟩
  · conv => whnf
    have : i = l.length := by simp at hb; omega
    subst this
    exact int_eq (by rw [h2]; simp [firstE])
theorem q_First (l : List Int) (hl : l.length < 4611686018427387904) : PC 94 [iL l] (DV.int .i64 (firstE l)) := by
  refine pureCall_ofR dh94 rfl ?_
  conv => whnf
  refine dwp_loopR (P := Tryz.prog) (G := GC) (k := dk94_0) (b := db94_0) (α := Nat) (fun i => [(0, iL l), (3, DV.int .i64 (i))]) (fun _ => []) (fun i => i ≤ l.length ∧ firstE l = firstE (l.drop i)) (fun i => l.length - i) 0 ⟨rfl, rfl, rfl⟩ ⟨Nat.zero_le _, rfl⟩ ?_
  intro i ⟨h1, h2⟩
  conv => whnf
  refine ⟨fun hb => ?_, fun hb => ?_⟩ <;> try (exact absurd hb (by decide))
  · have hi : i < l.length := by simpa using hb
    have hd := firstE_drop l i hi
    conv => whnf
    rw [getD_enc _ _ (i) 0 hi]
    refine ⟨idxA hi rfl, ?_⟩
    conv => whnf
    refine ⟨fun hb => ?_, fun hb => ?_⟩ <;> try (exact absurd hb (by decide))
    · conv => whnf
      rw [getD_enc _ _ (i) 0 hi]
      refine ⟨idxA hi rfl, ?_⟩
      conv => whnf
      exact int_eq (by simp_all)
    · conv => whnf
      rw [wrap_succ i (by omega)]
      exact ⟨i + 1, rfl, rfl, rfl, ⟨hi, by simp_all⟩, by omega⟩
  · conv => whnf
    have : i = l.length := by simp at hb; omega
    subst this
    exact int_eq (by rw [h2]; simp [firstE])
end Sh


set_option linter.unusedSimpArgs false
set_option linter.unusedVariables false
namespace Sh
open Go
def subV (a b : V3) : V3 := ⟨a.x - b.x, a.y - b.y, a.z - b.z⟩
def dotV (a b : V3) : Int := a.x * b.x + a.y * b.y + a.z * b.z
def crsV (a b : V3) : V3 := ⟨a.y * b.z - a.z * b.y, a.z * b.x - a.x * b.z, a.x * b.y - a.y * b.x⟩
def bdV (n : Int) (v : V3) : Prop := (-n ≤ v.x ∧ v.x ≤ n) ∧ (-n ≤ v.y ∧ v.y ≤ n) ∧ (-n ≤ v.z ∧ v.z ≤ n)
theorem bdV_le {m n : Int} {v : V3} (h : bdV m v) (hn : m ≤ n) : bdV n v := by
  obtain ⟨⟨a, b⟩, ⟨c, d⟩, e, f⟩ := h
  exact ⟨⟨by omega, by omega⟩, ⟨by omega, by omega⟩, by omega, by omega⟩
theorem subV_bd {m n : Int} {a b : V3} (ha : bdV m a) (hb : bdV n b) : bdV (m + n) (subV a b) := by
  obtain ⟨⟨a1, a2⟩, ⟨a3, a4⟩, a5, a6⟩ := ha
  obtain ⟨⟨b1, b2⟩, ⟨b3, b4⟩, b5, b6⟩ := hb
  unfold subV
  exact ⟨⟨by simp only; omega, by simp only; omega⟩, ⟨by simp only; omega, by simp only; omega⟩, by simp only; omega, by simp only; omega⟩
theorem crsV_bd {m n : Int} {a b : V3} (ha : bdV m a) (hb : bdV n b) : bdV (2 * (m * n)) (crsV a b) := by
  obtain ⟨⟨a1, a2⟩, ⟨a3, a4⟩, a5, a6⟩ := ha
  obtain ⟨⟨b1, b2⟩, ⟨b3, b4⟩, b5, b6⟩ := hb
  have h1 := mul_bd a3 a4 b5 b6
  have h2 := mul_bd a5 a6 b3 b4
  have h3 := mul_bd a5 a6 b1 b2
  have h4 := mul_bd a1 a2 b5 b6
  have h5 := mul_bd a1 a2 b3 b4
  have h6 := mul_bd a3 a4 b1 b2
  unfold crsV
  exact ⟨⟨by simp only; omega, by simp only; omega⟩, ⟨by simp only; omega, by simp only; omega⟩, by simp only; omega, by simp only; omega⟩
def sgn (n : Int) : Int := if 0 < n then 1 else if n < 0 then -1 else 0
def aft (s : List V3) (i : Nat) : V3 := s.getD ((i + 1) % s.length) V0
def nrmV (s : List V3) : V3 := crsV (subV (s.getD 1 V0) (s.getD 0 V0)) (subV (s.getD 2 V0) (s.getD 1 V0))
theorem nrmV_ref (s : List V3) : crsV (subV (s.getD 1 V0) (s.getD 0 V0)) (subV (s.getD 2 V0) (s.getD 0 V0)) = nrmV s := by
  unfold nrmV crsV subV
  simp only [V3.mk.injEq]
  refine ⟨?_, ?_, ?_⟩ <;> grind
def sideV (s : List V3) (i : Nat) : V3 := subV (aft s i) (s.getD i V0)
def flatK (s : List V3) (i : Nat) (o : V3) : Bool := decide (0 ≤ dotV (nrmV s) (crsV (sideV s i) (subV o (s.getD i V0))))
def flatA (s : List V3) (i : Nat) : Bool := decide (dotV (nrmV s) (subV (s.getD i V0) (s.getD 0 V0)) = 0) && decide (0 < dotV (nrmV s) (crsV (sideV s i) (subV (aft s (i + 1)) (aft s i))))
def flatI (s : List V3) (i : Nat) : Bool := flatA s i && s.all (flatK s i)
def flat_ (s : List V3) : Bool := (List.range s.length).all (flatI s)
def chkCor (v : V3) : Int := firstE [withE v.x (-1000) 1000, withE v.y (-1000) 1000, withE v.z 0 1000]
def chkSun (v : V3) : Int := firstE [withE v.x (-1000) 1000, withE v.y (-1000) 1000, withE v.z 1 1000]
def sizeS (s : List V3) : Int := firstE [whenE (decide ((s.length : Int) < 3)) 16, whenE (decide (6 < (s.length : Int))) 5, firstE (s.map chkCor)]
def chkShp (s : List V3) : Int := if sizeS s ≠ 0 then sizeS s else whenE (!flat_ s) 1
def chkShps (l : List (List V3)) : Int := if 8 < (l.length : Int) then 5 else firstE (l.map chkShp)
def chkSpot (p : Pt) : Int := firstE [withE p.x (-1000) 1000, withE p.y (-1000) 1000]
def OkS (s : List V3) : Prop := 3 ≤ s.length ∧ s.length ≤ 6 ∧ ∀ v ∈ s, bdV 1000 v ∧ 0 ≤ v.z
theorem chkCor_zero {v : V3} (h : chkCor v = 0) : bdV 1000 v ∧ 0 ≤ v.z := by
  unfold chkCor at h
  obtain ⟨h1, h⟩ := firstE_cons h
  obtain ⟨h2, h⟩ := firstE_cons h
  obtain ⟨h3, h⟩ := firstE_cons h
  have h1 := withE_zero h1
  have h2 := withE_zero h2
  have h3 := withE_zero h3
  exact ⟨⟨h1, h2, by omega, h3.2⟩, h3.1⟩
theorem chkSun_zero {v : V3} (h : chkSun v = 0) : bdV 1000 v ∧ 1 ≤ v.z := by
  unfold chkSun at h
  obtain ⟨h1, h⟩ := firstE_cons h
  obtain ⟨h2, h⟩ := firstE_cons h
  obtain ⟨h3, h⟩ := firstE_cons h
  have h1 := withE_zero h1
  have h2 := withE_zero h2
  have h3 := withE_zero h3
  exact ⟨⟨h1, h2, by omega, h3.2⟩, h3.1⟩
theorem sizeS_zero {s : List V3} (h : sizeS s = 0) : OkS s := by
  unfold sizeS at h
  obtain ⟨h1, h⟩ := firstE_cons h
  obtain ⟨h2, h⟩ := firstE_cons h
  obtain ⟨h3, h⟩ := firstE_cons h
  have h1 := of_decide_eq_false (whenE_zero h1 (by decide))
  have h2 := of_decide_eq_false (whenE_zero h2 (by decide))
  exact ⟨by omega, by omega, fun v hv => chkCor_zero (firstE_mem h3 _ (List.mem_map_of_mem hv))⟩
theorem chkShp_size {s : List V3} (h : chkShp s = 0) : sizeS s = 0 ∧ flat_ s = true := by
  unfold chkShp at h
  split at h
  · exact absurd h ‹_›
  · refine ⟨Classical.not_not.1 ‹_›, ?_⟩
    have := whenE_zero h (by decide)
    simpa using this
theorem chkShp_zero {s : List V3} (h : chkShp s = 0) : OkS s := sizeS_zero (chkShp_size h).1
theorem chkShps_zero {l : List (List V3)} (h : chkShps l = 0) : l.length ≤ 8 ∧ ∀ s ∈ l, chkShp s = 0 := by
  unfold chkShps at h
  split at h
  · cases h
  · exact ⟨by omega, fun s hs => firstE_mem h _ (List.mem_map_of_mem hs)⟩
theorem chkSpot_zero {p : Pt} (h : chkSpot p = 0) : (-1000 ≤ p.x ∧ p.x ≤ 1000) ∧ (-1000 ≤ p.y ∧ p.y ≤ 1000) := by
  unfold chkSpot at h
  obtain ⟨h1, h⟩ := firstE_cons h
  obtain ⟨h2, h⟩ := firstE_cons h
  exact ⟨withE_zero h1, withE_zero h2⟩
theorem OkS.at {s : List V3} (h : OkS s) {i : Nat} (hi : i < s.length) : bdV 1000 (s.getD i V0) := (h.2.2 _ (getD_in V0 hi)).1
theorem OkS.aft {s : List V3} (h : OkS s) (i : Nat) : bdV 1000 (aft s i) := by
  have := h.1
  exact h.at (Nat.mod_lt _ (by omega))
theorem OkS.nrm {s : List V3} (h : OkS s) : bdV 8000000 (nrmV s) := by
  have h0 := h.1
  have h1 := h.at (i := 0) (by omega)
  have h2 := h.at (i := 1) (by omega)
  have h3 := h.at (i := 2) (by omega)
  exact bdV_le (crsV_bd (subV_bd h2 h1) (subV_bd h3 h2)) (by decide)
theorem OkS.side {s : List V3} (h : OkS s) {i : Nat} (hi : i < s.length) : bdV 2000 (sideV s i) := bdV_le (subV_bd (h.aft i) (h.at hi)) (by decide)
def gndV (p : Pt) : V3 := ⟨p.x, p.y, 0⟩
def turnV (s : List V3) (sun : V3) (p : Pt) (i : Nat) : Int := dotV sun (crsV (subV (s.getD i V0) (gndV p)) (subV (aft s i) (gndV p)))
def frontB (s : List V3) (sun : V3) (p : Pt) : Bool := decide (sgn (dotV (nrmV s) sun) ≠ 0) && decide (sgn (dotV (nrmV s) sun) = sgn (dotV (nrmV s) (subV (s.getD 0 V0) (gndV p))))
def turnsL (s : List V3) (sun : V3) (p : Pt) : List Int := rng s.length (turnV s sun p)
def hidB (s : List V3) (sun : V3) (p : Pt) : Bool := frontB s sun p && ((turnsL s sun p).all (fun n => decide (n ≤ 0)) || (turnsL s sun p).all (fun n => decide (0 ≤ n)))
def hidng (l : List (List V3)) (sun : V3) (p : Pt) (k : Nat) : List Int := ((List.range k).filter fun i => hidB (l.getD i []) sun p).map fun i : Nat => (i : Int)
theorem hidng_succ (l : List (List V3)) (sun : V3) (p : Pt) (k : Nat) : hidng l sun p (k + 1) = hidng l sun p k ++ if hidB (l.getD k []) sun p then [(k : Int)] else [] := by
  unfold hidng
  rw [List.range_succ, List.filter_append, List.map_append]
  simp only [List.filter_cons, List.filter_nil]
  cases hidB (l.getD k []) sun p <;> rfl
theorem hidng_len (l : List (List V3)) (sun : V3) (p : Pt) (k : Nat) : (hidng l sun p k).length ≤ k := by
  unfold hidng; rw [List.length_map]
  have := List.length_filter_le (fun i => hidB (l.getD i []) sun p) (List.range k)
  rwa [List.length_range] at this
end Sh


set_option linter.unusedSimpArgs false
set_option linter.unusedVariables false
namespace Sh
open Go
structure Bx where
  f : Pt
  t : Pt
def B0 : Bx := ⟨P0, P0⟩
def sizeB (c : Bx) : Int := (c.t.x - c.f.x) * (c.t.y - c.f.y)
def spanE (c : Bx) : Int := whenE (decide (c.t.x ≤ c.f.x) || decide (c.t.y ≤ c.f.y)) 14
def frstB (c : Bx) : Int := firstE [chkSpot c.f, chkSpot c.t, spanE c]
def chkBx (c : Bx) : Int := if frstB c ≠ 0 then frstB c else whenE (decide (256 < sizeB c)) 5
structure OkB (c : Bx) : Prop where
  x0 : -1000 ≤ c.f.x
  y0 : -1000 ≤ c.f.y
  x1 : c.t.x ≤ 1000
  y1 : c.t.y ≤ 1000
  x : c.f.x < c.t.x
  y : c.f.y < c.t.y
theorem frstB_zero {c : Bx} (h : frstB c = 0) : OkB c := by
  unfold frstB spanE at h
  obtain ⟨h1, h⟩ := firstE_cons h
  obtain ⟨h2, h⟩ := firstE_cons h
  obtain ⟨h3, h⟩ := firstE_cons h
  have h1 := chkSpot_zero h1
  have h2 := chkSpot_zero h2
  have h3 := whenE_zero h3 (by decide)
  simp only [Bool.or_eq_false_iff, decide_eq_false_iff_not] at h3
  exact ⟨h1.1.1, h1.2.1, h2.1.2, h2.2.2, by omega, by omega⟩
theorem chkBx_zero {c : Bx} (h : chkBx c = 0) : OkB c ∧ sizeB c ≤ 256 := by
  unfold chkBx at h
  split at h
  · exact absurd h ‹_›
  · rename_i h1
    refine ⟨frstB_zero (Classical.not_not.1 h1), ?_⟩
    have := of_decide_eq_false (whenE_zero h (by decide))
    omega
theorem OkB.size {c : Bx} (h : OkB c) : 1 ≤ sizeB c ∧ sizeB c ≤ 4000000 := by
  obtain ⟨a, b, d, e, f, g⟩ := h
  unfold sizeB
  have h1 : 1 * 1 ≤ (c.t.x - c.f.x) * (c.t.y - c.f.y) := Int.mul_le_mul (by omega) (by omega) (by omega) (by omega)
  have h2 : (c.t.x - c.f.x) * (c.t.y - c.f.y) ≤ 2000 * 2000 := Int.mul_le_mul (by omega) (by omega) (by omega) (by omega)
  omega
def wB (c : Bx) : Nat := (c.t.x - c.f.x).toNat
def hB (c : Bx) : Nat := (c.t.y - c.f.y).toNat
def spotB (c : Bx) (j i : Nat) : Pt := ⟨c.f.x + i, c.f.y + j⟩
def rowB (c : Bx) (j i : Nat) : List Pt := (List.range' i (wB c - i)).map (spotB c j)
def restB (c : Bx) (j : Nat) : List Pt := (List.range' j (hB c - j)).flatMap fun j => rowB c j 0
def spotsL (c : Bx) : List Pt := restB c 0
theorem rowB_cons {c : Bx} {j i : Nat} (h : i < wB c) : rowB c j i = spotB c j i :: rowB c j (i + 1) := by
  unfold rowB
  rw [show wB c - i = (wB c - (i + 1)) + 1 by omega, List.range'_succ, List.map_cons]
theorem rowB_nil {c : Bx} {j i : Nat} (h : wB c ≤ i) : rowB c j i = [] := by
  unfold rowB; rw [show wB c - i = 0 by omega]; rfl
theorem restB_cons {c : Bx} {j : Nat} (h : j < hB c) : restB c j = rowB c j 0 ++ restB c (j + 1) := by
  unfold restB
  rw [show hB c - j = (hB c - (j + 1)) + 1 by omega, List.range'_succ, List.flatMap_cons]
theorem restB_nil {c : Bx} {j : Nat} (h : hB c ≤ j) : restB c j = [] := by
  unfold restB; rw [show hB c - j = 0 by omega]; rfl
theorem rowB_len (c : Bx) (j i : Nat) : (rowB c j i).length = wB c - i := by simp [rowB]
theorem restB_len (c : Bx) : ∀ n j, hB c - j = n → (restB c j).length = n * wB c
  | 0, j, h => by rw [restB_nil (by omega)]; simp
  | n + 1, j, h => by
    rw [restB_cons (by omega), List.length_append, rowB_len, restB_len c n (j + 1) (by omega), Nat.succ_mul]
    omega
theorem spotsL_len {c : Bx} (h : OkB c) : ((spotsL c).length : Int) = sizeB c := by
  unfold spotsL
  rw [restB_len c (hB c) 0 (by omega)]
  unfold hB wB sizeB
  have := h.x
  have := h.y
  rw [Int.natCast_mul, Int.toNat_of_nonneg (by omega), Int.toNat_of_nonneg (by omega), Int.mul_comm]
theorem mem_spots {c : Bx} {p : Pt} (h : p ∈ spotsL c) : (c.f.x ≤ p.x ∧ p.x < c.t.x) ∧ (c.f.y ≤ p.y ∧ p.y < c.t.y) := by
  unfold spotsL restB rowB at h
  simp only [List.mem_flatMap, List.mem_map, List.mem_range'_1] at h
  obtain ⟨j, hj, i, hi, rfl⟩ := h
  unfold wB at hi
  unfold hB at hj
  unfold spotB
  simp only
  omega
theorem OkB.spot {c : Bx} (h : OkB c) {p : Pt} (hp : p ∈ spotsL c) : (-1000 ≤ p.x ∧ p.x ≤ 1000) ∧ (-1000 ≤ p.y ∧ p.y ≤ 1000) := by
  have := mem_spots hp
  have := h.x0; have := h.x1; have := h.y0; have := h.y1
  omega
def anyHid (l : List (List V3)) (sun : V3) (p : Pt) : Bool := l.any fun s => hidB s sun p
def litL (l : List (List V3)) (sun : V3) (ps : List Pt) : List Pt := ps.filter fun p => !anyHid l sun p
def lightS (l : List (List V3)) (sun : V3) (c : Bx) : Int := (litL l sun (spotsL c)).length
def shdL (s : List V3) (sun : V3) (ps : List Pt) : List Pt := ps.filter fun p => hidB s sun p
def cutI (l : List (List V3)) (sun : V3) (i : Nat) (ps : List Pt) : List Pt := ps.filter fun p => !anyHid (l.take i) sun p && hidB (l.getD i []) sun p
def cutS (l : List (List V3)) (sun : V3) (c : Bx) : List Int := rng l.length fun i => ((cutI l sun i (spotsL c)).length : Int)
end Sh


set_option linter.unusedSimpArgs false
set_option linter.unusedVariables false
namespace Sh
open Go
def gcdI (a b : Int) : Int := (Int.gcd a b : Nat)
def lowR (n d : Int) : Int × Int := (n.tdiv (gcdI n d), d.tdiv (gcdI n d))
theorem gcdI_pos {n d : Int} (h : 0 < d) : 1 ≤ gcdI n d ∧ gcdI n d ≤ d := by
  unfold gcdI
  have h1 : 0 < Int.gcd n d := Int.gcd_pos_of_ne_zero_right n (by omega)
  have h2 : ((Int.gcd n d : Nat) : Int) ∣ d := Int.gcd_dvd_right n d
  have := Int.le_of_dvd h h2
  omega
theorem gcd_step {a b : Nat} (h : b ≠ 0) : Nat.gcd b (a % b) = Nat.gcd a b := by
  rw [Nat.gcd_comm a b, Nat.gcd_rec b a, Nat.gcd_comm]
def absI (n : Int) : Int := if -n > n then -n else n
theorem absI_eq (n : Int) : absI n = (n.natAbs : Int) := by unfold absI; split <;> omega
def castX (v sun : V3) : Int := v.x * sun.z - v.z * sun.x
def castY (v sun : V3) : Int := v.y * sun.z - v.z * sun.y
theorem castX_bd {v sun : V3} (hv : bdV 1000 v) (hs : bdV 1000 sun) : -2000000 ≤ castX v sun ∧ castX v sun ≤ 2000000 := by
  have h1 := mul_bd hv.1.1 hv.1.2 hs.2.2.1 hs.2.2.2
  have h2 := mul_bd hv.2.2.1 hv.2.2.2 hs.1.1 hs.1.2
  unfold castX; omega
theorem castY_bd {v sun : V3} (hv : bdV 1000 v) (hs : bdV 1000 sun) : -2000000 ≤ castY v sun ∧ castY v sun ≤ 2000000 := by
  have h1 := mul_bd hv.2.1.1 hv.2.1.2 hs.2.2.1 hs.2.2.2
  have h2 := mul_bd hv.2.2.1 hv.2.2.2 hs.2.1.1 hs.2.1.2
  unfold castY; omega
def cornR (v sun : V3) : (Int × Int) × (Int × Int) := (lowR (castX v sun) sun.z, lowR (castY v sun) sun.z)
def areaT (s : List V3) (sun : V3) (i : Nat) : Int := castX (s.getD i V0) sun * castY (aft s i) sun - castX (aft s i) sun * castY (s.getD i V0) sun
def areaI (s : List V3) (sun : V3) (k : Nat) : Int := sumI (rng k (areaT s sun))
def areaR (s : List V3) (sun : V3) : Int × Int := lowR (absI (areaI s sun s.length)) (2 * sun.z * sun.z)
theorem areaI_succ (s : List V3) (sun : V3) (k : Nat) : areaI s sun (k + 1) = areaI s sun k + areaT s sun k := by
  unfold areaI; rw [rng_succ, sumI_append, sumI_one]
theorem areaT_bd {s : List V3} (h : OkS s) {sun : V3} (hs : bdV 1000 sun) {i : Nat} (hi : i < s.length) : -8000000000000 ≤ areaT s sun i ∧ areaT s sun i ≤ 8000000000000 := by
  have a := castX_bd (h.at hi) hs
  have b := castY_bd (h.aft i) hs
  have c := castX_bd (h.aft i) hs
  have d := castY_bd (h.at hi) hs
  have h1 := mul_bd a.1 a.2 b.1 b.2
  have h2 := mul_bd c.1 c.2 d.1 d.2
  unfold areaT; omega
theorem areaI_bd {s : List V3} (h : OkS s) {sun : V3} (hs : bdV 1000 sun) : ∀ {k : Nat}, k ≤ s.length → -48000000000000 ≤ areaI s sun k ∧ areaI s sun k ≤ 48000000000000 := by
  have key : ∀ k : Nat, k ≤ s.length → -(k * 8000000000000 : Int) ≤ areaI s sun k ∧ areaI s sun k ≤ k * 8000000000000 := by
    intro k
    induction k with
    | zero => intro _; simp [areaI, rng, sumI]
    | succ k ih =>
      intro hk
      have ih := ih (by omega)
      have := areaT_bd h hs (i := k) (by omega)
      rw [areaI_succ]
      omega
  intro k hk
  have := key k hk
  have := h.2.1
  omega
def acr (p : Pt) (sun : V3) : Int := p.x * sun.z - p.y * sun.y
def chkTilt (p : Pt) : Int := firstE [withE p.x 1 100, withE p.y (-100) 100]
def chkPitch (p : Pt) : Int := firstE [withE p.x 1 1000, withE p.y (-1000) 1000]
def samePt (a b : Pt) : Bool := decide (a.x = b.x) && decide (a.y = b.y)
def tiltI (l : List Pt) (i : Nat) : Int := firstE [chkTilt (l.getD i P0), whenE ((l.take i).any fun p => samePt p (l.getD i P0)) 9]
def sizeT_ (l : List Pt) : Int := firstE [whenE (decide ((l.length : Int) = 0)) 12, whenE (decide (16 < (l.length : Int))) 5]
def chkTilts (l : List Pt) : Int := if sizeT_ l ≠ 0 then sizeT_ l else firstE (rng l.length (tiltI l))
theorem rng_mem {α : Type} {m i : Nat} (f : Nat → α) (h : i < m) : f i ∈ rng m f := by
  unfold rng; exact List.mem_map_of_mem (List.mem_range.2 h)
theorem chkTilts_zero {l : List Pt} (h : chkTilts l = 0) : 1 ≤ l.length ∧ l.length ≤ 16 ∧ ∀ p ∈ l, chkTilt p = 0 := by
  unfold chkTilts at h
  split at h
  · exact absurd h ‹_›
  · rename_i h1
    have h1 := Classical.not_not.1 h1
    unfold sizeT_ at h1
    obtain ⟨a, h1⟩ := firstE_cons h1
    obtain ⟨b, _⟩ := firstE_cons h1
    have a := of_decide_eq_false (whenE_zero a (by decide))
    have b := of_decide_eq_false (whenE_zero b (by decide))
    refine ⟨by omega, by omega, fun p hp => ?_⟩
    obtain ⟨i, hi, rfl⟩ := List.mem_iff_getElem.1 hp
    have := firstE_mem h _ (rng_mem (tiltI l) hi)
    have := (firstE_cons this).1
    rwa [show l.getD i P0 = l[i] by simp [List.getD_eq_getElem?_getD, hi]] at this
theorem acr_bd {p : Pt} (hx : -1000 ≤ p.x ∧ p.x ≤ 1000) (hy : -1000 ≤ p.y ∧ p.y ≤ 1000) {sun : V3} (hs : bdV 1000 sun) : -2000000 ≤ acr p sun ∧ acr p sun ≤ 2000000 := by
  have h1 := mul_bd hx.1 hx.2 hs.2.2.1 hs.2.2.2
  have h2 := mul_bd hy.1 hy.2 hs.2.1.1 hs.2.1.2
  unfold acr; omega
def roomI (p : Pt) (sun : V3) : Int := absI (acr p sun)
def widI (t : Pt) (sun : V3) : Int := 2 * absI (acr t sun)
def freeB (t p : Pt) (sun : V3) : Bool := decide (widI t sun ≤ roomI p sun)
def shdR (t p : Pt) (sun : V3) : Int × Int := if freeB t p sun then (0, 1) else lowR (widI t sun - roomI p sun) (widI t sun)
def rulB (l : List Pt) (p : Pt) (sun : V3) : Nat → Int
  | 0 => -1
  | k + 1 => if freeB (l.getD k P0) p sun && (decide (rulB l p sun k < 0) || decide (acr (l.getD (rulB l p sun k).toNat P0) sun < acr (l.getD k P0) sun)) then (k : Int) else rulB l p sun k
theorem rulB_bd (l : List Pt) (p : Pt) (sun : V3) : ∀ k : Nat, -1 ≤ rulB l p sun k ∧ rulB l p sun k < k
  | 0 => by simp [rulB]
  | k + 1 => by
    have := rulB_bd l p sun k
    unfold rulB
    split <;> omega
def ruleS (l : List Pt) (p : Pt) (sun : V3) : Int := rulB l p sun l.length
end Sh


set_option linter.unusedSimpArgs false
set_option linter.unusedVariables false
namespace Sh
open Go
end Sh


set_option linter.unusedSimpArgs false
set_option linter.unusedVariables false
namespace Sh
open Go
end Sh


set_option linter.unusedSimpArgs false
set_option linter.unusedVariables false
namespace Sh
open Go
def sI (s : List V3) (i : Nat) : V3 := s.getD (i % s.length) V0
theorem aft_sI (s : List V3) (i : Nat) : aft s i = sI s (i + 1) := rfl
theorem getD_sI {s : List V3} {i : Nat} (h : i < s.length) : s.getD i V0 = sI s i := by unfold sI; rw [Nat.mod_eq_of_lt h]
theorem dot_sub (n a b : V3) : dotV n (subV a b) = dotV n a - dotV n b := by unfold dotV subV; grind
structure Flat (n : V3) (s : List V3) : Prop where
  len : 3 ≤ s.length
  on : ∀ i, dotV n (subV (sI s i) (sI s 0)) = 0
  cv : ∀ i, 0 < dotV n (crsV (subV (sI s (i + 1)) (sI s i)) (subV (sI s (i + 2)) (sI s (i + 1))))
  all : ∀ i, ∀ o ∈ s, 0 ≤ dotV n (crsV (subV (sI s (i + 1)) (sI s i)) (subV o (sI s i)))
theorem sI_mod (s : List V3) (i m : Nat) : sI s (i % s.length + m) = sI s (i + m) := by
  unfold sI; rw [Nat.mod_add_mod]
theorem flat_spec {s : List V3} (h3 : 3 ≤ s.length) : flat_ s = true ↔ Flat (nrmV s) s := by
  have hk : 0 < s.length := by omega
  unfold flat_
  rw [List.all_eq_true]
  have h0 : s.getD 0 V0 = sI s 0 := getD_sI hk
  constructor
  · intro h
    have key : ∀ i, dotV (nrmV s) (subV (sI s i) (sI s 0)) = 0 ∧ 0 < dotV (nrmV s) (crsV (subV (sI s (i + 1)) (sI s i)) (subV (sI s (i + 2)) (sI s (i + 1)))) ∧ ∀ o ∈ s, 0 ≤ dotV (nrmV s) (crsV (subV (sI s (i + 1)) (sI s i)) (subV o (sI s i))) := by
      intro i
      have hi := Nat.mod_lt i hk
      have h1 := h (i % s.length) (List.mem_range.2 hi)
      unfold flatI flatA at h1
      rw [Bool.and_eq_true, Bool.and_eq_true, List.all_eq_true] at h1
      obtain ⟨⟨a, b⟩, c⟩ := h1
      have a := of_decide_eq_true a
      have b := of_decide_eq_true b
      have e0 : s.getD (i % s.length) V0 = sI s i := rfl
      have e1 : aft s (i % s.length) = sI s (i + 1) := by rw [aft_sI, sI_mod]
      have e2 : aft s (i % s.length + 1) = sI s (i + 2) := by rw [aft_sI, Nat.add_assoc, sI_mod]
      unfold sideV at b
      rw [e0, h0] at a
      rw [e0, e1, e2] at b
      refine ⟨a, b, fun o ho => ?_⟩
      have := of_decide_eq_true (c o ho)
      unfold sideV at this
      rw [e0, e1] at this
      exact this
    exact ⟨h3, fun i => (key i).1, fun i => (key i).2.1, fun i => (key i).2.2⟩
  · intro h i hi
    have hi := List.mem_range.1 hi
    unfold flatI flatA
    rw [Bool.and_eq_true, Bool.and_eq_true, List.all_eq_true]
    refine ⟨⟨decide_eq_true ?_, decide_eq_true ?_⟩, fun o ho => decide_eq_true ?_⟩
    · rw [h0, getD_sI hi]; exact h.on i
    · unfold sideV
      rw [aft_sI, aft_sI, getD_sI hi]; exact h.cv i
    · unfold sideV
      rw [aft_sI, getD_sI hi]; exact h.all i o ho
def Along (n m : V3) (e : Int) : Prop := ∃ a b : Int, 0 < a ∧ 0 < b ∧ ∀ z, a * dotV m z = e * (b * dotV n z)
theorem along_sgn {n m : V3} {e : Int} (he : e = 1 ∨ e = -1) (h : Along n m e) (z : V3) : sgn (dotV m z) = e * sgn (dotV n z) := by
  obtain ⟨a, b, ha, hb, h⟩ := h
  have h := h z
  generalize dotV m z = x at *
  generalize dotV n z = y at *
  unfold sgn
  have hx : (0 < x ↔ 0 < a * x) ∧ (x < 0 ↔ a * x < 0) := by
    refine ⟨⟨fun h => Int.mul_pos ha h, fun h => ?_⟩, ⟨fun h => Int.mul_neg_of_pos_of_neg ha h, fun h => ?_⟩⟩
    · rcases Int.lt_trichotomy x 0 with k | k | k
      · have := Int.mul_neg_of_pos_of_neg ha k; omega
      · rw [k] at h; simp at h
      · exact k
    · rcases Int.lt_trichotomy x 0 with k | k | k
      · exact k
      · rw [k] at h; simp at h
      · have := Int.mul_pos ha k; omega
  have hy : (0 < y ↔ 0 < b * y) ∧ (y < 0 ↔ b * y < 0) := by
    refine ⟨⟨fun h => Int.mul_pos hb h, fun h => ?_⟩, ⟨fun h => Int.mul_neg_of_pos_of_neg hb h, fun h => ?_⟩⟩
    · rcases Int.lt_trichotomy y 0 with k | k | k
      · have := Int.mul_neg_of_pos_of_neg hb k; omega
      · rw [k] at h; simp at h
      · exact k
    · rcases Int.lt_trichotomy y 0 with k | k | k
      · exact k
      · rw [k] at h; simp at h
      · have := Int.mul_pos hb k; omega
  generalize a * x = X at *
  generalize b * y = Y at *
  rcases he with rfl | rfl <;> (split <;> split <;> (try split) <;> omega)
theorem along_pos {n m : V3} {e : Int} (he : e = 1 ∨ e = -1) (h : Along n m e) (z : V3) : (0 < dotV m z ↔ 0 < e * dotV n z) ∧ (0 ≤ dotV m z ↔ 0 ≤ e * dotV n z) ∧ (dotV m z = 0 ↔ dotV n z = 0) := by
  have := along_sgn he h z
  unfold sgn at this
  generalize dotV m z = x at *
  generalize dotV n z = y at *
  rcases he with rfl | rfl <;> (split at this <;> split at this <;> (try split at this) <;> (try split at this) <;> omega)
end Sh


set_option linter.unusedSimpArgs false
set_option linter.unusedVariables false
namespace Sh
open Go
theorem v3_ext {a b : V3} (h1 : a.x = b.x) (h2 : a.y = b.y) (h3 : a.z = b.z) : a = b := by cases a; cases b; simp_all
theorem Flat.step {n : V3} {s : List V3} (h : Flat n s) (i j : Nat) : dotV n (subV (sI s i) (sI s j)) = 0 := by
  have h1 := h.on i
  have h2 := h.on j
  rw [dot_sub] at *
  omega
theorem Flat.to {n m : V3} {s : List V3} (h : Flat n s) (k : Along n m 1) : Flat m s := by
  have hp := fun z => along_pos (.inl rfl) k z
  refine ⟨h.len, fun i => (hp _).2.2.2 (h.on i), fun i => (hp _).1.2 ?_, fun i o ho => (hp _).2.1.2 ?_⟩
  · rw [Int.one_mul]; exact h.cv i
  · rw [Int.one_mul]; exact h.all i o ho
theorem bool_iff {a b : Bool} (h : a = true ↔ b = true) : a = b := by cases a <;> cases b <;> simp_all
theorem nrm_sI {s : List V3} (h : 3 ≤ s.length) : nrmV s = crsV (subV (sI s 1) (sI s 0)) (subV (sI s 2) (sI s 1)) := by
  unfold nrmV
  rw [getD_sI (by omega : 0 < s.length), getD_sI (by omega : 1 < s.length), getD_sI (by omega : 2 < s.length)]
end Sh


set_option linter.unusedSimpArgs false
set_option linter.unusedVariables false
namespace Sh
open Go
def addV (a b : V3) : V3 := ⟨a.x + b.x, a.y + b.y, a.z + b.z⟩
def movS (s : List V3) (d : V3) : List V3 := s.map fun v => addV v d
def corOk (s : List V3) : Bool := s.all fun v => decide (chkCor v = 0)
def movR (s : List V3) (d : V3) : List V3 × Int := if corOk (movS s d) then (movS s d, 0) else ([], 4)
theorem movS_len (s : List V3) (d : V3) : (movS s d).length = s.length := List.length_map _
theorem mov_sI {s : List V3} (hk : 0 < s.length) (d : V3) (i : Nat) : sI (movS s d) i = addV (sI s i) d := by
  unfold sI
  rw [movS_len]
  have := Nat.mod_lt i hk
  simp [movS, List.getD_eq_getElem?_getD, this]
theorem sub_add (a b d : V3) : subV (addV a d) (addV b d) = subV a b := by unfold subV addV; refine v3_ext ?_ ?_ ?_ <;> (simp only; omega)
theorem mov_nrm {s : List V3} (h : 3 ≤ s.length) (d : V3) : nrmV (movS s d) = nrmV s := by
  rw [nrm_sI (by rw [movS_len]; exact h), nrm_sI h]
  simp only [mov_sI (by omega : 0 < s.length), sub_add]
theorem mov_flat {s : List V3} (h : 3 ≤ s.length) (d : V3) : flat_ (movS s d) = flat_ s := by
  refine bool_iff ?_
  rw [flat_spec (by rw [movS_len]; exact h), flat_spec h, mov_nrm h]
  constructor
  · intro k
    refine ⟨h, fun i => ?_, fun i => ?_, fun i o ho => ?_⟩
    · have := k.on i; simpa only [mov_sI (by omega : 0 < s.length), sub_add] using this
    · have := k.cv i; simpa only [mov_sI (by omega : 0 < s.length), sub_add] using this
    · have := k.all i (addV o d) (List.mem_map_of_mem ho); simpa only [mov_sI (by omega : 0 < s.length), sub_add] using this
  · intro k
    refine ⟨by rw [movS_len]; exact h, fun i => ?_, fun i => ?_, fun i o ho => ?_⟩
    · have := k.on i; simpa only [mov_sI (by omega : 0 < s.length), sub_add] using this
    · have := k.cv i; simpa only [mov_sI (by omega : 0 < s.length), sub_add] using this
    · obtain ⟨v, hv, rfl⟩ := List.mem_map.1 ho
      have := k.all i v hv; simpa only [mov_sI (by omega : 0 < s.length), sub_add] using this
theorem sizeS_of {s : List V3} (h3 : 3 ≤ s.length) (h6 : s.length ≤ 6) : sizeS s = firstE (s.map chkCor) := by
  unfold sizeS whenE
  rw [decide_eq_false (by omega), decide_eq_false (by omega)]
  show firstE [0, 0, firstE (s.map chkCor)] = _
  simp [firstE]
  intro h; exact h.symm
theorem corOk_iff {s : List V3} : corOk s = true ↔ firstE (s.map chkCor) = 0 := by
  unfold corOk
  rw [List.all_eq_true]
  constructor
  · intro h
    exact firstE_zeros fun x hx => by
      obtain ⟨v, hv, rfl⟩ := List.mem_map.1 hx
      exact of_decide_eq_true (h v hv)
  · intro h v hv
    exact decide_eq_true (firstE_mem h _ (List.mem_map_of_mem hv))
theorem mov_chk {s : List V3} (h : chkShp s = 0) (d : V3) : chkShp (movS s d) = 0 ↔ corOk (movS s d) = true := by
  have hs := chkShp_zero h
  have hf := (chkShp_size h).2
  have hz := sizeS_of (s := movS s d) (by rw [movS_len]; exact hs.1) (by rw [movS_len]; exact hs.2.1)
  rw [corOk_iff]
  unfold chkShp
  rw [hz, mov_flat hs.1, hf]
  by_cases e : firstE ((movS s d).map chkCor) = 0
  · rw [e]; simp [whenE]
  · rw [if_pos e]
end Sh


set_option maxRecDepth 100000
set_option linter.unusedSimpArgs false
set_option linter.unusedVariables false
namespace Sh
open Go Go.Proofs
def encPt (p : Pt) : DV := .agg [DV.int .i64 (p.x), DV.int .i64 (p.y)]
def encV (v : V3) : DV := .agg [DV.int .i64 (v.x), DV.int .i64 (v.y), DV.int .i64 (v.z)]
def shp (s : List V3) : DV := .list (s.map encV)
def shps (l : List (List V3)) : DV := .list (l.map shp)
def pts (l : List Pt) : DV := .list (l.map encPt)
def encR (r : Int × Int) : DV := .agg [DV.int .i64 (r.1), DV.int .i64 (r.2)]
abbrev G9 : Int := 1000000000
theorem int3_eq {a b c a' b' c' : Int} (h1 : a = a') (h2 : b = b') (h3 : c = c') : DV.agg [DV.int .i64 (a), DV.int .i64 (b), DV.int .i64 (c)] = .agg [DV.int .i64 (a'), DV.int .i64 (b'), DV.int .i64 (c')] := by rw [h1, h2, h3]
theorem sub_w {a b : Int} (h1 : -G9 ≤ a ∧ a ≤ G9) (h2 : -G9 ≤ b ∧ b ≤ G9) : IntKind.i64.wrap (a - b) = a - b := W_in (by unfold G9 at *; omega) (by unfold G9 at *; omega)
theorem mul_w {a b : Int} (h1 : -G9 ≤ a ∧ a ≤ G9) (h2 : -G9 ≤ b ∧ b ≤ G9) : IntKind.i64.wrap (a * b) = a * b ∧ -1000000000000000000 ≤ a * b ∧ a * b ≤ 1000000000000000000 := by
  have h := mul_bd h1.1 h1.2 h2.1 h2.2
  have e : G9 * G9 = 1000000000000000000 := rfl
  rw [e] at h
  exact ⟨W_in (by omega) (by omega), by omega, by omega⟩
theorem c_less (a b : V3) (ha : bdV G9 a) (hb : bdV G9 b) : PC 147 [encV a, encV b] (encV (subV a b)) := by
  have e1 := sub_w ha.1 hb.1
  have e2 := sub_w ha.2.1 hb.2.1
  have e3 := sub_w ha.2.2 hb.2.2
  refine pureCall_ofR dh147 rfl ?_
  conv => whnf
  repeat' (first
    | (refine ⟨fun hg => ?_, fun hg => ?_⟩ <;> first | contradiction | (conv => whnf))
    | (refine Or.inl ?_; conv => whnf)
    | (refine And.intro ?_ ?_; kernel_rfl; conv => whnf))
  exact int3_eq e1 e2 e3
theorem r_less (a b : V3) (ha : bdV G9 a) (hb : bdV G9 b) : PC 101 [encV a, encV b] (encV (subV a b)) := by
  have e1 := sub_w ha.1 hb.1
  have e2 := sub_w ha.2.1 hb.2.1
  have e3 := sub_w ha.2.2 hb.2.2
  refine pureCall_ofR dh101 rfl ?_
  conv => whnf
  repeat' (first
    | (refine ⟨fun hg => ?_, fun hg => ?_⟩ <;> first | contradiction | (conv => whnf))
    | (refine Or.inl ?_; conv => whnf)
    | (refine And.intro ?_ ?_; kernel_rfl; conv => whnf))
  exact int3_eq e1 e2 e3
theorem dot_w {a b : V3} (ha : bdV G9 a) (hb : bdV G9 b) : IntKind.i64.wrap (IntKind.i64.wrap (IntKind.i64.wrap (a.x * b.x) + IntKind.i64.wrap (a.y * b.y)) + IntKind.i64.wrap (a.z * b.z)) = dotV a b := by
  have m1 := mul_w ha.1 hb.1
  have m2 := mul_w ha.2.1 hb.2.1
  have m3 := mul_w ha.2.2 hb.2.2
  rw [m1.1, m2.1, m3.1]
  have w1 : IntKind.i64.wrap (a.x * b.x + a.y * b.y) = a.x * b.x + a.y * b.y := W_in (by omega) (by omega)
  rw [w1]
  exact W_in (by omega) (by omega)
theorem c_dot (a b : V3) (ha : bdV G9 a) (hb : bdV G9 b) : PC 146 [encV a, encV b] (DV.int .i64 (dotV a b)) := by
  refine pureCall_ofR dh146 rfl ?_
  conv => whnf
  repeat' (first
    | (refine ⟨fun hg => ?_, fun hg => ?_⟩ <;> first | contradiction | (conv => whnf))
    | (refine Or.inl ?_; conv => whnf)
    | (refine And.intro ?_ ?_; kernel_rfl; conv => whnf))
  exact int_eq (dot_w ha hb)
theorem r_dot (a b : V3) (ha : bdV G9 a) (hb : bdV G9 b) : PC 99 [encV a, encV b] (DV.int .i64 (dotV a b)) := by
  refine pureCall_ofR dh99 rfl ?_
  conv => whnf
  repeat' (first
    | (refine ⟨fun hg => ?_, fun hg => ?_⟩ <;> first | contradiction | (conv => whnf))
    | (refine Or.inl ?_; conv => whnf)
    | (refine And.intro ?_ ?_; kernel_rfl; conv => whnf))
  exact int_eq (dot_w ha hb)
theorem crs_w {a b c d : Int} (ha : -G9 ≤ a ∧ a ≤ G9) (hb : -G9 ≤ b ∧ b ≤ G9) (hc : -G9 ≤ c ∧ c ≤ G9) (hd : -G9 ≤ d ∧ d ≤ G9) : IntKind.i64.wrap (IntKind.i64.wrap (a * b) - IntKind.i64.wrap (c * d)) = a * b - c * d := by
  have m1 := mul_w ha hb
  have m2 := mul_w hc hd
  rw [m1.1, m2.1]
  exact W_in (by omega) (by omega)
theorem c_cross (a b : V3) (ha : bdV G9 a) (hb : bdV G9 b) : PC 148 [encV a, encV b] (encV (crsV a b)) := by
  refine pureCall_ofR dh148 rfl ?_
  conv => whnf
  repeat' (first
    | (refine ⟨fun hg => ?_, fun hg => ?_⟩ <;> first | contradiction | (conv => whnf))
    | (refine Or.inl ?_; conv => whnf)
    | (refine And.intro ?_ ?_; kernel_rfl; conv => whnf))
  exact int3_eq (crs_w ha.2.1 hb.2.2 ha.2.2 hb.2.1) (crs_w ha.2.2 hb.1 ha.1 hb.2.2) (crs_w ha.1 hb.2.1 ha.2.1 hb.1)
theorem r_cross (a b : V3) (ha : bdV G9 a) (hb : bdV G9 b) : PC 102 [encV a, encV b] (encV (crsV a b)) := by
  refine pureCall_ofR dh102 rfl ?_
  conv => whnf
  repeat' (first
    | (refine ⟨fun hg => ?_, fun hg => ?_⟩ <;> first | contradiction | (conv => whnf))
    | (refine Or.inl ?_; conv => whnf)
    | (refine And.intro ?_ ?_; kernel_rfl; conv => whnf))
  exact int3_eq (crs_w ha.2.1 hb.2.2 ha.2.2 hb.2.1) (crs_w ha.2.2 hb.1 ha.1 hb.2.2) (crs_w ha.1 hb.2.1 ha.2.1 hb.1)
theorem c_sign (n : Int) : PC 145 [DV.int .i64 (n)] (DV.int .i64 (sgn n)) := by
  refine pureCall_ofR dh145 rfl ?_
  conv => whnf
  repeat' (first
    | (refine ⟨fun hg => ?_, fun hg => ?_⟩ <;> first | contradiction | (conv => whnf))
    | (refine Or.inl ?_; conv => whnf)
    | (refine And.intro ?_ ?_; kernel_rfl; conv => whnf))
  all_goals (refine int_eq ?_; unfold sgn; simp only [decide_eq_true_eq, decide_eq_false_iff_not, Bool.not_true, Bool.not_false] at *; grind)
theorem r_sign (n : Int) : PC 100 [DV.int .i64 (n)] (DV.int .i64 (sgn n)) := by
  refine pureCall_ofR dh100 rfl ?_
  conv => whnf
  repeat' (first
    | (refine ⟨fun hg => ?_, fun hg => ?_⟩ <;> first | contradiction | (conv => whnf))
    | (refine Or.inl ?_; conv => whnf)
    | (refine And.intro ?_ ?_; kernel_rfl; conv => whnf))
  all_goals (refine int_eq ?_; unfold sgn; simp only [decide_eq_true_eq, decide_eq_false_iff_not, Bool.not_true, Bool.not_false, minmaxI, cond_false] at *; grind)
theorem c_checkParts (v : V3) (m : Int) (hm : 0 ≤ m ∧ m ≤ 1000000) : PC 121 [encV v, DV.int .i64 (m)] (DV.int .i64 (firstE [withE v.x (-m) m, withE v.y (-m) m, withE v.z (-m) m])) := by
  have e : IntKind.i64.wrap (-m) = -m := W_in (by omega) (by omega)
  refine pureCall_ofR dh121 rfl ?_
  conv => whnf
  repeat' (first
    | (refine ⟨fun hg => ?_, fun hg => ?_⟩ <;> first | contradiction | (conv => whnf))
    | (refine Or.inl ?_; conv => whnf)
    | (rw [e]; refine ⟨_, c_within .., ?_⟩; conv => whnf)
    | (refine ⟨_, c_within .., ?_⟩; conv => whnf)
    | (refine ⟨_, c_first [_, _, _] (by simp), ?_⟩; conv => whnf)
    | (refine And.intro ?_ ?_; kernel_rfl; conv => whnf))
  rfl
theorem c_CheckSun (v : V3) : PC 27 [encV v] (DV.int .i64 (chkSun v)) := by
  refine pureCall_ofR dh27 rfl ?_
  conv => whnf
  repeat' (first
    | (refine ⟨fun hg => ?_, fun hg => ?_⟩ <;> first | contradiction | (conv => whnf))
    | (refine Or.inl ?_; conv => whnf)
    | (refine ⟨_, c_within .., ?_⟩; conv => whnf)
    | (refine ⟨_, c_first [_, _, _] (by simp), ?_⟩; conv => whnf)
    | (refine And.intro ?_ ?_; kernel_rfl; conv => whnf))
  rfl
theorem r_CheckSun (v : V3) : PC 22 [encV v] (DV.int .i64 (chkSun v)) := by
  refine pureCall_ofR dh22 rfl ?_
  conv => whnf
  repeat' (first
    | (refine ⟨fun hg => ?_, fun hg => ?_⟩ <;> first | contradiction | (conv => whnf))
    | (refine Or.inl ?_; conv => whnf)
    | (refine ⟨_, q_CheckRange .., ?_⟩; conv => whnf)
    | (refine ⟨_, q_First [_, _, _] (by simp), ?_⟩; conv => whnf)
    | (refine And.intro ?_ ?_; kernel_rfl; conv => whnf))
  rfl
theorem c_checkCorner (v : V3) : PC 106 [encV v] (DV.int .i64 (chkCor v)) := by
  refine pureCall_ofR dh106 rfl ?_
  conv => whnf
  repeat' (first
    | (refine ⟨fun hg => ?_, fun hg => ?_⟩ <;> first | contradiction | (conv => whnf))
    | (refine Or.inl ?_; conv => whnf)
    | (refine ⟨_, c_within .., ?_⟩; conv => whnf)
    | (refine ⟨_, c_first [_, _, _] (by simp), ?_⟩; conv => whnf)
    | (refine And.intro ?_ ?_; kernel_rfl; conv => whnf))
  rfl
theorem c_checkSpot (p : Pt) : PC 90 [encPt p] (DV.int .i64 (chkSpot p)) := by
  refine pureCall_ofR dh90 rfl ?_
  conv => whnf
  repeat' (first
    | (refine ⟨fun hg => ?_, fun hg => ?_⟩ <;> first | contradiction | (conv => whnf))
    | (refine Or.inl ?_; conv => whnf)
    | (refine ⟨_, c_within .., ?_⟩; conv => whnf)
    | (refine ⟨_, c_first [_, _] (by simp), ?_⟩; conv => whnf)
    | (refine And.intro ?_ ?_; kernel_rfl; conv => whnf))
  rfl
theorem r_CheckSpot (p : Pt) : PC 23 [encPt p] (DV.int .i64 (chkSpot p)) := by
  refine pureCall_ofR dh23 rfl ?_
  conv => whnf
  repeat' (first
    | (refine ⟨fun hg => ?_, fun hg => ?_⟩ <;> first | contradiction | (conv => whnf))
    | (refine Or.inl ?_; conv => whnf)
    | (refine ⟨_, q_CheckRange .., ?_⟩; conv => whnf)
    | (refine ⟨_, q_First [_, _] (by simp), ?_⟩; conv => whnf)
    | (refine And.intro ?_ ?_; kernel_rfl; conv => whnf))
  rfl
theorem c_checkTilt (p : Pt) : PC 122 [encPt p] (DV.int .i64 (chkTilt p)) := by
  refine pureCall_ofR dh122 rfl ?_
  conv => whnf
  repeat' (first
    | (refine ⟨fun hg => ?_, fun hg => ?_⟩ <;> first | contradiction | (conv => whnf))
    | (refine Or.inl ?_; conv => whnf)
    | (refine ⟨_, c_within .., ?_⟩; conv => whnf)
    | (refine ⟨_, c_first [_, _] (by simp), ?_⟩; conv => whnf)
    | (refine And.intro ?_ ?_; kernel_rfl; conv => whnf))
  rfl
theorem c_checkPitch (p : Pt) : PC 124 [encPt p] (DV.int .i64 (chkPitch p)) := by
  refine pureCall_ofR dh124 rfl ?_
  conv => whnf
  repeat' (first
    | (refine ⟨fun hg => ?_, fun hg => ?_⟩ <;> first | contradiction | (conv => whnf))
    | (refine Or.inl ?_; conv => whnf)
    | (refine ⟨_, c_within .., ?_⟩; conv => whnf)
    | (refine ⟨_, c_first [_, _] (by simp), ?_⟩; conv => whnf)
    | (refine And.intro ?_ ?_; kernel_rfl; conv => whnf))
  rfl
end Sh


set_option maxRecDepth 100000
set_option linter.unusedSimpArgs false
set_option linter.unusedVariables false
namespace Sh
open Go Go.Proofs
theorem bd9 {n : Int} {v : V3} (h : bdV n v) (hn : n ≤ G9) : bdV G9 v := bdV_le h hn
theorem c_normal (s : List V3) (h : OkS s) : PC 144 [shp s] (encV (nrmV s)) := by
  have h3 := h.1
  have b0 := h.at (i := 0) (by omega)
  have b1 := h.at (i := 1) (by omega)
  have b2 := h.at (i := 2) (by omega)
  have k1 := c_less (s.getD 1 V0) (s.getD 0 V0) (bd9 b1 (by decide)) (bd9 b0 (by decide))
  have k2 := c_less (s.getD 2 V0) (s.getD 1 V0) (bd9 b2 (by decide)) (bd9 b1 (by decide))
  have k3 := c_cross _ _ (bd9 (subV_bd b1 b0) (by decide)) (bd9 (subV_bd b2 b1) (by decide))
  refine pureCall_ofR dh144 rfl ?_
  conv => whnf
  repeat' (first
    | (refine ⟨fun hg => ?_, fun hg => ?_⟩ <;> first | contradiction | (conv => whnf))
    | (refine Or.inl ?_; conv => whnf)
    | (rw [getD_enc' _ _ 0 V0 (by decide) (by omega)]; refine ⟨idxB (by decide) (by omega) rfl, ?_⟩; conv => whnf)
    | (rw [getD_enc' _ _ 1 V0 (by decide) (by omega)]; refine ⟨idxB (by decide) (by omega) rfl, ?_⟩; conv => whnf)
    | (rw [getD_enc' _ _ 2 V0 (by decide) (by omega)]; refine ⟨idxB (by decide) (by omega) rfl, ?_⟩; conv => whnf)
    | (refine ⟨_, k1, ?_⟩; conv => whnf)
    | (refine ⟨_, k2, ?_⟩; conv => whnf)
    | (refine ⟨_, k3, ?_⟩; conv => whnf)
    | (refine And.intro ?_ ?_; kernel_rfl; conv => whnf))
  rfl
theorem r_normal (s : List V3) (h : OkS s) : PC 98 [shp s] (encV (nrmV s)) := by
  have h3 := h.1
  have b0 := h.at (i := 0) (by omega)
  have b1 := h.at (i := 1) (by omega)
  have b2 := h.at (i := 2) (by omega)
  have k1 := r_less (s.getD 1 V0) (s.getD 0 V0) (bd9 b1 (by decide)) (bd9 b0 (by decide))
  have k2 := r_less (s.getD 2 V0) (s.getD 0 V0) (bd9 b2 (by decide)) (bd9 b0 (by decide))
  have k3 := r_cross _ _ (bd9 (subV_bd b1 b0) (by decide)) (bd9 (subV_bd b2 b0) (by decide))
  refine pureCall_ofR dh98 rfl ?_
  conv => whnf
  repeat' (first
    | (refine ⟨fun hg => ?_, fun hg => ?_⟩ <;> first | contradiction | (conv => whnf))
    | (refine Or.inl ?_; conv => whnf)
    | (rw [getD_enc' _ _ 0 V0 (by decide) (by omega)]; refine ⟨idxB (by decide) (by omega) rfl, ?_⟩; conv => whnf)
    | (rw [getD_enc' _ _ 1 V0 (by decide) (by omega)]; refine ⟨idxB (by decide) (by omega) rfl, ?_⟩; conv => whnf)
    | (rw [getD_enc' _ _ 2 V0 (by decide) (by omega)]; refine ⟨idxB (by decide) (by omega) rfl, ?_⟩; conv => whnf)
    | (refine ⟨_, k1, ?_⟩; conv => whnf)
    | (refine ⟨_, k2, ?_⟩; conv => whnf)
    | (refine ⟨_, k3, ?_⟩; conv => whnf)
    | (refine And.intro ?_ ?_; kernel_rfl; conv => whnf))
  rw [nrmV_ref]; rfl
theorem mod_w (i k n : Nat) (hn : 0 < n) (hi : i + k < 1073741824) : (IntKind.i64.wrap ((i : Int) + (k : Int))).tmod (n : Int) = (((i + k) % n : Nat) : Int) := by
  rw [show IntKind.i64.wrap ((i : Int) + (k : Int)) = ((i + k : Nat) : Int) from W_in (by omega) (by omega)]
  rw [Int.tmod_eq_emod_of_nonneg (by omega)]; omega
theorem mod_w1 (i n : Nat) (hn : 0 < n) (hi : i < 1000000000) : (IntKind.i64.wrap ((i : Int) + 1)).tmod (n : Int) = (((i + 1) % n : Nat) : Int) := mod_w i 1 n hn (by omega)
theorem mod_w2 (i n : Nat) (hn : 0 < n) (hi : i < 1000000000) : (IntKind.i64.wrap ((i : Int) + 2)).tmod (n : Int) = (((i + 2) % n : Nat) : Int) := mod_w i 2 n hn (by omega)
theorem c_after (s : List V3) (h : 0 < s.length) (i : Nat) (hi : i < 1000000000) : PC 120 [shp s, DV.int .i64 (i)] (encV (aft s i)) := by
  have e0 : ((s.map encV).length : Int) = s.length := by simp
  have hm := Nat.mod_lt (i + 1) h
  refine pureCall_ofR dh120 rfl ?_
  conv => whnf
  rw [e0]
  refine ⟨by omega, ?_⟩
  conv => whnf
  rw [mod_w1 i _ h hi]
  rw [getD_enc _ _ ((i + 1) % s.length) V0 hm]
  refine ⟨idxA hm rfl, ?_⟩
  conv => whnf
  repeat' (first
    | (refine ⟨fun hg => ?_, fun hg => ?_⟩ <;> first | contradiction | (conv => whnf))
    | (refine Or.inl ?_; conv => whnf)
    | (refine And.intro ?_ ?_; kernel_rfl; conv => whnf))
  rfl
theorem c_isFlat (s : List V3) (h : OkS s) : PC 107 [shp s] (.bool (flat_ s)) := by
  have e0 : ((s.map encV).length : Int) = s.length := by simp
  have h3 := h.1
  have h6 := h.2.1
  have b0 := h.at (i := 0) (by omega)
  have hn := h.nrm
  refine pureCall_ofR dh107 rfl ?_
  conv => whnf
  repeat' (first
    | (refine ⟨fun hg => ?_, fun hg => ?_⟩ <;> first | contradiction | (conv => whnf))
    | (refine Or.inl ?_; conv => whnf)
    | (refine ⟨_, c_normal _ h, ?_⟩; conv => whnf)
    | (refine And.intro ?_ ?_; kernel_rfl; conv => whnf))
  refine dwp_loopU (P := Tryz.prog) (G := GC) (k := dk107_1) (b := db107_1) (α := Nat) (fun i => [(14, DV.int .i64 (i))]) (fun _ => [(3, .box 3 (encV (nrmV s)))]) (fun i => i ≤ s.length ∧ (List.range i).all (flatI s) = true) (fun i => s.length - i) 0 ⟨Nat.zero_le _, rfl⟩ ?_
  conv => whnf
  refine ⟨rfl, rfl, ?_⟩
  conv => whnf
  refine ⟨rfl, ?_⟩
  intro i ⟨h1, h2⟩
  conv => whnf
  refine ⟨fun hb => ?_, fun hb => ?_⟩
  · have hi : i < s.length := by simpa using hb
    have bi := h.at hi
    have bs := h.side hi
    have bx := subV_bd (h.aft (i + 1)) (h.aft i)
    have k1 := c_after s (by omega) i (by omega)
    have k2 := c_after s (by omega) (i + 1) (by omega)
    have k3 := c_less (aft s i) (s.getD i V0) (bd9 (h.aft i) (by decide)) (bd9 bi (by decide))
    have k4 := c_less (aft s (i + 1)) (aft s i) (bd9 (h.aft (i + 1)) (by decide)) (bd9 (h.aft i) (by decide))
    have k5 := c_less (s.getD i V0) (s.getD 0 V0) (bd9 bi (by decide)) (bd9 b0 (by decide))
    have k6 := c_dot _ _ (bd9 hn (by decide)) (bd9 (subV_bd bi b0) (by decide))
    have k7 := c_cross _ _ (bd9 bs (by decide)) (bd9 bx (by decide))
    have k8 := c_dot _ _ (bd9 hn (by decide)) (bd9 (crsV_bd bs bx) (by decide))
    have hw := wrap_succ i (by omega)
    have hI : (List.range (i + 1)).all (flatI s) = flatI s i := by rw [List.range_succ, List.all_append, h2]; simp
    have hF : flatI s i = false → flat_ s = false := fun e => by
      unfold flat_
      rw [List.all_eq_false]
      exact ⟨i, List.mem_range.2 hi, by rw [e]; simp⟩
    clear hb
    conv => whnf
    rw [getD_enc _ _ (i) V0 hi]
    refine ⟨idxA hi rfl, ?_⟩
    conv => whnf
    repeat' (first
      | (refine ⟨fun hg => ?_, fun hg => ?_⟩ <;> first | contradiction | (conv => whnf))
      | (refine Or.inl ?_; conv => whnf)
      | (refine ⟨_, k1, ?_⟩; conv => whnf)
      | (rw [hw]; refine ⟨_, k2, ?_⟩; conv => whnf)
      | (refine ⟨_, k3, ?_⟩; conv => whnf)
      | (refine ⟨_, k4, ?_⟩; conv => whnf)
      | (rw [getD_enc' _ _ 0 V0 (by decide) (by omega)]; refine ⟨idxB (by decide) (by omega) rfl, ?_⟩; conv => whnf)
      | (refine ⟨_, k5, ?_⟩; conv => whnf)
      | (refine ⟨_, k6, ?_⟩; conv => whnf)
      | (refine ⟨_, k7, ?_⟩; conv => whnf)
      | (refine ⟨_, k8, ?_⟩; conv => whnf)
      | (refine And.intro ?_ ?_; kernel_rfl; conv => whnf))
    · have hg := of_decide_eq_true (show decide (dotV (nrmV s) (crsV (sideV s i) (subV (aft s (i + 1)) (aft s i))) ≤ 0) = true from hg)
      show DV.bool false = DV.bool (flat_ s)
      rw [hF (by unfold flatI flatA; rw [decide_eq_false (by omega : ¬ 0 < dotV (nrmV s) (crsV (sideV s i) (subV (aft s (i + 1)) (aft s i)))), Bool.and_false, Bool.false_and])]
    · have hg2 := of_decide_eq_false (show decide (dotV (nrmV s) (crsV (sideV s i) (subV (aft s (i + 1)) (aft s i))) ≤ 0) = false from hg)
      have hg1 := of_decide_eq_false ‹decide (dotV (nrmV s) (subV (s.getD i V0) (s.getD 0 V0)) ≠ 0) = false›
      have hA : flatA s i = true := by
        unfold flatA
        rw [decide_eq_true (Classical.not_not.1 hg1), decide_eq_true (by omega)]; rfl
      clear hg hg1 hg2
      refine dwp_loopU (P := Tryz.prog) (G := GC) (k := dk107_0) (b := db107_0) (α := Nat) (fun j => [(50, DV.int .i64 (j))]) (fun _ => [(3, .box 3 (encV (nrmV s))), (5, .box 3 (encV (s.getD i V0))), (6, .box 3 (encV (sideV s i))), (7, .box 3 (encV (subV (aft s (i + 1)) (aft s i))))]) (fun j => j ≤ s.length ∧ (s.take j).all (flatK s i) = true) (fun j => s.length - j) 0 ⟨Nat.zero_le _, rfl⟩ ?_
      conv => whnf
      refine ⟨rfl, rfl, ?_⟩
      conv => whnf
      refine ⟨rfl, ?_⟩
      intro j ⟨j1, j2⟩
      conv => whnf
      refine ⟨fun hb => ?_, fun hb => ?_⟩
      · have hj : j < s.length := by simpa using hb
        have bj := h.at hj
        have k9 := c_less (s.getD j V0) (s.getD i V0) (bd9 bj (by decide)) (bd9 bi (by decide))
        have k10 := c_cross _ _ (bd9 bs (by decide)) (bd9 (subV_bd bj bi) (by decide))
        have k11 := c_dot _ _ (bd9 hn (by decide)) (bd9 (crsV_bd bs (subV_bd bj bi)) (by decide))
        have hJ : (s.take (j + 1)).all (flatK s i) = flatK s i (s.getD j V0) := by rw [take_snoc s j V0 hj, List.all_append, j2]; simp
        clear hb
        conv => whnf
        rw [getD_enc _ _ (j) V0 hj]
        refine ⟨idxA hj rfl, ?_⟩
        conv => whnf
        repeat' (first
          | (refine ⟨fun hg => ?_, fun hg => ?_⟩ <;> first | contradiction | (conv => whnf))
          | (refine Or.inl ?_; conv => whnf)
          | (refine ⟨_, k9, ?_⟩; conv => whnf)
          | (refine ⟨_, k10, ?_⟩; conv => whnf)
          | (refine ⟨_, k11, ?_⟩; conv => whnf)
          | (refine And.intro ?_ ?_; kernel_rfl; conv => whnf))
        · have hg := of_decide_eq_true hg
          show DV.bool false = DV.bool (flat_ s)
          rw [hF (by
            unfold flatI
            have : s.all (flatK s i) = false := by
              rw [List.all_eq_false]
              exact ⟨_, getD_in V0 hj, by unfold flatK; rw [decide_eq_false (by omega)]; simp⟩
            rw [this, Bool.and_false])]
        · have hg := of_decide_eq_false hg
          rw [wrap_succ j (by omega)]
          exact ⟨j + 1, rfl, rfl, rfl, ⟨hj, by rw [hJ]; exact decide_eq_true (by omega)⟩, by omega⟩
      · have hj : j = s.length := by have := of_decide_eq_false hb; rw [e0] at this; omega
        rw [hj, List.take_length] at j2
        clear hb
        conv => whnf
        rw [wrap_succ i (by omega)]
        exact ⟨i + 1, rfl, rfl, rfl, ⟨hi, by rw [hI]; unfold flatI; rw [hA, j2]; rfl⟩, by omega⟩
    · have hg := of_decide_eq_true (show decide (dotV (nrmV s) (subV (s.getD i V0) (s.getD 0 V0)) ≠ 0) = true from ‹decide (dotV (nrmV s) (subV (s.getD i V0) (s.getD 0 V0)) ≠ 0) = !false›)
      show DV.bool false = DV.bool (flat_ s)
      rw [hF (by unfold flatI flatA; rw [decide_eq_false hg, Bool.false_and, Bool.false_and])]
  · have hi : i = s.length := by have := of_decide_eq_false hb; rw [e0] at this; omega
    rw [hi] at h2
    clear hb
    conv => whnf
    show DV.bool true = DV.bool (flat_ s)
    rw [show flat_ s = true from h2]
theorem r_convex (s : List V3) (h : OkS s) : PC 97 [shp s] (.bool (flat_ s)) := by
  have e0 : ((s.map encV).length : Int) = s.length := by simp
  have h3 := h.1
  have h6 := h.2.1
  have b0 := h.at (i := 0) (by omega)
  have hn := h.nrm
  refine pureCall_ofR dh97 rfl ?_
  conv => whnf
  repeat' (first
    | (refine ⟨fun hg => ?_, fun hg => ?_⟩ <;> first | contradiction | (conv => whnf))
    | (refine Or.inl ?_; conv => whnf)
    | (refine ⟨_, r_normal _ h, ?_⟩; conv => whnf)
    | (refine And.intro ?_ ?_; kernel_rfl; conv => whnf))
  refine dwp_loopU (P := Tryz.prog) (G := GC) (k := dk97_1) (b := db97_1) (α := Nat) (fun i => [(4, DV.int .i64 (i))]) (fun _ => [(3, .box 3 (encV (nrmV s)))]) (fun i => i ≤ s.length ∧ (List.range i).all (flatI s) = true) (fun i => s.length - i) 0 ⟨Nat.zero_le _, rfl⟩ ?_
  conv => whnf
  refine ⟨rfl, rfl, ?_⟩
  conv => whnf
  refine ⟨rfl, ?_⟩
  intro i ⟨h1, h2⟩
  conv => whnf
  refine ⟨fun hb => ?_, fun hb => ?_⟩
  · have hi : i < s.length := by simpa using hb
    have bi := h.at hi
    have bs := h.side hi
    have bx := subV_bd (h.aft (i + 1)) (h.aft i)
    have e2 : s.getD ((i + 2) % s.length) V0 = aft s (i + 1) := rfl
    have e1 : s.getD ((i + 1) % s.length) V0 = aft s i := rfl
    have k3 := r_less (aft s i) (s.getD i V0) (bd9 (h.aft i) (by decide)) (bd9 bi (by decide))
    have k4 := r_less (aft s (i + 1)) (aft s i) (bd9 (h.aft (i + 1)) (by decide)) (bd9 (h.aft i) (by decide))
    have k5 := r_less (s.getD i V0) (s.getD 0 V0) (bd9 bi (by decide)) (bd9 b0 (by decide))
    have k6 := r_dot _ _ (bd9 hn (by decide)) (bd9 (subV_bd bi b0) (by decide))
    have k7 := r_cross _ _ (bd9 bs (by decide)) (bd9 bx (by decide))
    have k8 := r_dot _ _ (bd9 hn (by decide)) (bd9 (crsV_bd bs bx) (by decide))
    have hm1 := Nat.mod_lt (i + 1) (show 0 < s.length by omega)
    have hm2 := Nat.mod_lt (i + 2) (show 0 < s.length by omega)
    have hw1 := mod_w1 i s.length (by omega) (by omega)
    have hw2 := mod_w2 i s.length (by omega) (by omega)
    have hI : (List.range (i + 1)).all (flatI s) = flatI s i := by rw [List.range_succ, List.all_append, h2]; simp
    have hF : flatI s i = false → flat_ s = false := fun e => by
      unfold flat_
      rw [List.all_eq_false]
      exact ⟨i, List.mem_range.2 hi, by rw [e]; simp⟩
    clear hb
    conv => whnf
    rw [getD_enc _ _ (i) V0 hi]
    refine ⟨idxA hi rfl, ?_⟩
    conv => whnf
    rw [e0]
    refine ⟨by omega, ?_⟩
    conv => whnf
    rw [hw1]
    rw [getD_enc _ _ ((i + 1) % s.length) V0 hm1]
    refine ⟨idxA hm1 rfl, ?_⟩
    conv => whnf
    rw [e0]
    refine ⟨by omega, ?_⟩
    conv => whnf
    rw [hw2]
    rw [getD_enc _ _ ((i + 2) % s.length) V0 hm2]
    refine ⟨idxA hm2 rfl, ?_⟩
    conv => whnf
    rw [e1, e2]
    repeat' (first
      | (refine ⟨fun hg => ?_, fun hg => ?_⟩ <;> first | contradiction | (conv => whnf))
      | (refine Or.inl ?_; conv => whnf)
      | (refine ⟨_, k3, ?_⟩; conv => whnf)
      | (refine ⟨_, k4, ?_⟩; conv => whnf)
      | (rw [getD_enc' _ _ 0 V0 (by decide) (by omega)]; refine ⟨idxB (by decide) (by omega) rfl, ?_⟩; conv => whnf)
      | (refine ⟨_, k5, ?_⟩; conv => whnf)
      | (refine ⟨_, k6, ?_⟩; conv => whnf)
      | (refine ⟨_, k7, ?_⟩; conv => whnf)
      | (refine ⟨_, k8, ?_⟩; conv => whnf)
      | (refine And.intro ?_ ?_; kernel_rfl; conv => whnf))
    · have hg := of_decide_eq_true (show decide (dotV (nrmV s) (crsV (sideV s i) (subV (aft s (i + 1)) (aft s i))) ≤ 0) = true from hg)
      show DV.bool false = DV.bool (flat_ s)
      rw [hF (by unfold flatI flatA; rw [decide_eq_false (by omega : ¬ 0 < dotV (nrmV s) (crsV (sideV s i) (subV (aft s (i + 1)) (aft s i)))), Bool.and_false, Bool.false_and])]
    · have hg2 := of_decide_eq_false (show decide (dotV (nrmV s) (crsV (sideV s i) (subV (aft s (i + 1)) (aft s i))) ≤ 0) = false from hg)
      have hg1 := of_decide_eq_false ‹decide (dotV (nrmV s) (subV (s.getD i V0) (s.getD 0 V0)) ≠ 0) = false›
      have hA : flatA s i = true := by
        unfold flatA
        rw [decide_eq_true (Classical.not_not.1 hg1), decide_eq_true (by omega)]; rfl
      clear hg hg1 hg2
      refine dwp_loopU (P := Tryz.prog) (G := GC) (k := dk97_0) (b := db97_0) (α := Nat) (fun j => [(8, DV.int .i64 (j))]) (fun _ => [(3, .box 3 (encV (nrmV s))), (5, .box 3 (encV (s.getD i V0))), (6, .box 3 (encV (aft s i))), (7, .box 3 (encV (aft s (i + 1))))]) (fun j => j ≤ s.length ∧ (s.take j).all (flatK s i) = true) (fun j => s.length - j) 0 ⟨Nat.zero_le _, rfl⟩ ?_
      conv => whnf
      refine ⟨rfl, rfl, ?_⟩
      conv => whnf
      refine ⟨rfl, ?_⟩
      intro j ⟨j1, j2⟩
      conv => whnf
      refine ⟨fun hb => ?_, fun hb => ?_⟩
      · have hj : j < s.length := by simpa using hb
        have bj := h.at hj
        have k9 := r_less (s.getD j V0) (s.getD i V0) (bd9 bj (by decide)) (bd9 bi (by decide))
        have k10 := r_cross _ _ (bd9 bs (by decide)) (bd9 (subV_bd bj bi) (by decide))
        have k11 := r_dot _ _ (bd9 hn (by decide)) (bd9 (crsV_bd bs (subV_bd bj bi)) (by decide))
        have hJ : (s.take (j + 1)).all (flatK s i) = flatK s i (s.getD j V0) := by rw [take_snoc s j V0 hj, List.all_append, j2]; simp
        clear hb
        conv => whnf
        repeat' (first
          | (refine ⟨fun hg => ?_, fun hg => ?_⟩ <;> first | contradiction | (conv => whnf))
          | (refine Or.inl ?_; conv => whnf)
          | (refine ⟨_, k3, ?_⟩; conv => whnf)
          | (rw [getD_enc _ _ j V0 hj]; refine ⟨idxA hj rfl, ?_⟩; conv => whnf)
          | (refine ⟨_, k9, ?_⟩; conv => whnf)
          | (refine ⟨_, k10, ?_⟩; conv => whnf)
          | (refine ⟨_, k11, ?_⟩; conv => whnf)
          | (refine And.intro ?_ ?_; kernel_rfl; conv => whnf))
        · have hg := of_decide_eq_true hg
          show DV.bool false = DV.bool (flat_ s)
          rw [hF (by
            unfold flatI
            have : s.all (flatK s i) = false := by
              rw [List.all_eq_false]
              exact ⟨_, getD_in V0 hj, by unfold flatK; rw [decide_eq_false (by omega)]; simp⟩
            rw [this, Bool.and_false])]
        · have hg := of_decide_eq_false hg
          rw [wrap_succ j (by omega)]
          exact ⟨j + 1, rfl, rfl, rfl, ⟨hj, by rw [hJ]; exact decide_eq_true (by omega)⟩, by omega⟩
      · have hj : j = s.length := by have := of_decide_eq_false hb; rw [e0] at this; omega
        rw [hj, List.take_length] at j2
        clear hb
        conv => whnf
        rw [wrap_succ i (by omega)]
        exact ⟨i + 1, rfl, rfl, rfl, ⟨hi, by rw [hI]; unfold flatI; rw [hA, j2]; rfl⟩, by omega⟩
    · have hg := of_decide_eq_true (show decide (dotV (nrmV s) (subV (s.getD i V0) (s.getD 0 V0)) ≠ 0) = true from ‹decide (dotV (nrmV s) (subV (s.getD i V0) (s.getD 0 V0)) ≠ 0) = !false›)
      show DV.bool false = DV.bool (flat_ s)
      rw [hF (by unfold flatI flatA; rw [decide_eq_false hg, Bool.false_and, Bool.false_and])]
  · have hi : i = s.length := by have := of_decide_eq_false hb; rw [e0] at this; omega
    rw [hi] at h2
    clear hb
    conv => whnf
    show DV.bool true = DV.bool (flat_ s)
    rw [show flat_ s = true from h2]
end Sh


set_option maxRecDepth 100000
set_option linter.unusedSimpArgs false
set_option linter.unusedVariables false
namespace Sh
open Go Go.Proofs
def oI {α : Type} (g : α → Int) (l : List α) (i : Nat) : List DV := (l.take i).map fun c => DV.int .i64 (g c)
theorem oI_len {α : Type} (g : α → Int) (l : List α) (i : Nat) (h : i ≤ l.length) : (oI g l i).length = i := by simp [oI]; omega
theorem oI_succ {α : Type} (g : α → Int) (l : List α) (i : Nat) (d : α) (h : i < l.length) : oI g l (i + 1) = oI g l i ++ [DV.int .i64 (g (l.getD i d))] := take_map_succ _ l i d h
theorem oI_all {α : Type} (g : α → Int) (l : List α) : oI g l l.length = (l.map g).map (DV.int .i64) := by simp [oI]
theorem c_mapV (l : List (V3)) (f : FuncId) (g : V3 → Int) (hl : l.length < 1073741824) (hf : ∀ c ∈ l, PC f [encV c] (DV.int .i64 (g c))) : PC 105 [.list (l.map encV), .func f []] (iL (l.map g)) := by
  have e0 : ((l.map encV).length : Int) = l.length := by simp
  refine pureCall_ofR dh105 rfl ?_
  conv => whnf
  refine dwp_loopU (P := Tryz.prog) (G := GC) (k := dk105_0) (b := db105_0) (α := Nat) (fun i => [(5, .own 5 0 (oI g l i).length (oI g l i).length), (10, DV.int .i64 (i))]) (fun i => [(5, .row 1 (oI g l i) false)]) (fun i => i ≤ l.length) (fun i => l.length - i) 0 (Nat.zero_le _) ?_
  conv => whnf
  refine ⟨rfl, rfl, ?_⟩
  conv => whnf
  refine ⟨rfl, ?_⟩
  intro i h1
  conv => whnf
  refine ⟨fun hb => ?_, fun hb => ?_⟩
  · have hi : i < l.length := by simpa using hb
    clear hb
    conv => whnf
    rw [getD_enc _ _ (i) V0 hi]
    refine ⟨idxA hi rfl, ?_⟩
    conv => whnf
    refine .inl ?_
    conv => whnf
    refine ⟨_, hf _ (getD_in V0 hi), ?_⟩
    conv => whnf
    refine ⟨⟨rfl, rfl, rfl, by rw [oI_len g l i h1]; simp; omega, fun e he => by simp at he; subst he; rfl⟩, ?_⟩
    conv => whnf
    rw [wrap_succ i (by omega)]
    refine ⟨i + 1, rfl, ?_, ?_, hi, by omega⟩
    · rw [oI_succ g l i V0 hi]; rfl
    · rw [oI_succ g l i V0 hi]; rfl
  · have hi : i = l.length := by have := of_decide_eq_false hb; rw [e0] at this; omega
    conv => whnf
    exact ⟨rfl, by rw [window_full, hi, oI_all]; rfl⟩
theorem c_mapS (l : List (List V3)) (f : FuncId) (g : List V3 → Int) (hl : l.length < 1073741824) (hf : ∀ c ∈ l, PC f [shp c] (DV.int .i64 (g c))) : PC 151 [.list (l.map shp), .func f []] (iL (l.map g)) := by
  have e0 : ((l.map shp).length : Int) = l.length := by simp
  refine pureCall_ofR dh151 rfl ?_
  conv => whnf
  refine dwp_loopU (P := Tryz.prog) (G := GC) (k := dk151_0) (b := db151_0) (α := Nat) (fun i => [(5, .own 5 0 (oI g l i).length (oI g l i).length), (10, DV.int .i64 (i))]) (fun i => [(5, .row 1 (oI g l i) false)]) (fun i => i ≤ l.length) (fun i => l.length - i) 0 (Nat.zero_le _) ?_
  conv => whnf
  refine ⟨rfl, rfl, ?_⟩
  conv => whnf
  refine ⟨rfl, ?_⟩
  intro i h1
  conv => whnf
  refine ⟨fun hb => ?_, fun hb => ?_⟩
  · have hi : i < l.length := by simpa using hb
    clear hb
    conv => whnf
    rw [getD_enc _ _ (i) [] hi]
    refine ⟨idxA hi rfl, ?_⟩
    conv => whnf
    refine .inl ?_
    conv => whnf
    refine ⟨_, hf _ (getD_in [] hi), ?_⟩
    conv => whnf
    refine ⟨⟨rfl, rfl, rfl, by rw [oI_len g l i h1]; simp; omega, fun e he => by simp at he; subst he; rfl⟩, ?_⟩
    conv => whnf
    rw [wrap_succ i (by omega)]
    refine ⟨i + 1, rfl, ?_, ?_, hi, by omega⟩
    · rw [oI_succ g l i [] hi]; rfl
    · rw [oI_succ g l i [] hi]; rfl
  · have hi : i = l.length := by have := of_decide_eq_false hb; rw [e0] at this; omega
    conv => whnf
    exact ⟨rfl, by rw [window_full, hi, oI_all]; rfl⟩
theorem c_CheckShape (s : List V3) (hl : s.length < 1073741824) : PC 28 [shp s] (DV.int .i64 (chkShp s)) := by
  have e0 : ((s.map encV).length : Int) = s.length := by simp
  have kM := c_mapV s 106 chkCor hl (fun c _ => c_checkCorner c)
  have kF := c_first (s.map chkCor) (by rw [List.length_map]; omega)
  refine pureCall_ofR dh28 rfl ?_
  conv => whnf
  repeat' (first
    | (refine ⟨fun hg => ?_, fun hg => ?_⟩ <;> first | contradiction | (conv => whnf))
    | (refine Or.inl ?_; conv => whnf)
    | (refine ⟨_, c_when .., ?_⟩; conv => whnf)
    | (refine ⟨_, kM .., ?_⟩; conv => whnf)
    | (refine ⟨_, kF .., ?_⟩; conv => whnf)
    | (refine ⟨_, c_first [_, _, _] (by simp), ?_⟩; conv => whnf)
    | (refine And.intro ?_ ?_; kernel_rfl; conv => whnf))
  · have hg := of_decide_eq_true hg
    exact int_eq (by unfold chkShp sizeS; rw [← e0, if_pos hg])
  · have hg := of_decide_eq_false hg
    have hz : sizeS s = 0 := by unfold sizeS; rw [← e0]; exact Classical.not_not.1 hg
    repeat' (first
      | (refine ⟨fun hg => ?_, fun hg => ?_⟩ <;> first | contradiction | (conv => whnf))
      | (refine Or.inl ?_; conv => whnf)
      | (refine ⟨_, c_isFlat s (sizeS_zero hz), ?_⟩; conv => whnf)
      | (refine ⟨_, c_when .., ?_⟩; conv => whnf)
      | (refine And.intro ?_ ?_; kernel_rfl; conv => whnf))
    exact int_eq (by unfold chkShp; rw [if_neg (by omega)])
theorem c_checkShapes (l : List (List V3)) (hl : l.length < 1073741824) (hs : ∀ s ∈ l, s.length < 1073741824) : PC 92 [shps l] (DV.int .i64 (chkShps l)) := by
  have e0 : ((l.map shp).length : Int) = l.length := by simp
  have kM := c_mapS l 28 chkShp hl (fun s h => c_CheckShape s (hs s h))
  have kF := c_first (l.map chkShp) (by rw [List.length_map]; omega)
  refine pureCall_ofR dh92 rfl ?_
  conv => whnf
  repeat' (first
    | (refine ⟨fun hg => ?_, fun hg => ?_⟩ <;> first | contradiction | (conv => whnf))
    | (refine Or.inl ?_; conv => whnf)
    | (refine ⟨_, kM .., ?_⟩; conv => whnf)
    | (refine ⟨_, kF .., ?_⟩; conv => whnf)
    | (refine And.intro ?_ ?_; kernel_rfl; conv => whnf))
  · have hg := of_decide_eq_true hg
    exact int_eq (by unfold chkShps; rw [← e0, if_pos hg])
  · have hg := of_decide_eq_false hg
    exact int_eq (by unfold chkShps; rw [← e0, if_neg hg])
theorem firstE_skip {a b : Int} (x : Int) (h : ¬ firstE [a, b] ≠ 0) : firstE [a, b, x] = x := by
  obtain ⟨h1, h⟩ := firstE_cons (Classical.not_not.1 h)
  obtain ⟨h2, _⟩ := firstE_cons h
  simp [firstE, h1, h2]
  intro h; exact h.symm
theorem firstE_keep {a b : Int} (x : Int) (h : firstE [a, b] ≠ 0) : firstE [a, b, x] = firstE [a, b] := by
  simp only [firstE] at *
  split
  · rfl
  · rename_i ha
    rw [if_neg ha] at h
    split
    · rfl
    · rename_i hb; rw [if_neg hb] at h; exact absurd rfl h
theorem map_getD {α : Type} (g : α → Int) (l : List α) (i : Nat) (d : α) (h : i < l.length) : (l.map g).getD i 0 = g (l.getD i d) := by simp [List.getD_eq_getElem?_getD, h]
theorem r_CheckShape (s : List V3) (hl : s.length < 1073741824) : PC 21 [shp s] (DV.int .i64 (chkShp s)) := by
  have e0 : ((s.map encV).length : Int) = s.length := by simp
  refine pureCall_ofR dh21 rfl ?_
  conv => whnf
  repeat' (first
    | (refine ⟨fun hg => ?_, fun hg => ?_⟩ <;> first | contradiction | (conv => whnf))
    | (refine Or.inl ?_; conv => whnf)
    | (refine ⟨_, q_When .., ?_⟩; conv => whnf)
    | (refine ⟨_, q_First [_, _] (by simp), ?_⟩; conv => whnf)
    | (refine And.intro ?_ ?_; kernel_rfl; conv => whnf))
  · have hg := of_decide_eq_true hg
    rw [e0] at hg
    exact int_eq (by rw [e0]; unfold chkShp sizeS; rw [firstE_keep _ hg, if_pos hg])
  · have hg := of_decide_eq_false hg
    rw [e0] at hg
    have hsz : sizeS s = firstE (s.map chkCor) := by unfold sizeS; rw [firstE_skip _ hg]
    refine dwp_loopU (P := Tryz.prog) (G := GC) (k := dk21_0) (b := db21_0) (α := Nat) (fun i => [(4, DV.int .i64 (i))]) (fun _ => []) (fun i => i ≤ s.length ∧ firstE (s.map chkCor) = firstE ((s.map chkCor).drop i)) (fun i => s.length - i) 0 ⟨Nat.zero_le _, rfl⟩ ?_
    conv => whnf
    refine ⟨rfl, rfl, ?_⟩
    conv => whnf
    refine ⟨rfl, ?_⟩
    intro i ⟨h1, h2⟩
    conv => whnf
    refine ⟨fun hb => ?_, fun hb => ?_⟩
    · have hi : i < s.length := by simpa using hb
      have hd := firstE_drop (s.map chkCor) i (by rw [List.length_map]; exact hi)
      rw [map_getD chkCor s i V0 hi] at hd
      clear hb
      conv => whnf
      repeat' (first
        | (refine ⟨fun hg => ?_, fun hg => ?_⟩ <;> first | contradiction | (conv => whnf))
        | (refine Or.inl ?_; conv => whnf)
        | (rw [getD_enc _ _ i V0 hi]; refine ⟨idxA hi rfl, ?_⟩; conv => whnf)
        | (refine ⟨_, q_CheckRange .., ?_⟩; conv => whnf)
        | (refine ⟨_, q_First [_, _, _] (by simp), ?_⟩; conv => whnf)
        | (refine And.intro ?_ ?_; kernel_rfl; conv => whnf))
      · have hg := of_decide_eq_true (show decide (chkCor (s.getD i V0) ≠ 0) = true from hg)
        rw [if_pos hg] at hd
        exact int_eq (by unfold chkShp; rw [hsz, h2, hd, if_pos hg]; rfl)
      · have hg := of_decide_eq_false (show decide (chkCor (s.getD i V0) ≠ 0) = false from hg)
        rw [if_neg hg] at hd
        rw [wrap_succ i (by omega)]
        exact ⟨i + 1, rfl, rfl, rfl, ⟨hi, h2.trans hd⟩, by omega⟩
    · have hi : i = s.length := by have := of_decide_eq_false hb; rw [e0] at this; omega
      rw [hi, List.drop_of_length_le (by rw [List.length_map]; exact Nat.le_refl _)] at h2
      have hz : sizeS s = 0 := hsz.trans h2
      clear hb
      conv => whnf
      repeat' (first
        | (refine ⟨fun hg => ?_, fun hg => ?_⟩ <;> first | contradiction | (conv => whnf))
        | (refine Or.inl ?_; conv => whnf)
        | (refine ⟨_, r_convex s (sizeS_zero hz), ?_⟩; conv => whnf)
        | (refine ⟨_, q_When .., ?_⟩; conv => whnf)
        | (refine And.intro ?_ ?_; kernel_rfl; conv => whnf))
      exact int_eq (by unfold chkShp; rw [if_neg (by omega)])
theorem r_CheckShapes (l : List (List V3)) (hl : l.length < 1073741824) (hs : ∀ s ∈ l, s.length < 1073741824) : PC 24 [shps l] (DV.int .i64 (chkShps l)) := by
  have e0 : ((l.map shp).length : Int) = l.length := by simp
  refine pureCall_ofR dh24 rfl ?_
  conv => whnf
  repeat' (first
    | (refine ⟨fun hg => ?_, fun hg => ?_⟩ <;> first | contradiction | (conv => whnf))
    | (refine Or.inl ?_; conv => whnf)
    | (refine And.intro ?_ ?_; kernel_rfl; conv => whnf))
  · have hg := of_decide_eq_true hg
    exact int_eq (by unfold chkShps; rw [← e0, if_pos hg])
  · have hgl := of_decide_eq_false hg
    rw [e0] at hgl
    refine dwp_loopU (P := Tryz.prog) (G := GC) (k := dk24_0) (b := db24_0) (α := Nat) (fun i => [(3, DV.int .i64 (i))]) (fun _ => []) (fun i => i ≤ l.length ∧ firstE (l.map chkShp) = firstE ((l.map chkShp).drop i)) (fun i => l.length - i) 0 ⟨Nat.zero_le _, rfl⟩ ?_
    conv => whnf
    refine ⟨rfl, rfl, ?_⟩
    conv => whnf
    refine ⟨rfl, ?_⟩
    intro i ⟨h1, h2⟩
    conv => whnf
    refine ⟨fun hb => ?_, fun hb => ?_⟩
    · have hi : i < l.length := by simpa using hb
      have hd := firstE_drop (l.map chkShp) i (by rw [List.length_map]; exact hi)
      rw [map_getD chkShp l i [] hi] at hd
      clear hb
      conv => whnf
      rw [getD_enc _ _ (i) [] hi]
      refine ⟨idxA hi rfl, ?_⟩
      conv => whnf
      repeat' (first
        | (refine ⟨fun hg => ?_, fun hg => ?_⟩ <;> first | contradiction | (conv => whnf))
        | (refine Or.inl ?_; conv => whnf)
        | (refine ⟨_, r_CheckShape _ (hs _ (getD_in [] hi)), ?_⟩; conv => whnf)
        | (refine And.intro ?_ ?_; kernel_rfl; conv => whnf))
      · have hg2 := of_decide_eq_true ‹decide (chkShp (l.getD i []) ≠ 0) = true›
        rw [if_pos hg2] at hd
        exact int_eq (by unfold chkShps; rw [if_neg hgl, h2, hd])
      · have hg2 := of_decide_eq_false ‹decide (chkShp (l.getD i []) ≠ 0) = false›
        rw [if_neg hg2] at hd
        rw [wrap_succ i (by omega)]
        exact ⟨i + 1, rfl, rfl, rfl, ⟨hi, h2.trans hd⟩, by omega⟩
    · have hi : i = l.length := by have := of_decide_eq_false hb; rw [e0] at this; omega
      rw [hi, List.drop_of_length_le (by rw [List.length_map]; exact Nat.le_refl _)] at h2
      conv => whnf
      exact int_eq (by unfold chkShps; rw [if_neg hgl, h2]; rfl)
end Sh


set_option maxRecDepth 100000
set_option linter.unusedSimpArgs false
set_option linter.unusedVariables false
namespace Sh
open Go Go.Proofs
def maxK (l : List Int) : Nat → Int
  | 0 => l.getD 0 0
  | k + 1 => minmaxI true (maxK l k) (l.getD (k + 1) 0)
def maxI (l : List Int) : Int := maxK l (l.length - 1)
def minK (l : List Int) : Nat → Int
  | 0 => l.getD 0 0
  | k + 1 => minmaxI false (minK l k) (l.getD (k + 1) 0)
def minI (l : List Int) : Int := minK l (l.length - 1)
theorem maxK_le (l : List Int) (b : Int) : ∀ k, maxK l k ≤ b ↔ ∀ i, i ≤ k → l.getD i 0 ≤ b
  | 0 => ⟨fun h i hi => by have : i = 0 := by omega
                           subst this; exact h, fun h => h 0 (Nat.le_refl _)⟩
  | k + 1 => by
    have ih := maxK_le l b k
    have e : maxK l (k + 1) ≤ b ↔ maxK l k ≤ b ∧ l.getD (k + 1) 0 ≤ b := by
      show minmaxI true _ _ ≤ b ↔ _
      unfold minmaxI
      simp only [cond_true]
      split <;> omega
    rw [e, ih]
    constructor
    · intro ⟨h1, h2⟩ i hi
      by_cases h : i = k + 1
      · subst h; exact h2
      · exact h1 i (by omega)
    · intro h; exact ⟨fun i hi => h i (by omega), h _ (Nat.le_refl _)⟩
theorem minK_ge (l : List Int) (b : Int) : ∀ k, b ≤ minK l k ↔ ∀ i, i ≤ k → b ≤ l.getD i 0
  | 0 => ⟨fun h i hi => by have : i = 0 := by omega
                           subst this; exact h, fun h => h 0 (Nat.le_refl _)⟩
  | k + 1 => by
    have ih := minK_ge l b k
    have e : b ≤ minK l (k + 1) ↔ b ≤ minK l k ∧ b ≤ l.getD (k + 1) 0 := by
      show b ≤ minmaxI false _ _ ↔ _
      unfold minmaxI
      simp only [cond_false]
      split <;> omega
    rw [e, ih]
    constructor
    · intro ⟨h1, h2⟩ i hi
      by_cases h : i = k + 1
      · subst h; exact h2
      · exact h1 i (by omega)
    · intro h; exact ⟨fun i hi => h i (by omega), h _ (Nat.le_refl _)⟩
theorem all_getD (l : List Int) (q : Int → Bool) (hn : l ≠ []) : l.all q = true ↔ ∀ i, i ≤ l.length - 1 → q (l.getD i 0) = true := by
  have h0 := List.length_pos_iff.2 hn
  rw [List.all_eq_true]
  constructor
  · intro h i hi; exact h _ (getD_in 0 (by omega))
  · intro h x hx
    obtain ⟨i, hi, rfl⟩ := List.mem_iff_getElem.1 hx
    have := h i (by omega)
    rwa [show l.getD i 0 = l[i] by simp [List.getD_eq_getElem?_getD, hi]] at this
theorem max_all (l : List Int) (hn : l ≠ []) : decide (maxI l ≤ 0) = l.all fun n => decide (n ≤ 0) := by
  refine bool_iff ?_
  rw [all_getD l _ hn, decide_eq_true_eq]
  simp only [decide_eq_true_eq]
  exact maxK_le l 0 _
theorem min_all (l : List Int) (hn : l ≠ []) : decide (0 ≤ minI l) = l.all fun n => decide (0 ≤ n) := by
  refine bool_iff ?_
  rw [all_getD l _ hn, decide_eq_true_eq]
  simp only [decide_eq_true_eq]
  exact minK_ge l 0 _
theorem s_Max (l : List Int) (hn : l ≠ []) (hl : l.length < 1073741824) : PC 149 [iL l] (DV.int .i64 (maxI l)) := by
  have e0 : ((l.map (DV.int .i64)).length : Int) = l.length := by simp
  have h0 : 0 < l.length := List.length_pos_iff.2 hn
  refine pureCall_ofR dh149 rfl ?_
  conv => whnf
  refine ⟨fun hb => ?_, fun hb => ?_⟩
  · have := of_decide_eq_true hb; rw [e0] at this; omega
  clear hb
  conv => whnf
  rw [getD_enc' _ _ 0 0 (by decide) (by omega)]
  refine ⟨idxB (by decide) (by omega) rfl, ?_⟩
  conv => whnf
  refine dwp_loopU (P := Tryz.prog) (G := GC) (k := dk149_0) (b := db149_0) (α := Nat) (fun i => [(3, DV.int .i64 (maxK l i)), (4, DV.int .i64 ((i + 1 : Nat)))]) (fun _ => []) (fun i => i + 1 ≤ l.length) (fun i => l.length - i) 0 h0 ?_
  conv => whnf
  refine ⟨rfl, rfl, ?_⟩
  conv => whnf
  refine ⟨rfl, ?_⟩
  intro i h1
  conv => whnf
  refine ⟨fun hb => ?_, fun hb => ?_⟩
  · have hi : i + 1 < l.length := by have := of_decide_eq_true hb; rw [e0] at this; omega
    clear hb
    conv => whnf
    rw [getD_enc _ _ (i + 1) 0 hi]
    refine ⟨idxA hi rfl, ?_⟩
    conv => whnf
    repeat' (first
      | (refine ⟨fun hg => ?_, fun hg => ?_⟩ <;> first | contradiction | (conv => whnf))
      | (refine Or.inl ?_; conv => whnf)
      | (refine And.intro ?_ ?_; kernel_rfl; conv => whnf))
    rw [wrap_succ (i + 1) (by omega)]
    exact ⟨i + 1, rfl, rfl, rfl, hi, by omega⟩
  · have hi : i + 1 = l.length := by have := of_decide_eq_false hb; rw [e0] at this; omega
    conv => whnf
    show DV.int .i64 _ = _
    exact int_eq (by unfold maxI; rw [show l.length - 1 = i by omega])
theorem s_Min (l : List Int) (hn : l ≠ []) (hl : l.length < 1073741824) : PC 150 [iL l] (DV.int .i64 (minI l)) := by
  have e0 : ((l.map (DV.int .i64)).length : Int) = l.length := by simp
  have h0 : 0 < l.length := List.length_pos_iff.2 hn
  refine pureCall_ofR dh150 rfl ?_
  conv => whnf
  refine ⟨fun hb => ?_, fun hb => ?_⟩
  · have := of_decide_eq_true hb; rw [e0] at this; omega
  clear hb
  conv => whnf
  rw [getD_enc' _ _ 0 0 (by decide) (by omega)]
  refine ⟨idxB (by decide) (by omega) rfl, ?_⟩
  conv => whnf
  refine dwp_loopU (P := Tryz.prog) (G := GC) (k := dk150_0) (b := db150_0) (α := Nat) (fun i => [(3, DV.int .i64 (minK l i)), (4, DV.int .i64 ((i + 1 : Nat)))]) (fun _ => []) (fun i => i + 1 ≤ l.length) (fun i => l.length - i) 0 h0 ?_
  conv => whnf
  refine ⟨rfl, rfl, ?_⟩
  conv => whnf
  refine ⟨rfl, ?_⟩
  intro i h1
  conv => whnf
  refine ⟨fun hb => ?_, fun hb => ?_⟩
  · have hi : i + 1 < l.length := by have := of_decide_eq_true hb; rw [e0] at this; omega
    clear hb
    conv => whnf
    rw [getD_enc _ _ (i + 1) 0 hi]
    refine ⟨idxA hi rfl, ?_⟩
    conv => whnf
    repeat' (first
      | (refine ⟨fun hg => ?_, fun hg => ?_⟩ <;> first | contradiction | (conv => whnf))
      | (refine Or.inl ?_; conv => whnf)
      | (refine And.intro ?_ ?_; kernel_rfl; conv => whnf))
    rw [wrap_succ (i + 1) (by omega)]
    exact ⟨i + 1, rfl, rfl, rfl, hi, by omega⟩
  · have hi : i + 1 = l.length := by have := of_decide_eq_false hb; rw [e0] at this; omega
    conv => whnf
    show DV.int .i64 _ = _
    exact int_eq (by unfold minI; rw [show l.length - 1 = i by omega])
end Sh


set_option maxRecDepth 100000
set_option linter.unusedSimpArgs false
set_option linter.unusedVariables false
namespace Sh
open Go Go.Proofs
theorem sgn_cases (n : Int) : sgn n = 1 ∨ sgn n = 0 ∨ sgn n = -1 := by unfold sgn; split <;> (try split) <;> simp
def tR (s : List V3) (sun : V3) (p : Pt) (i : Nat) : List DV := rng i fun k => DV.int .i64 (turnV s sun p k)
theorem tR_len (s : List V3) (sun : V3) (p : Pt) (i : Nat) : (tR s sun p i).length = i := rng_len _ _
theorem tR_succ (s : List V3) (sun : V3) (p : Pt) (i : Nat) : tR s sun p (i + 1) = tR s sun p i ++ [DV.int .i64 (turnV s sun p i)] := rng_succ _ _
theorem tR_all (s : List V3) (sun : V3) (p : Pt) : tR s sun p s.length = (turnsL s sun p).map (DV.int .i64) := by unfold tR turnsL; rw [rng_map]
theorem gnd_bd {p : Pt} (hp : (-1000 ≤ p.x ∧ p.x ≤ 1000) ∧ (-1000 ≤ p.y ∧ p.y ≤ 1000)) : bdV 1000 (gndV p) := ⟨hp.1, hp.2, by show (-1000 : Int) ≤ 0; decide, by show (0 : Int) ≤ 1000; decide⟩
theorem c_hides (s : List V3) (sun : V3) (p : Pt) (hs : OkS s) (hu : bdV 1000 sun) (hp : (-1000 ≤ p.x ∧ p.x ≤ 1000) ∧ (-1000 ≤ p.y ∧ p.y ≤ 1000)) : PC 91 [shp s, encV sun, encPt p] (.bool (hidB s sun p)) := by
  have e0 : ((s.map encV).length : Int) = s.length := by simp
  have h3 := hs.1
  have h6 := hs.2.1
  have hg9 := gnd_bd hp
  have b0 := hs.at (i := 0) (by omega)
  have hn := hs.nrm
  have k1 := c_dot _ _ (bd9 hn (by decide)) (bd9 hu (by decide))
  have k2 := c_less _ _ (bd9 b0 (by decide)) (bd9 hg9 (by decide))
  have k3 := c_dot _ _ (bd9 hn (by decide)) (bd9 (subV_bd b0 hg9) (by decide))
  have hX := sgn_cases (dotV (nrmV s) sun)
  have hY := sgn_cases (dotV (nrmV s) (subV (s.getD 0 V0) (gndV p)))
  have hfr : frontB s sun p = (decide (sgn (dotV (nrmV s) sun) ≠ 0) && decide (sgn (dotV (nrmV s) sun) = sgn (dotV (nrmV s) (subV (s.getD 0 V0) (gndV p))))) := rfl
  have hhb : hidB s sun p = (frontB s sun p && ((turnsL s sun p).all (fun n => decide (n ≤ 0)) || (turnsL s sun p).all (fun n => decide (0 ≤ n)))) := rfl
  have k4 := c_sign (dotV (nrmV s) sun)
  have k5 := c_sign (dotV (nrmV s) (subV (s.getD 0 V0) (gndV p)))
  generalize sgn (dotV (nrmV s) sun) = X at *
  generalize sgn (dotV (nrmV s) (subV (s.getD 0 V0) (gndV p))) = Y at *
  refine pureCall_ofR dh91 rfl ?_
  conv => whnf
  repeat' (first
    | (refine ⟨fun hg => ?_, fun hg => ?_⟩ <;> first | contradiction | (conv => whnf))
    | (refine Or.inl ?_; conv => whnf)
    | (refine ⟨_, c_normal _ hs, ?_⟩; conv => whnf)
    | (refine ⟨_, k1, ?_⟩; conv => whnf)
    | (refine ⟨_, k4, ?_⟩; conv => whnf)
    | (rw [getD_enc' _ _ 0 V0 (by decide) (by omega)]; refine ⟨idxB (by decide) (by omega) rfl, ?_⟩; conv => whnf)
    | (refine ⟨_, k2, ?_⟩; conv => whnf)
    | (refine ⟨_, k3, ?_⟩; conv => whnf)
    | (refine ⟨_, k5, ?_⟩; conv => whnf)
    | (refine And.intro ?_ ?_; kernel_rfl; conv => whnf))
  · have hf : frontB s sun p = false := by
      clear k1 k2 k3 k4 k5 hhb
      rw [hfr]
      rcases hX with rfl | rfl | rfl <;> rcases hY with rfl | rfl | rfl <;> simp_all
    show DV.bool false = _
    rw [hhb, hf, Bool.false_and]
  all_goals
    have hf : frontB s sun p = true := by
      clear k1 k2 k3 k4 k5 hhb
      rw [hfr]
      rcases hX with rfl | rfl | rfl <;> rcases hY with rfl | rfl | rfl <;> simp_all
    rw [hf, Bool.true_and] at hhb
    clear hX hY hfr k1 k2 k3 k4 k5
    refine dwp_loopU (P := Tryz.prog) (G := GC) (k := dk91_0) (b := db91_0) (α := Nat) (fun i => [(10, .own 10 0 (tR s sun p i).length (tR s sun p i).length), (43, DV.int .i64 (i))]) (fun i => [(4, .box 3 (encV sun)), (5, .box 2 (encPt p)), (7, .box 3 (encV (gndV p))), (8, .box 3 (encV (nrmV s))), (9, .box 2 (.agg [DV.int .i64 (X), DV.int .i64 (Y)])), (10, .row 1 (tR s sun p i) false)]) (fun i => i ≤ s.length) (fun i => s.length - i) 0 (Nat.zero_le _) ?_
    conv => whnf
    refine ⟨rfl, rfl, ?_⟩
    conv => whnf
    refine ⟨rfl, ?_⟩
    intro i h1
    conv => whnf
    refine ⟨fun hb => ?_, fun hb => ?_⟩
    · have hi : i < s.length := by simpa using hb
      have bi := hs.at hi
      have ba := hs.aft i
      have j1 := c_less _ _ (bd9 bi (by decide)) (bd9 hg9 (by decide))
      have j2 := c_less _ _ (bd9 ba (by decide)) (bd9 hg9 (by decide))
      have j3 := c_cross _ _ (bd9 (subV_bd bi hg9) (by decide)) (bd9 (subV_bd ba hg9) (by decide))
      have j4 := c_dot _ _ (bd9 hu (by decide)) (bd9 (crsV_bd (subV_bd bi hg9) (subV_bd ba hg9)) (by decide))
      have j5 := c_after s (by omega) i (by omega)
      clear hb
      conv => whnf
      rw [getD_enc _ _ (i) V0 hi]
      refine ⟨idxA hi rfl, ?_⟩
      conv => whnf
      repeat' (first
        | (refine ⟨fun hg => ?_, fun hg => ?_⟩ <;> first | contradiction | (conv => whnf))
        | (refine Or.inl ?_; conv => whnf)
        | (refine ⟨_, j1 .., ?_⟩; conv => whnf)
        | (refine ⟨_, j5 .., ?_⟩; conv => whnf)
        | (refine ⟨_, j2 .., ?_⟩; conv => whnf)
        | (refine ⟨_, j3 .., ?_⟩; conv => whnf)
        | (refine ⟨_, j4 .., ?_⟩; conv => whnf)
        | (refine ⟨⟨rfl, rfl, rfl, by rw [tR_len]; simp; omega, fun e he => by simp at he; subst he; rfl⟩, ?_⟩; conv => whnf)
        | (refine And.intro ?_ ?_; kernel_rfl; conv => whnf))
      rw [wrap_succ i (by omega)]
      refine ⟨i + 1, rfl, ?_, ?_, hi, by omega⟩
      · rw [tR_succ s sun p i]; rfl
      · rw [tR_succ s sun p i]; rfl
    · have hi : i = s.length := by have := of_decide_eq_false hb; rw [e0] at this; omega
      have hne : turnsL s sun p ≠ [] := fun e => by
        have h0 := congrArg List.length e
        unfold turnsL at h0
        rw [rng_len, List.length_nil] at h0
        omega
      have hlen : (turnsL s sun p).length < 1073741824 := by unfold turnsL; rw [rng_len]; omega
      have m1 := s_Max _ hne hlen
      have m2 := s_Min _ hne hlen
      have q1 := max_all _ hne
      have q2 := min_all _ hne
      clear hb
      conv => whnf
      refine .inl ?_
      conv => whnf
      refine ⟨rfl, ?_⟩
      rw [window_full, hi, tR_all]
      refine ⟨_, m1, ?_⟩
      conv => whnf
      repeat' (first
        | (refine ⟨fun hg => ?_, fun hg => ?_⟩ <;> first | contradiction | (conv => whnf))
        | (refine Or.inl ?_; conv => whnf)
        | (refine And.intro ?_ ?_; kernel_rfl; conv => whnf))
      · rw [window_full]
        refine ⟨_, m2, ?_⟩
        conv => whnf
        repeat' (first
          | (refine ⟨fun hg => ?_, fun hg => ?_⟩ <;> first | contradiction | (conv => whnf))
          | (refine Or.inl ?_; conv => whnf)
          | (refine And.intro ?_ ?_; kernel_rfl; conv => whnf))
        show DV.bool (decide (0 ≤ minI (turnsL s sun p))) = _
        rw [hhb, ← q1, ← q2, show decide (maxI (turnsL s sun p) ≤ 0) = false from hg, Bool.false_or]
      · show DV.bool true = _
        rw [hhb, ← q1, show decide (maxI (turnsL s sun p) ≤ 0) = true from hg, Bool.true_or]
def abU (s : List V3) (sun : V3) (p : Pt) (i : Nat) : Bool := (rng i (turnV s sun p)).any fun n => decide (0 < n)
def blU (s : List V3) (sun : V3) (p : Pt) (i : Nat) : Bool := (rng i (turnV s sun p)).any fun n => decide (n < 0)
theorem abU_succ (s : List V3) (sun : V3) (p : Pt) (i : Nat) : abU s sun p (i + 1) = (abU s sun p i || decide (0 < turnV s sun p i)) := by unfold abU; rw [rng_succ, List.any_append]; simp
theorem blU_succ (s : List V3) (sun : V3) (p : Pt) (i : Nat) : blU s sun p (i + 1) = (blU s sun p i || decide (turnV s sun p i < 0)) := by unfold blU; rw [rng_succ, List.any_append]; simp
theorem abU_all (s : List V3) (sun : V3) (p : Pt) : (!abU s sun p s.length) = (turnsL s sun p).all fun n => decide (n ≤ 0) := by
  unfold abU turnsL
  rw [List.not_any_eq_all_not]
  congr 1; funext n
  rw [← decide_not]; exact decide_eq_decide.2 (by omega)
theorem blU_all (s : List V3) (sun : V3) (p : Pt) : (!blU s sun p s.length) = (turnsL s sun p).all fun n => decide (0 ≤ n) := by
  unfold blU turnsL
  rw [List.not_any_eq_all_not]
  congr 1; funext n
  rw [← decide_not]; exact decide_eq_decide.2 (by omega)
theorem r_Hides (s : List V3) (sun : V3) (p : Pt) (hs : OkS s) (hu : bdV 1000 sun) (hp : (-1000 ≤ p.x ∧ p.x ≤ 1000) ∧ (-1000 ≤ p.y ∧ p.y ≤ 1000)) : PC 25 [shp s, encV sun, encPt p] (.bool (hidB s sun p)) := by
  have e0 : ((s.map encV).length : Int) = s.length := by simp
  have h3 := hs.1
  have h6 := hs.2.1
  have hg9 := gnd_bd hp
  have b0 := hs.at (i := 0) (by omega)
  have hn := hs.nrm
  have k1 := r_dot _ _ (bd9 hn (by decide)) (bd9 hu (by decide))
  have k2 := r_less _ _ (bd9 b0 (by decide)) (bd9 hg9 (by decide))
  have k3 := r_dot _ _ (bd9 hn (by decide)) (bd9 (subV_bd b0 hg9) (by decide))
  have hX0 : sgn (dotV (nrmV s) sun) ≠ 0 ↔ dotV (nrmV s) sun ≠ 0 := by unfold sgn; split <;> (try split) <;> omega
  have hfr : frontB s sun p = (decide (sgn (dotV (nrmV s) sun) ≠ 0) && decide (sgn (dotV (nrmV s) sun) = sgn (dotV (nrmV s) (subV (s.getD 0 V0) (gndV p))))) := rfl
  have hhb : hidB s sun p = (frontB s sun p && ((turnsL s sun p).all (fun n => decide (n ≤ 0)) || (turnsL s sun p).all (fun n => decide (0 ≤ n)))) := rfl
  have k4 := r_sign (dotV (nrmV s) sun)
  have k5 := r_sign (dotV (nrmV s) (subV (s.getD 0 V0) (gndV p)))
  generalize sgn (dotV (nrmV s) sun) = X at *
  generalize sgn (dotV (nrmV s) (subV (s.getD 0 V0) (gndV p))) = Y at *
  generalize hD : dotV (nrmV s) sun = D at *
  refine pureCall_ofR dh25 rfl ?_
  conv => whnf
  repeat' (first
    | (refine ⟨fun hg => ?_, fun hg => ?_⟩ <;> first | contradiction | (conv => whnf))
    | (refine Or.inl ?_; conv => whnf)
    | (refine ⟨_, r_normal _ hs, ?_⟩; conv => whnf)
    | (refine ⟨_, k1, ?_⟩; conv => whnf)
    | (refine ⟨_, k4, ?_⟩; conv => whnf)
    | (rw [getD_enc' _ _ 0 V0 (by decide) (by omega)]; refine ⟨idxB (by decide) (by omega) rfl, ?_⟩; conv => whnf)
    | (refine ⟨_, k2, ?_⟩; conv => whnf)
    | (refine ⟨_, k3, ?_⟩; conv => whnf)
    | (refine ⟨_, k5, ?_⟩; conv => whnf)
    | (refine And.intro ?_ ?_; kernel_rfl; conv => whnf))
  · show DV.bool false = _
    rw [hhb, hfr]
    have : X ≠ Y := by simpa using hg
    simp [this]
  · have hf : frontB s sun p = true := by
      rw [hfr]
      have e1 : X = Y := by simpa using hg
      have e2 : D ≠ 0 := by simpa using ‹decide (D = 0) = false›
      simp [← e1, hX0.2 e2]
    rw [hf, Bool.true_and, ← abU_all, ← blU_all] at hhb
    clear hfr k1 k2 k3 k4 k5 hX0
    refine dwp_loopU (P := Tryz.prog) (G := GC) (k := dk25_0) (b := db25_0) (α := Nat) (fun i => [(9, .bool (abU s sun p i)), (10, .bool (blU s sun p i)), (11, DV.int .i64 (i))]) (fun _ => [(4, .box 3 (encV sun)), (5, .box 2 (encPt p)), (7, .box 3 (encV (gndV p))), (8, .box 3 (encV (nrmV s)))]) (fun i => i ≤ s.length) (fun i => s.length - i) 0 (Nat.zero_le _) ?_
    conv => whnf
    refine ⟨rfl, rfl, ?_⟩
    conv => whnf
    refine ⟨rfl, ?_⟩
    intro i h1
    conv => whnf
    refine ⟨fun hb => ?_, fun hb => ?_⟩
    · have hi : i < s.length := by simpa using hb
      have bi := hs.at hi
      have ba := hs.aft i
      have hm1 := Nat.mod_lt (i + 1) (show 0 < s.length by omega)
      have hw1 := mod_w1 i s.length (by omega) (by omega)
      have e1 : s.getD ((i + 1) % s.length) V0 = aft s i := rfl
      have j1 := r_less _ _ (bd9 bi (by decide)) (bd9 hg9 (by decide))
      have j2 := r_less _ _ (bd9 ba (by decide)) (bd9 hg9 (by decide))
      have j3 := r_cross _ _ (bd9 (subV_bd bi hg9) (by decide)) (bd9 (subV_bd ba hg9) (by decide))
      have j4 := r_dot _ _ (bd9 hu (by decide)) (bd9 (crsV_bd (subV_bd bi hg9) (subV_bd ba hg9)) (by decide))
      clear hb
      conv => whnf
      rw [getD_enc _ _ (i) V0 hi]
      refine ⟨idxA hi rfl, ?_⟩
      conv => whnf
      repeat' (first
        | (refine ⟨fun hg => ?_, fun hg => ?_⟩ <;> first | contradiction | (conv => whnf))
        | (refine Or.inl ?_; conv => whnf)
        | (refine ⟨_, j1 .., ?_⟩; conv => whnf)
        | (refine And.intro ?_ ?_; kernel_rfl; conv => whnf))
      rw [e0]
      refine ⟨by omega, ?_⟩
      conv => whnf
      rw [hw1]
      rw [getD_enc _ _ ((i + 1) % s.length) V0 hm1]
      refine ⟨idxA hm1 rfl, ?_⟩
      conv => whnf
      rw [e1]
      repeat' (first
        | (refine ⟨fun hg => ?_, fun hg => ?_⟩ <;> first | contradiction | (conv => whnf))
        | (refine Or.inl ?_; conv => whnf)
        | (refine ⟨_, j2 .., ?_⟩; conv => whnf)
        | (refine ⟨_, j3 .., ?_⟩; conv => whnf)
        | (refine ⟨_, j4 .., ?_⟩; conv => whnf)
        | (refine And.intro ?_ ?_; kernel_rfl; conv => whnf))
      all_goals
        rw [wrap_succ i (by omega)]
        refine ⟨i + 1, rfl, ?_, rfl, hi, by omega⟩
        rw [abU_succ, blU_succ]
        first
          | rw [‹abU s sun p i = true›]
          | rw [‹abU s sun p i = false›]
        first
          | rw [‹blU s sun p i = true›]
          | rw [‹blU s sun p i = false›]
        rfl
    · have hi : i = s.length := by have := of_decide_eq_false hb; rw [e0] at this; omega
      clear hb
      conv => whnf
      rw [hi]
      repeat' (first
        | (refine ⟨fun hg => ?_, fun hg => ?_⟩ <;> first | contradiction | (conv => whnf))
        | (refine Or.inl ?_; conv => whnf)
        | (refine And.intro ?_ ?_; kernel_rfl; conv => whnf))
      all_goals
        rw [hhb]
        first
          | rw [‹(!abU s sun p s.length) = true›]
          | rw [‹(!abU s sun p s.length) = false›]
        rfl
  · show DV.bool false = _
    have hd : D = 0 := of_decide_eq_true ‹decide (D = 0) = true›
    have : X = 0 := Classical.byContradiction fun e => hX0.1 e hd
    rw [hhb, hfr]
    simp [this]
end Sh


set_option maxRecDepth 100000
set_option linter.unusedSimpArgs false
set_option linter.unusedVariables false
namespace Sh
open Go Go.Proofs
def hdE (s : List V3) (sun : V3) (p : Pt) : Int := firstE [chkShp s, chkSun sun, chkSpot p]
def hgE (l : List (List V3)) (sun : V3) (p : Pt) : Int := firstE [chkShps l, chkSun sun, chkSpot p]
def hdS (s : List V3) (sun : V3) (p : Pt) : Bool × Int := if hdE s sun p ≠ 0 then (false, hdE s sun p) else (hidB s sun p, 0)
def hgS (l : List (List V3)) (sun : V3) (p : Pt) : List Int × Int := if hgE l sun p ≠ 0 then ([], hgE l sun p) else (hidng l sun p l.length, 0)
theorem hdE_zero {s : List V3} {sun : V3} {p : Pt} (h : hdE s sun p = 0) : OkS s ∧ bdV 1000 sun ∧ ((-1000 ≤ p.x ∧ p.x ≤ 1000) ∧ (-1000 ≤ p.y ∧ p.y ≤ 1000)) := by
  unfold hdE at h
  obtain ⟨h1, h⟩ := firstE_cons h
  obtain ⟨h2, h⟩ := firstE_cons h
  obtain ⟨h3, h⟩ := firstE_cons h
  exact ⟨chkShp_zero h1, (chkSun_zero h2).1, chkSpot_zero h3⟩
theorem hgE_zero {l : List (List V3)} {sun : V3} {p : Pt} (h : hgE l sun p = 0) : (l.length ≤ 8 ∧ ∀ s ∈ l, OkS s) ∧ bdV 1000 sun ∧ ((-1000 ≤ p.x ∧ p.x ≤ 1000) ∧ (-1000 ≤ p.y ∧ p.y ≤ 1000)) := by
  unfold hgE at h
  obtain ⟨h1, h⟩ := firstE_cons h
  obtain ⟨h2, h⟩ := firstE_cons h
  obtain ⟨h3, h⟩ := firstE_cons h
  exact ⟨⟨(chkShps_zero h1).1, fun s hs => chkShp_zero ((chkShps_zero h1).2 s hs)⟩, (chkSun_zero h2).1, chkSpot_zero h3⟩
theorem c_Hides (s : List V3) (sun : V3) (p : Pt) (hl : s.length < 1073741824) : PC 15 [shp s, encV sun, encPt p] (.tuple [.bool (hdS s sun p).1, DV.int .i64 ((hdS s sun p).2)]) := by
  have k1 := c_CheckShape s hl
  have k2 := c_CheckSun sun
  have k3 := c_checkSpot p
  have k4 := c_first [chkShp s, chkSun sun, chkSpot p] (by simp)
  refine pureCall_ofR dh15 rfl ?_
  conv => whnf
  repeat' (first
    | (refine ⟨fun hg => ?_, fun hg => ?_⟩ <;> first | contradiction | (conv => whnf))
    | (refine Or.inl ?_; conv => whnf)
    | (refine ⟨_, k1, ?_⟩; conv => whnf)
    | (refine ⟨_, k2, ?_⟩; conv => whnf)
    | (refine ⟨_, k3, ?_⟩; conv => whnf)
    | (refine ⟨_, k4, ?_⟩; conv => whnf)
    | (refine And.intro ?_ ?_; kernel_rfl; conv => whnf))
  · have hg : hdE s sun p ≠ 0 := of_decide_eq_true hg
    have e : hdS s sun p = (false, hdE s sun p) := if_pos hg
    rw [e]; rfl
  · have hg : ¬ hdE s sun p ≠ 0 := of_decide_eq_false hg
    have e : hdS s sun p = (hidB s sun p, 0) := if_neg hg
    obtain ⟨h1, h2, h3⟩ := hdE_zero (Classical.not_not.1 hg)
    have k5 := c_hides s sun p h1 h2 h3
    repeat' (first
      | (refine ⟨fun hg => ?_, fun hg => ?_⟩ <;> first | contradiction | (conv => whnf))
      | (refine Or.inl ?_; conv => whnf)
      | (refine ⟨_, k5, ?_⟩; conv => whnf)
      | (refine And.intro ?_ ?_; kernel_rfl; conv => whnf))
    rw [e]; rfl
def hdR (l : List (List V3)) (sun : V3) (p : Pt) (i : Nat) : List DV := (hidng l sun p i).map (DV.int .i64)
theorem hdR_len (l : List (List V3)) (sun : V3) (p : Pt) (i : Nat) : (hdR l sun p i).length ≤ i := by unfold hdR; rw [List.length_map]; exact hidng_len l sun p i
theorem hdR_yes {l : List (List V3)} {sun : V3} {p : Pt} {i : Nat} (h : hidB (l.getD i []) sun p = true) : hdR l sun p (i + 1) = hdR l sun p i ++ [DV.int .i64 (i)] := by unfold hdR; rw [hidng_succ, h]; simp
theorem hdR_no {l : List (List V3)} {sun : V3} {p : Pt} {i : Nat} (h : hidB (l.getD i []) sun p = false) : hdR l sun p (i + 1) = hdR l sun p i := by unfold hdR; rw [hidng_succ, h]; simp
theorem c_Hiding (l : List (List V3)) (sun : V3) (p : Pt) (hl : l.length < 1073741824) (hs : ∀ s ∈ l, s.length < 1073741824) : PC 18 [shps l, encV sun, encPt p] (.tuple [iL (hgS l sun p).1, DV.int .i64 ((hgS l sun p).2)]) := by
  have e0 : ((l.map shp).length : Int) = l.length := by simp
  have k1 := c_checkShapes l hl hs
  have k2 := c_CheckSun sun
  have k3 := c_checkSpot p
  have k4 := c_first [chkShps l, chkSun sun, chkSpot p] (by simp)
  refine pureCall_ofR dh18 rfl ?_
  conv => whnf
  repeat' (first
    | (refine ⟨fun hg => ?_, fun hg => ?_⟩ <;> first | contradiction | (conv => whnf))
    | (refine Or.inl ?_; conv => whnf)
    | (refine ⟨_, k1, ?_⟩; conv => whnf)
    | (refine ⟨_, k2, ?_⟩; conv => whnf)
    | (refine ⟨_, k3, ?_⟩; conv => whnf)
    | (refine ⟨_, k4, ?_⟩; conv => whnf)
    | (refine And.intro ?_ ?_; kernel_rfl; conv => whnf))
  · have hg : hgE l sun p ≠ 0 := of_decide_eq_true hg
    have e : hgS l sun p = ([], hgE l sun p) := if_pos hg
    rw [e]; rfl
  · have hg : ¬ hgE l sun p ≠ 0 := of_decide_eq_false hg
    have e : hgS l sun p = (hidng l sun p l.length, 0) := if_neg hg
    obtain ⟨⟨h8, h1⟩, h2, h3⟩ := hgE_zero (Classical.not_not.1 hg)
    refine dwp_loopU (P := Tryz.prog) (G := GC) (k := dk18_0) (b := db18_0) (α := Nat) (fun i => [(9, .own 9 0 (hdR l sun p i).length (hdR l sun p i).length), (25, DV.int .i64 (i))]) (fun i => [(4, .box 3 (encV sun)), (5, .box 2 (encPt p)), (9, .row 1 (hdR l sun p i) false)]) (fun i => i ≤ l.length) (fun i => l.length - i) 0 (Nat.zero_le _) ?_
    conv => whnf
    refine ⟨rfl, rfl, ?_⟩
    conv => whnf
    refine ⟨rfl, ?_⟩
    intro i j1
    conv => whnf
    refine ⟨fun hb => ?_, fun hb => ?_⟩
    · have hi : i < l.length := by simpa using hb
      have k5 := c_hides _ sun p (h1 _ (getD_in [] hi)) h2 h3
      have hln := hdR_len l sun p i
      clear hb
      conv => whnf
      rw [getD_enc _ _ (i) [] hi]
      refine ⟨idxA hi rfl, ?_⟩
      conv => whnf
      repeat' (first
        | (refine ⟨fun hg => ?_, fun hg => ?_⟩ <;> first | contradiction | (conv => whnf))
        | (refine Or.inl ?_; conv => whnf)
        | (refine ⟨_, k5, ?_⟩; conv => whnf)
        | (refine ⟨⟨rfl, rfl, rfl, by simp; omega, fun e he => by simp at he; subst he; rfl⟩, ?_⟩; conv => whnf)
        | (refine And.intro ?_ ?_; kernel_rfl; conv => whnf))
      · rw [wrap_succ i (by omega)]
        refine ⟨i + 1, rfl, ?_, ?_, hi, by omega⟩
        · rw [hdR_yes hg]; rfl
        · rw [hdR_yes hg]; rfl
      · rw [wrap_succ i (by omega)]
        refine ⟨i + 1, rfl, ?_, ?_, hi, by omega⟩
        · rw [hdR_no hg]; rfl
        · rw [hdR_no hg]; rfl
    · have hi : i = l.length := by have := of_decide_eq_false hb; rw [e0] at this; omega
      clear hb
      conv => whnf
      rw [e]
      exact ⟨rfl, by rw [window_full, hi]; rfl⟩
theorem r_Hiding (l : List (List V3)) (sun : V3) (p : Pt) (h8 : l.length ≤ 8) (h1 : ∀ s ∈ l, OkS s) (h2 : bdV 1000 sun) (h3 : (-1000 ≤ p.x ∧ p.x ≤ 1000) ∧ (-1000 ≤ p.y ∧ p.y ≤ 1000)) : PC 26 [shps l, encV sun, encPt p] (iL (hidng l sun p l.length)) := by
  have e0 : ((l.map shp).length : Int) = l.length := by simp
  refine pureCall_ofR dh26 rfl ?_
  conv => whnf
  refine dwp_loopU (P := Tryz.prog) (G := GC) (k := dk26_0) (b := db26_0) (α := Nat) (fun i => [(7, .own 7 0 (hdR l sun p i).length (hdR l sun p i).length), (8, DV.int .i64 (i))]) (fun i => [(4, .box 3 (encV sun)), (5, .box 2 (encPt p)), (7, .row 1 (hdR l sun p i) false)]) (fun i => i ≤ l.length) (fun i => l.length - i) 0 (Nat.zero_le _) ?_
  conv => whnf
  refine ⟨rfl, rfl, ?_⟩
  conv => whnf
  refine ⟨rfl, ?_⟩
  intro i j1
  conv => whnf
  refine ⟨fun hb => ?_, fun hb => ?_⟩
  · have hi : i < l.length := by simpa using hb
    have k5 := r_Hides _ sun p (h1 _ (getD_in [] hi)) h2 h3
    have hln := hdR_len l sun p i
    clear hb
    conv => whnf
    rw [getD_enc _ _ (i) [] hi]
    refine ⟨idxA hi rfl, ?_⟩
    conv => whnf
    repeat' (first
      | (refine ⟨fun hg => ?_, fun hg => ?_⟩ <;> first | contradiction | (conv => whnf))
      | (refine Or.inl ?_; conv => whnf)
      | (refine ⟨_, k5, ?_⟩; conv => whnf)
      | (refine ⟨⟨rfl, rfl, rfl, by simp; omega, fun e he => by simp at he; subst he; rfl⟩, ?_⟩; conv => whnf)
      | (refine And.intro ?_ ?_; kernel_rfl; conv => whnf))
    · rw [wrap_succ i (by omega)]
      refine ⟨i + 1, rfl, ?_, ?_, hi, by omega⟩
      · rw [hdR_yes hg]; rfl
      · rw [hdR_yes hg]; rfl
    · rw [wrap_succ i (by omega)]
      refine ⟨i + 1, rfl, ?_, ?_, hi, by omega⟩
      · rw [hdR_no hg]; rfl
      · rw [hdR_no hg]; rfl
  · have hi : i = l.length := by have := of_decide_eq_false hb; rw [e0] at this; omega
    clear hb
    conv => whnf
    exact ⟨rfl, by rw [window_full, hi]; rfl⟩
end Sh


set_option maxRecDepth 100000
set_option linter.unusedSimpArgs false
set_option linter.unusedVariables false
namespace Sh
open Go Go.Proofs
def encB (c : Bx) : DV := .agg [DV.int .i64 (c.f.x), DV.int .i64 (c.f.y), DV.int .i64 (c.t.x), DV.int .i64 (c.t.y)]
theorem sz_w {c : Bx} (h1 : (-1000 ≤ c.f.x ∧ c.f.x ≤ 1000) ∧ (-1000 ≤ c.f.y ∧ c.f.y ≤ 1000)) (h2 : (-1000 ≤ c.t.x ∧ c.t.x ≤ 1000) ∧ (-1000 ≤ c.t.y ∧ c.t.y ≤ 1000)) : IntKind.i64.wrap (IntKind.i64.wrap (c.t.x - c.f.x) * IntKind.i64.wrap (c.t.y - c.f.y)) = sizeB c := by
  have := mul_bd (a := c.t.x - c.f.x) (b := c.t.y - c.f.y) (A := 2000) (B := 2000) (by omega) (by omega) (by omega) (by omega)
  rw [wrap_in (n := c.t.x - c.f.x) (by omega) (by omega), wrap_in (n := c.t.y - c.f.y) (by omega) (by omega), wrap_in (by omega) (by omega)]
  rfl
theorem c_size (c : Bx) (h1 : (-1000 ≤ c.f.x ∧ c.f.x ≤ 1000) ∧ (-1000 ≤ c.f.y ∧ c.f.y ≤ 1000)) (h2 : (-1000 ≤ c.t.x ∧ c.t.x ≤ 1000) ∧ (-1000 ≤ c.t.y ∧ c.t.y ≤ 1000)) : PC 115 [encB c] (DV.int .i64 (sizeB c)) := by
  refine pureCall_ofR dh115 rfl ?_
  conv => whnf
  exact int_eq (sz_w h1 h2)
theorem spot2 {c : Bx} {x : Int} (h : firstE [chkSpot c.f, chkSpot c.t, x] = 0) : ((-1000 ≤ c.f.x ∧ c.f.x ≤ 1000) ∧ (-1000 ≤ c.f.y ∧ c.f.y ≤ 1000)) ∧ ((-1000 ≤ c.t.x ∧ c.t.x ≤ 1000) ∧ (-1000 ≤ c.t.y ∧ c.t.y ≤ 1000)) := by
  obtain ⟨h1, h⟩ := firstE_cons h
  obtain ⟨h2, h⟩ := firstE_cons h
  exact ⟨chkSpot_zero h1, chkSpot_zero h2⟩
theorem chk_pos {c : Bx} (h : frstB c ≠ 0) : frstB c = chkBx c := by unfold chkBx; rw [if_pos h]
theorem c_CheckCell (c : Bx) : PC 42 [encB c] (DV.int .i64 (chkBx c)) := by
  have k1 := c_checkSpot c.f
  have k2 := c_checkSpot c.t
  have hf : frstB c = firstE [chkSpot c.f, chkSpot c.t, whenE (decide (c.t.x ≤ c.f.x) || decide (c.t.y ≤ c.f.y)) 14] := rfl
  refine pureCall_ofR dh42 rfl ?_
  conv => whnf
  repeat' (first
    | (refine ⟨fun hg => ?_, fun hg => ?_⟩ <;> first | contradiction | (conv => whnf))
    | (refine Or.inl ?_; conv => whnf)
    | (refine ⟨_, k1, ?_⟩; conv => whnf)
    | (refine ⟨_, k2, ?_⟩; conv => whnf)
    | (refine ⟨_, c_when .., ?_⟩; conv => whnf)
    | (refine ⟨_, c_first [_, _, _] (by simp), ?_⟩; conv => whnf)
    | (refine And.intro ?_ ?_; kernel_rfl; conv => whnf))
  all_goals
    first
      | rw [‹decide (c.t.x ≤ c.f.x) = false›, Bool.false_or] at hf
      | rw [show decide (c.t.x ≤ c.f.x) = true from ‹_›, Bool.true_or] at hf
  · have hg := of_decide_eq_true hg
    exact int_eq (hf.symm.trans (chk_pos (fun e => hg (hf.symm.trans e))))
  · have hg := of_decide_eq_false hg
    have hz : frstB c = 0 := hf.trans (Classical.not_not.1 hg)
    obtain ⟨b1, b2⟩ := spot2 (show firstE [chkSpot c.f, chkSpot c.t, spanE c] = 0 from hz)
    repeat' (first
      | (refine ⟨fun hg => ?_, fun hg => ?_⟩ <;> first | contradiction | (conv => whnf))
      | (refine Or.inl ?_; conv => whnf)
      | (refine ⟨_, c_size c b1 b2, ?_⟩; conv => whnf)
      | (refine ⟨_, c_when .., ?_⟩; conv => whnf)
      | (refine And.intro ?_ ?_; kernel_rfl; conv => whnf))
    exact int_eq (by unfold chkBx; rw [if_neg (by omega)])
  · have hg := of_decide_eq_true hg
    exact int_eq (hf.symm.trans (chk_pos (fun e => hg (hf.symm.trans e))))
  · have hg := of_decide_eq_false hg
    have hz : frstB c = 0 := hf.trans (Classical.not_not.1 hg)
    obtain ⟨b1, b2⟩ := spot2 (show firstE [chkSpot c.f, chkSpot c.t, spanE c] = 0 from hz)
    repeat' (first
      | (refine ⟨fun hg => ?_, fun hg => ?_⟩ <;> first | contradiction | (conv => whnf))
      | (refine Or.inl ?_; conv => whnf)
      | (refine ⟨_, c_size c b1 b2, ?_⟩; conv => whnf)
      | (refine ⟨_, c_when .., ?_⟩; conv => whnf)
      | (refine And.intro ?_ ?_; kernel_rfl; conv => whnf))
    exact int_eq (by unfold chkBx; rw [if_neg (by omega)])
end Sh


set_option maxRecDepth 100000
set_option linter.unusedSimpArgs false
set_option linter.unusedVariables false
namespace Sh
open Go Go.Proofs
theorem wrap_off {a : Int} (j : Nat) (h1 : -1000 ≤ a) (h2 : a + j ≤ 1000) : IntKind.i64.wrap (a + (j : Int) + 1) = a + ((j + 1 : Nat) : Int) := by
  rw [wrap_in (by omega) (by omega)]; omega
theorem OkB.hw {c : Bx} (h : OkB c) : (wB c : Int) = c.t.x - c.f.x ∧ (hB c : Int) = c.t.y - c.f.y ∧ wB c ≤ 2000 ∧ hB c ≤ 2000 := by
  have := h.x; have := h.y; have := h.x0; have := h.x1; have := h.y0; have := h.y1
  unfold wB hB
  omega
def shR (s : List V3) (sun : V3) (ps : List Pt) (i : Nat) : List DV := (shdL s sun (ps.take i)).map encPt
theorem shR_len (s : List V3) (sun : V3) (ps : List Pt) (i : Nat) : (shR s sun ps i).length ≤ ps.length := by
  unfold shR shdL
  rw [List.length_map]
  have := List.length_filter_le (fun p => hidB s sun p) (ps.take i)
  have := List.length_take_le' i ps
  omega
theorem shR_yes {s : List V3} {sun : V3} {ps : List Pt} {i : Nat} (hi : i < ps.length) (h : hidB s sun (ps.getD i P0) = true) : shR s sun ps (i + 1) = shR s sun ps i ++ [encPt (ps.getD i P0)] := by
  unfold shR shdL; rw [take_snoc ps i P0 hi, List.filter_append, List.map_append, List.filter_cons, h]; simp
theorem shR_no {s : List V3} {sun : V3} {ps : List Pt} {i : Nat} (hi : i < ps.length) (h : hidB s sun (ps.getD i P0) = false) : shR s sun ps (i + 1) = shR s sun ps i := by
  unfold shR shdL; rw [take_snoc ps i P0 hi, List.filter_append, List.map_append, List.filter_cons, h]; simp
theorem OkB.spN {c : Bx} (h : OkB c) : (spotsL c).length ≤ 4000000 := by
  have := spotsL_len h; have := h.size; omega
end Sh


set_option maxRecDepth 100000
set_option linter.unusedSimpArgs false
set_option linter.unusedVariables false
namespace Sh
open Go Go.Proofs
def ltN (l : List (List V3)) (sun : V3) (ps : List Pt) (i : Nat) : Int := (litL l sun (ps.take i)).length
theorem ltN_bd (l : List (List V3)) (sun : V3) (ps : List Pt) (i : Nat) : 0 ≤ ltN l sun ps i ∧ ltN l sun ps i ≤ ps.length := by
  unfold ltN litL
  have := List.length_filter_le (fun p => !anyHid l sun p) (ps.take i)
  have := List.length_take_le' i ps
  omega
theorem ltN_succ {l : List (List V3)} {sun : V3} {ps : List Pt} {i : Nat} (hi : i < ps.length) : ltN l sun ps (i + 1) = ltN l sun ps i + if anyHid l sun (ps.getD i P0) then 0 else 1 := by
  unfold ltN litL
  rw [take_snoc ps i P0 hi, List.filter_append, List.length_append, List.filter_cons]
  cases anyHid l sun (ps.getD i P0) <;> simp
def ctN (l : List (List V3)) (sun : V3) (ps : List Pt) (i j : Nat) : Int := (cutI l sun i (ps.take j)).length
end Sh


set_option maxRecDepth 100000
set_option linter.unusedSimpArgs false
set_option linter.unusedVariables false
namespace Sh
open Go Go.Proofs
def one1 (ps : List Pt) : List (List DV) := ps.map fun p => [encPt p]
theorem spotsIt (c : Bx) (h : OkB c) : ISeq Tryz.prog GC 152 [.ip (encB c)] (one1 (spotsL c)) := by
  obtain ⟨ew, eh, lw, lh⟩ := h.hw
  have hx0 := h.x0; have hx1 := h.x1; have hy0 := h.y0; have hy1 := h.y1
  have zY : c.f.y + ((0 : Nat) : Int) = c.f.y := Int.add_zero _
  have zX : c.f.x + ((0 : Nat) : Int) = c.f.x := Int.add_zero _
  refine iseq_of dh152 rfl rfl (by kernel_rfl) (fun x hx => by obtain ⟨v, _, rfl⟩ := List.mem_map.1 hx; rfl) (fun gl => ?_)
  conv => whnf
  refine dwp_loopUY (P := Tryz.prog) (G := GC) (k := dk152_1) (b := db152_1) (α := Nat) (fun j => [(3, DV.int .i64 (c.f.y + j))]) (fun j => [(0, .ghost (one1 (restB c j)) true gl)]) (fun j => j ≤ hB c) (fun j => hB c - j) 0 (Nat.zero_le _) ?_
  conv => whnf
  refine ⟨rfl, rfl, ?_⟩
  conv => whnf
  refine ⟨by rw [zY]; rfl, ?_⟩
  intro j j1
  conv => whnf
  refine ⟨fun hb => ?_, fun hb => ?_⟩
  · have hj : j < hB c := by have := of_decide_eq_true hb; omega
    clear hb
    conv => whnf
    refine dwp_loopUY (P := Tryz.prog) (G := GC) (k := dk152_0) (b := db152_0) (α := Nat) (fun i => [(4, DV.int .i64 (c.f.x + i))]) (fun i => [(0, .ghost (one1 (rowB c j i ++ restB c (j + 1))) true gl)]) (fun i => i ≤ wB c) (fun i => wB c - i) 0 (Nat.zero_le _) ?_
    conv => whnf
    refine ⟨rfl, by rw [restB_cons hj]; rfl, ?_⟩
    conv => whnf
    refine ⟨by rw [zX]; rfl, ?_⟩
    intro i i1
    conv => whnf
    refine ⟨fun hb => ?_, fun hb => ?_⟩
    · have hi : i < wB c := by have := of_decide_eq_true hb; omega
      rw [show one1 (rowB c j i ++ restB c (j + 1)) = [encPt (spotB c j i)] :: one1 (rowB c j (i + 1) ++ restB c (j + 1)) by rw [rowB_cons hi]; rfl]
      clear hb
      conv => whnf
      refine ⟨rfl, fun b => ?_⟩
      conv => whnf
      refine ⟨fun hg => ?_, fun hg => ?_⟩
      · have hg : b = false := by simpa using hg
        subst hg
        conv => whnf
        intro e; cases e
      · have hg : b = true := by simpa using hg
        subst hg
        conv => whnf
        rw [wrap_off i (by omega) (by omega)]
        exact ⟨i + 1, rfl, rfl, rfl, hi, by omega⟩
    · have hi : i = wB c := by have := of_decide_eq_false hb; omega
      clear hb
      conv => whnf
      rw [wrap_off j (by omega) (by omega), hi, rowB_nil (Nat.le_refl _)]
      exact ⟨j + 1, rfl, rfl, rfl, hj, by omega⟩
  · have hj : j = hB c := by have := of_decide_eq_false hb; omega
    clear hb
    conv => whnf
    intro _
    rw [hj, restB_nil (Nat.le_refl _)]
    rfl
theorem c_spots (c : Bx) : PC 108 [encB c] (.func 152 [.ip (encB c)]) := by
  refine pureCall_ofR dh108 rfl ?_
  conv => whnf
  rfl
end Sh


set_option maxRecDepth 100000
set_option linter.unusedSimpArgs false
set_option linter.unusedVariables false
namespace Sh
open Go Go.Proofs
theorem one1_get {ps : List Pt} {i : Nat} {z : List DV} (h : (one1 ps)[i]? = some z) : i < ps.length ∧ z = [encPt (ps.getD i P0)] := by
  unfold one1 at h
  rw [List.getElem?_map, Option.map_eq_some_iff] at h
  obtain ⟨p, hp, rfl⟩ := h
  obtain ⟨hi, rfl⟩ := List.getElem?_eq_some_iff.1 hp
  refine ⟨hi, ?_⟩
  rw [List.getD_eq_getElem?_getD, hp]; rfl
theorem one1_len {ps : List Pt} : ∀ z ∈ one1 ps, z.length = 1 := fun z hz => by obtain ⟨v, _, rfl⟩ := List.mem_map.1 hz; rfl
def shE (s : List V3) (sun : V3) (c : Bx) : Int := firstE [chkShp s, chkSun sun, chkBx c]
def shS (s : List V3) (sun : V3) (c : Bx) : List Pt × Int := if shE s sun c ≠ 0 then ([], shE s sun c) else (shdL s sun (spotsL c), 0)
theorem shE_zero {s : List V3} {sun : V3} {c : Bx} (h : shE s sun c = 0) : OkS s ∧ bdV 1000 sun ∧ OkB c := by
  unfold shE at h
  obtain ⟨h1, h⟩ := firstE_cons h
  obtain ⟨h2, h⟩ := firstE_cons h
  obtain ⟨h3, h⟩ := firstE_cons h
  exact ⟨chkShp_zero h1, (chkSun_zero h2).1, (chkBx_zero h3).1⟩
def shH (s : List V3) (sun : V3) (c : Bx) : List DV → Heap
  | [] => [(3, .box 1 (shp s)), (4, .box 3 (encV sun)), (5, .box 4 (encB c)), (9, .box 1 (.full []))]
  | x :: r => [(3, .box 1 (shp s)), (4, .box 3 (encV sun)), (5, .box 4 (encB c)), (9, .box 1 (.own 32 0 (x :: r).length (x :: r).length)), (32, .row 2 (x :: r) false)]
theorem c_Shadow (s : List V3) (sun : V3) (c : Bx) (hl : s.length < 1073741824) : PC 31 [shp s, encV sun, encB c] (.tuple [pts (shS s sun c).1, DV.int .i64 ((shS s sun c).2)]) := by
  have k1 := c_CheckShape s hl
  have k2 := c_CheckSun sun
  have k3 := c_CheckCell c
  have k4 := c_first [chkShp s, chkSun sun, chkBx c] (by simp)
  refine pureCall_ofR dh31 rfl ?_
  conv => whnf
  repeat' (first
    | (refine ⟨fun hg => ?_, fun hg => ?_⟩ <;> first | contradiction | (conv => whnf))
    | (refine Or.inl ?_; conv => whnf)
    | (refine ⟨_, k1, ?_⟩; conv => whnf)
    | (refine ⟨_, k2, ?_⟩; conv => whnf)
    | (refine ⟨_, k3, ?_⟩; conv => whnf)
    | (refine ⟨_, k4, ?_⟩; conv => whnf)
    | (refine And.intro ?_ ?_; kernel_rfl; conv => whnf))
  · have hg : shE s sun c ≠ 0 := of_decide_eq_true hg
    have e : shS s sun c = ([], shE s sun c) := if_pos hg
    rw [e]; rfl
  · have hg : ¬ shE s sun c ≠ 0 := of_decide_eq_false hg
    have e : shS s sun c = (shdL s sun (spotsL c), 0) := if_neg hg
    obtain ⟨h1, h2, h3⟩ := shE_zero (Classical.not_not.1 hg)
    have hn := h3.spN
    have hsp : ∀ p ∈ spotsL c, (-1000 ≤ p.x ∧ p.x ≤ 1000) ∧ (-1000 ≤ p.y ∧ p.y ≤ 1000) := fun p hp => h3.spot hp
    have hit := spotsIt c h3
    have k6 := c_spots c
    repeat' (first
      | (refine ⟨fun hg => ?_, fun hg => ?_⟩ <;> first | contradiction | (conv => whnf))
      | (refine Or.inl ?_; conv => whnf)
      | (refine ⟨_, k6, ?_⟩; conv => whnf)
      | (refine And.intro ?_ ?_; kernel_rfl; conv => whnf))
    rw [e]
    generalize spotsL c = ps at *
    refine range_R (P := Tryz.prog) (G := GC) (x := db31_0x) (y := db31_0) (k := dk31_0) (one1 ps) (fun i => shH s sun c (shR s sun ps i)) [(3, .bptr 3 0), (4, .bptr 4 0), (6, .full []), (7, DV.int .i64 (0)), (9, .bptr 9 0)] hit rfl one1_len rfl rfl rfl rfl ?_ ?_
    · intro i z hz
      obtain ⟨hi, rfl⟩ := one1_get hz
      have k5 := c_hides s sun _ h1 h2 (hsp _ (getD_in P0 hi))
      have hln := shR_len s sun ps i
      have hy := shR_yes (s := s) (sun := sun) hi
      have hno := shR_no (s := s) (sun := sun) hi
      dsimp only
      generalize shR s sun ps i = R at *
      generalize shR s sun ps (i + 1) = R' at *
      cases R with
      | nil =>
        conv => whnf
        repeat' (first
          | (refine ⟨fun hg => ?_, fun hg => ?_⟩ <;> first | contradiction | (conv => whnf))
          | (refine Or.inl ?_; conv => whnf)
          | (refine ⟨_, k5, ?_⟩; conv => whnf)
          | (refine ⟨⟨by simp, fun e he => by simp at he; subst he; rfl, fun e he => by simp at he, .inl rfl⟩, ?_⟩; conv => whnf)
          | (refine And.intro ?_ ?_; kernel_rfl; conv => whnf))
        · rw [hy hg]
          rfl
        · rw [hno hg]
          rfl
      | cons a r =>
        conv => whnf
        repeat' (first
          | (refine ⟨fun hg => ?_, fun hg => ?_⟩ <;> first | contradiction | (conv => whnf))
          | (refine Or.inl ?_; conv => whnf)
          | (refine ⟨_, k5, ?_⟩; conv => whnf)
          | (refine ⟨⟨rfl, rfl, rfl, by simp at hln ⊢; omega, fun e he => by simp at he; subst he; rfl⟩, ?_⟩; conv => whnf)
          | (refine And.intro ?_ ?_; kernel_rfl; conv => whnf))
        · rw [hy hg]
          rfl
        · rw [hno hg]
          rfl
    · rw [show (one1 ps).length = ps.length from List.length_map _]
      have hR : shR s sun ps ps.length = (shdL s sun ps).map encPt := by unfold shR; rw [List.take_length]
      rw [show pts (shdL s sun ps) = .list (shR s sun ps ps.length) by rw [hR]; rfl]
      generalize shR s sun ps ps.length = R
      cases R with
      | nil =>
        conv => whnf
        rfl
      | cons a r =>
        conv => whnf
        refine ⟨rfl, ?_⟩
        rw [window_full]
        rfl
end Sh


set_option maxRecDepth 100000
set_option linter.unusedSimpArgs false
set_option linter.unusedVariables false
namespace Sh
open Go Go.Proofs
def lgE (l : List (List V3)) (sun : V3) (c : Bx) : Int := firstE [chkShps l, chkSun sun, chkBx c]
def lgS (l : List (List V3)) (sun : V3) (c : Bx) : Int × Int := if lgE l sun c ≠ 0 then (0, lgE l sun c) else (lightS l sun c, 0)
theorem lgE_zero {l : List (List V3)} {sun : V3} {c : Bx} (h : lgE l sun c = 0) : (l.length ≤ 8 ∧ ∀ s ∈ l, OkS s) ∧ bdV 1000 sun ∧ OkB c := by
  unfold lgE at h
  obtain ⟨h1, h⟩ := firstE_cons h
  obtain ⟨h2, h⟩ := firstE_cons h
  obtain ⟨h3, h⟩ := firstE_cons h
  exact ⟨⟨(chkShps_zero h1).1, fun s hs => chkShp_zero ((chkShps_zero h1).2 s hs)⟩, (chkSun_zero h2).1, (chkBx_zero h3).1⟩
theorem any_snoc {l : List (List V3)} {sun : V3} {p : Pt} {k : Nat} (hk : k < l.length) (h : anyHid (l.take k) sun p = false) : anyHid (l.take (k + 1)) sun p = hidB (l.getD k []) sun p := by
  unfold anyHid at *
  rw [take_snoc l k [] hk, List.any_append, h]; simp
theorem any_at {l : List (List V3)} {sun : V3} {p : Pt} {k : Nat} (hk : k < l.length) (h : hidB (l.getD k []) sun p = true) : anyHid l sun p = true := by
  unfold anyHid
  rw [List.any_eq_true]
  exact ⟨_, getD_in [] hk, h⟩
theorem c_light (l : List (List V3)) (sun : V3) (c : Bx) (h8 : l.length ≤ 8) (h1 : ∀ s ∈ l, OkS s) (h2 : bdV 1000 sun) (h3 : OkB c) : PC 110 [shps l, encV sun, encB c] (DV.int .i64 (lightS l sun c)) := by
  have e0 : ((l.map shp).length : Int) = l.length := by simp
  have hn := h3.spN
  have hsp : ∀ p ∈ spotsL c, (-1000 ≤ p.x ∧ p.x ≤ 1000) ∧ (-1000 ≤ p.y ∧ p.y ≤ 1000) := fun p hp => h3.spot hp
  have hit := spotsIt c h3
  have k6 := c_spots c
  unfold lightS
  refine pureCall_ofR dh110 rfl ?_
  conv => whnf
  repeat' (first
    | (refine ⟨fun hg => ?_, fun hg => ?_⟩ <;> first | contradiction | (conv => whnf))
    | (refine Or.inl ?_; conv => whnf)
    | (refine ⟨_, k6, ?_⟩; conv => whnf)
    | (refine And.intro ?_ ?_; kernel_rfl; conv => whnf))
  generalize spotsL c = ps at *
  refine range_R (P := Tryz.prog) (G := GC) (x := db110_1x) (y := db110_1) (k := dk110_1) (one1 ps) (fun i => [(3, .box 1 (shps l)), (4, .box 3 (encV sun)), (5, .box 4 (encB c)), (7, .box 1 (DV.int .i64 (ltN l sun ps i)))]) [(3, .bptr 3 0), (4, .bptr 4 0), (6, DV.int .i64 (0)), (7, .bptr 7 0)] hit rfl one1_len rfl rfl rfl rfl ?_ ?_
  · intro i z hz
    obtain ⟨hi, rfl⟩ := one1_get hz
    have hln := ltN_bd l sun ps i
    have hs := ltN_succ (l := l) (sun := sun) hi
    have hpp := hsp _ (getD_in P0 hi)
    dsimp only
    generalize ps.getD i P0 = p at *
    conv => whnf
    refine dwp_loopU (P := Tryz.prog) (G := GC) (k := dk110_0) (b := db110_0) (α := Nat) (fun k => [(16, DV.int .i64 (k))]) (fun k => [(3, .box 1 (shps l)), (4, .box 3 (encV sun)), (5, .box 4 (encB c)), (7, .box 1 (DV.int .i64 (ltN l sun ps i))), (8, .box 2 (encPt p))]) (fun k => k ≤ l.length ∧ anyHid (l.take k) sun p = false) (fun k => l.length - k) 0 ⟨Nat.zero_le _, rfl⟩ ?_
    conv => whnf
    refine ⟨rfl, rfl, ?_⟩
    conv => whnf
    refine ⟨rfl, ?_⟩
    intro k ⟨q1, q2⟩
    conv => whnf
    refine ⟨fun hb => ?_, fun hb => ?_⟩
    · have hk : k < l.length := by simpa using hb
      have k5 := c_hides _ sun p (h1 _ (getD_in [] hk)) h2 hpp
      clear hb
      conv => whnf
      rw [getD_enc _ _ (k) [] hk]
      refine ⟨idxA hk rfl, ?_⟩
      conv => whnf
      repeat' (first
        | (refine ⟨fun hg => ?_, fun hg => ?_⟩ <;> first | contradiction | (conv => whnf))
        | (refine Or.inl ?_; conv => whnf)
        | (refine ⟨_, k5, ?_⟩; conv => whnf)
        | (refine And.intro ?_ ?_; kernel_rfl; conv => whnf))
      · rw [any_at hk hg] at hs
        rw [hs]
        show _ = _
        rw [show (ltN l sun ps i + if true = true then 0 else 1) = ltN l sun ps i from Int.add_zero _]
        rfl
      · rw [wrap_succ k (by omega)]
        exact ⟨k + 1, rfl, rfl, rfl, ⟨hk, by rw [any_snoc hk q2, show hidB (l.getD k []) sun p = false from hg]⟩, by omega⟩
    · have hk : k = l.length := by have := of_decide_eq_false hb; rw [e0] at this; omega
      rw [hk, List.take_length] at q2
      clear hb
      conv => whnf
      rw [q2] at hs
      rw [hs, wrap_in (by omega) (by omega)]
      exact ⟨rfl, rfl⟩
  · rw [show (one1 ps).length = ps.length from List.length_map _]
    conv => whnf
    exact int_eq (by unfold ltN; rw [List.take_length])
theorem c_Light (l : List (List V3)) (sun : V3) (c : Bx) (hl : l.length < 1073741824) (hs : ∀ s ∈ l, s.length < 1073741824) : PC 33 [shps l, encV sun, encB c] (.tuple [DV.int .i64 ((lgS l sun c).1), DV.int .i64 ((lgS l sun c).2)]) := by
  have k1 := c_checkShapes l hl hs
  have k2 := c_CheckSun sun
  have k3 := c_CheckCell c
  have k4 := c_first [chkShps l, chkSun sun, chkBx c] (by simp)
  refine pureCall_ofR dh33 rfl ?_
  conv => whnf
  repeat' (first
    | (refine ⟨fun hg => ?_, fun hg => ?_⟩ <;> first | contradiction | (conv => whnf))
    | (refine Or.inl ?_; conv => whnf)
    | (refine ⟨_, k1, ?_⟩; conv => whnf)
    | (refine ⟨_, k2, ?_⟩; conv => whnf)
    | (refine ⟨_, k3, ?_⟩; conv => whnf)
    | (refine ⟨_, k4, ?_⟩; conv => whnf)
    | (refine And.intro ?_ ?_; kernel_rfl; conv => whnf))
  · have hg : lgE l sun c ≠ 0 := of_decide_eq_true hg
    have e : lgS l sun c = (0, lgE l sun c) := if_pos hg
    rw [e]; rfl
  · have hg : ¬ lgE l sun c ≠ 0 := of_decide_eq_false hg
    have e : lgS l sun c = (lightS l sun c, 0) := if_neg hg
    obtain ⟨⟨h8, h1⟩, h2, h3⟩ := lgE_zero (Classical.not_not.1 hg)
    have k5 := c_light l sun c h8 h1 h2 h3
    repeat' (first
      | (refine ⟨fun hg => ?_, fun hg => ?_⟩ <;> first | contradiction | (conv => whnf))
      | (refine Or.inl ?_; conv => whnf)
      | (refine ⟨_, k5, ?_⟩; conv => whnf)
      | (refine And.intro ?_ ?_; kernel_rfl; conv => whnf))
    rw [e]; rfl
end Sh


set_option maxRecDepth 100000
set_option linter.unusedSimpArgs false
set_option linter.unusedVariables false
namespace Sh
open Go Go.Proofs
def OkP (p : Pt) : Prop := (-1000 ≤ p.x ∧ p.x ≤ 1000) ∧ (-1000 ≤ p.y ∧ p.y ≤ 1000)
theorem chkTilt_ok {p : Pt} (h : chkTilt p = 0) : OkP p := by
  unfold chkTilt at h
  obtain ⟨h1, h⟩ := firstE_cons h
  obtain ⟨h2, h⟩ := firstE_cons h
  have := withE_zero h1; have := withE_zero h2
  exact ⟨by omega, by omega⟩
theorem chkPitch_ok {p : Pt} (h : chkPitch p = 0) : OkP p := by
  unfold chkPitch at h
  obtain ⟨h1, h⟩ := firstE_cons h
  obtain ⟨h2, h⟩ := firstE_cons h
  have := withE_zero h1; have := withE_zero h2
  exact ⟨by omega, by omega⟩
theorem acr_w {p : Pt} {sun : V3} (hp : OkP p) (hs : bdV 1000 sun) : IntKind.i64.wrap (IntKind.i64.wrap (p.x * sun.z) - IntKind.i64.wrap (p.y * sun.y)) = acr p sun := by
  have h1 := mul_bd hp.1.1 hp.1.2 hs.2.2.1 hs.2.2.2
  have h2 := mul_bd hp.2.1 hp.2.2 hs.2.1.1 hs.2.1.2
  rw [wrap_in (n := p.x * sun.z) (by omega) (by omega), wrap_in (n := p.y * sun.y) (by omega) (by omega), wrap_in (by omega) (by omega)]
  rfl
theorem c_across (p : Pt) (sun : V3) (hp : OkP p) (hs : bdV 1000 sun) : PC 123 [encPt p, encV sun] (DV.int .i64 (acr p sun)) := by
  refine pureCall_ofR dh123 rfl ?_
  conv => whnf
  exact int_eq (acr_w hp hs)
theorem abs_w {n : Int} (h : -2000000 ≤ n ∧ n ≤ 2000000) : (if IntKind.i64.wrap (-n) > n then IntKind.i64.wrap (-n) else n) = absI n := by
  rw [wrap_in (by omega) (by omega)]; rfl
theorem c_room (p : Pt) (sun : V3) (hp : OkP p) (hs : bdV 1000 sun) : PC 125 [encPt p, encV sun] (DV.int .i64 (roomI p sun)) := by
  have k1 := c_across p sun hp hs
  have hb := acr_bd hp.1 hp.2 hs
  refine pureCall_ofR dh125 rfl ?_
  conv => whnf
  repeat' (first
    | (refine ⟨fun hg => ?_, fun hg => ?_⟩ <;> first | contradiction | (conv => whnf))
    | (refine Or.inl ?_; conv => whnf)
    | (refine ⟨_, k1, ?_⟩; conv => whnf)
    | (refine And.intro ?_ ?_; kernel_rfl; conv => whnf))
  exact int_eq (abs_w hb)
theorem wid_w {n : Int} (h : -2000000 ≤ n ∧ n ≤ 2000000) : IntKind.i64.wrap (2 * absI n) = 2 * absI n := by
  have := absI_eq n
  exact wrap_in (by omega) (by omega)
def encCh (p : Pt) (k g : Int) : DV := .agg [DV.int .i64 (p.x), DV.int .i64 (p.y), DV.int .i64 (g), DV.int .i64 (k)]
theorem c_chosen (p : Pt) (k : Int) (sun : V3) (hp : OkP p) (hs : bdV 1000 sun) : PC 126 [encPt p, DV.int .i64 (k), encV sun] (encCh p k (acr p sun)) := by
  have hw := acr_w hp hs
  refine pureCall_ofR dh126 rfl ?_
  conv => whnf
  repeat' (first
    | (refine ⟨fun hg => ?_, fun hg => ?_⟩ <;> first | contradiction | (conv => whnf))
    | (refine Or.inl ?_; conv => whnf)
    | (refine And.intro ?_ ?_; kernel_rfl; conv => whnf))
  rw [hw]
  rfl
theorem c_width (p : Pt) (k g : Int) (h : -2000000 ≤ g ∧ g ≤ 2000000) : PC 127 [encCh p k g] (DV.int .i64 (2 * absI g)) := by
  refine pureCall_ofR dh127 rfl ?_
  conv => whnf
  exact int_eq ((congrArg (fun n => IntKind.i64.wrap (2 * n)) (abs_w h)).trans (wid_w h))
def gnS (p : Pt) (sun : V3) : Int × Int := if firstE [chkTilt p, chkSun sun] ≠ 0 then (0, firstE [chkTilt p, chkSun sun]) else (acr p sun, 0)
def rmS (p : Pt) (sun : V3) : Int × Int := if firstE [chkPitch p, chkSun sun] ≠ 0 then (0, firstE [chkPitch p, chkSun sun]) else (roomI p sun, 0)
theorem c_Gain (p : Pt) (sun : V3) : PC 55 [encPt p, encV sun] (.tuple [DV.int .i64 ((gnS p sun).1), DV.int .i64 ((gnS p sun).2)]) := by
  have k1 := c_checkTilt p
  have k2 := c_CheckSun sun
  have k3 := c_first [chkTilt p, chkSun sun] (by simp)
  refine pureCall_ofR dh55 rfl ?_
  conv => whnf
  repeat' (first
    | (refine ⟨fun hg => ?_, fun hg => ?_⟩ <;> first | contradiction | (conv => whnf))
    | (refine Or.inl ?_; conv => whnf)
    | (refine ⟨_, k1, ?_⟩; conv => whnf)
    | (refine ⟨_, k2, ?_⟩; conv => whnf)
    | (refine ⟨_, k3, ?_⟩; conv => whnf)
    | (refine And.intro ?_ ?_; kernel_rfl; conv => whnf))
  · have e : gnS p sun = (0, firstE [chkTilt p, chkSun sun]) := if_pos (of_decide_eq_true hg)
    rw [e]; rfl
  · have hg := of_decide_eq_false hg
    have e : gnS p sun = (acr p sun, 0) := if_neg hg
    obtain ⟨z1, h⟩ := firstE_cons (Classical.not_not.1 hg)
    obtain ⟨z2, h⟩ := firstE_cons h
    have k4 := c_across p sun (chkTilt_ok z1) (chkSun_zero z2).1
    repeat' (first
      | (refine ⟨fun hg => ?_, fun hg => ?_⟩ <;> first | contradiction | (conv => whnf))
      | (refine Or.inl ?_; conv => whnf)
      | (refine ⟨_, k4, ?_⟩; conv => whnf)
      | (refine And.intro ?_ ?_; kernel_rfl; conv => whnf))
    rw [e]; rfl
theorem c_Room (p : Pt) (sun : V3) : PC 56 [encPt p, encV sun] (.tuple [DV.int .i64 ((rmS p sun).1), DV.int .i64 ((rmS p sun).2)]) := by
  have k1 := c_checkPitch p
  have k2 := c_CheckSun sun
  have k3 := c_first [chkPitch p, chkSun sun] (by simp)
  refine pureCall_ofR dh56 rfl ?_
  conv => whnf
  repeat' (first
    | (refine ⟨fun hg => ?_, fun hg => ?_⟩ <;> first | contradiction | (conv => whnf))
    | (refine Or.inl ?_; conv => whnf)
    | (refine ⟨_, k1, ?_⟩; conv => whnf)
    | (refine ⟨_, k2, ?_⟩; conv => whnf)
    | (refine ⟨_, k3, ?_⟩; conv => whnf)
    | (refine And.intro ?_ ?_; kernel_rfl; conv => whnf))
  · have e : rmS p sun = (0, firstE [chkPitch p, chkSun sun]) := if_pos (of_decide_eq_true hg)
    rw [e]; rfl
  · have hg := of_decide_eq_false hg
    have e : rmS p sun = (roomI p sun, 0) := if_neg hg
    obtain ⟨z1, h⟩ := firstE_cons (Classical.not_not.1 hg)
    obtain ⟨z2, h⟩ := firstE_cons h
    have k4 := c_room p sun (chkPitch_ok z1) (chkSun_zero z2).1
    repeat' (first
      | (refine ⟨fun hg => ?_, fun hg => ?_⟩ <;> first | contradiction | (conv => whnf))
      | (refine Or.inl ?_; conv => whnf)
      | (refine ⟨_, k4, ?_⟩; conv => whnf)
      | (refine And.intro ?_ ?_; kernel_rfl; conv => whnf))
    rw [e]; rfl
def frE (t p : Pt) (sun : V3) : Int := firstE [chkTilt t, chkPitch p, chkSun sun]
def frS (t p : Pt) (sun : V3) : Bool × Int := if frE t p sun ≠ 0 then (false, frE t p sun) else (freeB t p sun, 0)
theorem frE_zero {t p : Pt} {sun : V3} (h : frE t p sun = 0) : OkP t ∧ OkP p ∧ bdV 1000 sun ∧ 1 ≤ sun.z := by
  unfold frE at h
  obtain ⟨z1, h⟩ := firstE_cons h
  obtain ⟨z2, h⟩ := firstE_cons h
  obtain ⟨z3, h⟩ := firstE_cons h
  exact ⟨chkTilt_ok z1, chkPitch_ok z2, chkSun_zero z3⟩
theorem c_Free (t p : Pt) (sun : V3) : PC 57 [encPt t, encPt p, encV sun] (.tuple [.bool (frS t p sun).1, DV.int .i64 ((frS t p sun).2)]) := by
  have k1 := c_checkTilt t
  have k2 := c_checkPitch p
  have k3 := c_CheckSun sun
  have k4 := c_first [chkTilt t, chkPitch p, chkSun sun] (by simp)
  refine pureCall_ofR dh57 rfl ?_
  conv => whnf
  repeat' (first
    | (refine ⟨fun hg => ?_, fun hg => ?_⟩ <;> first | contradiction | (conv => whnf))
    | (refine Or.inl ?_; conv => whnf)
    | (refine ⟨_, k1, ?_⟩; conv => whnf)
    | (refine ⟨_, k2, ?_⟩; conv => whnf)
    | (refine ⟨_, k3, ?_⟩; conv => whnf)
    | (refine ⟨_, k4, ?_⟩; conv => whnf)
    | (refine And.intro ?_ ?_; kernel_rfl; conv => whnf))
  · have e : frS t p sun = (false, frE t p sun) := if_pos (of_decide_eq_true hg)
    rw [e]; rfl
  · have hg := of_decide_eq_false hg
    have e : frS t p sun = (freeB t p sun, 0) := if_neg hg
    obtain ⟨h1, h2, h3, h4⟩ := frE_zero (show frE t p sun = 0 from Classical.not_not.1 hg)
    have k5 := c_chosen t 0 sun h1 h3
    have k6 := c_width t 0 _ (acr_bd h1.1 h1.2 h3)
    have k7 := c_room p sun h2 h3
    repeat' (first
      | (refine ⟨fun hg => ?_, fun hg => ?_⟩ <;> first | contradiction | (conv => whnf))
      | (refine Or.inl ?_; conv => whnf)
      | (refine ⟨_, k5, ?_⟩; conv => whnf)
      | (refine ⟨_, k6, ?_⟩; conv => whnf)
      | (refine ⟨_, k7, ?_⟩; conv => whnf)
      | (refine And.intro ?_ ?_; kernel_rfl; conv => whnf))
    rw [e]; rfl
end Sh


set_option maxRecDepth 100000
set_option linter.unusedSimpArgs false
set_option linter.unusedVariables false
namespace Sh
open Go Go.Proofs
abbrev GB : Int := 1000000000000000000
theorem absG {n : Int} (h : -GB ≤ n ∧ n ≤ GB) : minmaxI true n (IntKind.i64.wrap (-n)) = (n.natAbs : Int) := by
  unfold GB at h
  show (if IntKind.i64.wrap (-n) > n then IntKind.i64.wrap (-n) else n) = _
  rw [wrap_in (by omega) (by omega)]; split <;> omega
theorem div_wI {n g : Int} (hn : -GB ≤ n ∧ n ≤ GB) : IntKind.i64.wrap (n.tdiv g) = n.tdiv g := by
  have h : (n.tdiv g).natAbs ≤ n.natAbs := by rw [Int.natAbs_tdiv]; exact Nat.div_le_self _ _
  unfold GB at hn
  exact wrap_in (by omega) (by omega)
theorem div_w {n : Int} {a : Nat} (hn : -GB ≤ n ∧ n ≤ GB) : IntKind.i64.wrap (n.tdiv ((a, 0) : Nat × Nat).1) = n.tdiv a := div_wI hn
theorem c_lowest (n d : Int) (hn : -GB ≤ n ∧ n ≤ GB) (hd : 0 < d ∧ d ≤ GB) : PC 114 [DV.int .i64 (n), DV.int .i64 (d)] (encR (lowR n d)) := by
  have w1 := absG hn
  refine pureCall_ofR dh114 rfl ?_
  conv => whnf
  rw [w1]
  refine dwp_loopU (P := Tryz.prog) (G := GC) (k := dk114_0) (b := db114_0) (α := Nat × Nat) (fun a => [(5, DV.int .i64 (a.1)), (6, DV.int .i64 (a.2))]) (fun _ => [(4, .box 2 (.agg [DV.int .i64 (0), DV.int .i64 (0)]))]) (fun a => Nat.gcd a.1 a.2 = Int.gcd n d) (fun a => a.2) (n.natAbs, d.toNat) (by show Nat.gcd n.natAbs d.toNat = Nat.gcd n.natAbs d.natAbs; congr 1; omega) ?_
  conv => whnf
  refine ⟨rfl, rfl, ?_⟩
  conv => whnf
  refine ⟨by rw [show ((n.natAbs, d.toNat).2 : Int) = d by show ((d.toNat : Nat) : Int) = d; omega]; rfl, ?_⟩
  intro ⟨a, b⟩ h
  conv => whnf
  refine ⟨fun hb => ?_, fun hb => ?_⟩
  · have hb0 : b ≠ 0 := by have := of_decide_eq_true hb; dsimp only at this; omega
    clear hb
    conv => whnf
    refine ⟨by show (b : Int) ≠ 0; omega, ?_⟩
    conv => whnf
    refine ⟨by kernel_rfl, ?_⟩
    conv => whnf
    have hm : ((a : Int)).tmod (b : Int) = ((a % b : Nat) : Int) := rfl
    exact ⟨(b, a % b), rfl, rfl, rfl, (gcd_step hb0).trans h, Nat.mod_lt _ (by omega)⟩
  · have hb0 : b = 0 := by have := of_decide_eq_false hb; dsimp only at this; omega
    clear hb
    conv => whnf
    subst hb0
    have hg : gcdI n d = (a : Int) := by unfold gcdI; rw [← h]; simp
    have hp := gcdI_pos (n := n) hd.1
    refine ⟨by show (a : Int) ≠ 0; omega, ?_⟩
    conv => whnf
    refine ⟨by show (a : Int) ≠ 0; omega, ?_⟩
    conv => whnf
    rw [div_w (a := a) hn, div_w (a := a) ⟨by omega, hd.2⟩]
    repeat' (first
      | (refine ⟨fun hg => ?_, fun hg => ?_⟩ <;> first | contradiction | (conv => whnf))
      | (refine Or.inl ?_; conv => whnf)
      | (refine And.intro ?_ ?_; kernel_rfl; conv => whnf))
    unfold lowR; rw [hg]; rfl
def sdS (t p : Pt) (sun : V3) : (Int × Int) × Int := if frE t p sun ≠ 0 then ((0, 0), frE t p sun) else (shdR t p sun, 0)
theorem wid_bd {t p : Pt} {sun : V3} (h1 : OkP t) (h2 : OkP p) (h3 : bdV 1000 sun) : 0 ≤ widI t sun ∧ widI t sun ≤ 4000000 ∧ 0 ≤ roomI p sun ∧ roomI p sun ≤ 2000000 := by
  have a := acr_bd h1.1 h1.2 h3
  have b := acr_bd h2.1 h2.2 h3
  unfold widI roomI
  rw [absI_eq, absI_eq]; omega
theorem c_Shaded (t p : Pt) (sun : V3) : PC 58 [encPt t, encPt p, encV sun] (.tuple [encR (sdS t p sun).1, DV.int .i64 ((sdS t p sun).2)]) := by
  have k1 := c_checkTilt t
  have k2 := c_checkPitch p
  have k3 := c_CheckSun sun
  have k4 := c_first [chkTilt t, chkPitch p, chkSun sun] (by simp)
  refine pureCall_ofR dh58 rfl ?_
  conv => whnf
  repeat' (first
    | (refine ⟨fun hg => ?_, fun hg => ?_⟩ <;> first | contradiction | (conv => whnf))
    | (refine Or.inl ?_; conv => whnf)
    | (refine ⟨_, k1, ?_⟩; conv => whnf)
    | (refine ⟨_, k2, ?_⟩; conv => whnf)
    | (refine ⟨_, k3, ?_⟩; conv => whnf)
    | (refine ⟨_, k4, ?_⟩; conv => whnf)
    | (refine And.intro ?_ ?_; kernel_rfl; conv => whnf))
  · have e : sdS t p sun = ((0, 0), frE t p sun) := if_pos (of_decide_eq_true hg)
    rw [e]; rfl
  · have hg := of_decide_eq_false hg
    have e : sdS t p sun = (shdR t p sun, 0) := if_neg hg
    obtain ⟨h1, h2, h3, h4⟩ := frE_zero (show frE t p sun = 0 from Classical.not_not.1 hg)
    have k5 := c_chosen t 0 sun h1 h3
    have k6 := c_width t 0 _ (acr_bd h1.1 h1.2 h3)
    have k7 := c_room p sun h2 h3
    have hb := wid_bd h1 h2 h3
    have hf : shdR t p sun = if freeB t p sun then (0, 1) else lowR (widI t sun - roomI p sun) (widI t sun) := rfl
    clear hg
    repeat' (first
      | (refine ⟨fun hg => ?_, fun hg => ?_⟩ <;> first | contradiction | (conv => whnf))
      | (refine Or.inl ?_; conv => whnf)
      | (refine ⟨_, k5, ?_⟩; conv => whnf)
      | (refine ⟨_, k6, ?_⟩; conv => whnf)
      | (refine ⟨_, k7, ?_⟩; conv => whnf)
      | (refine And.intro ?_ ?_; kernel_rfl; conv => whnf))
    · have hg : freeB t p sun = true := hg
      rw [hg] at hf
      rw [e, hf]; rfl
    · have hg : freeB t p sun = false := hg
      have hlt : ¬ widI t sun ≤ roomI p sun := of_decide_eq_false hg
      rw [hg] at hf
      have hw : IntKind.i64.wrap (2 * absI (acr t sun) - roomI p sun) = widI t sun - roomI p sun := wrap_in (by show -9223372036854775808 ≤ widI t sun - roomI p sun; omega) (by show widI t sun - roomI p sun ≤ 9223372036854775807; omega)
      have k8 := c_lowest (widI t sun - roomI p sun) (widI t sun) (by unfold GB; omega) (by unfold GB; omega)
      rw [hw]
      repeat' (first
        | (refine ⟨fun hg => ?_, fun hg => ?_⟩ <;> first | contradiction | (conv => whnf))
        | (refine Or.inl ?_; conv => whnf)
        | (refine ⟨_, k8, ?_⟩; conv => whnf)
        | (refine And.intro ?_ ?_; kernel_rfl; conv => whnf))
      rw [e, hf]; rfl
end Sh


set_option maxRecDepth 100000
namespace Sh
open Go
def dc214 : DFunc := ⟨5, 1, [(.tmp 2)], (.seq (.ops false [⟨(some 1), (.box 3 (.tmp 0)), none, []⟩, ⟨(some 2), (.mov (.const (.int .i64 0))), none, []⟩]) (.seq (.ops false [⟨(some 3), (.faddr 0 1 false (.tmp 1)), none, []⟩, ⟨(some 4), (.load none (.tmp 3)), none, []⟩, ⟨(some 2), (.mov (.tmp 4)), none, []⟩]) .ret))⟩
theorem dh214 : cProg Go.Proofs.Tryz.prog ⟨[], [], []⟩ 214 = some dc214 := by kernel_rfl
def dc215 : DFunc := ⟨5, 1, [(.tmp 2)], (.seq (.ops false [⟨(some 1), (.box 3 (.tmp 0)), none, []⟩, ⟨(some 2), (.mov (.const (.int .i64 0))), none, []⟩]) (.seq (.ops false [⟨(some 3), (.faddr 1 1 false (.tmp 1)), none, []⟩, ⟨(some 4), (.load none (.tmp 3)), none, []⟩, ⟨(some 2), (.mov (.tmp 4)), none, []⟩]) .ret))⟩
theorem dh215 : cProg Go.Proofs.Tryz.prog ⟨[], [], []⟩ 215 = some dc215 := by kernel_rfl
end Sh


set_option maxRecDepth 100000
set_option linter.unusedSimpArgs false
set_option linter.unusedVariables false
namespace Sh
open Go Go.Proofs
theorem c_axX (v : V3) : PC 214 [encV v] (DV.int .i64 (v.x)) := by
  refine pureCall_ofR dh214 rfl ?_
  conv => whnf
  rfl
theorem c_axY (v : V3) : PC 215 [encV v] (DV.int .i64 (v.y)) := by
  refine pureCall_ofR dh215 rfl ?_
  conv => whnf
  rfl
theorem cast_w {a b c d : Int} (h1 : -1000 ≤ a ∧ a ≤ 1000) (h2 : -1000 ≤ b ∧ b ≤ 1000) (h3 : -1000 ≤ c ∧ c ≤ 1000) (h4 : -1000 ≤ d ∧ d ≤ 1000) : IntKind.i64.wrap (IntKind.i64.wrap (a * b) - IntKind.i64.wrap (c * d)) = a * b - c * d := by
  have p1 := mul_bd h1.1 h1.2 h2.1 h2.2
  have p2 := mul_bd h3.1 h3.2 h4.1 h4.2
  rw [wrap_in (n := a * b) (by omega) (by omega), wrap_in (n := c * d) (by omega) (by omega), wrap_in (by omega) (by omega)]
theorem c_castX (v sun : V3) (hv : bdV 1000 v) (hs : bdV 1000 sun) : PC 119 [.agg [.func 214 []], encV v, encV sun] (DV.int .i64 (castX v sun)) := by
  have k1 := c_axX v
  have k2 := c_axX sun
  refine pureCall_ofR dh119 rfl ?_
  conv => whnf
  repeat' (first
    | (refine ⟨fun hg => ?_, fun hg => ?_⟩ <;> first | contradiction | (conv => whnf))
    | (refine Or.inl ?_; conv => whnf)
    | (refine ⟨_, k1, ?_⟩; conv => whnf)
    | (refine ⟨_, k2, ?_⟩; conv => whnf)
    | (refine And.intro ?_ ?_; kernel_rfl; conv => whnf))
  exact int_eq (cast_w hv.1 hs.2.2 hv.2.2 hs.1)
theorem c_castY (v sun : V3) (hv : bdV 1000 v) (hs : bdV 1000 sun) : PC 119 [.agg [.func 215 []], encV v, encV sun] (DV.int .i64 (castY v sun)) := by
  have k1 := c_axY v
  have k2 := c_axY sun
  refine pureCall_ofR dh119 rfl ?_
  conv => whnf
  repeat' (first
    | (refine ⟨fun hg => ?_, fun hg => ?_⟩ <;> first | contradiction | (conv => whnf))
    | (refine Or.inl ?_; conv => whnf)
    | (refine ⟨_, k1, ?_⟩; conv => whnf)
    | (refine ⟨_, k2, ?_⟩; conv => whnf)
    | (refine And.intro ?_ ?_; kernel_rfl; conv => whnf))
  exact int_eq (cast_w hv.2.1 hs.2.2 hv.2.2 hs.2.1)
def encCn (q : (Int × Int) × (Int × Int)) : DV := .agg [DV.int .i64 (q.1.1), DV.int .i64 (q.1.2), DV.int .i64 (q.2.1), DV.int .i64 (q.2.2)]
theorem c_Outline1 (v sun : V3) (hv : bdV 1000 v) (hs : bdV 1000 sun) (hz : 1 ≤ sun.z) : PC 118 [encV v, .ip (encV sun)] (encCn (cornR v sun)) := by
  have k1 := c_castX v sun hv hs
  have k2 := c_castY v sun hv hs
  have b1 := castX_bd hv hs
  have b2 := castY_bd hv hs
  have hz2 := hs.2.2.2
  have k3 := c_lowest (castX v sun) sun.z (by unfold GB; omega) (by unfold GB; omega)
  have k4 := c_lowest (castY v sun) sun.z (by unfold GB; omega) (by unfold GB; omega)
  refine pureCall_ofR dh118 rfl ?_
  conv => whnf
  repeat' (first
    | (refine ⟨fun hg => ?_, fun hg => ?_⟩ <;> first | contradiction | (conv => whnf))
    | (refine Or.inl ?_; conv => whnf)
    | (refine ⟨_, k1, ?_⟩; conv => whnf)
    | (refine ⟨_, k2, ?_⟩; conv => whnf)
    | (refine ⟨_, k3, ?_⟩; conv => whnf)
    | (refine ⟨_, k4, ?_⟩; conv => whnf)
    | (refine ⟨⟨by decide, by decide, rfl, rfl⟩, ?_⟩; conv => whnf)
    | (refine And.intro ?_ ?_; kernel_rfl; conv => whnf))
  rfl
def oC (f : V3 → (Int × Int) × (Int × Int)) (l : List V3) (i : Nat) : List DV := (l.take i).map fun v => encCn (f v)
theorem oC_len (f : V3 → (Int × Int) × (Int × Int)) (l : List V3) (i : Nat) (h : i ≤ l.length) : (oC f l i).length = i := by simp [oC]; omega
theorem oC_succ (f : V3 → (Int × Int) × (Int × Int)) (l : List V3) (i : Nat) (h : i < l.length) : oC f l (i + 1) = oC f l i ++ [encCn (f (l.getD i V0))] := take_map_succ _ l i V0 h
theorem c_mapC (l : List V3) (f : FuncId) (sun : V3) (g : V3 → (Int × Int) × (Int × Int)) (hl : l.length < 1073741824) (hf : ∀ v ∈ l, PC f [encV v, .ip (encV sun)] (encCn (g v))) : PC 117 [.list (l.map encV), .func f [.ip (encV sun)]] (.list (l.map fun v => encCn (g v))) := by
  have e0 : ((l.map encV).length : Int) = l.length := by simp
  refine pureCall_ofR dh117 rfl ?_
  conv => whnf
  refine dwp_loopU (P := Tryz.prog) (G := GC) (k := dk117_0) (b := db117_0) (α := Nat) (fun i => [(5, .own 5 0 (oC g l i).length (oC g l i).length), (10, DV.int .i64 (i))]) (fun i => [(5, .row 4 (oC g l i) false)]) (fun i => i ≤ l.length) (fun i => l.length - i) 0 (Nat.zero_le _) ?_
  conv => whnf
  refine ⟨rfl, rfl, ?_⟩
  conv => whnf
  refine ⟨rfl, ?_⟩
  intro i h1
  conv => whnf
  refine ⟨fun hb => ?_, fun hb => ?_⟩
  · have hi : i < l.length := by simpa using hb
    have k1 := hf _ (getD_in V0 hi)
    have hln := oC_len g l i h1
    clear hb
    conv => whnf
    rw [getD_enc _ _ (i) V0 hi]
    refine ⟨idxA hi rfl, ?_⟩
    conv => whnf
    repeat' (first
      | (refine ⟨fun hg => ?_, fun hg => ?_⟩ <;> first | contradiction | (conv => whnf))
      | (refine Or.inl ?_; conv => whnf)
      | (refine ⟨_, k1, ?_⟩; conv => whnf)
      | (refine ⟨⟨rfl, rfl, rfl, by rw [hln]; simp; omega, fun e he => by simp at he; subst he; rfl⟩, ?_⟩; conv => whnf)
      | (refine And.intro ?_ ?_; kernel_rfl; conv => whnf))
    rw [wrap_succ i (by omega)]
    refine ⟨i + 1, rfl, ?_, ?_, hi, by omega⟩
    · rw [oC_succ g l i hi]; rfl
    · rw [oC_succ g l i hi]; rfl
  · have hi : i = l.length := by have := of_decide_eq_false hb; rw [e0] at this; omega
    clear hb
    conv => whnf
    exact ⟨rfl, by rw [window_full, hi]; unfold oC; rw [List.take_length]; rfl⟩
def olE (s : List V3) (sun : V3) : Int := firstE [chkShp s, chkSun sun]
def outL (s : List V3) (sun : V3) : List ((Int × Int) × (Int × Int)) := s.map fun v => cornR v sun
def crns (l : List ((Int × Int) × (Int × Int))) : DV := .list (l.map encCn)
def olS (s : List V3) (sun : V3) : List ((Int × Int) × (Int × Int)) × Int := if olE s sun ≠ 0 then ([], olE s sun) else (outL s sun, 0)
theorem olE_zero {s : List V3} {sun : V3} (h : olE s sun = 0) : OkS s ∧ bdV 1000 sun ∧ 1 ≤ sun.z := by
  unfold olE at h
  obtain ⟨z1, h⟩ := firstE_cons h
  obtain ⟨z2, h⟩ := firstE_cons h
  exact ⟨chkShp_zero z1, chkSun_zero z2⟩
theorem OkS.mem {s : List V3} (h : OkS s) : ∀ v ∈ s, bdV 1000 v := fun v hv => (h.2.2 v hv).1
theorem c_Outline (s : List V3) (sun : V3) (hl : s.length < 1073741824) : PC 45 [shp s, encV sun] (.tuple [crns (olS s sun).1, DV.int .i64 ((olS s sun).2)]) := by
  have k1 := c_CheckShape s hl
  have k2 := c_CheckSun sun
  have k3 := c_first [chkShp s, chkSun sun] (by simp)
  refine pureCall_ofR dh45 rfl ?_
  conv => whnf
  repeat' (first
    | (refine ⟨fun hg => ?_, fun hg => ?_⟩ <;> first | contradiction | (conv => whnf))
    | (refine Or.inl ?_; conv => whnf)
    | (refine ⟨_, k1, ?_⟩; conv => whnf)
    | (refine ⟨_, k2, ?_⟩; conv => whnf)
    | (refine ⟨_, k3, ?_⟩; conv => whnf)
    | (refine And.intro ?_ ?_; kernel_rfl; conv => whnf))
  · have e : olS s sun = ([], olE s sun) := if_pos (of_decide_eq_true hg)
    rw [e]; rfl
  · have hg := of_decide_eq_false hg
    have e : olS s sun = (outL s sun, 0) := if_neg hg
    obtain ⟨h1, h2, h3⟩ := olE_zero (show olE s sun = 0 from Classical.not_not.1 hg)
    have k4 := c_mapC s 118 sun (fun v => cornR v sun) hl (fun v hv => c_Outline1 v sun (h1.mem v hv) h2 h3)
    repeat' (first
      | (refine ⟨fun hg => ?_, fun hg => ?_⟩ <;> first | contradiction | (conv => whnf))
      | (refine Or.inl ?_; conv => whnf)
      | (refine ⟨_, k4, ?_⟩; conv => whnf)
      | (refine And.intro ?_ ?_; kernel_rfl; conv => whnf))
    rw [e]
    show DV.tuple [DV.list _, _] = DV.tuple [DV.list _, _]
    unfold outL
    rw [List.map_map]
    rfl
end Sh


set_option maxRecDepth 100000
set_option linter.unusedSimpArgs false
set_option linter.unusedVariables false
namespace Sh
open Go Go.Proofs
def arS (s : List V3) (sun : V3) : (Int × Int) × Int := if olE s sun ≠ 0 then ((0, 0), olE s sun) else (areaR s sun, 0)
theorem arT_w {s : List V3} {sun : V3} (h1 : OkS s) (h2 : bdV 1000 sun) {i : Nat} (hi : i < s.length) : IntKind.i64.wrap (IntKind.i64.wrap (castX (s.getD i V0) sun * castY (aft s i) sun) - IntKind.i64.wrap (castX (aft s i) sun * castY (s.getD i V0) sun)) = areaT s sun i := by
  have a := castX_bd (h1.at hi) h2
  have b := castY_bd (h1.aft i) h2
  have c := castX_bd (h1.aft i) h2
  have d := castY_bd (h1.at hi) h2
  have p1 := mul_bd a.1 a.2 b.1 b.2
  have p2 := mul_bd c.1 c.2 d.1 d.2
  rw [wrap_in (n := castX (s.getD i V0) sun * castY (aft s i) sun) (by omega) (by omega), wrap_in (n := castX (aft s i) sun * castY (s.getD i V0) sun) (by omega) (by omega), wrap_in (by omega) (by omega)]
  rfl
theorem zz_w {sun : V3} (h2 : bdV 1000 sun) (hz : 1 ≤ sun.z) : IntKind.i64.wrap (IntKind.i64.wrap (2 * sun.z) * sun.z) = 2 * sun.z * sun.z ∧ 0 < 2 * sun.z * sun.z ∧ 2 * sun.z * sun.z ≤ GB := by
  have := h2.2.2
  have hm := mul_bd (a := 2 * sun.z) (b := sun.z) (A := 2000) (B := 1000) (by omega) (by omega) (by omega) (by omega)
  have hp : 0 < 2 * sun.z * sun.z := Int.mul_pos (by omega) (by omega)
  rw [wrap_in (n := 2 * sun.z) (by omega) (by omega), wrap_in (by omega) (by omega)]
  exact ⟨rfl, hp, by unfold GB; omega⟩
theorem c_Area (s : List V3) (sun : V3) (hl : s.length < 1073741824) : PC 46 [shp s, encV sun] (.tuple [encR (arS s sun).1, DV.int .i64 ((arS s sun).2)]) := by
  have e0 : ((s.map encV).length : Int) = s.length := by simp
  have k1 := c_CheckShape s hl
  have k2 := c_CheckSun sun
  have k3 := c_first [chkShp s, chkSun sun] (by simp)
  refine pureCall_ofR dh46 rfl ?_
  conv => whnf
  repeat' (first
    | (refine ⟨fun hg => ?_, fun hg => ?_⟩ <;> first | contradiction | (conv => whnf))
    | (refine Or.inl ?_; conv => whnf)
    | (refine ⟨_, k1, ?_⟩; conv => whnf)
    | (refine ⟨_, k2, ?_⟩; conv => whnf)
    | (refine ⟨_, k3, ?_⟩; conv => whnf)
    | (refine And.intro ?_ ?_; kernel_rfl; conv => whnf))
  · have e : arS s sun = ((0, 0), olE s sun) := if_pos (of_decide_eq_true hg)
    rw [e]; rfl
  · have hg := of_decide_eq_false hg
    have e : arS s sun = (areaR s sun, 0) := if_neg hg
    obtain ⟨h1, h2, h3⟩ := olE_zero (show olE s sun = 0 from Classical.not_not.1 hg)
    have h6 := h1.2.1
    refine dwp_loopU (P := Tryz.prog) (G := GC) (k := dk46_0) (b := db46_0) (α := Nat) (fun i => [(7, DV.int .i64 (areaI s sun i)), (23, DV.int .i64 (i))]) (fun i => [(3, .box 3 (encV sun)), (4, .box 2 (.agg [DV.int .i64 (0), DV.int .i64 (0)]))]) (fun i => i ≤ s.length) (fun i => s.length - i) 0 (Nat.zero_le _) ?_
    conv => whnf
    refine ⟨rfl, rfl, ?_⟩
    conv => whnf
    refine ⟨rfl, ?_⟩
    intro i j1
    conv => whnf
    refine ⟨fun hb => ?_, fun hb => ?_⟩
    · have hi : i < s.length := by simpa using hb
      have bv := h1.at hi
      have ba := h1.aft i
      have k4 := c_after s (by omega) i (by omega)
      have k5 := c_castX _ sun bv h2
      have k6 := c_castY _ sun ba h2
      have k7 := c_castX _ sun ba h2
      have k8 := c_castY _ sun bv h2
      have hw := arT_w h1 h2 hi
      have b1 := areaT_bd h1 h2 hi
      have b2 := areaI_bd h1 h2 (k := i) (by omega)
      clear hb
      conv => whnf
      rw [getD_enc _ _ (i) V0 hi]
      refine ⟨idxA hi rfl, ?_⟩
      conv => whnf
      repeat' (first
        | (refine ⟨fun hg => ?_, fun hg => ?_⟩ <;> first | contradiction | (conv => whnf))
        | (refine Or.inl ?_; conv => whnf)
        | (refine ⟨_, k4, ?_⟩; conv => whnf)
        | (refine ⟨_, k5, ?_⟩; conv => whnf)
        | (refine ⟨_, k6, ?_⟩; conv => whnf)
        | (refine ⟨_, k7, ?_⟩; conv => whnf)
        | (refine ⟨_, k8, ?_⟩; conv => whnf)
        | (refine ⟨⟨by decide, by decide, rfl, rfl⟩, ?_⟩; conv => whnf)
        | (refine And.intro ?_ ?_; kernel_rfl; conv => whnf))
      rw [hw, wrap_succ i (by omega), wrap_in (n := areaI s sun i + areaT s sun i) (by omega) (by omega), ← areaI_succ]
      exact ⟨i + 1, rfl, rfl, rfl, hi, by omega⟩
    · have hi : i = s.length := by have := of_decide_eq_false hb; rw [e0] at this; omega
      have b2 := areaI_bd h1 h2 (k := s.length) (Nat.le_refl _)
      have hab := absI_eq (areaI s sun s.length)
      have hz := zz_w h2 h3
      have k9 := c_lowest (absI (areaI s sun s.length)) (2 * sun.z * sun.z) (by unfold GB; omega) hz.2
      have hm : minmaxI true (areaI s sun s.length) (IntKind.i64.wrap (-areaI s sun s.length)) = absI (areaI s sun s.length) := by
        rw [wrap_in (by omega) (by omega)]; rfl
      clear hb
      conv => whnf
      rw [hi, hm, hz.1]
      repeat' (first
        | (refine ⟨fun hg => ?_, fun hg => ?_⟩ <;> first | contradiction | (conv => whnf))
        | (refine Or.inl ?_; conv => whnf)
        | (refine ⟨_, k9, ?_⟩; conv => whnf)
        | (refine And.intro ?_ ?_; kernel_rfl; conv => whnf))
      rw [e]; rfl
end Sh


set_option maxRecDepth 100000
set_option linter.unusedSimpArgs false
set_option linter.unusedVariables false
namespace Sh
open Go Go.Proofs
def chkBy (v : V3) : Int := firstE [withE v.x (-2000) 2000, withE v.y (-2000) 2000, withE v.z (-2000) 2000]
theorem chkBy_zero {v : V3} (h : chkBy v = 0) : bdV 2000 v := by
  unfold chkBy at h
  obtain ⟨h1, h⟩ := firstE_cons h
  obtain ⟨h2, h⟩ := firstE_cons h
  obtain ⟨h3, h⟩ := firstE_cons h
  exact ⟨withE_zero h1, withE_zero h2, withE_zero h3⟩
theorem c_checkBy (v : V3) : PC 121 [encV v, DV.int .i64 (2000)] (DV.int .i64 (chkBy v)) := c_checkParts v 2000 (by omega)
theorem add_w {a b : Int} (h1 : -1000 ≤ a ∧ a ≤ 1000) (h2 : -2000 ≤ b ∧ b ≤ 2000) : IntKind.i64.wrap (a + b) = a + b := wrap_in (by omega) (by omega)
def mvE (s : List V3) (d : V3) : Int := firstE [chkShp s, chkBy d]
def mvS (s : List V3) (d : V3) : List V3 × Int := if mvE s d ≠ 0 then ([], mvE s d) else movR s d
def mxR (s : List V3) (d : V3) (i : Nat) : List DV := rng s.length fun m => encV (if m < i then addV (s.getD m V0) d else s.getD m V0)
theorem mxR_zero (s : List V3) (d : V3) : mxR s d 0 = s.map encV := by
  refine List.ext_getElem (by unfold mxR; rw [rng_len, List.length_map]) fun i h1 h2 => ?_
  rw [List.length_map] at h2
  simp [mxR, rng, List.getD_eq_getElem?_getD, h2]
theorem mxR_all (s : List V3) (d : V3) : mxR s d s.length = (movS s d).map encV := by
  refine List.ext_getElem (by unfold mxR; rw [rng_len, List.length_map, movS_len]) fun i h1 h2 => ?_
  rw [List.length_map, movS_len] at h2
  simp [mxR, rng, movS, List.getD_eq_getElem?_getD, h2]
theorem mxR_get (s : List V3) (d : V3) {i : Nat} (h : i < s.length) : (mxR s d i).getD i .undef = encV (s.getD i V0) := by
  unfold mxR; rw [rng_getD _ _ h, if_neg (by omega)]
theorem mxR_set (s : List V3) (d : V3) (i : Nat) : (mxR s d i).set i (encV (addV (s.getD i V0) d)) = mxR s d (i + 1) := by
  unfold mxR
  rw [rng_set]
  refine rng_congr fun m _ => ?_
  by_cases e : m = i
  · subst e; rw [if_pos rfl, if_pos (by omega)]
  · rw [if_neg e]
    by_cases e2 : m < i
    · rw [if_pos e2, if_pos (by omega)]
    · rw [if_neg e2, if_neg (by omega)]
theorem mxR_len (s : List V3) (d : V3) (i : Nat) : (mxR s d i).length = s.length := rng_len _ _
theorem c_Moved (s : List V3) (d : V3) (hl : s.length < 1073741824) : PC 47 [shp s, encV d] (.tuple [shp (mvS s d).1, DV.int .i64 ((mvS s d).2)]) := by
  have e0 : ((s.map encV).length : Int) = s.length := by simp
  have k1 := c_CheckShape s hl
  have k2 := c_checkBy d
  have k3 := c_first [chkShp s, chkBy d] (by simp)
  refine pureCall_ofR dh47 rfl ?_
  conv => whnf
  repeat' (first
    | (refine ⟨fun hg => ?_, fun hg => ?_⟩ <;> first | contradiction | (conv => whnf))
    | (refine Or.inl ?_; conv => whnf)
    | (refine ⟨_, k1, ?_⟩; conv => whnf)
    | (refine ⟨_, k2, ?_⟩; conv => whnf)
    | (refine ⟨_, k3, ?_⟩; conv => whnf)
    | (refine And.intro ?_ ?_; kernel_rfl; conv => whnf))
  · have e : mvS s d = ([], mvE s d) := if_pos (of_decide_eq_true hg)
    rw [e]; rfl
  · have hg := of_decide_eq_false hg
    have e : mvS s d = movR s d := if_neg hg
    obtain ⟨z1, z2⟩ := firstE_cons (Classical.not_not.1 hg)
    obtain ⟨z2, _⟩ := firstE_cons z2
    have h2 := chkBy_zero z2
    have h1 := chkShp_zero z1
    have h6 := h1.2.1
    clear hg
    refine ⟨⟨by omega, by omega, by omega, rfl, rfl⟩, ?_⟩
    conv => whnf
    refine ⟨⟨by simp, fun e he => by obtain ⟨v, _, rfl⟩ := List.mem_map.1 he; rfl⟩, ?_⟩
    conv => whnf
    have hrow : List.take 0 (List.replicate ((s.map encV).length : Int).toNat (DV.agg [DV.int .i64 (0), DV.int .i64 (0), DV.int .i64 (0)])) ++ List.take ((s.map encV).length : Int).toNat (s.map encV) ++ List.drop (0 + min (s.map encV).length ((s.map encV).length : Int).toNat) (List.replicate ((s.map encV).length : Int).toNat (DV.agg [DV.int .i64 (0), DV.int .i64 (0), DV.int .i64 (0)])) = mxR s d 0 := by
      rw [mxR_zero, Int.toNat_natCast, List.take_zero, List.nil_append, List.take_length, Nat.min_self, Nat.zero_add, List.drop_of_length_le (by simp), List.append_nil]
    rw [hrow]
    refine ⟨fun hg => ?_, fun hg => ?_⟩
    · conv => whnf
      have hd : d = ⟨0, 0, 0⟩ := by
        have hg : (decide (d.x = 0) && (decide (d.y = 0) && (decide (d.z = 0) && true))) = true := hg
        simp only [Bool.and_eq_true, decide_eq_true_eq, Bool.and_true] at hg
        exact v3_ext hg.1 hg.2.1 hg.2.2
      have hms : movS s d = s := by
        subst hd
        unfold movS
        refine (List.map_congr_left fun v _ => ?_).trans (List.map_id s)
        exact v3_ext (Int.add_zero _) (Int.add_zero _) (Int.add_zero _)
      have em : movR s d = (movS s d, 0) := if_pos ((mov_chk z1 (d := d)).1 (by rw [hms]; exact z1))
      refine ⟨by rw [mxR_len]; simp, ?_⟩
      rw [mxR_zero, Int.toNat_natCast, window_full, e, em, hms]
      rfl
    · conv => whnf
      clear hg hrow
      refine ⟨by rw [mxR_len]; simp, ?_⟩
      conv => whnf
      have hN : ((s.map encV).length : Int).toNat = (s.map encV).length := rfl
      refine dwp_loopU (P := Tryz.prog) (G := GC) (k := dk47_0) (b := db47_0) (α := Nat) (fun i => [(30, DV.int .i64 (i))]) (fun i => [(3, .box 3 (encV d)), (20, .row 3 (mxR s d i) false)]) (fun i => i ≤ s.length ∧ ∀ j, j < i → chkCor (addV (s.getD j V0) d) = 0) (fun i => s.length - i) 0 ⟨Nat.zero_le _, fun j hj => absurd hj (by omega)⟩ ?_
      conv => whnf
      refine ⟨rfl, rfl, ?_⟩
      conv => whnf
      refine ⟨rfl, ?_⟩
      intro i ⟨j1, j2⟩
      conv => whnf
      refine ⟨fun hb => ?_, fun hb => ?_⟩
      · have hi : i < s.length := by have := of_decide_eq_true hb; rw [e0] at this; omega
        have bv := h1.at hi
        have w1 := add_w bv.1 h2.1
        have w2 := add_w bv.2.1 h2.2.1
        have w3 := add_w bv.2.2 h2.2.2
        have k4 := c_checkCorner (addV (s.getD i V0) d)
        have hget : (mxR s d i).getD (0 + ((i : Nat) : Int).toNat) .undef = encV (s.getD i V0) := by rw [Int.toNat_natCast, Nat.zero_add]; exact mxR_get s d hi
        have hset : (mxR s d i).set (0 + ((i : Nat) : Int).toNat) (bif Nat.beq 0 0 && Nat.beq 3 3 then (.agg [DV.int .i64 ((s.getD i V0).x + d.x), DV.int .i64 ((s.getD i V0).y + d.y), DV.int .i64 ((s.getD i V0).z + d.z)]) else .agg (setCells ((mxR s d i).getD (0 + ((i : Nat) : Int).toNat) .undef).cells 0 (DV.agg [DV.int .i64 ((s.getD i V0).x + d.x), DV.int .i64 ((s.getD i V0).y + d.y), DV.int .i64 ((s.getD i V0).z + d.z)]).cells)) = mxR s d (i + 1) := by rw [Int.toNat_natCast, Nat.zero_add]; exact mxR_set s d i
        have hget2 : (mxR s d (i + 1)).getD (0 + ((i : Nat) : Int).toNat) .undef = encV (addV (s.getD i V0) d) := by
          rw [Int.toNat_natCast, Nat.zero_add]; unfold mxR; rw [rng_getD _ _ hi, if_pos (by omega)]
        have hIdx : ((s.map encV).length : Int).toNat = (mxR s d i).length ∧ 0 ≤ (i : Int) ∧ (i : Int) < (((s.map encV).length : Int).toNat : Int) := ⟨by rw [mxR_len]; simp, by omega, by rw [hN, List.length_map]; omega⟩
        clear hb
        conv => whnf
        repeat' (first
          | (refine ⟨fun hg => ?_, fun hg => ?_⟩ <;> first | contradiction | (conv => whnf))
          | (refine Or.inl ?_; conv => whnf)
          | (refine ⟨hIdx, ?_⟩; conv => whnf)
          | (refine ⟨hIdx.1, ?_⟩; conv => whnf)
          | (refine ⟨⟨hIdx.1, by decide⟩, ?_⟩; rw [hget]; conv => whnf)
          | (refine And.intro ?_ ?_; kernel_rfl; conv => whnf))
        rw [w1, w2, w3]
        refine ⟨⟨hIdx.1, by decide, rfl⟩, ?_⟩
        conv => whnf
        refine ⟨by kernel_rfl, ?_⟩
        conv => whnf
        rw [hset]
        have hIdx2 : ((s.map encV).length : Int).toNat = (mxR s d (i + 1)).length ∧ 0 ≤ (i : Int) ∧ (i : Int) < (((s.map encV).length : Int).toNat : Int) := ⟨by rw [mxR_len]; simp, hIdx.2⟩
        refine ⟨hIdx2, ?_⟩
        conv => whnf
        rw [hget2]
        refine ⟨⟨hIdx2.1, rfl⟩, ?_⟩
        conv => whnf
        repeat' (first
          | (refine ⟨fun hg => ?_, fun hg => ?_⟩ <;> first | contradiction | (conv => whnf))
          | (refine Or.inl ?_; conv => whnf)
          | (refine ⟨_, k4, ?_⟩; conv => whnf)
          | (refine And.intro ?_ ?_; kernel_rfl; conv => whnf))
        · have hg : chkCor (addV (s.getD i V0) d) ≠ 0 := of_decide_eq_true hg
          have hno : ¬ corOk (movS s d) = true := fun h => by
            unfold corOk movS at h
            rw [List.all_eq_true] at h
            exact hg (of_decide_eq_true (h _ (List.mem_map_of_mem (getD_in V0 hi))))
          have em : movR s d = ([], 4) := if_neg hno
          rw [e, em]; rfl
        · have hg : ¬ chkCor (addV (s.getD i V0) d) ≠ 0 := of_decide_eq_false hg
          rw [wrap_succ i (by omega)]
          refine ⟨i + 1, rfl, rfl, rfl, ⟨hi, fun j hj => ?_⟩, by omega⟩
          by_cases ej : j = i
          · subst ej; exact Classical.not_not.1 hg
          · exact j2 j (by omega)
      · have hi : i = s.length := by have := of_decide_eq_false hb; rw [e0] at this; omega
        clear hb
        conv => whnf
        rw [hi]
        have hok : corOk (movS s d) = true := by
          unfold corOk movS
          rw [List.all_eq_true]
          intro v hv
          obtain ⟨u, hu, rfl⟩ := List.mem_map.1 hv
          obtain ⟨k, hk, rfl⟩ := List.mem_iff_getElem.1 hu
          have := j2 k (by omega)
          rw [show s.getD k V0 = s[k] by simp [List.getD_eq_getElem?_getD, hk]] at this
          exact decide_eq_true this
        have em : movR s d = (movS s d, 0) := if_pos hok
        refine ⟨by rw [mxR_len]; simp, ?_⟩
        rw [mxR_all, e, em, hN, show (s.map encV).length = ((movS s d).map encV).length by rw [List.length_map, List.length_map, movS_len], window_full]
        rfl
end Sh


set_option maxRecDepth 100000
set_option linter.unusedSimpArgs false
set_option linter.unusedVariables false
namespace Sh
open Go Go.Proofs
theorem r_SameRatios (l : List (Int × Int)) (hl : l.length < 1073741824) : PC 44 [.list (l.map encR), .list (l.map encR)] (.bool true) := by
  have e0 : ((l.map encR).length : Int) = l.length := by simp
  refine pureCall_ofR dh44 rfl ?_
  conv => whnf
  refine ⟨fun hg => absurd rfl (of_decide_eq_true hg), fun hg => ?_⟩
  clear hg
  conv => whnf
  refine dwp_loopU (P := Tryz.prog) (G := GC) (k := dk44_0) (b := db44_0) (α := Nat) (fun i => [(5, DV.int .i64 (i))]) (fun _ => []) (fun i => i ≤ l.length) (fun i => l.length - i) 0 (Nat.zero_le _) ?_
  conv => whnf
  refine ⟨rfl, rfl, ?_⟩
  conv => whnf
  refine ⟨rfl, ?_⟩
  intro i h1
  conv => whnf
  refine ⟨fun hb => ?_, fun hb => ?_⟩
  · have hi : i < l.length := by simpa using hb
    clear hb
    conv => whnf
    rw [getD_enc _ _ (i) (0, 0) hi]
    refine ⟨idxA hi rfl, ?_⟩
    conv => whnf
    repeat' (first
      | (refine ⟨fun hg => ?_, fun hg => ?_⟩ <;> first | contradiction | (conv => whnf))
      | (refine Or.inl ?_; conv => whnf)
      | (rw [getD_enc _ _ i ((0, 0)) hi]; refine ⟨idxA hi rfl, ?_⟩; conv => whnf)
      | (refine And.intro ?_ ?_; kernel_rfl; conv => whnf))
    · exfalso
      revert hg
      simp
    · rw [wrap_succ i (by omega)]
      exact ⟨i + 1, rfl, rfl, rfl, hi, by omega⟩
  · clear hb
    conv => whnf
    rfl
theorem r_SameShape (l : List (V3)) (hl : l.length < 1073741824) : PC 54 [.list (l.map encV), .list (l.map encV)] (.bool true) := by
  have e0 : ((l.map encV).length : Int) = l.length := by simp
  refine pureCall_ofR dh54 rfl ?_
  conv => whnf
  refine ⟨fun hg => absurd rfl (of_decide_eq_true hg), fun hg => ?_⟩
  clear hg
  conv => whnf
  refine dwp_loopU (P := Tryz.prog) (G := GC) (k := dk54_0) (b := db54_0) (α := Nat) (fun i => [(5, DV.int .i64 (i))]) (fun _ => []) (fun i => i ≤ l.length) (fun i => l.length - i) 0 (Nat.zero_le _) ?_
  conv => whnf
  refine ⟨rfl, rfl, ?_⟩
  conv => whnf
  refine ⟨rfl, ?_⟩
  intro i h1
  conv => whnf
  refine ⟨fun hb => ?_, fun hb => ?_⟩
  · have hi : i < l.length := by simpa using hb
    clear hb
    conv => whnf
    rw [getD_enc _ _ (i) V0 hi]
    refine ⟨idxA hi rfl, ?_⟩
    conv => whnf
    repeat' (first
      | (refine ⟨fun hg => ?_, fun hg => ?_⟩ <;> first | contradiction | (conv => whnf))
      | (refine Or.inl ?_; conv => whnf)
      | (rw [getD_enc _ _ i V0 hi]; refine ⟨idxA hi rfl, ?_⟩; conv => whnf)
      | (refine And.intro ?_ ?_; kernel_rfl; conv => whnf))
    · exfalso
      revert hg
      simp
    · rw [wrap_succ i (by omega)]
      exact ⟨i + 1, rfl, rfl, rfl, hi, by omega⟩
  · clear hb
    conv => whnf
    rfl
theorem r_SameShapes (l : List (List V3)) (hl : l.length < 1073741824) (hs : ∀ s ∈ l, s.length < 1073741824) : PC 79 [.list (l.map shp), .list (l.map shp)] (.bool true) := by
  have e0 : ((l.map shp).length : Int) = l.length := by simp
  refine pureCall_ofR dh79 rfl ?_
  conv => whnf
  refine ⟨fun hg => absurd rfl (of_decide_eq_true hg), fun hg => ?_⟩
  clear hg
  conv => whnf
  refine dwp_loopU (P := Tryz.prog) (G := GC) (k := dk79_0) (b := db79_0) (α := Nat) (fun i => [(5, DV.int .i64 (i))]) (fun _ => []) (fun i => i ≤ l.length) (fun i => l.length - i) 0 (Nat.zero_le _) ?_
  conv => whnf
  refine ⟨rfl, rfl, ?_⟩
  conv => whnf
  refine ⟨rfl, ?_⟩
  intro i h1
  conv => whnf
  refine ⟨fun hb => ?_, fun hb => ?_⟩
  · have hi : i < l.length := by simpa using hb
    have k1 := r_SameShape _ (hs _ (getD_in [] hi))
    clear hb
    conv => whnf
    rw [getD_enc _ _ (i) [] hi]
    refine ⟨idxA hi rfl, ?_⟩
    conv => whnf
    repeat' (first
      | (refine ⟨fun hg => ?_, fun hg => ?_⟩ <;> first | contradiction | (conv => whnf))
      | (refine Or.inl ?_; conv => whnf)
      | (rw [getD_enc _ _ i [] hi]; refine ⟨idxA hi rfl, ?_⟩; conv => whnf)
      | (refine ⟨_, k1, ?_⟩; conv => whnf)
      | (refine And.intro ?_ ?_; kernel_rfl; conv => whnf))
    · rw [wrap_succ i (by omega)]
      exact ⟨i + 1, rfl, rfl, rfl, hi, by omega⟩
  · clear hb
    conv => whnf
    rfl
end Sh


set_option maxRecDepth 100000
set_option linter.unusedSimpArgs false
set_option linter.unusedVariables false
namespace Sh
open Go Go.Proofs
def cpR {α : Type} (enc : α → DV) (l : List α) (i : Nat) : List DV := (l.take i).map enc
theorem cpR_len {α : Type} (enc : α → DV) (l : List α) (i : Nat) (h : i ≤ l.length) : (cpR enc l i).length = i := by simp [cpR]; omega
theorem cpR_succ {α : Type} (enc : α → DV) (l : List α) (i : Nat) (d : α) (h : i < l.length) : cpR enc l (i + 1) = cpR enc l i ++ [enc (l.getD i d)] := take_map_succ _ l i d h
theorem cpR_all {α : Type} (enc : α → DV) (l : List α) : cpR enc l l.length = l.map enc := by unfold cpR; rw [List.take_length]
def cels (l : List Bx) : DV := .list (l.map encB)
def chkBxs (l : List Bx) : Int := if 16 < (l.length : Int) then 5 else firstE (l.map chkBx)
theorem l_one (l : List (List V3)) : PC 17 [shps l] (shp (l.getD 0 [])) := by
  have e0 : ((l.map shp).length : Int) = l.length := by simp
  refine pureCall_ofR dh17 rfl ?_
  conv => whnf
  refine ⟨fun hg => ?_, fun hg => ?_⟩
  · have hg := of_decide_eq_true hg
    rw [e0] at hg
    conv => whnf
    have : l = [] := List.length_eq_zero_iff.1 (by omega)
    subst this
    rfl
  · have hg := of_decide_eq_false hg
    rw [e0] at hg
    conv => whnf
    rw [getD_enc' _ _ 0 [] (by decide) (by omega)]
    refine ⟨idxB (by decide) (by omega) rfl, ?_⟩
    conv => whnf
    rfl
end Sh


set_option maxRecDepth 100000
set_option linter.unusedSimpArgs false
set_option linter.unusedVariables false
namespace Sh
open Go Go.Proofs
theorem l_own (s : List V3) (hl : s.length < 1073741824) : PC 16 [shp s] (shp s) := by
  refine pureCall_ofR dh16 rfl ?_
  conv => whnf
  refine ⟨⟨by simp; omega, fun e he => by obtain ⟨v, _, rfl⟩ := List.mem_map.1 he; rfl, fun e he => absurd he List.not_mem_nil⟩, ?_⟩
  conv => whnf
  rfl
theorem r_Owned (l : List (List V3)) (hl : l.length < 1073741824) (hs : ∀ s ∈ l, s.length < 1073741824) : PC 93 [shps l] (shps l) := by
  have e0 : ((l.map shp).length : Int) = l.length := by simp
  refine pureCall_ofR dh93 rfl ?_
  conv => whnf
  refine dwp_loopU (P := Tryz.prog) (G := GC) (k := dk93_0) (b := db93_0) (α := Nat) (fun i => [(3, .own 3 0 (cpR shp l i).length (cpR shp l i).length), (4, DV.int .i64 (i))]) (fun i => [(3, .row 1 (cpR shp l i) false)]) (fun i => i ≤ l.length) (fun i => l.length - i) 0 (Nat.zero_le _) ?_
  conv => whnf
  refine ⟨rfl, rfl, ?_⟩
  conv => whnf
  refine ⟨rfl, ?_⟩
  intro i h1
  conv => whnf
  refine ⟨fun hb => ?_, fun hb => ?_⟩
  · have hi : i < l.length := by simpa using hb
    have hln := cpR_len shp l i h1
    have hsl := hs _ (getD_in [] hi)
    clear hb
    conv => whnf
    rw [getD_enc _ _ (i) [] hi]
    refine ⟨idxA hi rfl, ?_⟩
    conv => whnf
    refine ⟨⟨by rw [List.length_map, List.reverse_nil, List.length_nil]; omega, fun e he => by obtain ⟨v, _, rfl⟩ := List.mem_map.1 he; rfl, fun e he => absurd he List.not_mem_nil⟩, ?_⟩
    conv => whnf
    repeat' (first
      | (refine ⟨fun hg => ?_, fun hg => ?_⟩ <;> first | contradiction | (conv => whnf))
      | (refine Or.inl ?_; conv => whnf)
      | (refine ⟨⟨rfl, rfl, rfl, by rw [hln]; simp; omega, fun e he => by simp at he; subst he; rfl⟩, ?_⟩; conv => whnf)
      | (refine And.intro ?_ ?_; kernel_rfl; conv => whnf))
    rw [wrap_succ i (by omega)]
    refine ⟨i + 1, rfl, ?_, ?_, hi, by omega⟩
    · rw [cpR_succ shp l i [] hi]; rfl
    · rw [cpR_succ shp l i [] hi]; rfl
  · have hi : i = l.length := by have := of_decide_eq_false hb; rw [e0] at this; omega
    clear hb
    conv => whnf
    exact ⟨rfl, by rw [window_full, hi, cpR_all]; rfl⟩
theorem l_all (l : List (List V3)) (hl : l.length < 1073741824) (hs : ∀ s ∈ l, s.length < 1073741824) : PC 19 [shps l] (shps l) := by
  have k1 := r_Owned l hl hs
  refine pureCall_ofR dh19 rfl ?_
  conv => whnf
  repeat' (first
    | (refine ⟨fun hg => ?_, fun hg => ?_⟩ <;> first | contradiction | (conv => whnf))
    | (refine Or.inl ?_; conv => whnf)
    | (refine ⟨_, k1, ?_⟩; conv => whnf)
    | (refine And.intro ?_ ?_; kernel_rfl; conv => whnf))
  rfl
end Sh


set_option maxRecDepth 100000
set_option linter.unusedSimpArgs false
set_option linter.unusedVariables false
namespace Sh
open Go Go.Proofs
theorem c_mapB (l : List (Bx)) (f : FuncId) (g : Bx → Int) (hl : l.length < 1073741824) (hf : ∀ c ∈ l, PC f [encB c] (DV.int .i64 (g c))) : PC 111 [.list (l.map encB), .func f []] (iL (l.map g)) := by
  have e0 : ((l.map encB).length : Int) = l.length := by simp
  refine pureCall_ofR dh111 rfl ?_
  conv => whnf
  refine dwp_loopU (P := Tryz.prog) (G := GC) (k := dk111_0) (b := db111_0) (α := Nat) (fun i => [(5, .own 5 0 (oI g l i).length (oI g l i).length), (10, DV.int .i64 (i))]) (fun i => [(5, .row 1 (oI g l i) false)]) (fun i => i ≤ l.length) (fun i => l.length - i) 0 (Nat.zero_le _) ?_
  conv => whnf
  refine ⟨rfl, rfl, ?_⟩
  conv => whnf
  refine ⟨rfl, ?_⟩
  intro i h1
  conv => whnf
  refine ⟨fun hb => ?_, fun hb => ?_⟩
  · have hi : i < l.length := by simpa using hb
    clear hb
    conv => whnf
    rw [getD_enc _ _ (i) B0 hi]
    refine ⟨idxA hi rfl, ?_⟩
    conv => whnf
    refine .inl ?_
    conv => whnf
    refine ⟨_, hf _ (getD_in B0 hi), ?_⟩
    conv => whnf
    refine ⟨⟨rfl, rfl, rfl, by rw [oI_len g l i h1]; simp; omega, fun e he => by simp at he; subst he; rfl⟩, ?_⟩
    conv => whnf
    rw [wrap_succ i (by omega)]
    refine ⟨i + 1, rfl, ?_, ?_, hi, by omega⟩
    · rw [oI_succ g l i B0 hi]; rfl
    · rw [oI_succ g l i B0 hi]; rfl
  · have hi : i = l.length := by have := of_decide_eq_false hb; rw [e0] at this; omega
    conv => whnf
    exact ⟨rfl, by rw [window_full, hi, oI_all]; rfl⟩
def shrR (l : List (List V3)) (sun : V3) (c : Bx) : Int × Int := lowR (lightS l sun c) (sizeB c)
theorem light_bd {l : List (List V3)} {sun : V3} {c : Bx} (h : OkB c) : 0 ≤ lightS l sun c ∧ lightS l sun c ≤ 4000000 := by
  have := List.length_filter_le (fun p => !anyHid l sun p) (spotsL c)
  have := h.spN
  unfold lightS litL
  omega
theorem OkB.pts {c : Bx} (h : OkB c) : ((-1000 ≤ c.f.x ∧ c.f.x ≤ 1000) ∧ (-1000 ≤ c.f.y ∧ c.f.y ≤ 1000)) ∧ ((-1000 ≤ c.t.x ∧ c.t.x ≤ 1000) ∧ (-1000 ≤ c.t.y ∧ c.t.y ≤ 1000)) := by
  have := h.x; have := h.y; have := h.x0; have := h.x1; have := h.y0; have := h.y1
  omega
theorem c_Shares1 (l : List (List V3)) (sun : V3) (c : Bx) (h8 : l.length ≤ 8) (h1 : ∀ s ∈ l, OkS s) (h2 : bdV 1000 sun) (h3 : OkB c) : PC 113 [encB c, .ip (shps l), .ip (encV sun)] (encR (shrR l sun c)) := by
  have k1 := c_light l sun c h8 h1 h2 h3
  have k2 := c_size c h3.pts.1 h3.pts.2
  have hb := light_bd (l := l) (sun := sun) h3
  have hs := h3.size
  have k3 := c_lowest (lightS l sun c) (sizeB c) (by unfold GB; omega) (by unfold GB; omega)
  refine pureCall_ofR dh113 rfl ?_
  conv => whnf
  repeat' (first
    | (refine ⟨fun hg => ?_, fun hg => ?_⟩ <;> first | contradiction | (conv => whnf))
    | (refine Or.inl ?_; conv => whnf)
    | (refine ⟨_, k1, ?_⟩; conv => whnf)
    | (refine ⟨_, k2, ?_⟩; conv => whnf)
    | (refine ⟨_, k3, ?_⟩; conv => whnf)
    | (refine And.intro ?_ ?_; kernel_rfl; conv => whnf))
  rfl
def oR {α : Type} (g : α → Int × Int) (l : List α) (i : Nat) : List DV := (l.take i).map fun c => encR (g c)
theorem oR_len {α : Type} (g : α → Int × Int) (l : List α) (i : Nat) (h : i ≤ l.length) : (oR g l i).length = i := by simp [oR]; omega
theorem oR_succ {α : Type} (g : α → Int × Int) (l : List α) (i : Nat) (d : α) (h : i < l.length) : oR g l (i + 1) = oR g l i ++ [encR (g (l.getD i d))] := take_map_succ _ l i d h
theorem oR_all {α : Type} (g : α → Int × Int) (l : List α) : oR g l l.length = (l.map g).map encR := by unfold oR; rw [List.take_length, List.map_map]; rfl
def rats (l : List (Int × Int)) : DV := .list (l.map encR)
theorem c_mapR (l : List Bx) (f : FuncId) (q : List (List V3)) (sun : V3) (g : Bx → Int × Int) (hl : l.length < 1073741824) (hf : ∀ v ∈ l, PC f [encB v, .ip (shps q), .ip (encV sun)] (encR (g v))) : PC 112 [cels l, .func f [.ip (shps q), .ip (encV sun)]] (rats (l.map g)) := by
  have e0 : ((l.map encB).length : Int) = l.length := by simp
  refine pureCall_ofR dh112 rfl ?_
  conv => whnf
  refine dwp_loopU (P := Tryz.prog) (G := GC) (k := dk112_0) (b := db112_0) (α := Nat) (fun i => [(5, .own 5 0 (oR g l i).length (oR g l i).length), (10, DV.int .i64 (i))]) (fun i => [(5, .row 2 (oR g l i) false)]) (fun i => i ≤ l.length) (fun i => l.length - i) 0 (Nat.zero_le _) ?_
  conv => whnf
  refine ⟨rfl, rfl, ?_⟩
  conv => whnf
  refine ⟨rfl, ?_⟩
  intro i h1
  conv => whnf
  refine ⟨fun hb => ?_, fun hb => ?_⟩
  · have hi : i < l.length := by simpa using hb
    have k1 := hf _ (getD_in B0 hi)
    have hln := oR_len g l i h1
    clear hb
    conv => whnf
    rw [getD_enc _ _ (i) B0 hi]
    refine ⟨idxA hi rfl, ?_⟩
    conv => whnf
    repeat' (first
      | (refine ⟨fun hg => ?_, fun hg => ?_⟩ <;> first | contradiction | (conv => whnf))
      | (refine Or.inl ?_; conv => whnf)
      | (refine ⟨_, k1, ?_⟩; conv => whnf)
      | (refine ⟨⟨rfl, rfl, rfl, by rw [hln]; simp; omega, fun e he => by simp at he; subst he; rfl⟩, ?_⟩; conv => whnf)
      | (refine And.intro ?_ ?_; kernel_rfl; conv => whnf))
    rw [wrap_succ i (by omega)]
    refine ⟨i + 1, rfl, ?_, ?_, hi, by omega⟩
    · rw [oR_succ g l i B0 hi]; rfl
    · rw [oR_succ g l i B0 hi]; rfl
  · have hi : i = l.length := by have := of_decide_eq_false hb; rw [e0] at this; omega
    clear hb
    conv => whnf
    exact ⟨rfl, by rw [window_full, hi, oR_all]; rfl⟩
def srE (l : List (List V3)) (sun : V3) (cs : List Bx) : Int := firstE [chkShps l, chkSun sun, chkBxs cs]
def srS (l : List (List V3)) (sun : V3) (cs : List Bx) : List (Int × Int) × Int := if srE l sun cs ≠ 0 then ([], srE l sun cs) else (cs.map (shrR l sun), 0)
theorem srE_zero {l : List (List V3)} {sun : V3} {cs : List Bx} (h : srE l sun cs = 0) : (l.length ≤ 8 ∧ ∀ s ∈ l, OkS s) ∧ bdV 1000 sun ∧ (cs.length ≤ 16 ∧ ∀ c ∈ cs, OkB c) := by
  unfold srE at h
  obtain ⟨h1, h⟩ := firstE_cons h
  obtain ⟨h2, h⟩ := firstE_cons h
  obtain ⟨h3, h⟩ := firstE_cons h
  unfold chkBxs at h3
  split at h3
  · cases h3
  · exact ⟨⟨(chkShps_zero h1).1, fun s hs => chkShp_zero ((chkShps_zero h1).2 s hs)⟩, (chkSun_zero h2).1, by omega, fun c hc => (chkBx_zero (firstE_mem h3 _ (List.mem_map_of_mem hc))).1⟩
theorem srE_split (l : List (List V3)) (sun : V3) (cs : List Bx) : srE l sun cs = if firstE [chkShps l, chkSun sun, whenE (decide (16 < (cs.length : Int))) 5] ≠ 0 then firstE [chkShps l, chkSun sun, whenE (decide (16 < (cs.length : Int))) 5] else firstE (cs.map chkBx) := by
  unfold srE chkBxs whenE
  simp only [firstE]
  by_cases h1 : chkShps l = 0
  · by_cases h2 : chkSun sun = 0
    · by_cases h3 : 16 < (cs.length : Int)
      · simp [h1, h2, h3]
      · simp [h1, h2, h3]
        intro h; exact h.symm
    · simp [h1, h2]
  · simp [h1]
theorem c_Shares (l : List (List V3)) (sun : V3) (cs : List Bx) (hl : l.length < 1073741824) (hs : ∀ s ∈ l, s.length < 1073741824) (hc : cs.length < 1073741824) : PC 34 [shps l, encV sun, cels cs] (.tuple [rats (srS l sun cs).1, DV.int .i64 ((srS l sun cs).2)]) := by
  have e0 : ((cs.map encB).length : Int) = cs.length := by simp
  have k1 := c_checkShapes l hl hs
  have k2 := c_CheckSun sun
  have k3 := c_first [chkShps l, chkSun sun, whenE (decide (16 < (cs.length : Int))) 5] (by simp)
  have k4 := c_mapB cs 42 chkBx hc (fun c _ => c_CheckCell c)
  have k5 := c_first (cs.map chkBx) (by rw [List.length_map]; omega)
  have hsp := srE_split l sun cs
  refine pureCall_ofR dh34 rfl ?_
  conv => whnf
  repeat' (first
    | (refine ⟨fun hg => ?_, fun hg => ?_⟩ <;> first | contradiction | (conv => whnf))
    | (refine Or.inl ?_; conv => whnf)
    | (refine ⟨_, k1, ?_⟩; conv => whnf)
    | (refine ⟨_, k2, ?_⟩; conv => whnf)
    | (rw [e0]; refine ⟨_, c_when _ _, ?_⟩; conv => whnf)
    | (refine ⟨_, k3, ?_⟩; conv => whnf)
    | (refine ⟨_, k4, ?_⟩; conv => whnf)
    | (refine ⟨_, k5, ?_⟩; conv => whnf)
    | (refine And.intro ?_ ?_; kernel_rfl; conv => whnf))
  · have hg := of_decide_eq_true hg
    rw [if_pos hg] at hsp
    have e : srS l sun cs = ([], srE l sun cs) := if_pos (by rw [hsp]; exact hg)
    rw [e, hsp]; rfl
  · have hg0 := of_decide_eq_false (show decide (firstE [chkShps l, chkSun sun, whenE (decide (16 < (cs.length : Int))) 5] ≠ 0) = false from ‹_›)
    have hg := of_decide_eq_true hg
    rw [if_neg hg0] at hsp
    have e : srS l sun cs = ([], srE l sun cs) := if_pos (by rw [hsp]; exact hg)
    rw [e, hsp]; rfl
  · have hg0 := of_decide_eq_false (show decide (firstE [chkShps l, chkSun sun, whenE (decide (16 < (cs.length : Int))) 5] ≠ 0) = false from ‹_›)
    have hg := of_decide_eq_false hg
    rw [if_neg hg0] at hsp
    have hz : srE l sun cs = 0 := by rw [hsp]; exact Classical.not_not.1 hg
    have e : srS l sun cs = (cs.map (shrR l sun), 0) := if_neg (fun h => h hz)
    obtain ⟨⟨h8, h1⟩, h2, h16, h3⟩ := srE_zero hz
    have k6 := c_mapR cs 113 l sun (shrR l sun) hc (fun c hc => c_Shares1 l sun c h8 h1 h2 (h3 c hc))
    repeat' (first
      | (refine ⟨fun hg => ?_, fun hg => ?_⟩ <;> first | contradiction | (conv => whnf))
      | (refine Or.inl ?_; conv => whnf)
      | (refine ⟨_, k6, ?_⟩; conv => whnf)
      | (refine And.intro ?_ ?_; kernel_rfl; conv => whnf))
    rw [e]; rfl
end Sh


set_option maxRecDepth 100000
set_option linter.unusedSimpArgs false
set_option linter.unusedVariables false
namespace Sh
open Go Go.Proofs
theorem l_spot (x y : Int) : PC 81 [DV.int .i64 (x), DV.int .i64 (y)] (encPt ⟨x, y⟩) := by
  refine pureCall_ofR dh81 rfl ?_
  conv => whnf
  repeat' (first
    | (refine ⟨fun hg => ?_, fun hg => ?_⟩ <;> first | contradiction | (conv => whnf))
    | (refine Or.inl ?_; conv => whnf)
    | (refine And.intro ?_ ?_; kernel_rfl; conv => whnf))
  rfl
theorem l_at (x y z : Int) : PC 82 [DV.int .i64 (x), DV.int .i64 (y), DV.int .i64 (z)] (encV ⟨x, y, z⟩) := by
  refine pureCall_ofR dh82 rfl ?_
  conv => whnf
  repeat' (first
    | (refine ⟨fun hg => ?_, fun hg => ?_⟩ <;> first | contradiction | (conv => whnf))
    | (refine Or.inl ?_; conv => whnf)
    | (refine And.intro ?_ ?_; kernel_rfl; conv => whnf))
  rfl
theorem l_ratio (x y : Int) : PC 87 [DV.int .i64 (x), DV.int .i64 (y)] (encR (x, y)) := by
  refine pureCall_ofR dh87 rfl ?_
  conv => whnf
  repeat' (first
    | (refine ⟨fun hg => ?_, fun hg => ?_⟩ <;> first | contradiction | (conv => whnf))
    | (refine Or.inl ?_; conv => whnf)
    | (refine And.intro ?_ ?_; kernel_rfl; conv => whnf))
  rfl
def findP (l : List Pt) (p : Pt) : Bool := l.any fun q => samePt q p
theorem s_Index (l : List Pt) (p : Pt) (hl : l.length < 1073741824) : ∃ n : Int, PC 155 [pts l, encPt p] (DV.int .i64 (n)) ∧ decide (0 ≤ n) = findP l p := by
  have e0 : ((l.map encPt).length : Int) = l.length := by simp
  cases hf : findP l p with
  | false =>
    refine ⟨-1, ?_, rfl⟩
    refine pureCall_ofR dh155 rfl ?_
    conv => whnf
    refine dwp_loopU (P := Tryz.prog) (G := GC) (k := dk155_0) (b := db155_0) (α := Nat) (fun i => [(8, DV.int .i64 (i))]) (fun _ => [(3, .box 2 (encPt p))]) (fun i => i ≤ l.length) (fun i => l.length - i) 0 (Nat.zero_le _) ?_
    conv => whnf
    refine ⟨rfl, rfl, ?_⟩
    conv => whnf
    refine ⟨rfl, ?_⟩
    intro i h1
    conv => whnf
    refine ⟨fun hb => ?_, fun hb => ?_⟩
    · have hi : i < l.length := by simpa using hb
      have hn : samePt (l.getD i P0) p = false := by
        unfold findP at hf
        rw [List.any_eq_false] at hf
        simpa using hf _ (getD_in P0 hi)
      clear hb
      conv => whnf
      repeat' (first
        | (refine ⟨fun hg => ?_, fun hg => ?_⟩ <;> first | contradiction | (conv => whnf))
        | (refine Or.inl ?_; conv => whnf)
        | (rw [getD_enc _ _ i P0 hi]; refine ⟨idxA hi rfl, ?_⟩; conv => whnf)
        | (refine And.intro ?_ ?_; kernel_rfl; conv => whnf))
      · exfalso
        have hg : (decide (p.x = (l.getD i P0).x) && (decide (p.y = (l.getD i P0).y) && true)) = true := hg
        simp only [Bool.and_true, Bool.and_eq_true, decide_eq_true_eq] at hg
        unfold samePt at hn
        rw [decide_eq_true hg.1.symm, decide_eq_true hg.2.symm] at hn
        cases hn
      · rw [wrap_succ i (by omega)]
        exact ⟨i + 1, rfl, rfl, rfl, hi, by omega⟩
    · clear hb
      conv => whnf
      rfl
  | true =>
    have hex : ∃ k, k < l.length ∧ samePt (l.getD k P0) p = true ∧ ∀ j, j < k → samePt (l.getD j P0) p = false := by
      clear e0 hl
      unfold findP at hf
      induction l with
      | nil => cases hf
      | cons a r ih =>
        cases ha : samePt a p with
        | true => exact ⟨0, by simp, ha, fun j hj => absurd hj (by omega)⟩
        | false =>
          rw [List.any_cons, ha, Bool.false_or] at hf
          obtain ⟨k, hk, h1, h2⟩ := ih hf
          refine ⟨k + 1, by simpa using hk, h1, fun j hj => ?_⟩
          cases j with
          | zero => exact ha
          | succ j => exact h2 j (by omega)
    obtain ⟨k, hk, h1, h2⟩ := hex
    refine ⟨(k : Int), ?_, decide_eq_true (by omega)⟩
    refine pureCall_ofR dh155 rfl ?_
    conv => whnf
    refine dwp_loopU (P := Tryz.prog) (G := GC) (k := dk155_0) (b := db155_0) (α := Nat) (fun i => [(8, DV.int .i64 (i))]) (fun _ => [(3, .box 2 (encPt p))]) (fun i => i ≤ k) (fun i => l.length - i) 0 (Nat.zero_le _) ?_
    conv => whnf
    refine ⟨rfl, rfl, ?_⟩
    conv => whnf
    refine ⟨rfl, ?_⟩
    intro i i1
    conv => whnf
    refine ⟨fun hb => ?_, fun hb => ?_⟩
    · have hi : i < l.length := by simpa using hb
      clear hb
      conv => whnf
      repeat' (first
        | (refine ⟨fun hg => ?_, fun hg => ?_⟩ <;> first | contradiction | (conv => whnf))
        | (refine Or.inl ?_; conv => whnf)
        | (rw [getD_enc _ _ i P0 hi]; refine ⟨idxA hi rfl, ?_⟩; conv => whnf)
        | (refine And.intro ?_ ?_; kernel_rfl; conv => whnf))
      · have hg : (decide (p.x = (l.getD i P0).x) && (decide (p.y = (l.getD i P0).y) && true)) = true := hg
        simp only [Bool.and_true, Bool.and_eq_true, decide_eq_true_eq] at hg
        have hik : i = k := by
          by_cases e : i = k
          · exact e
          · have := h2 i (by omega)
            unfold samePt at this
            rw [decide_eq_true hg.1.symm, decide_eq_true hg.2.symm] at this
            cases this
        subst hik
        rfl
      · have hg : (decide (p.x = (l.getD i P0).x) && (decide (p.y = (l.getD i P0).y) && true)) = false := hg
        have hik : i ≠ k := by
          intro e
          subst e
          unfold samePt at h1
          simp only [Bool.and_eq_true, decide_eq_true_eq] at h1
          rw [decide_eq_true h1.1.symm, decide_eq_true h1.2.symm] at hg
          cases hg
        rw [wrap_succ i (by omega)]
        exact ⟨i + 1, rfl, rfl, rfl, by show i + 1 ≤ k; omega, by show l.length - (i + 1) < l.length - i; omega⟩
    · have := of_decide_eq_false hb
      rw [e0] at this
      omega
theorem s_Contains (l : List Pt) (p : Pt) (hl : l.length < 1073741824) : PC 133 [pts l, encPt p] (.bool (findP l p)) := by
  obtain ⟨n, k1, hn⟩ := s_Index l p hl
  refine pureCall_ofR dh133 rfl ?_
  conv => whnf
  repeat' (first
    | (refine ⟨fun hg => ?_, fun hg => ?_⟩ <;> first | contradiction | (conv => whnf))
    | (refine Or.inl ?_; conv => whnf)
    | (refine ⟨_, k1, ?_⟩; conv => whnf)
    | (refine And.intro ?_ ?_; kernel_rfl; conv => whnf))
  exact bool_eq hn
end Sh


set_option maxRecDepth 100000
set_option linter.unusedSimpArgs false
set_option linter.unusedVariables false
namespace Sh
open Go Go.Proofs
theorem rng_getDI {m i : Nat} (f : Nat → Int) (h : i < m) : (rng m f).getD i 0 = f i := rng_getD f 0 h
theorem win_take {α : Type} (f : α → DV) (l : List α) (i : Nat) : window (l.map f) 0 i = (l.take i).map f := by simp [window, List.map_take]
theorem c_CheckTilts (l : List Pt) (hl : l.length < 1073741824) : PC 74 [pts l] (DV.int .i64 (chkTilts l)) := by
  have e0 : ((l.map encPt).length : Int) = l.length := by simp
  have k3 := c_first [whenE (decide (((l.map encPt).length : Int) = 0)) 12, whenE (decide (16 < ((l.map encPt).length : Int))) 5] (by simp)
  have hS : firstE [whenE (decide (((l.map encPt).length : Int) = 0)) 12, whenE (decide (16 < ((l.map encPt).length : Int))) 5] = sizeT_ l := by rw [e0]; rfl
  refine pureCall_ofR dh74 rfl ?_
  conv => whnf
  repeat' (first
    | (refine ⟨fun hg => ?_, fun hg => ?_⟩ <;> first | contradiction | (conv => whnf))
    | (refine Or.inl ?_; conv => whnf)
    | (refine ⟨_, c_when .., ?_⟩; conv => whnf)
    | (refine ⟨_, k3, ?_⟩; conv => whnf)
    | (refine And.intro ?_ ?_; kernel_rfl; conv => whnf))
  · have hg := of_decide_eq_true hg
    rw [hS] at hg ⊢
    exact int_eq (by unfold chkTilts; rw [if_pos hg])
  · have hg := of_decide_eq_false hg
    rw [hS] at hg
    have hc : chkTilts l = firstE (rng l.length (tiltI l)) := if_neg hg
    clear hg hS k3
    refine dwp_loopU (P := Tryz.prog) (G := GC) (k := dk74_0) (b := db74_0) (α := Nat) (fun i => [(22, DV.int .i64 (i))]) (fun _ => []) (fun i => i ≤ l.length ∧ firstE (rng l.length (tiltI l)) = firstE ((rng l.length (tiltI l)).drop i)) (fun i => l.length - i) 0 ⟨Nat.zero_le _, rfl⟩ ?_
    conv => whnf
    refine ⟨rfl, rfl, ?_⟩
    conv => whnf
    refine ⟨rfl, ?_⟩
    intro i ⟨h1, h2⟩
    conv => whnf
    refine ⟨fun hb => ?_, fun hb => ?_⟩
    · have hi : i < l.length := by simpa using hb
      have hd := firstE_drop (rng l.length (tiltI l)) i (by rw [rng_len]; exact hi)
      rw [rng_getDI _ hi] at hd
      have k1 := c_checkTilt (l.getD i P0)
      have k2 := s_Contains (l.take i) (l.getD i P0) (by rw [List.length_take]; omega)
      have k4 := c_first [chkTilt (l.getD i P0), whenE (findP (l.take i) (l.getD i P0)) 9] (by simp)
      clear hb
      conv => whnf
      rw [getD_enc _ _ (i) P0 hi]
      refine ⟨idxA hi rfl, ?_⟩
      conv => whnf
      repeat' (first
        | (refine ⟨fun hg => ?_, fun hg => ?_⟩ <;> first | contradiction | (conv => whnf))
        | (refine Or.inl ?_; conv => whnf)
        | (refine ⟨_, k1, ?_⟩; conv => whnf)
        | (refine And.intro ?_ ?_; kernel_rfl; conv => whnf))
      refine ⟨⟨by decide, by omega, by rw [e0]; omega, fun e he => by obtain ⟨v, _, rfl⟩ := List.mem_map.1 he; rfl⟩, ?_⟩
      have hwn : window (l.map encPt) (Int.toNat 0) ((i : Int) - 0).toNat = (l.take i).map encPt := by
        rw [Int.sub_zero, Int.toNat_natCast]; exact win_take encPt l i
      rw [hwn]
      conv => whnf
      repeat' (first
        | (refine ⟨fun hg => ?_, fun hg => ?_⟩ <;> first | contradiction | (conv => whnf))
        | (refine Or.inl ?_; conv => whnf)
        | (refine ⟨_, k2, ?_⟩; conv => whnf)
        | (refine ⟨_, c_when .., ?_⟩; conv => whnf)
        | (refine ⟨_, k4, ?_⟩; conv => whnf)
        | (refine And.intro ?_ ?_; kernel_rfl; conv => whnf))
      · have hg : tiltI l i ≠ 0 := of_decide_eq_true hg
        rw [if_pos hg] at hd
        exact int_eq (by rw [hc, h2, hd]; rfl)
      · have hg : ¬ tiltI l i ≠ 0 := of_decide_eq_false hg
        rw [if_neg hg] at hd
        rw [wrap_succ i (by omega)]
        exact ⟨i + 1, rfl, rfl, rfl, ⟨hi, h2.trans hd⟩, by omega⟩
    · have hi : i = l.length := by have := of_decide_eq_false hb; rw [e0] at this; omega
      rw [hi, List.drop_of_length_le (by rw [rng_len]; exact Nat.le_refl _)] at h2
      clear hb
      conv => whnf
      exact int_eq (by rw [hc, h2]; rfl)
end Sh


set_option maxRecDepth 100000
set_option linter.unusedSimpArgs false
set_option linter.unusedVariables false
namespace Sh
open Go Go.Proofs
end Sh


set_option maxRecDepth 100000
set_option linter.unusedSimpArgs false
set_option linter.unusedVariables false
namespace Sh
open Go Go.Proofs
def rul0 (n : Int) : Int := if n < 0 then 0 else n
end Sh


set_option maxRecDepth 100000
set_option linter.unusedSimpArgs false
set_option linter.unusedVariables false
namespace Sh
open Go Go.Proofs
def trI (l : List Pt) (p : Pt) (v : V3) : Int := if 0 < v.z then ruleS l p v else -1
end Sh


set_option maxRecDepth 100000
set_option linter.unusedSimpArgs false
set_option linter.unusedVariables false
namespace Sh
open Go Go.Proofs
theorem cmp_isNaN (a : Int) : PC 173 [DV.int .i64 (a)] (.bool false) := by
  refine pureCall_ofR dh173 rfl ?_
  conv => whnf
  exact bool_eq (by simp)
theorem cmp_Compare (a b : Int) : PC 164 [DV.int .i64 (a), DV.int .i64 (b)] (DV.int .i64 (if a < b then -1 else if b < a then 1 else 0)) := by
  refine pureCall_ofR dh164 rfl ?_
  conv => whnf
  repeat' (first
    | (refine ⟨fun hg => ?_, fun hg => ?_⟩ <;> first | contradiction | (conv => whnf))
    | (refine Or.inl ?_; conv => whnf)
    | (refine ⟨_, cmp_isNaN .., ?_⟩; conv => whnf)
    | (refine And.intro ?_ ?_; kernel_rfl; conv => whnf))
  all_goals simp only [decide_eq_true_eq, decide_eq_false_iff_not] at hg
  · exact int_eq (by rw [if_pos hg])
  · rename_i hq
    have hq := of_decide_eq_false hq
    exact int_eq (by rw [if_neg hq, if_pos hg])
  · rename_i hq
    have hq := of_decide_eq_false hq
    exact int_eq (by rw [if_neg hq, if_neg hg])
theorem c_compare (p q : Pt) (k m a b : Int) : PC 153 [encCh p k a, encCh q m b] (DV.int .i64 (if a < b then -1 else if b < a then 1 else 0)) := by
  refine pureCall_ofR dh153 rfl ?_
  conv => whnf
  repeat' (first
    | (refine ⟨fun hg => ?_, fun hg => ?_⟩ <;> first | contradiction | (conv => whnf))
    | (refine Or.inl ?_; conv => whnf)
    | (refine ⟨_, cmp_Compare .., ?_⟩; conv => whnf)
    | (refine And.intro ?_ ?_; kernel_rfl; conv => whnf))
  rfl
def chD (l : List Pt) (sun : V3) (k : Nat) : DV := encCh (l.getD k P0) k (acr (l.getD k P0) sun)
def mxF (l : List Pt) (sun : V3) (ks : List Nat) : Nat → Nat
  | 0 => ks.getD 0 0
  | i + 1 => if acr (l.getD (mxF l sun ks i) P0) sun < acr (l.getD (ks.getD (i + 1) 0) P0) sun then ks.getD (i + 1) 0 else mxF l sun ks i
theorem s_MaxFunc (l : List Pt) (sun : V3) (ks : List Nat) (hn : 0 < ks.length) (hl : ks.length < 1073741824) : PC 154 [.list (ks.map (chD l sun)), .func 153 []] (chD l sun (mxF l sun ks (ks.length - 1))) := by
  have e0 : ((ks.map (chD l sun)).length : Int) = ks.length := by simp
  refine pureCall_ofR dh154 rfl ?_
  conv => whnf
  refine ⟨fun hb => ?_, fun hb => ?_⟩
  · have := of_decide_eq_true hb; rw [e0] at this; omega
  clear hb
  conv => whnf
  rw [getD_enc' _ _ 0 0 (by decide) (by omega)]
  refine ⟨idxB (by decide) (by omega) rfl, ?_⟩
  conv => whnf
  refine dwp_loopU (P := Tryz.prog) (G := GC) (k := dk154_0) (b := db154_0) (α := Nat) (fun i => [(6, DV.int .i64 ((i + 1 : Nat)))]) (fun i => [(4, .box 4 (.agg [DV.int .i64 (0), DV.int .i64 (0), DV.int .i64 (0), DV.int .i64 (0)])), (5, .box 4 (chD l sun (mxF l sun ks i)))]) (fun i => i + 1 ≤ ks.length) (fun i => ks.length - i) 0 hn ?_
  conv => whnf
  refine ⟨rfl, rfl, ?_⟩
  conv => whnf
  refine ⟨rfl, ?_⟩
  intro i h1
  conv => whnf
  refine ⟨fun hb => ?_, fun hb => ?_⟩
  · have hi : i + 1 < ks.length := by have := of_decide_eq_true hb; rw [e0] at this; omega
    have hm : mxF l sun ks (i + 1) = if acr (l.getD (mxF l sun ks i) P0) sun < acr (l.getD (ks.getD (i + 1) 0) P0) sun then ks.getD (i + 1) 0 else mxF l sun ks i := rfl
    have k1 := c_compare (l.getD (ks.getD (i + 1) 0) P0) (l.getD (mxF l sun ks i) P0) (ks.getD (i + 1) 0 : Nat) (mxF l sun ks i : Nat) (acr (l.getD (ks.getD (i + 1) 0) P0) sun) (acr (l.getD (mxF l sun ks i) P0) sun)
    clear hb
    conv => whnf
    rw [getD_enc _ _ (i + 1) 0 hi]
    refine ⟨idxA hi rfl, ?_⟩
    conv => whnf
    repeat' (first
      | (refine ⟨fun hg => ?_, fun hg => ?_⟩ <;> first | contradiction | (conv => whnf))
      | (refine Or.inl ?_; conv => whnf)
      | (refine ⟨_, k1, ?_⟩; conv => whnf)
      | (rw [getD_enc _ _ (i + 1) 0 hi]; refine ⟨idxA hi rfl, ?_⟩; conv => whnf)
      | (refine And.intro ?_ ?_; kernel_rfl; conv => whnf))
    · have hg := of_decide_eq_true hg
      have hlt : acr (l.getD (mxF l sun ks i) P0) sun < acr (l.getD (ks.getD (i + 1) 0) P0) sun := by
        split at hg
        · omega
        · split at hg
          · assumption
          · omega
      rw [if_pos hlt] at hm
      rw [wrap_succ (i + 1) (by omega)]
      refine ⟨i + 1, rfl, rfl, ?_, hi, by omega⟩
      rw [hm]; rfl
    · have hg := of_decide_eq_false hg
      have hlt : ¬ acr (l.getD (mxF l sun ks i) P0) sun < acr (l.getD (ks.getD (i + 1) 0) P0) sun := fun h => by
        rw [if_neg (by omega), if_pos h] at hg
        omega
      rw [if_neg hlt] at hm
      rw [wrap_succ (i + 1) (by omega)]
      refine ⟨i + 1, rfl, rfl, ?_, hi, by omega⟩
      rw [hm]; rfl
  · have hi : i = ks.length - 1 := by have := of_decide_eq_false hb; rw [e0] at this; omega
    clear hb
    conv => whnf
    rw [hi]
    repeat' (first
      | (refine ⟨fun hg => ?_, fun hg => ?_⟩ <;> first | contradiction | (conv => whnf))
      | (refine Or.inl ?_; conv => whnf)
      | (refine And.intro ?_ ?_; kernel_rfl; conv => whnf))
    rfl
end Sh


set_option maxRecDepth 100000
set_option linter.unusedSimpArgs false
set_option linter.unusedVariables false
namespace Sh
open Go Go.Proofs
def frL (l : List Pt) (p : Pt) (sun : V3) (i : Nat) : List Nat := (List.range i).filter fun k => freeB (l.getD k P0) p sun
theorem frL_len (l : List Pt) (p : Pt) (sun : V3) (i : Nat) : (frL l p sun i).length ≤ i := by
  have := List.length_filter_le (fun k => freeB (l.getD k P0) p sun) (List.range i)
  rwa [List.length_range] at this
theorem frL_yes {l : List Pt} {p : Pt} {sun : V3} {i : Nat} (h : freeB (l.getD i P0) p sun = true) : frL l p sun (i + 1) = frL l p sun i ++ [i] := by
  unfold frL; rw [List.range_succ, List.filter_append, List.filter_cons, h]; simp
theorem frL_no {l : List Pt} {p : Pt} {sun : V3} {i : Nat} (h : freeB (l.getD i P0) p sun = false) : frL l p sun (i + 1) = frL l p sun i := by
  unfold frL; rw [List.range_succ, List.filter_append, List.filter_cons, h]; simp
theorem mxF_app (l : List Pt) (sun : V3) (ks : List Nat) (x : Nat) : ∀ i, i < ks.length → mxF l sun (ks ++ [x]) i = mxF l sun ks i
  | 0, h => by unfold mxF; simp [List.getD_eq_getElem?_getD, List.getElem?_append, h]
  | i + 1, h => by
    have hx : (ks ++ [x]).getD (i + 1) 0 = ks.getD (i + 1) 0 := by simp [List.getD_eq_getElem?_getD, List.getElem?_append, h]
    unfold mxF
    rw [mxF_app l sun ks x i (by omega), hx]
theorem rulB_mx (l : List Pt) (p : Pt) (sun : V3) : ∀ i, rulB l p sun i = if (frL l p sun i).length = 0 then (-1 : Int) else ((mxF l sun (frL l p sun i) ((frL l p sun i).length - 1) : Nat) : Int)
  | 0 => rfl
  | i + 1 => by
    have ih := rulB_mx l p sun i
    have hr : rulB l p sun (i + 1) = if freeB (l.getD i P0) p sun && (decide (rulB l p sun i < 0) || decide (acr (l.getD (rulB l p sun i).toNat P0) sun < acr (l.getD i P0) sun)) then (i : Int) else rulB l p sun i := rfl
    rw [hr]
    cases hf : freeB (l.getD i P0) p sun with
    | false => rw [frL_no hf, ← ih]; rfl
    | true =>
      rw [frL_yes hf]
      generalize frL l p sun i = ks at *
      rw [List.length_append, List.length_singleton, if_neg (show ¬ ks.length + 1 = 0 by omega), Nat.add_sub_cancel]
      by_cases hk : ks.length = 0
      · have : ks = [] := List.length_eq_zero_iff.1 hk
        subst this
        have ih : rulB l p sun i = -1 := ih
        rw [ih]; rfl
      · rw [if_neg hk] at ih
        obtain ⟨m, hm⟩ : ∃ m, ks.length = m + 1 := ⟨ks.length - 1, by omega⟩
        rw [hm, Nat.add_sub_cancel] at ih
        have hx : (ks ++ [i]).getD (m + 1) 0 = i := by simp [List.getD_eq_getElem?_getD, ← hm]
        rw [hm]
        unfold mxF
        rw [mxF_app l sun ks i m (by omega), hx, ih, Int.toNat_natCast, decide_eq_false (show ¬ ((mxF l sun ks m : Nat) : Int) < 0 by omega), Bool.false_or, Bool.true_and]
        by_cases h : acr (l.getD (mxF l sun ks m) P0) sun < acr (l.getD i P0) sun
        · rw [decide_eq_true h, if_pos rfl, if_pos h]
        · rw [decide_eq_false h, if_neg (by decide), if_neg h]
end Sh


set_option maxRecDepth 100000
set_option linter.unusedSimpArgs false
set_option linter.unusedVariables false
namespace Sh
open Go Go.Proofs
def chR (l : List Pt) (p : Pt) (sun : V3) (i : Nat) : List DV := (frL l p sun i).map (chD l sun)
theorem chR_yes {l : List Pt} {p : Pt} {sun : V3} {i : Nat} (h : freeB (l.getD i P0) p sun = true) : chR l p sun (i + 1) = chR l p sun i ++ [chD l sun i] := by unfold chR; rw [frL_yes h, List.map_append]; rfl
theorem chR_no {l : List Pt} {p : Pt} {sun : V3} {i : Nat} (h : freeB (l.getD i P0) p sun = false) : chR l p sun (i + 1) = chR l p sun i := by unfold chR; rw [frL_no h]
theorem chR_len (l : List Pt) (p : Pt) (sun : V3) (i : Nat) : (chR l p sun i).length ≤ i := by unfold chR; rw [List.length_map]; exact frL_len l p sun i
theorem c_rule (l : List Pt) (p : Pt) (sun : V3) (h0 : chkTilts l = 0) (hp : OkP p) (hs : bdV 1000 sun) : PC 129 [pts l, encPt p, encV sun] (DV.int .i64 (ruleS l p sun)) := by
  have e0 : ((l.map encPt).length : Int) = l.length := by simp
  have h16 := (chkTilts_zero h0).2.1
  have hT : ∀ q ∈ l, OkP q := fun q hq => chkTilt_ok ((chkTilts_zero h0).2.2 q hq)
  have hmx : ruleS l p sun = _ := rulB_mx l p sun l.length
  refine pureCall_ofR dh129 rfl ?_
  conv => whnf
  refine dwp_loopU (P := Tryz.prog) (G := GC) (k := dk129_0) (b := db129_0) (α := Nat) (fun i => [(7, .own 7 0 (chR l p sun i).length (chR l p sun i).length), (14, DV.int .i64 (i))]) (fun i => [(4, .box 2 (encPt p)), (5, .box 3 (encV sun)), (7, .row 4 (chR l p sun i) false)]) (fun i => i ≤ l.length) (fun i => l.length - i) 0 (Nat.zero_le _) ?_
  conv => whnf
  refine ⟨rfl, rfl, ?_⟩
  conv => whnf
  refine ⟨rfl, ?_⟩
  intro i j1
  conv => whnf
  refine ⟨fun hb => ?_, fun hb => ?_⟩
  · have hi : i < l.length := by simpa using hb
    have hq := hT _ (getD_in P0 hi)
    have hln := chR_len l p sun i
    have k1 := c_chosen _ (i : Int) sun hq hs
    have k2 := c_width (l.getD i P0) (i : Int) _ (acr_bd hq.1 hq.2 hs)
    have k3 := c_room p sun hp hs
    clear hb
    conv => whnf
    rw [getD_enc _ _ (i) P0 hi]
    refine ⟨idxA hi rfl, ?_⟩
    conv => whnf
    repeat' (first
      | (refine ⟨fun hg => ?_, fun hg => ?_⟩ <;> first | contradiction | (conv => whnf))
      | (refine Or.inl ?_; conv => whnf)
      | (refine ⟨_, k1, ?_⟩; conv => whnf)
      | (refine ⟨_, k2, ?_⟩; conv => whnf)
      | (refine ⟨_, k3, ?_⟩; conv => whnf)
      | (refine ⟨⟨rfl, rfl, rfl, by simp; omega, fun e he => by simp at he; subst he; rfl⟩, ?_⟩; conv => whnf)
      | (refine And.intro ?_ ?_; kernel_rfl; conv => whnf))
    · have hg : freeB (l.getD i P0) p sun = true := hg
      rw [wrap_succ i (by omega)]
      refine ⟨i + 1, rfl, ?_, ?_, hi, by omega⟩
      · rw [chR_yes hg]; rfl
      · rw [chR_yes hg]; rfl
    · have hg : freeB (l.getD i P0) p sun = false := hg
      rw [wrap_succ i (by omega)]
      refine ⟨i + 1, rfl, ?_, ?_, hi, by omega⟩
      · rw [chR_no hg]; rfl
      · rw [chR_no hg]; rfl
  · have hi : i = l.length := by have := of_decide_eq_false hb; rw [e0] at this; omega
    have hlc : (chR l p sun l.length).length = (frL l p sun l.length).length := by unfold chR; rw [List.length_map]
    have hfl := frL_len l p sun l.length
    clear hb
    conv => whnf
    rw [hi]
    repeat' (first
      | (refine ⟨fun hg => ?_, fun hg => ?_⟩ <;> first | contradiction | (conv => whnf))
      | (refine Or.inl ?_; conv => whnf)
      | (refine And.intro ?_ ?_; kernel_rfl; conv => whnf))
    · have hg := of_decide_eq_true hg
      rw [hlc] at hg
      exact int_eq (by rw [hmx, if_pos (by omega)])
    · have hg := of_decide_eq_false hg
      rw [hlc] at hg
      have kM := s_MaxFunc l sun (frL l p sun l.length) (by omega) (by omega)
      rw [window_full]
      refine ⟨_, kM, ?_⟩
      conv => whnf
      repeat' (first
        | (refine ⟨fun hg => ?_, fun hg => ?_⟩ <;> first | contradiction | (conv => whnf))
        | (refine Or.inl ?_; conv => whnf)
        | (refine And.intro ?_ ?_; kernel_rfl; conv => whnf))
      exact int_eq (by rw [hmx, if_neg (by omega)])
end Sh


set_option maxRecDepth 100000
set_option linter.unusedSimpArgs false
set_option linter.unusedVariables false
namespace Sh
open Go Go.Proofs
def rlE (l : List Pt) (p : Pt) (sun : V3) : Int := firstE [chkTilts l, chkPitch p, chkSun sun]
def rlS (l : List Pt) (p : Pt) (sun : V3) : Int × Int := if rlE l p sun ≠ 0 then (0, rlE l p sun) else (rul0 (ruleS l p sun), if ruleS l p sun < 0 then 7 else 0)
theorem c_Rule (l : List Pt) (p : Pt) (sun : V3) (hl : l.length < 1073741824) : PC 65 [pts l, encPt p, encV sun] (.tuple [DV.int .i64 ((rlS l p sun).1), DV.int .i64 ((rlS l p sun).2)]) := by
  have k1 := c_CheckTilts l hl
  have k2 := c_checkPitch p
  have k3 := c_CheckSun sun
  have k4 := c_first [chkTilts l, chkPitch p, chkSun sun] (by simp)
  refine pureCall_ofR dh65 rfl ?_
  conv => whnf
  repeat' (first
    | (refine ⟨fun hg => ?_, fun hg => ?_⟩ <;> first | contradiction | (conv => whnf))
    | (refine Or.inl ?_; conv => whnf)
    | (refine ⟨_, k1, ?_⟩; conv => whnf)
    | (refine ⟨_, k2, ?_⟩; conv => whnf)
    | (refine ⟨_, k3, ?_⟩; conv => whnf)
    | (refine ⟨_, k4, ?_⟩; conv => whnf)
    | (refine And.intro ?_ ?_; kernel_rfl; conv => whnf))
  · have e : rlS l p sun = (0, rlE l p sun) := if_pos (of_decide_eq_true hg)
    rw [e]; rfl
  · have hg := of_decide_eq_false hg
    have e : rlS l p sun = (rul0 (ruleS l p sun), if ruleS l p sun < 0 then 7 else 0) := if_neg hg
    obtain ⟨z1, h⟩ := firstE_cons (Classical.not_not.1 hg)
    obtain ⟨z2, h⟩ := firstE_cons h
    obtain ⟨z3, h⟩ := firstE_cons h
    have k5 := c_rule l p sun z1 (chkPitch_ok z2) (chkSun_zero z3).1
    have hbd := rulB_bd l p sun l.length
    change -1 ≤ ruleS l p sun ∧ ruleS l p sun < _ at hbd
    clear hg h
    repeat' (first
      | (refine ⟨fun hg => ?_, fun hg => ?_⟩ <;> first | contradiction | (conv => whnf))
      | (refine Or.inl ?_; conv => whnf)
      | (refine ⟨_, k5, ?_⟩; conv => whnf)
      | (refine And.intro ?_ ?_; kernel_rfl; conv => whnf))
    · have hg : ruleS l p sun = -1 := of_decide_eq_true hg
      rw [e, hg]; rfl
    · have hg : ¬ ruleS l p sun = -1 := of_decide_eq_false hg
      rw [e]
      unfold rul0
      rw [if_neg (by omega), if_neg (by omega)]; rfl
end Sh


set_option maxRecDepth 100000
set_option linter.unusedSimpArgs false
set_option linter.unusedVariables false
namespace Sh
open Go Go.Proofs
def wallL : List V3 := [⟨0, 0, 0⟩, ⟨4, 0, 0⟩, ⟨4, 0, 4⟩, ⟨0, 0, 4⟩]
theorem l_wall : PC 84 [] (shp wallL) := by
  refine pureCall_ofR dh84 rfl ?_
  conv => whnf
  repeat' (first
    | (refine ⟨fun hg => ?_, fun hg => ?_⟩ <;> first | contradiction | (conv => whnf))
    | (refine Or.inl ?_; conv => whnf)
    | (refine ⟨_, l_at .., ?_⟩; conv => whnf)
    | (refine And.intro ?_ ?_; kernel_rfl; conv => whnf))
  rfl
def tiltL : List Pt := [⟨5, 0⟩, ⟨4, -3⟩, ⟨3, -4⟩]
theorem l_tilts : PC 88 [] (pts tiltL) := by
  refine pureCall_ofR dh88 rfl ?_
  conv => whnf
  repeat' (first
    | (refine ⟨fun hg => ?_, fun hg => ?_⟩ <;> first | contradiction | (conv => whnf))
    | (refine Or.inl ?_; conv => whnf)
    | (refine ⟨_, l_spot .., ?_⟩; conv => whnf)
    | (refine And.intro ?_ ?_; kernel_rfl; conv => whnf))
  rfl
def sqrB : Bx := ⟨⟨0, 0⟩, ⟨6, 6⟩⟩
theorem l_square : PC 85 [] (encB sqrB) := by
  refine pureCall_ofR dh85 rfl ?_
  conv => whnf
  repeat' (first
    | (refine ⟨fun hg => ?_, fun hg => ?_⟩ <;> first | contradiction | (conv => whnf))
    | (refine Or.inl ?_; conv => whnf)
    | (refine ⟨_, l_spot .., ?_⟩; conv => whnf)
    | (refine And.intro ?_ ?_; kernel_rfl; conv => whnf))
  rfl
end Sh


set_option maxRecDepth 100000
set_option linter.unusedSimpArgs false
set_option linter.unusedVariables false
namespace Sh
open Go Go.Proofs
def inB (l : List Pt) (n : Int) : Bool := decide (n < 0) || decide ((l.length : Int) ≤ n)
def crE (l : List Pt) (p : Pt) (sun : V3) (n : Int) : Int := firstE [chkTilts l, chkPitch p, chkSun sun, whenE (inB l n) 10]
def crS (l : List Pt) (p : Pt) (sun : V3) (n : Int) : Int := if crE l p sun n ≠ 0 then crE l p sun n else firstE [whenE (!freeB (l.getD n.toNat P0) p sun) 32, whenE (decide (ruleS l p sun ≠ n)) 19]
theorem c_CheckRule (l : List Pt) (p : Pt) (sun : V3) (n : Int) (hl : l.length < 1073741824) : PC 67 [pts l, encPt p, encV sun, DV.int .i64 (n)] (DV.int .i64 (crS l p sun n)) := by
  have e0 : ((l.map encPt).length : Int) = l.length := by simp
  have k1 := c_CheckTilts l hl
  have k2 := c_checkPitch p
  have k3 := c_CheckSun sun
  have hB : inB l n = (decide (n < 0) || decide (((l.map encPt).length : Int) ≤ n)) := by rw [e0]; rfl
  have hE : crE l p sun n = firstE [chkTilts l, chkPitch p, chkSun sun, whenE (inB l n) 10] := rfl
  refine pureCall_ofR dh67 rfl ?_
  conv => whnf
  repeat' (first
    | (refine ⟨fun hg => ?_, fun hg => ?_⟩ <;> first | contradiction | (conv => whnf))
    | (refine Or.inl ?_; conv => whnf)
    | (refine ⟨_, k1, ?_⟩; conv => whnf)
    | (refine ⟨_, k2, ?_⟩; conv => whnf)
    | (refine ⟨_, k3, ?_⟩; conv => whnf)
    | (refine ⟨_, c_when .., ?_⟩; conv => whnf)
    | (refine ⟨_, c_first [_, _, _, _] (by simp), ?_⟩; conv => whnf)
    | (refine And.intro ?_ ?_; kernel_rfl; conv => whnf))
  · rw [‹decide (n < 0) = false›, Bool.false_or] at hB
    have hg := of_decide_eq_true hg
    have hx : crE l p sun n ≠ 0 := by rw [hE, hB]; exact hg
    exact int_eq (by unfold crS; rw [if_pos hx, hE, hB]; rfl)
  · have hn : ¬ n < 0 := of_decide_eq_false ‹decide (n < 0) = false›
    rw [‹decide (n < 0) = false›, Bool.false_or] at hB
    have hg := of_decide_eq_false hg
    have hx : ¬ crE l p sun n ≠ 0 := by rw [hE, hB]; exact hg
    have hz := Classical.not_not.1 hx
    have hS : crS l p sun n = firstE [whenE (!freeB (l.getD n.toNat P0) p sun) 32, whenE (decide (ruleS l p sun ≠ n)) 19] := by unfold crS; rw [if_neg hx]
    rw [hE] at hz
    obtain ⟨z1, h⟩ := firstE_cons hz
    obtain ⟨z2, h⟩ := firstE_cons h
    obtain ⟨z3, h⟩ := firstE_cons h
    obtain ⟨z4, h⟩ := firstE_cons h
    have hlt := of_decide_eq_false (hB.symm.trans (whenE_zero z4 (by decide)))
    rw [e0] at hlt
    have hm := getD_in (l := l) P0 (i := n.toNat) (by omega)
    have hf0 : frE (l.getD n.toNat P0) p sun = 0 := by unfold frE; rw [(chkTilts_zero z1).2.2 _ hm, z2, z3]; rfl
    have hfs : frS (l.getD n.toNat P0) p sun = (freeB (l.getD n.toNat P0) p sun, 0) := if_neg (fun h => h hf0)
    have k5 := c_Free (l.getD n.toNat P0) p sun
    rw [hfs] at k5
    have k6 := c_rule l p sun z1 (chkPitch_ok z2) (chkSun_zero z3).1
    have k7 := c_first [whenE (!freeB (l.getD n.toNat P0) p sun) 32, whenE (decide (ruleS l p sun ≠ n)) 19] (by simp)
    clear hg hx h hz
    rw [getD_enc' _ _ n P0 (by omega) (by omega)]
    refine ⟨idxB (by omega) (by omega) rfl, ?_⟩
    conv => whnf
    repeat' (first
      | (refine ⟨fun hg => ?_, fun hg => ?_⟩ <;> first | contradiction | (conv => whnf))
      | (refine Or.inl ?_; conv => whnf)
      | (refine ⟨_, k5, ?_⟩; conv => whnf)
      | (refine ⟨_, k6, ?_⟩; conv => whnf)
      | (refine ⟨_, c_when .., ?_⟩; conv => whnf)
      | (refine ⟨_, k7, ?_⟩; conv => whnf)
      | (refine And.intro ?_ ?_; kernel_rfl; conv => whnf))
    rw [hS]; rfl
  all_goals
    have hn : decide (n < 0) = true := by first | assumption | exact ‹decide (n < 0) = !false›
    rw [hn, Bool.true_or] at hB
  · have hg := of_decide_eq_true hg
    have hx : crE l p sun n ≠ 0 := by rw [hE, hB]; exact hg
    exact int_eq (by unfold crS; rw [if_pos hx, hE, hB])
  · exfalso
    have hg := Classical.not_not.1 (of_decide_eq_false hg)
    obtain ⟨_, h⟩ := firstE_cons hg
    obtain ⟨_, h⟩ := firstE_cons h
    obtain ⟨_, h⟩ := firstE_cons h
    obtain ⟨h, _⟩ := firstE_cons h
    exact absurd h (by decide)
end Sh


set_option maxRecDepth 100000
set_option linter.unusedSimpArgs false
set_option linter.unusedVariables false
namespace Sh
open Go Go.Proofs
def chkTv (v : V3) : Int := firstE [withE v.x (-1000) 1000, withE v.y (-1000) 1000, withE v.z (-1000) 1000]
theorem c_Tracked1 (v : V3) : PC 130 [encV v] (DV.int .i64 (chkTv v)) := by
  have k1 := c_checkParts v 1000 (by omega)
  refine pureCall_ofR dh130 rfl ?_
  conv => whnf
  repeat' (first
    | (refine ⟨fun hg => ?_, fun hg => ?_⟩ <;> first | contradiction | (conv => whnf))
    | (refine Or.inl ?_; conv => whnf)
    | (refine ⟨_, k1, ?_⟩; conv => whnf)
    | (refine And.intro ?_ ?_; kernel_rfl; conv => whnf))
  rfl
theorem c_Tracked2 (l : List Pt) (p : Pt) (v : V3) (h0 : chkTilts l = 0) (hp : OkP p) (hs : bdV 1000 v) : PC 132 [encV v, .ip (pts l), .ip (encPt p)] (DV.int .i64 (trI l p v)) := by
  have k1 := c_rule l p v h0 hp hs
  have hv : trI l p v = if 0 < v.z then ruleS l p v else -1 := rfl
  refine pureCall_ofR dh132 rfl ?_
  conv => whnf
  repeat' (first
    | (refine ⟨fun hg => ?_, fun hg => ?_⟩ <;> first | contradiction | (conv => whnf))
    | (refine Or.inl ?_; conv => whnf)
    | (refine ⟨_, k1, ?_⟩; conv => whnf)
    | (refine And.intro ?_ ?_; kernel_rfl; conv => whnf))
  · have hg : v.z ≤ 0 := of_decide_eq_true hg
    rw [hv, if_neg (by omega)]; rfl
  · have hg : ¬ v.z ≤ 0 := of_decide_eq_false hg
    rw [hv, if_pos (by omega)]; rfl
theorem c_mapT (vs : List V3) (f : FuncId) (l : List Pt) (p : Pt) (g : V3 → Int) (hl : vs.length < 1073741824) (hf : ∀ v ∈ vs, PC f [encV v, .ip (pts l), .ip (encPt p)] (DV.int .i64 (g v))) : PC 131 [.list (vs.map encV), .func f [.ip (pts l), .ip (encPt p)]] (iL (vs.map g)) := by
  have e0 : ((vs.map encV).length : Int) = vs.length := by simp
  refine pureCall_ofR dh131 rfl ?_
  conv => whnf
  refine dwp_loopU (P := Tryz.prog) (G := GC) (k := dk131_0) (b := db131_0) (α := Nat) (fun i => [(5, .own 5 0 (oI g vs i).length (oI g vs i).length), (10, DV.int .i64 (i))]) (fun i => [(5, .row 1 (oI g vs i) false)]) (fun i => i ≤ vs.length) (fun i => vs.length - i) 0 (Nat.zero_le _) ?_
  conv => whnf
  refine ⟨rfl, rfl, ?_⟩
  conv => whnf
  refine ⟨rfl, ?_⟩
  intro i h1
  conv => whnf
  refine ⟨fun hb => ?_, fun hb => ?_⟩
  · have hi : i < vs.length := by simpa using hb
    have k1 := hf _ (getD_in V0 hi)
    have hln := oI_len g vs i h1
    clear hb
    conv => whnf
    rw [getD_enc _ _ (i) V0 hi]
    refine ⟨idxA hi rfl, ?_⟩
    conv => whnf
    repeat' (first
      | (refine ⟨fun hg => ?_, fun hg => ?_⟩ <;> first | contradiction | (conv => whnf))
      | (refine Or.inl ?_; conv => whnf)
      | (refine ⟨_, k1, ?_⟩; conv => whnf)
      | (refine ⟨⟨rfl, rfl, rfl, by rw [hln]; simp; omega, fun e he => by simp at he; subst he; rfl⟩, ?_⟩; conv => whnf)
      | (refine And.intro ?_ ?_; kernel_rfl; conv => whnf))
    rw [wrap_succ i (by omega)]
    refine ⟨i + 1, rfl, ?_, ?_, hi, by omega⟩
    · rw [oI_succ g vs i V0 hi]; rfl
    · rw [oI_succ g vs i V0 hi]; rfl
  · have hi : i = vs.length := by have := of_decide_eq_false hb; rw [e0] at this; omega
    clear hb
    conv => whnf
    exact ⟨rfl, by rw [window_full, hi, oI_all]; rfl⟩
theorem l_low : PC 86 [] (shp [⟨2, 0, 0⟩, ⟨6, 0, 0⟩, ⟨6, 0, 2⟩, ⟨2, 0, 2⟩]) := by
  refine pureCall_ofR dh86 rfl ?_
  conv => whnf
  repeat' (first
    | (refine ⟨fun hg => ?_, fun hg => ?_⟩ <;> first | contradiction | (conv => whnf))
    | (refine Or.inl ?_; conv => whnf)
    | (refine ⟨_, l_at .., ?_⟩; conv => whnf)
    | (refine And.intro ?_ ?_; kernel_rfl; conv => whnf))
  rfl
end Sh


set_option maxRecDepth 100000
set_option linter.unusedSimpArgs false
set_option linter.unusedVariables false
namespace Sh
open Go Go.Proofs
theorem chkTv_zero {v : V3} (h : chkTv v = 0) : bdV 1000 v := by
  unfold chkTv at h
  obtain ⟨h1, h⟩ := firstE_cons h
  obtain ⟨h2, h⟩ := firstE_cons h
  obtain ⟨h3, h⟩ := firstE_cons h
  exact ⟨withE_zero h1, withE_zero h2, withE_zero h3⟩
def tkE (l : List Pt) (p : Pt) (vs : List V3) : Int := firstE [chkTilts l, chkPitch p, whenE (decide ((vs.length : Int) = 0)) 12, whenE (decide (64 < (vs.length : Int))) 5]
def tkS (l : List Pt) (p : Pt) (vs : List V3) : List Int × Int := if tkE l p vs ≠ 0 then ([], tkE l p vs) else if firstE (vs.map chkTv) ≠ 0 then ([], firstE (vs.map chkTv)) else (vs.map (trI l p), 0)
theorem c_Tracked (l : List Pt) (p : Pt) (vs : List V3) (hl : l.length < 1073741824) (hv : vs.length < 1073741824) : PC 68 [pts l, encPt p, .list (vs.map encV)] (.tuple [iL (tkS l p vs).1, DV.int .i64 ((tkS l p vs).2)]) := by
  have e0 : ((vs.map encV).length : Int) = vs.length := by simp
  have k1 := c_CheckTilts l hl
  have k2 := c_checkPitch p
  have hE : firstE [chkTilts l, chkPitch p, whenE (decide (((vs.map encV).length : Int) = 0)) 12, whenE (decide (64 < ((vs.map encV).length : Int))) 5] = tkE l p vs := by rw [e0]; rfl
  have k3 := c_first [chkTilts l, chkPitch p, whenE (decide (((vs.map encV).length : Int) = 0)) 12, whenE (decide (64 < ((vs.map encV).length : Int))) 5] (by simp)
  have k4 := c_mapV vs 130 chkTv hv (fun v _ => c_Tracked1 v)
  have k5 := c_first (vs.map chkTv) (by rw [List.length_map]; omega)
  rw [hE] at k3
  refine pureCall_ofR dh68 rfl ?_
  conv => whnf
  repeat' (first
    | (refine ⟨fun hg => ?_, fun hg => ?_⟩ <;> first | contradiction | (conv => whnf))
    | (refine Or.inl ?_; conv => whnf)
    | (refine ⟨_, k1, ?_⟩; conv => whnf)
    | (refine ⟨_, k2, ?_⟩; conv => whnf)
    | (refine ⟨_, c_when .., ?_⟩; conv => whnf)
    | (refine ⟨_, k3, ?_⟩; conv => whnf)
    | (refine ⟨_, k4, ?_⟩; conv => whnf)
    | (refine ⟨_, k5, ?_⟩; conv => whnf)
    | (refine And.intro ?_ ?_; kernel_rfl; conv => whnf))
  · have hg := of_decide_eq_true hg
    have e : tkS l p vs = ([], tkE l p vs) := if_pos hg
    rw [e]; rfl
  · have hg0 := of_decide_eq_false (show decide (tkE l p vs ≠ 0) = false from ‹_›)
    have hg := of_decide_eq_true hg
    have e : tkS l p vs = ([], firstE (vs.map chkTv)) := (if_neg hg0).trans (if_pos hg)
    rw [e]; rfl
  · have hg0 := of_decide_eq_false (show decide (tkE l p vs ≠ 0) = false from ‹_›)
    have hg := of_decide_eq_false hg
    have e : tkS l p vs = (vs.map (trI l p), 0) := (if_neg hg0).trans (if_neg hg)
    have hz := Classical.not_not.1 hg0
    unfold tkE at hz
    obtain ⟨z1, h⟩ := firstE_cons hz
    obtain ⟨z2, h⟩ := firstE_cons h
    have k6 := c_mapT vs 132 l p (trI l p) hv (fun v hm => c_Tracked2 l p v z1 (chkPitch_ok z2) (chkTv_zero (firstE_mem (Classical.not_not.1 hg) _ (List.mem_map_of_mem hm))))
    repeat' (first
      | (refine ⟨fun hg => ?_, fun hg => ?_⟩ <;> first | contradiction | (conv => whnf))
      | (refine Or.inl ?_; conv => whnf)
      | (refine ⟨_, k6, ?_⟩; conv => whnf)
      | (refine And.intro ?_ ?_; kernel_rfl; conv => whnf))
    rw [e]; rfl
end Sh


set_option linter.unusedSimpArgs false
set_option linter.unusedVariables false
namespace Sh
open Go
def sgnS (s : List UInt8) : Int × Bool := if s.getD 0 0 = 45 then (0 - (digS (s.drop 1)).1, (digS (s.drop 1)).2 && decide (0 < (digS (s.drop 1)).1)) else digS s
theorem valD_ge : ∀ (s : List UInt8) (n : Int), s.all isD = true → 0 ≤ n → n ≤ valD s n
  | [], n, _, _ => Int.le_refl _
  | c :: r, n, h, h0 => by
    rw [List.all_cons, Bool.and_eq_true] at h
    have hc := (isD_iff c).1 h.1
    have := valD_ge r (10 * n + ((c.toNat : Int) - 48)) h.2 (by omega)
    show n ≤ valD r _
    omega
theorem valD_pos {s : List UInt8} (h : s.all isD = true) (h0 : s ≠ []) (h48 : s.getD 0 0 ≠ 48) : 0 < valD s 0 := by
  cases s with
  | nil => exact absurd rfl h0
  | cons c r =>
    rw [List.all_cons, Bool.and_eq_true] at h
    have hc := (isD_iff c).1 h.1
    have hne : c ≠ 48 := h48
    have hcn : c.toNat ≠ 48 := fun e => hne (UInt8.toNat_inj.1 e)
    have := valD_ge r (10 * 0 + ((c.toNat : Int) - 48)) h.2 (by omega)
    show 0 < valD r _
    omega
theorem digS_true {s : List UInt8} (h : (digS s).2 = true) : s.all isD = true ∧ s ≠ [] ∧ s.length ≤ 9 ∧ (s.length = 1 ∨ s.getD 0 0 ≠ 48) ∧ (digS s).1 = valD s 0 := by
  unfold digS at h ⊢
  cases hb : badD s with
  | true => rw [hb] at h; exact absurd h (by simp)
  | false =>
    cases ha : s.all isD with
    | false => rw [hb, ha] at h; exact absurd h (by simp)
    | true =>
      unfold badD at hb
      rw [Bool.or_eq_false_iff, Bool.or_eq_false_iff, decide_eq_false_iff_not, decide_eq_false_iff_not, Bool.and_eq_false_iff, decide_eq_false_iff_not, decide_eq_false_iff_not] at hb
      have h0 := List.length_pos_iff.2 hb.1.1
      refine ⟨rfl, hb.1.1, by omega, ?_, rfl⟩
      rcases hb.2 with h1 | h1
      · left; omega
      · exact .inr h1
def nmS (b : List UInt8) (m : Bool) : Int × Bool := if b.all isD && decide (b.length ≤ 9) && decide (b ≠ []) && !(decide (b.getD 0 0 = 48) && (decide (1 < b.length) || m)) then (if m then -(valD b 0) else valD b 0, true) else (0, false)
theorem nmS_dig (b : List UInt8) : nmS b false = digS b := by
  unfold nmS digS badD
  have h0 : b = [] ↔ b.length = 0 := List.length_eq_zero_iff.symm
  have e0 : decide (b = []) = decide (b.length = 0) := by simp only [h0]
  have e00 : decide (b ≠ []) = !decide (b.length = 0) := by simp only [ne_eq, h0, decide_not]
  have e9 : decide (9 < b.length) = !decide (b.length ≤ 9) := by rw [← decide_not]; congr 1; apply propext; omega
  rw [e0, e00, e9]
  generalize b.all isD = A
  generalize decide (b.getD 0 0 = 48) = Z
  generalize decide (b.length ≤ 9) = N
  generalize decide (b.length = 0) = E
  generalize decide (1 < b.length) = O
  cases A <;> cases Z <;> cases N <;> cases E <;> cases O <;> rfl
theorem valD_zero {b : List UInt8} (h : b.all isD = true) (h0 : b.length = 1) (h48 : b.getD 0 0 = 48) : valD b 0 = 0 := by
  obtain ⟨c, rfl⟩ := List.length_eq_one_iff.1 h0
  have : c = 48 := h48
  subst this; rfl
theorem nmS_neg (b : List UInt8) : nmS b true = (0 - (digS b).1, (digS b).2 && decide (0 < (digS b).1)) := by
  cases hd : (digS b).2 with
  | false =>
    have h1 : (digS b).1 = 0 := by
      unfold digS at hd ⊢
      split
      · rfl
      · rename_i h1; rw [if_neg h1] at hd; cases hd
    have hn : (nmS b false).2 = false := by rw [nmS_dig]; exact hd
    have : nmS b true = (0, false) := by
      unfold nmS at hn ⊢
      rw [if_neg]
      intro h
      rw [if_pos] at hn
      · cases hn
      · revert h
        generalize b.all isD = A
        generalize decide (b.getD 0 0 = 48) = Z
        generalize decide (b.length ≤ 9) = N
        generalize decide (b ≠ []) = E
        generalize decide (1 < b.length) = O
        cases A <;> cases Z <;> cases N <;> cases E <;> cases O <;> simp
    rw [this, h1]; rfl
  | true =>
    obtain ⟨h1, h2, h3, h4, h5⟩ := digS_true hd
    have hl := List.length_pos_iff.2 h2
    rw [h5]
    unfold nmS
    rw [h1, decide_eq_true h3, decide_eq_true h2]
    by_cases h48 : b.getD 0 0 = 48
    · have hl1 : b.length = 1 := by rcases h4 with h | h; exact h; exact absurd h48 h
      rw [valD_zero h1 hl1 h48, decide_eq_true h48]
      simp
    · have := valD_pos h1 h2 h48
      rw [decide_eq_false h48, decide_eq_true this]
      simp
theorem sgn_nm (s : List UInt8) : sgnS s = nmS (Lib.trimPrefix s [45]) (Lib.hasPrefix s [45]) := by
  cases s with
  | nil =>
    show digS [] = _
    rw [show Lib.hasPrefix ([] : List UInt8) [45] = false from rfl, nmS_dig]; rfl
  | cons c r =>
    by_cases h : c = 45
    · subst h
      have e1 : Lib.hasPrefix (45 :: r) [45] = true := by simp [Lib.hasPrefix, List.isPrefixOf]
      have e2 : Lib.trimPrefix (45 :: r) [45] = r := by unfold Lib.trimPrefix; rw [e1]; rfl
      rw [e1, e2, nmS_neg]
      unfold sgnS
      rw [if_pos (show (45 :: r).getD 0 0 = 45 from rfl)]; rfl
    · have e1 : Lib.hasPrefix (c :: r) [45] = false := by
        have : ((45 : UInt8) == c) = false := beq_eq_false_iff_ne.2 (fun e => h e.symm)
        simp [Lib.hasPrefix, List.isPrefixOf, this]
        try exact fun e => h e.symm
      have e2 : Lib.trimPrefix (c :: r) [45] = c :: r := by unfold Lib.trimPrefix; rw [e1]; rfl
      rw [e1, e2, nmS_dig]
      unfold sgnS
      rw [if_neg (by exact h)]
theorem trimP_len (s p : List UInt8) : (Lib.trimPrefix s p).length ≤ s.length := by
  unfold Lib.trimPrefix; split <;> simp
end Sh


set_option maxRecDepth 100000
set_option linter.unusedSimpArgs false
set_option linter.unusedVariables false
namespace Sh
open Go Go.Proofs
theorem all_take {α : Type} (p : α → Bool) (l : List α) (i : Nat) (d : α) (hi : i < l.length) (h : (l.take i).all p = true) (h2 : p (l.getD i d) = true) : (l.take (i + 1)).all p = true := by
  rw [take_snoc l i d hi, List.all_append, h, List.all_cons, h2]; rfl
end Sh

