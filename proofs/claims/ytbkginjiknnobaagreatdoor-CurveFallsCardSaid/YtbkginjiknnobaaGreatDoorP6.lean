/-
  Chapter 4's functions, walked over pure data: the library of the walk, the functions' code over data, and what each computes. (part 6)
-/
import Derived.Test.YtbkginjiknnobaaGreatDoorP5
import Derived.Shelf.LaysM
import Derived.Shelf.Strconv.Itoa3
import Derived.Shelf.Strings.OnBuilder
import Derived.Lib.ItoaLen
import Derived.Test.YtbkginjiknnobaaGreatDoorProg
import Derived.Lib.MapLaws
import Derived.Shelf.Small.Strs
import Derived.Shelf.Small.Wraps
import Derived.Shelf.Strings.Split
set_option linter.unusedVariables false
set_option linter.unusedSimpArgs false
set_option maxRecDepth 100000
set_option linter.unusedSimpArgs false
set_option linter.unusedVariables false
namespace Sh
open Go Go.Proofs
def bypD (l : List Cel) (n : Int) (i : Nat) : List DV := (byp l n i).map (DV.int .i64)
theorem bypD_len (l : List Cel) (n : Int) (i : Nat) : (bypD l n i).length ≤ i := by unfold bypD; rw [List.length_map]; exact byp_len l n i
theorem bypD_false {l : List Cel} {n : Int} {i : Nat} (h : (voltC (l.getD i C0) n).2 = false) : bypD l n (i + 1) = bypD l n i ++ [DV.int .i64 (i)] := by
  unfold bypD; rw [byp_succ, h, List.map_append]; rfl
theorem bypD_true {l : List Cel} {n : Int} {i : Nat} (h : (voltC (l.getD i C0) n).2 = true) : bypD l n (i + 1) = bypD l n i := by
  unfold bypD; rw [byp_succ, h]; simp
def encL2 (p : List Int × Int) : DV := .tuple [iL p.1, DV.int .i64 (p.2)]
def bypS (l : List Cel) (n : Int) : List Int × Int := if firstE [chkChain l, withE n 0 200] ≠ 0 then ([], firstE [chkChain l, withE n 0 200]) else (byp l n l.length, 0)
theorem c_Bypassed (l : List Cel) (n : Int) (hl : l.length < 1073741824) (hcs : ∀ c ∈ l, c.tb.length < 1073741824) : PC 31 [chn l, DV.int .i64 (n)] (encL2 (bypS l n)) := by
  have e0 : ((l.map encC).length : Int) = l.length := by simp
  refine pureCall_ofR dh31 rfl ?_
  conv => whnf
  repeat' (first
    | (refine ⟨fun hg => ?_, fun hg => ?_⟩ <;> first | contradiction | (conv => whnf))
    | (refine Or.inl ?_; conv => whnf)
    | (refine ⟨_, c_CheckChain _ hl hcs, ?_⟩; conv => whnf)
    | (refine ⟨_, c_checkAmp .., ?_⟩; conv => whnf)
    | (refine ⟨_, c_first [_, _] (by simp), ?_⟩; conv => whnf)
    | (refine And.intro ?_ ?_; kernel_rfl; conv => whnf))
  · have hg := of_decide_eq_true hg
    show DV.tuple [_, _] = _
    rw [bypS, if_pos hg]; rfl
  · have hg := of_decide_eq_false hg
    have hz := two_zero hg
    have h := chkChain_zero hz.1
    refine dwp_loopR (P := Tryz.prog) (G := GC) (k := dk31_0) (b := db31_0) (α := Nat) (fun i => [(1, DV.int .i64 (n)), (7, .own 7 0 (bypD l n i).length (bypD l n i).length), (21, chn l), (22, .int .i64 (l.map encC).length), (23, DV.int .i64 (i))]) (fun i => [(7, .row 1 (bypD l n i) false)]) (fun i => i ≤ l.length) (fun i => l.length - i) 0 ⟨rfl, rfl, rfl⟩ (Nat.zero_le _) ?_
    intro i h1
    conv => whnf
    refine ⟨fun hb => ?_, fun hb => ?_⟩
    · have hi : i < l.length := by simpa using hb
      have hc := h.2.2 _ (getD_in C0 hi)
      have hbl := bypD_len l n i
      conv => whnf
      rw [getD_enc _ _ (i) C0 hi]
      refine ⟨idxA hi rfl, ?_⟩
      conv => whnf
      repeat' (first
        | (refine ⟨fun hg => ?_, fun hg => ?_⟩ <;> first | contradiction | (conv => whnf))
        | (refine Or.inl ?_; conv => whnf)
        | (refine ⟨_, c_Cell_volt _ _ hc, ?_⟩; conv => whnf)
        | (refine And.intro ?_ ?_; kernel_rfl; conv => whnf))
      · have hg : (voltC (l.getD i C0) n).2 = false := by simpa using hg
        refine ⟨⟨rfl, rfl, rfl, by simp; omega, fun e he => by simp at he; subst he; rfl⟩, ?_⟩
        conv => whnf
        rw [wrap_succ i (by omega)]
        refine ⟨i + 1, rfl, ?_, ?_, hi, by omega⟩
        · rw [bypD_false hg]; rfl
        · rw [bypD_false hg]; rfl
      · have hg : (voltC (l.getD i C0) n).2 = true := by simpa using hg
        rw [wrap_succ i (by omega)]
        refine ⟨i + 1, rfl, ?_, ?_, hi, by omega⟩
        · rw [bypD_true hg]; rfl
        · rw [bypD_true hg]; rfl
    · have hi : i = l.length := by have := of_decide_eq_false hb; rw [e0] at this; omega
      conv => whnf
      refine ⟨rfl, ?_⟩
      rw [window_full, hi]
      show DV.tuple [_, _] = _
      rw [bypS, if_neg hg]; rfl
theorem r_ShortTable (t : List Pt) : PC 12 [tbl t] (.bool (decide (t.length ≤ 9))) := by
  have e0 : ((t.map encPt).length : Int) = t.length := by simp
  refine pureCall_ofR dh12 rfl ?_
  conv => whnf
  exact bool_eq (by rw [e0]; simp; omega)
theorem l_cell (c : Cel) (hl : c.tb.length < 1073741824) : PC 15 [encC c] (encC c) := by
  refine pureCall_ofR dh15 rfl ?_
  conv => whnf
  refine ⟨⟨by simp; omega, fun e he => by obtain ⟨p, _, rfl⟩ := List.mem_map.1 he; rfl, fun e he => by simp at he⟩, ?_⟩
  rw [show ([] : List DV).reverse ++ List.map encPt c.tb = List.map encPt c.tb from rfl]
  conv => whnf
  repeat' (first
    | (refine ⟨fun hg => ?_, fun hg => ?_⟩ <;> first | contradiction | (conv => whnf))
    | (refine Or.inl ?_; conv => whnf)
    | (refine And.intro ?_ ?_; kernel_rfl; conv => whnf))
  rfl
theorem q_SameInts (a b : List Int) (hl : a.length < 4611686018427387904) : PC 76 [iL a, iL b] (.bool (decide (a = b))) := by
  have e0 : ((a.map (DV.int .i64)).length : Int) = a.length := by simp
  have e1 : ((b.map (DV.int .i64)).length : Int) = b.length := by simp
  refine pureCall_ofR dh76 rfl ?_
  conv => whnf
  repeat' (first
    | (refine ⟨fun hg => ?_, fun hg => ?_⟩ <;> first | contradiction | (conv => whnf))
    | (refine Or.inl ?_; conv => whnf)
    | (refine And.intro ?_ ?_; kernel_rfl; conv => whnf))
  · have hg := of_decide_eq_true hg
    rw [e0, e1] at hg
    exact bool_eq (by symm; rw [decide_eq_false_iff_not]; intro e; rw [e] at hg; exact hg rfl)
  · have hg := of_decide_eq_false hg
    rw [e0, e1] at hg
    have hab : a.length = b.length := by omega
    refine dwp_loopR (P := Tryz.prog) (G := GC) (k := dk76_0) (b := db76_0) (α := Nat) (fun i => [(0, iL a), (1, iL b), (5, DV.int .i64 (i))]) (fun _ => []) (fun i => i ≤ a.length ∧ a.take i = b.take i) (fun i => a.length - i) 0 ⟨rfl, rfl, rfl⟩ ⟨Nat.zero_le _, rfl⟩ ?_
    intro i ⟨h1, h2⟩
    conv => whnf
    refine ⟨fun hb => ?_, fun hb => ?_⟩
    · have hi : i < a.length := by simpa using hb
      conv => whnf
      rw [getD_enc _ _ (i) 0 hi]
      refine ⟨idxA hi rfl, ?_⟩
      conv => whnf
      rw [getD_enc _ _ (i) 0 (by omega : i < b.length)]
      refine ⟨idxA (by omega : i < b.length) rfl, ?_⟩
      conv => whnf
      repeat' (first
        | (refine ⟨fun hg => ?_, fun hg => ?_⟩ <;> first | contradiction | (conv => whnf))
        | (refine Or.inl ?_; conv => whnf)
        | (refine And.intro ?_ ?_; kernel_rfl; conv => whnf))
      · have hg := of_decide_eq_true hg
        exact bool_eq (by symm; rw [decide_eq_false_iff_not]; intro e; rw [e] at hg; exact hg rfl)
      · have hg := Classical.not_not.1 (of_decide_eq_false hg)
        rw [wrap_succ i (by omega)]
        exact ⟨i + 1, rfl, rfl, rfl, ⟨hi, by rw [take_snoc a i 0 hi, take_snoc b i 0 (by omega), h2, hg]⟩, by omega⟩
    · have hi : i = a.length := by have := of_decide_eq_false hb; rw [e0] at this; omega
      conv => whnf
      refine bool_eq ?_
      symm
      rw [decide_eq_true_eq]
      rw [hi, List.take_length, hab, List.take_length] at h2
      exact h2
def oC (l : List Cel) (i : Nat) : List DV := (l.take i).map encC
theorem oC_len (l : List Cel) (i : Nat) (h : i ≤ l.length) : (oC l i).length = i := by simp [oC]; omega
theorem oC_succ (l : List Cel) (i : Nat) (h : i < l.length) : oC l (i + 1) = oC l i ++ [encC (l.getD i C0)] := take_map_succ _ l i C0 h
theorem l_cells (l : List Cel) (hl : l.length < 1073741824) (hcs : ∀ c ∈ l, c.tb.length < 1073741824) : PC 29 [chn l] (chn l) := by
  have e0 : ((l.map encC).length : Int) = l.length := by simp
  refine pureCall_ofR dh29 rfl ?_
  conv => whnf
  refine dwp_loopR (P := Tryz.prog) (G := GC) (k := dk29_0) (b := db29_0) (α := Nat) (fun i => [(3, .own 3 0 (oC l i).length (oC l i).length), (6, chn l), (7, .int .i64 (l.map encC).length), (8, DV.int .i64 (i))]) (fun i => [(3, .row 3 (oC l i) false)]) (fun i => i ≤ l.length) (fun i => l.length - i) 0 ⟨rfl, rfl, rfl⟩ (Nat.zero_le _) ?_
  intro i h1
  conv => whnf
  refine ⟨fun hb => ?_, fun hb => ?_⟩
  · have hi : i < l.length := by simpa using hb
    conv => whnf
    rw [getD_enc _ _ (i) C0 hi]
    refine ⟨idxA hi rfl, ?_⟩
    conv => whnf
    repeat' (first
      | (refine ⟨fun hg => ?_, fun hg => ?_⟩ <;> first | contradiction | (conv => whnf))
      | (refine Or.inl ?_; conv => whnf)
      | (refine ⟨_, l_cell _ (hcs _ (getD_in C0 hi)), ?_⟩; conv => whnf)
      | (refine And.intro ?_ ?_; kernel_rfl; conv => whnf))
    refine ⟨⟨rfl, rfl, rfl, by rw [oC_len l i h1]; simp; omega, fun e he => by simp at he; subst he; rfl⟩, ?_⟩
    conv => whnf
    rw [wrap_succ i (by omega)]
    refine ⟨i + 1, rfl, ?_, ?_, hi, by omega⟩
    · rw [oC_succ l i hi]; rfl
    · rw [oC_succ l i hi]; rfl
  · have hi : i = l.length := by have := of_decide_eq_false hb; rw [e0] at this; omega
    conv => whnf
    refine ⟨rfl, ?_⟩
    rw [window_full, hi]
    show DV.list (oC l l.length) = _
    unfold oC
    rw [List.take_length]; rfl
def shortN (n : Nat) : Bool := !(decide (6 < n) && !decide (n = 9))
def shortC (l : List Cel) : Bool := shortN l.length && l.all fun c => decide (c.tb.length ≤ 9)
theorem all_take {α : Type} (p : α → Bool) (l : List α) (i : Nat) (d : α) (hi : i < l.length) (h : (l.take i).all p = true) (h2 : p (l.getD i d) = true) : (l.take (i + 1)).all p = true := by
  rw [take_snoc l i d hi, List.all_append, h, List.all_cons, h2]; rfl
theorem all_not {α : Type} (p : α → Bool) (l : List α) (i : Nat) (d : α) (hi : i < l.length) (h2 : p (l.getD i d) = false) : l.all p = false := by
  rw [List.all_eq_false]
  exact ⟨_, getD_in d hi, by rw [h2]; simp⟩
theorem r_ShortChain (l : List Cel) : PC 27 [chn l] (.bool (shortC l)) := by
  have e0 : ((l.map encC).length : Int) = l.length := by simp
  refine pureCall_ofR dh27 rfl ?_
  conv => whnf
  repeat' (first
    | (refine ⟨fun hg => ?_, fun hg => ?_⟩ <;> first | contradiction | (conv => whnf))
    | (refine Or.inl ?_; conv => whnf)
    | (refine And.intro ?_ ?_; kernel_rfl; conv => whnf))
  · rw [e0] at *
    refine bool_eq ?_
    symm
    rename_i hq
    have hq := of_decide_eq_true hq
    have hg := of_decide_eq_true hg
    have : shortN l.length = false := by simp only [shortN]; simp; omega
    unfold shortC; rw [this]; rfl
  all_goals
    have hk : shortN l.length = true := by
      rename_i hq
      rw [e0] at *
      have hq : ¬ ((6 : Int) < l.length ∧ ¬ ((l.length : Int) = 9)) := by simp at hq hg; omega
      simp only [shortN]; simp; omega
  all_goals have h9 : l.length ≤ 9 := by (simp only [shortN] at hk; simp at hk; omega)
  all_goals refine dwp_loopR (P := Tryz.prog) (G := GC) (k := dk27_0) (b := db27_0) (α := Nat) (fun i => [(0, chn l), (3, DV.int .i64 (i))]) (fun _ => []) (fun i => i ≤ l.length ∧ (l.take i).all (fun c => decide (c.tb.length ≤ 9)) = true) (fun i => l.length - i) 0 ⟨rfl, rfl, rfl⟩ ⟨Nat.zero_le _, rfl⟩ ?_
  all_goals intro i ⟨h1, h2⟩
  all_goals conv => whnf
  all_goals refine ⟨fun hb => ?_, fun hb => ?_⟩
  any_goals
    have hi : i < l.length := by simpa using hb
    conv => whnf
    rw [getD_enc _ _ (i) C0 hi]
    refine ⟨idxA hi rfl, ?_⟩
    conv => whnf
    repeat' (first
      | (refine ⟨fun hg => ?_, fun hg => ?_⟩ <;> first | contradiction | (conv => whnf))
      | (refine Or.inl ?_; conv => whnf)
      | (refine ⟨_, r_ShortTable .., ?_⟩; conv => whnf)
      | (refine And.intro ?_ ?_; kernel_rfl; conv => whnf))
    · have hg : decide ((l.getD i C0).tb.length ≤ 9) = false := by simpa using hg
      refine bool_eq ?_
      unfold shortC
      rw [all_not _ l i C0 hi hg, Bool.and_false]
    · have hg : decide ((l.getD i C0).tb.length ≤ 9) = true := by simpa using hg
      rw [wrap_succ i (by omega)]
      exact ⟨i + 1, rfl, rfl, rfl, ⟨hi, all_take _ l i C0 hi h2 hg⟩, by omega⟩
  all_goals
    have hi : i = l.length := by have := of_decide_eq_false hb; rw [e0] at this; omega
    conv => whnf
    refine bool_eq ?_
    rw [hi, List.take_length] at h2
    unfold shortC
    rw [hk, h2]; rfl
theorem shortC_spec {l : List Cel} (h : shortC l = true) : l.length ≤ 9 ∧ ∀ c ∈ l, c.tb.length ≤ 9 := by
  unfold shortC at h
  rw [Bool.and_eq_true] at h
  refine ⟨?_, fun c hc => by simpa using List.all_eq_true.1 h.2 c hc⟩
  have := h.1
  simp only [shortN] at this
  simp at this
  omega
end Sh


set_option linter.unusedSimpArgs false
namespace Sh
open Go
def mx (a b : Int) : Int := if a < b then b else a
theorem mx_ge (a b : Int) : a ≤ mx a b ∧ b ≤ mx a b := by unfold mx; split <;> omega
def mxL (l : List Int) : Int := l.foldl mx 0
theorem mxL_succ (l : List Int) (i : Nat) (h : i < l.length) : mxL (l.take (i + 1)) = mx (mxL (l.take i)) (l.getD i 0) := by
  unfold mxL; rw [take_snoc l i 0 h, List.foldl_append]; rfl
theorem mxL_bd {l : List Int} {B : Int} (hB : 0 ≤ B) (h : ∀ x ∈ l, x ≤ B) : 0 ≤ mxL l ∧ mxL l ≤ B := by
  have key : ∀ (l : List Int) (a : Int), 0 ≤ a → a ≤ B → (∀ x ∈ l, x ≤ B) → 0 ≤ l.foldl mx a ∧ l.foldl mx a ≤ B := by
    intro l
    induction l with
    | nil => intro a h1 h2 _; exact ⟨h1, h2⟩
    | cons x r ih =>
      intro a h1 h2 h3
      have h4 := h3 x (List.mem_cons_self ..)
      have := mx_ge a x
      refine ih (mx a x) (by omega) (by unfold mx; split <;> omega) (fun y hy => h3 y (List.mem_cons_of_mem _ hy))
  exact key l 0 (Int.le_refl _) hB h
def endF (f : List (List Cel)) : Int := mxL (f.map fun l => chV l 0)
theorem OkC.volt0 {c : Cel} (h : OkC c) : voltC c 0 = (lastX c.tb, true) := by
  have h1 := h.1.last_bd
  have h2 := h.cur_bd (v := ((lastX c.tb).toNat : Int)) (by omega)
  unfold voltC vDown
  rw [if_pos h2.1]
  congr 1; omega
theorem chV0_pos {l : List Cel} (h : OkH l) : 0 ≤ chV l 0 := by
  have := sumI_bd (l := l.map fun c => (voltC c 0).1) (A := 0) (B := 100) (fun x hx => by
    obtain ⟨c, hc, rfl⟩ := List.mem_map.1 hx
    have hk := h.2.2 c hc
    rw [hk.volt0]
    have := hk.1.last_bd
    exact ⟨by simp only; omega, by simp only; omega⟩)
  unfold chV
  omega
theorem endF_bd {f : List (List Cel)} (h : OkF f) : 0 ≤ endF f ∧ endF f ≤ 800 := by
  refine mxL_bd (by decide) (fun x hx => ?_)
  obtain ⟨l, hl, rfl⟩ := List.mem_map.1 hx
  exact (chV_bd (h.2.2 l hl) 0).2
def curF (f : List (List Cel)) (v : Int) : Int := sumI (f.map fun l => curH l v)
def curFi (f : List (List Cel)) (v : Int) (i : Nat) : Int := sumI ((f.take i).map fun l => curH l v)
theorem curFi_succ (f : List (List Cel)) (v : Int) (i : Nat) (h : i < f.length) : curFi f v (i + 1) = curFi f v i + curH (f.getD i []) v := by
  unfold curFi; rw [take_map_succ _ f i [] h, sumI_append, sumI_one]
theorem curFi_all (f : List (List Cel)) (v : Int) : curFi f v f.length = curF f v := by unfold curFi curF; rw [List.take_length]
theorem curFi_bd (f : List (List Cel)) (hf : f.length ≤ 6) (v : Int) (i : Nat) : 0 ≤ curFi f v i ∧ curFi f v i ≤ 1200 := by
  have h1 := sumI_bd (l := (f.take i).map fun l => curH l v) (A := 0) (B := 200) (fun x hx => by
    obtain ⟨l, _, rfl⟩ := List.mem_map.1 hx
    exact curH_bd l v)
  have h2 : ((f.take i).map fun l => curH l v).length ≤ 6 := by simp; omega
  unfold curFi
  omega
theorem curF_bd (f : List (List Cel)) (hf : f.length ≤ 6) (v : Int) : 0 ≤ curF f v ∧ curF f v ≤ 1200 := by rw [← curFi_all]; exact curFi_bd f hf v _
def fsS (f : List (List Cel)) (E i n : Nat) : List DV := rng E (fun k => DV.int .i64 (curFi f k (if k < n then i + 1 else i)))
theorem fsS_len (f : List (List Cel)) (E i n : Nat) : (fsS f E i n).length = E := rng_len _ _
theorem fsS_get {f : List (List Cel)} {E i n : Nat} (h : n < E) : (fsS f E i n).getD n .undef = DV.int .i64 (curFi f n i) := by
  unfold fsS; rw [rng_getD _ _ h, if_neg (by omega)]
theorem fsS_set (f : List (List Cel)) (E i n : Nat) : (fsS f E i n).set n (DV.int .i64 (curFi f n (i + 1))) = fsS f E i (n + 1) := by
  unfold fsS
  rw [rng_set]
  refine rng_congr (fun k hk => ?_)
  (try dsimp only)
  by_cases e : k = n
  · subst e; simp
  · rw [if_neg e]
    by_cases e2 : k < n
    · rw [if_pos e2, if_pos (by omega)]
    · rw [if_neg e2, if_neg (by omega)]
theorem fsS_next (f : List (List Cel)) (E i : Nat) : fsS f E i E = fsS f E (i + 1) 0 := by
  unfold fsS
  exact rng_congr (fun k hk => by (try dsimp only); rw [if_pos hk, if_neg (by omega)])
theorem fsS_zero (f : List (List Cel)) (E : Nat) : List.replicate E (DV.int .i64 0) = fsS f E 0 0 := by
  rw [rng_const]; unfold fsS
  exact rng_congr (fun k hk => by (try dsimp only); rw [if_neg (by omega)]; rfl)
theorem fsS_all (f : List (List Cel)) (E : Nat) : fsS f E f.length 0 = (rng E fun k => curF f k).map (DV.int .i64) := by
  rw [rng_map]; unfold fsS
  exact rng_congr (fun k hk => by (try dsimp only); rw [if_neg (by omega), curFi_all])
end Sh


set_option maxRecDepth 100000
set_option linter.unusedSimpArgs false
set_option linter.unusedVariables false
namespace Sh
open Go Go.Proofs
theorem c_mappedF (l : List (List Cel)) (f : FuncId) (g : List Cel → Int) (hl : l.length < 1073741824) (hf : ∀ c ∈ l, PC f [chn c] (DV.int .i64 (g c))) : PC 98 [fld l, .func f []] (iL (l.map g)) := by
  refine pureCall_ofR dh98 rfl ?_
  conv => whnf
  refine dwp_loopR (P := Tryz.prog) (G := GC) (k := dk98_0) (b := db98_0) (α := Nat) (fun i => [(1, .func f []), (5, .own 5 0 (oI g l i).length (oI g l i).length), (8, fld l), (9, .int .i64 (l.map chn).length), (10, DV.int .i64 (i))]) (fun i => [(5, .row 1 (oI g l i) false)]) (fun i => i ≤ l.length) (fun i => l.length - i) 0 ⟨rfl, rfl, rfl⟩ (Nat.zero_le _) ?_
  intro i h1
  conv => whnf
  refine ⟨fun hb => ?_, fun hb => ?_⟩
  · have hi : i < l.length := by simpa using hb
    conv => whnf
    rw [getD_enc _ _ (i) [] hi]
    refine ⟨idxA hi rfl, ?_⟩
    conv => whnf
    refine .inl ?_
    conv => whnf
    refine ⟨_, hf _ (getD_in [] hi), ?_⟩
    conv => whnf
    refine ⟨⟨rfl, rfl, rfl, by rw [oI_len g l i h1]; simp; omega, fun e he => by simp at he; subst he; rfl⟩, ?_⟩
    conv => whnf
    rw [wrap_succ i (by omega)]
    refine ⟨i + 1, rfl, ?_, ?_, hi, by omega⟩
    · rw [oI_succ g l i [] hi]; rfl
    · rw [oI_succ g l i [] hi]; rfl
  · have hi : i = l.length := by have := of_decide_eq_false hb; simp at this; omega
    conv => whnf
    exact ⟨rfl, by rw [window_full, hi, oI_all]; rfl⟩
theorem c_mappedFi (l : List (List Cel)) (f : FuncId) (g : List Cel → Int) (hl : l.length < 1073741824) (hf : ∀ c ∈ l, PC f [chn c] (DV.int .i64 (g c))) : PC 120 [fld l, .func f []] (iL (l.map g)) := by
  refine pureCall_ofR dh120 rfl ?_
  conv => whnf
  refine dwp_loopR (P := Tryz.prog) (G := GC) (k := dk120_0) (b := db120_0) (α := Nat) (fun i => [(1, .func f []), (5, .own 5 0 (oI g l i).length (oI g l i).length), (8, fld l), (9, .int .i64 (l.map chn).length), (10, DV.int .i64 (i))]) (fun i => [(5, .row 1 (oI g l i) false)]) (fun i => i ≤ l.length) (fun i => l.length - i) 0 ⟨rfl, rfl, rfl⟩ (Nat.zero_le _) ?_
  intro i h1
  conv => whnf
  refine ⟨fun hb => ?_, fun hb => ?_⟩
  · have hi : i < l.length := by simpa using hb
    conv => whnf
    rw [getD_enc _ _ (i) [] hi]
    refine ⟨idxA hi rfl, ?_⟩
    conv => whnf
    refine .inl ?_
    conv => whnf
    refine ⟨_, hf _ (getD_in [] hi), ?_⟩
    conv => whnf
    refine ⟨⟨rfl, rfl, rfl, by rw [oI_len g l i h1]; simp; omega, fun e he => by simp at he; subst he; rfl⟩, ?_⟩
    conv => whnf
    rw [wrap_succ i (by omega)]
    refine ⟨i + 1, rfl, ?_, ?_, hi, by omega⟩
    · rw [oI_succ g l i [] hi]; rfl
    · rw [oI_succ g l i [] hi]; rfl
  · have hi : i = l.length := by have := of_decide_eq_false hb; simp at this; omega
    conv => whnf
    exact ⟨rfl, by rw [window_full, hi, oI_all]; rfl⟩
theorem c_CheckField (f : List (List Cel)) (hl : f.length < 1073741824) (hc : ∀ l ∈ f, l.length < 1073741824 ∧ ∀ c ∈ l, c.tb.length < 1073741824) : PC 50 [fld f] (DV.int .i64 (chkField f)) := by
  have e0 : ((f.map chn).length : Int) = f.length := by simp
  refine pureCall_ofR dh50 rfl ?_
  conv => whnf
  repeat' (first
    | (refine ⟨fun hg => ?_, fun hg => ?_⟩ <;> first | contradiction | (conv => whnf))
    | (refine Or.inl ?_; conv => whnf)
    | (refine ⟨_, c_counted .., ?_⟩; conv => whnf)
    | (refine And.intro ?_ ?_; kernel_rfl; conv => whnf))
  · have hg := of_decide_eq_true hg
    exact int_eq (by rw [e0] at hg ⊢; unfold chkField; rw [if_pos hg])
  · have hg := of_decide_eq_false hg
    repeat' (first
      | (refine ⟨fun hg => ?_, fun hg => ?_⟩ <;> first | contradiction | (conv => whnf))
      | (refine Or.inl ?_; conv => whnf)
      | (refine ⟨_, c_mappedF f 36 chkChain hl (fun l h => c_CheckChain l (hc l h).1 (hc l h).2), ?_⟩; conv => whnf)
      | (refine ⟨_, c_first _ (by simp; omega), ?_⟩; conv => whnf)
      | (refine And.intro ?_ ?_; kernel_rfl; conv => whnf))
    exact int_eq (by rw [e0] at hg; unfold chkField; rw [if_neg hg])
theorem slices_Max (l : List Int) (h0 : l ≠ []) (hp : 0 ≤ l.getD 0 0) (hl : l.length < 1073741824) : PC 119 [iL l] (DV.int .i64 (mxL l)) := by
  have e0 : ((l.map (DV.int .i64)).length : Int) = l.length := by simp
  have hlen : 0 < l.length := List.length_pos_iff.2 h0
  refine pureCall_ofR dh119 rfl ?_
  conv => whnf
  refine ⟨fun hg => ?_, fun hg => ?_⟩
  · exact absurd (of_decide_eq_true hg) (by omega)
  · clear hg
    conv => whnf
    rw [getD_enc' _ _ (0) 0 (by decide) (by omega : (0 : Int) < l.length)]
    refine ⟨idxB (by decide) (by omega : (0 : Int) < l.length) rfl, ?_⟩
    conv => whnf
    refine dwp_loopR (P := Tryz.prog) (G := GC) (k := dk119_0) (b := db119_0) (α := Nat) (fun i => [(0, iL l), (3, DV.int .i64 (mxL (l.take (i + 1)))), (4, .int .i64 ((i + 1 : Nat) : Int))]) (fun _ => []) (fun i => i + 1 ≤ l.length) (fun i => l.length - i) 0 ⟨rfl, ?_, rfl⟩ hlen ?_
    · have e : mxL (l.take (0 + 1)) = l.getD (Int.toNat 0) 0 := by rw [mxL_succ l 0 hlen]; show mx 0 (l.getD 0 0) = l.getD 0 0; unfold mx; split <;> omega
      rw [e]; rfl
    intro i h1
    conv => whnf
    refine ⟨fun hb => ?_, fun hb => ?_⟩
    · have hi : i + 1 < l.length := by have := of_decide_eq_true hb; rw [e0] at this; omega
      conv => whnf
      rw [getD_enc _ _ (i + 1) 0 hi]
      refine ⟨idxA hi rfl, ?_⟩
      conv => whnf
      rw [wrap_succ (i + 1) (by omega)]
      refine ⟨i + 1, rfl, ?_, rfl, by omega, by omega⟩
      rw [mxL_succ l (i + 1) hi]; rfl
    · have hi : i + 1 = l.length := by have := of_decide_eq_false hb; rw [e0] at this; omega
      conv => whnf
      exact int_eq (by rw [hi, List.take_length])
theorem c_end1 (l : List Cel) (h : OkH l) : PC 121 [chn l] (DV.int .i64 (chV l 0)) := by
  refine pureCall_ofR dh121 rfl ?_
  conv => whnf
  repeat' (first
    | (refine ⟨fun hg => ?_, fun hg => ?_⟩ <;> first | contradiction | (conv => whnf))
    | (refine Or.inl ?_; conv => whnf)
    | (refine ⟨_, c_chainVolt _ _ h, ?_⟩; conv => whnf)
    | (refine And.intro ?_ ?_; kernel_rfl; conv => whnf))
  rfl
theorem c_end (f : List (List Cel)) (h : OkF f) : PC 95 [fld f] (DV.int .i64 (endF f)) := by
  have hl := h.1
  have hl2 := h.2.1
  have hne : f ≠ [] := by intro e; rw [e] at hl; simp at hl
  refine pureCall_ofR dh95 rfl ?_
  conv => whnf
  repeat' (first
    | (refine ⟨fun hg => ?_, fun hg => ?_⟩ <;> first | contradiction | (conv => whnf))
    | (refine Or.inl ?_; conv => whnf)
    | (refine ⟨_, c_mappedFi f 121 (fun l => chV l 0) (by omega) (fun l hm => c_end1 l (h.2.2 l hm)), ?_⟩; conv => whnf)
    | (refine And.intro ?_ ?_; kernel_rfl; conv => whnf))
  have h0 : 0 ≤ (f.map fun l => chV l 0).getD 0 0 := by
    have e : (f.map fun l => chV l 0).getD 0 0 = chV (f.getD 0 []) 0 := by simp [List.getD_eq_getElem?_getD, (by omega : 0 < f.length)]
    rw [e]; exact chV0_pos (h.2.2 _ (getD_in [] (by omega)))
  repeat' (first
    | (refine ⟨fun hg => ?_, fun hg => ?_⟩ <;> first | contradiction | (conv => whnf))
    | (refine Or.inl ?_; conv => whnf)
    | (refine ⟨_, slices_Max (f.map fun l => chV l 0) (by simpa using hne) h0 (by simp; omega), ?_⟩; conv => whnf)
    | (refine And.intro ?_ ?_; kernel_rfl; conv => whnf))
  rfl
end Sh


set_option maxRecDepth 100000
set_option linter.unusedSimpArgs false
set_option linter.unusedVariables false
namespace Sh
open Go Go.Proofs
theorem c_curve (f : List (List Cel)) (h : OkF f) (E : Nat) (hE : E ≤ 1000) (hE1 : 1 ≤ E) : PC 96 [fld f, DV.int .i64 ((E : Int) - 1)] (iL (rng E fun v => curF f v)) := by
  have e0 : ((f.map chn).length : Int) = f.length := by simp
  have hl := h.2.1
  refine pureCall_ofR dh96 rfl ?_
  conv => whnf
  rw [show IntKind.i64.wrap ((E : Int) - 1 + 1) = (E : Int) by rw [wrap_W, W_in (by omega) (by omega)]; omega]
  refine ⟨⟨by omega, by omega, by omega, rfl, rfl⟩, ?_⟩
  rw [Int.toNat_natCast, fsS_zero f]
  conv => whnf
  refine dwp_loopR (P := Tryz.prog) (G := GC) (k := dk96_1) (b := db96_1) (α := Nat) (fun i => [(1, DV.int .i64 ((E : Int) - 1)), (5, .own 12 0 E E), (13, fld f), (14, .int .i64 (f.map chn).length), (15, DV.int .i64 (i))]) (fun i => [(12, .row 1 (fsS f E i 0) false)]) (fun i => i ≤ f.length) (fun i => f.length - i) 0 ⟨rfl, rfl, rfl⟩ (Nat.zero_le _) ?_
  intro i h1
  conv => whnf
  refine ⟨fun hb => ?_, fun hb => ?_⟩
  · have hi : i < f.length := by simpa using hb
    have hc := h.2.2 _ (getD_in [] hi)
    conv => whnf
    rw [getD_enc _ _ (i) [] hi]
    refine ⟨idxA hi rfl, ?_⟩
    conv => whnf
    repeat' (first
      | (refine ⟨fun hg => ?_, fun hg => ?_⟩ <;> first | contradiction | (conv => whnf))
      | (refine Or.inl ?_; conv => whnf)
      | (refine ⟨_, c_currents _ hc E hE hE1, ?_⟩; conv => whnf)
      | (refine And.intro ?_ ?_; kernel_rfl; conv => whnf))
    have hcl : (rng E fun v => curH (f.getD i []) v).length = E := rng_len _ _
    have hcl2 : (((rng E fun v => curH (f.getD i []) v).map (DV.int .i64)).length : Int) = (E : Int) := by rw [List.length_map, hcl]
    refine dwp_loopR (P := Tryz.prog) (G := GC) (k := dk96_0) (b := db96_0) (α := Nat) (fun v => [(1, DV.int .i64 ((E : Int) - 1)), (5, .own 12 0 E E), (13, fld f), (14, .int .i64 (f.map chn).length), (15, DV.int .i64 (i)), (21, iL (rng E fun v => curH (f.getD i []) v)), (22, .int .i64 ((rng E fun v => curH (f.getD i []) v).map (DV.int .i64)).length), (23, DV.int .i64 (v))]) (fun v => [(12, .row 1 (fsS f E i v) false)]) (fun v => v ≤ E) (fun v => E - v) 0 ⟨rfl, rfl, rfl⟩ (Nat.zero_le _) ?_
    intro v hv
    conv => whnf
    refine ⟨fun hb => ?_, fun hb => ?_⟩
    · have hv2 : v < E := by have := of_decide_eq_true hb; rw [hcl2] at this; omega
      have b1 := curFi_bd f hl v i
      have b2 := curH_bd (f.getD i []) v
      have hs : IntKind.i64.wrap (curFi f v i + curH (f.getD i []) v) = curFi f v (i + 1) := by rw [wrap_W, W_in (by omega) (by omega), curFi_succ f v i hi]
      conv => whnf
      rw [getD_enc _ _ (v) 0 (by omega : v < (rng E fun v => curH (f.getD i []) v).length)]
      refine ⟨idxA (by omega : v < (rng E fun v => curH (f.getD i []) v).length) rfl, ?_⟩
      conv => whnf
      rw [rng_getD _ _ hv2]
      refine ⟨⟨(fsS_len _ _ _ _).symm, by omega, by omega⟩, ?_⟩
      conv => whnf
      rw [Int.toNat_natCast, Nat.zero_add, fsS_get hv2]
      refine ⟨⟨(fsS_len _ _ _ _).symm, by decide⟩, ?_⟩
      conv => whnf
      rw [hs]
      refine ⟨⟨(fsS_len _ _ _ _).symm, by omega, by omega⟩, ?_⟩
      conv => whnf
      refine ⟨⟨(fsS_len _ _ _ _).symm, by decide, rfl⟩, ?_⟩
      conv => whnf
      rw [wrap_succ v (by omega)]
      refine ⟨v + 1, rfl, rfl, ?_, by omega, by omega⟩
      show [(12, DObj.row 1 ((fsS f E i v).set (0 + v) (DV.int .i64 (curFi f v (i + 1)))) false)] = _
      rw [Nat.zero_add, fsS_set]
    · have hv2 : v = E := by have := of_decide_eq_false hb; rw [hcl2] at this; omega
      subst hv2
      conv => whnf
      rw [wrap_succ i (by omega)]
      refine ⟨i + 1, rfl, rfl, ?_, hi, by omega⟩
      show [(12, DObj.row 1 (fsS f v i v) false)] = _
      rw [fsS_next]
  · have hi : i = f.length := by have := of_decide_eq_false hb; rw [e0] at this; omega
    conv => whnf
    refine ⟨(fsS_len _ _ _ _).symm, ?_⟩
    show DV.list (window (fsS f E i 0) 0 E) = _
    have := window_full (fsS f E i 0)
    rw [fsS_len] at this
    rw [this, hi, fsS_all]; rfl
end Sh


set_option maxRecDepth 100000
set_option linter.unusedSimpArgs false
set_option linter.unusedVariables false
namespace Sh
open Go Go.Proofs
def LenF (f : List (List Cel)) : Prop := f.length < 1073741824 ∧ ∀ l ∈ f, l.length < 1073741824 ∧ ∀ c ∈ l, c.tb.length < 1073741824
def endS (f : List (List Cel)) : Int × Int := if chkField f ≠ 0 then (0, chkField f) else (endF f, 0)
def fcurS (f : List (List Cel)) (v : Int) : Int × Int := if firstE [chkField f, withE v 0 800] ≠ 0 then (0, firstE [chkField f, withE v 0 800]) else (curF f v, 0)
def powS (f : List (List Cel)) (v : Int) : Int × Int := if firstE [chkField f, withE v 0 800] ≠ 0 then (0, firstE [chkField f, withE v 0 800]) else (v * curF f v, 0)
def crv (f : List (List Cel)) : List Int := rng ((endF f).toNat + 1) fun v => curF f v
def curveS (f : List (List Cel)) : List Int × Int := if chkField f ≠ 0 then ([], chkField f) else (crv f, 0)
theorem c_End (f : List (List Cel)) (hl : LenF f) : PC 39 [fld f] (encE2 (endS f)) := by
  refine pureCall_ofR dh39 rfl ?_
  conv => whnf
  repeat' (first
    | (refine ⟨fun hg => ?_, fun hg => ?_⟩ <;> first | contradiction | (conv => whnf))
    | (refine Or.inl ?_; conv => whnf)
    | (refine ⟨_, c_CheckField _ hl.1 hl.2, ?_⟩; conv => whnf)
    | (refine And.intro ?_ ?_; kernel_rfl; conv => whnf))
  · have hg := of_decide_eq_true hg
    show DV.tuple [_, _] = _
    rw [endS, if_pos hg]; rfl
  · have hg := of_decide_eq_false hg
    repeat' (first
      | (refine ⟨fun hg => ?_, fun hg => ?_⟩ <;> first | contradiction | (conv => whnf))
      | (refine Or.inl ?_; conv => whnf)
      | (refine ⟨_, c_end _ (chkField_zero (Classical.not_not.1 hg)), ?_⟩; conv => whnf)
      | (refine And.intro ?_ ?_; kernel_rfl; conv => whnf))
    show DV.tuple [_, _] = _
    rw [endS, if_neg hg]; rfl
theorem c_FieldCurrent (f : List (List Cel)) (v : Int) (hl : LenF f) : PC 41 [fld f, DV.int .i64 (v)] (encE2 (fcurS f v)) := by
  refine pureCall_ofR dh41 rfl ?_
  conv => whnf
  repeat' (first
    | (refine ⟨fun hg => ?_, fun hg => ?_⟩ <;> first | contradiction | (conv => whnf))
    | (refine Or.inl ?_; conv => whnf)
    | (refine ⟨_, c_CheckField _ hl.1 hl.2, ?_⟩; conv => whnf)
    | (refine ⟨_, c_checkVolt .., ?_⟩; conv => whnf)
    | (refine ⟨_, c_first [_, _] (by simp), ?_⟩; conv => whnf)
    | (refine And.intro ?_ ?_; kernel_rfl; conv => whnf))
  · have hg := of_decide_eq_true hg
    show DV.tuple [_, _] = _
    rw [fcurS, if_pos hg]; rfl
  · have hg := of_decide_eq_false hg
    have hz := two_zero hg
    have hv := withE_zero hz.2
    obtain ⟨u, rfl⟩ : ∃ u : Nat, (u : Int) = v := ⟨v.toNat, by omega⟩
    have hcur := c_curve f (chkField_zero hz.1) (u + 1) (by omega) (by omega)
    rw [show ((u + 1 : Nat) : Int) - 1 = u by omega] at hcur
    have hu : u < (rng (u + 1) fun v => curF f v).length := by rw [rng_len]; omega
    repeat' (first
      | (refine ⟨fun hg => ?_, fun hg => ?_⟩ <;> first | contradiction | (conv => whnf))
      | (refine Or.inl ?_; conv => whnf)
      | (refine ⟨_, hcur .., ?_⟩; conv => whnf)
      | (refine And.intro ?_ ?_; kernel_rfl; conv => whnf))
    rw [getD_enc _ _ (u) 0 hu]
    refine ⟨idxA hu rfl, ?_⟩
    conv => whnf
    repeat' (first
      | (refine ⟨fun hg => ?_, fun hg => ?_⟩ <;> first | contradiction | (conv => whnf))
      | (refine Or.inl ?_; conv => whnf)
      | (refine And.intro ?_ ?_; kernel_rfl; conv => whnf))
    show DV.tuple [_, _] = _
    rw [fcurS, if_neg hg, rng_getD _ _ (by omega : u < u + 1)]; rfl
theorem fcurS_e (f : List (List Cel)) (v : Int) : (fcurS f v).2 = firstE [chkField f, withE v 0 800] := by
  unfold fcurS
  split
  · rfl
  · rename_i h; exact (Classical.not_not.1 h).symm
theorem c_Power (f : List (List Cel)) (v : Int) (hl : LenF f) : PC 42 [fld f, DV.int .i64 (v)] (encE2 (powS f v)) := by
  refine pureCall_ofR dh42 rfl ?_
  conv => whnf
  repeat' (first
    | (refine ⟨fun hg => ?_, fun hg => ?_⟩ <;> first | contradiction | (conv => whnf))
    | (refine Or.inl ?_; conv => whnf)
    | (refine ⟨_, c_FieldCurrent _ _ hl, ?_⟩; conv => whnf)
    | (refine And.intro ?_ ?_; kernel_rfl; conv => whnf))
  · have hg := of_decide_eq_true hg
    rw [fcurS_e] at hg ⊢
    show DV.tuple [_, _] = _
    rw [powS, if_pos hg]; rfl
  · have hg := of_decide_eq_false hg
    rw [fcurS_e] at hg
    have hz := two_zero hg
    have hv := withE_zero hz.2
    have hb := curF_bd f (chkField_zero hz.1).2.1 v
    have hm := mul_bd (a := v) (b := curF f v) (A := 800) (B := 1200) (by omega) (by omega) (by omega) (by omega)
    show DV.tuple [DV.int .i64 (IntKind.i64.wrap (v * (fcurS f v).1)), _] = _
    have e : (fcurS f v).1 = curF f v := by unfold fcurS; rw [if_neg hg]
    rw [e, powS, if_neg hg, wrap_W, W_in (by omega) (by omega)]; rfl
theorem c_Curve (f : List (List Cel)) (hl : LenF f) : PC 43 [fld f] (encL2 (curveS f)) := by
  refine pureCall_ofR dh43 rfl ?_
  conv => whnf
  repeat' (first
    | (refine ⟨fun hg => ?_, fun hg => ?_⟩ <;> first | contradiction | (conv => whnf))
    | (refine Or.inl ?_; conv => whnf)
    | (refine ⟨_, c_CheckField _ hl.1 hl.2, ?_⟩; conv => whnf)
    | (refine And.intro ?_ ?_; kernel_rfl; conv => whnf))
  · have hg := of_decide_eq_true hg
    show DV.tuple [_, _] = _
    rw [curveS, if_pos hg]; rfl
  · have hg := of_decide_eq_false hg
    have hok := chkField_zero (Classical.not_not.1 hg)
    have hb := endF_bd hok
    have hcur := c_curve f hok ((endF f).toNat + 1) (by omega) (by omega)
    rw [show (((endF f).toNat + 1 : Nat) : Int) - 1 = endF f by omega] at hcur
    repeat' (first
      | (refine ⟨fun hg => ?_, fun hg => ?_⟩ <;> first | contradiction | (conv => whnf))
      | (refine Or.inl ?_; conv => whnf)
      | (refine ⟨_, c_end _ hok, ?_⟩; conv => whnf)
      | (refine ⟨_, hcur .., ?_⟩; conv => whnf)
      | (refine And.intro ?_ ?_; kernel_rfl; conv => whnf))
    show DV.tuple [_, _] = _
    rw [curveS, if_neg hg]; rfl
def oF (f : List (List Cel)) (i : Nat) : List DV := (f.take i).map chn
theorem cmp_isNaN (a : Int) : PC 149 [DV.int .i64 (a)] (.bool false) := by
  refine pureCall_ofR dh149 rfl ?_
  conv => whnf
  exact bool_eq (by simp)
theorem cmp_Compare (a b : Int) : PC 140 [DV.int .i64 (a), DV.int .i64 (b)] (DV.int .i64 (if a < b then -1 else if b < a then 1 else 0)) := by
  refine pureCall_ofR dh140 rfl ?_
  conv => whnf
  repeat' (first
    | (refine ⟨fun hg => ?_, fun hg => ?_⟩ <;> first | contradiction | (conv => whnf))
    | (refine Or.inl ?_; conv => whnf)
    | (refine ⟨_, cmp_isNaN .., ?_⟩; conv => whnf)
    | (refine And.intro ?_ ?_; kernel_rfl; conv => whnf))
  all_goals simp only [decide_eq_true_eq, decide_eq_false_iff_not] at hg
  · exact int_eq (by rw [if_pos hg])
  · rename_i hq
    have hq := of_decide_eq_false hq
    exact int_eq (by rw [if_neg hq, if_pos hg])
  · rename_i hq
    have hq := of_decide_eq_false hq
    exact int_eq (by rw [if_neg hq, if_neg hg])
end Sh


set_option maxRecDepth 100000
set_option linter.unusedSimpArgs false
set_option linter.unusedVariables false
namespace Sh
open Go Go.Proofs
def encPk (p : Int × Int) : DV := .agg [DV.int .i64 (p.1), DV.int .i64 (p.2)]
def pw (l : List Int) (v : Nat) : Int × Int := ((v : Int), (v : Int) * l.getD v 0)
def pws (l : List Int) : List (List DV) := rng l.length fun v => [encPk (pw l v)]
def OkL (l : List Int) : Prop := l.length ≤ 1000 ∧ ∀ x ∈ l, 0 ≤ x ∧ x ≤ 1200
theorem OkL.at {l : List Int} (h : OkL l) {v : Nat} (hv : v < l.length) : 0 ≤ l.getD v 0 ∧ l.getD v 0 ≤ 1200 := h.2 _ (getD_in 0 hv)
theorem OkL.pw {l : List Int} (h : OkL l) {v : Nat} (hv : v < l.length) : 0 ≤ (v : Int) * l.getD v 0 ∧ (v : Int) * l.getD v 0 ≤ 1200000 := by
  have h1 := h.at hv
  have h2 := h.1
  exact ⟨Int.mul_nonneg (by omega) h1.1, Int.mul_le_mul (by omega : (v : Int) ≤ 1000) h1.2 h1.1 (by omega)⟩
theorem rng_drop {α : Type} {m i : Nat} (f : Nat → α) (h : i < m) : (rng m f).drop i = f i :: (rng m f).drop (i + 1) := by
  have hl : i < (rng m f).length := by rw [rng_len]; exact h
  rw [List.drop_eq_getElem_cons hl]; simp [rng]
theorem powersIt (l : List Int) (h : OkL l) : ISeq Tryz.prog GC 125 [.ip (iL l)] (pws l) := by
  have e0 : ((l.map (DV.int .i64)).length : Int) = l.length := by simp
  have hlen := h.1
  refine iseq_of dh125 rfl rfl (by kernel_rfl) (fun x hx => by obtain ⟨v, _, rfl⟩ := List.mem_map.1 hx; rfl) (fun gl => ?_)
  conv => whnf
  refine dwp_loopY (P := Tryz.prog) (G := GC) (k := dk125_0) (b := db125_0) (α := Nat) (fun i => [(0, .dict 0), (5, iL l), (6, .int .i64 (l.map (DV.int .i64)).length), (7, DV.int .i64 (i))]) (fun i => [(0, .ghost ((pws l).drop i) true gl)]) (fun i => i ≤ l.length) (fun i => l.length - i) 0 ⟨rfl, rfl, rfl⟩ (Nat.zero_le _) ?_
  intro i h1
  conv => whnf
  refine ⟨fun hb => ?_, fun hb => ?_⟩
  · have hi : i < l.length := by simpa using hb
    have hp := h.pw hi
    rw [show (pws l).drop i = [encPk (pw l i)] :: (pws l).drop (i + 1) from rng_drop _ hi]
    conv => whnf
    rw [getD_enc _ _ (i) 0 hi]
    refine ⟨idxA hi rfl, ?_⟩
    conv => whnf
    refine ⟨?_, fun b => ?_⟩
    · show [DV.agg [DV.int .i64 (i), DV.int .i64 (IntKind.i64.wrap ((i : Int) * l.getD i 0))]] = _
      rw [wrap_W, W_in (by omega) (by omega)]; rfl
    · conv => whnf
      refine ⟨fun hg => ?_, fun hg => ?_⟩
      · have hg : b = false := by simpa using hg
        subst hg
        conv => whnf
        intro e; cases e
      · have hg : b = true := by simpa using hg
        subst hg
        conv => whnf
        rw [wrap_succ i (by omega)]
        exact ⟨i + 1, rfl, rfl, rfl, hi, by omega⟩
  · have hi : i = l.length := by have := of_decide_eq_false hb; rw [e0] at this; omega
    conv => whnf
    intro _
    rw [hi]
    exact List.drop_of_length_le (by unfold pws; rw [rng_len]; exact Nat.le_refl _)
theorem c_powers (l : List Int) : PC 101 [iL l] (.func 125 [.ip (iL l)]) := by
  refine pureCall_ofR dh101 rfl ?_
  conv => whnf
  rfl
theorem cmp_Or (l : List Int) (hl : l.length < 4611686018427387904) : PC 139 [iL l] (DV.int .i64 (firstE l)) := by
  have e0 : ((l.map (DV.int .i64)).length : Int) = l.length := by simp
  refine pureCall_ofR dh139 rfl ?_
  conv => whnf
  refine dwp_loopR (P := Tryz.prog) (G := GC) (k := dk139_0) (b := db139_0) (α := Nat) (fun i => [(3, DV.int .i64 (0)), (6, iL l), (7, .int .i64 (l.map (DV.int .i64)).length), (8, DV.int .i64 (i))]) (fun _ => []) (fun i => i ≤ l.length ∧ firstE l = firstE (l.drop i)) (fun i => l.length - i) 0 ⟨rfl, rfl, rfl⟩ ⟨Nat.zero_le _, rfl⟩ ?_
  intro i ⟨h1, h2⟩
  conv => whnf
  refine ⟨fun hb => ?_, fun hb => ?_⟩
  · have hi : i < l.length := by simpa using hb
    have hd := firstE_drop l i hi
    conv => whnf
    rw [getD_enc _ _ (i) 0 hi]
    refine ⟨idxA hi rfl, ?_⟩
    conv => whnf
    repeat' (first
      | (refine ⟨fun hg => ?_, fun hg => ?_⟩ <;> first | contradiction | (conv => whnf))
      | (refine Or.inl ?_; conv => whnf)
      | (refine And.intro ?_ ?_; kernel_rfl; conv => whnf))
    · have hg := of_decide_eq_true hg
      exact int_eq (by rw [h2, hd, if_pos hg])
    · have hg := of_decide_eq_false hg
      rw [wrap_succ i (by omega)]
      exact ⟨i + 1, rfl, rfl, rfl, ⟨hi, by rw [h2, hd, if_neg hg]⟩, by omega⟩
  · have hi : i = l.length := by have := of_decide_eq_false hb; rw [e0] at this; omega
    conv => whnf
    exact int_eq (by rw [h2, hi, List.drop_length]; rfl)
def cmpI (a b : Int) : Int := if a < b then -1 else if b < a then 1 else 0
theorem c_compare (p o : Int × Int) : PC 126 [encPk p, encPk o] (DV.int .i64 (firstE [cmpI o.2 p.2, cmpI p.1 o.1])) := by
  refine pureCall_ofR dh126 rfl ?_
  conv => whnf
  repeat' (first
    | (refine ⟨fun hg => ?_, fun hg => ?_⟩ <;> first | contradiction | (conv => whnf))
    | (refine Or.inl ?_; conv => whnf)
    | (refine ⟨_, cmp_Compare .., ?_⟩; conv => whnf)
    | (refine ⟨_, cmp_Or [_, _] (by simp), ?_⟩; conv => whnf)
    | (refine And.intro ?_ ?_; kernel_rfl; conv => whnf))
  rfl
def hiA (l : List Int) : Nat → Nat
  | 0 => 0
  | i + 1 => if (pw l (hiA l i)).2 < (pw l i).2 then i else hiA l i
theorem hiA_le (l : List Int) : ∀ i, hiA l i ≤ i
  | 0 => Nat.le_refl _
  | i + 1 => by
    have := hiA_le l i
    unfold hiA; split <;> omega
theorem better_iff (o p : Int × Int) : firstE [cmpI o.2 p.2, cmpI p.1 o.1] < 0 ↔ o.2 < p.2 ∨ (o.2 = p.2 ∧ p.1 < o.1) := by
  simp only [firstE, cmpI]
  grind
theorem c_highest (l : List Int) (h : OkL l) : PC 102 [iL l] (encPk (pw l (hiA l l.length))) := by
  refine pureCall_ofR dh102 rfl ?_
  conv => whnf
  repeat' (first
    | (refine ⟨fun hg => ?_, fun hg => ?_⟩ <;> first | contradiction | (conv => whnf))
    | (refine Or.inl ?_; conv => whnf)
    | (refine ⟨_, c_powers .., ?_⟩; conv => whnf)
    | (refine And.intro ?_ ?_; kernel_rfl; conv => whnf))
  refine range_R (P := Tryz.prog) (G := GC) (x := db102_0x) (y := db102_0) (k := dk102_0) (pws l) (fun i => [(2, .box 2 (.agg [DV.int .i64 (0), DV.int .i64 (0)])), (3, .box 1 (.func 126 [])), (4, .box 2 (encPk (pw l (hiA l i))))]) [(2, .bptr 2 0), (3, .bptr 3 0), (4, .bptr 4 0)] (powersIt l h) rfl (fun z hz => by obtain ⟨v, _, rfl⟩ := List.mem_map.1 hz; rfl) rfl rfl rfl ?_ ?_ ?_
  · have e : encPk (pw l (hiA l 0)) = .agg [DV.int .i64 (0), DV.int .i64 (0)] := by show DV.agg [DV.int .i64 ((0 : Nat)), DV.int .i64 (((0 : Nat) : Int) * l.getD 0 0)] = _; simp
    rw [e]; rfl
  · intro i z hz
    have hi : i < l.length := by
      have := (List.getElem?_eq_some_iff.1 hz).1
      unfold pws at this; rwa [rng_len] at this
    have hz2 : z = [encPk (pw l i)] := by
      have := rng_drop (fun v => [encPk (pw l v)]) hi
      have h3 := congrArg (fun l => l[0]?) this
      simp only [List.getElem?_drop, Nat.add_zero, List.getElem?_cons_zero] at h3
      have h4 : (rng l.length fun v => [encPk (pw l v)])[i]? = some z := hz
      rw [h3] at h4
      exact (Option.some.inj h4).symm
    subst hz2
    have hle := hiA_le l i
    conv => whnf
    repeat' (first
      | (refine ⟨fun hg => ?_, fun hg => ?_⟩ <;> first | contradiction | (conv => whnf))
      | (refine Or.inl ?_; conv => whnf)
      | (refine ⟨_, c_compare .., ?_⟩; conv => whnf)
      | (refine And.intro ?_ ?_; kernel_rfl; conv => whnf))
    · have hg := (better_iff (pw l (hiA l i)) (pw l i)).1 (of_decide_eq_true hg)
      have hlt : (pw l (hiA l i)).2 < (pw l i).2 := by
        rcases hg with hg | ⟨_, hg⟩
        · exact hg
        · have hg : (i : Int) < (hiA l i : Nat) := hg
          omega
      have e : hiA l (i + 1) = i := by rw [hiA, if_pos hlt]
      rw [e]; rfl
    · have hg : ¬ _ := fun hh => (of_decide_eq_false hg) ((better_iff (pw l (hiA l i)) (pw l i)).2 hh)
      have hlt : ¬ (pw l (hiA l i)).2 < (pw l i).2 := fun hh => hg (.inl hh)
      have e : hiA l (i + 1) = hiA l i := by rw [hiA, if_neg hlt]
      rw [e]; rfl
  · rw [show (pws l).length = l.length from rng_len _ _]
    conv => whnf
    rfl
theorem crv_ok {f : List (List Cel)} (h : OkF f) : OkL (crv f) ∧ crv f ≠ [] := by
  have hb := endF_bd h
  refine ⟨⟨by unfold crv; rw [rng_len]; omega, fun x hx => ?_⟩, ?_⟩
  · obtain ⟨v, _, rfl⟩ := List.mem_map.1 hx
    exact curF_bd f h.2.1 v
  · intro e
    have : (crv f).length = (endF f).toNat + 1 := rng_len _ _
    rw [e] at this; simp at this
def hiF (f : List (List Cel)) : Int × Int := pw (crv f) (hiA (crv f) (crv f).length)
def highS (f : List (List Cel)) : Int × Int × Int := if chkField f ≠ 0 then (0, 0, chkField f) else ((hiF f).1, (hiF f).2, 0)
theorem curveS_e (f : List (List Cel)) : (curveS f).2 = chkField f := by
  unfold curveS
  split
  · rfl
  · rename_i h; exact (Classical.not_not.1 h).symm
theorem curveS_l {f : List (List Cel)} (h : chkField f = 0) : (curveS f).1 = crv f := by unfold curveS; rw [if_neg (by omega)]
theorem c_Highest (f : List (List Cel)) (hl : LenF f) : PC 55 [fld f] (.tuple [DV.int .i64 ((highS f).1), DV.int .i64 ((highS f).2.1), DV.int .i64 ((highS f).2.2)]) := by
  refine pureCall_ofR dh55 rfl ?_
  conv => whnf
  repeat' (first
    | (refine ⟨fun hg => ?_, fun hg => ?_⟩ <;> first | contradiction | (conv => whnf))
    | (refine Or.inl ?_; conv => whnf)
    | (refine ⟨_, c_Curve _ hl, ?_⟩; conv => whnf)
    | (refine And.intro ?_ ?_; kernel_rfl; conv => whnf))
  · have hg := of_decide_eq_true hg
    rw [curveS_e] at hg ⊢
    show DV.tuple [_, _, _] = _
    rw [highS, if_pos hg]
  · have hg := of_decide_eq_false hg
    rw [curveS_e] at hg
    have hz := Classical.not_not.1 hg
    rw [curveS_l hz]
    have hok := crv_ok (chkField_zero hz)
    repeat' (first
      | (refine ⟨fun hg => ?_, fun hg => ?_⟩ <;> first | contradiction | (conv => whnf))
      | (refine Or.inl ?_; conv => whnf)
      | (refine ⟨_, c_highest _ hok.1, ?_⟩; conv => whnf)
      | (refine And.intro ?_ ?_; kernel_rfl; conv => whnf))
    show DV.tuple [_, _, _] = _
    rw [highS, if_neg hg]; rfl
end Sh


set_option linter.unusedSimpArgs false
namespace Sh
open Go
def toE (l : List Int) (p : Int) : Nat → Nat → Nat
  | 0, t => t
  | n + 1, t => if t + 1 < l.length ∧ (pw l (t + 1)).2 = p then toE l p n (t + 1) else t
def toF (l : List Int) (i : Nat) : Nat := toE l (pw l i).2 (l.length - i) i
def isPk (l : List Int) (i : Nat) : Bool := (!decide ((pw l i).2 = 0) && (decide (i = 0) || decide ((pw l (i - 1)).2 < (pw l i).2))) && (decide (toF l i + 1 = l.length) || decide ((pw l (toF l i + 1)).2 < (pw l i).2))
def pks (l : List Int) (k : Nat) : List Int := ((List.range k).filter (isPk l)).map fun i : Nat => (i : Int)
def pkD (l : List Int) (k : Nat) : List DV := (pks l k).map (DV.int .i64)
theorem pkD_len (l : List Int) (k : Nat) : (pkD l k).length ≤ k := by
  unfold pkD pks; rw [List.length_map, List.length_map]
  have := List.length_filter_le (isPk l) (List.range k)
  rwa [List.length_range] at this
theorem pkD_true {l : List Int} {k : Nat} (h : isPk l k = true) : pkD l (k + 1) = pkD l k ++ [DV.int .i64 (k : Int)] := by
  unfold pkD pks
  rw [List.range_succ, List.filter_append, List.map_append, List.map_append, List.filter_cons, h]; rfl
theorem pkD_false {l : List Int} {k : Nat} (h : isPk l k = false) : pkD l (k + 1) = pkD l k := by
  unfold pkD pks
  rw [List.range_succ, List.filter_append, List.map_append, List.map_append, List.filter_cons, h]; simp
end Sh


set_option maxRecDepth 100000
set_option linter.unusedSimpArgs false
set_option linter.unusedVariables false
namespace Sh
open Go Go.Proofs
def pkR (l : List Int) (i : Nat) : List DV := rng i fun v => encPk (pw l v)
theorem pkR_len (l : List Int) (i : Nat) : (pkR l i).length = i := rng_len _ _
theorem pkR_succ (l : List Int) (i : Nat) : pkR l (i + 1) = pkR l i ++ [encPk (pw l i)] := rng_succ _ _
def apH (l : List Int) : Nat → Heap
  | 0 => [(2, .box 1 (.full []))]
  | i + 1 => [(2, .box 1 (.own 11 0 (pkR l (i + 1)).length (pkR l (i + 1)).length)), (11, .row 2 (pkR l (i + 1)) false)]
theorem pws_get {l : List Int} {i : Nat} {z : List DV} (hz : (pws l)[i]? = some z) : i < l.length ∧ z = [encPk (pw l i)] := by
  have hi : i < l.length := by
    have := (List.getElem?_eq_some_iff.1 hz).1
    unfold pws at this; rwa [rng_len] at this
  have := rng_drop (fun v => [encPk (pw l v)]) hi
  have h3 := congrArg (fun l => l[0]?) this
  simp only [List.getElem?_drop, Nat.add_zero, List.getElem?_cons_zero] at h3
  have h4 : (rng l.length fun v => [encPk (pw l v)])[i]? = some z := hz
  rw [h3] at h4
  exact ⟨hi, (Option.some.inj h4).symm⟩
theorem appendSeq (l : List Int) (h : OkL l) (hn : l ≠ []) : HCall Tryz.prog GC 124 [.full [], .func 125 [.ip (iL l)]] [] (.list (pkR l l.length)) [] := by
  have hlen := h.1
  refine hCall_ofR dh124 rfl (by kernel_rfl) (by kernel_rfl) ?_
  conv => whnf
  refine range_R (P := Tryz.prog) (G := GC) (x := db124_0x) (y := db124_0) (k := dk124_0) (pws l) (apH l) [(2, .bptr 2 0), (4, .full [])] (powersIt l h) rfl (fun z hz => by obtain ⟨v, _, rfl⟩ := List.mem_map.1 hz; rfl) rfl rfl rfl rfl ?_ ?_
  · intro i z hz
    obtain ⟨hi, rfl⟩ := pws_get hz
    cases i with
    | zero =>
      conv => whnf
      refine ⟨⟨by simp, fun e he => by simp at he; subst he; rfl, fun e he => by simp at he, .inl rfl⟩, ?_⟩
      conv => whnf
      exact ⟨rfl, rfl⟩
    | succ i =>
      conv => whnf
      refine ⟨⟨rfl, rfl, rfl, by rw [pkR_len]; simp; omega, fun e he => by simp at he; subst he; rfl⟩, ?_⟩
      conv => whnf
      refine ⟨rfl, ?_⟩
      show _ = [(2, DObj.box 1 (.own 11 0 (pkR l (i + 1 + 1)).length (pkR l (i + 1 + 1)).length)), (11, .row 2 (pkR l (i + 1 + 1)) false)]
      rw [pkR_succ l (i + 1)]; rfl
  · rw [show (pws l).length = l.length from rng_len _ _]
    obtain ⟨n, hl⟩ : ∃ n, l.length = n + 1 := ⟨l.length - 1, by have := List.length_pos_iff.2 hn; omega⟩
    rw [hl]
    conv => whnf
    refine ⟨rfl, ?_⟩
    rw [forceS_eq]
    show (if (pkR l (n + 1)).length = (pkR l (n + 1)).length then DV.list (window (pkR l (n + 1)) 0 (pkR l (n + 1)).length) else .undef) = _
    rw [if_pos rfl, window_full]
theorem collect (l : List Int) (h : OkL l) (hn : l ≠ []) : PC 100 [.func 125 [.ip (iL l)]] (.list (pkR l l.length)) := by
  refine pureCall_ofR dh100 rfl ?_
  conv => whnf
  refine .inr ⟨[], _, _, _, _, appendSeq l h hn, ⟨rfl, rfl, ?_, ?_⟩, ?_⟩
  · trivial
  · trivial
  conv => whnf
  rfl
def peaksS (f : List (List Cel)) : List Int × Int := if chkField f ≠ 0 then ([], chkField f) else (pks (crv f) (crv f).length, 0)
theorem c_Peaks (f : List (List Cel)) (hl : LenF f) : PC 54 [fld f] (encL2 (peaksS f)) := by
  refine pureCall_ofR dh54 rfl ?_
  conv => whnf
  repeat' (first
    | (refine ⟨fun hg => ?_, fun hg => ?_⟩ <;> first | contradiction | (conv => whnf))
    | (refine Or.inl ?_; conv => whnf)
    | (refine ⟨_, c_CheckField _ hl.1 hl.2, ?_⟩; conv => whnf)
    | (refine And.intro ?_ ?_; kernel_rfl; conv => whnf))
  · have hg := of_decide_eq_true hg
    show DV.tuple [_, _] = _
    rw [peaksS, if_pos hg]; rfl
  · have hg := of_decide_eq_false hg
    have hok := chkField_zero (Classical.not_not.1 hg)
    have hb := endF_bd hok
    have hcur := c_curve f hok ((endF f).toNat + 1) (by omega) (by omega)
    rw [show (((endF f).toNat + 1 : Nat) : Int) - 1 = endF f by omega] at hcur
    have hcr := (crv_ok hok).1
    have hcn := (crv_ok hok).2
    repeat' (first
      | (refine ⟨fun hg => ?_, fun hg => ?_⟩ <;> first | contradiction | (conv => whnf))
      | (refine Or.inl ?_; conv => whnf)
      | (refine ⟨_, c_end _ hok, ?_⟩; conv => whnf)
      | (refine ⟨_, hcur .., ?_⟩; conv => whnf)
      | (refine ⟨_, c_powers (crv f), ?_⟩; conv => whnf)
      | (refine ⟨_, collect (crv f) hcr hcn, ?_⟩; conv => whnf)
      | (refine And.intro ?_ ?_; kernel_rfl; conv => whnf))
    have ep : peaksS f = (pks (crv f) (crv f).length, 0) := by rw [peaksS, if_neg hg]
    rw [ep]
    clear hcur
    generalize crv f = L at *
    have hlen := hcr.1
    have e0 : ((pkR L L.length).length : Int) = L.length := by rw [pkR_len]
    have hget : ∀ i, i < L.length → (pkR L L.length).getD (Int.toNat ((i : Nat) : Int)) .undef = encPk (pw L i) := fun i hi => by rw [Int.toNat_natCast]; exact rng_getD _ _ hi
    refine dwp_loopR (P := Tryz.prog) (G := GC) (k := dk54_1) (b := db54_1) (α := Nat) (fun i => [(5, .list (pkR L L.length)), (6, .own 6 0 (pkD L i).length (pkD L i).length), (21, .list (pkR L L.length)), (22, .int .i64 (pkR L L.length).length), (23, DV.int .i64 (i))]) (fun i => [(6, .row 1 (pkD L i) false)]) (fun i => i ≤ L.length) (fun i => L.length - i) 0 ⟨rfl, rfl, rfl⟩ (Nat.zero_le _) ?_
    intro i h1
    have hpl := pkD_len L i
    conv => whnf
    refine ⟨fun hb => ?_, fun hb => ?_⟩
    · have hi : i < L.length := by have := of_decide_eq_true hb; rw [e0] at this; omega
      have p1 := hcr.pw hi
      conv => whnf
      rw [hget i hi]
      refine ⟨⟨by omega, by rw [e0]; omega, rfl⟩, ?_⟩
      conv => whnf
      repeat' (first
        | (refine ⟨fun hg => ?_, fun hg => ?_⟩ <;> first | contradiction | (conv => whnf))
        | (refine Or.inl ?_; conv => whnf)
        | (rw [wrap_pred i (by simp only [decide_eq_true_eq, Int.natCast_pos] at *; omega) (by omega), hget (i - 1) (by omega)]; refine ⟨⟨by omega, by rw [e0]; omega, rfl⟩, ?_⟩; conv => whnf)
        | (refine And.intro ?_ ?_; kernel_rfl; conv => whnf))
      all_goals (try rw [wrap_succ i (by omega)])
      any_goals
        have hpre : (!decide ((pw L i).2 = 0) && (decide (i = 0) || decide ((pw L (i - 1)).2 < (pw L i).2))) = true := by
          simp only [Bool.cond_true, Bool.cond_false, Bool.not_true, Bool.not_false, decide_eq_true_eq, decide_eq_false_iff_not, Int.natCast_pos] at *
          grind
        clear hg
        refine dwp_loopR (P := Tryz.prog) (G := GC) (k := dk54_0) (b := db54_0) (α := Nat) (fun t => [(5, .list (pkR L L.length)), (6, .own 6 0 (pkD L i).length (pkD L i).length), (8, .bptr 8 0), (9, DV.int .i64 (t)), (21, .list (pkR L L.length)), (22, .int .i64 (pkR L L.length).length), (23, DV.int .i64 (i))]) (fun _ => [(6, .row 1 (pkD L i) false), (8, .box 2 (encPk (pw L i)))]) (fun t => t < L.length ∧ i ≤ t ∧ toE L (pw L i).2 (L.length - t) t = toF L i) (fun t => L.length - t) i ⟨rfl, rfl, rfl⟩ ⟨hi, Nat.le_refl _, rfl⟩ ?_
        intro t ⟨ht, hit, hto⟩
        obtain ⟨m, hm⟩ : ∃ m, L.length - t = m + 1 := ⟨L.length - t - 1, by omega⟩
        rw [hm, toE] at hto
        have e1 : IntKind.i64.wrap ((t : Int) + 1) = ((t + 1 : Nat) : Int) := wrap_succ t (by omega)
        conv => whnf
        rw [e1]
        refine ⟨fun hg => ?_, fun hg => ?_⟩
        · have hlt : t + 1 < L.length := by have := of_decide_eq_true hg; rw [e0] at this; omega
          clear hg
          conv => whnf
          rw [e1, hget (t + 1) hlt]
          refine ⟨⟨by omega, by rw [e0]; omega, rfl⟩, ?_⟩
          conv => whnf
          refine ⟨by kernel_rfl, ?_⟩
          conv => whnf
          refine ⟨fun hg => ?_, fun hg => ?_⟩
          · have hg : (pw L (t + 1)).2 = (pw L i).2 := of_decide_eq_true hg
            conv => whnf
            rw [e1]
            rw [if_pos ⟨hlt, hg⟩] at hto
            exact ⟨t + 1, rfl, rfl, rfl, ⟨hlt, by omega, by rw [show L.length - (t + 1) = m by omega]; exact hto⟩, by omega⟩
          · have hg : ¬ (pw L (t + 1)).2 = (pw L i).2 := of_decide_eq_false hg
            rw [if_neg (fun hh => hg hh.2)] at hto
            have hto := hto.symm
            clear hg
            conv => whnf
            rw [e1]
            refine ⟨fun hg => ?_, fun hg => ?_⟩
            · have hq := of_decide_eq_false hg
              rw [e0] at hq
              have hlt : t + 1 < L.length := by omega
              conv => whnf
              rw [e1, hget (t + 1) hlt]
              refine ⟨⟨by omega, by rw [e0]; omega, rfl⟩, ?_⟩
              repeat' (first
                | (refine ⟨fun hg => ?_, fun hg => ?_⟩ <;> first | contradiction | (conv => whnf))
                | (refine Or.inl ?_; conv => whnf)
                | (refine And.intro ?_ ?_; kernel_rfl; conv => whnf))
              · have hq2 : (pw L (t + 1)).2 < (pw L i).2 := of_decide_eq_true hg
                have hpk : isPk L i = true := by unfold isPk; rw [hpre, hto, decide_eq_true hq2]; simp
                refine ⟨⟨rfl, rfl, rfl, by simp; omega, fun e he => by simp at he; subst he; rfl⟩, ?_⟩
                conv => whnf
                rw [wrap_succ i (by omega)]
                refine ⟨i + 1, rfl, ?_, ?_, hi, by omega⟩
                · rw [pkD_true hpk]; rfl
                · rw [pkD_true hpk]; rfl
              · have hq2 : ¬ (pw L (t + 1)).2 < (pw L i).2 := of_decide_eq_false hg
                have hpk : isPk L i = false := by unfold isPk; rw [hpre, hto, decide_eq_false hq2, decide_eq_false (by omega : ¬ t + 1 = L.length)]; rfl
                rw [wrap_succ i (by omega)]
                refine ⟨i + 1, rfl, ?_, ?_, hi, by omega⟩
                · rw [pkD_false hpk]; rfl
                · rw [pkD_false hpk]; rfl
            · have hq := of_decide_eq_true (show decide _ = true from hg)
              rw [e0] at hq
              have hpk : isPk L i = true := by unfold isPk; rw [hpre, hto, decide_eq_true (by omega : t + 1 = L.length)]; rfl
              repeat' (first
                | (refine ⟨fun hg => ?_, fun hg => ?_⟩ <;> first | contradiction | (conv => whnf))
                | (refine Or.inl ?_; conv => whnf)
                | (refine And.intro ?_ ?_; kernel_rfl; conv => whnf))
              refine ⟨⟨rfl, rfl, rfl, by simp; omega, fun e he => by simp at he; subst he; rfl⟩, ?_⟩
              conv => whnf
              rw [wrap_succ i (by omega)]
              refine ⟨i + 1, rfl, ?_, ?_, hi, by omega⟩
              · rw [pkD_true hpk]; rfl
              · rw [pkD_true hpk]; rfl
        · have hlt : ¬ t + 1 < L.length := by have := of_decide_eq_false hg; rw [e0] at this; omega
          rw [if_neg (fun hh => hlt hh.1)] at hto
          have hto := hto.symm
          clear hg
          conv => whnf
          refine ⟨by kernel_rfl, ?_⟩
          conv => whnf
          refine ⟨fun hg => Bool.noConfusion hg, fun _ => ?_⟩
          conv => whnf
          rw [e1]
          refine ⟨fun hg => ?_, fun hg => ?_⟩
          · have hq := of_decide_eq_false hg
            rw [e0] at hq
            exfalso; omega
          · have hq := of_decide_eq_true (show decide _ = true from hg)
            rw [e0] at hq
            have hpk : isPk L i = true := by unfold isPk; rw [hpre, hto, decide_eq_true (by omega : t + 1 = L.length)]; rfl
            repeat' (first
              | (refine ⟨fun hg => ?_, fun hg => ?_⟩ <;> first | contradiction | (conv => whnf))
              | (refine Or.inl ?_; conv => whnf)
              | (refine And.intro ?_ ?_; kernel_rfl; conv => whnf))
            refine ⟨⟨rfl, rfl, rfl, by simp; omega, fun e he => by simp at he; subst he; rfl⟩, ?_⟩
            conv => whnf
            rw [wrap_succ i (by omega)]
            refine ⟨i + 1, rfl, ?_, ?_, hi, by omega⟩
            · rw [pkD_true hpk]; rfl
            · rw [pkD_true hpk]; rfl
      all_goals
        have hpk : isPk L i = false := by
          unfold isPk
          simp only [Bool.cond_true, Bool.cond_false, Bool.not_true, Bool.not_false, decide_eq_true_eq, decide_eq_false_iff_not, Int.natCast_pos] at *
          grind
        refine ⟨i + 1, rfl, ?_, ?_, hi, by omega⟩
        · rw [pkD_false hpk]; rfl
        · rw [pkD_false hpk]; rfl
    · have hi : i = L.length := by have := of_decide_eq_false hb; rw [e0] at this; omega
      conv => whnf
      refine ⟨rfl, ?_⟩
      rw [window_full, hi]
      rfl
end Sh


set_option linter.unusedSimpArgs false
namespace Sh
open Go
def ats (l : List Int) (m : Int) : Nat → Nat
  | 0 => 0
  | k + 1 => (m / l.getD (ats l m k) 0 + 1).toNat
def goes (l : List Int) (m : Int) (k : Nat) : Prop := m < l.getD (ats l m k) 0 * ((l.length : Int) - 1)
instance (l : List Int) (m : Int) (k : Nat) : Decidable (goes l m k) := inferInstanceAs (Decidable (_ < _))
def stp (l : List Int) (m : Int) : Nat → Nat → Nat
  | 0, k => k
  | n + 1, k => if goes l m k then stp l m n (k + 1) else k
def certL (l : List Int) (m : Int) : List Int := rng (stp l m l.length 0 + 1) fun k => (ats l m k : Int)
theorem ats_next {l : List Int} {m : Int} (hm : ∀ v : Nat, v < l.length → (v : Int) * l.getD v 0 ≤ m) (h0 : 0 ≤ m) {k : Nat} (hk : ats l m k < l.length) (hg : goes l m k) :
    0 < l.getD (ats l m k) 0 ∧ ats l m k < ats l m (k + 1) ∧ ats l m (k + 1) < l.length ∧ ((ats l m (k + 1) : Nat) : Int) = m / l.getD (ats l m k) 0 + 1 := by
  unfold goes at hg
  have h1 := hm _ hk
  have hc : 0 < l.getD (ats l m k) 0 := by
    false_or_by_contra
    rename_i hc
    have : l.getD (ats l m k) 0 * ((l.length : Int) - 1) ≤ 0 := Int.mul_nonpos_of_nonpos_of_nonneg (by omega) (by omega)
    omega
  have e : ats l m (k + 1) = (m / l.getD (ats l m k) 0 + 1).toNat := rfl
  generalize hcc : l.getD (ats l m k) 0 = c at *
  have d1 : (ats l m k : Int) ≤ m / c := Int.le_ediv_of_mul_le hc h1
  have d2 : m / c < (l.length : Int) - 1 := Int.ediv_lt_of_lt_mul hc (by rw [Int.mul_comm]; exact hg)
  refine ⟨hc, ?_, ?_, ?_⟩ <;> omega
end Sh


set_option maxRecDepth 100000
set_option linter.unusedSimpArgs false
set_option linter.unusedVariables false
namespace Sh
open Go Go.Proofs
theorem hiA_max (l : List Int) : ∀ k v : Nat, v < k → (pw l v).2 ≤ (pw l (hiA l k)).2
  | 0, v, h => absurd h (Nat.not_lt_zero v)
  | k + 1, v, h => by
    unfold hiA
    by_cases e : v = k
    · subst e
      split
      · exact Int.le_refl _
      · omega
    · have := hiA_max l k v (by omega)
      split <;> omega
def clD (l : List Int) (m : Int) (k : Nat) : List DV := rng (k + 1) fun j => DV.int .i64 ((ats l m j : Nat))
theorem clD_len (l : List Int) (m : Int) (k : Nat) : (clD l m k).length = k + 1 := rng_len _ _
theorem clD_succ (l : List Int) (m : Int) (k : Nat) : clD l m (k + 1) = clD l m k ++ [DV.int .i64 ((ats l m (k + 1) : Nat))] := rng_succ _ _
theorem clD_last (l : List Int) (m : Int) (k : Nat) : (clD l m k).getD k .undef = DV.int .i64 ((ats l m k : Nat)) := rng_getD _ _ (by omega)
def certS (f : List (List Cel)) : List Int × Int := if chkField f ≠ 0 then ([], chkField f) else (certL (crv f) (hiF f).2, 0)
theorem hiF_bd {f : List (List Cel)} (h : OkF f) : 0 ≤ (hiF f).2 ∧ (hiF f).2 ≤ 1200000 ∧ ∀ v : Nat, v < (crv f).length → (v : Int) * (crv f).getD v 0 ≤ (hiF f).2 := by
  have hc := crv_ok h
  have hpos := List.length_pos_iff.2 hc.2
  have hle := hiA_le (crv f) (crv f).length
  have h0 := hiA_max (crv f) (crv f).length 0 hpos
  have hlt : hiA (crv f) (crv f).length < (crv f).length := by
    have hA : ∀ i, i ≤ (crv f).length → hiA (crv f) i < (crv f).length := by
      intro i
      induction i with
      | zero => intro _; exact hpos
      | succ i ih => intro hi; unfold hiA; split; omega; exact ih (by omega)
    exact hA _ (Nat.le_refl _)
  have hp := hc.1.pw hlt
  exact ⟨hp.1, by show (_ : Int) ≤ _; have := hp.2; unfold hiF; show _ * _ ≤ _; omega, fun v hv => hiA_max _ _ v hv⟩
theorem c_Certificate (f : List (List Cel)) (hl : LenF f) : PC 56 [fld f] (encL2 (certS f)) := by
  refine pureCall_ofR dh56 rfl ?_
  conv => whnf
  repeat' (first
    | (refine ⟨fun hg => ?_, fun hg => ?_⟩ <;> first | contradiction | (conv => whnf))
    | (refine Or.inl ?_; conv => whnf)
    | (refine ⟨_, c_Curve _ hl, ?_⟩; conv => whnf)
    | (refine And.intro ?_ ?_; kernel_rfl; conv => whnf))
  · have hg := of_decide_eq_true hg
    rw [curveS_e] at hg ⊢
    show DV.tuple [_, _] = _
    rw [certS, if_pos hg]; rfl
  · have hg := of_decide_eq_false hg
    rw [curveS_e] at hg
    have hz := Classical.not_not.1 hg
    rw [curveS_l hz]
    have hF := chkField_zero hz
    have hok := crv_ok hF
    have hm := hiF_bd hF
    have ec : certS f = (certL (crv f) (hiF f).2, 0) := by rw [certS, if_neg hg]
    rw [ec]
    have hh : (pw (crv f) (hiA (crv f) (crv f).length)).2 = (hiF f).2 := rfl
    repeat' (first
      | (refine ⟨fun hg => ?_, fun hg => ?_⟩ <;> first | contradiction | (conv => whnf))
      | (refine Or.inl ?_; conv => whnf)
      | (refine ⟨_, c_highest _ hok.1, ?_⟩; conv => whnf)
      | (refine And.intro ?_ ?_; kernel_rfl; conv => whnf))
    rw [hh]
    clear hh ec
    generalize (hiF f).2 = m at *
    generalize crv f = L at *
    have hlen := hok.1.1
    have hpos := List.length_pos_iff.2 hok.2
    have e0 : ((L.map (DV.int .i64)).length : Int) = L.length := by simp
    refine dwp_loopR (P := Tryz.prog) (G := GC) (k := dk56_0) (b := db56_0) (α := Nat) (fun k => [(4, iL L), (6, DV.int .i64 (m)), (7, .own 20 0 (clD L m k).length (clD L m k).length)]) (fun k => [(20, .row 1 (clD L m k) false)]) (fun k => k ≤ ats L m k ∧ ats L m k < L.length ∧ stp L m (L.length - k) k = stp L m L.length 0) (fun k => L.length - k) 0 ⟨rfl, rfl, rfl⟩ ⟨Nat.le_refl _, hpos, rfl⟩ ?_
    intro k ⟨hk1, hk2, hk3⟩
    have hb := hok.1.at hk2
    obtain ⟨n, hn⟩ : ∃ n, L.length - k = n + 1 := ⟨L.length - k - 1, by omega⟩
    rw [hn, stp] at hk3
    have w1 : IntKind.i64.wrap (((clD L m k).length : Int) - 1) = (k : Int) := by rw [clD_len, wrap_W, W_in (by omega) (by omega)]; omega
    conv => whnf
    refine ⟨rfl, ?_⟩
    conv => whnf
    rw [w1]
    refine ⟨⟨rfl, by omega, by rw [clD_len]; omega⟩, ?_⟩
    conv => whnf
    rw [Int.toNat_natCast, Nat.zero_add, clD_last]
    refine ⟨⟨rfl, by decide⟩, ?_⟩
    conv => whnf
    rw [getD_enc _ _ (ats L m k) 0 hk2]
    refine ⟨idxA hk2 rfl, ?_⟩
    conv => whnf
    have w2 : IntKind.i64.wrap (((L.map (DV.int .i64)).length : Int) - 1) = (L.length : Int) - 1 := by rw [e0, wrap_W, W_in (by omega) (by omega)]
    rw [w2]
    have hmul := mul_bd (a := L.getD (ats L m k) 0) (b := (L.length : Int) - 1) (A := 1200) (B := 1000) (by omega) (by omega) (by omega) (by omega)
    rw [show IntKind.i64.wrap (L.getD (ats L m k) 0 * ((L.length : Int) - 1)) = L.getD (ats L m k) 0 * ((L.length : Int) - 1) from W_in (by omega) (by omega)]
    refine ⟨fun hg => ?_, fun hg => ?_⟩
    · have hg : ¬ goes L m k := by have := of_decide_eq_true hg; unfold goes; omega
      rw [if_neg hg] at hk3
      conv => whnf
      refine ⟨rfl, ?_⟩
      rw [window_full]
      show DV.tuple [.list (clD L m k), DV.int .i64 (0)] = _
      unfold certL
      rw [← hk3]
      show _ = DV.tuple [.list ((rng (k + 1) fun k => (ats L m k : Int)).map (DV.int .i64)), DV.int .i64 (0)]
      rw [rng_map]; rfl
    · have hg : goes L m k := by have := of_decide_eq_false hg; unfold goes; omega
      rw [if_pos hg] at hk3
      have hnx := ats_next hm.2.2 hm.1 hk2 hg
      have w3 : IntKind.i64.wrap (m.tdiv (L.getD (ats L m k) 0)) = m / L.getD (ats L m k) 0 := by
        rw [Int.tdiv_eq_ediv_of_nonneg hm.1, wrap_W, W_in (by omega) (by omega)]
      conv => whnf
      refine ⟨by omega, ?_⟩
      conv => whnf
      rw [w3, show IntKind.i64.wrap (m / L.getD (ats L m k) 0 + 1) = ((ats L m (k + 1) : Nat) : Int) by rw [wrap_W, W_in (by omega) (by omega)]; omega]
      refine ⟨⟨rfl, rfl, rfl, by rw [clD_len]; simp; omega, fun e he => by simp at he; subst he; rfl⟩, ?_⟩
      conv => whnf
      refine ⟨k + 1, rfl, ?_, ?_, ⟨by omega, hnx.2.2.1, by rw [show L.length - (k + 1) = n by omega]; exact hk3⟩, by omega⟩
      · rw [clD_succ]; rfl
      · rw [clD_succ]; rfl
end Sh


set_option maxRecDepth 100000
set_option linter.unusedSimpArgs false
set_option linter.unusedVariables false
namespace Sh
open Go Go.Proofs
def misT (f : List (List Cel)) (i : Nat) : Int := sumI ((f.take i).map fun l => (hiF [l]).2)
theorem misT_succ (f : List (List Cel)) (i : Nat) (h : i < f.length) : misT f (i + 1) = misT f i + (hiF [f.getD i []]).2 := by
  unfold misT; rw [take_map_succ _ f i [] h, sumI_append, sumI_one]
def misF (f : List (List Cel)) : Int := misT f f.length - (hiF f).2
theorem OkF.one {f : List (List Cel)} (h : OkF f) {l : List Cel} (hl : l ∈ f) : OkF [l] := ⟨by simp, by simp, fun x hx => by simp at hx; rw [hx]; exact h.2.2 l hl⟩
theorem misT_bd {f : List (List Cel)} (h : OkF f) (i : Nat) : 0 ≤ misT f i ∧ misT f i ≤ 7200000 := by
  have h1 := sumI_bd (l := (f.take i).map fun l => (hiF [l]).2) (A := 0) (B := 1200000) (fun x hx => by
    obtain ⟨l, hl, rfl⟩ := List.mem_map.1 hx
    have := hiF_bd (h.one (List.mem_of_mem_take hl))
    exact ⟨this.1, this.2.1⟩)
  have h2 : ((f.take i).map fun l => (hiF [l]).2).length ≤ 6 := by have := h.2.1; simp; omega
  unfold misT
  omega
theorem chkF_zero {f : List (List Cel)} (h : chkField f = 0) {l : List Cel} (hl : l ∈ f) : chkField [l] = 0 := by
  have h1 := h
  unfold chkField at h1
  split at h1
  · exact absurd h1 ‹_›
  · have := firstE_mem h1 _ (List.mem_map_of_mem hl)
    unfold chkField
    rw [show (([l].length : Nat) : Int) = 1 from rfl, if_neg (by decide : ¬ countE 1 6 ≠ 0)]
    simp [firstE, this]
theorem highS_ok {f : List (List Cel)} (h : chkField f = 0) : highS f = ((hiF f).1, (hiF f).2, 0) := by unfold highS; rw [if_neg (by omega)]
theorem highS_e (f : List (List Cel)) : (highS f).2.2 = chkField f := by
  unfold highS
  split
  · rfl
  · rename_i h; exact (Classical.not_not.1 h).symm
def misS (f : List (List Cel)) : Int × Int := if chkField f ≠ 0 then (0, chkField f) else (misF f, 0)
theorem LenF.one {f : List (List Cel)} (h : LenF f) {l : List Cel} (hl : l ∈ f) : LenF [l] := ⟨by simp, fun x hx => by simp at hx; rw [hx]; exact h.2 l hl⟩
theorem c_Mismatch (f : List (List Cel)) (hl : LenF f) : PC 44 [fld f] (encE2 (misS f)) := by
  have e0 : ((f.map chn).length : Int) = f.length := by simp
  refine pureCall_ofR dh44 rfl ?_
  conv => whnf
  repeat' (first
    | (refine ⟨fun hg => ?_, fun hg => ?_⟩ <;> first | contradiction | (conv => whnf))
    | (refine Or.inl ?_; conv => whnf)
    | (refine ⟨_, c_Highest _ hl, ?_⟩; conv => whnf)
    | (refine And.intro ?_ ?_; kernel_rfl; conv => whnf))
  · have hg := of_decide_eq_true hg
    rw [highS_e] at hg ⊢
    show DV.tuple [_, _] = _
    rw [misS, if_pos hg]; rfl
  · have hg := of_decide_eq_false hg
    rw [highS_e] at hg
    have hz := Classical.not_not.1 hg
    have hF := chkField_zero hz
    have hm := hiF_bd hF
    have hfl := hF.2.1
    rw [show (highS f).2.1 = (hiF f).2 by rw [highS_ok hz]]
    rw [show IntKind.i64.wrap (-(hiF f).2) = misT f 0 - (hiF f).2 by rw [wrap_W, W_in (by omega) (by omega)]; show _ = 0 - _; omega]
    refine dwp_loopR (P := Tryz.prog) (G := GC) (k := dk44_0) (b := db44_0) (α := Nat) (fun i => [(0, fld f), (7, DV.int .i64 (misT f i - (hiF f).2)), (24, .int .i64 (f.map chn).length), (25, DV.int .i64 (i))]) (fun _ => []) (fun i => i ≤ f.length) (fun i => f.length - i) 0 ⟨rfl, rfl, rfl⟩ (Nat.zero_le _) ?_
    intro i h1
    conv => whnf
    refine ⟨fun hb => ?_, fun hb => ?_⟩
    · have hi : i < f.length := by simpa using hb
      have hmem := getD_in [] hi
      have hb1 := misT_bd hF i
      have hb2 := hiF_bd (hF.one hmem)
      conv => whnf
      rw [wrap_succ i (by omega)]
      have hwin : window (f.map chn) (Int.toNat (i : Int)) (Int.toNat (((i + 1 : Nat) : Int) - (i : Int))) = [f.getD i []].map chn := by
        rw [show Int.toNat (((i + 1 : Nat) : Int) - (i : Int)) = 1 by omega, Int.toNat_natCast]
        unfold window
        rw [drop_getD (f.map chn) i (chn []) (by simpa using hi)]
        simp [List.getD_eq_getElem?_getD, hi]
      rw [hwin]
      refine ⟨⟨by omega, by omega, by rw [e0]; omega, fun e he => by obtain ⟨l, _, rfl⟩ := List.mem_map.1 he; rfl⟩, ?_⟩
      conv => whnf
      repeat' (first
        | (refine ⟨fun hg => ?_, fun hg => ?_⟩ <;> first | contradiction | (conv => whnf))
        | (refine Or.inl ?_; conv => whnf)
        | (refine ⟨_, c_Highest _ (hl.one hmem), ?_⟩; conv => whnf)
        | (refine And.intro ?_ ?_; kernel_rfl; conv => whnf))
      rw [wrap_succ i (by omega)]
      refine ⟨i + 1, rfl, ?_, rfl, hi, by omega⟩
      have ez := highS_ok (chkF_zero hz hmem)
      rw [ez, misT_succ f i hi]
      show [(0, fld f), (7, DV.int .i64 (IntKind.i64.wrap (misT f i - (hiF f).2 + (hiF [f.getD i []]).2))), _, _] = _
      rw [wrap_W, W_in (by omega) (by omega), show misT f i - (hiF f).2 + (hiF [f.getD i []]).2 = misT f i + (hiF [f.getD i []]).2 - (hiF f).2 by omega]; rfl
    · have hi : i = f.length := by have := of_decide_eq_false hb; rw [e0] at this; omega
      conv => whnf
      show DV.tuple [_, _] = _
      rw [misS, if_neg hg, hi]; rfl
def cutStep (n : Int) (f : Bool) (b c : Int) : Int := firstE [withE c 0 (n - 1), whenE ((f && !decide (c = 0)) || decide (c ≤ b)) 11]
def cutsE (n : Int) : Bool → Int → List Int → Int
  | _, _, [] => 0
  | f, b, c :: r => if cutStep n f b c ≠ 0 then cutStep n f b c else cutsE n false c r
def befI (cuts : List Int) : Nat → Int
  | 0 => -1
  | i + 1 => cuts.getD i 0
def toI (l cuts : List Int) (i : Nat) : Int := if i + 1 < cuts.length then cuts.getD (i + 1) 0 - 1 else (l.length : Int) - 1
def provAt (l : List Int) (p : Int) (cuts : List Int) (i : Nat) : Bool := !decide (p < l.getD (cuts.getD i 0).toNat 0 * toI l cuts i)
def provB (l : List Int) (p : Int) (cuts : List Int) : Bool := (List.range cuts.length).all (provAt l p cuts)
def InR (l cuts : List Int) : Prop := ∀ i, i < cuts.length → 0 ≤ cuts.getD i 0 ∧ cuts.getD i 0 < l.length
theorem cutsE_in {n : Int} : ∀ {f : Bool} {b : Int} {cuts : List Int}, cutsE n f b cuts = 0 → ∀ i, i < cuts.length → 0 ≤ cuts.getD i 0 ∧ cuts.getD i 0 < n
  | _, _, [], _, i, hi => absurd hi (Nat.not_lt_zero i)
  | f, b, c :: r, h, i, hi => by
    unfold cutsE at h
    split at h
    · exact absurd h ‹_›
    · rename_i hc
      cases i with
      | zero =>
        have := withE_zero (firstE_cons (Classical.not_not.1 hc)).1
        show 0 ≤ c ∧ c < n
        omega
      | succ i => exact cutsE_in h i (by simpa using hi)
theorem range_all (p : Nat → Bool) (i : Nat) (h : (List.range i).all p = true) (h2 : p i = true) : (List.range (i + 1)).all p = true := by
  rw [List.range_succ, List.all_append, h]; simp [h2]
theorem range_not (p : Nat → Bool) (n i : Nat) (hi : i < n) (h : p i = false) : (List.range n).all p = false := by
  rw [List.all_eq_false]; exact ⟨i, List.mem_range.2 hi, by simp [h]⟩
theorem toI_bd {l cuts : List Int} (h : InR l cuts) {i : Nat} (hl : l ≠ []) : -1 ≤ toI l cuts i ∧ toI l cuts i < l.length := by
  have hpos := List.length_pos_iff.2 hl
  unfold toI
  split
  · rename_i hi
    have := h (i + 1) hi
    omega
  · omega
def ccE (f : List (List Cel)) (p : Int) (cuts : List Int) : Int :=
  if firstE [chkField f, withE p 0 960000, countE cuts.length 801] ≠ 0 then firstE [chkField f, withE p 0 960000, countE cuts.length 801]
  else if cutsE (crv f).length true (-1) cuts ≠ 0 then cutsE (crv f).length true (-1) cuts
  else if provB (crv f) p cuts then 0 else 19
theorem c_CheckCertificate (f : List (List Cel)) (p : Int) (cuts : List Int) (hl : LenF f) (hcl : cuts.length < 1073741824) : PC 57 [fld f, DV.int .i64 (p), iL cuts] (DV.int .i64 (ccE f p cuts)) := by
  have e0 : ((cuts.map (DV.int .i64)).length : Int) = cuts.length := by simp
  refine pureCall_ofR dh57 rfl ?_
  conv => whnf
  repeat' (first
    | (refine ⟨fun hg => ?_, fun hg => ?_⟩ <;> first | contradiction | (conv => whnf))
    | (refine Or.inl ?_; conv => whnf)
    | (refine ⟨_, c_Curve _ hl, ?_⟩; conv => whnf)
    | (refine ⟨_, c_within .., ?_⟩; conv => whnf)
    | (refine ⟨_, c_counted .., ?_⟩; conv => whnf)
    | (refine ⟨_, c_first [_, _, _] (by simp), ?_⟩; conv => whnf)
    | (refine And.intro ?_ ?_; kernel_rfl; conv => whnf))
  · have hg := of_decide_eq_true hg
    rw [curveS_e, e0] at hg ⊢
    exact int_eq (by rw [ccE, if_pos hg])
  · have hg := of_decide_eq_false hg
    rw [curveS_e, e0] at hg
    have h3 := firstE_cons (Classical.not_not.1 hg)
    have h4 := firstE_cons h3.2
    have hp := withE_zero h4.1
    have hz := h3.1
    have hF := chkField_zero hz
    have hok := crv_ok hF
    rw [curveS_l hz]
    have ec : ccE f p cuts = if cutsE (crv f).length true (-1) cuts ≠ 0 then cutsE (crv f).length true (-1) cuts else if provB (crv f) p cuts then 0 else 19 := by rw [ccE, if_neg hg]
    rw [ec]
    clear ec hg h3 h4
    generalize crv f = L at *
    have hlen := hok.1.1
    have hpos := List.length_pos_iff.2 hok.2
    have e1 : ((L.map (DV.int .i64)).length : Int) = L.length := by simp
    refine dwp_loopR (P := Tryz.prog) (G := GC) (k := dk57_0) (b := db57_0) (α := Nat) (fun i => [(1, DV.int .i64 (p)), (2, iL cuts), (7, iL L), (9, DV.int .i64 (befI cuts i)), (32, iL cuts), (33, .int .i64 (cuts.map (DV.int .i64)).length), (34, DV.int .i64 (i))]) (fun _ => []) (fun i => i ≤ cuts.length ∧ cutsE L.length true (-1) cuts = cutsE L.length (decide (i = 0)) (befI cuts i) (cuts.drop i)) (fun i => cuts.length - i) 0 ⟨rfl, rfl, rfl⟩ ⟨Nat.zero_le _, rfl⟩ ?_
    intro i ⟨h1, h2⟩
    conv => whnf
    refine ⟨fun hb => ?_, fun hb => ?_⟩
    · have hi : i < cuts.length := by simpa using hb
      have hs : cutsE L.length true (-1) cuts = if cutStep L.length (decide (i = 0)) (befI cuts i) (cuts.getD i 0) ≠ 0 then cutStep L.length (decide (i = 0)) (befI cuts i) (cuts.getD i 0) else cutsE L.length false (cuts.getD i 0) (cuts.drop (i + 1)) := by rw [h2, drop_getD cuts i 0 hi]; rfl
      have w1 : IntKind.i64.wrap (((L.map (DV.int .i64)).length : Int) - 1) = (L.length : Int) - 1 := by rw [e1, wrap_W, W_in (by omega) (by omega)]
      clear hb
      conv => whnf
      rw [getD_enc _ _ (i) 0 hi]
      refine ⟨idxA hi rfl, ?_⟩
      conv => whnf
      rw [w1]
      repeat' (first
        | (refine ⟨fun hg => ?_, fun hg => ?_⟩ <;> first | contradiction | (conv => whnf))
        | (refine Or.inl ?_; conv => whnf)
        | (refine ⟨_, c_within .., ?_⟩; conv => whnf)
        | (refine ⟨_, c_when .., ?_⟩; conv => whnf)
        | (refine ⟨_, c_first [_, _] (by simp), ?_⟩; conv => whnf)
        | (refine And.intro ?_ ?_; kernel_rfl; conv => whnf))
      all_goals (try rw [wrap_succ i (by omega)])
      all_goals first
        | (refine ⟨i + 1, rfl, rfl, rfl, ⟨hi, ?_⟩, Nat.sub_lt_sub_left hi (Nat.lt_succ_self i)⟩; rw [hs]; clear hs h2 h1; simp only [Bool.cond_true, Bool.cond_false, Bool.not_false, Bool.not_true, decide_eq_true_eq, decide_eq_false_iff_not, Int.natCast_eq_zero] at *; grind [cutStep, befI])
        | (refine int_eq ?_; rw [hs]; clear hs h2 h1; simp only [Bool.cond_true, Bool.cond_false, Bool.not_false, Bool.not_true, decide_eq_true_eq, decide_eq_false_iff_not, Int.natCast_eq_zero] at *; grind [cutStep])
        | skip
    · have hi : i = cuts.length := by have := of_decide_eq_false hb; rw [e0] at this; omega
      rw [hi, List.drop_length] at h2
      have hz2 : cutsE L.length true (-1) cuts = 0 := h2
      have hin : InR L cuts := cutsE_in hz2
      rw [hz2, if_neg (by decide)]
      clear h2 h1 hb hi
      conv => whnf
      refine dwp_loopR (P := Tryz.prog) (G := GC) (k := dk57_1) (b := db57_1) (α := Nat) (fun i => [(1, DV.int .i64 (p)), (2, iL cuts), (7, iL L), (63, iL cuts), (64, .int .i64 (cuts.map (DV.int .i64)).length), (65, DV.int .i64 (i))]) (fun _ => []) (fun i => i ≤ cuts.length ∧ (List.range i).all (provAt L p cuts) = true) (fun i => cuts.length - i) 0 ⟨rfl, rfl, rfl⟩ ⟨Nat.zero_le _, rfl⟩ ?_
      intro i ⟨h1, h2⟩
      conv => whnf
      refine ⟨fun hb => ?_, fun hb => ?_⟩
      · have hi : i < cuts.length := by simpa using hb
        have hci := hin i hi
        obtain ⟨u, hu⟩ : ∃ u : Nat, (u : Int) = cuts.getD i 0 := ⟨(cuts.getD i 0).toNat, by omega⟩
        have hu2 : u < L.length := by omega
        have hLu := hok.1.at hu2
        have w1 : IntKind.i64.wrap (((L.map (DV.int .i64)).length : Int) - 1) = (L.length : Int) - 1 := by rw [e1, wrap_W, W_in (by omega) (by omega)]
        have w2 : IntKind.i64.wrap ((i : Int) + 1) = ((i + 1 : Nat) : Int) := wrap_succ i (by omega)
        have hpa : provAt L p cuts i = !decide (p < L.getD u 0 * toI L cuts i) := by unfold provAt; rw [← hu, Int.toNat_natCast]
        have ht := toI_bd hin (i := i) hok.2
        have hmul := mul_bd (a := L.getD u 0) (b := toI L cuts i) (A := 1200) (B := 1000) (by omega) (by omega) (by omega) (by omega)
        have w3 : IntKind.i64.wrap (L.getD u 0 * toI L cuts i) = L.getD u 0 * toI L cuts i := W_in (by omega) (by omega)
        clear hb
        conv => whnf
        rw [getD_enc _ _ (i) 0 hi]
        refine ⟨idxA hi rfl, ?_⟩
        conv => whnf
        rw [w1, w2]
        refine ⟨fun hg => ?_, fun hg => ?_⟩
        · have hi2 : i + 1 < cuts.length := by have := of_decide_eq_true hg; rw [e0] at this; omega
          have et : toI L cuts i = cuts.getD (i + 1) 0 - 1 := by unfold toI; rw [if_pos hi2]
          have hc2 := hin (i + 1) hi2
          clear hg
          conv => whnf
          rw [w2]
          rw [getD_enc _ _ (i + 1) 0 hi2]
          refine ⟨idxA hi2 rfl, ?_⟩
          conv => whnf
          rw [show IntKind.i64.wrap (cuts.getD (i + 1) 0 - 1) = toI L cuts i by rw [et, wrap_W, W_in (by omega) (by omega)], ← hu]
          rw [getD_enc _ _ (u) 0 hu2]
          refine ⟨idxA hu2 rfl, ?_⟩
          conv => whnf
          rw [w3]
          repeat' (first
            | (refine ⟨fun hg => ?_, fun hg => ?_⟩ <;> first | contradiction | (conv => whnf))
            | (refine Or.inl ?_; conv => whnf)
            | (refine And.intro ?_ ?_; kernel_rfl; conv => whnf))
          · have hg := of_decide_eq_true hg
            exact int_eq (by rw [if_neg]; unfold provB; rw [range_not _ _ i hi (by rw [hpa, decide_eq_true hg]; rfl)]; decide)
          · have hg := of_decide_eq_false hg
            rw [w2]
            exact ⟨i + 1, rfl, rfl, rfl, ⟨hi, range_all _ i h2 (by rw [hpa, decide_eq_false hg]; rfl)⟩, by omega⟩
        · have hi2 : ¬ i + 1 < cuts.length := by have := of_decide_eq_false hg; rw [e0] at this; omega
          have et : toI L cuts i = (L.length : Int) - 1 := by unfold toI; rw [if_neg hi2]
          clear hg
          conv => whnf
          rw [← et, ← hu]
          rw [getD_enc _ _ (u) 0 hu2]
          refine ⟨idxA hu2 rfl, ?_⟩
          conv => whnf
          rw [w3]
          repeat' (first
            | (refine ⟨fun hg => ?_, fun hg => ?_⟩ <;> first | contradiction | (conv => whnf))
            | (refine Or.inl ?_; conv => whnf)
            | (refine And.intro ?_ ?_; kernel_rfl; conv => whnf))
          · have hg := of_decide_eq_true hg
            exact int_eq (by rw [if_neg]; unfold provB; rw [range_not _ _ i hi (by rw [hpa, decide_eq_true hg]; rfl)]; decide)
          · have hg := of_decide_eq_false hg
            rw [w2]
            exact ⟨i + 1, rfl, rfl, rfl, ⟨hi, range_all _ i h2 (by rw [hpa, decide_eq_false hg]; rfl)⟩, by omega⟩
      · have hi : i = cuts.length := by have := of_decide_eq_false hb; rw [e0] at this; omega
        conv => whnf
        rw [hi] at h2
        exact int_eq (by rw [if_pos]; exact h2)
end Sh


set_option maxRecDepth 100000
set_option linter.unusedSimpArgs false
set_option linter.unusedVariables false
namespace Sh
open Go Go.Proofs
def clampL (x : Int) : Int := if (if 0 < x then x else 0) < 1000 then (if 0 < x then x else 0) else 1000
def litC (by_ : Int) (c : Cel) : Cel := { c with li := clampL (W (c.li + by_)) }
def litR (l : List Cel) (b : Int) (i : Nat) : List DV := rng l.length fun k => encC (if k < i then litC b (l.getD k C0) else l.getD k C0)
theorem litR_len (l : List Cel) (b : Int) (i : Nat) : (litR l b i).length = l.length := rng_len _ _
theorem litR_get {l : List Cel} {b : Int} {i : Nat} (h : i < l.length) : (litR l b i).getD i .undef = encC (l.getD i C0) := by
  unfold litR; rw [rng_getD _ _ h, if_neg (by omega)]
theorem litR_set (l : List Cel) (b : Int) (i : Nat) : (litR l b i).set i (encC (litC b (l.getD i C0))) = litR l b (i + 1) := by
  unfold litR
  rw [rng_set]
  refine rng_congr (fun k hk => ?_)
  (try dsimp only)
  by_cases e : k = i
  · subst e; simp
  · rw [if_neg e]
    by_cases e2 : k < i
    · rw [if_pos e2, if_pos (by omega)]
    · rw [if_neg e2, if_neg (by omega)]
theorem map_rng {α β : Type} (f : α → β) (l : List α) (d : α) : l.map f = rng l.length fun k => f (l.getD k d) := by
  apply List.ext_getElem
  · simp [rng]
  · intro i h1 h2
    simp [rng, List.getD_eq_getElem?_getD, (by simpa using h1 : i < l.length)]
theorem litR_zero (l : List Cel) (b : Int) : l.map encC = litR l b 0 := by
  rw [map_rng encC l C0]; unfold litR
  exact rng_congr (fun k hk => by (try dsimp only); rw [if_neg (by omega)])
theorem litR_all (l : List Cel) (b : Int) : litR l b l.length = (l.map (litC b)).map encC := by
  rw [List.map_map, map_rng _ l C0]; unfold litR
  exact rng_congr (fun k hk => by (try dsimp only); rw [if_pos hk]; rfl)
theorem c_lit1 (l : List Cel) (b : Int) (hl : l.length ≤ 1000) : PC 123 [chn l, .ip (DV.int .i64 (b))] (chn (l.map (litC b))) := by
  have e0 : ((l.map encC).length : Int) = l.length := by simp
  refine pureCall_ofR dh123 rfl ?_
  conv => whnf
  rw [e0]
  refine ⟨⟨by omega, by omega, by omega, rfl, rfl⟩, ?_⟩
  rw [Int.toNat_natCast]
  conv => whnf
  refine ⟨⟨by simp, fun e he => by obtain ⟨c, _, rfl⟩ := List.mem_map.1 he; rfl⟩, ?_⟩
  conv => whnf
  have hrow : List.take 0 (List.replicate l.length (DV.agg [.full [], DV.int .i64 (0), DV.int .i64 (0)])) ++ List.take l.length (List.map encC l) ++ List.drop (0 + min (List.map encC l).length l.length) (List.replicate l.length (DV.agg [.full [], DV.int .i64 (0), DV.int .i64 (0)])) = litR l b 0 := by
    rw [litR_zero l b, List.take_zero, List.nil_append, List.take_of_length_le (by rw [litR_len]; exact Nat.le_refl _), List.drop_of_length_le (by simp [litR_len]), List.append_nil]
  rw [hrow]
  refine ⟨(litR_len _ _ _).symm, ?_⟩
  conv => whnf
  refine dwp_loopR (P := Tryz.prog) (G := GC) (k := dk123_0) (b := db123_0) (α := Nat) (fun i => [(1, .ip (DV.int .i64 (b))), (4, .own 8 0 l.length l.length), (13, DV.int .i64 (l.length)), (14, DV.int .i64 (i))]) (fun i => [(8, .row 3 (litR l b i) false)]) (fun i => i ≤ l.length) (fun i => l.length - i) 0 ⟨rfl, rfl, rfl⟩ (Nat.zero_le _) ?_
  intro i h1
  conv => whnf
  refine ⟨fun hb => ?_, fun hb => ?_⟩
  · have hi : i < l.length := by simpa using hb
    conv => whnf
    refine ⟨⟨(litR_len _ _ _).symm, by omega, by omega⟩, ?_⟩
    conv => whnf
    rw [Int.toNat_natCast, Nat.zero_add]
    refine ⟨(litR_len _ _ _).symm, ?_⟩
    conv => whnf
    rw [litR_get hi]
    refine ⟨⟨(litR_len _ _ _).symm, by decide⟩, ?_⟩
    conv => whnf
    refine ⟨⟨(litR_len _ _ _).symm, by omega, by omega⟩, ?_⟩
    conv => whnf
    rw [Int.toNat_natCast, Nat.zero_add]
    refine ⟨(litR_len _ _ _).symm, ?_⟩
    conv => whnf
    refine ⟨⟨(litR_len _ _ _).symm, by decide, rfl⟩, ?_⟩
    conv => whnf
    refine ⟨by kernel_rfl, ?_⟩
    conv => whnf
    rw [wrap_succ i (by omega)]
    refine ⟨i + 1, rfl, rfl, ?_, hi, by omega⟩
    (try rw [litR_get hi])
    have hv : litR l b (i + 1) = (litR l b i).set i (.agg [tbl (l.getD i C0).tb, DV.int .i64 (minmaxI false 1000 (minmaxI true 0 (IntKind.i64.wrap ((l.getD i C0).li + b)))), DV.int .i64 ((l.getD i C0).dr)]) := by
      rw [← litR_set]; rfl
    rw [hv]
    rfl
  · have hi : i = l.length := by have := of_decide_eq_false hb; omega
    conv => whnf
    refine ⟨(litR_len _ _ _).symm, ?_⟩
    show DV.list (window (litR l b i) 0 l.length) = _
    have := window_full (litR l b i)
    rw [litR_len] at this
    rw [this, hi, litR_all]; rfl
def litF (f : List (List Cel)) (b : Int) : List (List Cel) := f.map fun l => l.map (litC b)
def oX {α : Type} (g : α → List Cel) (l : List α) (i : Nat) : List DV := (l.take i).map fun c => chn (g c)
theorem oX_len {α : Type} (g : α → List Cel) (l : List α) (i : Nat) (h : i ≤ l.length) : (oX g l i).length = i := by simp [oX]; omega
theorem oX_succ {α : Type} (g : α → List Cel) (l : List α) (i : Nat) (d : α) (h : i < l.length) : oX g l (i + 1) = oX g l i ++ [chn (g (l.getD i d))] := take_map_succ _ l i d h
theorem oX_all {α : Type} (g : α → List Cel) (l : List α) : oX g l l.length = (l.map g).map chn := by simp [oX]
theorem c_mappedC (l : List (List Cel)) (f : FuncId) (b : Int) (g : List Cel → List Cel) (hl : l.length < 1073741824) (hf : ∀ c ∈ l, PC f [chn c, .ip (DV.int .i64 (b))] (chn (g c))) : PC 122 [fld l, .func f [.ip (DV.int .i64 (b))]] (fld (l.map g)) := by
  refine pureCall_ofR dh122 rfl ?_
  conv => whnf
  refine dwp_loopR (P := Tryz.prog) (G := GC) (k := dk122_0) (b := db122_0) (α := Nat) (fun i => [(1, .func f [.ip (DV.int .i64 (b))]), (5, .own 5 0 (oX g l i).length (oX g l i).length), (8, fld l), (9, .int .i64 (l.map chn).length), (10, DV.int .i64 (i))]) (fun i => [(5, .row 1 (oX g l i) false)]) (fun i => i ≤ l.length) (fun i => l.length - i) 0 ⟨rfl, rfl, rfl⟩ (Nat.zero_le _) ?_
  intro i h1
  conv => whnf
  refine ⟨fun hb => ?_, fun hb => ?_⟩
  · have hi : i < l.length := by simpa using hb
    conv => whnf
    rw [getD_enc _ _ (i) [] hi]
    refine ⟨idxA hi rfl, ?_⟩
    conv => whnf
    refine .inl ?_
    conv => whnf
    refine ⟨_, hf _ (getD_in [] hi), ?_⟩
    conv => whnf
    refine ⟨⟨rfl, rfl, rfl, by rw [oX_len g l i h1]; simp; omega, fun e he => by simp at he; subst he; rfl⟩, ?_⟩
    conv => whnf
    rw [wrap_succ i (by omega)]
    refine ⟨i + 1, rfl, ?_, ?_, hi, by omega⟩
    · rw [oX_succ g l i [] hi]; rfl
    · rw [oX_succ g l i [] hi]; rfl
  · have hi : i = l.length := by have := of_decide_eq_false hb; simp at this; omega
    conv => whnf
    exact ⟨rfl, by rw [window_full, hi, oX_all]; rfl⟩
theorem c_lit (f : List (List Cel)) (b : Int) (hl : f.length < 1073741824) (hc : ∀ l ∈ f, l.length ≤ 1000) : PC 99 [fld f, DV.int .i64 (b)] (fld (litF f b)) := by
  refine pureCall_ofR dh99 rfl ?_
  conv => whnf
  repeat' (first
    | (refine ⟨fun hg => ?_, fun hg => ?_⟩ <;> first | contradiction | (conv => whnf))
    | (refine Or.inl ?_; conv => whnf)
    | (refine ⟨_, c_mappedC f 123 b (fun l => l.map (litC b)) hl (fun l h => c_lit1 l b (hc l h)), ?_⟩; conv => whnf)
    | (refine And.intro ?_ ?_; kernel_rfl; conv => whnf))
  rfl
theorem clampL_bd (x : Int) : 0 ≤ clampL x ∧ clampL x ≤ 1000 := by unfold clampL; split <;> split <;> omega
theorem OkF.lit {f : List (List Cel)} (h : OkF f) (b : Int) : OkF (litF f b) := by
  refine ⟨by simpa [litF] using h.1, by simpa [litF] using h.2.1, fun l hl => ?_⟩
  obtain ⟨m, hm, rfl⟩ := List.mem_map.1 hl
  have := h.2.2 m hm
  refine ⟨by simpa using this.1, by simpa using this.2.1, fun c hc => ?_⟩
  obtain ⟨d, hd, rfl⟩ := List.mem_map.1 hc
  have hd := this.2.2 d hd
  exact ⟨hd.1, (clampL_bd _).1, (clampL_bd _).2, hd.2.2.2⟩
def bndS (f : List (List Cel)) (v e : Int) : (Int × Int) × Int :=
  if firstE [chkField f, withE v 0 800, withE e 0 1000] ≠ 0 then ((0, 0), firstE [chkField f, withE v 0 800, withE e 0 1000]) else ((curF (litF f (-e)) v, curF (litF f e) v), 0)
theorem c_Bounds (f : List (List Cel)) (v e : Int) (hl : LenF f) : PC 51 [fld f, DV.int .i64 (v), DV.int .i64 (e)] (.tuple [.agg [DV.int .i64 ((bndS f v e).1.1), DV.int .i64 ((bndS f v e).1.2)], DV.int .i64 ((bndS f v e).2)]) := by
  refine pureCall_ofR dh51 rfl ?_
  conv => whnf
  repeat' (first
    | (refine ⟨fun hg => ?_, fun hg => ?_⟩ <;> first | contradiction | (conv => whnf))
    | (refine Or.inl ?_; conv => whnf)
    | (refine ⟨_, c_CheckField _ hl.1 hl.2, ?_⟩; conv => whnf)
    | (refine ⟨_, c_checkVolt .., ?_⟩; conv => whnf)
    | (refine ⟨_, c_within .., ?_⟩; conv => whnf)
    | (refine ⟨_, c_first [_, _, _] (by simp), ?_⟩; conv => whnf)
    | (refine And.intro ?_ ?_; kernel_rfl; conv => whnf))
  · have hg := of_decide_eq_true hg
    show DV.tuple [_, _] = _
    rw [bndS, if_pos hg]
  · have hg := of_decide_eq_false hg
    have hz := Classical.not_not.1 hg
    obtain ⟨z1, hz⟩ := firstE_cons hz
    obtain ⟨z2, hz⟩ := firstE_cons hz
    obtain ⟨z3, hz⟩ := firstE_cons hz
    have hv := withE_zero z2
    have he := withE_zero z3
    have hok := chkField_zero z1
    obtain ⟨u, rfl⟩ := Int.eq_ofNat_of_zero_le hv.1
    have hcur := fun b => c_curve (litF f b) (hok.lit b) (u + 1) (by omega) (by omega)
    simp only [show ((u + 1 : Nat) : Int) - 1 = (u : Int) by omega] at hcur
    rw [show IntKind.i64.wrap (-e) = -e by rw [wrap_W, W_in (by omega) (by omega)]]
    have h1000 : ∀ l ∈ f, l.length ≤ 1000 := fun l h => by have := (hok.2.2 l h).2.1; omega
    repeat' (first
      | (refine ⟨fun hg => ?_, fun hg => ?_⟩ <;> first | contradiction | (conv => whnf))
      | (refine Or.inl ?_; conv => whnf)
      | (refine ⟨_, c_lit _ _ hl.1 h1000, ?_⟩; conv => whnf)
      | (refine ⟨_, hcur _, ?_⟩; conv => whnf)
      | (refine And.intro ?_ ?_; kernel_rfl; conv => whnf))
    have hu : ∀ b, u < (rng (u + 1) fun v => curF (litF f b) v).length := fun b => by rw [rng_len]; omega
    rw [getD_enc _ _ (u) 0 (hu _)]
    refine ⟨idxA (hu _) rfl, ?_⟩
    conv => whnf
    repeat' (first
      | (refine ⟨fun hg => ?_, fun hg => ?_⟩ <;> first | contradiction | (conv => whnf))
      | (refine Or.inl ?_; conv => whnf)
      | (refine ⟨_, c_lit _ _ hl.1 h1000, ?_⟩; conv => whnf)
      | (refine ⟨_, hcur _, ?_⟩; conv => whnf)
      | (refine And.intro ?_ ?_; kernel_rfl; conv => whnf))
    rw [getD_enc _ _ (u) 0 (hu _)]
    refine ⟨idxA (hu _) rfl, ?_⟩
    conv => whnf
    repeat' (first
      | (refine ⟨fun hg => ?_, fun hg => ?_⟩ <;> first | contradiction | (conv => whnf))
      | (refine Or.inl ?_; conv => whnf)
      | (refine And.intro ?_ ?_; kernel_rfl; conv => whnf))
    show DV.tuple [_, _] = _
    rw [bndS, if_neg hg, rng_getD _ _ (by omega : u < u + 1), rng_getD _ _ (by omega : u < u + 1)]
end Sh


set_option maxRecDepth 100000
set_option linter.unusedSimpArgs false
set_option linter.unusedVariables false
namespace Sh
open Go Go.Proofs
theorem c_mappedI (l : List Int) (f : FuncId) (g : Int → Int) (hl : l.length < 1073741824) (hf : ∀ c ∈ l, PC f [DV.int .i64 (c)] (DV.int .i64 (g c))) : PC 136 [iL l, .func f []] (iL (l.map g)) := by
  refine pureCall_ofR dh136 rfl ?_
  conv => whnf
  refine dwp_loopR (P := Tryz.prog) (G := GC) (k := dk136_0) (b := db136_0) (α := Nat) (fun i => [(1, .func f []), (5, .own 5 0 (oI g l i).length (oI g l i).length), (8, iL l), (9, .int .i64 (l.map (DV.int .i64)).length), (10, DV.int .i64 (i))]) (fun i => [(5, .row 1 (oI g l i) false)]) (fun i => i ≤ l.length) (fun i => l.length - i) 0 ⟨rfl, rfl, rfl⟩ (Nat.zero_le _) ?_
  intro i h1
  conv => whnf
  refine ⟨fun hb => ?_, fun hb => ?_⟩
  · have hi : i < l.length := by simpa using hb
    conv => whnf
    rw [getD_enc _ _ (i) 0 hi]
    refine ⟨idxA hi rfl, ?_⟩
    conv => whnf
    refine .inl ?_
    conv => whnf
    refine ⟨_, hf _ (getD_in 0 hi), ?_⟩
    conv => whnf
    refine ⟨⟨rfl, rfl, rfl, by rw [oI_len g l i h1]; simp; omega, fun e he => by simp at he; subst he; rfl⟩, ?_⟩
    conv => whnf
    rw [wrap_succ i (by omega)]
    refine ⟨i + 1, rfl, ?_, ?_, hi, by omega⟩
    · rw [oI_succ g l i 0 hi]; rfl
    · rw [oI_succ g l i 0 hi]; rfl
  · have hi : i = l.length := by have := of_decide_eq_false hb; simp at this; omega
    conv => whnf
    exact ⟨rfl, by rw [window_full, hi, oI_all]; rfl⟩
theorem c_checkCurrents1 (n : Int) : PC 137 [DV.int .i64 (n)] (DV.int .i64 (withE n 0 1200)) := by
  refine pureCall_ofR dh137 rfl ?_
  conv => whnf
  repeat' (first
    | (refine ⟨fun hg => ?_, fun hg => ?_⟩ <;> first | contradiction | (conv => whnf))
    | (refine Or.inl ?_; conv => whnf)
    | (refine ⟨_, c_within .., ?_⟩; conv => whnf)
    | (refine And.intro ?_ ?_; kernel_rfl; conv => whnf))
  rfl
def chkCur (l : List Int) : Int := firstE (l.map fun n => withE n 0 1200)
theorem c_checkCurrents (l : List Int) (hl : l.length < 1073741824) : PC 113 [iL l] (DV.int .i64 (chkCur l)) := by
  refine pureCall_ofR dh113 rfl ?_
  conv => whnf
  repeat' (first
    | (refine ⟨fun hg => ?_, fun hg => ?_⟩ <;> first | contradiction | (conv => whnf))
    | (refine Or.inl ?_; conv => whnf)
    | (refine ⟨_, c_mappedI l 137 (fun n => withE n 0 1200) hl (fun c _ => c_checkCurrents1 c), ?_⟩; conv => whnf)
    | (refine ⟨_, c_first _ (by simp; omega), ?_⟩; conv => whnf)
    | (refine And.intro ?_ ?_; kernel_rfl; conv => whnf))
  rfl
theorem slices_Equal (a b : List Int) (hl : a.length < 4611686018427387904) : PC 191 [iL a, iL b] (.bool (decide (a = b))) := by
  have e0 : ((a.map (DV.int .i64)).length : Int) = a.length := by simp
  have e1 : ((b.map (DV.int .i64)).length : Int) = b.length := by simp
  refine pureCall_ofR dh191 rfl ?_
  conv => whnf
  refine ⟨fun hg => ?_, fun hg => ?_⟩
  · have hg := of_decide_eq_true hg
    rw [e0, e1] at hg
    exact bool_eq (by symm; rw [decide_eq_false_iff_not]; intro e; rw [e] at hg; exact hg rfl)
  · have hg := of_decide_eq_false hg
    rw [e0, e1] at hg
    have hab : a.length = b.length := by omega
    conv => whnf
    refine dwp_loopR (P := Tryz.prog) (G := GC) (k := dk191_0) (b := db191_0) (α := Nat) (fun i => [(0, iL a), (1, iL b), (12, .int .i64 (a.map (DV.int .i64)).length), (13, DV.int .i64 (i))]) (fun _ => []) (fun i => i ≤ a.length ∧ a.take i = b.take i) (fun i => a.length - i) 0 ⟨rfl, rfl, rfl⟩ ⟨Nat.zero_le _, rfl⟩ ?_
    intro i ⟨h1, h2⟩
    conv => whnf
    refine ⟨fun hb => ?_, fun hb => ?_⟩
    · have hi : i < a.length := by simpa using hb
      conv => whnf
      rw [getD_enc _ _ (i) 0 hi]
      refine ⟨idxA hi rfl, ?_⟩
      conv => whnf
      rw [getD_enc _ _ (i) 0 (by omega : i < b.length)]
      refine ⟨idxA (by omega : i < b.length) rfl, ?_⟩
      conv => whnf
      repeat' (first
        | (refine ⟨fun hg => ?_, fun hg => ?_⟩ <;> first | contradiction | (conv => whnf))
        | (refine Or.inl ?_; conv => whnf)
        | (refine And.intro ?_ ?_; kernel_rfl; conv => whnf))
      · have hg := of_decide_eq_true hg
        exact bool_eq (by symm; rw [decide_eq_false_iff_not]; intro e; rw [e] at hg; exact hg rfl)
      · have hg := Classical.not_not.1 (of_decide_eq_false hg)
        rw [wrap_succ i (by omega)]
        exact ⟨i + 1, rfl, rfl, rfl, ⟨hi, by rw [take_snoc a i 0 hi, take_snoc b i 0 (by omega), h2, hg]⟩, by omega⟩
    · have hi : i = a.length := by have := of_decide_eq_false hb; rw [e0] at this; omega
      conv => whnf
      refine bool_eq ?_
      symm
      rw [decide_eq_true_eq]
      rw [hi, List.take_length, hab, List.take_length] at h2
      exact h2
def moreG (a b : List Int) : Nat → Nat → Bool
  | 0, _ => false
  | k + 1, i => if b.getD i 0 > a.getD i 0 then true else moreG a b k (i + 1)
def moreB (a b : List Int) : Bool := moreG a b b.length 0
theorem c_words2 (a b : List Int) (hab : b.length = a.length) (hl : a.length < 1073741824) : PC 192 [iL a, iL b] (.bool (moreB a b)) := by
  have e1 : ((b.map (DV.int .i64)).length : Int) = b.length := by simp
  refine pureCall_ofR dh192 rfl ?_
  conv => whnf
  refine dwp_loopR (P := Tryz.prog) (G := GC) (k := dk192_0) (b := db192_0) (α := Nat) (fun i => [(0, iL a), (7, iL b), (8, .int .i64 (b.map (DV.int .i64)).length), (9, DV.int .i64 (i))]) (fun _ => []) (fun i => i ≤ b.length ∧ moreB a b = moreG a b (b.length - i) i) (fun i => b.length - i) 0 ⟨rfl, rfl, rfl⟩ ⟨Nat.zero_le _, rfl⟩ ?_
  intro i ⟨h1, h2⟩
  conv => whnf
  refine ⟨fun hb => ?_, fun hb => ?_⟩
  · have hi : i < b.length := by simpa using hb
    rw [show b.length - i = (b.length - (i + 1)) + 1 by omega, moreG] at h2
    conv => whnf
    rw [getD_enc _ _ (i) 0 hi]
    refine ⟨idxA hi rfl, ?_⟩
    conv => whnf
    rw [getD_enc _ _ (i) 0 (by omega : i < a.length)]
    refine ⟨idxA (by omega : i < a.length) rfl, ?_⟩
    conv => whnf
    repeat' (first
      | (refine ⟨fun hg => ?_, fun hg => ?_⟩ <;> first | contradiction | (conv => whnf))
      | (refine Or.inl ?_; conv => whnf)
      | (refine And.intro ?_ ?_; kernel_rfl; conv => whnf))
    · have hg := of_decide_eq_true hg
      exact bool_eq (by rw [h2, if_pos hg])
    · have hg := of_decide_eq_false hg
      rw [wrap_succ i (by omega)]
      exact ⟨i + 1, rfl, rfl, rfl, ⟨hi, by rw [h2, if_neg hg]⟩, by omega⟩
  · have hi : i = b.length := by have := of_decide_eq_false hb; rw [e1] at this; omega
    conv => whnf
    refine bool_eq ?_
    rw [h2, hi, Nat.sub_self]; rfl
theorem c_words1 (a b : List Int) (hl : a.length < 4611686018427387904) : PC 190 [iL a, iL b] (.bool (decide (a = b))) := by
  refine pureCall_ofR dh190 rfl ?_
  conv => whnf
  repeat' (first
    | (refine ⟨fun hg => ?_, fun hg => ?_⟩ <;> first | contradiction | (conv => whnf))
    | (refine Or.inl ?_; conv => whnf)
    | (refine ⟨_, slices_Equal _ _ hl, ?_⟩; conv => whnf)
    | (refine And.intro ?_ ?_; kernel_rfl; conv => whnf))
  rfl
theorem c_words3 (a b : List Int) (h0 : b ≠ []) (hp : 0 ≤ b.getD 0 0) (hl : b.length < 1073741824) : PC 193 [iL a, iL b] (.bool (decide (mxL b = 0))) := by
  refine pureCall_ofR dh193 rfl ?_
  conv => whnf
  repeat' (first
    | (refine ⟨fun hg => ?_, fun hg => ?_⟩ <;> first | contradiction | (conv => whnf))
    | (refine Or.inl ?_; conv => whnf)
    | (refine ⟨_, slices_Max b h0 hp hl, ?_⟩; conv => whnf)
    | (refine And.intro ?_ ?_; kernel_rfl; conv => whnf))
  rfl
theorem c_words4 (a b : List Int) (ha : 0 < a.length) (hb : 0 < b.length) : PC 194 [iL a, iL b] (.bool (decide (b.getD 0 0 < a.getD 0 0))) := by
  refine pureCall_ofR dh194 rfl ?_
  conv => whnf
  rw [getD_enc' _ _ (0) 0 (by decide) (by omega : (0 : Int) < b.length)]
  refine ⟨idxB (by decide) (by omega : (0 : Int) < b.length) rfl, ?_⟩
  conv => whnf
  rw [getD_enc' _ _ (0) 0 (by decide) (by omega : (0 : Int) < a.length)]
  refine ⟨idxB (by decide) (by omega : (0 : Int) < a.length) rfl, ?_⟩
  conv => whnf
  repeat' (first
    | (refine ⟨fun hg => ?_, fun hg => ?_⟩ <;> first | contradiction | (conv => whnf))
    | (refine Or.inl ?_; conv => whnf)
    | (refine And.intro ?_ ?_; kernel_rfl; conv => whnf))
  rfl
theorem c_words5 (a b : List Int) : PC 195 [iL a, iL b] (.bool true) := by
  refine pureCall_ofR dh195 rfl ?_
  conv => whnf
  rfl
end Sh


set_option maxRecDepth 100000
set_option linter.unusedSimpArgs false
set_option linter.unusedVariables false
namespace Sh
open Go Go.Proofs
def wdE (w : List UInt8 × FuncId) : DV := .agg [.str w.1, .func w.2 []]
def W0 : List UInt8 × FuncId := ([], 0)
def wds : List (List UInt8 × FuncId) := [([115, 97, 109, 101], 190), ([109, 111, 114, 101], 192), ([111, 112, 101, 110], 193), ([100, 97, 114, 107], 194), ([98, 121, 112, 97, 115, 115, 101, 100], 195)]
def idxG {α : Type} (p : α → Bool) : Int → List α → Int
  | _, [] => -1
  | i, x :: r => if p x then i else idxG p (i + 1) r
theorem c_Shape1 (a b : List Int) (w : List UInt8) (f : FuncId) (r : Bool) (h : PC f [iL a, iL b] (.bool r)) : PC 115 [.agg [.str w, .func f []], .ip (iL a), .ip (iL b)] (.bool r) := by
  refine pureCall_ofR dh115 rfl ?_
  conv => whnf
  repeat' (first
    | (refine ⟨fun hg => ?_, fun hg => ?_⟩ <;> first | contradiction | (conv => whnf))
    | (refine Or.inl ?_; conv => whnf)
    | (refine ⟨_, h .., ?_⟩; conv => whnf)
    | (refine And.intro ?_ ?_; kernel_rfl; conv => whnf))
  rfl
theorem slices_IndexFunc (l : List (List UInt8 × FuncId)) (f : FuncId) (a b : List Int) (p : List UInt8 × FuncId → Bool) (hl : l.length < 1073741824) (hf : ∀ w ∈ l, PC f [wdE w, .ip (iL a), .ip (iL b)] (.bool (p w))) :
    PC 114 [.list (l.map wdE), .func f [.ip (iL a), .ip (iL b)]] (DV.int .i64 (idxG p 0 l)) := by
  have e0 : ((l.map wdE).length : Int) = l.length := by simp
  refine pureCall_ofR dh114 rfl ?_
  conv => whnf
  refine dwp_loopR (P := Tryz.prog) (G := GC) (k := dk114_0) (b := db114_0) (α := Nat) (fun i => [(0, .list (l.map wdE)), (1, .func f [.ip (iL a), .ip (iL b)]), (7, .int .i64 (l.map wdE).length), (8, DV.int .i64 (i))]) (fun _ => []) (fun i => i ≤ l.length ∧ idxG p 0 l = idxG p i (l.drop i)) (fun i => l.length - i) 0 ⟨rfl, rfl, rfl⟩ ⟨Nat.zero_le _, rfl⟩ ?_
  intro i ⟨h1, h2⟩
  conv => whnf
  refine ⟨fun hb => ?_, fun hb => ?_⟩
  · have hi : i < l.length := by simpa using hb
    rw [drop_getD l i W0 hi, idxG] at h2
    conv => whnf
    rw [getD_enc _ _ (i) W0 hi]
    refine ⟨idxA hi rfl, ?_⟩
    conv => whnf
    repeat' (first
      | (refine ⟨fun hg => ?_, fun hg => ?_⟩ <;> first | contradiction | (conv => whnf))
      | (refine Or.inl ?_; conv => whnf)
      | (refine ⟨_, hf _ (getD_in W0 hi), ?_⟩; conv => whnf)
      | (refine And.intro ?_ ?_; kernel_rfl; conv => whnf))
    · rw [hg, if_pos rfl] at h2
      exact int_eq h2.symm
    · rw [hg, if_neg (by decide)] at h2
      rw [wrap_succ i (by omega)]
      exact ⟨i + 1, rfl, rfl, rfl, ⟨hi, h2⟩, by omega⟩
  · have hi : i = l.length := by have := of_decide_eq_false hb; rw [e0] at this; omega
    conv => whnf
    refine int_eq ?_
    rw [h2, hi, List.drop_length]; rfl
def wdP (a b : List Int) (w : List UInt8 × FuncId) : Bool :=
  if w.2 = 190 then decide (a = b) else if w.2 = 192 then moreB a b else if w.2 = 193 then decide (mxL b = 0) else if w.2 = 194 then decide (b.getD 0 0 < a.getD 0 0) else true
def shE (a b : List Int) : Int := firstE [countE a.length 801, chkCur a, whenE (decide ((b.length : Int) ≠ a.length)) 2, chkCur b]
def shI (a b : List Int) : Int := idxG (wdP a b) 0 wds
def shpS (a b : List Int) : List UInt8 × Int := if shE a b ≠ 0 then ([], shE a b) else ((wds.getD (shI a b).toNat W0).1, 0)
theorem idx5 {α : Type} (p : α → Bool) (a b c d e : α) (h : p e = true) : 0 ≤ idxG p 0 [a, b, c, d, e] ∧ idxG p 0 [a, b, c, d, e] < 5 := by
  simp only [idxG, h, if_true]
  repeat' split
  all_goals (constructor <;> omega)
theorem shI_bd (a b : List Int) : 0 ≤ shI a b ∧ shI a b < 5 := idx5 _ _ _ _ _ _ rfl
theorem shE_ok {a b : List Int} (h : shE a b = 0) : 0 < a.length ∧ a.length ≤ 801 ∧ b.length = a.length ∧ ∀ x ∈ b, 0 ≤ x := by
  obtain ⟨h1, h⟩ := firstE_cons h
  obtain ⟨_, h⟩ := firstE_cons h
  obtain ⟨h3, h⟩ := firstE_cons h
  obtain ⟨h4, _⟩ := firstE_cons h
  have h1 := countE_zero h1
  refine ⟨by omega, by omega, ?_, fun x hx => ?_⟩
  · unfold whenE at h3
    split at h3
    · exact absurd h3 (by decide)
    · rename_i h; have := Classical.not_not.1 (of_decide_eq_false (by simpa using h)); omega
  · have := firstE_mem h4 (withE x 0 1200) (List.mem_map.2 ⟨x, hx, rfl⟩)
    exact (withE_zero this).1
theorem wds_ok (a b : List Int) (h : shE a b = 0) : ∀ w ∈ wds, PC 115 [wdE w, .ip (iL a), .ip (iL b)] (.bool (wdP a b w)) := by
  obtain ⟨h1, h2, h3, h4⟩ := shE_ok h
  have hb0 : b ≠ [] := by intro e; rw [e] at h3; simp at h3; omega
  have hp : 0 ≤ b.getD 0 0 := h4 _ (getD_in 0 (by omega))
  intro w hw
  simp only [wds, List.mem_cons, List.not_mem_nil, or_false] at hw
  rcases hw with rfl | rfl | rfl | rfl | rfl
  · exact c_Shape1 a b _ _ _ (c_words1 a b (by omega))
  · exact c_Shape1 a b _ _ _ (c_words2 a b h3 (by omega))
  · exact c_Shape1 a b _ _ _ (c_words3 a b hb0 hp (by omega))
  · exact c_Shape1 a b _ _ _ (c_words4 a b h1 (by omega))
  · exact c_Shape1 a b _ _ _ (c_words5 a b)
theorem c_Shape (a b : List Int) (ha : a.length < 1073741824) (hb : b.length < 1073741824) : PC 77 [iL a, iL b] (.tuple [.str (shpS a b).1, DV.int .i64 ((shpS a b).2)]) := by
  have e0 : ((a.map (DV.int .i64)).length : Int) = a.length := by simp
  have e1 : ((b.map (DV.int .i64)).length : Int) = b.length := by simp
  refine pureCall_ofR dh77 rfl ?_
  conv => whnf
  repeat' (first
    | (refine ⟨fun hg => ?_, fun hg => ?_⟩ <;> first | contradiction | (conv => whnf))
    | (refine Or.inl ?_; conv => whnf)
    | (refine ⟨_, c_counted .., ?_⟩; conv => whnf)
    | (refine ⟨_, c_checkCurrents _ ha, ?_⟩; conv => whnf)
    | (refine ⟨_, c_when .., ?_⟩; conv => whnf)
    | (refine ⟨_, c_checkCurrents _ hb, ?_⟩; conv => whnf)
    | (refine ⟨_, c_first [_, _, _, _] (by simp), ?_⟩; conv => whnf)
    | (refine And.intro ?_ ?_; kernel_rfl; conv => whnf))
  · have hg := of_decide_eq_true hg
    rw [e0, e1] at hg ⊢
    show DV.tuple [_, _] = _
    rw [shpS, shE, if_pos hg]
    (try rfl)
  · have hg := of_decide_eq_false hg
    rw [e0, e1] at hg
    have hz : shE a b = 0 := Classical.not_not.1 hg
    refine ⟨⟨rfl, by kernel_rfl⟩, ?_⟩
    conv => whnf
    have hw := slices_IndexFunc wds 115 a b (wdP a b) (by decide) (wds_ok a b hz)
    have hI := shI_bd a b
    repeat' (first
      | (refine ⟨fun hg => ?_, fun hg => ?_⟩ <;> first | contradiction | (conv => whnf))
      | (refine Or.inl ?_; conv => whnf)
      | (refine ⟨_, hw .., ?_⟩; conv => whnf)
      | (refine And.intro ?_ ?_; kernel_rfl; conv => whnf))
    have hS : shpS a b = ((wds.getD (idxG (wdP a b) 0 wds).toNat W0).1, 0) := by rw [shpS, if_neg (by rw [hz]; decide)]; rfl
    have h5 : idxG (wdP a b) 0 wds = 0 ∨ idxG (wdP a b) 0 wds = 1 ∨ idxG (wdP a b) 0 wds = 2 ∨ idxG (wdP a b) 0 wds = 3 ∨ idxG (wdP a b) 0 wds = 4 := by unfold shI at hI; omega
    clear hw hI
    rw [hS]
    generalize idxG (wdP a b) 0 wds = q at h5
    rcases h5 with rfl | rfl | rfl | rfl | rfl
    all_goals (refine ⟨⟨by decide, by decide, rfl, rfl⟩, ?_⟩; conv => whnf)
    all_goals rfl
end Sh


set_option maxRecDepth 100000
set_option linter.unusedSimpArgs false
set_option linter.unusedVariables false
namespace Go.Proofs
open Go.Shelf
def Tryz.laysM171_ren : Go.Shelf.Ren := ⟨fun | 171 => 105 | 243 => 130 | 246 => 143 | 283 => 152 | 284 => 153 | 285 => 154 | 286 => 155 | 129 => 162 | 317 => 161 | 318 => 163 | 319 => 164 | 320 => 165 | 337 => 170 | 338 => 171 | n => n, fun | 3 => 3 | 9 => 9 | 2 => 2 | 4 => 4 | 171 => 202 | 0 => 0 | 53 => 203 | 37 => 179 | 5 => 5 | 173 => 206 | 212 => 212 | 51 => 213 | 20 => 20 | 213 => 214 | 46 => 215 | 232 => 224 | 233 => 225 | n => n, fun | 17 => 2 | 18 => 5 | 19 => 6 | n => n⟩
theorem Tryz.laysM171 : Go.Proofs.LaysM.n171 Tryz.prog Tryz.laysM171_ren := {
  mixed := by kernel_rfl
  f129 := Tryz.func162.trans (congrArg some (by kernel_rfl))
  f171 := Tryz.func105.trans (congrArg some (by kernel_rfl))
  f243 := Tryz.func130.trans (congrArg some (by kernel_rfl))
  f246 := Tryz.func143.trans (congrArg some (by kernel_rfl))
  f283 := Tryz.func152.trans (congrArg some (by kernel_rfl))
  f284 := Tryz.func153.trans (congrArg some (by kernel_rfl))
  f285 := Tryz.func154.trans (congrArg some (by kernel_rfl))
  f286 := Tryz.func155.trans (congrArg some (by kernel_rfl))
  f317 := Tryz.func161.trans (congrArg some (by kernel_rfl))
  f318 := Tryz.func163.trans (congrArg some (by kernel_rfl))
  f319 := Tryz.func164.trans (congrArg some (by kernel_rfl))
  f320 := Tryz.func165.trans (congrArg some (by kernel_rfl))
  f337 := Tryz.func170.trans (congrArg some (by kernel_rfl))
  f338 := Tryz.func171.trans (congrArg some (by kernel_rfl))
  t0 := Tryz.underlying0
  a0 := Tryz.isAgg0
  z0 := Tryz.sizeOf0
  v0 := Tryz.zeroValue0
  t2 := Tryz.underlying2
  a2 := Tryz.isAgg2
  z2 := Tryz.sizeOf2
  v2 := Tryz.zeroValue2
  t3 := Tryz.underlying3
  a3 := Tryz.isAgg3
  z3 := Tryz.sizeOf3
  v3 := Tryz.zeroValue3
  t4 := Tryz.underlying4
  a4 := Tryz.isAgg4
  z4 := Tryz.sizeOf4
  v4 := Tryz.zeroValue4
  t5 := Tryz.underlying5
  a5 := Tryz.isAgg5
  z5 := Tryz.sizeOf5
  v5 := Tryz.zeroValue5
  t9 := Tryz.underlying9
  a9 := Tryz.isAgg9
  z9 := Tryz.sizeOf9
  v9 := Tryz.zeroValue9
  t20 := Tryz.underlying20
  a20 := Tryz.isAgg20
  z20 := Tryz.sizeOf20
  v20 := Tryz.zeroValue20
  t37 := Tryz.underlying179
  a37 := Tryz.isAgg179
  z37 := Tryz.sizeOf179
  v37 := Tryz.zeroValue179
  t46 := Tryz.underlying215
  a46 := Tryz.isAgg215
  z46 := Tryz.sizeOf215
  v46 := Tryz.zeroValue215
  t51 := Tryz.underlying213
  a51 := Tryz.isAgg213
  z51 := Tryz.sizeOf213
  v51 := Tryz.zeroValue213
  t53 := Tryz.underlying203
  a53 := Tryz.isAgg203
  z53 := Tryz.sizeOf203
  v53 := Tryz.zeroValue203
  t171 := Tryz.underlying202
  a171 := Tryz.isAgg202
  z171 := Tryz.sizeOf202
  v171 := Tryz.zeroValue202
  t173 := Tryz.underlying206
  a173 := Tryz.isAgg206
  z173 := Tryz.sizeOf206
  v173 := Tryz.zeroValue206
  t212 := Tryz.underlying212
  a212 := Tryz.isAgg212
  z212 := Tryz.sizeOf212
  v212 := Tryz.zeroValue212
  t213 := Tryz.underlying214
  a213 := Tryz.isAgg214
  z213 := Tryz.sizeOf214
  t232 := Tryz.underlying224
  a232 := Tryz.isAgg224
  z232 := Tryz.sizeOf224
  v232 := Tryz.zeroValue224
  t233 := Tryz.underlying225
  a233 := Tryz.isAgg225
  z233 := Tryz.sizeOf225
  v233 := Tryz.zeroValue225
  g17 := by kernel_rfl
  g18 := by kernel_rfl
  g19 := by kernel_rfl
  i0 := by kernel_rfl
  i2 := by kernel_rfl
  i3 := by kernel_rfl
  i4 := by kernel_rfl
  i5 := by kernel_rfl
  i9 := by kernel_rfl
  i20 := by kernel_rfl
  i37 := by kernel_rfl
  i46 := by kernel_rfl
  i51 := by kernel_rfl
  i53 := by kernel_rfl
  i171 := by kernel_rfl
  i173 := by kernel_rfl
  i212 := by kernel_rfl
  i232 := by kernel_rfl
  i233 := by kernel_rfl
  m17 := by kernel_rfl
  m18 := by kernel_rfl
  m19 := by kernel_rfl }
def Tryz.lays156_ren : Go.Shelf.Ren := ⟨fun | 156 => 103 | 165 => 127 | 166 => 128 | 169 => 129 | 240 => 141 | 241 => 142 | 276 => 150 | 277 => 151 | n => n, fun | 31 => 109 | 9 => 9 | 3 => 3 | 4 => 4 | 0 => 0 | 20 => 20 | 72 => 181 | 76 => 185 | 70 => 178 | 37 => 179 | 75 => 184 | 127 => 193 | 164 => 199 | 5 => 5 | 80 => 187 | n => n, fun | n => n⟩
theorem Tryz.lays156 : Go.Proofs.Lays.n156 Tryz.prog Tryz.lays156_ren := {
  mixed := by kernel_rfl
  f156 := Tryz.func103.trans (congrArg some (by kernel_rfl))
  f165 := Tryz.func127.trans (congrArg some (by kernel_rfl))
  f166 := Tryz.func128.trans (congrArg some (by kernel_rfl))
  f169 := Tryz.func129.trans (congrArg some (by kernel_rfl))
  f240 := Tryz.func141.trans (congrArg some (by kernel_rfl))
  f241 := Tryz.func142.trans (congrArg some (by kernel_rfl))
  f276 := Tryz.func150.trans (congrArg some (by kernel_rfl))
  f277 := Tryz.func151.trans (congrArg some (by kernel_rfl))
  t0 := Tryz.underlying0
  a0 := Tryz.isAgg0
  z0 := Tryz.sizeOf0
  v0 := Tryz.zeroValue0
  t3 := Tryz.underlying3
  a3 := Tryz.isAgg3
  z3 := Tryz.sizeOf3
  v3 := Tryz.zeroValue3
  t4 := Tryz.underlying4
  a4 := Tryz.isAgg4
  z4 := Tryz.sizeOf4
  v4 := Tryz.zeroValue4
  t9 := Tryz.underlying9
  a9 := Tryz.isAgg9
  z9 := Tryz.sizeOf9
  v9 := Tryz.zeroValue9
  t20 := Tryz.underlying20
  a20 := Tryz.isAgg20
  z20 := Tryz.sizeOf20
  v20 := Tryz.zeroValue20
  t31 := Tryz.underlying109
  a31 := Tryz.isAgg109
  z31 := Tryz.sizeOf109
  v31 := Tryz.zeroValue109
  t37 := Tryz.underlying179
  a37 := Tryz.isAgg179
  z37 := Tryz.sizeOf179
  v37 := Tryz.zeroValue179
  t70 := Tryz.underlying178
  a70 := Tryz.isAgg178
  z70 := Tryz.sizeOf178
  v70 := Tryz.zeroValue178
  t72 := Tryz.underlying181
  a72 := Tryz.isAgg181
  z72 := Tryz.sizeOf181
  v72 := Tryz.zeroValue181
  t75 := Tryz.underlying184
  a75 := Tryz.isAgg184
  z75 := Tryz.sizeOf184
  v75 := Tryz.zeroValue184
  t76 := Tryz.underlying185
  a76 := Tryz.isAgg185
  z76 := Tryz.sizeOf185
  v76 := Tryz.zeroValue185
  t127 := Tryz.underlying193
  a127 := Tryz.isAgg193
  z127 := Tryz.sizeOf193
  v127 := Tryz.zeroValue193
  t164 := Tryz.underlying199
  a164 := Tryz.isAgg199
  z164 := Tryz.sizeOf199
  v164 := Tryz.zeroValue199 }
theorem Tryz.calls_Itoa (n : Int) (h0 : -9223372036854775808 ≤ n) (h1 : n ≤ 9223372036854775807) (w : World) (htab : Lib.TabIs Tryz.prog w "internal/strconv.uint64pow10" .u64 Lib.pow10Tab) :
    Calls Tryz.prog 105 #[.int .i64 n] w fun e w' => e = .returned (.string ⟨(Lib.itoa n).toArray⟩) ∧ ∃ k os, w' = Go.Sort.grow (w.drewN k) os := Any.strconv_Itoa Tryz.laysM171 n h0 h1 w htab
theorem Tryz.enters_Itoa : Sh.Enters Tryz.prog 105 := enters_of Tryz.laysM171.f171 (by kernel_rfl) rfl
end Go.Proofs
namespace Sh
open Go Go.Proofs
theorem s_Itoa (n : Int) (h0 : -9223372036854775808 ≤ n) (h1 : n ≤ 9223372036854775807) : PC 105 [DV.int .i64 (n)] (.str (Lib.itoa n)) := by
  refine pure_of_calls Tryz.enters_Itoa (fun M w vs hG hT hM hr => ?_)
  have hv : vs = #[.int .i64 n] := by
    obtain ⟨r1, r2⟩ := hr
    have r3 := r2 0 (by simp)
    apply Array.ext
    · simpa using r1.symm
    · intro i i1 i2
      have : i = 0 := by simp at i2; omega
      subst this
      have e : vs.getD 0 Go.undef = vs[0] := by simp [Array.getD_eq_getD_getElem?, i1]
      rw [e] at r3
      generalize vs[0] = x at r3
      cases r3
      rfl
  subst hv
  refine (Tryz.calls_Itoa n h0 h1 w (tabIs_of (g := 2) (by kernel_rfl) rfl (by decide) hG hT hM)).mono ?_
  rintro e w' ⟨rfl, k, os, rfl⟩
  exact after_flat hM (Lib.below_grow _ w (Nat.le_refl _) k os) (.str _)
end Sh


set_option maxRecDepth 100000
set_option linter.unusedSimpArgs false
set_option linter.unusedVariables false
namespace Go.Proofs
open Go.Shelf Go.RowKit
theorem Tryz.extra : Builder.Extra Tryz.prog Tryz.lays156_ren := {
  sizeBuilder := by kernel_rfl
  liesBuilder := by kernel_rfl
  t5 := Tryz.underlying5
  a5 := Tryz.isAgg5
  z5 := Tryz.sizeOf5
  v5 := Tryz.zeroValue5
  infoByte := by kernel_rfl
  cellsByte := by kernel_rfl
  sizeByte := by kernel_rfl
  neB5 := by decide }
theorem Tryz.enters_Join : Sh.Enters Tryz.prog 103 := enters_of Tryz.lays156.f156 (by kernel_rfl) rfl
theorem Tryz.calls_Join (bk o c : Nat) (xs : List ByteArray) (sep : ByteArray) (w : World) (hcells : ∀ (j : Nat) x, xs[j]? = some x → w.cell? ⟨bk, o + j, none⟩ = some (.string x))
    (hbk : bk < w.heap.size) (hN : xs.length ≤ 140737488355328) (hcap : xs.length ≤ c) (hlen : (Lib.join (xs.map (·.data.toList)) sep.data.toList).length ≤ 140737488355328) :
    Calls Tryz.prog 103 #[.slice (some ⟨bk, o, none⟩) xs.length c, .string sep] w fun e w' => e = .returned (.string ⟨(Lib.join (xs.map (·.data.toList)) sep.data.toList).toArray⟩) ∧ Below w.heap.size w w' :=
  Any.strings_Join Tryz.lays156 Tryz.extra bk o c xs sep w hcells hbk hN hcap hlen
theorem Tryz.calls_Join0 (a : Option Addr) (c : Nat) (sep : ByteArray) (w : World) : Calls Tryz.prog 103 #[.slice a 0 c, .string sep] w fun e w' => e = .returned (.string ⟨#[]⟩) ∧ w' = w :=
  Any.strings_Join_none Tryz.lays156 Tryz.extra a c sep w
end Go.Proofs
namespace Sh
open Go Go.Proofs
theorem flat_strs (l : List (List UInt8)) : flat (l.map DV.str) = l.map DV.str := by
  induction l with
  | nil => rfl
  | cons a r ih => rw [List.map_cons, show DV.str a :: r.map DV.str = [DV.str a] ++ r.map DV.str from rfl, flat_append, ih]; rfl
theorem s_Join (l : List (List UInt8)) (sep : List UInt8) (hl : l.length ≤ 140737488355328) (hj : (Lib.join l sep).length ≤ 140737488355328) : PC 103 [.list (l.map DV.str), .str sep] (.str (Lib.join l sep)) := by
  refine pure_of_calls Tryz.enters_Join (fun M w vs hG hT hM hr => ?_)
  obtain ⟨r1, r2⟩ := hr
  obtain ⟨x, y, rfl⟩ : ∃ x y, vs = #[x, y] := by
    refine ⟨vs[0]'(by simp at r1; omega), vs[1]'(by simp at r1; omega), ?_⟩
    apply Array.ext
    · simpa using r1.symm
    · intro i i1 i2
      have : i = 0 ∨ i = 1 := by simp at i2; omega
      rcases this with rfl | rfl <;> rfl
  have hx : RelP M (.list (l.map DV.str)) x := r2 0 (by simp)
  have hy : RelP M (.str sep) y := r2 1 (by simp)
  cases hy
  cases hx with
  | list _ a cap sz b o g hcap ha hsz hMm hrr =>
    rw [flat_strs] at hMm hrr
    rw [List.length_map] at hcap ⊢
    rcases ha with ha | rfl
    · have : l = [] := by simpa using ha
      subst this
      refine (Tryz.calls_Join0 a cap _ w).mono ?_
      rintro e w' ⟨rfl, rfl⟩
      exact after_flat hM (RowKit.Below.refl _ _) (.str _)
    · by_cases h0 : l = []
      · subst h0
        refine (Tryz.calls_Join0 _ cap _ w).mono ?_
        rintro e w' ⟨rfl, rfl⟩
        exact after_flat hM (RowKit.Below.refl _ _) (.str _)
      have hp : 0 < l.length := List.length_pos_iff.2 h0
      have hcell : ∀ j, j < l.length → w.cell? ⟨b, o + j, none⟩ = some (.string ⟨(l.getD j []).toArray⟩) := fun j hj => by
        have q1 := hM _ _ _ (hMm j (by simpa using hj))
        have q2 := hrr j (by simpa using hj)
        have q3 : (l.map DV.str).getD j .undef = .str (l.getD j []) := by simp [List.getD_eq_getElem?_getD, hj]
        rw [q3] at q2
        have q6 : ∀ s v, RelP M (.str s) v → v = .string ⟨s.toArray⟩ := fun s v h => by cases h; rfl
        rw [q1, q6 _ _ q2]
      have hb : b < w.heap.size := World.block_lt_of_cell? (a := ⟨b, o + 0, none⟩) _ (hcell 0 hp)
      have e1 : ((l.map fun s => (⟨s.toArray⟩ : ByteArray)).map (·.data.toList)) = l := by simp [Function.comp_def]
      have h1 := Tryz.calls_Join b o cap (l.map fun s => ⟨s.toArray⟩) ⟨sep.toArray⟩ w (fun j x hx => ?_) hb (by simpa using hl) (by simpa using hcap) (by rw [e1]; simpa using hj)
      · rw [e1, List.length_map] at h1
        refine h1.mono ?_
        rintro e w' ⟨rfl, hw⟩
        exact after_flat hM hw (.str _)
      · have hj2 : j < l.length := by have := (List.getElem?_eq_some_iff.1 hx).1; simpa using this
        rw [hcell j hj2]
        simp [hj2] at hx
        rw [← hx]; simp [List.getD_eq_getElem?_getD, hj2]
end Sh


set_option maxRecDepth 100000
set_option linter.unusedSimpArgs false
set_option linter.unusedVariables false
namespace Sh
open Go Go.Proofs
def oS {α : Type} (g : α → List UInt8) (l : List α) (i : Nat) : List DV := (l.take i).map fun c => .str (g c)
theorem oS_len {α : Type} (g : α → List UInt8) (l : List α) (i : Nat) (h : i ≤ l.length) : (oS g l i).length = i := by simp [oS]; omega
theorem oS_succ {α : Type} (g : α → List UInt8) (l : List α) (i : Nat) (d : α) (h : i < l.length) : oS g l (i + 1) = oS g l i ++ [.str (g (l.getD i d))] := take_map_succ _ l i d h
theorem oS_all {α : Type} (g : α → List UInt8) (l : List α) : oS g l l.length = (l.map g).map DV.str := by simp [oS]
theorem c_mappedS (l : List Int) (f : FuncId) (g : Int → List UInt8) (hl : l.length < 1073741824) (hf : ∀ c ∈ l, PC f [DV.int .i64 (c)] (.str (g c))) : PC 104 [iL l, .func f []] (.list ((l.map g).map DV.str)) := by
  refine pureCall_ofR dh104 rfl ?_
  conv => whnf
  refine dwp_loopR (P := Tryz.prog) (G := GC) (k := dk104_0) (b := db104_0) (α := Nat) (fun i => [(1, .func f []), (5, .own 5 0 (oS g l i).length (oS g l i).length), (8, iL l), (9, .int .i64 (l.map (DV.int .i64)).length), (10, DV.int .i64 (i))]) (fun i => [(5, .row 1 (oS g l i) false)]) (fun i => i ≤ l.length) (fun i => l.length - i) 0 ⟨rfl, rfl, rfl⟩ (Nat.zero_le _) ?_
  intro i h1
  conv => whnf
  refine ⟨fun hb => ?_, fun hb => ?_⟩
  · have hi : i < l.length := by simpa using hb
    conv => whnf
    rw [getD_enc _ _ (i) 0 hi]
    refine ⟨idxA hi rfl, ?_⟩
    conv => whnf
    refine .inl ?_
    conv => whnf
    refine ⟨_, hf _ (getD_in 0 hi), ?_⟩
    conv => whnf
    refine ⟨⟨rfl, rfl, rfl, by rw [oS_len g l i h1]; simp; omega, fun e he => by simp at he; subst he; rfl⟩, ?_⟩
    conv => whnf
    rw [wrap_succ i (by omega)]
    refine ⟨i + 1, rfl, ?_, ?_, hi, by omega⟩
    · rw [oS_succ g l i 0 hi]; rfl
    · rw [oS_succ g l i 0 hi]; rfl
  · have hi : i = l.length := by have := of_decide_eq_false hb; simp at this; omega
    conv => whnf
    exact ⟨rfl, by rw [window_full, hi, oS_all]; rfl⟩
def numsC (c : Cel) : List Int := [c.li, c.dr] ++ c.tb.flatMap fun p => [p.x, p.y]
def lineC (c : Cel) : List UInt8 := Lib.join ([99, 101, 108, 108] :: (numsC c).map Lib.itoa) [32] ++ [10]
def prtH (l : List Cel) : List UInt8 := l.flatMap lineC
def prtS (l : List Cel) : List UInt8 × Int := if chkChain l ≠ 0 then ([], chkChain l) else (prtH l, 0)
def nuS (c : Cel) (i : Nat) : List DV := ([c.li, c.dr] ++ (c.tb.take i).flatMap fun p => [p.x, p.y]).map (DV.int .i64)
theorem nuS_len (c : Cel) (i : Nat) (h : i ≤ c.tb.length) : (nuS c i).length = 2 + 2 * i := by
  have : ∀ (t : List Pt), (t.flatMap fun p => [p.x, p.y]).length = 2 * t.length := fun t => by induction t with
    | nil => rfl
    | cons a r ih => simp [List.flatMap_cons, ih]; omega
  unfold nuS
  rw [List.length_map, List.length_append, this, List.length_take]
  simp; omega
theorem nuS_succ (c : Cel) (i : Nat) (h : i < c.tb.length) : nuS c (i + 1) = nuS c i ++ [DV.int .i64 ((c.tb.getD i ⟨0, 0⟩).x), DV.int .i64 ((c.tb.getD i ⟨0, 0⟩).y)] := by
  unfold nuS
  rw [take_snoc c.tb i ⟨0, 0⟩ h, List.flatMap_append, ← List.append_assoc, List.map_append]
  rfl
theorem nuS_all (c : Cel) : nuS c c.tb.length = (numsC c).map (DV.int .i64) := by simp [nuS, numsC]
theorem okL_mem : ∀ {r : List Pt} {b : Pt}, okL b r → ∀ p ∈ r, 0 ≤ p.x ∧ p.x ≤ 100 ∧ 0 ≤ p.y ∧ p.y ≤ 200
  | [], _, _, _, hp => absurd hp List.not_mem_nil
  | q :: r, _, h, p, hp => by
    rcases List.mem_cons.1 hp with rfl | hp
    · exact h.1.1
    · exact okL_mem h.2 p hp
theorem OkT.mem {t : List Pt} (h : OkT t) : ∀ p ∈ t, 0 ≤ p.x ∧ p.x ≤ 100 ∧ 0 ≤ p.y ∧ p.y ≤ 200 := by
  obtain ⟨_, _, p, r, rfl, h1, h2, h3, h4⟩ := h
  intro q hq
  rcases List.mem_cons.1 hq with rfl | hq
  · omega
  · exact okL_mem h4 q hq
theorem OkC.nums {c : Cel} (h : OkC c) : ∀ n ∈ numsC c, 0 ≤ n ∧ n ≤ 1000 := by
  obtain ⟨h1, h2, h3, h4, h5⟩ := h
  intro n hn
  unfold numsC at hn
  rcases List.mem_append.1 hn with hn | hn
  · simp only [List.mem_cons, List.not_mem_nil, or_false] at hn
    rcases hn with rfl | rfl <;> omega
  · obtain ⟨p, hp, hn⟩ := List.mem_flatMap.1 hn
    have := h1.mem p hp
    simp only [List.mem_cons, List.not_mem_nil, or_false] at hn
    rcases hn with rfl | rfl <;> omega
theorem OkC.numsLen {c : Cel} (h : OkC c) : (numsC c).length ≤ 18 := by
  have := nuS_len c c.tb.length (Nat.le_refl _)
  rw [nuS_all, List.length_map] at this
  have := h.1.2.1
  omega
theorem joinTail_len (sep : List UInt8) (k : Nat) : ∀ (r : List (List UInt8)), (∀ x ∈ r, x.length ≤ k) → (Lib.joinTail sep r).length ≤ r.length * (sep.length + k)
  | [], _ => by simp [Lib.joinTail]
  | x :: r, h => by
    have ih := joinTail_len sep k r (fun y hy => h y (List.mem_cons_of_mem _ hy))
    have h1 := h x (List.mem_cons_self ..)
    unfold Lib.joinTail at ih ⊢
    rw [List.map_cons, List.flatten_cons, List.length_append, List.length_append, List.length_cons, Nat.add_mul]
    omega
theorem OkC.lineLen {c : Cel} (h : OkC c) : (Lib.join ([99, 101, 108, 108] :: (numsC c).map Lib.itoa) [32]).length ≤ 400 := by
  have h1 := joinTail_len [32] 21 ((numsC c).map Lib.itoa) (fun x hx => by
    obtain ⟨n, hn, rfl⟩ := List.mem_map.1 hx
    have := h.nums n hn
    exact Lib.itoa_length_le n (by omega) (by omega))
  have h2 := h.numsLen
  rw [List.length_map] at h1
  have h3 : (numsC c).length * ([(32 : UInt8)].length + 21) ≤ 18 * 22 := Nat.mul_le_mul h2 (Nat.le_refl _)
  have h4 : Lib.join ([99, 101, 108, 108] :: (numsC c).map Lib.itoa) [32] = [99, 101, 108, 108] ++ Lib.joinTail [32] ((numsC c).map Lib.itoa) := Lib.join_cons ..
  rw [h4, List.length_append]
  have : ([99, 101, 108, 108] : List UInt8).length = 4 := rfl
  omega
theorem prtH_len : ∀ {l : List Cel}, (∀ c ∈ l, OkC c) → (prtH l).length ≤ l.length * 401
  | [], _ => by simp [prtH]
  | c :: r, h => by
    have ih := prtH_len (l := r) (fun x hx => h x (List.mem_cons_of_mem _ hx))
    have h1 := (h c (List.mem_cons_self ..)).lineLen
    unfold prtH at ih ⊢
    rw [List.flatMap_cons, List.length_append, List.length_cons, Nat.add_mul]
    have : (lineC c).length ≤ 401 := by unfold lineC; rw [List.length_append]; simpa using h1
    omega
theorem c_Print (l : List Cel) (hl : l.length < 1073741824) (hc : ∀ c ∈ l, c.tb.length < 1073741824) : PC 67 [chn l] (.tuple [.str (prtS l).1, DV.int .i64 ((prtS l).2)]) := by
  have e0 : ((l.map encC).length : Int) = l.length := by simp
  refine pureCall_ofR dh67 rfl ?_
  conv => whnf
  repeat' (first
    | (refine ⟨fun hg => ?_, fun hg => ?_⟩ <;> first | contradiction | (conv => whnf))
    | (refine Or.inl ?_; conv => whnf)
    | (refine ⟨_, c_CheckChain _ hl hc, ?_⟩; conv => whnf)
    | (refine And.intro ?_ ?_; kernel_rfl; conv => whnf))
  · have hg := of_decide_eq_true hg
    show DV.tuple [_, _] = _
    rw [prtS, if_pos hg]
    (try rfl)
  · have hg := of_decide_eq_false hg
    have hok := chkChain_zero (Classical.not_not.1 hg)
    refine dwp_loopR (P := Tryz.prog) (G := GC) (k := dk67_1) (b := db67_1) (α := Nat) (fun i => [(5, .str (prtH (l.take i))), (16, chn l), (17, .int .i64 (l.map encC).length), (18, DV.int .i64 (i))]) (fun _ => []) (fun i => i ≤ l.length) (fun i => l.length - i) 0 ⟨rfl, rfl, rfl⟩ (Nat.zero_le _) ?_
    intro i h1
    conv => whnf
    refine ⟨fun hb => ?_, fun hb => ?_⟩
    · have hi : i < l.length := by simpa using hb
      conv => whnf
      rw [getD_enc _ _ (i) C0 hi]
      refine ⟨idxA hi rfl, ?_⟩
      conv => whnf
      have hC := hok.2.2 _ (getD_in C0 hi)
      have e1 : (((l.getD i C0).tb.map encPt).length : Int) = (l.getD i C0).tb.length := by simp
      generalize hcc : l.getD i C0 = c at hC e1
      have ht := hC.1.2.1
      refine dwp_loopR (P := Tryz.prog) (G := GC) (k := dk67_0) (b := db67_0) (α := Nat) (fun j => [(5, .str (prtH (l.take i))), (8, .own 26 0 (nuS c j).length (nuS c j).length), (16, chn l), (17, .int .i64 (l.map encC).length), (18, DV.int .i64 (i)), (28, tbl c.tb), (29, .int .i64 (c.tb.map encPt).length), (30, DV.int .i64 (j))]) (fun j => [(7, .box 3 (encC c)), (26, .row 1 (nuS c j) false)]) (fun j => j ≤ c.tb.length) (fun j => c.tb.length - j) 0 ⟨rfl, rfl, rfl⟩ (Nat.zero_le _) ?_
      intro j h2
      conv => whnf
      refine ⟨fun hb => ?_, fun hb => ?_⟩
      · have hj : j < c.tb.length := by simpa using hb
        conv => whnf
        rw [getD_enc _ _ (j) (⟨0, 0⟩ : Pt) hj]
        refine ⟨idxA hj rfl, ?_⟩
        conv => whnf
        conv => whnf
        refine ⟨⟨rfl, rfl, rfl, by rw [nuS_len c j h2]; show 2 + 2 * j + 2 ≤ _; omega, fun e he => by
          have he : e ∈ [DV.int .i64 ((c.tb.getD j ⟨0, 0⟩).x), DV.int .i64 ((c.tb.getD j ⟨0, 0⟩).y)] := he
          simp only [List.mem_cons, List.not_mem_nil, or_false] at he
          rcases he with rfl | rfl <;> rfl⟩, ?_⟩
        conv => whnf
        rw [wrap_succ j (by omega)]
        refine ⟨j + 1, rfl, ?_, ?_, hj, by omega⟩
        · rw [nuS_succ c j hj]; rfl
        · rw [nuS_succ c j hj]; rfl
      · have hj : j = c.tb.length := by have := of_decide_eq_false hb; rw [e1] at this; omega
        conv => whnf
        subst hj
        rw [nuS_all c]
        refine Or.inl ?_
        conv => whnf
        rw [window_full]
        have hnum := hC.nums
        refine ⟨rfl, _, c_mappedS (numsC c) 105 Lib.itoa (by have := hC.numsLen; omega) (fun n hn => s_Itoa n (by have := hnum n hn; omega) (by have := hnum n hn; omega)), ?_⟩
        conv => whnf
        have hlen : (numsC c).length ≤ 18 := by have := nuS_len c c.tb.length (Nat.le_refl _); rw [nuS_all, List.length_map] at this; omega
        refine ⟨⟨by show 1 + _ ≤ _; simp; omega, fun e he => by obtain ⟨x, _, rfl⟩ := List.mem_map.1 he; rfl, fun e he => by
          have he : e ∈ [DV.str [99, 101, 108, 108]] := he
          simp at he; subst he; rfl⟩, ?_⟩
        conv => whnf
        refine Or.inl ?_
        conv => whnf
        have hjl : (Lib.join ([99, 101, 108, 108] :: (numsC c).map Lib.itoa) [32]).length ≤ 100000 := by have := hC.lineLen; omega
        have hpl : (prtH (l.take i)).length ≤ 1000000000 := by
          have h1 := prtH_len (l := l.take i) (fun c hc => hok.2.2 c (List.mem_of_mem_take hc))
          have h2 := hok.2.1
          rw [List.length_take] at h1
          omega
        refine ⟨_, s_Join ([99, 101, 108, 108] :: (numsC c).map Lib.itoa) [32] (by simp; omega) (by omega), ?_⟩
        conv => whnf
        refine ⟨by show _ + 1 ≤ _; omega, ?_⟩
        conv => whnf
        refine ⟨by show _ + (_ ++ [_]).length ≤ _; simp; omega, ?_⟩
        conv => whnf
        rw [wrap_succ i (by omega)]
        refine ⟨i + 1, rfl, ?_, rfl, hi, by omega⟩
        have hp : prtH (l.take (i + 1)) = prtH (l.take i) ++ (Lib.join ([99, 101, 108, 108] :: (numsC c).map Lib.itoa) [32] ++ [10]) := by
          unfold prtH
          rw [take_snoc l i C0 hi, List.flatMap_append, hcc]
          simp [lineC]
        rw [hp]; rfl
    · have hi : i = l.length := by have := of_decide_eq_false hb; rw [e0] at this; omega
      conv => whnf
      show DV.tuple [_, _] = _
      rw [prtS, if_neg hg, hi, List.take_length]
      (try rfl)
end Sh


set_option maxRecDepth 100000
namespace Sh
open Go
def dc13 : DFunc := ⟨312, 0, [(.tmp 0)], (.seq (.ops false [⟨(some 0), (.mov (.const (.bool false))), none, []⟩]) (.seq (.ops false [⟨(some 46), (.call (.func 74) []), none, []⟩, ⟨(some 47), (.call (.func 14) [(.tmp 46), (.const (.int .i64 1))]), none, []⟩, ⟨(some 45), (.mov (.tmp 47)), none, []⟩, ⟨(some 48), (.extract (.tmp 45) 0), none, []⟩, ⟨(some 49), (.extract (.tmp 45) 1), none, []⟩, ⟨(some 1), (.mov (.tmp 48)), none, []⟩, ⟨(some 2), (.mov (.tmp 49)), none, []⟩]) (.seq (.ops false [⟨(some 51), (.call (.func 75) []), none, []⟩, ⟨(some 52), (.iaddr 3 (.tmp 51) (.const (.int .i64 1))), none, []⟩, ⟨(some 53), (.load (some 3) (.tmp 52)), none, []⟩, ⟨(some 54), (.call (.func 14) [(.tmp 53), (.const (.int .i64 5))]), none, []⟩, ⟨(some 50), (.mov (.tmp 54)), none, []⟩, ⟨(some 55), (.extract (.tmp 50) 0), none, []⟩, ⟨(some 56), (.extract (.tmp 50) 1), none, []⟩, ⟨(some 3), (.mov (.tmp 55)), none, []⟩, ⟨(some 4), (.mov (.tmp 56)), none, []⟩]) (.seq (.ops false [⟨(some 58), (.call (.func 74) []), none, []⟩, ⟨(some 59), (.call (.func 16) [(.tmp 58), (.const (.int .i64 9))]), none, []⟩, ⟨(some 57), (.mov (.tmp 59)), none, []⟩, ⟨(some 60), (.extract (.tmp 57) 0), none, []⟩, ⟨(some 61), (.extract (.tmp 57) 1), none, []⟩, ⟨(some 62), (.extract (.tmp 57) 2), none, []⟩, ⟨(some 5), (.mov (.tmp 60)), none, []⟩, ⟨(some 6), (.mov (.tmp 61)), none, []⟩, ⟨(some 7), (.mov (.tmp 62)), none, []⟩]) (.seq (.ops false [⟨(some 64), (.call (.func 74) []), none, []⟩, ⟨(some 65), (.call (.func 16) [(.tmp 64), (.const (.int .i64 11))]), none, []⟩, ⟨(some 63), (.mov (.tmp 65)), none, []⟩, ⟨(some 66), (.extract (.tmp 63) 0), none, []⟩, ⟨(some 67), (.extract (.tmp 63) 1), none, []⟩, ⟨(some 68), (.extract (.tmp 63) 2), none, []⟩, ⟨(some 8), (.mov (.tmp 66)), none, []⟩, ⟨(some 9), (.mov (.tmp 67)), none, []⟩, ⟨(some 10), (.mov (.tmp 68)), none, []⟩]) (.seq (.ops false [⟨(some 70), (.call (.func 75) []), none, []⟩, ⟨(some 71), (.call (.func 28) [(.tmp 70), (.const (.int .i64 6))]), none, []⟩, ⟨(some 69), (.mov (.tmp 71)), none, []⟩, ⟨(some 72), (.extract (.tmp 69) 0), none, []⟩, ⟨(some 73), (.extract (.tmp 69) 1), none, []⟩, ⟨(some 11), (.mov (.tmp 72)), none, []⟩, ⟨(some 12), (.mov (.tmp 73)), none, []⟩]) (.seq (.ops false [⟨(some 75), (.call (.func 75) []), none, []⟩, ⟨(some 76), (.call (.func 28) [(.tmp 75), (.const (.int .i64 11))]), none, []⟩, ⟨(some 74), (.mov (.tmp 76)), none, []⟩, ⟨(some 77), (.extract (.tmp 74) 0), none, []⟩, ⟨(some 78), (.extract (.tmp 74) 1), none, []⟩, ⟨(some 13), (.mov (.tmp 77)), none, []⟩, ⟨(some 14), (.mov (.tmp 78)), none, []⟩]) (.seq (.ops false [⟨(some 80), (.call (.func 75) []), none, []⟩, ⟨(some 81), (.call (.func 30) [(.tmp 80), (.const (.int .i64 4))]), none, []⟩, ⟨(some 79), (.mov (.tmp 81)), none, []⟩, ⟨(some 82), (.extract (.tmp 79) 0), none, []⟩, ⟨(some 83), (.extract (.tmp 79) 1), none, []⟩, ⟨(some 15), (.mov (.tmp 82)), none, []⟩, ⟨(some 16), (.mov (.tmp 83)), none, []⟩]) (.seq (.ops false [⟨(some 85), (.call (.func 75) []), none, []⟩, ⟨(some 86), (.call (.func 31) [(.tmp 85), (.const (.int .i64 6))]), none, []⟩, ⟨(some 84), (.mov (.tmp 86)), none, []⟩, ⟨(some 87), (.extract (.tmp 84) 0), none, []⟩, ⟨(some 88), (.extract (.tmp 84) 1), none, []⟩, ⟨(some 17), (.mov (.tmp 87)), none, []⟩, ⟨(some 18), (.mov (.tmp 88)), none, []⟩]) (.seq (.ops false [⟨(some 89), (.call (.func 75) []), none, []⟩, ⟨(some 90), (.lit true 1 1 (.full []) [(0, (.tmp 89))]), none, []⟩, ⟨(some 19), (.mov (.tmp 90)), none, []⟩]) (.seq (.ops false [⟨(some 92), (.mov (.tmp 19)), none, []⟩, ⟨(some 93), (.call (.func 39) [(.tmp 92)]), none, []⟩, ⟨(some 91), (.mov (.tmp 93)), none, []⟩, ⟨(some 94), (.extract (.tmp 91) 0), none, []⟩, ⟨(some 95), (.extract (.tmp 91) 1), none, []⟩, ⟨(some 20), (.mov (.tmp 94)), none, []⟩, ⟨(some 21), (.mov (.tmp 95)), none, []⟩]) (.seq (.ops false [⟨(some 97), (.mov (.tmp 19)), none, []⟩, ⟨(some 98), (.call (.func 43) [(.tmp 97)]), none, []⟩, ⟨(some 96), (.mov (.tmp 98)), none, []⟩, ⟨(some 99), (.extract (.tmp 96) 0), none, []⟩, ⟨(some 100), (.extract (.tmp 96) 1), none, []⟩, ⟨(some 22), (.mov (.tmp 99)), none, []⟩, ⟨(some 23), (.mov (.tmp 100)), none, []⟩]) (.seq (.ops false [⟨(some 102), (.mov (.tmp 19)), none, []⟩, ⟨(some 103), (.call (.func 54) [(.tmp 102)]), none, []⟩, ⟨(some 101), (.mov (.tmp 103)), none, []⟩, ⟨(some 104), (.extract (.tmp 101) 0), none, []⟩, ⟨(some 105), (.extract (.tmp 101) 1), none, []⟩, ⟨(some 24), (.mov (.tmp 104)), none, []⟩, ⟨(some 25), (.mov (.tmp 105)), none, []⟩]) (.seq (.ops false [⟨(some 107), (.mov (.tmp 19)), none, []⟩, ⟨(some 108), (.call (.func 55) [(.tmp 107)]), none, []⟩, ⟨(some 106), (.mov (.tmp 108)), none, []⟩, ⟨(some 109), (.extract (.tmp 106) 0), none, []⟩, ⟨(some 110), (.extract (.tmp 106) 1), none, []⟩, ⟨(some 111), (.extract (.tmp 106) 2), none, []⟩, ⟨(some 26), (.mov (.tmp 109)), none, []⟩, ⟨(some 27), (.mov (.tmp 110)), none, []⟩, ⟨(some 28), (.mov (.tmp 111)), none, []⟩]) (.seq (.seq (.ops false [⟨(some 112), (.mov (.tmp 2)), none, []⟩, ⟨(some 113), (.mov (.tmp 4)), none, []⟩, ⟨(some 114), (.bin .add (.tmp 112) (.tmp 113)), none, []⟩, ⟨(some 115), (.mov (.tmp 7)), none, []⟩, ⟨(some 116), (.bin .add (.tmp 114) (.tmp 115)), none, []⟩, ⟨(some 117), (.mov (.tmp 10)), none, []⟩, ⟨(some 118), (.bin .add (.tmp 116) (.tmp 117)), none, []⟩, ⟨(some 119), (.mov (.tmp 12)), none, []⟩, ⟨(some 120), (.bin .add (.tmp 118) (.tmp 119)), none, []⟩, ⟨(some 121), (.mov (.tmp 14)), none, []⟩, ⟨(some 122), (.bin .add (.tmp 120) (.tmp 121)), none, []⟩, ⟨(some 123), (.mov (.tmp 16)), none, []⟩, ⟨(some 124), (.bin .add (.tmp 122) (.tmp 123)), none, []⟩, ⟨(some 125), (.mov (.tmp 18)), none, []⟩, ⟨(some 126), (.bin .add (.tmp 124) (.tmp 125)), none, []⟩, ⟨(some 127), (.mov (.tmp 21)), none, []⟩, ⟨(some 128), (.bin .add (.tmp 126) (.tmp 127)), none, []⟩, ⟨(some 129), (.mov (.tmp 23)), none, []⟩, ⟨(some 130), (.bin .add (.tmp 128) (.tmp 129)), none, []⟩, ⟨(some 131), (.mov (.tmp 25)), none, []⟩, ⟨(some 132), (.bin .add (.tmp 130) (.tmp 131)), none, []⟩, ⟨(some 133), (.mov (.tmp 28)), none, []⟩, ⟨(some 134), (.bin .add (.tmp 132) (.tmp 133)), none, []⟩, ⟨(some 135), (.bin .neq (.tmp 134) (.const (.int .i64 0))), none, []⟩, ⟨(some 136), (.mov (.tmp 135)), none, []⟩, ⟨(some 137), (.mov (.tmp 1)), (some (136, false)), []⟩, ⟨(some 138), (.bin .neq (.tmp 137) (.const (.int .i64 9))), (some (136, false)), []⟩, ⟨(some 139), (.pick (.tmp 136) (.const (.bool true)) (.tmp 138)), none, []⟩, ⟨(some 140), (.mov (.tmp 139)), none, []⟩, ⟨(some 141), (.mov (.tmp 3)), (some (140, false)), []⟩, ⟨(some 142), (.bin .neq (.tmp 141) (.const (.int .i64 2))), (some (140, false)), []⟩, ⟨(some 143), (.pick (.tmp 140) (.const (.bool true)) (.tmp 142)), none, []⟩, ⟨(some 144), (.mov (.tmp 143)), none, []⟩, ⟨(some 145), (.mov (.tmp 5)), (some (144, false)), []⟩, ⟨(some 146), (.bin .neq (.tmp 145) (.const (.int .i64 2))), (some (144, false)), []⟩, ⟨(some 147), (.pick (.tmp 144) (.const (.bool true)) (.tmp 146)), none, []⟩, ⟨(some 148), (.mov (.tmp 147)), none, []⟩, ⟨(some 149), (.mov (.tmp 6)), (some (148, false)), []⟩, ⟨(some 150), (.un .not (.tmp 149)), (some (148, false)), []⟩, ⟨(some 151), (.pick (.tmp 148) (.const (.bool true)) (.tmp 150)), none, []⟩, ⟨(some 152), (.mov (.tmp 151)), none, []⟩, ⟨(some 153), (.mov (.tmp 8)), (some (152, false)), []⟩, ⟨(some 154), (.bin .neq (.tmp 153) (.const (.int .i64 (-1)))), (some (152, false)), []⟩, ⟨(some 155), (.pick (.tmp 152) (.const (.bool true)) (.tmp 154)), none, []⟩, ⟨(some 156), (.mov (.tmp 155)), none, []⟩, ⟨(some 157), (.mov (.tmp 9)), (some (156, false)), []⟩, ⟨(some 158), (.pick (.tmp 156) (.const (.bool true)) (.tmp 157)), none, []⟩, ⟨(some 159), (.mov (.tmp 158)), none, []⟩, ⟨(some 160), (.mov (.tmp 11)), (some (159, false)), []⟩, ⟨(some 161), (.bin .neq (.tmp 160) (.const (.int .i64 3))), (some (159, false)), []⟩, ⟨(some 162), (.pick (.tmp 159) (.const (.bool true)) (.tmp 161)), none, []⟩, ⟨(some 163), (.mov (.tmp 162)), none, []⟩, ⟨(some 164), (.mov (.tmp 13)), (some (163, false)), []⟩, ⟨(some 165), (.bin .neq (.tmp 164) (.const (.int .i64 (-2)))), (some (163, false)), []⟩, ⟨(some 166), (.pick (.tmp 163) (.const (.bool true)) (.tmp 165)), none, []⟩, ⟨(some 167), (.mov (.tmp 166)), none, []⟩, ⟨(some 168), (.mov (.tmp 15)), (some (167, false)), []⟩, ⟨(some 169), (.bin .neq (.tmp 168) (.const (.int .i64 5))), (some (167, false)), []⟩, ⟨(some 170), (.pick (.tmp 167) (.const (.bool true)) (.tmp 169)), none, []⟩, ⟨(some 171), (.mov (.tmp 170)), none, []⟩, ⟨(some 172), (.mov (.tmp 17)), (some (171, false)), []⟩, ⟨(some 173), (.lit true 1 1 (.int .i64 0) [(0, (.const (.int .i64 1)))]), (some (171, false)), []⟩, ⟨(some 174), (.call (.func 76) [(.tmp 172), (.tmp 173)]), (some (171, false)), []⟩, ⟨(some 175), (.un .not (.tmp 174)), (some (171, false)), []⟩, ⟨(some 176), (.pick (.tmp 171) (.const (.bool true)) (.tmp 175)), none, []⟩, ⟨(some 177), (.mov (.tmp 176)), none, []⟩, ⟨(some 178), (.mov (.tmp 20)), (some (177, false)), []⟩, ⟨(some 179), (.bin .neq (.tmp 178) (.const (.int .i64 12))), (some (177, false)), []⟩, ⟨(some 180), (.pick (.tmp 177) (.const (.bool true)) (.tmp 179)), none, []⟩, ⟨(some 181), (.mov (.tmp 180)), none, []⟩, ⟨(some 182), (.mov (.tmp 22)), (some (181, false)), []⟩, ⟨(some 183), (.lit true 1 13 (.int .i64 0) [(0, (.const (.int .i64 9))), (1, (.const (.int .i64 9))), (2, (.const (.int .i64 8))), (3, (.const (.int .i64 8))), (4, (.const (.int .i64 5))), (5, (.const (.int .i64 4))), (6, (.const (.int .i64 4))), (7, (.const (.int .i64 4))), (8, (.const (.int .i64 4))), (9, (.const (.int .i64 4))), (10, (.const (.int .i64 2))), (11, (.const (.int .i64 0))), (12, (.const (.int .i64 0)))]), (some (181, false)), []⟩, ⟨(some 184), (.call (.func 76) [(.tmp 182), (.tmp 183)]), (some (181, false)), []⟩, ⟨(some 185), (.un .not (.tmp 184)), (some (181, false)), []⟩, ⟨(some 186), (.pick (.tmp 181) (.const (.bool true)) (.tmp 185)), none, []⟩, ⟨(some 187), (.mov (.tmp 186)), none, []⟩, ⟨(some 188), (.mov (.tmp 24)), (some (187, false)), []⟩, ⟨(some 189), (.lit true 1 2 (.int .i64 0) [(0, (.const (.int .i64 3))), (1, (.const (.int .i64 9)))]), (some (187, false)), []⟩, ⟨(some 190), (.call (.func 76) [(.tmp 188), (.tmp 189)]), (some (187, false)), []⟩, ⟨(some 191), (.un .not (.tmp 190)), (some (187, false)), []⟩, ⟨(some 192), (.pick (.tmp 187) (.const (.bool true)) (.tmp 191)), none, []⟩, ⟨(some 193), (.mov (.tmp 192)), none, []⟩, ⟨(some 194), (.mov (.tmp 26)), (some (193, false)), []⟩, ⟨(some 195), (.bin .neq (.tmp 194) (.const (.int .i64 9))), (some (193, false)), []⟩, ⟨(some 196), (.pick (.tmp 193) (.const (.bool true)) (.tmp 195)), none, []⟩, ⟨(some 197), (.mov (.tmp 196)), none, []⟩, ⟨(some 198), (.mov (.tmp 27)), (some (197, false)), []⟩, ⟨(some 199), (.bin .neq (.tmp 198) (.const (.int .i64 36))), (some (197, false)), []⟩, ⟨(some 200), (.pick (.tmp 197) (.const (.bool true)) (.tmp 199)), none, []⟩]) (.cond (.tmp 200) (.seq (.ops false [⟨(some 0), (.mov (.const (.bool false))), none, []⟩]) .ret) .skip)) (.seq (.ops false [⟨(some 202), (.mov (.tmp 19)), none, []⟩, ⟨(some 203), (.call (.func 56) [(.tmp 202)]), none, []⟩, ⟨(some 201), (.mov (.tmp 203)), none, []⟩, ⟨(some 204), (.extract (.tmp 201) 0), none, []⟩, ⟨(some 205), (.extract (.tmp 201) 1), none, []⟩, ⟨(some 29), (.mov (.tmp 204)), none, []⟩, ⟨(some 30), (.mov (.tmp 205)), none, []⟩]) (.seq (.ops false [⟨(some 207), (.call (.func 75) []), none, []⟩, ⟨(some 208), (.call (.func 74) []), none, []⟩, ⟨(some 209), (.lit true 3 1 (.agg [(.full []), (.int .i64 0), (.int .i64 0)]) [(0, (.tmp 208))]), none, []⟩, ⟨(some 210), (.lit true 1 2 (.full []) [(0, (.tmp 207)), (1, (.tmp 209))]), none, []⟩, ⟨(some 211), (.call (.func 41) [(.tmp 210), (.const (.int .i64 0))]), none, []⟩, ⟨(some 206), (.mov (.tmp 211)), none, []⟩, ⟨(some 212), (.extract (.tmp 206) 0), none, []⟩, ⟨(some 213), (.extract (.tmp 206) 1), none, []⟩, ⟨(some 31), (.mov (.tmp 212)), none, []⟩, ⟨(some 32), (.mov (.tmp 213)), none, []⟩]) (.seq (.ops false [⟨(some 215), (.mov (.tmp 19)), none, []⟩, ⟨(some 216), (.call (.func 42) [(.tmp 215), (.const (.int .i64 8))]), none, []⟩, ⟨(some 214), (.mov (.tmp 216)), none, []⟩, ⟨(some 217), (.extract (.tmp 214) 0), none, []⟩, ⟨(some 218), (.extract (.tmp 214) 1), none, []⟩, ⟨(some 33), (.mov (.tmp 217)), none, []⟩, ⟨(some 34), (.mov (.tmp 218)), none, []⟩]) (.seq (.ops false [⟨(some 220), (.call (.func 75) []), none, []⟩, ⟨(some 221), (.call (.func 75) []), none, []⟩, ⟨(some 222), (.lit true 1 2 (.full []) [(0, (.tmp 220)), (1, (.tmp 221))]), none, []⟩, ⟨(some 223), (.call (.func 44) [(.tmp 222)]), none, []⟩, ⟨(some 219), (.mov (.tmp 223)), none, []⟩, ⟨(some 224), (.extract (.tmp 219) 0), none, []⟩, ⟨(some 225), (.extract (.tmp 219) 1), none, []⟩, ⟨(some 35), (.mov (.tmp 224)), none, []⟩, ⟨(some 36), (.mov (.tmp 225)), none, []⟩]) (.seq (.ops false [⟨(some 227), (.mov (.tmp 19)), none, []⟩, ⟨(some 228), (.call (.func 51) [(.tmp 227), (.const (.int .i64 3)), (.const (.int .i64 100))]), none, []⟩, ⟨(some 226), (.mov (.tmp 228)), none, []⟩, ⟨(some 229), (.extract (.tmp 226) 0), none, []⟩, ⟨(some 230), (.extract (.tmp 226) 1), none, []⟩, ⟨(some 37), (.alloc (.agg [(.int .i64 0), (.int .i64 0)]) 2), none, []⟩, ⟨none, (.store 2 (.tmp 37) (.tmp 229)), none, []⟩, ⟨(some 38), (.mov (.tmp 230)), none, []⟩]) (.seq (.ops false [⟨(some 232), (.lit true 1 3 (.int .i64 0) [(0, (.const (.int .i64 10))), (1, (.const (.int .i64 9))), (2, (.const (.int .i64 7)))]), none, []⟩, ⟨(some 233), (.lit true 1 3 (.int .i64 0) [(0, (.const (.int .i64 9))), (1, (.const (.int .i64 8))), (2, (.const (.int .i64 7)))]), none, []⟩, ⟨(some 234), (.call (.func 77) [(.tmp 232), (.tmp 233)]), none, []⟩, ⟨(some 231), (.mov (.tmp 234)), none, []⟩, ⟨(some 235), (.extract (.tmp 231) 0), none, []⟩, ⟨(some 236), (.extract (.tmp 231) 1), none, []⟩, ⟨(some 39), (.mov (.tmp 235)), none, []⟩, ⟨(some 40), (.mov (.tmp 236)), none, []⟩]) (.seq (.ops false [⟨(some 238), (.lit true 1 3 (.int .i64 0) [(0, (.const (.int .i64 10))), (1, (.const (.int .i64 9))), (2, (.const (.int .i64 7)))]), none, []⟩, ⟨(some 239), (.lit true 1 3 (.int .i64 0) [(0, (.const (.int .i64 10))), (1, (.const (.int .i64 5))), (2, (.const (.int .i64 5)))]), none, []⟩, ⟨(some 240), (.call (.func 77) [(.tmp 238), (.tmp 239)]), none, []⟩, ⟨(some 237), (.mov (.tmp 240)), none, []⟩, ⟨(some 241), (.extract (.tmp 237) 0), none, []⟩, ⟨(some 242), (.extract (.tmp 237) 1), none, []⟩, ⟨(some 41), (.mov (.tmp 241)), none, []⟩, ⟨(some 42), (.mov (.tmp 242)), none, []⟩]) (.seq (.ops false [⟨(some 244), (.call (.func 75) []), none, []⟩, ⟨(some 245), (.call (.func 67) [(.tmp 244)]), none, []⟩, ⟨(some 243), (.mov (.tmp 245)), none, []⟩, ⟨(some 246), (.extract (.tmp 243) 0), none, []⟩, ⟨(some 247), (.extract (.tmp 243) 1), none, []⟩, ⟨(some 43), (.mov (.tmp 246)), none, []⟩, ⟨(some 44), (.mov (.tmp 247)), none, []⟩]) (.seq (.ops false [⟨(some 248), (.mov (.tmp 30)), none, []⟩, ⟨(some 249), (.mov (.tmp 32)), none, []⟩, ⟨(some 250), (.bin .add (.tmp 248) (.tmp 249)), none, []⟩, ⟨(some 251), (.mov (.tmp 34)), none, []⟩, ⟨(some 252), (.bin .add (.tmp 250) (.tmp 251)), none, []⟩, ⟨(some 253), (.mov (.tmp 36)), none, []⟩, ⟨(some 254), (.bin .add (.tmp 252) (.tmp 253)), none, []⟩, ⟨(some 255), (.mov (.tmp 38)), none, []⟩, ⟨(some 256), (.bin .add (.tmp 254) (.tmp 255)), none, []⟩, ⟨(some 257), (.mov (.tmp 40)), none, []⟩, ⟨(some 258), (.bin .add (.tmp 256) (.tmp 257)), none, []⟩, ⟨(some 259), (.mov (.tmp 42)), none, []⟩, ⟨(some 260), (.bin .add (.tmp 258) (.tmp 259)), none, []⟩, ⟨(some 261), (.mov (.tmp 44)), none, []⟩, ⟨(some 262), (.bin .add (.tmp 260) (.tmp 261)), none, []⟩, ⟨(some 263), (.bin .eql (.tmp 262) (.const (.int .i64 0))), none, []⟩, ⟨(some 264), (.mov (.tmp 263)), none, []⟩, ⟨(some 265), (.mov (.tmp 29)), (some (264, true)), []⟩, ⟨(some 266), (.lit true 1 3 (.int .i64 0) [(0, (.const (.int .i64 0))), (1, (.const (.int .i64 5))), (2, (.const (.int .i64 10)))]), (some (264, true)), []⟩, ⟨(some 267), (.call (.func 76) [(.tmp 265), (.tmp 266)]), (some (264, true)), []⟩, ⟨(some 268), (.pick (.tmp 264) (.tmp 267) (.const (.bool false))), none, []⟩, ⟨(some 269), (.mov (.tmp 268)), none, []⟩, ⟨(some 270), (.mov (.tmp 31)), (some (269, true)), []⟩, ⟨(some 271), (.bin .eql (.tmp 270) (.const (.int .i64 19))), (some (269, true)), []⟩, ⟨(some 272), (.pick (.tmp 269) (.tmp 271) (.const (.bool false))), none, []⟩, ⟨(some 273), (.mov (.tmp 272)), none, []⟩, ⟨(some 274), (.mov (.tmp 33)), (some (273, true)), []⟩, ⟨(some 275), (.bin .eql (.tmp 274) (.const (.int .i64 32))), (some (273, true)), []⟩, ⟨(some 276), (.pick (.tmp 273) (.tmp 275) (.const (.bool false))), none, []⟩, ⟨(some 277), (.mov (.tmp 276)), none, []⟩, ⟨(some 278), (.mov (.tmp 35)), (some (277, true)), []⟩, ⟨(some 279), (.bin .eql (.tmp 278) (.const (.int .i64 0))), (some (277, true)), []⟩, ⟨(some 280), (.pick (.tmp 277) (.tmp 279) (.const (.bool false))), none, []⟩, ⟨(some 281), (.mov (.tmp 280)), none, []⟩, ⟨(some 282), (.load (some 2) (.tmp 37)), (some (281, true)), []⟩, ⟨(some 283), (.build [(.int .i64 0), (.int .i64 0)] [(0, (1, (.const (.int .i64 7)))), (1, (1, (.const (.int .i64 8))))]), (some (281, true)), []⟩, ⟨(some 284), (.eqA false [1, 1] (.tmp 282) (.tmp 283)), (some (281, true)), []⟩, ⟨(some 285), (.pick (.tmp 281) (.tmp 284) (.const (.bool false))), none, []⟩, ⟨(some 286), (.mov (.tmp 285)), none, []⟩, ⟨(some 287), (.mov (.tmp 39)), (some (286, true)), []⟩, ⟨(some 288), (.bin .eql (.tmp 287) (.const (.string ⟨#[100, 97, 114, 107]⟩))), (some (286, true)), []⟩, ⟨(some 289), (.pick (.tmp 286) (.tmp 288) (.const (.bool false))), none, []⟩, ⟨(some 290), (.mov (.tmp 289)), none, []⟩, ⟨(some 291), (.mov (.tmp 41)), (some (290, true)), []⟩, ⟨(some 292), (.bin .eql (.tmp 291) (.const (.string ⟨#[98, 121, 112, 97, 115, 115, 101, 100]⟩))), (some (290, true)), []⟩, ⟨(some 293), (.pick (.tmp 290) (.tmp 292) (.const (.bool false))), none, []⟩, ⟨(some 294), (.mov (.tmp 293)), none, []⟩, ⟨(some 295), (.call (.func 75) []), (some (294, true)), []⟩, ⟨(some 296), (.lit true 1 1 (.full []) [(0, (.tmp 295))]), (some (294, true)), []⟩, ⟨(some 297), (.lit true 1 3 (.int .i64 0) [(0, (.const (.int .i64 0))), (1, (.const (.int .i64 5))), (2, (.const (.int .i64 10)))]), (some (294, true)), []⟩, ⟨(some 298), (.call (.func 57) [(.tmp 296), (.const (.int .i64 36)), (.tmp 297)]), (some (294, true)), []⟩, ⟨(some 299), (.bin .eql (.tmp 298) (.const (.int .i64 0))), (some (294, true)), []⟩, ⟨(some 300), (.pick (.tmp 294) (.tmp 299) (.const (.bool false))), none, []⟩, ⟨(some 301), (.mov (.tmp 300)), none, []⟩, ⟨(some 302), (.call (.func 75) []), (some (301, true)), []⟩, ⟨(some 303), (.lit true 1 1 (.full []) [(0, (.tmp 302))]), (some (301, true)), []⟩, ⟨(some 304), (.lit true 1 3 (.int .i64 0) [(0, (.const (.int .i64 0))), (1, (.const (.int .i64 5))), (2, (.const (.int .i64 10)))]), (some (301, true)), []⟩, ⟨(some 305), (.call (.func 57) [(.tmp 303), (.const (.int .i64 35)), (.tmp 304)]), (some (301, true)), []⟩, ⟨(some 306), (.bin .eql (.tmp 305) (.const (.int .i64 19))), (some (301, true)), []⟩, ⟨(some 307), (.pick (.tmp 301) (.tmp 306) (.const (.bool false))), none, []⟩, ⟨(some 308), (.mov (.tmp 307)), none, []⟩, ⟨(some 309), (.mov (.tmp 43)), (some (308, true)), []⟩, ⟨(some 310), (.bin .eql (.tmp 309) (.const (.string ⟨#[99, 101, 108, 108, 32, 49, 48, 48, 48, 32, 49, 32, 48, 32, 49, 48, 32, 52, 32, 56, 32, 54, 32, 48, 10, 99, 101, 108, 108, 32, 53, 48, 48, 32, 49, 32, 48, 32, 49, 48, 32, 52, 32, 56, 32, 54, 32, 48, 10]⟩))), (some (308, true)), []⟩, ⟨(some 311), (.pick (.tmp 308) (.tmp 310) (.const (.bool false))), none, []⟩, ⟨(some 0), (.mov (.tmp 311)), none, []⟩]) .ret))))))))))))))))))))))))⟩
theorem dh13 : cProg Go.Proofs.Tryz.prog ⟨[], [], [90, 173, 183, 189, 209, 210, 222, 232, 233, 238, 239, 266, 296, 297, 303, 304]⟩ 13 = some dc13 := by kernel_rfl
end Sh


set_option maxRecDepth 100000
set_option linter.unusedSimpArgs false
set_option linter.unusedVariables false
namespace Sh
open Go Go.Proofs
def tb0 : List Pt := [⟨0, 10⟩, ⟨4, 8⟩, ⟨6, 0⟩]
def cel1 : Cel := ⟨tb0, 1000, 1⟩
def cel2 : Cel := ⟨tb0, 500, 1⟩
def chn0 : List Cel := [cel1, cel2]
theorem l_table : PC 112 [] (tbl tb0) := by
  refine pureCall_ofR dh112 rfl ?_
  conv => whnf
  repeat' (first
    | (refine ⟨fun hg => ?_, fun hg => ?_⟩ <;> first | contradiction | (conv => whnf))
    | (refine Or.inl ?_; conv => whnf)
    | (refine And.intro ?_ ?_; kernel_rfl; conv => whnf))
  rfl
theorem l_bright : PC 74 [] (encC cel1) := by
  refine pureCall_ofR dh74 rfl ?_
  conv => whnf
  repeat' (first
    | (refine ⟨fun hg => ?_, fun hg => ?_⟩ <;> first | contradiction | (conv => whnf))
    | (refine Or.inl ?_; conv => whnf)
    | (refine ⟨_, l_table .., ?_⟩; conv => whnf)
    | (refine And.intro ?_ ?_; kernel_rfl; conv => whnf))
  rfl
theorem l_chain : PC 75 [] (chn chn0) := by
  refine pureCall_ofR dh75 rfl ?_
  conv => whnf
  repeat' (first
    | (refine ⟨fun hg => ?_, fun hg => ?_⟩ <;> first | contradiction | (conv => whnf))
    | (refine Or.inl ?_; conv => whnf)
    | (refine ⟨_, l_table .., ?_⟩; conv => whnf)
    | (refine ⟨_, l_bright .., ?_⟩; conv => whnf)
    | (refine And.intro ?_ ?_; kernel_rfl; conv => whnf))
  rfl
end Sh


set_option maxRecDepth 100000
namespace Sh
open Go Go.Proofs
theorem ev13 : certS [chn0] = ([0, 5, 10], 0) := by decide
theorem ev14 : fcurS [chn0, [cel1]] 0 = (19, 0) := by decide
theorem ev15 : powS [chn0] 8 = (32, 0) := by decide
theorem ev16 : misS [chn0, chn0] = (0, 0) := by decide
theorem ev17 : bndS [chn0] 3 100 = ((7, 8), 0) := by decide
theorem ev18 : shpS [10, 9, 7] [9, 8, 7] = ([100, 97, 114, 107], 0) := by decide
theorem ev19 : shpS [10, 9, 7] [10, 5, 5] = ([98, 121, 112, 97, 115, 115, 101, 100], 0) := by decide
end Sh


set_option maxRecDepth 100000
set_option linter.unusedSimpArgs false
set_option linter.unusedVariables false
namespace Sh
open Go Go.Proofs
theorem ev20 : ccE [chn0] 36 [0, 5, 10] = 0 := by decide
theorem ev22 : prtS chn0 = ([99, 101, 108, 108, 32, 49, 48, 48, 48, 32, 49, 32, 48, 32, 49, 48, 32, 52, 32, 56, 32, 54, 32, 48, 10, 99, 101, 108, 108, 32, 53, 48, 48, 32, 49, 32, 48, 32, 49, 48, 32, 52, 32, 56, 32, 54, 32, 48, 10], 0) := by kernel_rfl
end Sh


set_option maxRecDepth 100000
set_option maxHeartbeats 8000000
set_option linter.unusedSimpArgs false
set_option linter.unusedVariables false
namespace Sh
open Go Go.Proofs
theorem ev23 : ccE [chn0] 35 [0, 5, 10] = 19 := by decide
theorem len0 : LenF [chn0] := ⟨by decide, by decide⟩
theorem len1 : LenF [chn0, [cel1]] := ⟨by decide, by decide⟩
theorem len2 : LenF [chn0, chn0] := ⟨by decide, by decide⟩
theorem l_awake : PC 13 [] (.bool true) := by
  refine pureCall_ofR dh13 rfl ?_
  conv => whnf
  repeat' (first
    | (refine ⟨fun hg => ?_, fun hg => ?_⟩ <;> first | contradiction | (conv => whnf))
    | (refine Or.inl ?_; conv => whnf)
    | (refine ⟨_, l_chain .., ?_⟩; conv => whnf)
    | (refine ⟨_, l_bright .., ?_⟩; conv => whnf)
    | (refine ⟨_, c_Current _ _ (by decide), ?_⟩; conv => whnf)
    | (refine And.intro ?_ ?_; kernel_rfl; conv => whnf))
  rw [getD_enc' _ _ (1) C0 (by decide) (by decide : (1 : Int) < chn0.length)]
  refine ⟨idxB (by decide) (by decide : (1 : Int) < chn0.length) rfl, ?_⟩
  conv => whnf
  repeat' (first
    | (refine ⟨fun hg => ?_, fun hg => ?_⟩ <;> first | contradiction | (conv => whnf))
    | (refine Or.inl ?_; conv => whnf)
    | (refine ⟨_, l_chain .., ?_⟩; conv => whnf)
    | (refine ⟨_, l_bright .., ?_⟩; conv => whnf)
    | (refine ⟨_, c_Current _ _ (by decide), ?_⟩; conv => whnf)
    | (refine ⟨_, c_Volt _ _ (by decide), ?_⟩; conv => whnf)
    | (refine ⟨_, c_ChainVolt chn0 _ (by decide) (by decide), ?_⟩; conv => whnf)
    | (refine ⟨_, c_ChainCurrent chn0 _ (by decide) (by decide), ?_⟩; conv => whnf)
    | (refine ⟨_, c_Bypassed chn0 _ (by decide) (by decide), ?_⟩; conv => whnf)
    | (refine ⟨_, c_End [chn0] len0, ?_⟩; conv => whnf)
    | (refine ⟨_, c_Curve [chn0] len0, ?_⟩; conv => whnf)
    | (refine ⟨_, c_Peaks [chn0] len0, ?_⟩; conv => whnf)
    | (refine ⟨_, c_Highest [chn0] len0, ?_⟩; conv => whnf)
    | (refine ⟨_, q_SameInts (bypS chn0 6).1 [1] (by decide), ?_⟩; conv => whnf)
    | (refine ⟨_, q_SameInts (curveS [chn0]).1 [9, 9, 8, 8, 5, 4, 4, 4, 4, 4, 2, 0, 0] (by decide), ?_⟩; conv => whnf)
    | (refine ⟨_, q_SameInts (peaksS [chn0]).1 [3, 9] (by decide), ?_⟩; conv => whnf)
    | (refine And.intro ?_ ?_; kernel_rfl; conv => whnf))
  all_goals (first
    | (exfalso; revert hg; decide)
    | skip)
  have k1 := c_Certificate [chn0] len0
  have k2 := c_FieldCurrent [chn0, [cel1]] 0 len1
  have k3 := c_Power [chn0] 8 len0
  have k4 := c_Mismatch [chn0, chn0] len2
  have k5 := c_Bounds [chn0] 3 100 len0
  have k6 := c_Shape [10, 9, 7] [9, 8, 7] (by decide) (by decide)
  have k7 := c_Shape [10, 9, 7] [10, 5, 5] (by decide) (by decide)
  have k8 := c_Print chn0 (by decide) (by decide)
  rw [ev13] at k1
  rw [ev14] at k2
  rw [ev15] at k3
  rw [ev16] at k4
  rw [ev17] at k5
  rw [ev18] at k6
  rw [ev19] at k7
  rw [ev22] at k8
  clear hg
  have k9 := q_SameInts [0, 5, 10] [0, 5, 10] (by decide)
  have k10 := c_CheckCertificate [chn0] 36 [0, 5, 10] len0 (by decide)
  have k11 := c_CheckCertificate [chn0] 35 [0, 5, 10] len0 (by decide)
  rw [ev20] at k10
  rw [ev23] at k11
  repeat' (first
    | (refine ⟨fun hg => ?_, fun hg => ?_⟩ <;> first | contradiction | (conv => whnf))
    | (refine Or.inl ?_; conv => whnf)
    | (refine ⟨_, l_chain .., ?_⟩; conv => whnf)
    | (refine ⟨_, l_bright .., ?_⟩; conv => whnf)
    | (refine ⟨_, k1, ?_⟩; conv => whnf)
    | (refine ⟨_, k2, ?_⟩; conv => whnf)
    | (refine ⟨_, k3, ?_⟩; conv => whnf)
    | (refine ⟨_, k4, ?_⟩; conv => whnf)
    | (refine ⟨_, k5, ?_⟩; conv => whnf)
    | (refine ⟨_, k6, ?_⟩; conv => whnf)
    | (refine ⟨_, k7, ?_⟩; conv => whnf)
    | (refine ⟨_, k8, ?_⟩; conv => whnf)
    | (refine ⟨_, k9, ?_⟩; conv => whnf)
    | (refine ⟨_, k10, ?_⟩; conv => whnf)
    | (refine ⟨_, k11, ?_⟩; conv => whnf)
    | (refine And.intro ?_ ?_; kernel_rfl; conv => whnf))
  all_goals (first | rfl | (exfalso; revert hg; decide))
end Sh


set_option maxRecDepth 100000
set_option linter.unusedSimpArgs false
set_option linter.unusedVariables false
namespace Sh
open Go Go.Proofs
theorem itoa_nat (u : Nat) : Lib.itoa (u : Int) = Lib.decDigits u := by unfold Lib.itoa; rw [if_neg (by omega)]; simp
def txI (n k : Nat) (s : List UInt8) : Prop := Lib.decDigits n = if k = 0 then s else Lib.decDigits k ++ s
end Sh


set_option maxRecDepth 100000
set_option linter.unusedSimpArgs false
set_option linter.unusedVariables false
namespace Sh
open Go Go.Proofs
def wn (ns : List Int) : List UInt8 := Lib.joinTail [32] (ns.map Lib.itoa)
theorem wn_cons (n : Int) (r : List Int) : wn (n :: r) = 32 :: (Lib.itoa n ++ wn r) := by simp [wn, Lib.joinTail]
theorem wn_nil : wn [] = [] := rfl
theorem lineC_eq (c : Cel) : lineC c = [99, 101, 108, 108] ++ wn (numsC c) ++ [10] := by
  unfold lineC wn
  rw [Lib.join_cons]
def ptN (t : List Pt) : List Int := t.flatMap fun p => [p.x, p.y]
theorem wn_len {ns : List Int} (h : ∀ n ∈ ns, 0 ≤ n ∧ n ≤ 1000) : (wn ns).length ≤ ns.length * 22 := by
  have := joinTail_len [32] 21 (ns.map Lib.itoa) (fun x hx => by
    obtain ⟨n, hn, rfl⟩ := List.mem_map.1 hx
    have := h n hn
    exact Lib.itoa_length_le n (by omega) (by omega))
  rw [List.length_map] at this
  exact this
theorem ptN_len (t : List Pt) : (ptN t).length = 2 * t.length := by
  induction t with
  | nil => rfl
  | cons a r ih => unfold ptN at *; rw [List.flatMap_cons, List.length_append, ih]; simp; omega
end Sh


set_option maxRecDepth 100000
set_option linter.unusedSimpArgs false
set_option linter.unusedVariables false
namespace Sh
open Go Go.Proofs
def isD (c : UInt8) : Bool := decide (48 ≤ c.toNat) && decide (c.toNat ≤ 57)
def valD : List UInt8 → Int → Int
  | [], n => n
  | c :: r, n => valD r (10 * n + ((c.toNat : Int) - 48))
def badD (s : List UInt8) : Bool := decide (s = []) || decide (9 < s.length) || (decide (1 < s.length) && decide (s.getD 0 0 = 48))
def digS (s : List UInt8) : Int × Bool := if badD s || !s.all isD then (0, false) else (valD s 0, true)
theorem valD_append (a b : List UInt8) (n : Int) : valD (a ++ b) n = valD b (valD a n) := by
  induction a generalizing n with
  | nil => rfl
  | cons c r ih => exact ih _
theorem valD_bd : ∀ (s : List UInt8) (n : Int) (k : Nat), s.all isD = true → 0 ≤ n → n < 10 ^ k → 0 ≤ valD s n ∧ valD s n < 10 ^ (k + s.length)
  | [], n, k, _, h0, h1 => ⟨h0, h1⟩
  | c :: r, n, k, h, h0, h1 => by
    rw [List.all_cons, Bool.and_eq_true] at h
    have hc := h.1
    unfold isD at hc
    rw [Bool.and_eq_true, decide_eq_true_eq, decide_eq_true_eq] at hc
    have h2 : (10 : Int) ^ (k + 1) = 10 ^ k * 10 := Int.pow_succ ..
    have := valD_bd r (10 * n + ((c.toNat : Int) - 48)) (k + 1) h.2 (by omega) (by omega)
    rw [List.length_cons, show k + (r.length + 1) = k + 1 + r.length by omega]
    exact this
end Sh


set_option maxRecDepth 100000
set_option linter.unusedSimpArgs false
set_option linter.unusedVariables false
namespace Sh
open Go Go.Proofs
def glue (p : List UInt8) : List (List UInt8) → List (List UInt8)
  | [] => [p]
  | h :: t => (p ++ h) :: t
def splitC (b : UInt8) : List UInt8 → List (List UInt8)
  | [] => [[]]
  | c :: r => if c = b then [] :: splitC b r else glue [c] (splitC b r)
theorem glue_glue (p q : List UInt8) (l : List (List UInt8)) : glue p (glue q l) = glue (p ++ q) l := by
  cases l with
  | nil => rfl
  | cons h t => simp [glue]
theorem glue_nil {l : List (List UInt8)} (h : l ≠ []) : glue [] l = l := by
  cases l with
  | nil => exact absurd rfl h
  | cons a t => rfl
theorem splitC_ne (b : UInt8) : ∀ s, splitC b s ≠ []
  | [] => by simp [splitC]
  | c :: r => by
    unfold splitC
    split
    · simp
    · cases splitC b r <;> simp [glue]
theorem splitC_yes {b : UInt8} {s : List UInt8} {i : Nat} (h : i < s.length) (hb : s.getD i 0 = b) (w : List UInt8) : glue w (splitC b (s.drop i)) = w :: splitC b (s.drop (i + 1)) := by
  rw [drop_getD s i 0 h, splitC, if_pos hb]
  simp [glue]
theorem splitC_no {b : UInt8} {s : List UInt8} {i : Nat} (h : i < s.length) (hb : ¬ s.getD i 0 = b) (w : List UInt8) : glue w (splitC b (s.drop i)) = glue (w ++ [s.getD i 0]) (splitC b (s.drop (i + 1))) := by
  rw [drop_getD s i 0 h, splitC, if_neg hb, glue_glue]
theorem window_snoc (s : List UInt8) (f i : Nat) (hf : f ≤ i) (hi : i < s.length) : window s f (i - f) ++ [s.getD i 0] = window s f (i + 1 - f) := by
  unfold window
  rw [show i + 1 - f = (i - f) + 1 by omega, List.take_add_one]
  congr 1
  simp [List.getD_eq_getElem?_getD, hi, show f + (i - f) = i by omega]
theorem q_Split (s : List UInt8) (b : UInt8) (hs : s.length < 1073741824) : PC 73 [.str s, .int .u8 (b.toNat)] (.list ((splitC b s).map DV.str)) := by
  refine pureCall_ofR dh73 rfl ?_
  conv => whnf
  refine dwp_loopR (P := Tryz.prog) (G := GC) (k := dk73_0) (b := db73_0) (α := List (List UInt8) × Nat × Nat) (fun a => [(0, .str s), (1, .int .u8 (b.toNat)), (5, .own 5 0 (a.1.map DV.str).length (a.1.map DV.str).length), (6, DV.int .i64 ((a.2.1 : Nat))), (7, DV.int .i64 ((a.2.2 : Nat)))]) (fun a => [(5, .row 1 (a.1.map DV.str) false)]) (fun a => a.1.length ≤ a.2.2 ∧ a.2.1 ≤ a.2.2 ∧ a.2.2 ≤ s.length ∧ splitC b s = a.1 ++ glue (window s a.2.1 (a.2.2 - a.2.1)) (splitC b (s.drop a.2.2))) (fun a => s.length - a.2.2) ([], 0, 0) ⟨rfl, rfl, rfl⟩ ⟨Nat.le_refl _, Nat.le_refl _, Nat.zero_le _, (glue_nil (splitC_ne b s)).symm⟩ ?_
  intro ⟨O, f, i⟩ ⟨h0, h1, h2, h3⟩
  have h0 : O.length ≤ i := h0
  have h1 : f ≤ i := h1
  have h2 : i ≤ s.length := h2
  have h3 : splitC b s = O ++ glue (window s f (i - f)) (splitC b (s.drop i)) := h3
  dsimp only
  conv => whnf
  refine ⟨fun hb => ?_, fun hb => ?_⟩
  · have hi : i < s.length := by have : (i : Int) < s.length := of_decide_eq_true hb; omega
    clear hb
    conv => whnf
    refine ⟨⟨by omega, by omega⟩, ?_⟩
    conv => whnf
    refine ⟨fun hq => ?_, fun hq => ?_⟩
    · have hq : ((s.getD i 0).toNat : Int) = (b.toNat : Int) := of_decide_eq_true hq
      have hq : s.getD i 0 = b := UInt8.toNat_inj.1 (by omega)
      conv => whnf
      refine ⟨⟨by omega, by omega, by omega⟩, ?_⟩
      conv => whnf
      rw [show Int.toNat ((i : Int) - (f : Int)) = i - f by omega, Int.toNat_natCast]
      refine ⟨⟨rfl, rfl, rfl, by simp; omega, fun e he => by simp at he; subst he; rfl⟩, ?_⟩
      conv => whnf
      rw [wrap_succ i (by omega)]
      have hO : (O ++ [window s f (i - f)]).map DV.str = O.map DV.str ++ [DV.str (window s f (i - f))] := by simp
      refine ⟨(O ++ [window s f (i - f)], i + 1, i + 1), rfl, ?_, ?_, ⟨?_, Nat.le_refl _, hi, ?_⟩, ?_⟩
      · dsimp only; rw [hO]; rfl
      · dsimp only; rw [hO]; rfl
      · show (O ++ [window s f (i - f)]).length ≤ i + 1; simp; omega
      · show splitC b s = (O ++ [window s f (i - f)]) ++ glue (window s (i + 1) (i + 1 - (i + 1))) (splitC b (s.drop (i + 1)))
        rw [h3, splitC_yes hi hq, Nat.sub_self]
        have e1 : window s (i + 1) 0 = [] := by simp [window]
        rw [e1, glue_nil (splitC_ne _ _)]
        simp
      · show s.length - (i + 1) < s.length - i; omega
    · have hq : ¬ ((s.getD i 0).toNat : Int) = (b.toNat : Int) := of_decide_eq_false hq
      have hq : ¬ s.getD i 0 = b := fun e => hq (by rw [e])
      conv => whnf
      rw [wrap_succ i (by omega)]
      refine ⟨(O, f, i + 1), rfl, rfl, rfl, ⟨?_, ?_, hi, ?_⟩, ?_⟩
      · show O.length ≤ i + 1; omega
      · show f ≤ i + 1; omega
      · show splitC b s = O ++ glue (window s f (i + 1 - f)) (splitC b (s.drop (i + 1)))
        rw [h3, splitC_no hi hq, window_snoc s f i h1 hi]
      · show s.length - (i + 1) < s.length - i; omega
  · have hi : i = s.length := by have : ¬ (i : Int) < s.length := of_decide_eq_false hb; omega
    clear hb
    conv => whnf
    refine ⟨⟨by omega, by omega, by omega⟩, ?_⟩
    conv => whnf
    rw [show Int.toNat ((s.length : Int) - (f : Int)) = s.length - f by omega, Int.toNat_natCast]
    refine ⟨⟨rfl, rfl, rfl, by simp; omega, fun e he => by simp at he; subst he; rfl⟩, ?_⟩
    conv => whnf
    refine ⟨rfl, ?_⟩
    rw [window_full]
    have hO : (O ++ [window s f (s.length - f)]).map DV.str = O.map DV.str ++ [DV.str (window s f (s.length - f))] := by simp
    have hS : splitC b s = O ++ [window s f (s.length - f)] := by
      rw [h3, hi, List.drop_length]
      simp [splitC, glue]
    rw [hS, hO]
    rfl
end Sh


set_option maxRecDepth 100000
set_option linter.unusedSimpArgs false
set_option linter.unusedVariables false
namespace Sh
open Go Go.Proofs
theorem l_told (l : List Cel) (hl : l.length < 1073741824) : PC 72 [chn l] (chn l) := by
  have e0 : ((l.map encC).length : Int) = l.length := by simp
  refine pureCall_ofR dh72 rfl ?_
  conv => whnf
  refine dwp_loopR (P := Tryz.prog) (G := GC) (k := dk72_0) (b := db72_0) (α := Nat) (fun i => [(3, .own 3 0 (oC l i).length (oC l i).length), (6, chn l), (7, .int .i64 (l.map encC).length), (8, DV.int .i64 (i))]) (fun i => [(3, .row 3 (oC l i) false)]) (fun i => i ≤ l.length) (fun i => l.length - i) 0 ⟨rfl, rfl, rfl⟩ (Nat.zero_le _) ?_
  intro i h1
  conv => whnf
  refine ⟨fun hb => ?_, fun hb => ?_⟩
  · have hi : i < l.length := by simpa using hb
    clear hb
    conv => whnf
    rw [getD_enc _ _ (i) C0 hi]
    refine ⟨idxA hi rfl, ?_⟩
    conv => whnf
    refine ⟨⟨rfl, rfl, rfl, by rw [oC_len l i h1]; simp; omega, fun e he => by simp at he; subst he; rfl⟩, ?_⟩
    conv => whnf
    rw [wrap_succ i (by omega)]
    refine ⟨i + 1, rfl, ?_, ?_, hi, by omega⟩
    · rw [oC_succ l i hi]; rfl
    · rw [oC_succ l i hi]; rfl
  · have hi : i = l.length := by have := of_decide_eq_false hb; rw [e0] at this; omega
    conv => whnf
    refine ⟨rfl, ?_⟩
    rw [window_full, hi]
    show DV.list (oC l l.length) = _
    unfold oC
    rw [List.take_length]; rfl
theorem r_SameChain (l : List Cel) (hl : l.length < 1073741824) (hcs : ∀ c ∈ l, c.tb.length < 1073741824) : PC 71 [chn l, chn l] (.bool true) := by
  have e0 : ((l.map encC).length : Int) = l.length := by simp
  refine pureCall_ofR dh71 rfl ?_
  conv => whnf
  refine ⟨fun hg => absurd rfl (of_decide_eq_true hg), fun hg => ?_⟩
  clear hg
  conv => whnf
  refine dwp_loopR (P := Tryz.prog) (G := GC) (k := dk71_1) (b := db71_1) (α := Nat) (fun i => [(0, chn l), (1, chn l), (5, DV.int .i64 (i))]) (fun _ => []) (fun i => i ≤ l.length) (fun i => l.length - i) 0 ⟨rfl, rfl, rfl⟩ (Nat.zero_le _) ?_
  intro i h1
  conv => whnf
  refine ⟨fun hb => ?_, fun hb => ?_⟩
  · have hi : i < l.length := by simpa using hb
    have hct := hcs _ (getD_in C0 hi)
    have e1 : (((l.getD i C0).tb.map encPt).length : Int) = (l.getD i C0).tb.length := by simp
    clear hb
    conv => whnf
    repeat' (first
      | (refine ⟨fun hg => ?_, fun hg => ?_⟩ <;> first | contradiction | (replace hg := of_decide_eq_true hg; first | (exfalso; omega; done) | (conv => whnf)) | (replace hg := of_decide_eq_false hg; first | (exfalso; omega; done) | (conv => whnf)) | (skip; conv => whnf) | (conv => whnf))
      | (refine Or.inl ?_; conv => whnf)
      | (rw [getD_enc _ _ i C0 hi]; refine ⟨idxA hi rfl, ?_⟩; conv => whnf)
      | (refine And.intro ?_ ?_; kernel_rfl; conv => whnf))
    refine dwp_loopR (P := Tryz.prog) (G := GC) (k := dk71_0) (b := db71_0) (α := Nat) (fun k => [(0, chn l), (1, chn l), (5, DV.int .i64 (i)), (6, DV.int .i64 (k))]) (fun _ => []) (fun k => k ≤ (l.getD i C0).tb.length) (fun k => (l.getD i C0).tb.length - k) 0 ⟨rfl, rfl, rfl⟩ (Nat.zero_le _) ?_
    intro k hk1
    conv => whnf
    rw [getD_enc _ _ (i) C0 hi]
    refine ⟨idxA hi rfl, ?_⟩
    conv => whnf
    refine ⟨fun hb => ?_, fun hb => ?_⟩
    · have hk : k < (l.getD i C0).tb.length := by have := of_decide_eq_true hb; rw [e1] at this; omega
      clear hb
      conv => whnf
      repeat' (first
        | (refine ⟨fun hg => ?_, fun hg => ?_⟩ <;> first | contradiction | (replace hg := of_decide_eq_true hg; first | (exfalso; omega; done) | (conv => whnf)) | (replace hg := of_decide_eq_false hg; first | (exfalso; omega; done) | (conv => whnf)) | (skip; conv => whnf) | (conv => whnf))
        | (refine Or.inl ?_; conv => whnf)
        | (rw [getD_enc _ _ i C0 hi]; refine ⟨idxA hi rfl, ?_⟩; conv => whnf)
        | (rw [getD_enc _ _ k P0 hk]; refine ⟨idxA hk rfl, ?_⟩; conv => whnf)
        | (refine And.intro ?_ ?_; kernel_rfl; conv => whnf))
      · exfalso
        rw [decide_eq_true rfl, decide_eq_true rfl] at hg
        cases hg
      · rw [wrap_succ k (by omega)]
        exact ⟨k + 1, rfl, rfl, rfl, hk, by omega⟩
    · clear hb
      conv => whnf
      rw [wrap_succ i (by omega)]
      exact ⟨i + 1, rfl, rfl, rfl, hi, by omega⟩
  · conv => whnf
    rfl
end Sh


set_option linter.unusedSimpArgs false
set_option linter.unusedVariables false
namespace Sh
open Go
def numsW (w : List (List UInt8)) : List Int := (w.drop 1).map fun x => (digS x).1
def badW (w : List (List UInt8)) : Bool := decide (w.length < 3) || (decide (w.length % 2 ≠ 1) || decide (w.getD 0 [] ≠ [99, 101, 108, 108]))
def wrongW (w : List (List UInt8)) : Bool := badW w || !((w.drop 1).all fun x => (digS x).2)
def ptsW : List Int → List Pt
  | x :: y :: r => ⟨x, y⟩ :: ptsW r
  | _ => []
def celW (w : List (List UInt8)) : Cel := ⟨ptsW ((numsW w).drop 2), (numsW w).getD 0 0, (numsW w).getD 1 0⟩
def parE (rows : List (List UInt8)) : Nat → Nat → Option Nat
  | 0, _ => none
  | n + 1, i => if wrongW (splitC 32 (rows.getD i [])) then some i else parE rows n (i + 1)
def outW (rows : List (List UInt8)) (m : Nat) : List Cel := (rows.take m).map fun r => celW (splitC 32 r)
def parS (s : List UInt8) : List Cel × Int × Int :=
  if 4096 < s.length then ([], 0, 26) else
  match parE (splitC 10 s) ((splitC 10 s).length - 1) 0 with
  | some i => ([], (i : Int), 25)
  | none => if (splitC 10 s).getD ((splitC 10 s).length - 1) [] ≠ [] then ([], ((splitC 10 s).length - 1 : Nat), 25)
    else if chkChain (outW (splitC 10 s) ((splitC 10 s).length - 1)) ≠ 0 then ([], ((splitC 10 s).length - 1 : Nat), chkChain (outW (splitC 10 s) ((splitC 10 s).length - 1)))
    else (outW (splitC 10 s) ((splitC 10 s).length - 1), 0, 0)
theorem splitC_len (b : UInt8) : ∀ s : List UInt8, (splitC b s).length ≤ s.length + 1 ∧ ∀ x ∈ splitC b s, x.length ≤ s.length
  | [] => ⟨Nat.le_refl _, fun x hx => by simp [splitC] at hx; subst hx; exact Nat.le_refl _⟩
  | c :: r => by
    obtain ⟨h1, h2⟩ := splitC_len b r
    have hn := splitC_ne b r
    unfold splitC
    split
    · refine ⟨by simp; omega, fun x hx => ?_⟩
      rcases List.mem_cons.1 hx with rfl | hx
      · simp
      · have := h2 x hx; simp; omega
    · cases hs : splitC b r with
      | nil => exact absurd hs hn
      | cons h t =>
        rw [hs] at h1 h2
        refine ⟨by simp [glue] at h1 ⊢; omega, fun x hx => ?_⟩
        simp only [glue] at hx
        rcases List.mem_cons.1 hx with rfl | hx
        · have := h2 h (List.mem_cons_self ..); simp; omega
        · have := h2 x (List.mem_cons_of_mem _ hx); simp; omega
theorem ptsW_len : ∀ l : List Int, (ptsW l).length = l.length / 2
  | [] => rfl
  | [x] => by simp [ptsW]
  | x :: y :: r => by
    have := ptsW_len r
    simp only [ptsW, List.length_cons, this]; omega
end Sh


set_option maxRecDepth 100000
set_option linter.unusedSimpArgs false
set_option linter.unusedVariables false
namespace Sh
open Go Go.Proofs
def encPar (r : List Cel × Int × Int) : DV := .tuple [chn r.1, DV.int .i64 (r.2.1), DV.int .i64 (r.2.2)]
def strs (l : List (List UInt8)) : DV := .list (l.map DV.str)
theorem parE_step (rows : List (List UInt8)) (n i : Nat) (hi : i < n) (h : wrongW (splitC 32 (rows.getD i [])) = false) : parE rows (n - i) i = parE rows (n - (i + 1)) (i + 1) := by
  rw [show n - i = (n - (i + 1)) + 1 by omega, parE, h]; rfl
theorem parE_at (rows : List (List UInt8)) (n i : Nat) (hi : i < n) (h : wrongW (splitC 32 (rows.getD i [])) = true) : parE rows (n - i) i = some i := by
  rw [show n - i = (n - (i + 1)) + 1 by omega, parE, h]; rfl
theorem outW_succ (rows : List (List UInt8)) (i : Nat) (h : i < rows.length) : outW rows (i + 1) = outW rows i ++ [celW (splitC 32 (rows.getD i []))] := take_map_succ _ _ _ _ h
theorem outW_len (rows : List (List UInt8)) (i : Nat) (h : i ≤ rows.length) : (outW rows i).length = i := by unfold outW; simp; omega
def ptH (n : List Int) : Nat → List (Nat × DObj)
  | 0 => []
  | j + 1 => [(99, .row 2 ((ptsW (n.take (2 * (j + 1)))).map encPt) false)]
def ptT (n : List Int) : Nat → DV
  | 0 => .full []
  | j + 1 => .own 99 0 ((ptsW (n.take (2 * (j + 1)))).map encPt).length ((ptsW (n.take (2 * (j + 1)))).map encPt).length
theorem all_no {α : Type} {f : α → Bool} {l : List α} {j : Nat} (d : α) (h : j < l.length) (hf : f (l.getD j d) = false) : l.all f = false := by
  rw [List.all_eq_false]
  exact ⟨_, getD_in d h, by rw [hf]; exact Bool.false_ne_true⟩
theorem all_tk {α : Type} {f : α → Bool} {l : List α} {j : Nat} (d : α) (h : j < l.length) (h1 : (l.take j).all f = true) (hf : f (l.getD j d) = true) : (l.take (j + 1)).all f = true := by
  rw [take_snoc l j d h, List.all_append, h1]
  simp only [List.all, hf, Bool.and_self]
def nd (w : List (List UInt8)) (j : Nat) : List DV := ((numsW w).take j).map (DV.int .i64)
theorem numsW_len (w : List (List UInt8)) : (numsW w).length = w.length - 1 := by simp [numsW]
theorem celW_tb (w : List (List UInt8)) : (celW w).tb.length ≤ w.length := by
  show (ptsW ((numsW w).drop 2)).length ≤ _
  rw [ptsW_len, List.length_drop, numsW_len]; omega
theorem outW_tb (rows : List (List UInt8)) (m n : Nat) (h : ∀ r ∈ rows, r.length ≤ n) : ∀ c ∈ outW rows m, c.tb.length ≤ n + 1 := by
  intro c hc
  obtain ⟨r, hr, rfl⟩ := List.mem_map.1 hc
  have h1 := celW_tb (splitC 32 r)
  have h2 := (splitC_len 32 r).1
  have h3 := h r (List.mem_of_mem_take hr)
  omega
theorem parS_bad {s : List UInt8} {rows : List (List UInt8)} {m i : Nat} (h : ¬ 4096 < s.length) (hr : splitC 10 s = rows) (hm : rows.length = m + 1) (he : parE rows m 0 = some i) : parS s = ([], (i : Int), 25) := by
  unfold parS
  rw [if_neg h, hr, hm, Nat.add_sub_cancel, he]
theorem parS_ok {s : List UInt8} {rows : List (List UInt8)} {m : Nat} (h : ¬ 4096 < s.length) (hr : splitC 10 s = rows) (hm : rows.length = m + 1) (he : parE rows m 0 = none) :
    parS s = if rows.getD m [] ≠ [] then ([], (m : Int), 25) else if chkChain (outW rows m) ≠ 0 then ([], (m : Int), chkChain (outW rows m)) else (outW rows m, 0, 0) := by
  unfold parS
  rw [if_neg h, hr, hm, Nat.add_sub_cancel, he]
end Sh


set_option maxRecDepth 100000
set_option linter.unusedSimpArgs false
set_option linter.unusedVariables false
namespace Sh
open Go Go.Proofs
theorem get_bytes (s : List UInt8) (i : Nat) : (⟨s.toArray⟩ : ByteArray).get! i = s.getD i 0 := by
  simp [ByteArray.get!, List.getD_eq_getElem?_getD, Array.getElem!_eq_getD]
  rfl
theorem sdecode_ascii (s : List UInt8) (i : Nat) (h : (s.getD i 0).toNat < 128) : sdecode s i = ((s.getD i 0).toNat, 1) := by
  unfold sdecode
  rw [Lib.decode_at, get_bytes, Lib.decodeN, if_pos h]
theorem sdecode_other (s : List UInt8) (i : Nat) (h : ¬ (s.getD i 0).toNat < 128) : 128 ≤ (sdecode s i).1 := by
  unfold sdecode
  rw [Lib.decode_at, get_bytes]
  rcases Lib.decodeN_shape ((⟨s.toArray⟩ : ByteArray).size - i) (s.getD i 0).toNat (((⟨s.toArray⟩ : ByteArray).get! (i + 1)).toNat) (((⟨s.toArray⟩ : ByteArray).get! (i + 2)).toNat) (((⟨s.toArray⟩ : ByteArray).get! (i + 3)).toNat) with h1 | h1 | h1 | h1 | h1
  · exact absurd h1.1 h
  · rw [h1.2.2.2.2]; exact h1.2.2.2.1
  · obtain ⟨_, _, _, _, h2, _, h3⟩ := h1; rw [h3]; show 128 ≤ _; omega
  · obtain ⟨_, _, _, _, _, h2, _, h3⟩ := h1; rw [h3]; show 128 ≤ _; omega
  · rw [h1]; decide
theorem isD_iff (c : UInt8) : isD c = true ↔ 48 ≤ c.toNat ∧ c.toNat ≤ 57 := by unfold isD; rw [Bool.and_eq_true, decide_eq_true_eq, decide_eq_true_eq]
theorem rune_yes (s : List UInt8) (i : Nat) (h : isD (s.getD i 0) = true) : sdecode s i = ((s.getD i 0).toNat, 1) := sdecode_ascii s i (by have := (isD_iff _).1 h; omega)
theorem rune_no (s : List UInt8) (i : Nat) (h : isD (s.getD i 0) = false) : (sdecode s i).1 < 48 ∨ 57 < (sdecode s i).1 := by
  by_cases h1 : (s.getD i 0).toNat < 128
  · rw [sdecode_ascii s i h1]
    show (s.getD i 0).toNat < 48 ∨ 57 < (s.getD i 0).toNat
    false_or_by_contra
    have := (isD_iff (s.getD i 0)).2 ⟨by omega, by omega⟩
    rw [h] at this; cases this
  · have := sdecode_other s i h1; omega
def intS (s : List UInt8) : Int × Bool := if s.all isD && decide (s.length ≤ 9) then (valD s 0, decide (s ≠ []) && (decide (s.length = 1) || !decide (s.getD 0 0 = 48))) else (0, false)
theorem intS_dig (s : List UInt8) : (intS s).2 = (digS s).2 ∧ ((digS s).2 = true → (intS s).1 = (digS s).1) := by
  unfold intS digS badD
  have h0 : s = [] ↔ s.length = 0 := List.length_eq_zero_iff.symm
  have e0 : decide (s = []) = decide (s.length = 0) := by simp only [h0]
  have e00 : decide (s ≠ []) = !decide (s.length = 0) := by simp only [ne_eq, h0, decide_not]
  rw [e0, e00]
  generalize s.all isD = A
  generalize decide (s.getD 0 0 = 48) = Z
  generalize s.length = n at *
  by_cases h2 : n ≤ 9
  · rw [decide_eq_true h2, decide_eq_false (show ¬ 9 < n by omega)]
    by_cases h3 : n = 0
    · rw [decide_eq_true h3]; cases A <;> exact ⟨rfl, fun h => Bool.noConfusion h⟩
    · rw [decide_eq_false h3]
      by_cases h5 : n = 1
      · rw [decide_eq_true h5, decide_eq_false (show ¬ 1 < n by omega)]; cases A <;> exact ⟨rfl, fun _ => rfl⟩
      · rw [decide_eq_false h5, decide_eq_true (show 1 < n by omega)]
        cases A
        · cases Z <;> exact ⟨rfl, fun h => Bool.noConfusion h⟩
        · cases Z <;> exact ⟨rfl, fun _ => by first | rfl | contradiction⟩
  · rw [decide_eq_false h2, decide_eq_true (show 9 < n by omega), Bool.and_false, Bool.or_true, Bool.true_or]
    exact ⟨rfl, fun h => Bool.noConfusion h⟩
theorem wrap_i32 {n : Int} (h1 : -2147483648 ≤ n) (h2 : n ≤ 2147483647) : IntKind.i32.wrap n = n := by
  unfold IntKind.wrap
  simp only [IntKind.bits, IntKind.signed]
  simp; omega
theorem c_integer (s : List UInt8) (hs : s.length < 1073741824) : PC 135 [.str s] (.tuple [DV.int .i64 ((intS s).1), .bool (intS s).2]) := by
  refine pureCall_ofR dh135 rfl ?_
  conv => whnf
  refine dwp_loopR (P := Tryz.prog) (G := GC) (k := dk135_0) (b := db135_0) (α := Nat) (fun k => [(0, .str s), (4, DV.int .i64 (valD (s.take k) 0)), (8, .dict 8)]) (fun k => [(8, .siter s k)]) (fun k => k ≤ s.length ∧ (s.take k).all isD = true ∧ (0 < k → s.length ≤ 9)) (fun k => s.length - k) 0 ⟨rfl, rfl, rfl⟩ ⟨Nat.zero_le _, rfl, fun h => absurd h (by omega)⟩ ?_
  intro k ⟨h1, h2, h3⟩
  by_cases hk : k < s.length
  · have hb : Nat.blt k s.length = true := Nat.ble_eq_true_of_le hk
    dsimp only
    conv => whnf
    generalize hE : evalOp _ _ _ _ = E
    have : E = .ok none (.tuple [.bool true, DV.int .i64 ((k : Nat)), .int .i32 ((sdecode s k).1 : Nat)]) [(8, .siter s (k + (sdecode s k).2))] := by
      rw [← hE]
      show (match Nat.blt k s.length with
        | true => Ev.ok none (.tuple [.bool true, DV.int .i64 ((k : Nat)), .int .i32 ((sdecode s k).1 : Nat)]) [(8, .siter s (k + (sdecode s k).2))]
        | false => Ev.ok none (.tuple [.bool false]) []) = _
      rw [hb]
    subst this
    clear hE
    cases hd : isD (s.getD k 0) with
    | true =>
      rw [rune_yes s k hd]
      dsimp only
      have hd2 := (isD_iff _).1 hd
      have hst : valD (s.take (k + 1)) 0 = 10 * valD (s.take k) 0 + (((s.getD k 0).toNat : Int) - 48) := by
        rw [take_snoc s k 0 hk, valD_append]; rfl
      have hall : (s.take (k + 1)).all isD = true := all_tk 0 hk h2 hd
      generalize hcc : (s.getD k 0).toNat = c at *
      conv => whnf
      repeat' (first
        | (refine ⟨fun hg => ?_, fun hg => ?_⟩ <;> first | contradiction | (conv => whnf))
        | (refine Or.inl ?_; conv => whnf)
        | (refine And.intro ?_ ?_; kernel_rfl; conv => whnf))
      any_goals
        rw [show intS s = (0, false) from by
          unfold intS
          rw [if_neg]
          intro h
          rw [Bool.and_eq_true, decide_eq_true_eq] at h
          first
          | (have := of_decide_eq_true (show decide ((9 : Int) < (s.length : Int)) = true from ‹(bif false then true else decide ((9 : Int) < (s.length : Int))) = true›); omega)
          | (have := of_decide_eq_true (show decide ((57 : Int) < (c : Int)) = true from ‹(bif false then true else decide ((57 : Int) < (c : Int))) = !false›); omega)
          | (have := of_decide_eq_true (show decide ((c : Int) < 48) = true from ‹decide ((c : Int) < 48) = !false›); omega)]
        rfl
      have h9 := of_decide_eq_false (show decide ((9 : Int) < (s.length : Int)) = false from hg)
      have hv := valD_bd (s.take k) 0 0 h2 (Int.le_refl _) (by decide)
      have hp : (10 : Int) ^ (0 + (s.take k).length) ≤ 10 ^ 9 := by
        have : (10 : Nat) ^ (0 + (s.take k).length) ≤ 10 ^ 9 := Nat.pow_le_pow_right (by decide) (by simp; omega)
        exact_mod_cast this
      have hp9 : (10 : Int) ^ 9 = 1000000000 := by decide
      have ew : IntKind.i64.wrap (IntKind.i64.wrap (10 * valD (s.take k) 0) + IntKind.i64.wrap (IntKind.i32.wrap ((c : Int) - 48))) = valD (s.take (k + 1)) 0 := by
        rw [hst, wrap_i32 (by omega) (by omega), wrap_in (n := (c : Int) - 48) (by omega) (by omega), wrap_in (n := 10 * valD (s.take k) 0) (by omega) (by omega), wrap_in (by omega) (by omega)]
      rw [ew]
      exact ⟨k + 1, rfl, rfl, rfl, ⟨hk, hall, fun _ => by omega⟩, by omega⟩
    | false =>
      have hr := rune_no s k hd
      generalize (sdecode s k).1 = r at *
      generalize (sdecode s k).2 = q at *
      have hno : s.all isD = false := all_no 0 hk hd
      conv => whnf
      repeat' (first
        | (refine ⟨fun hg => ?_, fun hg => ?_⟩ <;> first | contradiction | (conv => whnf))
        | (refine Or.inl ?_; conv => whnf)
        | (refine And.intro ?_ ?_; kernel_rfl; conv => whnf))
      any_goals
        rw [show intS s = (0, false) from by
          unfold intS
          rw [hno]; rfl]
        rfl
      exfalso
      have h57 := of_decide_eq_false (show decide ((57 : Int) < (r : Int)) = false from ‹(bif false then true else decide ((57 : Int) < (r : Int))) = false›)
      have h48 := of_decide_eq_false ‹decide ((r : Int) < 48) = false›
      omega
  · have hb : Nat.blt k s.length = false := by
      cases h : Nat.blt k s.length with
      | false => rfl
      | true => exact absurd (Nat.le_of_ble_eq_true h) hk
    have hks : k = s.length := by omega
    subst hks
    dsimp only
    conv => whnf
    generalize hE : evalOp _ _ _ _ = E
    have : E = .ok none (.tuple [.bool false]) [] := by
      rw [← hE]
      show (match Nat.blt s.length s.length with
        | true => Ev.ok none (.tuple [.bool true, DV.int .i64 ((s.length : Nat)), .int .i32 ((sdecode s s.length).1 : Nat)]) [(8, .siter s (s.length + (sdecode s s.length).2))]
        | false => Ev.ok none (.tuple [.bool false]) []) = _
      rw [hb]
    subst this
    clear hE
    rw [List.take_length] at h2
    have hl9 : s.length ≤ 9 := by
      by_cases h0 : 0 < s.length
      · exact h3 h0
      · omega
    have hi : intS s = (valD s 0, decide (s ≠ []) && (decide (s.length = 1) || !decide (s.getD 0 0 = 48))) := by
      unfold intS
      rw [if_pos (by rw [h2, decide_eq_true hl9]; rfl)]
    rw [hi]
    conv => whnf
    repeat' (first
      | (refine ⟨fun hg => ?_, fun hg => ?_⟩ <;> first | contradiction | (conv => whnf))
      | (refine Or.inl ?_; conv => whnf)
      | (refine And.intro ?_ ?_; kernel_rfl; conv => whnf))
    · have h0 : s ≠ [] := of_decide_eq_true (show decide (s ≠ []) = true from ‹decide (s ≠ (⟨#[]⟩ : ByteArray).data.toList) = true›)
      have hl0 := List.length_pos_iff.2 h0
      have hl1 := of_decide_eq_false hg
      refine ⟨⟨by decide, by omega⟩, ?_⟩
      conv => whnf
      repeat' (first
        | (refine ⟨fun hg => ?_, fun hg => ?_⟩ <;> first | contradiction | (conv => whnf))
        | (refine Or.inl ?_; conv => whnf)
        | (refine And.intro ?_ ?_; kernel_rfl; conv => whnf))
      rw [List.take_length, decide_eq_true h0, decide_eq_false (show ¬ s.length = 1 by omega)]
      have h48 : (((s.getD 0 0).toNat : Int) ≠ 48) = ¬ s.getD 0 0 = 48 := by
        apply propext
        have h48 : (48 : UInt8).toNat = 48 := rfl
        exact ⟨fun h e => h (by rw [e]; rfl), fun h e => h (UInt8.toNat_inj.1 (by omega))⟩
      show DV.tuple [DV.int .i64 (valD s 0), .bool (decide (((s.getD 0 0).toNat : Int) ≠ 48))] = .tuple [DV.int .i64 (valD s 0), .bool (!decide (s.getD 0 0 = 48))]
      rw [← decide_not]
      congr 3
      simp only [h48]
    · have h0 : s ≠ [] := of_decide_eq_true (show decide (s ≠ []) = true from ‹decide (s ≠ (⟨#[]⟩ : ByteArray).data.toList) = true›)
      have hl1 := of_decide_eq_true (show decide ((s.length : Int) = 1) = true from hg)
      rw [List.take_length, decide_eq_true h0, decide_eq_true (show s.length = 1 by omega)]; rfl
    · have h0 := of_decide_eq_false (show decide (s ≠ []) = false from hg)
      rw [List.take_length, decide_eq_false h0]; rfl
end Sh


set_option maxRecDepth 100000
set_option linter.unusedSimpArgs false
set_option linter.unusedVariables false
namespace Sh
open Go Go.Proofs
def takO (ws : List (List UInt8)) (wr : Bool) : DObj := .box 2 (.agg [strs ws, .bool wr])
def numT : List (List UInt8) → Int
  | [] => 0
  | w :: _ => (intS w).1
def wrT (wr : Bool) : List (List UInt8) → Bool
  | [] => true
  | w :: _ => bif wr then true else !(intS w).2
theorem window_tail {α β : Type} (f : α → β) (a : α) (l : List α) : window ((a :: l).map f) (Int.toNat 1) (Int.toNat ((((a :: l).map f).length : Int) - 1)) = l.map f := by
  unfold window
  rw [show Int.toNat 1 = 1 from rfl, List.map_cons, List.drop_succ_cons, List.drop_zero, List.take_of_length_le (by simp)]
theorem c_number (ws : List (List UInt8)) (wr : Bool) (h : ∀ w ∈ ws, w.length < 1073741824) : HCall Tryz.prog GC 109 [.bptr 1 0] [(1, takO ws wr)] (DV.int .i64 (numT ws)) [(1, takO (ws.drop 1) (wrT wr ws))] := by
  refine hCall_ofR dh109 rfl (by kernel_rfl) (by kernel_rfl) ?_
  conv => whnf
  cases ws with
  | nil =>
    refine ⟨fun _ => ?_, fun hg => ?_⟩
    · conv => whnf
      exact ⟨rfl, rfl⟩
    · exact absurd hg (by decide)
  | cons w r =>
    have hw := h w (List.mem_cons_self ..)
    refine ⟨fun hg => ?_, fun hg => ?_⟩
    · exfalso
      have := of_decide_eq_true hg
      simp only [List.map_cons, List.length_cons] at this
      omega
    · conv => whnf
      refine ⟨⟨by decide, by simp, rfl⟩, ?_⟩
      repeat' (first
        | (refine ⟨fun hg => ?_, fun hg => ?_⟩ <;> first | contradiction | (conv => whnf))
        | (refine Or.inl ?_; conv => whnf)
        | (refine ⟨_, c_integer w hw, ?_⟩; conv => whnf)
        | (refine And.intro ?_ ?_; kernel_rfl; conv => whnf))
      refine ⟨⟨by decide, by simp; omega, by omega, fun e he => by obtain ⟨x, _, rfl⟩ := List.mem_map.1 he; rfl⟩, ?_⟩
      rw [window_tail]
      conv => whnf
      refine ⟨fun hg => ?_, fun hg => ?_⟩
      · have hg : wr = false := hg
        subst hg
        conv => whnf
        exact ⟨rfl, rfl⟩
      · have hg : wr = true := hg
        subst hg
        conv => whnf
        exact ⟨rfl, rfl⟩
end Sh


set_option maxRecDepth 100000
set_option linter.unusedSimpArgs false
set_option linter.unusedVariables false
namespace Go.Proofs
open Go.Shelf
def Tryz.lays104_ren : Go.Shelf.Ren := ⟨fun | 104 => 107 | 211 => 133 | 207 => 145 | n => n, fun | 9 => 9 | 4 => 4 | 24 => 152 | 3 => 3 | n => n, fun | n => n⟩
theorem Tryz.lays104 : Go.Proofs.Lays.n104 Tryz.prog Tryz.lays104_ren := {
  mixed := by kernel_rfl
  f104 := Tryz.func107.trans (congrArg some (by kernel_rfl))
  f207 := Tryz.func145.trans (congrArg some (by kernel_rfl))
  f211 := Tryz.func133.trans (congrArg some (by kernel_rfl))
  t3 := Tryz.underlying3
  a3 := Tryz.isAgg3
  z3 := Tryz.sizeOf3
  v3 := Tryz.zeroValue3
  t4 := Tryz.underlying4
  a4 := Tryz.isAgg4
  z4 := Tryz.sizeOf4
  v4 := Tryz.zeroValue4
  t9 := Tryz.underlying9
  a9 := Tryz.isAgg9
  z9 := Tryz.sizeOf9
  v9 := Tryz.zeroValue9
  t24 := Tryz.underlying152
  a24 := Tryz.isAgg152
  z24 := Tryz.sizeOf152
  v24 := Tryz.zeroValue152 }
def Tryz.lays137_ren : Go.Shelf.Ren := ⟨fun | 137 => 132 | 217 => 144 | 266 => 156 | n => n, fun | 9 => 9 | 5 => 5 | 3 => 3 | n => n, fun | n => n⟩
theorem Tryz.lays137 : Go.Proofs.Lays.n137 Tryz.prog Tryz.lays137_ren := {
  mixed := by kernel_rfl
  f137 := Tryz.func132.trans (congrArg some (by kernel_rfl))
  f217 := Tryz.func144.trans (congrArg some (by kernel_rfl))
  f266 := Tryz.func156.trans (congrArg some (by kernel_rfl))
  t3 := Tryz.underlying3
  a3 := Tryz.isAgg3
  z3 := Tryz.sizeOf3
  v3 := Tryz.zeroValue3
  t5 := Tryz.underlying5
  a5 := Tryz.isAgg5
  z5 := Tryz.sizeOf5
  v5 := Tryz.zeroValue5
  t9 := Tryz.underlying9
  a9 := Tryz.isAgg9
  z9 := Tryz.sizeOf9
  v9 := Tryz.zeroValue9 }
def Tryz.lays146_ren : Go.Shelf.Ren := ⟨fun | 146 => 108 | 221 => 134 | 268 => 146 | 138 => 147 | 143 => 148 | 195 => 157 | 197 => 158 | 218 => 159 | 219 => 160 | 260 => 166 | 217 => 144 | 225 => 167 | 224 => 168 | 267 => 169 | 266 => 156 | 314 => 172 | n => n, fun | 9 => 9 | 31 => 109 | 3 => 3 | 4 => 4 | 0 => 0 | 105 => 209 | 21 => 21 | 5 => 5 | 46 => 215 | 119 => 218 | 139 => 221 | 138 => 220 | 146 => 222 | 51 => 213 | n => n, fun | 1 => 1 | 3 => 3 | 4 => 4 | n => n⟩
theorem Tryz.lays146 : Go.Proofs.Lays.n146 Tryz.prog Tryz.lays146_ren := {
  mixed := by kernel_rfl
  f138 := Tryz.func147.trans (congrArg some (by kernel_rfl))
  f143 := Tryz.func148.trans (congrArg some (by kernel_rfl))
  f146 := Tryz.func108.trans (congrArg some (by kernel_rfl))
  f195 := Tryz.func157.trans (congrArg some (by kernel_rfl))
  f197 := Tryz.func158.trans (congrArg some (by kernel_rfl))
  f217 := Tryz.func144.trans (congrArg some (by kernel_rfl))
  f218 := Tryz.func159.trans (congrArg some (by kernel_rfl))
  f219 := Tryz.func160.trans (congrArg some (by kernel_rfl))
  f221 := Tryz.func134.trans (congrArg some (by kernel_rfl))
  f224 := Tryz.func168.trans (congrArg some (by kernel_rfl))
  f225 := Tryz.func167.trans (congrArg some (by kernel_rfl))
  f260 := Tryz.func166.trans (congrArg some (by kernel_rfl))
  f266 := Tryz.func156.trans (congrArg some (by kernel_rfl))
  f267 := Tryz.func169.trans (congrArg some (by kernel_rfl))
  f268 := Tryz.func146.trans (congrArg some (by kernel_rfl))
  f314 := Tryz.func172.trans (congrArg some (by kernel_rfl))
  t0 := Tryz.underlying0
  a0 := Tryz.isAgg0
  z0 := Tryz.sizeOf0
  v0 := Tryz.zeroValue0
  t3 := Tryz.underlying3
  a3 := Tryz.isAgg3
  z3 := Tryz.sizeOf3
  v3 := Tryz.zeroValue3
  t4 := Tryz.underlying4
  a4 := Tryz.isAgg4
  z4 := Tryz.sizeOf4
  v4 := Tryz.zeroValue4
  t5 := Tryz.underlying5
  a5 := Tryz.isAgg5
  z5 := Tryz.sizeOf5
  v5 := Tryz.zeroValue5
  t9 := Tryz.underlying9
  a9 := Tryz.isAgg9
  z9 := Tryz.sizeOf9
  v9 := Tryz.zeroValue9
  t21 := Tryz.underlying21
  a21 := Tryz.isAgg21
  z21 := Tryz.sizeOf21
  v21 := Tryz.zeroValue21
  t31 := Tryz.underlying109
  a31 := Tryz.isAgg109
  z31 := Tryz.sizeOf109
  v31 := Tryz.zeroValue109
  t46 := Tryz.underlying215
  a46 := Tryz.isAgg215
  z46 := Tryz.sizeOf215
  v46 := Tryz.zeroValue215
  t51 := Tryz.underlying213
  a51 := Tryz.isAgg213
  z51 := Tryz.sizeOf213
  v51 := Tryz.zeroValue213
  t105 := Tryz.underlying209
  a105 := Tryz.isAgg209
  z105 := Tryz.sizeOf209
  v105 := Tryz.zeroValue209
  t119 := Tryz.underlying218
  a119 := Tryz.isAgg218
  z119 := Tryz.sizeOf218
  t138 := Tryz.underlying220
  a138 := Tryz.isAgg220
  z138 := Tryz.sizeOf220
  v138 := Tryz.zeroValue220
  t139 := Tryz.underlying221
  a139 := Tryz.isAgg221
  z139 := Tryz.sizeOf221
  v139 := Tryz.zeroValue221
  t146 := Tryz.underlying222
  a146 := Tryz.isAgg222
  z146 := Tryz.sizeOf222
  v146 := Tryz.zeroValue222
  g1 := by kernel_rfl
  g3 := by kernel_rfl
  g4 := by kernel_rfl }
theorem Tryz.enters_CutSuffix : Sh.Enters Tryz.prog 107 := enters_of Tryz.lays104.f104 (by kernel_rfl) rfl
theorem Tryz.enters_IndexByte : Sh.Enters Tryz.prog 132 := enters_of Tryz.lays137.f137 (by kernel_rfl) rfl
theorem Tryz.enters_Split : Sh.Enters Tryz.prog 108 := enters_of Tryz.lays146.f146 (by kernel_rfl) rfl
end Go.Proofs
namespace Sh
open Go Go.Proofs
theorem relPs_two {M : Mem} {a b : DV} {vs : Array Value} (h : RelPs M [a, b] vs) : ∃ x y, vs = #[x, y] ∧ RelP M a x ∧ RelP M b y := by
  obtain ⟨r1, r2⟩ := h
  simp only [List.length_cons, List.length_nil] at r1
  refine ⟨vs.getD 0 Go.undef, vs.getD 1 Go.undef, ?_, r2 0 (by simp), r2 1 (by simp)⟩
  apply Array.ext
  · simpa using r1.symm
  · intro i i1 i2
    have : i = 0 ∨ i = 1 := by simp at i2; omega
    rcases this with rfl | rfl <;> simp [Array.getD_eq_getD_getElem?, i1]
theorem relP_str {M : Mem} {s : List UInt8} {v : Value} (h : RelP M (.str s) v) : v = .string ⟨s.toArray⟩ := by cases h; rfl
theorem relP_int {M : Mem} {k : IntKind} {n : Int} {v : Value} (h : RelP M (.int k n) v) : v = .int k n := by cases h; rfl
theorem s_CutSuffix (s p : List UInt8) (hs : s.length ≤ 1073741824) : PC 107 [.str s, .str p] (.tuple [.str (Lib.trimSuffix s p), .bool (Lib.hasSuffix s p)]) := by
  refine pure_of_calls Tryz.enters_CutSuffix (fun M w vs hG hT hM hr => ?_)
  obtain ⟨x, y, rfl, h1, h2⟩ := relPs_two hr
  rw [relP_str h1, relP_str h2]
  refine Calls.mono (Any.strings_CutSuffix Tryz.lays104 ⟨s.toArray⟩ ⟨p.toArray⟩ w (by show s.toArray.size ≤ _; simp; omega)) ?_
  rintro e w' ⟨rfl, rfl⟩
  refine after_flat hM (RowKit.Below.refl _ _) (.tuple _ _ rfl (fun i hi => ?_))
  have hi : i < 2 := hi
  have : i = 0 ∨ i = 1 := by omega
  rcases this with rfl | rfl
  · exact .str _
  · exact .bool _
theorem s_IndexByte (s : List UInt8) (c : UInt8) : PC 132 [.str s, .int .u8 (c.toNat)] (DV.int .i64 (Lib.indexByte s c)) := by
  refine pure_of_calls Tryz.enters_IndexByte (fun M w vs hG hT hM hr => ?_)
  obtain ⟨x, y, rfl, h1, h2⟩ := relPs_two hr
  rw [relP_str h1, relP_int h2]
  refine Calls.mono (Any.strings_IndexByte Tryz.lays137 ⟨s.toArray⟩ (c.toNat : Int) w) ?_
  rintro e w' ⟨rfl, rfl⟩
  have ec : ((c.toNat : Int)).toNat.toUInt8 = c := by simp
  rw [ec]
  exact after_flat hM (RowKit.Below.refl _ _) (.int _ _)
theorem splitK_C (c : UInt8) : ∀ s : List UInt8, Lib.splitK [c] 0 (Lib.count s [c]) s = splitC c s
  | [] => by rw [Lib.count_one]; rfl
  | b :: l => by
    have ih := splitK_C c l
    have hp : ∀ k (s : List UInt8), Lib.splitK [c] 0 (k + 1) s = if Lib.index s [c] == -1 then [s] else s.take ((Lib.index s [c]).toNat + 0) :: Lib.splitK [c] 0 k (s.drop ((Lib.index s [c]).toNat + [c].length)) := fun k s => rfl
    by_cases h : b = c
    · subst h
      rw [Lib.count_cons_eq, Nat.add_comm, hp]
      have hix : Lib.index (b :: l) [b] = 0 := by rw [Lib.index]; simp [List.isPrefixOf]
      rw [hix, splitC, if_pos rfl, ← ih]
      rfl
    · rw [Lib.count_cons_ne b c l h, splitC, if_neg h, ← ih]
      have hpre : ([c] : List UInt8).isPrefixOf (b :: l) = false := by simp [List.isPrefixOf, Ne.symm h]
      have hix : Lib.index (b :: l) [c] = if Lib.index l [c] == -1 then -1 else Lib.index l [c] + 1 := by rw [Lib.index, hpre]; simp
      by_cases hm : Lib.index l [c] = -1
      · rw [Lib.count_miss hm]; rfl
      · have hge := Lib.index_ge l [c]
        obtain ⟨i, hi⟩ : ∃ i : Nat, Lib.index l [c] = i := ⟨(Lib.index l [c]).toNat, by omega⟩
        rw [Lib.count_hit (by simp) hi, Nat.add_comm, hp, hp, hix, hi]
        have hn1 : ((i : Int) == -1) = false := beq_eq_false_iff_ne.2 (by omega)
        have hn2 : ((i : Int) + 1 == -1) = false := beq_eq_false_iff_ne.2 (by omega)
        simp only [hn1, hn2, Bool.false_eq_true, if_false, Int.toNat_natCast, show ((i : Int) + 1).toNat = i + 1 by omega, Nat.add_zero, List.take_succ_cons, glue, List.singleton_append, List.length_cons, List.length_nil]
        rfl
theorem s_Split (s : List UInt8) (c : UInt8) (hs : s.length ≤ 1073741824) : PC 108 [.str s, .str [c]] (strs (splitC c s)) := by
  refine pure_of_calls Tryz.enters_Split (fun M w vs hG hT hM hr => ?_)
  obtain ⟨x, y, rfl, h1, h2⟩ := relPs_two hr
  rw [relP_str h1, relP_str h2]
  obtain ⟨m, hm⟩ := (hT 1 _ rfl).2 rfl
  refine Calls.mono (Any.strings_Split Tryz.lays146 (by kernel_rfl) ⟨s.toArray⟩ ⟨#[c]⟩ m w (by show s.toArray.size < _; simp; omega) hm (Nat.le_refl 1)) ?_
  have hd := Lib.splitB_data ⟨#[c]⟩ 0 (Lib.countB ⟨s.toArray⟩ ⟨#[c]⟩) ⟨s.toArray⟩
  have hd : (Lib.splitB ⟨#[c]⟩ 0 (Lib.countB ⟨s.toArray⟩ ⟨#[c]⟩) ⟨s.toArray⟩).map (·.data.toList) = splitC c s := by
    rw [hd]; exact splitK_C c s
  have hl := Lib.splitB_all ⟨#[c]⟩ (Nat.le_refl 1) 0 _ ⟨s.toArray⟩ rfl
  generalize Lib.splitB ⟨#[c]⟩ 0 (Lib.countB ⟨s.toArray⟩ ⟨#[c]⟩) ⟨s.toArray⟩ = L at *
  rw [← hl, ← hd]
  clear hd hl
  rintro e w' ⟨rfl, rfl⟩
  have hold : ∀ b o v, M b o = some v → b ≠ w.heap.size := fun b o v e e2 => by
    have h1 : b < w.heap.size := World.block_lt_of_cell? (a := ⟨b, o, none⟩) _ (hM b o v e)
    omega
  have hnew : (w.alloc (.cells (L.map Value.string).toArray (Tryz.lays146_ren.t 9))).heap[w.heap.size]? = some (.cells (L.map Value.string).toArray (Tryz.lays146_ren.t 9)) := World.alloc_heap_new w _
  refine ⟨_, fun b o => if b = w.heap.size then (L.map Value.string).toArray[o]? else M b o, rfl, fun b o v e => ?_, fun b o v e => ?_, ?_, (RowKit.Below.refl _ _).alloc (Nat.le_refl _) _, fun b o v e e0 => ?_⟩
  · show (if b = w.heap.size then _ else _) = _
    rw [if_neg (hold b o v e)]; exact e
  · by_cases hb : b = w.heap.size
    · subst hb
      have e : (if w.heap.size = w.heap.size then (L.map Value.string).toArray[o]? else M w.heap.size o) = some v := e
      rw [if_pos rfl] at e
      rw [cell_of_heap hnew]; exact e
    · have e : (if b = w.heap.size then (L.map Value.string).toArray[o]? else M b o) = some v := e
      rw [if_neg hb] at e
      have h1 := hM b o v e
      rw [World.cell?_alloc_old _ _ _ hb]; exact h1
  · have hlen : ((L.map (·.data.toList)).map DV.str).length = L.length := by simp
    have hfl : flat ((L.map (·.data.toList)).map DV.str) = (L.map (·.data.toList)).map DV.str := by
      exact flat_strs _
    have hget : ∀ i, i < L.length → ((L.map (·.data.toList)).map DV.str).getD i .undef = .str (L.getD i ByteArray.empty).data.toList := fun i hi => by simp [List.getD_eq_getElem?_getD, hi]
    have := RelP.list (M := fun b o => if b = w.heap.size then (L.map Value.string).toArray[o]? else M b o) ((L.map (·.data.toList)).map DV.str) (some ⟨w.heap.size, 0, none⟩) L.length 1 w.heap.size 0 (fun i => .string (L.getD i ByteArray.empty)) (by rw [hlen]; exact Nat.le_refl _) (.inr rfl) (fun e he => by
        obtain ⟨x, _, rfl⟩ := List.mem_map.1 he; rfl) (fun i hi => by
        rw [hfl, hlen] at hi
        show (if w.heap.size = w.heap.size then _ else _) = _
        rw [if_pos rfl]; simp [List.getD_eq_getElem?_getD, hi]) (fun i hi => by
        rw [hfl, hlen] at hi
        rw [hfl, hget i hi]
        have e := RelP.str (M := fun b o => if b = w.heap.size then (L.map Value.string).toArray[o]? else M b o) (L.getD i ByteArray.empty).data.toList
        simpa using e)
    rw [hlen] at this
    exact this
  · by_cases hb : b = w.heap.size
    · omega
    · have e : (if b = w.heap.size then (L.map Value.string).toArray[o]? else M b o) = some v := e
      rw [if_neg hb, e0] at e; cases e
end Sh


set_option maxRecDepth 100000
namespace Sh
open Go
def dc106 : DFunc := ⟨4, 1, [(.tmp 2)], (.seq (.ops false [⟨(some 1), (.box 1 (.tmp 0)), none, []⟩, ⟨(some 2), (.mov (.const .nilFunc)), none, []⟩]) (.seq (.ops false [⟨(some 3), (.mkfunc 131 [(.tmp 1)]), none, []⟩, ⟨(some 2), (.mov (.tmp 3)), none, []⟩]) .ret))⟩
theorem dh106 : cProg Go.Proofs.Tryz.prog ⟨[], [], []⟩ 106 = some dc106 := by kernel_rfl
def db131_0 : DC := (.seq (.seq (.ops false [⟨(some 5), (.load none (.tmp 1)), none, []⟩, ⟨(some 6), (.lenS (.tmp 5)), none, []⟩, ⟨(some 7), (.bin .gtr (.tmp 6) (.const (.int .i64 0))), none, []⟩]) (.cond (.tmp 7) .skip (.exit 0))) (.block 1 none (.seq (.ops false [⟨(some 3), (.mov (.const (.string ⟨#[]⟩))), none, []⟩]) (.seq (.seq (.ops false [⟨(some 8), (.load none (.tmp 1)), none, []⟩, ⟨(some 9), (.call (.func 132) [(.tmp 8), (.const (.int .u8 10))]), none, []⟩, ⟨(some 4), (.mov (.tmp 9)), none, []⟩]) (.seq (.ops false [⟨(some 10), (.mov (.tmp 4)), none, []⟩, ⟨(some 11), (.bin .geq (.tmp 10) (.const (.int .i64 0))), none, []⟩]) (.cond (.tmp 11) (.ops true [⟨(some 12), (.load none (.tmp 1)), none, []⟩, ⟨(some 13), (.mov (.tmp 4)), none, []⟩, ⟨(some 14), (.bin .add (.tmp 13) (.const (.int .i64 1))), none, [1]⟩, ⟨(some 15), (.sliceS (.tmp 12) none (some (.tmp 14))), none, [0, 2, 1]⟩, ⟨(some 16), (.load none (.tmp 1)), none, []⟩, ⟨(some 17), (.mov (.tmp 4)), none, []⟩, ⟨(some 18), (.bin .add (.tmp 17) (.const (.int .i64 1))), none, [5]⟩, ⟨(some 19), (.sliceS (.tmp 16) (some (.tmp 18)) none), none, [4, 6, 5]⟩, ⟨(some 3), (.mov (.tmp 15)), none, [3, 0, 2, 1]⟩, ⟨none, (.store 1 (.tmp 1) (.tmp 19)), none, [7, 4, 6, 5, 8, 3, 0, 2, 1]⟩]) (.ops false [⟨(some 20), (.load none (.tmp 1)), none, []⟩, ⟨(some 3), (.mov (.tmp 20)), none, []⟩, ⟨none, (.store 1 (.tmp 1) (.const (.string ⟨#[]⟩))), none, []⟩])))) (.seq (.ops false [⟨(some 21), (.mov (.tmp 0)), none, []⟩, ⟨(some 22), (.mov (.tmp 3)), none, []⟩, ⟨(some 23), (.call (.tmp 21) [(.tmp 22)]), none, []⟩, ⟨(some 24), (.un .not (.tmp 23)), none, []⟩]) (.cond (.tmp 24) .ret .skip))))))
def dk131_0 : Keep := ⟨[], [0, 1], [0, 19]⟩
def dc131 : DFunc := ⟨25, 2, [], (.block 0 (some ⟨[], [], [0, 19]⟩) (.loop dk131_0 db131_0))⟩
theorem dh131 : cProg Go.Proofs.Tryz.prog ⟨[(0, ⟨[], [0, 1], [0, 19]⟩)], [(0, ⟨[], [], [0, 19]⟩)], []⟩ 131 = some dc131 := by kernel_rfl
end Sh


set_option maxRecDepth 100000
set_option linter.unusedSimpArgs false
set_option linter.unusedVariables false
namespace Sh
open Go Go.Proofs
def linesC : List UInt8 → List (List UInt8)
  | [] => []
  | c :: r => if c = 10 then [c] :: linesC r else glue [c] (linesC r)
theorem lines_idx : ∀ s : List UInt8, s ≠ [] → (Lib.indexByte s 10 = -1 ∧ linesC s = [s]) ∨ ∃ i : Nat, Lib.indexByte s 10 = i ∧ i < s.length ∧ linesC s = s.take (i + 1) :: linesC (s.drop (i + 1))
  | [], h => absurd rfl h
  | b :: l, _ => by
    by_cases hb : b = 10
    · subst hb
      exact .inr ⟨0, rfl, by simp, by simp [linesC]⟩
    · have hbe : (b == (10 : UInt8)) = false := beq_eq_false_iff_ne.2 hb
      have e1 : Lib.indexByte (b :: l) 10 = if Lib.indexByte l 10 == -1 then -1 else Lib.indexByte l 10 + 1 := by rw [Lib.indexByte, hbe]; rfl
      have e2 : linesC (b :: l) = glue [b] (linesC l) := by rw [linesC, if_neg hb]
      by_cases hl : l = []
      · subst hl
        exact .inl ⟨by rw [e1]; rfl, by rw [e2]; rfl⟩
      · rcases lines_idx l hl with ⟨h1, h2⟩ | ⟨i, h1, h2, h3⟩
        · exact .inl ⟨by rw [e1, h1]; rfl, by rw [e2, h2]; rfl⟩
        · refine .inr ⟨i + 1, ?_, by simp; omega, ?_⟩
          · have hn : ((i : Int) == -1) = false := beq_eq_false_iff_ne.2 (by omega)
            rw [e1, h1, hn]; simp
          · rw [e2, h3]; rfl
theorem window_take (s : List UInt8) (k : Nat) (h : k ≤ s.length) : window s 0 k = s.take k := by simp [window]
theorem window_drop (s : List UInt8) (k : Nat) : window s k (s.length - k) = s.drop k := by unfold window; rw [List.take_of_length_le (by simp)]
def lns (s : List UInt8) : List (List DV) := (linesC s).map fun l => [DV.str l]
theorem linesIt (s : List UInt8) (hs : s.length < 1073741824) : ISeqW Tryz.prog GC 131 [.bptr 19 0] [(19, .box 1 (.str s))] (lns s) := by
  refine iseqW_of dh131 rfl rfl (by kernel_rfl) rfl (fun x hx => by obtain ⟨v, _, rfl⟩ := List.mem_map.1 hx; rfl) (fun gl => ?_)
  conv => whnf
  refine dwp_loopY (P := Tryz.prog) (G := GC) (k := dk131_0) (b := db131_0) (α := List UInt8) (fun r => [(0, .dict 0), (1, .bptr 19 0)]) (fun r => [(0, .ghost (lns r) true gl), (19, .box 1 (.str r))]) (fun r => r.length < 1073741824) (fun r => r.length) s ⟨rfl, rfl, rfl⟩ hs ?_
  intro r hr
  conv => whnf
  refine ⟨fun hb => ?_, fun hb => ?_⟩
  · have hl : 0 < r.length := by have : (0 : Int) < r.length := of_decide_eq_true hb; omega
    clear hb
    have hix := lines_idx r (List.length_pos_iff.1 hl)
    conv => whnf
    repeat' (first
      | (refine ⟨fun hg => ?_, fun hg => ?_⟩ <;> first | contradiction | (conv => whnf))
      | (refine Or.inl ?_; conv => whnf)
      | (refine ⟨_, s_IndexByte r 10, ?_⟩; conv => whnf)
      | (refine And.intro ?_ ?_; kernel_rfl; conv => whnf))
    · have hg : 0 ≤ Lib.indexByte r 10 := of_decide_eq_true hg
      obtain ⟨i, h1, h2, h3⟩ : ∃ i : Nat, Lib.indexByte r 10 = i ∧ i < r.length ∧ linesC r = r.take (i + 1) :: linesC (r.drop (i + 1)) := by
        rcases hix with ⟨h1, _⟩ | h
        · omega
        · exact h
      have hL : lns r = [DV.str (r.take (i + 1))] :: lns (r.drop (i + 1)) := by unfold lns; rw [h3]; rfl
      have hdl : (r.drop (i + 1)).length < r.length := by simp; omega
      rw [hL, h1, wrap_succ i (by omega)]
      refine ⟨⟨by decide, by omega, by omega⟩, ?_⟩
      rw [show (((i + 1 : Nat) : Int) - 0).toNat = i + 1 by omega, show Int.toNat 0 = 0 from rfl, window_take r (i + 1) (by omega)]
      conv => whnf
      rw [wrap_succ i (by omega)]
      refine ⟨⟨by omega, by omega, by omega⟩, ?_⟩
      rw [show ((r.length : Int) - ((i + 1 : Nat) : Int)).toNat = r.length - (i + 1) by omega, Int.toNat_natCast, window_drop]
      conv => whnf
      generalize r.take (i + 1) = u at *
      generalize r.drop (i + 1) = q at *
      refine ⟨?_, ?_⟩
      · kernel_rfl
      conv => whnf
      refine ⟨rfl, fun b => ?_⟩
      conv => whnf
      refine ⟨fun hg => ?_, fun hg => ?_⟩
      · have hg : b = false := by simpa using hg
        subst hg
        conv => whnf
        intro e; cases e
      · have hg : b = true := by simpa using hg
        subst hg
        conv => whnf
        exact ⟨q, rfl, rfl, rfl, by omega, hdl⟩
    · have hg : ¬ 0 ≤ Lib.indexByte r 10 := of_decide_eq_false hg
      have h3 : linesC r = [r] := by
        rcases hix with ⟨_, h⟩ | ⟨i, h1, _⟩
        · exact h
        · omega
      have hL : lns r = [DV.str r] :: lns [] := by unfold lns; rw [h3]; rfl
      rw [hL]
      refine ⟨rfl, fun b => ?_⟩
      conv => whnf
      refine ⟨fun hg => ?_, fun hg => ?_⟩
      · have hg : b = false := by simpa using hg
        subst hg
        conv => whnf
        intro e; cases e
      · have hg : b = true := by simpa using hg
        subst hg
        conv => whnf
        exact ⟨[], rfl, rfl, rfl, by simp, hl⟩
  · have hl : r = [] := by have : ¬ (0 : Int) < r.length := of_decide_eq_false hb; exact List.eq_nil_of_length_eq_zero (by omega)
    subst hl
    conv => whnf
    intro _
    rfl
theorem s_Lines (s : List UInt8) : HCall Tryz.prog GC 106 [.str s] [] (.func 131 [.bptr 1 0]) [(1, .box 1 (.str s))] := by
  refine hCall_ofR dh106 rfl (by kernel_rfl) (by kernel_rfl) ?_
  conv => whnf
  exact ⟨rfl, rfl⟩
end Sh


set_option linter.unusedSimpArgs false
set_option linter.unusedVariables false
namespace Sh
open Go
def linesOf : List (List UInt8) → List (List UInt8)
  | [] => []
  | [l] => if l = [] then [] else [l]
  | h :: t => (h ++ [10]) :: linesOf t
theorem linesOf_cons (h : List UInt8) {t : List (List UInt8)} (ht : t ≠ []) : linesOf (h :: t) = (h ++ [10]) :: linesOf t := by
  cases t with
  | nil => exact absurd rfl ht
  | cons a r => rfl
theorem lines_split : ∀ s : List UInt8, linesC s = linesOf (splitC 10 s)
  | [] => rfl
  | c :: r => by
    have ih := lines_split r
    have hn := splitC_ne 10 r
    unfold linesC splitC
    by_cases h : c = 10
    · rw [if_pos h, if_pos h, linesOf_cons _ hn, ih, h]; rfl
    · rw [if_neg h, if_neg h, ih]
      cases hs : splitC 10 r with
      | nil => exact absurd hs hn
      | cons a t =>
        cases t with
        | nil =>
          simp only [linesOf, glue]
          by_cases ha : a = []
          · subst ha; rfl
          · rw [if_neg ha]; rfl
        | cons b u =>
          show glue [c] ((a ++ [10]) :: linesOf (b :: u)) = (([c] ++ a) ++ [10]) :: linesOf (b :: u)
          simp [glue]
theorem linesOf_len : ∀ (rows : List (List UInt8)) (m : Nat), rows.length = m + 1 → (linesOf rows).length = m + (if rows.getD m [] = [] then 0 else 1)
  | [], m, h => by simp at h
  | [l], m, h => by
    have : m = 0 := by simp at h; omega
    subst this
    unfold linesOf
    by_cases hl : l = [] <;> simp [hl]
  | h :: a :: t, m, hm => by
    obtain ⟨k, rfl⟩ : ∃ k, m = k + 1 := ⟨m - 1, by simp at hm; omega⟩
    have := linesOf_len (a :: t) k (by simpa using hm)
    rw [linesOf_cons h (by simp), List.length_cons, this]
    simp only [List.getD_cons_succ]; omega
theorem linesOf_get : ∀ (rows : List (List UInt8)) (m i : Nat), rows.length = m + 1 → i < m → (linesOf rows).getD i [] = rows.getD i [] ++ [10]
  | [], m, i, h, _ => by simp at h
  | [l], m, i, h, hi => by simp at h; omega
  | h :: a :: t, m, i, hm, hi => by
    obtain ⟨k, rfl⟩ : ∃ k, m = k + 1 := ⟨m - 1, by omega⟩
    rw [linesOf_cons h (by simp)]
    cases i with
    | zero => rfl
    | succ i =>
      rw [List.getD_cons_succ, List.getD_cons_succ]
      exact linesOf_get (a :: t) k i (by simpa using hm) (by omega)
theorem linesOf_last : ∀ (rows : List (List UInt8)) (m : Nat), rows.length = m + 1 → rows.getD m [] ≠ [] → (linesOf rows).getD m [] = rows.getD m []
  | [], m, h, _ => by simp at h
  | [l], m, h, hl => by
    have : m = 0 := by simp at h; omega
    subst this
    have hl : l ≠ [] := hl
    unfold linesOf
    rw [if_neg hl]
  | h :: a :: t, m, hm, hl => by
    obtain ⟨k, rfl⟩ : ∃ k, m = k + 1 := ⟨m - 1, by simp at hm; omega⟩
    rw [linesOf_cons h (by simp)]
    exact linesOf_last (a :: t) k (by simpa using hm) hl
theorem splitC_not (b : UInt8) : ∀ (s : List UInt8), ∀ x ∈ splitC b s, b ∉ x
  | [], x, hx => by simp [splitC] at hx; subst hx; simp
  | c :: r, x, hx => by
    have ih := splitC_not b r
    unfold splitC at hx
    by_cases h : c = b
    · rw [if_pos h] at hx
      rcases List.mem_cons.1 hx with rfl | hx
      · simp
      · exact ih x hx
    · rw [if_neg h] at hx
      cases hs : splitC b r with
      | nil => exact absurd hs (splitC_ne b r)
      | cons a t =>
        rw [hs] at hx ih
        simp only [glue] at hx
        rcases List.mem_cons.1 hx with rfl | hx
        · have := ih a (List.mem_cons_self ..)
          simp only [List.cons_append, List.nil_append, List.mem_cons, not_or]
          exact ⟨fun e => h e.symm, this⟩
        · exact ih x (List.mem_cons_of_mem _ hx)
theorem cut_yes (l : List UInt8) : Lib.trimSuffix (l ++ [10]) [10] = l ∧ Lib.hasSuffix (l ++ [10]) [10] = true := by
  have h : Lib.hasSuffix (l ++ [10]) [10] = true := by unfold Lib.hasSuffix; simp
  refine ⟨?_, h⟩
  unfold Lib.trimSuffix
  rw [if_pos h]; simp
theorem cut_no (l : List UInt8) (h : (10 : UInt8) ∉ l) : Lib.trimSuffix l [10] = l ∧ Lib.hasSuffix l [10] = false := by
  have h2 : Lib.hasSuffix l [10] = false := by
    cases e : Lib.hasSuffix l [10] with
    | false => rfl
    | true =>
      unfold Lib.hasSuffix at e
      rw [List.isSuffixOf_iff_suffix] at e
      obtain ⟨t, rfl⟩ := e
      exact absurd (by simp : (10 : UInt8) ∈ t ++ [10]) h
  refine ⟨?_, h2⟩
  unfold Lib.trimSuffix
  rw [h2]; rfl
def wrK (D : List (List UInt8)) : Nat → Bool
  | 0 => false
  | k + 1 => wrT (wrK D k) (D.drop k)
def numK (D : List (List UInt8)) (k : Nat) : Int := numT (D.drop k)
theorem wrK_false : ∀ {D : List (List UInt8)} {k : Nat}, wrK D k = false ↔ k ≤ D.length ∧ (D.take k).all (fun x => (intS x).2) = true
  | D, 0 => by simp [wrK]
  | D, k + 1 => by
    have ih := wrK_false (D := D) (k := k)
    by_cases hk : k < D.length
    · have hd := drop_getD D k [] hk
      have e1 : wrK D (k + 1) = (bif wrK D k then true else !(intS (D.getD k [])).2) := by rw [wrK, hd]; rfl
      have e2 : (D.take (k + 1)).all (fun x => (intS x).2) = ((D.take k).all (fun x => (intS x).2) && (intS (D.getD k [])).2) := by
        rw [take_snoc D k [] hk, List.all_append]; simp [List.all]
      rw [e1, e2]
      cases hw : wrK D k with
      | true =>
        refine ⟨fun h => Bool.noConfusion h, fun h => ?_⟩
        rw [Bool.and_eq_true] at h
        have := ih.2 ⟨by omega, h.2.1⟩
        rw [hw] at this; cases this
      | false =>
        have h1 := ih.1 hw
        rw [h1.2]
        cases (intS (D.getD k [])).2 <;> simp <;> omega
    · refine ⟨fun h => ?_, fun h => by omega⟩
      have : D.drop k = [] := List.drop_eq_nil_iff.2 (by omega)
      rw [wrK, this] at h; cases h
def ptK (D : List (List UInt8)) (j : Nat) : List Pt := rng j fun t => ⟨numK D (2 + 2 * t), numK D (2 + 2 * t + 1)⟩
theorem ptK_succ (D : List (List UInt8)) (j : Nat) : ptK D (j + 1) = ptK D j ++ [⟨numK D (2 + 2 * j), numK D (2 + 2 * j + 1)⟩] := rng_succ _ _
theorem ptK_len (D : List (List UInt8)) (j : Nat) : (ptK D j).length = j := rng_len _ _
theorem all_int (l : List (List UInt8)) : l.all (fun x => (intS x).2) = l.all (fun x => (digS x).2) := by
  congr 1; funext x; exact (intS_dig x).1
theorem numK_get {D : List (List UInt8)} (h : D.all (fun x => (intS x).2) = true) {k : Nat} (hk : k < D.length) : numK D k = (digS (D.getD k [])).1 := by
  have h1 : (intS (D.getD k [])).2 = true := List.all_eq_true.1 h _ (getD_in [] hk)
  unfold numK
  rw [drop_getD D k [] hk]
  show (intS (D.getD k [])).1 = _
  exact (intS_dig _).2 (by rw [← (intS_dig _).1]; exact h1)
theorem ptsW_rng : ∀ (j : Nat) (f : Nat → Int), ptsW (rng (2 * j) f) = rng j fun t => ⟨f (2 * t), f (2 * t + 1)⟩
  | 0, f => rfl
  | j + 1, f => by
    have e1 : rng (2 * (j + 1)) f = f 0 :: f 1 :: rng (2 * j) (fun t => f (t + 2)) := by
      unfold rng
      rw [show 2 * (j + 1) = 2 * j + 1 + 1 by omega, List.range_succ_eq_map, List.range_succ_eq_map]
      simp [Function.comp_def]
    have e2 : rng (j + 1) (fun t => (⟨f (2 * t), f (2 * t + 1)⟩ : Pt)) = ⟨f 0, f 1⟩ :: rng j (fun t => ⟨f (2 * t + 2), f (2 * t + 1 + 2)⟩) := by
      unfold rng
      rw [List.range_succ_eq_map]
      simp [Function.comp_def, Nat.mul_add]
      try (intro a _; constructor <;> congr 1 <;> omega)
    rw [e1, e2]
    simp only [ptsW]
    rw [ptsW_rng j (fun t => f (t + 2))]
theorem cel_read (w : List (List UInt8)) (j : Nat) (h1 : (w.drop 1).length ≤ 2 + 2 * j) (h2 : wrK (w.drop 1) (2 + 2 * j) = false) : celW w = ⟨ptK (w.drop 1) j, numK (w.drop 1) 0, numK (w.drop 1) 1⟩ := by
  obtain ⟨h3, h4⟩ := wrK_false.1 h2
  have hl : (w.drop 1).length = 2 + 2 * j := by omega
  rw [List.take_of_length_le (by omega)] at h4
  have hnum : numsW w = rng (2 + 2 * j) (numK (w.drop 1)) := by
    show (w.drop 1).map (fun x => (digS x).1) = (List.range (2 + 2 * j)).map (numK (w.drop 1))
    apply List.ext_getElem
    · rw [List.length_map, List.length_map, List.length_range]; exact hl
    · intro i i1 i2
      have hi : i < (w.drop 1).length := by rw [List.length_map] at i1; exact i1
      have e := numK_get h4 hi
      rw [List.getElem_map, List.getElem_map, List.getElem_range, e, List.getD_eq_getElem?_getD, List.getElem?_eq_getElem hi]
      rfl
  unfold celW
  rw [hnum]
  have hg : ∀ i, i < 2 + 2 * j → (rng (2 + 2 * j) (numK (w.drop 1))).getD i 0 = numK (w.drop 1) i := fun i hi => rng_getD _ _ hi
  rw [hg 0 (by omega), hg 1 (by omega)]
  congr 1
  have hd : (rng (2 + 2 * j) (numK (w.drop 1))).drop 2 = rng (2 * j) (fun t => numK (w.drop 1) (t + 2)) := by
    unfold rng
    rw [show 2 + 2 * j = 2 * j + 1 + 1 by omega, List.range_succ_eq_map, List.range_succ_eq_map]
    simp [Function.comp_def]
  rw [hd, ptsW_rng]
  unfold ptK
  congr 1
  funext t
  congr 1 <;> (congr 1; omega)
theorem wrong_read (w : List (List UInt8)) (j : Nat) (h1 : (w.drop 1).length ≤ 2 + 2 * j) (h0 : j = 0 ∨ 2 * j < (w.drop 1).length) : wrongW w = (decide (w.getD 0 [] ≠ [99, 101, 108, 108]) || wrK (w.drop 1) (2 + 2 * j)) := by
  unfold wrongW badW
  have hl : (w.drop 1).length = w.length - 1 := List.length_drop ..
  cases hw : wrK (w.drop 1) (2 + 2 * j) with
  | false =>
    obtain ⟨h3, h4⟩ := wrK_false.1 hw
    rw [List.take_of_length_le (by omega), all_int] at h4
    rw [h4, decide_eq_false (show ¬ w.length < 3 by omega), decide_eq_false (show ¬ w.length % 2 ≠ 1 by omega)]
    simp
  | true =>
    rw [Bool.or_true]
    by_cases h5 : w.length < 3
    · rw [decide_eq_true h5]; rfl
    by_cases h6 : w.length % 2 ≠ 1
    · rw [decide_eq_true h6, Bool.true_or, Bool.or_true]; rfl
    have h7 : (w.drop 1).all (fun x => (digS x).2) = false := by
      cases h8 : (w.drop 1).all (fun x => (digS x).2) with
      | false => rfl
      | true =>
        have := (wrK_false (D := w.drop 1) (k := 2 + 2 * j)).2 ⟨by omega, by rw [List.take_of_length_le (by omega), all_int]; exact h8⟩
        rw [hw] at this; cases this
    rw [h7]; simp
end Sh

