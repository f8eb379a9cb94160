/-
  Chapter 4's functions, walked over pure data: the library of the walk, the functions' code over data, and what each computes. (part 7)
-/
import Derived.Test.YtbkginjiknnobaaGreatDoorP6
import Derived.Test.YtbkginjiknnobaaGreatDoorProg
import Derived.Test.YtbkginjiknnobaaGreatDoorRows
import Derived.Test.YtbkginjiknnobaaGreatDoorCards
import Derived.Test.YtbkginjiknnobaaGreatDoorTie
import Derived.ProofKit
import Derived.Carry
import Derived.ChangeSame
import Derived.OpenShut
import Derived.Stop.Joined
import Derived.Deep.DeepHandedRow
import Derived.Lib.LaidTab
import Derived.MakeChecks
import Derived.LaidSub
import Derived.LaidHandle
set_option linter.unusedVariables false
set_option linter.unusedSimpArgs false
/-! The reference's ShortField and Mismatch. -/
set_option maxRecDepth 100000
set_option linter.unusedSimpArgs false
set_option linter.unusedVariables false
namespace Sh
open Go Go.Proofs
def shortFN (n : Nat) : Bool := !(decide (4 < n) && !decide (n = 7))
def lenT (f : List (List Cel)) (i : Nat) : Int := sumI ((f.take i).map fun l => (l.length : Int))
theorem lenT_succ (f : List (List Cel)) (i : Nat) (h : i < f.length) : lenT f (i + 1) = lenT f i + (f.getD i []).length := by
  unfold lenT; rw [take_map_succ _ f i [] h, sumI_append, sumI_one]
def shortF (f : List (List Cel)) : Bool := shortFN f.length && (f.all shortC && decide (lenT f f.length ≤ 24))
theorem shortC_len {l : List Cel} (h : shortC l = true) : l.length ≤ 9 := (shortC_spec h).1
theorem lenT_bd {f : List (List Cel)} {i : Nat} (h : (f.take i).all shortC = true) : 0 ≤ lenT f i ∧ lenT f i ≤ 9 * i := by
  have h1 := sumI_bd (l := (f.take i).map fun l => (l.length : Int)) (A := 0) (B := 9) (fun x hx => by
    obtain ⟨l, hl, rfl⟩ := List.mem_map.1 hx
    have := shortC_len (List.all_eq_true.1 h l hl)
    omega)
  have h2 : ((f.take i).map fun l => (l.length : Int)).length ≤ i := by simp; omega
  unfold lenT
  omega
theorem r_ShortField (f : List (List Cel)) : PC 38 [fld f] (.bool (shortF f)) := by
  have e0 : ((f.map chn).length : Int) = f.length := by simp
  refine pureCall_ofR dh38 rfl ?_
  conv => whnf
  repeat' (first
    | (refine ⟨fun hg => ?_, fun hg => ?_⟩ <;> first | contradiction | (conv => whnf))
    | (refine Or.inl ?_; conv => whnf)
    | (refine And.intro ?_ ?_; kernel_rfl; conv => whnf))
  · rw [e0] at *
    refine bool_eq ?_
    symm
    rename_i hq
    have hq := of_decide_eq_true hq
    have hg := of_decide_eq_true hg
    have : shortFN f.length = false := by simp only [shortFN]; simp; omega
    unfold shortF; rw [this]; rfl
  all_goals
    have hk : shortFN f.length = true := by
      rename_i hq
      rw [e0] at *
      have hq : ¬ ((4 : Int) < f.length ∧ ¬ ((f.length : Int) = 7)) := by simp at hq hg; omega
      simp only [shortFN]; simp; omega
  all_goals have h7 : f.length ≤ 7 := by (simp only [shortFN] at hk; simp at hk; omega)
  all_goals refine dwp_loopR (P := Tryz.prog) (G := GC) (k := dk38_0) (b := db38_0) (α := Nat) (fun i => [(0, fld f), (3, DV.int .i64 (lenT f i)), (4, DV.int .i64 (i))]) (fun _ => []) (fun i => i ≤ f.length ∧ (f.take i).all shortC = true) (fun i => f.length - i) 0 ⟨rfl, rfl, rfl⟩ ⟨Nat.zero_le _, rfl⟩ ?_
  all_goals intro i ⟨h1, h2⟩
  all_goals have hb2 := lenT_bd h2
  all_goals conv => whnf
  all_goals refine ⟨fun hb => ?_, fun hb => ?_⟩
  any_goals
    have hi : i < f.length := by simpa using hb
    have e1 : (((f.getD i []).map encC).length : Int) = (f.getD i []).length := by simp
    conv => whnf
    rw [getD_enc _ _ (i) [] hi]
    refine ⟨idxA hi rfl, ?_⟩
    conv => whnf
    rw [getD_enc _ _ (i) [] hi]
    refine ⟨idxA hi rfl, ?_⟩
    conv => whnf
    repeat' (first
      | (refine ⟨fun hg => ?_, fun hg => ?_⟩ <;> first | contradiction | (conv => whnf))
      | (refine Or.inl ?_; conv => whnf)
      | (refine ⟨_, r_ShortChain .., ?_⟩; conv => whnf)
      | (refine And.intro ?_ ?_; kernel_rfl; conv => whnf))
    · have hg : shortC (f.getD i []) = false := by simpa using hg
      refine bool_eq ?_
      unfold shortF
      rw [all_not _ f i [] hi hg, Bool.false_and, Bool.and_false]
    · have hg : shortC (f.getD i []) = true := by simpa using hg
      have hq := shortC_len hg
      rw [wrap_succ i (by omega)]
      refine ⟨i + 1, rfl, ?_, rfl, ⟨hi, all_take _ f i [] hi h2 hg⟩, by omega⟩
      show [(0, fld f), (3, DV.int .i64 (IntKind.i64.wrap (lenT f i + (((f.getD i []).map encC).length : Int)))), _] = _
      rw [e1, wrap_W, W_in (by omega) (by omega), ← lenT_succ f i hi]; rfl
  all_goals
    have hi : i = f.length := by have := of_decide_eq_false hb; rw [e0] at this; omega
    conv => whnf
    refine bool_eq ?_
    rw [hi, List.take_length] at h2
    unfold shortF
    rw [hk, h2, hi]; rfl
theorem shortF_spec {f : List (List Cel)} (h : shortF f = true) : f.length ≤ 7 ∧ (∀ l ∈ f, shortC l = true) ∧ LenF f := by
  unfold shortF at h
  rw [Bool.and_eq_true, Bool.and_eq_true] at h
  have h7 : f.length ≤ 7 := by
    have := h.1
    simp only [shortFN] at this
    simp at this
    omega
  have hA := List.all_eq_true.1 h.2.1
  refine ⟨h7, hA, by omega, fun l hl => ?_⟩
  have := shortC_spec (hA l hl)
  exact ⟨by omega, fun c hc => by have := this.2 c hc; omega⟩
theorem r_Mismatch (f : List (List Cel)) (hF : OkF f) : PC 48 [fld f] (DV.int .i64 (misF f)) := by
  have e0 : ((f.map chn).length : Int) = f.length := by simp
  have hm := hiF_bd hF
  have hfl := hF.2.1
  have hok := crv_ok hF
  refine pureCall_ofR dh48 rfl ?_
  conv => whnf
  repeat' (first
    | (refine ⟨fun hg => ?_, fun hg => ?_⟩ <;> first | contradiction | (conv => whnf))
    | (refine Or.inl ?_; conv => whnf)
    | (refine ⟨_, r_Curve f hF, ?_⟩; conv => whnf)
    | (refine ⟨_, r_Highest _ hok.1 hok.2, ?_⟩; conv => whnf)
    | (refine And.intro ?_ ?_; kernel_rfl; conv => whnf))
  refine dwp_loopR (P := Tryz.prog) (G := GC) (k := dk48_0) (b := db48_0) (α := Nat) (fun i => [(0, fld f), (4, DV.int .i64 ((hiF f).2)), (5, DV.int .i64 (misT f i)), (6, DV.int .i64 (i))]) (fun _ => []) (fun i => i ≤ f.length) (fun i => f.length - i) 0 ⟨rfl, rfl, rfl⟩ (Nat.zero_le _) ?_
  intro i h1
  have hb1 := misT_bd hF i
  conv => whnf
  refine ⟨fun hb => ?_, fun hb => ?_⟩
  · have hi : i < f.length := by simpa using hb
    have hmem := getD_in [] hi
    have hO := hF.one hmem
    have hb2 := hiF_bd hO
    have hok2 := crv_ok hO
    conv => whnf
    rw [wrap_succ i (by omega)]
    have hwin : window (f.map chn) (Int.toNat (i : Int)) (Int.toNat (((i + 1 : Nat) : Int) - (i : Int))) = [f.getD i []].map chn := by
      rw [show Int.toNat (((i + 1 : Nat) : Int) - (i : Int)) = 1 by omega, Int.toNat_natCast]
      unfold window
      rw [drop_getD (f.map chn) i (chn []) (by simpa using hi)]
      simp [List.getD_eq_getElem?_getD, hi]
    rw [hwin]
    refine ⟨⟨by omega, by omega, by rw [e0]; omega, fun e he => by obtain ⟨l, _, rfl⟩ := List.mem_map.1 he; rfl⟩, ?_⟩
    conv => whnf
    repeat' (first
      | (refine ⟨fun hg => ?_, fun hg => ?_⟩ <;> first | contradiction | (conv => whnf))
      | (refine Or.inl ?_; conv => whnf)
      | (refine ⟨_, r_Curve _ hO, ?_⟩; conv => whnf)
      | (refine ⟨_, r_Highest _ hok2.1 hok2.2, ?_⟩; conv => whnf)
      | (refine And.intro ?_ ?_; kernel_rfl; conv => whnf))
    rw [wrap_succ i (by omega)]
    refine ⟨i + 1, rfl, ?_, rfl, hi, by omega⟩
    have hh : (pw (crv [f.getD i []]) (hiA (crv [f.getD i []]) (crv [f.getD i []]).length)).2 = (hiF [f.getD i []]).2 := rfl
    rw [hh, show IntKind.i64.wrap (misT f i + (hiF [f.getD i []]).2) = misT f (i + 1) from (W_in (by omega) (by omega)).trans (misT_succ f i hi).symm]
    rfl
  · have hi : i = f.length := by have := of_decide_eq_false hb; rw [e0] at this; omega
    conv => whnf
    refine int_eq ?_
    rw [hi] at hb1 ⊢
    rw [wrap_W, W_in (by omega) (by omega)]; rfl
end Sh

/-! The reference's CheckCuts and Proves. -/
set_option maxRecDepth 100000
set_option linter.unusedSimpArgs false
set_option linter.unusedVariables false
namespace Sh
open Go Go.Proofs
def cutsR (L cuts : List Int) : Int := if countE cuts.length 801 ≠ 0 then countE cuts.length 801 else cutsE L.length true (-1) cuts
theorem r_CheckCuts (L cuts : List Int) (hLn : L ≠ []) (hL : L.length ≤ 1000) : PC 61 [iL L, iL cuts] (DV.int .i64 (cutsR L cuts)) := by
  have e0 : ((cuts.map (DV.int .i64)).length : Int) = cuts.length := by simp
  have e1 : ((L.map (DV.int .i64)).length : Int) = L.length := by simp
  have hpos := List.length_pos_iff.2 hLn
  refine pureCall_ofR dh61 rfl ?_
  conv => whnf
  repeat' (first
    | (refine ⟨fun hg => ?_, fun hg => ?_⟩ <;> first | contradiction | (conv => whnf))
    | (refine Or.inl ?_; conv => whnf)
    | (refine ⟨_, q_When .., ?_⟩; conv => whnf)
    | (refine ⟨_, q_First [_, _] (by simp), ?_⟩; conv => whnf)
    | (refine And.intro ?_ ?_; kernel_rfl; conv => whnf))
  · have hg := of_decide_eq_true hg
    exact int_eq (by rw [e0] at hg ⊢; unfold cutsR countE; rw [if_pos hg])
  · have hg := of_decide_eq_false hg
    have hc : countE cuts.length 801 = 0 := by rw [e0] at hg; exact Classical.not_not.1 hg
    have hcl := countE_zero hc
    have ek : cutsR L cuts = cutsE L.length true (-1) cuts := by unfold cutsR; rw [if_neg (by omega)]
    rw [ek]
    clear ek hg hc
    refine dwp_loopR (P := Tryz.prog) (G := GC) (k := dk61_0) (b := db61_0) (α := Nat) (fun i => [(0, iL L), (1, iL cuts), (6, DV.int .i64 (i))]) (fun _ => []) (fun i => i ≤ cuts.length ∧ cutsE L.length true (-1) cuts = cutsE L.length (decide (i = 0)) (befI cuts i) (cuts.drop i)) (fun i => cuts.length - i) 0 ⟨rfl, rfl, rfl⟩ ⟨Nat.zero_le _, rfl⟩ ?_
    intro i ⟨h1, h2⟩
    conv => whnf
    refine ⟨fun hb => ?_, fun hb => ?_⟩
    · have hi : i < cuts.length := by simpa using hb
      have hs : cutsE L.length true (-1) cuts = if cutStep L.length (decide (i = 0)) (befI cuts i) (cuts.getD i 0) ≠ 0 then cutStep L.length (decide (i = 0)) (befI cuts i) (cuts.getD i 0) else cutsE L.length false (cuts.getD i 0) (cuts.drop (i + 1)) := by rw [h2, drop_getD cuts i 0 hi]; rfl
      have w1 : IntKind.i64.wrap (((L.map (DV.int .i64)).length : Int) - 1) = (L.length : Int) - 1 := by rw [e1, wrap_W, W_in (by omega) (by omega)]
      have hbf : 0 < i → befI cuts i = cuts.getD (i - 1) 0 := befI_pos cuts i
      clear hb
      conv => whnf
      rw [getD_enc _ _ (i) 0 hi]
      refine ⟨idxA hi rfl, ?_⟩
      conv => whnf
      rw [w1]
      repeat' (first
        | (refine ⟨fun hg => ?_, fun hg => ?_⟩ <;> first | contradiction | (conv => whnf))
        | (refine Or.inl ?_; conv => whnf)
        | (refine ⟨_, q_CheckRange .., ?_⟩; conv => whnf)
        | (rw [getD_enc _ _ (i) 0 hi]; refine ⟨idxA hi rfl, ?_⟩; conv => whnf)
        | (rw [wrap_pred i (by simp only [decide_eq_true_eq, Int.natCast_pos] at *; omega) (by omega), getD_enc _ _ (i - 1) 0 (by omega)]; refine ⟨idxA (by omega) rfl, ?_⟩; conv => whnf)
        | (refine And.intro ?_ ?_; kernel_rfl; conv => whnf))
      all_goals (try rw [wrap_succ i (by omega)])
      all_goals first
        | (refine ⟨i + 1, rfl, rfl, rfl, ⟨hi, ?_⟩, Nat.sub_lt_sub_left hi (Nat.lt_succ_self i)⟩; rw [hs]; clear hs h2 h1; simp only [Bool.cond_true, Bool.cond_false, Bool.not_false, Bool.not_true, decide_eq_true_eq, decide_eq_false_iff_not, Int.natCast_eq_zero, Int.natCast_pos] at *; grind [cutStep, befI, firstE, whenE, withE])
        | (refine int_eq ?_; rw [hs]; clear hs h2 h1; simp only [Bool.cond_true, Bool.cond_false, Bool.not_false, Bool.not_true, decide_eq_true_eq, decide_eq_false_iff_not, Int.natCast_eq_zero, Int.natCast_pos] at *; grind [cutStep, firstE, whenE, withE])
        | trace_state
    · have hi : i = cuts.length := by have := of_decide_eq_false hb; rw [e0] at this; omega
      rw [hi, List.drop_length] at h2
      conv => whnf
      exact int_eq (by rw [h2]; rfl)
theorem r_Proves (L cuts : List Int) (p : Int) (hok : OkL L) (hLn : L ≠ []) (hin : InR L cuts) (hcl : cuts.length ≤ 1000) : PC 63 [iL L, DV.int .i64 (p), iL cuts] (.bool (provB L p cuts)) := by
  have e0 : ((cuts.map (DV.int .i64)).length : Int) = cuts.length := by simp
  have e1 : ((L.map (DV.int .i64)).length : Int) = L.length := by simp
  have hpos := List.length_pos_iff.2 hLn
  have hlen := hok.1
  refine pureCall_ofR dh63 rfl ?_
  conv => whnf
  refine dwp_loopR (P := Tryz.prog) (G := GC) (k := dk63_0) (b := db63_0) (α := Nat) (fun i => [(0, iL L), (1, DV.int .i64 (p)), (2, iL cuts), (7, DV.int .i64 (i))]) (fun _ => []) (fun i => i ≤ cuts.length ∧ (List.range i).all (provAt L p cuts) = true) (fun i => cuts.length - i) 0 ⟨rfl, rfl, rfl⟩ ⟨Nat.zero_le _, rfl⟩ ?_
  intro i ⟨h1, h2⟩
  conv => whnf
  refine ⟨fun hb => ?_, fun hb => ?_⟩
  · have hi : i < cuts.length := by simpa using hb
    have hci := hin i hi
    obtain ⟨u, hu⟩ : ∃ u : Nat, (u : Int) = cuts.getD i 0 := ⟨(cuts.getD i 0).toNat, by omega⟩
    have hu2 : u < L.length := by omega
    have hLu := hok.at hu2
    have w1 : IntKind.i64.wrap (((L.map (DV.int .i64)).length : Int) - 1) = (L.length : Int) - 1 := by rw [e1, wrap_W, W_in (by omega) (by omega)]
    have w2 : IntKind.i64.wrap ((i : Int) + 1) = ((i + 1 : Nat) : Int) := wrap_succ i (by omega)
    have hpa : provAt L p cuts i = !decide (p < L.getD u 0 * toI L cuts i) := by unfold provAt; rw [← hu, Int.toNat_natCast]
    have ht := toI_bd hin (i := i) hLn
    have hmul := mul_bd (a := L.getD u 0) (b := toI L cuts i) (A := 1200) (B := 1000) (by omega) (by omega) (by omega) (by omega)
    have w3 : IntKind.i64.wrap (L.getD u 0 * toI L cuts i) = L.getD u 0 * toI L cuts i := W_in (by omega) (by omega)
    clear hb
    conv => whnf
    rw [w1, w2]
    refine ⟨fun hg => ?_, fun hg => ?_⟩
    · have hi2 : i + 1 < cuts.length := by have := of_decide_eq_true hg; rw [e0] at this; omega
      have et : toI L cuts i = cuts.getD (i + 1) 0 - 1 := by unfold toI; rw [if_pos hi2]
      have hc2 := hin (i + 1) hi2
      clear hg
      conv => whnf
      rw [w2]
      rw [getD_enc _ _ (i + 1) 0 hi2]
      refine ⟨idxA hi2 rfl, ?_⟩
      conv => whnf
      rw [show IntKind.i64.wrap (cuts.getD (i + 1) 0 - 1) = toI L cuts i by rw [et, wrap_W, W_in (by omega) (by omega)]]
      rw [getD_enc _ _ (i) 0 hi]
      refine ⟨idxA hi rfl, ?_⟩
      conv => whnf
      rw [← hu]
      rw [getD_enc _ _ (u) 0 hu2]
      refine ⟨idxA hu2 rfl, ?_⟩
      conv => whnf
      rw [w3]
      repeat' (first
        | (refine ⟨fun hg => ?_, fun hg => ?_⟩ <;> first | contradiction | (conv => whnf))
        | (refine Or.inl ?_; conv => whnf)
        | (refine And.intro ?_ ?_; kernel_rfl; conv => whnf))
      · have hg := of_decide_eq_true hg
        exact bool_eq (by unfold provB; rw [range_not _ _ i hi (by rw [hpa, decide_eq_true hg]; rfl)])
      · have hg := of_decide_eq_false hg
        rw [w2]
        exact ⟨i + 1, rfl, rfl, rfl, ⟨hi, range_all _ i h2 (by rw [hpa, decide_eq_false hg]; rfl)⟩, by omega⟩
    · have hi2 : ¬ i + 1 < cuts.length := by have := of_decide_eq_false hg; rw [e0] at this; omega
      have et : toI L cuts i = (L.length : Int) - 1 := by unfold toI; rw [if_neg hi2]
      clear hg
      conv => whnf
      rw [← et]
      rw [getD_enc _ _ (i) 0 hi]
      refine ⟨idxA hi rfl, ?_⟩
      conv => whnf
      rw [← hu]
      rw [getD_enc _ _ (u) 0 hu2]
      refine ⟨idxA hu2 rfl, ?_⟩
      conv => whnf
      rw [w3]
      repeat' (first
        | (refine ⟨fun hg => ?_, fun hg => ?_⟩ <;> first | contradiction | (conv => whnf))
        | (refine Or.inl ?_; conv => whnf)
        | (refine And.intro ?_ ?_; kernel_rfl; conv => whnf))
      · have hg := of_decide_eq_true hg
        exact bool_eq (by unfold provB; rw [range_not _ _ i hi (by rw [hpa, decide_eq_true hg]; rfl)])
      · have hg := of_decide_eq_false hg
        rw [w2]
        exact ⟨i + 1, rfl, rfl, rfl, ⟨hi, range_all _ i h2 (by rw [hpa, decide_eq_false hg]; rfl)⟩, by omega⟩
  · have hi : i = cuts.length := by have := of_decide_eq_false hb; rw [e0] at this; omega
    conv => whnf
    rw [hi] at h2
    exact bool_eq h2.symm
end Sh

/-! The reference's Certificate. -/
set_option maxRecDepth 100000
set_option linter.unusedSimpArgs false
set_option linter.unusedVariables false
namespace Sh
open Go Go.Proofs
/-- The next cut, as far as the reference has searched it. -/
def nxt (A M v : Nat) : Nat := max (A + 1) (min (v - 1) M)
theorem nxt_first (A M : Nat) : nxt A M (A + 1) = A + 1 := by unfold nxt; omega
theorem nxt_in {A M v : Nat} (h1 : A + 1 ≤ v) (h2 : v ≤ M) : nxt A M (v + 1) = v := by unfold nxt; omega
theorem nxt_out {A M v : Nat} (h0 : A + 1 ≤ M) (h2 : M < v) : nxt A M (v + 1) = nxt A M v := by unfold nxt; omega
theorem nxt_end {A M v : Nat} (h0 : A + 1 ≤ M) (h2 : M < v) : nxt A M v = M := by unfold nxt; omega
theorem r_Certificate (L : List Int) (m : Int) (hok : OkL L) (hLn : L ≠ []) (hm : m = (pw L (hiA L L.length)).2) (hm2 : 0 ≤ m ∧ m ≤ 1200000 ∧ ∀ v : Nat, v < L.length → (v : Int) * L.getD v 0 ≤ m) : PC 59 [iL L] (iL (certL L m)) := by
  have e0 : ((L.map (DV.int .i64)).length : Int) = L.length := by simp
  have hpos := List.length_pos_iff.2 hLn
  have hlen := hok.1
  have w2 : IntKind.i64.wrap (((L.map (DV.int .i64)).length : Int) - 1) = (L.length : Int) - 1 := by rw [e0, wrap_W, W_in (by omega) (by omega)]
  refine pureCall_ofR dh59 rfl ?_
  conv => whnf
  repeat' (first
    | (refine ⟨fun hg => ?_, fun hg => ?_⟩ <;> first | contradiction | (conv => whnf))
    | (refine Or.inl ?_; conv => whnf)
    | (refine ⟨_, r_Highest _ hok hLn, ?_⟩; conv => whnf)
    | (refine And.intro ?_ ?_; kernel_rfl; conv => whnf))
  rw [← hm, w2]
  clear hm
  refine dwp_loopR (P := Tryz.prog) (G := GC) (k := dk59_1) (b := db59_1) (α := Nat) (fun k => [(0, iL L), (4, DV.int .i64 (m)), (5, .own 15 0 (clD L m k).length (clD L m k).length), (6, DV.int .i64 ((L.length : Int) - 1)), (7, DV.int .i64 ((ats L m k : Nat)))]) (fun k => [(15, .row 1 (clD L m k) false)]) (fun k => k ≤ ats L m k ∧ ats L m k < L.length ∧ stp L m (L.length - k) k = stp L m L.length 0) (fun k => L.length - k) 0 ⟨rfl, rfl, rfl⟩ ⟨Nat.le_refl _, hpos, rfl⟩ ?_
  intro k ⟨hk1, hk2, hk3⟩
  have hb := hok.at hk2
  obtain ⟨n, hn⟩ : ∃ n, L.length - k = n + 1 := ⟨L.length - k - 1, by omega⟩
  rw [hn, stp] at hk3
  have hmul := mul_bd (a := L.getD (ats L m k) 0) (b := (L.length : Int) - 1) (A := 1200) (B := 1000) (by omega) (by omega) (by omega) (by omega)
  conv => whnf
  rw [getD_enc _ _ (ats L m k) 0 hk2]
  refine ⟨idxA hk2 rfl, ?_⟩
  conv => whnf
  rw [show IntKind.i64.wrap (L.getD (ats L m k) 0 * ((L.length : Int) - 1)) = L.getD (ats L m k) 0 * ((L.length : Int) - 1) from W_in (by omega) (by omega)]
  refine ⟨fun hg => ?_, fun hg => ?_⟩
  · have hg : goes L m k := by have := of_decide_eq_true hg; unfold goes; omega
    rw [if_pos hg] at hk3
    have hnx := ats_next hm2.2.2 hm2.1 hk2 hg
    have hc := hnx.1
    have hM := hnx.2.2.2
    generalize hA : ats L m k = A at *
    generalize hMM : ats L m (k + 1) = M at *
    generalize hcc : L.getD A 0 = c at *
    conv => whnf
    rw [wrap_succ A (by omega)]
    refine dwp_loopR (P := Tryz.prog) (G := GC) (k := dk59_0) (b := db59_0) (α := Nat) (fun v => [(0, iL L), (4, DV.int .i64 (m)), (5, .own 15 0 (clD L m k).length (clD L m k).length), (6, DV.int .i64 ((L.length : Int) - 1)), (7, DV.int .i64 (A)), (8, DV.int .i64 ((nxt A M v : Nat))), (9, DV.int .i64 (v))]) (fun _ => [(15, .row 1 (clD L m k) false)]) (fun v => A + 1 ≤ v ∧ v ≤ L.length) (fun v => L.length - v) (A + 1) ⟨rfl, ?_, rfl⟩ ⟨Nat.le_refl _, by omega⟩ ?_
    · rw [nxt_first]; rfl
    intro v ⟨hv1, hv2⟩
    conv => whnf
    refine ⟨fun hg2 => ?_, fun hg2 => ?_⟩
    · have hv : v < L.length := by have := of_decide_eq_true hg2; omega
      have hmv := mul_bd (a := c) (b := (v : Int) - 1) (A := 1200) (B := 1000) (by omega) (by omega) (by omega) (by omega)
      have w3 : IntKind.i64.wrap ((v : Int) - 1) = (v : Int) - 1 := by rw [wrap_W, W_in (by omega) (by omega)]
      clear hg2
      conv => whnf
      rw [getD_enc _ _ (A) 0 hk2]
      refine ⟨idxA hk2 rfl, ?_⟩
      conv => whnf
      rw [hcc, w3, show IntKind.i64.wrap (c * ((v : Int) - 1)) = c * ((v : Int) - 1) from W_in (by omega) (by omega)]
      have hiff : c * ((v : Int) - 1) ≤ m ↔ v ≤ M := by
        rw [Int.mul_comm, ← Int.le_ediv_iff_mul_le hc]; omega
      refine ⟨fun hg3 => ?_, fun hg3 => ?_⟩
      · have hg3 : v ≤ M := hiff.1 (of_decide_eq_true hg3)
        conv => whnf
        rw [wrap_succ v (by omega)]
        refine ⟨v + 1, rfl, ?_, rfl, ⟨by omega, hv⟩, by omega⟩
        rw [nxt_in hv1 hg3]; rfl
      · have hg3 : ¬ v ≤ M := fun h => of_decide_eq_false hg3 (hiff.2 h)
        conv => whnf
        rw [wrap_succ v (by omega)]
        refine ⟨v + 1, rfl, ?_, rfl, ⟨by omega, hv⟩, by omega⟩
        rw [nxt_out (by omega) (by omega)]; rfl
    · have hv : v = L.length := by have := of_decide_eq_false hg2; omega
      have hnv : nxt A M v = M := nxt_end (by omega) (by omega)
      clear hg2
      rw [hnv]
      conv => whnf
      refine ⟨⟨rfl, rfl, rfl, by rw [clD_len]; simp; omega, fun e he => by simp at he; subst he; rfl⟩, ?_⟩
      conv => whnf
      refine ⟨k + 1, rfl, ?_, ?_, ⟨by omega, by omega, by rw [show L.length - (k + 1) = n by omega]; exact hk3⟩, by omega⟩
      · rw [clD_succ, hMM]; rfl
      · rw [clD_succ, hMM]; rfl
  · have hg : ¬ goes L m k := by have := of_decide_eq_false hg; unfold goes; omega
    rw [if_neg hg] at hk3
    conv => whnf
    refine ⟨rfl, ?_⟩
    rw [window_full]
    show DV.list (clD L m k) = _
    unfold certL
    rw [← hk3]
    show _ = DV.list ((rng (k + 1) fun k => (ats L m k : Int)).map (DV.int .i64))
    rw [rng_map]; rfl
end Sh

/-! The reference's Peaks. -/
set_option maxRecDepth 100000
set_option maxHeartbeats 2000000
set_option linter.unusedSimpArgs false
set_option linter.unusedVariables false
namespace Sh
open Go Go.Proofs
theorem minmax0 (n : Nat) : minmaxI true 0 (n : Int) = (n : Int) := by
  unfold minmaxI
  show (if (n : Int) > 0 then (n : Int) else 0) = _
  split <;> omega
theorem minmax1 {a b : Int} (h : b ≤ a) : minmaxI false a b = b := by
  unfold minmaxI
  show (if b < a then b else a) = _
  split <;> omega
theorem r_Peaks (L : List Int) (hok : OkL L) : PC 58 [iL L] (iL (pks L L.length)) := by
  have e0 : ((L.map (DV.int .i64)).length : Int) = L.length := by simp
  have hlen := hok.1
  have w2 : IntKind.i64.wrap (((L.map (DV.int .i64)).length : Int) - 1) = (L.length : Int) - 1 := by rw [e0, wrap_W, W_in (by omega) (by omega)]
  refine pureCall_ofR dh58 rfl ?_
  conv => whnf
  refine dwp_loopR (P := Tryz.prog) (G := GC) (k := dk58_1) (b := db58_1) (α := Nat) (fun i => [(0, iL L), (3, .own 3 0 (pkD L i).length (pkD L i).length), (4, DV.int .i64 (i))]) (fun i => [(3, .row 1 (pkD L i) false)]) (fun i => i ≤ L.length) (fun i => L.length - i) 0 ⟨rfl, rfl, rfl⟩ (Nat.zero_le _) ?_
  intro i h1
  have hpl := pkD_len L i
  conv => whnf
  refine ⟨fun hb => ?_, fun hb => ?_⟩
  · have hi : i < L.length := by simpa using hb
    have p1 := hok.pw hi
    have hp0 : 0 ≤ (pw L i).2 := p1.1
    have hwp : ∀ v : Nat, v < L.length → IntKind.i64.wrap ((v : Int) * L.getD v 0) = (pw L v).2 := fun v hv => by have := hok.pw hv; exact W_in (by omega) (by omega)
    clear hb
    conv => whnf
    rw [getD_enc _ _ (i) 0 hi]
    refine ⟨idxA hi rfl, ?_⟩
    conv => whnf
    rw [hwp i hi]
    refine dwp_loopR (P := Tryz.prog) (G := GC) (k := dk58_0) (b := db58_0) (α := Nat) (fun t => [(0, iL L), (3, .own 3 0 (pkD L i).length (pkD L i).length), (4, DV.int .i64 (i)), (5, DV.int .i64 ((pw L i).2)), (6, DV.int .i64 (t))]) (fun _ => [(3, .row 1 (pkD L i) false)]) (fun t => t < L.length ∧ i ≤ t ∧ toE L (pw L i).2 (L.length - t) t = toF L i) (fun t => L.length - t) i ⟨rfl, rfl, rfl⟩ ⟨hi, Nat.le_refl _, rfl⟩ ?_
    intro t ⟨ht, hit, hto⟩
    obtain ⟨m, hm⟩ : ∃ m, L.length - t = m + 1 := ⟨L.length - t - 1, by omega⟩
    rw [hm, toE] at hto
    have e1 : IntKind.i64.wrap ((t : Int) + 1) = ((t + 1 : Nat) : Int) := wrap_succ t (by omega)
    conv => whnf
    rw [e1]
    refine ⟨fun hg => ?_, fun hg => ?_⟩
    · have hlt : t + 1 < L.length := by have := of_decide_eq_true hg; rw [e0] at this; omega
      clear hg
      conv => whnf
      rw [e1]
      rw [getD_enc _ _ (t + 1) 0 hlt]
      refine ⟨idxA hlt rfl, ?_⟩
      conv => whnf
      rw [hwp (t + 1) hlt]
      refine ⟨fun hg => ?_, fun hg => ?_⟩
      · have hg : (pw L (t + 1)).2 = (pw L i).2 := of_decide_eq_true hg
        conv => whnf
        rw [e1]
        rw [if_pos ⟨hlt, hg⟩] at hto
        exact ⟨t + 1, rfl, rfl, rfl, ⟨hlt, by omega, by rw [show L.length - (t + 1) = m by omega]; exact hto⟩, by omega⟩
      · have hgn : ¬ (pw L (t + 1)).2 = (pw L i).2 := of_decide_eq_false hg
        rw [if_neg (fun hh => hgn hh.2)] at hto
        clear hg
        have hto := hto.symm
        conv => whnf
        repeat' (first
          | (refine ⟨fun hg => ?_, fun hg => ?_⟩ <;> first | contradiction | (conv => whnf))
          | (refine Or.inl ?_; conv => whnf)
          | (rw [wrap_pred i (by simp only [decide_eq_false_iff_not, Int.natCast_eq_zero] at *; omega) (by omega), minmax0, getD_enc _ _ (i - 1) 0 (by omega)]; refine ⟨idxA (by omega) rfl, ?_⟩; conv => whnf; rw [hwp (i - 1) (by omega)])
          | (rw [w2, e1, minmax1 (by omega), getD_enc _ _ (t + 1) 0 (by omega)]; refine ⟨idxA (by omega) rfl, ?_⟩; conv => whnf; rw [hwp (t + 1) (by omega)])
          | (refine ⟨⟨rfl, rfl, rfl, by simp; omega, fun e he => by simp at he; subst he; rfl⟩, ?_⟩; conv => whnf)
          | (refine And.intro ?_ ?_; kernel_rfl; conv => whnf))
        all_goals (try rw [wrap_succ i (by omega)])
        all_goals (first
          | (have hpk : isPk L i = true := by
              unfold isPk
              rw [hto]
              simp only [e1, e0, Bool.cond_true, Bool.cond_false, Bool.not_true, Bool.not_false, decide_eq_true_eq, decide_eq_false_iff_not, Int.natCast_pos, Int.natCast_eq_zero, gt_iff_lt] at *
              grind
             refine ⟨i + 1, rfl, ?_, ?_, hi, by omega⟩
             · rw [pkD_true hpk]; rfl
             · rw [pkD_true hpk]; rfl)
          | (have hpk : isPk L i = false := by
              unfold isPk
              rw [hto]
              simp only [e1, e0, Bool.cond_true, Bool.cond_false, Bool.not_true, Bool.not_false, decide_eq_true_eq, decide_eq_false_iff_not, Int.natCast_pos, Int.natCast_eq_zero, gt_iff_lt] at *
              grind
             refine ⟨i + 1, rfl, ?_, ?_, hi, by omega⟩
             · rw [pkD_false hpk]; rfl
             · rw [pkD_false hpk]; rfl)
          | trace_state)
    · have hlt : ¬ t + 1 < L.length := by have := of_decide_eq_false hg; rw [e0] at this; omega
      rw [if_neg (fun hh => hlt hh.1)] at hto
      have hto := hto.symm
      clear hg
      conv => whnf
      repeat' (first
        | (refine ⟨fun hg => ?_, fun hg => ?_⟩ <;> first | contradiction | (conv => whnf))
        | (refine Or.inl ?_; conv => whnf)
        | (exfalso; have hq := of_decide_eq_false (show decide (IntKind.i64.wrap ((t : Int) + 1) = _) = false from hg); rw [e1, e0] at hq; omega)
        | (rw [wrap_pred i (by simp only [decide_eq_false_iff_not, Int.natCast_eq_zero] at *; omega) (by omega), minmax0, getD_enc _ _ (i - 1) 0 (by omega)]; refine ⟨idxA (by omega) rfl, ?_⟩; conv => whnf; rw [hwp (i - 1) (by omega)])
        | (refine ⟨⟨rfl, rfl, rfl, by simp; omega, fun e he => by simp at he; subst he; rfl⟩, ?_⟩; conv => whnf)
        | (refine And.intro ?_ ?_; kernel_rfl; conv => whnf))
      all_goals (try rw [wrap_succ i (by omega)])
      all_goals (first
        | (have hpk : isPk L i = true := by
            unfold isPk
            rw [hto]
            simp only [e1, e0, Bool.cond_true, Bool.cond_false, Bool.not_true, Bool.not_false, decide_eq_true_eq, decide_eq_false_iff_not, Int.natCast_pos, Int.natCast_eq_zero, gt_iff_lt] at *
            grind
           refine ⟨i + 1, rfl, ?_, ?_, hi, by omega⟩
           · rw [pkD_true hpk]; rfl
           · rw [pkD_true hpk]; rfl)
        | (have hpk : isPk L i = false := by
            unfold isPk
            rw [hto]
            simp only [e1, e0, Bool.cond_true, Bool.cond_false, Bool.not_true, Bool.not_false, decide_eq_true_eq, decide_eq_false_iff_not, Int.natCast_pos, Int.natCast_eq_zero, gt_iff_lt] at *
            grind
           refine ⟨i + 1, rfl, ?_, ?_, hi, by omega⟩
           · rw [pkD_false hpk]; rfl
           · rw [pkD_false hpk]; rfl)
        | trace_state)
  · have hi : i = L.length := by have := of_decide_eq_false hb; rw [e0] at this; omega
    conv => whnf
    exact ⟨rfl, by rw [window_full, hi]; rfl⟩
end Sh

/-! What the highest power, the peaks and the certificates of a field are: plain laws. -/
set_option linter.unusedSimpArgs false
set_option linter.unusedVariables false
namespace Sh
open Go
theorem crv_len' (f : List (List Cel)) : (crv f).length = (endF f).toNat + 1 := rng_len _ _
theorem crv_get {f : List (List Cel)} {v : Nat} (h : v < (crv f).length) : (crv f).getD v 0 = curF f v := by
  rw [crv_len'] at h; exact rng_getD _ _ h
theorem hD_mono {l : List Cel} {v w : Int} (h : v ≤ w) : ∀ k, hD l w k ≤ hD l v k
  | 0 => Int.le_refl _
  | k + 1 => by
    have h1 := hD_mono (l := l) h k
    have h2 := hD_bd l w k
    unfold hD
    split <;> split <;> omega
theorem curH_mono {l : List Cel} {v w : Int} (h : v ≤ w) : curH l w ≤ curH l v := by
  have h1 := hD_mono (l := l) h 201
  unfold curH
  split <;> split <;> omega
theorem sumI_le {α : Type} {l : List α} {g h : α → Int} (hh : ∀ x ∈ l, g x ≤ h x) : sumI (l.map g) ≤ sumI (l.map h) := by
  induction l with
  | nil => exact Int.le_refl _
  | cons x r ih =>
    have h1 := ih (fun y hy => hh y (List.mem_cons_of_mem _ hy))
    have h2 := hh x (List.mem_cons_self ..)
    show g x + sumI (r.map g) ≤ h x + sumI (r.map h)
    omega
theorem curF_mono {f : List (List Cel)} {v w : Int} (h : v ≤ w) : curF f w ≤ curF f v := sumI_le (fun _ _ => curH_mono h)
theorem mxL_ge {l : List Int} {x : Int} (hx : x ∈ l) : x ≤ mxL l := by
  have hge : ∀ (l : List Int) (m : Int), (∀ y ∈ l, y ≤ l.foldl mx m) ∧ m ≤ l.foldl mx m := by
    intro l
    induction l with
    | nil => intro m; exact ⟨fun y hy => by simp at hy, Int.le_refl _⟩
    | cons z r ih =>
      intro m
      have h2 := ih (mx m z)
      have h3 := mx_ge m z
      refine ⟨fun y hy => ?_, by show m ≤ r.foldl mx (mx m z); omega⟩
      show y ≤ r.foldl mx (mx m z)
      rcases List.mem_cons.1 hy with rfl | hy
      · omega
      · exact h2.1 y hy
  exact (hge l 0).1 x hx
theorem OkC.volt_le {c : Cel} (h : OkC c) (n : Int) : (voltC c n).1 ≤ (voltC c 0).1 := by
  have h1 := h.1.last_bd
  have h2 := h.2.2.2
  have h3 := vDown_bd c n ((lastX c.tb).toNat + 1)
  rw [h.volt0]
  unfold voltC
  simp only
  omega
theorem chV_le {l : List Cel} (h : OkH l) (n : Int) : chV l n ≤ chV l 0 := sumI_le (fun c hc => (h.2.2 c hc).volt_le n)
theorem hD_none {l : List Cel} {v : Int} (h : ∀ n : Int, chV l n < v) : ∀ k, hD l v k = -1
  | 0 => rfl
  | k + 1 => by
    have := h (k : Int)
    unfold hD
    rw [if_neg (by omega)]
    exact hD_none h k
theorem curH_zero {l : List Cel} (h : OkH l) {v : Int} (hv : chV l 0 < v) : curH l v = 0 := by
  have e := hD_none (l := l) (v := v) (fun n => by have := chV_le h n; omega) 201
  unfold curH
  rw [e]; rfl
theorem sumI_zero {α : Type} {l : List α} {g : α → Int} (h : ∀ x ∈ l, g x = 0) : sumI (l.map g) = 0 := by
  induction l with
  | nil => rfl
  | cons x r ih =>
    have h1 := ih (fun y hy => h y (List.mem_cons_of_mem _ hy))
    have h2 := h x (List.mem_cons_self ..)
    show g x + sumI (r.map g) = 0
    omega
theorem curF_end {f : List (List Cel)} (h : OkF f) {v : Int} (hv : endF f < v) : curF f v = 0 := by
  refine sumI_zero (fun l hl => curH_zero (h.2.2 l hl) ?_)
  have : chV l 0 ≤ endF f := mxL_ge (List.mem_map.2 ⟨l, hl, rfl⟩)
  omega
/-! The highest power. -/
theorem hiA_lt (l : List Int) : ∀ k v : Nat, v < hiA l k → (pw l v).2 < (pw l (hiA l k)).2
  | 0, v, h => absurd h (Nat.not_lt_zero v)
  | k + 1, v, h => by
    unfold hiA at h ⊢
    split
    · rename_i hc
      rw [if_pos hc] at h
      have := hiA_max l k v h
      omega
    · rename_i hc
      rw [if_neg hc] at h
      exact hiA_lt l k v h
theorem hiA_in (l : List Int) (hn : l ≠ []) : hiA l l.length < l.length := by
  have hpos := List.length_pos_iff.2 hn
  have hA : ∀ i, i ≤ l.length → hiA l i < l.length := by
    intro i
    induction i with
    | zero => intro _; exact hpos
    | succ i ih => intro hi; unfold hiA; split; omega; exact ih (by omega)
  exact hA _ (Nat.le_refl _)
/-! Peaks. -/
theorem toE_stop (l : List Int) (p : Int) : ∀ n t, l.length ≤ t + n → toE l p n t + 1 < l.length → (pw l (toE l p n t + 1)).2 ≠ p
  | 0, t, h, h2 => by unfold toE at h2; omega
  | n + 1, t, h, h2 => by
    unfold toE at h2 ⊢
    split
    · rename_i hc
      rw [if_pos hc] at h2
      exact toE_stop l p n (t + 1) (by omega) h2
    · rename_i hc
      rw [if_neg hc] at h2
      intro e
      exact hc ⟨h2, e⟩
theorem toE_one (l : List Int) (p : Int) (n t : Nat) (h : t + 1 < l.length) (h2 : (pw l (t + 1)).2 ≠ p) : toE l p n t = t := by
  cases n with
  | zero => rfl
  | succ n => unfold toE; rw [if_neg (fun hc => h2 hc.2)]
theorem isPk_hi {l : List Int} (hn : l ≠ []) (h : 0 < (pw l (hiA l l.length)).2) : isPk l (hiA l l.length) = true := by
  have h1 := hiA_in l hn
  have h2 := toF_le l _ h1
  unfold isPk
  simp only [Bool.and_eq_true, Bool.or_eq_true, Bool.not_eq_true', decide_eq_false_iff_not, decide_eq_true_eq]
  refine ⟨⟨by omega, ?_⟩, ?_⟩
  · by_cases e : hiA l l.length = 0
    · exact .inl e
    · exact .inr (hiA_lt l _ _ (by omega))
  · by_cases e : toF l (hiA l l.length) + 1 = l.length
    · exact .inl e
    · right
      have h3 := toE_stop l (pw l (hiA l l.length)).2 (l.length - hiA l l.length) (hiA l l.length) (by omega) (by unfold toF at h2 e; omega)
      have h4 := hiA_max l l.length (toF l (hiA l l.length) + 1) (by omega)
      unfold toF at h4 ⊢
      omega
theorem isPk_spec {l : List Int} (hok : OkL l) {v : Nat} (hv : v < l.length) (h : isPk l v = true) : 0 < (pw l v).2 ∧ (0 < v → (pw l (v - 1)).2 < (pw l v).2) ∧ (v + 1 < l.length → (pw l (v + 1)).2 ≤ (pw l v).2) := by
  have hp := (hok.pw hv).1
  have hp : 0 ≤ (pw l v).2 := hp
  unfold isPk at h
  simp only [Bool.and_eq_true, Bool.or_eq_true, Bool.not_eq_true', decide_eq_false_iff_not, decide_eq_true_eq] at h
  obtain ⟨⟨h1, h2⟩, h3⟩ := h
  refine ⟨by omega, fun h0 => ?_, fun h0 => ?_⟩
  · rcases h2 with h2 | h2
    · omega
    · exact h2
  · by_cases e : (pw l (v + 1)).2 = (pw l v).2
    · omega
    · have e2 : toF l v = v := toE_one l _ _ v h0 e
      rw [e2] at h3
      rcases h3 with h3 | h3
      · omega
      · omega
theorem mem_pks {l : List Int} {v : Nat} (hv : v < l.length) : ((v : Int) ∈ pks l l.length) ↔ isPk l v = true := by
  unfold pks
  rw [List.mem_map]
  constructor
  · rintro ⟨i, hi, e⟩
    obtain rfl : i = v := by omega
    exact (List.mem_filter.1 hi).2
  · intro h
    exact ⟨v, List.mem_filter.2 ⟨List.mem_range.2 hv, h⟩, rfl⟩
theorem pks_nil {l : List Int} (h : ∀ v, v < l.length → (pw l v).2 = 0) : pks l l.length = [] := by
  unfold pks
  rw [List.map_eq_nil_iff, List.filter_eq_nil_iff]
  intro v hv
  have := h v (List.mem_range.1 hv)
  unfold isPk
  simp [this]
/-! Certificates. -/
theorem stp_spec {l : List Int} {m : Int} (hm : ∀ v : Nat, v < l.length → (v : Int) * l.getD v 0 ≤ m) (h0 : 0 ≤ m) : ∀ n k, l.length ≤ k + n → k ≤ ats l m k → ats l m k < l.length →
    k ≤ stp l m n k ∧ (∀ j, k ≤ j → j < stp l m n k → goes l m j ∧ ats l m j < l.length) ∧ ¬ goes l m (stp l m n k) ∧ ats l m (stp l m n k) < l.length ∧ stp l m n k ≤ ats l m (stp l m n k)
  | 0, k, h1, h2, h3 => by omega
  | n + 1, k, h1, h2, h3 => by
    unfold stp
    by_cases hg : goes l m k
    · rw [if_pos hg]
      have hx := ats_next hm h0 h3 hg
      obtain ⟨a1, a2, a3, a4, a5⟩ := stp_spec hm h0 n (k + 1) (by omega) (by omega) hx.2.2.1
      refine ⟨by omega, fun j hj1 hj2 => ?_, a3, a4, a5⟩
      by_cases e : j = k
      · subst e; exact ⟨hg, h3⟩
      · exact a2 j (by omega) hj2
    · rw [if_neg hg]
      exact ⟨Nat.le_refl _, fun j hj1 hj2 => by omega, hg, h3, h2⟩
theorem cutsE_rng (g : Nat → Int) (n : Int) : ∀ (m s : Nat) (b : Int), (∀ j, s ≤ j → j < s + m → 0 ≤ g j ∧ g j ≤ n - 1) → (∀ j, s ≤ j → j + 1 < s + m → g j < g (j + 1)) → (0 < m → b < g s) → cutsE n false b ((List.range' s m).map g) = 0
  | 0, s, b, _, _, _ => rfl
  | m + 1, s, b, h1, h2, h3 => by
    rw [List.range'_succ, List.map_cons]
    have a1 := h1 s (Nat.le_refl _) (by omega)
    have a3 := h3 (by omega)
    have e : cutStep n false b (g s) = 0 := by
      unfold cutStep withE whenE
      rw [if_neg (by omega), decide_eq_false (by omega : ¬ g s ≤ b)]
      rfl
    unfold cutsE
    rw [if_neg (by rw [e]; simp)]
    exact cutsE_rng g n m (s + 1) (g s) (fun j hj1 hj2 => h1 j (by omega) (by omega)) (fun j hj1 hj2 => h2 j (by omega) (by omega)) (fun hm => h2 s (Nat.le_refl _) (by omega))
theorem cert_cuts {l : List Int} {m : Int} (hm : ∀ v : Nat, v < l.length → (v : Int) * l.getD v 0 ≤ m) (h0 : 0 ≤ m) (hn : l ≠ []) : cutsE l.length true (-1) (certL l m) = 0 := by
  have hpos := List.length_pos_iff.2 hn
  obtain ⟨a1, a2, a3, a4, a5⟩ := stp_spec hm h0 l.length 0 (by omega) (Nat.le_refl _) hpos
  unfold certL rng
  rw [List.range_eq_range', List.range'_succ, List.map_cons]
  have e : cutStep l.length true (-1) ((ats l m 0 : Nat) : Int) = 0 := by
    rw [show ((ats l m 0 : Nat) : Int) = 0 from rfl]
    unfold cutStep withE whenE
    rw [if_neg (by omega)]
    rfl
  unfold cutsE
  rw [if_neg (by rw [e]; simp)]
  have hall : ∀ j, j ≤ stp l m l.length 0 → ats l m j < l.length := fun j hj => by
    by_cases e2 : j = stp l m l.length 0
    · rw [e2]; exact a4
    · exact (a2 j (Nat.zero_le _) (by omega)).2
  have hinc : ∀ j, j < stp l m l.length 0 → ats l m j < ats l m (j + 1) := fun j hj => by
    have h1 := a2 j (Nat.zero_le _) hj
    exact (ats_next hm h0 h1.2 h1.1).2.1
  refine cutsE_rng (fun k => ((ats l m k : Nat) : Int)) l.length _ 1 _ (fun j hj1 hj2 => ?_) (fun j hj1 hj2 => ?_) (fun h => ?_)
  · have := hall j (by omega); omega
  · have := hinc j (by omega); omega
  · have := hinc 0 (by omega); exact_mod_cast this
theorem certL_length (l : List Int) (m : Int) : (certL l m).length = stp l m l.length 0 + 1 := rng_len _ _
theorem certL_get {l : List Int} {m : Int} {i : Nat} (h : i < (certL l m).length) : (certL l m).getD i 0 = ((ats l m i : Nat) : Int) := by
  rw [certL_length] at h; exact rng_getD _ _ h
theorem cert_prov {l : List Int} {m : Int} (hm : ∀ v : Nat, v < l.length → (v : Int) * l.getD v 0 ≤ m) (h0 : 0 ≤ m) (hn : l ≠ []) : provB l m (certL l m) = true := by
  have hpos := List.length_pos_iff.2 hn
  obtain ⟨a1, a2, a3, a4, a5⟩ := stp_spec hm h0 l.length 0 (by omega) (Nat.le_refl _) hpos
  unfold provB
  rw [List.all_eq_true]
  intro i hi
  have hi := List.mem_range.1 hi
  have hg := certL_get hi
  unfold provAt
  rw [hg, Int.toNat_natCast, Bool.not_eq_true', decide_eq_false_iff_not]
  unfold toI
  rw [certL_length] at hi ⊢
  split
  · rename_i h1
    rw [certL_get (by rw [certL_length]; omega)]
    have h2 := a2 i (Nat.zero_le _) (by omega)
    have h3 := ats_next hm h0 h2.2 h2.1
    rw [h3.2.2.2]
    have h4 := Int.mul_ediv_self_le (x := m) (k := l.getD (ats l m i) 0) (by omega)
    rw [show m / l.getD (ats l m i) 0 + 1 - 1 = m / l.getD (ats l m i) 0 by omega]
    omega
  · rename_i h1
    have : i = stp l m l.length 0 := by omega
    rw [this]
    unfold goes at a3
    exact a3
theorem cert_find (l : List Int) (m : Int) (at_ : Nat) : ∀ n, ∃ i, i ≤ n ∧ ats l m i ≤ at_ ∧ (i < n → at_ < ats l m (i + 1))
  | 0 => ⟨0, Nat.le_refl _, Nat.zero_le _, fun h => absurd h (Nat.not_lt_zero _)⟩
  | n + 1 => by
    obtain ⟨i, h1, h2, h3⟩ := cert_find l m at_ n
    by_cases e : i < n
    · exact ⟨i, by omega, h2, fun _ => h3 e⟩
    · have : i = n := by omega
      subst this
      by_cases e2 : ats l m (i + 1) ≤ at_
      · exact ⟨i + 1, Nat.le_refl _, e2, fun h => by omega⟩
      · exact ⟨i, by omega, h2, fun _ => by omega⟩
theorem cert_less {l : List Int} {m : Int} (hok : OkL l) (hdec : ∀ v w : Nat, v ≤ w → w < l.length → l.getD w 0 ≤ l.getD v 0) (hn : l ≠ []) {a : Nat} (ha : a < l.length) (hma : (a : Int) * l.getD a 0 = m) (hm : ∀ v : Nat, v < l.length → (v : Int) * l.getD v 0 ≤ m) (h0 : 0 ≤ m) : provB l (m - 1) (certL l m) = false := by
  have hpos := List.length_pos_iff.2 hn
  obtain ⟨a1, a2, a3, a4, a5⟩ := stp_spec hm h0 l.length 0 (by omega) (Nat.le_refl _) hpos
  obtain ⟨i, h1, h2, h3⟩ := cert_find l m a (stp l m l.length 0)
  have hi : i < (certL l m).length := by rw [certL_length]; omega
  refine range_not _ _ i hi ?_
  have hg := certL_get hi
  unfold provAt
  rw [hg, Int.toNat_natCast, Bool.not_eq_false', decide_eq_true_eq]
  have hd := hdec (ats l m i) a h2 ha
  have hto : (a : Int) ≤ toI l (certL l m) i := by
    unfold toI
    rw [certL_length]
    split
    · rename_i h4
      rw [certL_get (by rw [certL_length]; omega)]
      have := h3 (by omega)
      omega
    · omega
  have hla := (hok.at ha).1
  have e1 : (a : Int) * l.getD a 0 ≤ toI l (certL l m) i * l.getD (ats l m i) 0 := Int.mul_le_mul hto hd hla (by omega)
  rw [Int.mul_comm]
  omega
end Sh

/-! HasInt, and the law's small fields. -/
set_option maxRecDepth 100000
set_option linter.unusedSimpArgs false
set_option linter.unusedVariables false
namespace Sh
open Go Go.Proofs
theorem q_HasInt (l : List Int) (n : Int) (hl : l.length < 4611686018427387904) : PC 65 [iL l, DV.int .i64 (n)] (.bool (decide (n ∈ l))) := by
  have e0 : ((l.map (DV.int .i64)).length : Int) = l.length := by simp
  refine pureCall_ofR dh65 rfl ?_
  conv => whnf
  refine dwp_loopR (P := Tryz.prog) (G := GC) (k := dk65_0) (b := db65_0) (α := Nat) (fun i => [(0, iL l), (1, DV.int .i64 (n)), (5, DV.int .i64 (i))]) (fun _ => []) (fun i => i ≤ l.length ∧ n ∉ l.take i) (fun i => l.length - i) 0 ⟨rfl, rfl, rfl⟩ ⟨Nat.zero_le _, by simp⟩ ?_
  intro i ⟨h1, h2⟩
  conv => whnf
  refine ⟨fun hb => ?_, fun hb => ?_⟩
  · have hi : i < l.length := by simpa using hb
    clear hb
    conv => whnf
    rw [getD_enc _ _ (i) 0 hi]
    refine ⟨idxA hi rfl, ?_⟩
    conv => whnf
    refine ⟨fun hg => ?_, fun hg => ?_⟩
    · have hg : l.getD i 0 = n := of_decide_eq_true hg
      conv => whnf
      exact bool_eq (decide_eq_true (by rw [← hg]; exact getD_in 0 hi)).symm
    · have hg : ¬ l.getD i 0 = n := of_decide_eq_false hg
      conv => whnf
      rw [wrap_succ i (by omega)]
      refine ⟨i + 1, rfl, rfl, rfl, ⟨hi, ?_⟩, by omega⟩
      rw [take_snoc l i 0 hi, List.mem_append]
      rintro (h | h)
      · exact h2 h
      · simp only [List.mem_cons, List.not_mem_nil, or_false] at h; exact hg h.symm
  · have hi : i = l.length := by have := of_decide_eq_false hb; rw [e0] at this; omega
    rw [hi, List.take_length] at h2
    conv => whnf
    exact bool_eq (decide_eq_false h2).symm
def smallF (f : List (List Cel)) : Bool := decide (f.length ≤ 3) && ((f.all fun l => decide (l.length ≤ 4)) && (shortF f && decide (chkField f = 0)))
theorem l_small (f : List (List Cel)) : PC 64 [fld f] (.bool (smallF f)) := by
  have e0 : ((f.map chn).length : Int) = f.length := by simp
  refine pureCall_ofR dh64 rfl ?_
  conv => whnf
  refine ⟨fun hg => ?_, fun hg => ?_⟩
  · have hg := of_decide_eq_true hg
    rw [e0] at hg
    conv => whnf
    exact bool_eq (by unfold smallF; rw [decide_eq_false (by omega : ¬ f.length ≤ 3)]; rfl)
  · have hg := of_decide_eq_false hg
    rw [e0] at hg
    conv => whnf
    refine dwp_loopR (P := Tryz.prog) (G := GC) (k := dk64_0) (b := db64_0) (α := Nat) (fun i => [(0, fld f), (8, fld f), (9, .int .i64 (f.map chn).length), (10, DV.int .i64 (i))]) (fun _ => []) (fun i => i ≤ f.length ∧ ((f.take i).all fun l => decide (l.length ≤ 4)) = true) (fun i => f.length - i) 0 ⟨rfl, rfl, rfl⟩ ⟨Nat.zero_le _, rfl⟩ ?_
    intro i ⟨h1, h2⟩
    conv => whnf
    refine ⟨fun hb => ?_, fun hb => ?_⟩
    · have hi : i < f.length := by simpa using hb
      have e1 : (((f.getD i []).map encC).length : Int) = (f.getD i []).length := by simp
      clear hb
      conv => whnf
      rw [getD_enc _ _ (i) [] hi]
      refine ⟨idxA hi rfl, ?_⟩
      conv => whnf
      refine ⟨fun hq => ?_, fun hq => ?_⟩
      · have hq := of_decide_eq_true hq
        rw [e1] at hq
        conv => whnf
        refine bool_eq ?_
        unfold smallF
        rw [all_not _ f i [] hi (decide_eq_false (by omega)), Bool.false_and, Bool.and_false]
      · have hq := of_decide_eq_false hq
        rw [e1] at hq
        conv => whnf
        rw [wrap_succ i (by omega)]
        exact ⟨i + 1, rfl, rfl, rfl, ⟨hi, all_take _ f i [] hi h2 (decide_eq_true (by omega))⟩, by omega⟩
    · have hi : i = f.length := by have := of_decide_eq_false hb; rw [e0] at this; omega
      rw [hi, List.take_length] at h2
      clear hb
      have hsm : smallF f = (shortF f && decide (chkField f = 0)) := by
        unfold smallF
        rw [h2, decide_eq_true (by omega : f.length ≤ 3)]; rfl
      rw [hsm]
      conv => whnf
      repeat' (first
        | (refine ⟨fun hg => ?_, fun hg => ?_⟩ <;> first | contradiction | (conv => whnf))
        | (refine Or.inl ?_; conv => whnf)
        | (refine ⟨_, r_ShortField .., ?_⟩; conv => whnf)
        | (refine ⟨_, r_CheckField f (shortF_spec (by assumption)).2.2.1 (shortF_spec (by assumption)).2.2.2, ?_⟩; conv => whnf)
        | (refine And.intro ?_ ?_; kernel_rfl; conv => whnf))
      all_goals (first
        | (refine bool_eq ?_; rw [‹shortF f = true›]; rfl)
        | (refine bool_eq ?_; rw [show shortF f = false from ‹_›]; rfl)
        | trace_state)
theorem smallF_spec {f : List (List Cel)} (h : smallF f = true) : f.length ≤ 3 ∧ shortF f = true ∧ chkField f = 0 := by
  unfold smallF at h
  simp only [Bool.and_eq_true, decide_eq_true_eq] at h
  exact ⟨h.1, h.2.2.1, h.2.2.2⟩
end Sh

set_option maxRecDepth 100000
namespace Sh
open Go
def db8_0 : DC := (.seq (.ops false [⟨(some 131), (.bin .lss (.tmp 130) (.tmp 129)), none, []⟩]) (.seq (.cond (.tmp 131) .skip (.exit 0)) (.seq (.block 1 none (.seq (.ops false [⟨(some 132), (.mov (.tmp 130)), none, []⟩, ⟨(some 133), (.iaddr 1 (.tmp 128) (.tmp 130)), none, []⟩, ⟨(some 134), (.load none (.tmp 133)), none, [1]⟩, ⟨(some 14), (.mov (.tmp 132)), none, [0, 1, 2]⟩, ⟨(some 15), (.mov (.tmp 134)), none, [2, 1, 3, 0]⟩]) (.seq (.seq (.ops false [⟨(some 135), (.mov (.tmp 15)), none, []⟩, ⟨(some 136), (.bin .lss (.tmp 135) (.const (.int .i64 0))), none, [0]⟩, ⟨(some 137), (.mov (.tmp 136)), none, [1, 0]⟩, ⟨(some 138), (.mov (.tmp 15)), (some (137, false)), [2, 1, 0]⟩, ⟨(some 139), (.bin .gtr (.tmp 138) (.const (.int .i64 1200))), (some (137, false)), [3, 2, 1, 0]⟩, ⟨(some 140), (.pick (.tmp 137) (.const (.bool true)) (.tmp 139)), none, [2, 1, 0, 4, 3]⟩, ⟨(some 141), (.mov (.tmp 140)), none, [5, 2, 1, 0, 4, 3]⟩, ⟨(some 142), (.mov (.tmp 14)), (some (141, false)), [6, 5, 2, 1, 0, 4, 3]⟩, ⟨(some 143), (.bin .gtr (.tmp 142) (.const (.int .i64 0))), (some (141, false)), [7, 6, 5, 2, 1, 0, 4, 3]⟩, ⟨(some 144), (.mov (.tmp 143)), (some (141, false)), [8, 7, 6, 5, 2, 1, 0, 4, 3]⟩, ⟨(some 145), (.mov (.tmp 15)), (some (144, true)), [9, 8, 7, 6, 5, 2, 1, 0, 4, 3]⟩, ⟨(some 146), (.mov (.tmp 3)), (some (144, true)), [9, 8, 7, 6, 5, 2, 1, 0, 4, 3]⟩, ⟨(some 147), (.mov (.tmp 14)), (some (144, true)), [9, 8, 7, 6, 5, 2, 1, 0, 4, 3]⟩, ⟨(some 148), (.bin .sub (.tmp 147) (.const (.int .i64 1))), (some (144, true)), [12, 9, 8, 7, 6, 5, 2, 1, 0, 4, 3]⟩, ⟨(some 149), (.iaddr 1 (.tmp 146) (.tmp 148)), (some (144, true)), [11, 9, 8, 7, 6, 5, 2, 1, 0, 4, 3, 13, 12]⟩, ⟨(some 150), (.load none (.tmp 149)), (some (144, true)), [14, 11, 9, 8, 7, 6, 5, 2, 1, 0, 4, 3, 13, 12]⟩, ⟨(some 151), (.bin .gtr (.tmp 145) (.tmp 150)), (some (144, true)), [10, 9, 8, 7, 6, 5, 2, 1, 0, 4, 3, 15, 14, 11, 13, 12]⟩, ⟨(some 152), (.pick (.tmp 144) (.tmp 151) (.const (.bool false))), (some (141, false)), [9, 8, 7, 6, 5, 2, 1, 0, 4, 3, 16, 10, 15, 14, 11, 13, 12]⟩, ⟨(some 153), (.pick (.tmp 141) (.const (.bool true)) (.tmp 152)), none, [6, 5, 2, 1, 0, 4, 3, 17, 9, 8, 7, 16, 10, 15, 14, 11, 13, 12]⟩, ⟨(some 154), (.mov (.tmp 153)), none, [18, 6, 5, 2, 1, 0, 4, 3, 17, 9, 8, 7, 16, 10, 15, 14, 11, 13, 12]⟩, ⟨(some 155), (.mov (.tmp 14)), (some (154, false)), [19, 18, 6, 5, 2, 1, 0, 4, 3, 17, 9, 8, 7, 16, 10, 15, 14, 11, 13, 12]⟩, ⟨(some 156), (.mov (.tmp 15)), (some (154, false)), [19, 18, 6, 5, 2, 1, 0, 4, 3, 17, 9, 8, 7, 16, 10, 15, 14, 11, 13, 12]⟩, ⟨(some 157), (.bin .mul (.tmp 155) (.tmp 156)), (some (154, false)), [20, 19, 18, 6, 5, 2, 1, 0, 4, 3, 17, 9, 8, 7, 16, 10, 15, 14, 11, 13, 12, 21]⟩, ⟨(some 158), (.mov (.tmp 8)), (some (154, false)), [19, 18, 6, 5, 2, 1, 0, 4, 3, 17, 9, 8, 7, 16, 10, 15, 14, 11, 13, 12]⟩, ⟨(some 159), (.bin .gtr (.tmp 157) (.tmp 158)), (some (154, false)), [22, 20, 19, 18, 6, 5, 2, 1, 0, 4, 3, 17, 9, 8, 7, 16, 10, 15, 14, 11, 13, 12, 21, 23]⟩, ⟨(some 160), (.pick (.tmp 154) (.const (.bool true)) (.tmp 159)), none, [19, 18, 6, 5, 2, 1, 0, 4, 3, 17, 9, 8, 7, 16, 10, 15, 14, 11, 13, 12, 24, 22, 20, 21, 23]⟩, ⟨(some 161), (.mov (.tmp 160)), none, [25, 19, 18, 6, 5, 2, 1, 0, 4, 3, 17, 9, 8, 7, 16, 10, 15, 14, 11, 13, 12, 24, 22, 20, 21, 23]⟩, ⟨(some 162), (.mov (.tmp 14)), (some (161, false)), [26, 25, 19, 18, 6, 5, 2, 1, 0, 4, 3, 17, 9, 8, 7, 16, 10, 15, 14, 11, 13, 12, 24, 22, 20, 21, 23]⟩, ⟨(some 163), (.mov (.tmp 7)), (some (161, false)), [26, 25, 19, 18, 6, 5, 2, 1, 0, 4, 3, 17, 9, 8, 7, 16, 10, 15, 14, 11, 13, 12, 24, 22, 20, 21, 23]⟩, ⟨(some 164), (.bin .lss (.tmp 162) (.tmp 163)), (some (161, false)), [27, 26, 25, 19, 18, 6, 5, 2, 1, 0, 4, 3, 17, 9, 8, 7, 16, 10, 15, 14, 11, 13, 12, 24, 22, 20, 21, 23, 28]⟩, ⟨(some 165), (.mov (.tmp 164)), (some (161, false)), [29, 27, 26, 25, 19, 18, 6, 5, 2, 1, 0, 4, 3, 17, 9, 8, 7, 16, 10, 15, 14, 11, 13, 12, 24, 22, 20, 21, 23, 28]⟩, ⟨(some 166), (.mov (.tmp 14)), (some (165, true)), [30, 29, 27, 26, 25, 19, 18, 6, 5, 2, 1, 0, 4, 3, 17, 9, 8, 7, 16, 10, 15, 14, 11, 13, 12, 24, 22, 20, 21, 23, 28]⟩, ⟨(some 167), (.mov (.tmp 15)), (some (165, true)), [30, 29, 27, 26, 25, 19, 18, 6, 5, 2, 1, 0, 4, 3, 17, 9, 8, 7, 16, 10, 15, 14, 11, 13, 12, 24, 22, 20, 21, 23, 28]⟩, ⟨(some 168), (.bin .mul (.tmp 166) (.tmp 167)), (some (165, true)), [31, 30, 29, 27, 26, 25, 19, 18, 6, 5, 2, 1, 0, 4, 3, 17, 9, 8, 7, 16, 10, 15, 14, 11, 13, 12, 24, 22, 20, 21, 23, 28, 32]⟩, ⟨(some 169), (.mov (.tmp 8)), (some (165, true)), [30, 29, 27, 26, 25, 19, 18, 6, 5, 2, 1, 0, 4, 3, 17, 9, 8, 7, 16, 10, 15, 14, 11, 13, 12, 24, 22, 20, 21, 23, 28]⟩, ⟨(some 170), (.bin .geq (.tmp 168) (.tmp 169)), (some (165, true)), [33, 31, 30, 29, 27, 26, 25, 19, 18, 6, 5, 2, 1, 0, 4, 3, 17, 9, 8, 7, 16, 10, 15, 14, 11, 13, 12, 24, 22, 20, 21, 23, 28, 32, 34]⟩, ⟨(some 171), (.pick (.tmp 165) (.tmp 170) (.const (.bool false))), (some (161, false)), [30, 29, 27, 26, 25, 19, 18, 6, 5, 2, 1, 0, 4, 3, 17, 9, 8, 7, 16, 10, 15, 14, 11, 13, 12, 24, 22, 20, 21, 23, 28, 35, 33, 31, 32, 34]⟩, ⟨(some 172), (.pick (.tmp 161) (.const (.bool true)) (.tmp 171)), none, [26, 25, 19, 18, 6, 5, 2, 1, 0, 4, 3, 17, 9, 8, 7, 16, 10, 15, 14, 11, 13, 12, 24, 22, 20, 21, 23, 36, 30, 29, 27, 28, 35, 33, 31, 32, 34]⟩, ⟨(some 173), (.mov (.tmp 172)), none, [37, 26, 25, 19, 18, 6, 5, 2, 1, 0, 4, 3, 17, 9, 8, 7, 16, 10, 15, 14, 11, 13, 12, 24, 22, 20, 21, 23, 36, 30, 29, 27, 28, 35, 33, 31, 32, 34]⟩, ⟨(some 174), (.mov (.tmp 14)), (some (173, false)), [38, 37, 26, 25, 19, 18, 6, 5, 2, 1, 0, 4, 3, 17, 9, 8, 7, 16, 10, 15, 14, 11, 13, 12, 24, 22, 20, 21, 23, 36, 30, 29, 27, 28, 35, 33, 31, 32, 34]⟩, ⟨(some 175), (.mov (.tmp 7)), (some (173, false)), [38, 37, 26, 25, 19, 18, 6, 5, 2, 1, 0, 4, 3, 17, 9, 8, 7, 16, 10, 15, 14, 11, 13, 12, 24, 22, 20, 21, 23, 36, 30, 29, 27, 28, 35, 33, 31, 32, 34]⟩, ⟨(some 176), (.bin .eql (.tmp 174) (.tmp 175)), (some (173, false)), [39, 38, 37, 26, 25, 19, 18, 6, 5, 2, 1, 0, 4, 3, 17, 9, 8, 7, 16, 10, 15, 14, 11, 13, 12, 24, 22, 20, 21, 23, 36, 30, 29, 27, 28, 35, 33, 31, 32, 34, 40]⟩, ⟨(some 177), (.mov (.tmp 176)), (some (173, false)), [41, 39, 38, 37, 26, 25, 19, 18, 6, 5, 2, 1, 0, 4, 3, 17, 9, 8, 7, 16, 10, 15, 14, 11, 13, 12, 24, 22, 20, 21, 23, 36, 30, 29, 27, 28, 35, 33, 31, 32, 34, 40]⟩, ⟨(some 178), (.mov (.tmp 14)), (some (177, true)), [42, 41, 39, 38, 37, 26, 25, 19, 18, 6, 5, 2, 1, 0, 4, 3, 17, 9, 8, 7, 16, 10, 15, 14, 11, 13, 12, 24, 22, 20, 21, 23, 36, 30, 29, 27, 28, 35, 33, 31, 32, 34, 40]⟩, ⟨(some 179), (.mov (.tmp 15)), (some (177, true)), [42, 41, 39, 38, 37, 26, 25, 19, 18, 6, 5, 2, 1, 0, 4, 3, 17, 9, 8, 7, 16, 10, 15, 14, 11, 13, 12, 24, 22, 20, 21, 23, 36, 30, 29, 27, 28, 35, 33, 31, 32, 34, 40]⟩, ⟨(some 180), (.bin .mul (.tmp 178) (.tmp 179)), (some (177, true)), [43, 42, 41, 39, 38, 37, 26, 25, 19, 18, 6, 5, 2, 1, 0, 4, 3, 17, 9, 8, 7, 16, 10, 15, 14, 11, 13, 12, 24, 22, 20, 21, 23, 36, 30, 29, 27, 28, 35, 33, 31, 32, 34, 40, 44]⟩, ⟨(some 181), (.mov (.tmp 8)), (some (177, true)), [42, 41, 39, 38, 37, 26, 25, 19, 18, 6, 5, 2, 1, 0, 4, 3, 17, 9, 8, 7, 16, 10, 15, 14, 11, 13, 12, 24, 22, 20, 21, 23, 36, 30, 29, 27, 28, 35, 33, 31, 32, 34, 40]⟩, ⟨(some 182), (.bin .neq (.tmp 180) (.tmp 181)), (some (177, true)), [45, 43, 42, 41, 39, 38, 37, 26, 25, 19, 18, 6, 5, 2, 1, 0, 4, 3, 17, 9, 8, 7, 16, 10, 15, 14, 11, 13, 12, 24, 22, 20, 21, 23, 36, 30, 29, 27, 28, 35, 33, 31, 32, 34, 40, 44, 46]⟩, ⟨(some 183), (.pick (.tmp 177) (.tmp 182) (.const (.bool false))), (some (173, false)), [42, 41, 39, 38, 37, 26, 25, 19, 18, 6, 5, 2, 1, 0, 4, 3, 17, 9, 8, 7, 16, 10, 15, 14, 11, 13, 12, 24, 22, 20, 21, 23, 36, 30, 29, 27, 28, 35, 33, 31, 32, 34, 40, 47, 45, 43, 44, 46]⟩, ⟨(some 184), (.pick (.tmp 173) (.const (.bool true)) (.tmp 183)), none, [38, 37, 26, 25, 19, 18, 6, 5, 2, 1, 0, 4, 3, 17, 9, 8, 7, 16, 10, 15, 14, 11, 13, 12, 24, 22, 20, 21, 23, 36, 30, 29, 27, 28, 35, 33, 31, 32, 34, 48, 42, 41, 39, 40, 47, 45, 43, 44, 46]⟩]) (.cond (.tmp 184) (.seq (.ops false [⟨(some 2), (.mov (.const (.bool false))), none, []⟩]) .ret) .skip)) (.seq (.ops true [⟨(some 185), (.mov (.tmp 14)), none, []⟩, ⟨(some 186), (.bin .gtr (.tmp 185) (.const (.int .i64 0))), none, [0]⟩, ⟨(some 187), (.mov (.tmp 186)), none, [1, 0]⟩, ⟨(some 188), (.mov (.tmp 14)), (some (187, true)), [2, 1, 0]⟩, ⟨(some 189), (.bin .sub (.tmp 188) (.const (.int .i64 1))), (some (187, true)), [3, 2, 1, 0]⟩, ⟨(some 190), (.mov (.tmp 3)), (some (187, true)), [2, 1, 0]⟩, ⟨(some 191), (.mov (.tmp 14)), (some (187, true)), [2, 1, 0]⟩, ⟨(some 192), (.bin .sub (.tmp 191) (.const (.int .i64 1))), (some (187, true)), [6, 2, 1, 0]⟩, ⟨(some 193), (.minmax true (.const (.int .i64 0)) [(.tmp 192)]), (some (187, true)), [7, 6, 2, 1, 0]⟩, ⟨(some 194), (.iaddr 1 (.tmp 190) (.tmp 193)), (some (187, true)), [5, 2, 1, 0, 8, 7, 6]⟩, ⟨(some 195), (.load none (.tmp 194)), (some (187, true)), [9, 5, 2, 1, 0, 8, 7, 6]⟩, ⟨(some 196), (.bin .mul (.tmp 189) (.tmp 195)), (some (187, true)), [4, 3, 2, 1, 0, 10, 9, 5, 8, 7, 6]⟩, ⟨(some 197), (.mov (.tmp 14)), (some (187, true)), [2, 1, 0]⟩, ⟨(some 198), (.mov (.tmp 15)), (some (187, true)), [2, 1, 0]⟩, ⟨(some 199), (.bin .mul (.tmp 197) (.tmp 198)), (some (187, true)), [12, 2, 1, 0, 13]⟩, ⟨(some 200), (.bin .geq (.tmp 196) (.tmp 199)), (some (187, true)), [11, 4, 3, 2, 1, 0, 10, 9, 5, 8, 7, 6, 14, 12, 13]⟩, ⟨(some 201), (.pick (.tmp 187) (.tmp 200) (.const (.bool false))), none, [2, 1, 0, 15, 11, 4, 3, 10, 9, 5, 8, 7, 6, 14, 12, 13]⟩, ⟨(some 202), (.mov (.tmp 14)), none, []⟩, ⟨(some 203), (.mov (.tmp 5)), none, []⟩, ⟨(some 204), (.bin .lss (.tmp 202) (.tmp 203)), none, [17, 18]⟩, ⟨(some 205), (.mov (.tmp 204)), none, [19, 17, 18, 2, 1, 0]⟩, ⟨(some 206), (.mov (.tmp 14)), (some (205, true)), [20, 19, 17, 18, 2, 1, 0]⟩, ⟨(some 207), (.bin .add (.tmp 206) (.const (.int .i64 1))), (some (205, true)), [21, 20, 19, 17, 18, 2, 1, 0]⟩, ⟨(some 208), (.mov (.tmp 3)), (some (205, true)), [20, 19, 17, 18, 2, 1, 0]⟩, ⟨(some 209), (.mov (.tmp 5)), (some (205, true)), [20, 19, 17, 18, 2, 1, 0]⟩, ⟨(some 210), (.mov (.tmp 14)), (some (205, true)), [20, 19, 17, 18, 2, 1, 0]⟩, ⟨(some 211), (.bin .add (.tmp 210) (.const (.int .i64 1))), (some (205, true)), [25, 20, 19, 17, 18, 2, 1, 0]⟩, ⟨(some 212), (.minmax false (.tmp 209) [(.tmp 211)]), (some (205, true)), [24, 20, 19, 17, 18, 2, 1, 0, 26, 25]⟩, ⟨(some 213), (.iaddr 1 (.tmp 208) (.tmp 212)), (some (205, true)), [23, 20, 19, 17, 18, 2, 1, 0, 27, 24, 26, 25]⟩, ⟨(some 214), (.load none (.tmp 213)), (some (205, true)), [28, 23, 20, 19, 17, 18, 2, 1, 0, 27, 24, 26, 25]⟩, ⟨(some 215), (.bin .mul (.tmp 207) (.tmp 214)), (some (205, true)), [22, 21, 20, 19, 17, 18, 2, 1, 0, 29, 28, 23, 27, 24, 26, 25]⟩, ⟨(some 216), (.mov (.tmp 14)), (some (205, true)), [20, 19, 17, 18, 2, 1, 0]⟩, ⟨(some 217), (.mov (.tmp 15)), (some (205, true)), [20, 19, 17, 18, 2, 1, 0]⟩, ⟨(some 218), (.bin .mul (.tmp 216) (.tmp 217)), (some (205, true)), [31, 20, 19, 17, 18, 2, 1, 0, 32]⟩, ⟨(some 219), (.bin .gtr (.tmp 215) (.tmp 218)), (some (205, true)), [30, 22, 21, 20, 19, 17, 18, 2, 1, 0, 29, 28, 23, 27, 24, 26, 25, 33, 31, 32]⟩, ⟨(some 220), (.pick (.tmp 205) (.tmp 219) (.const (.bool false))), none, [20, 19, 17, 18, 2, 1, 0, 34, 30, 22, 21, 29, 28, 23, 27, 24, 26, 25, 33, 31, 32]⟩, ⟨(some 16), (.mov (.tmp 201)), none, [16, 2, 1, 0, 15, 11, 4, 3, 10, 9, 5, 8, 7, 6, 14, 12, 13, 20, 19, 17, 18]⟩, ⟨(some 17), (.mov (.tmp 220)), none, [35, 20, 19, 17, 18, 2, 1, 0, 34, 30, 22, 21, 29, 28, 23, 27, 24, 26, 25, 33, 31, 32, 36, 16, 15, 11, 4, 3, 10, 9, 5, 8, 7, 6, 14, 12, 13]⟩]) (.seq (.ops false [⟨(some 221), (.mov (.tmp 10)), none, []⟩, ⟨(some 222), (.mov (.tmp 14)), none, []⟩, ⟨(some 223), (.call (.func 65) [(.tmp 221), (.tmp 222)]), none, [0, 1]⟩, ⟨(some 224), (.mov (.tmp 223)), none, [2, 0, 1]⟩, ⟨(some 225), (.mov (.tmp 16)), (some (224, true)), [3, 2, 0, 1]⟩, ⟨(some 226), (.mov (.tmp 225)), (some (224, true)), [4, 3, 2, 0, 1]⟩, ⟨(some 227), (.mov (.tmp 17)), (some (226, false)), [5, 4, 3, 2, 0, 1]⟩, ⟨(some 228), (.pick (.tmp 226) (.const (.bool true)) (.tmp 227)), (some (224, true)), [5, 4, 3, 2, 0, 1, 6]⟩, ⟨(some 229), (.mov (.tmp 228)), (some (224, true)), [7, 5, 4, 3, 2, 0, 1, 6]⟩, ⟨(some 230), (.mov (.tmp 14)), (some (229, false)), [8, 7, 5, 4, 3, 2, 0, 1, 6]⟩, ⟨(some 231), (.mov (.tmp 15)), (some (229, false)), [8, 7, 5, 4, 3, 2, 0, 1, 6]⟩, ⟨(some 232), (.bin .mul (.tmp 230) (.tmp 231)), (some (229, false)), [9, 8, 7, 5, 4, 3, 2, 0, 1, 6, 10]⟩, ⟨(some 233), (.bin .lss (.tmp 232) (.const (.int .i64 1))), (some (229, false)), [11, 9, 8, 7, 5, 4, 3, 2, 0, 1, 6, 10]⟩, ⟨(some 234), (.pick (.tmp 229) (.const (.bool true)) (.tmp 233)), (some (224, true)), [8, 7, 5, 4, 3, 2, 0, 1, 6, 12, 11, 9, 10]⟩, ⟨(some 235), (.pick (.tmp 224) (.tmp 234) (.const (.bool false))), none, [3, 2, 0, 1, 13, 8, 7, 5, 4, 6, 12, 11, 9, 10]⟩]) (.cond (.tmp 235) (.seq (.ops false [⟨(some 2), (.mov (.const (.bool false))), none, []⟩]) .ret) .skip)))))) (.ops false [⟨(some 236), (.bin .add (.tmp 130) (.const (.int .i64 1))), none, []⟩, ⟨(some 130), (.mov (.tmp 236)), none, [0]⟩]))))
def dk8_0 : Keep := ⟨[], [0, 3, 5, 7, 8, 10, 12, 128, 129, 130], [257, 259, 269, 271, 279]⟩
def db8_1 : DC := (.seq (.ops false [⟨(some 288), (.bin .lss (.tmp 287) (.tmp 286)), none, []⟩]) (.seq (.cond (.tmp 288) .skip (.exit 4)) (.seq (.block 5 none (.seq (.ops false [⟨(some 289), (.iaddr 1 (.tmp 285) (.tmp 287)), none, []⟩, ⟨(some 290), (.load none (.tmp 289)), none, [0]⟩, ⟨(some 22), (.mov (.tmp 290)), none, [1, 0]⟩]) (.seq (.ops false [⟨(some 292), (.mov (.tmp 22)), none, []⟩, ⟨(some 293), (.call (.func 29) [(.tmp 292)]), none, [0]⟩, ⟨(some 294), (.mov (.tmp 19)), none, []⟩, ⟨(some 295), (.call (.func 30) [(.tmp 293), (.tmp 294)]), none, [1, 0, 2]⟩, ⟨(some 291), (.mov (.tmp 295)), none, [3, 1, 0, 2]⟩, ⟨(some 296), (.extract (.tmp 291) 0), none, [4, 3, 1, 0, 2]⟩, ⟨(some 297), (.extract (.tmp 291) 1), none, [4, 3, 1, 0, 2]⟩, ⟨(some 23), (.mov (.tmp 296)), none, [5, 4, 3, 1, 0, 2]⟩, ⟨(some 24), (.mov (.tmp 297)), none, [6, 4, 3, 1, 0, 2, 7, 5]⟩]) (.seq (.seq (.ops false [⟨(some 298), (.mov (.tmp 24)), none, []⟩, ⟨(some 299), (.bin .neq (.tmp 298) (.const (.int .i64 0))), none, [0]⟩]) (.cond (.tmp 299) (.seq (.ops false [⟨(some 2), (.mov (.const (.bool false))), none, []⟩]) .ret) .skip)) (.ops false [⟨(some 300), (.mov (.tmp 20)), none, []⟩, ⟨(some 301), (.mov (.tmp 23)), none, []⟩, ⟨(some 302), (.bin .add (.tmp 300) (.tmp 301)), none, [0, 1]⟩, ⟨(some 20), (.mov (.tmp 302)), none, [2, 0, 1]⟩]))))) (.ops false [⟨(some 303), (.bin .add (.tmp 287) (.const (.int .i64 1))), none, []⟩, ⟨(some 287), (.mov (.tmp 303)), none, [0]⟩]))))
def dk8_1 : Keep := ⟨[], [0, 3, 5, 19, 20, 279, 280, 281, 285, 286, 287], [257, 259, 269, 271, 279]⟩
def db8_2 : DC := (.seq (.ops false [⟨(some 282), (.bin .lss (.tmp 281) (.tmp 280)), none, []⟩]) (.seq (.cond (.tmp 282) .skip (.exit 2)) (.seq (.block 3 (some ⟨[], [0, 3, 5, 279, 280, 281], [257, 259, 269, 271, 279]⟩) (.seq (.ops false [⟨(some 283), (.iaddr 1 (.tmp 279) (.tmp 281)), none, []⟩, ⟨(some 284), (.load none (.tmp 283)), none, [0]⟩, ⟨(some 19), (.mov (.tmp 284)), none, [1, 0]⟩]) (.seq (.ops false [⟨(some 20), (.mov (.const (.int .i64 0))), none, []⟩]) (.seq (.seq (.ops false [⟨(some 285), (.mov (.tmp 0)), none, []⟩, ⟨(some 286), (.len (.tmp 285)), none, [0]⟩, ⟨(some 287), (.mov (.const (.int .i64 0))), none, []⟩]) (.block 4 (some ⟨[], [0, 3, 5, 19, 20, 279, 280, 281], [257, 259, 269, 271, 279]⟩) (.loop dk8_1 db8_1))) (.seq (.ops false [⟨(some 305), (.mov (.tmp 0)), none, []⟩, ⟨(some 306), (.call (.func 40) [(.tmp 305)]), none, [0]⟩, ⟨(some 307), (.mov (.tmp 19)), none, []⟩, ⟨(some 308), (.call (.func 41) [(.tmp 306), (.tmp 307)]), none, [1, 0, 2]⟩, ⟨(some 304), (.mov (.tmp 308)), none, [3, 1, 0, 2]⟩, ⟨(some 309), (.extract (.tmp 304) 0), none, [4, 3, 1, 0, 2]⟩, ⟨(some 310), (.extract (.tmp 304) 1), none, [4, 3, 1, 0, 2]⟩, ⟨(some 25), (.mov (.tmp 309)), none, [5, 4, 3, 1, 0, 2]⟩, ⟨(some 26), (.mov (.tmp 310)), none, [6, 4, 3, 1, 0, 2, 7, 5]⟩]) (.seq (.ops false [⟨(some 312), (.mov (.tmp 0)), none, []⟩, ⟨(some 313), (.call (.func 40) [(.tmp 312)]), none, [0]⟩, ⟨(some 314), (.mov (.tmp 19)), none, []⟩, ⟨(some 315), (.call (.func 42) [(.tmp 313), (.tmp 314)]), none, [1, 0, 2]⟩, ⟨(some 311), (.mov (.tmp 315)), none, [3, 1, 0, 2]⟩, ⟨(some 316), (.extract (.tmp 311) 0), none, [4, 3, 1, 0, 2]⟩, ⟨(some 317), (.extract (.tmp 311) 1), none, [4, 3, 1, 0, 2]⟩, ⟨(some 27), (.mov (.tmp 316)), none, [5, 4, 3, 1, 0, 2]⟩, ⟨(some 28), (.mov (.tmp 317)), none, [6, 4, 3, 1, 0, 2, 7, 5]⟩]) (.seq (.ops false [⟨(some 318), (.mov (.tmp 26)), none, []⟩, ⟨(some 319), (.bin .neq (.tmp 318) (.const (.int .i64 0))), none, [0]⟩, ⟨(some 320), (.mov (.tmp 319)), none, [1, 0]⟩, ⟨(some 321), (.mov (.tmp 28)), (some (320, false)), [2, 1, 0]⟩, ⟨(some 322), (.bin .neq (.tmp 321) (.const (.int .i64 0))), (some (320, false)), [3, 2, 1, 0]⟩, ⟨(some 323), (.pick (.tmp 320) (.const (.bool true)) (.tmp 322)), none, [2, 1, 0, 4, 3]⟩, ⟨(some 324), (.mov (.tmp 323)), none, [5, 2, 1, 0, 4, 3]⟩, ⟨(some 325), (.mov (.tmp 25)), (some (324, false)), [6, 5, 2, 1, 0, 4, 3]⟩, ⟨(some 326), (.mov (.tmp 20)), (some (324, false)), [6, 5, 2, 1, 0, 4, 3]⟩, ⟨(some 327), (.bin .neq (.tmp 325) (.tmp 326)), (some (324, false)), [7, 6, 5, 2, 1, 0, 4, 3, 8]⟩, ⟨(some 328), (.pick (.tmp 324) (.const (.bool true)) (.tmp 327)), none, [6, 5, 2, 1, 0, 4, 3, 9, 7, 8]⟩, ⟨(some 329), (.mov (.tmp 328)), none, [10, 6, 5, 2, 1, 0, 4, 3, 9, 7, 8]⟩, ⟨(some 330), (.mov (.tmp 25)), (some (329, false)), [11, 10, 6, 5, 2, 1, 0, 4, 3, 9, 7, 8]⟩, ⟨(some 331), (.mov (.tmp 3)), (some (329, false)), [11, 10, 6, 5, 2, 1, 0, 4, 3, 9, 7, 8]⟩, ⟨(some 332), (.mov (.tmp 19)), (some (329, false)), [11, 10, 6, 5, 2, 1, 0, 4, 3, 9, 7, 8]⟩, ⟨(some 333), (.iaddr 1 (.tmp 331) (.tmp 332)), (some (329, false)), [13, 11, 10, 6, 5, 2, 1, 0, 4, 3, 9, 7, 8, 14]⟩, ⟨(some 334), (.load none (.tmp 333)), (some (329, false)), [15, 13, 11, 10, 6, 5, 2, 1, 0, 4, 3, 9, 7, 8, 14]⟩, ⟨(some 335), (.bin .neq (.tmp 330) (.tmp 334)), (some (329, false)), [12, 11, 10, 6, 5, 2, 1, 0, 4, 3, 9, 7, 8, 16, 15, 13, 14]⟩, ⟨(some 336), (.pick (.tmp 329) (.const (.bool true)) (.tmp 335)), none, [11, 10, 6, 5, 2, 1, 0, 4, 3, 9, 7, 8, 17, 12, 16, 15, 13, 14]⟩, ⟨(some 337), (.mov (.tmp 336)), none, [18, 11, 10, 6, 5, 2, 1, 0, 4, 3, 9, 7, 8, 17, 12, 16, 15, 13, 14]⟩, ⟨(some 338), (.mov (.tmp 27)), (some (337, false)), [19, 18, 11, 10, 6, 5, 2, 1, 0, 4, 3, 9, 7, 8, 17, 12, 16, 15, 13, 14]⟩, ⟨(some 339), (.mov (.tmp 19)), (some (337, false)), [19, 18, 11, 10, 6, 5, 2, 1, 0, 4, 3, 9, 7, 8, 17, 12, 16, 15, 13, 14]⟩, ⟨(some 340), (.mov (.tmp 25)), (some (337, false)), [19, 18, 11, 10, 6, 5, 2, 1, 0, 4, 3, 9, 7, 8, 17, 12, 16, 15, 13, 14]⟩, ⟨(some 341), (.bin .mul (.tmp 339) (.tmp 340)), (some (337, false)), [21, 19, 18, 11, 10, 6, 5, 2, 1, 0, 4, 3, 9, 7, 8, 17, 12, 16, 15, 13, 14, 22]⟩, ⟨(some 342), (.bin .neq (.tmp 338) (.tmp 341)), (some (337, false)), [20, 19, 18, 11, 10, 6, 5, 2, 1, 0, 4, 3, 9, 7, 8, 17, 12, 16, 15, 13, 14, 23, 21, 22]⟩, ⟨(some 343), (.pick (.tmp 337) (.const (.bool true)) (.tmp 342)), none, [19, 18, 11, 10, 6, 5, 2, 1, 0, 4, 3, 9, 7, 8, 17, 12, 16, 15, 13, 14, 24, 20, 23, 21, 22]⟩]) (.cond (.tmp 343) (.seq (.ops false [⟨(some 2), (.mov (.const (.bool false))), none, []⟩]) .ret) .skip)))))))) (.ops false [⟨(some 344), (.bin .add (.tmp 281) (.const (.int .i64 1))), none, []⟩, ⟨(some 281), (.mov (.tmp 344)), none, [0]⟩]))))
def dk8_2 : Keep := ⟨[], [0, 3, 5, 279, 280, 281], [257, 259, 269, 271, 279]⟩
def dc8 : DFunc := ⟨365, 1, [(.tmp 2)], (.seq (.ops false [⟨(some 2), (.mov (.const (.bool false))), none, []⟩]) (.seq (.seq (.ops false [⟨(some 31), (.mov (.tmp 0)), none, []⟩, ⟨(some 32), (.call (.func 64) [(.tmp 31)]), none, [0]⟩, ⟨(some 33), (.un .not (.tmp 32)), none, [1, 0]⟩]) (.cond (.tmp 33) (.seq (.ops false [⟨(some 34), (.call (.func 13) []), none, []⟩, ⟨(some 2), (.mov (.tmp 34)), none, [0]⟩]) .ret) .skip)) (.seq (.ops false [⟨(some 36), (.mov (.tmp 0)), none, []⟩, ⟨(some 37), (.call (.func 40) [(.tmp 36)]), none, [0]⟩, ⟨(some 38), (.call (.func 43) [(.tmp 37)]), none, [1, 0]⟩, ⟨(some 35), (.mov (.tmp 38)), none, [2, 1, 0]⟩, ⟨(some 39), (.extract (.tmp 35) 0), none, [3, 2, 1, 0]⟩, ⟨(some 40), (.extract (.tmp 35) 1), none, [3, 2, 1, 0]⟩, ⟨(some 3), (.mov (.tmp 39)), none, [4, 3, 2, 1, 0]⟩, ⟨(some 4), (.mov (.tmp 40)), none, [5, 3, 2, 1, 0, 6, 4]⟩]) (.seq (.ops false [⟨(some 42), (.mov (.tmp 0)), none, []⟩, ⟨(some 43), (.call (.func 40) [(.tmp 42)]), none, [0]⟩, ⟨(some 44), (.call (.func 39) [(.tmp 43)]), none, [1, 0]⟩, ⟨(some 41), (.mov (.tmp 44)), none, [2, 1, 0]⟩, ⟨(some 45), (.extract (.tmp 41) 0), none, [3, 2, 1, 0]⟩, ⟨(some 46), (.extract (.tmp 41) 1), none, [3, 2, 1, 0]⟩, ⟨(some 5), (.mov (.tmp 45)), none, [4, 3, 2, 1, 0]⟩, ⟨(some 6), (.mov (.tmp 46)), none, [5, 3, 2, 1, 0, 6, 4]⟩]) (.seq (.ops false [⟨(some 48), (.mov (.tmp 0)), none, []⟩, ⟨(some 49), (.call (.func 40) [(.tmp 48)]), none, [0]⟩, ⟨(some 50), (.call (.func 55) [(.tmp 49)]), none, [1, 0]⟩, ⟨(some 47), (.mov (.tmp 50)), none, [2, 1, 0]⟩, ⟨(some 51), (.extract (.tmp 47) 0), none, [3, 2, 1, 0]⟩, ⟨(some 52), (.extract (.tmp 47) 1), none, [3, 2, 1, 0]⟩, ⟨(some 53), (.extract (.tmp 47) 2), none, [3, 2, 1, 0]⟩, ⟨(some 7), (.mov (.tmp 51)), none, [4, 3, 2, 1, 0]⟩, ⟨(some 8), (.mov (.tmp 52)), none, [5, 3, 2, 1, 0, 7, 4]⟩, ⟨(some 9), (.mov (.tmp 53)), none, [6, 3, 2, 1, 0, 8, 5, 7, 4]⟩]) (.seq (.ops false [⟨(some 55), (.mov (.tmp 0)), none, []⟩, ⟨(some 56), (.call (.func 40) [(.tmp 55)]), none, [0]⟩, ⟨(some 57), (.call (.func 54) [(.tmp 56)]), none, [1, 0]⟩, ⟨(some 54), (.mov (.tmp 57)), none, [2, 1, 0]⟩, ⟨(some 58), (.extract (.tmp 54) 0), none, [3, 2, 1, 0]⟩, ⟨(some 59), (.extract (.tmp 54) 1), none, [3, 2, 1, 0]⟩, ⟨(some 10), (.mov (.tmp 58)), none, [4, 3, 2, 1, 0]⟩, ⟨(some 11), (.mov (.tmp 59)), none, [5, 3, 2, 1, 0, 6, 4]⟩]) (.seq (.ops false [⟨(some 61), (.mov (.tmp 0)), none, []⟩, ⟨(some 62), (.call (.func 40) [(.tmp 61)]), none, [0]⟩, ⟨(some 63), (.call (.func 56) [(.tmp 62)]), none, [1, 0]⟩, ⟨(some 60), (.mov (.tmp 63)), none, [2, 1, 0]⟩, ⟨(some 64), (.extract (.tmp 60) 0), none, [3, 2, 1, 0]⟩, ⟨(some 65), (.extract (.tmp 60) 1), none, [3, 2, 1, 0]⟩, ⟨(some 12), (.mov (.tmp 64)), none, [4, 3, 2, 1, 0]⟩, ⟨(some 13), (.mov (.tmp 65)), none, [5, 3, 2, 1, 0, 6, 4]⟩]) (.seq (.seq (.ops false [⟨(some 66), (.mov (.tmp 4)), none, []⟩, ⟨(some 67), (.bin .neq (.tmp 66) (.const (.int .i64 0))), none, [0]⟩, ⟨(some 68), (.mov (.tmp 67)), none, [1, 0]⟩, ⟨(some 69), (.mov (.tmp 6)), (some (68, false)), [2, 1, 0]⟩, ⟨(some 70), (.bin .neq (.tmp 69) (.const (.int .i64 0))), (some (68, false)), [3, 2, 1, 0]⟩, ⟨(some 71), (.pick (.tmp 68) (.const (.bool true)) (.tmp 70)), none, [2, 1, 0, 4, 3]⟩, ⟨(some 72), (.mov (.tmp 71)), none, [5, 2, 1, 0, 4, 3]⟩, ⟨(some 73), (.mov (.tmp 9)), (some (72, false)), [6, 5, 2, 1, 0, 4, 3]⟩, ⟨(some 74), (.bin .neq (.tmp 73) (.const (.int .i64 0))), (some (72, false)), [7, 6, 5, 2, 1, 0, 4, 3]⟩, ⟨(some 75), (.pick (.tmp 72) (.const (.bool true)) (.tmp 74)), none, [6, 5, 2, 1, 0, 4, 3, 8, 7]⟩, ⟨(some 76), (.mov (.tmp 75)), none, [9, 6, 5, 2, 1, 0, 4, 3, 8, 7]⟩, ⟨(some 77), (.mov (.tmp 11)), (some (76, false)), [10, 9, 6, 5, 2, 1, 0, 4, 3, 8, 7]⟩, ⟨(some 78), (.bin .neq (.tmp 77) (.const (.int .i64 0))), (some (76, false)), [11, 10, 9, 6, 5, 2, 1, 0, 4, 3, 8, 7]⟩, ⟨(some 79), (.pick (.tmp 76) (.const (.bool true)) (.tmp 78)), none, [10, 9, 6, 5, 2, 1, 0, 4, 3, 8, 7, 12, 11]⟩, ⟨(some 80), (.mov (.tmp 79)), none, [13, 10, 9, 6, 5, 2, 1, 0, 4, 3, 8, 7, 12, 11]⟩, ⟨(some 81), (.mov (.tmp 13)), (some (80, false)), [14, 13, 10, 9, 6, 5, 2, 1, 0, 4, 3, 8, 7, 12, 11]⟩, ⟨(some 82), (.bin .neq (.tmp 81) (.const (.int .i64 0))), (some (80, false)), [15, 14, 13, 10, 9, 6, 5, 2, 1, 0, 4, 3, 8, 7, 12, 11]⟩, ⟨(some 83), (.pick (.tmp 80) (.const (.bool true)) (.tmp 82)), none, [14, 13, 10, 9, 6, 5, 2, 1, 0, 4, 3, 8, 7, 12, 11, 16, 15]⟩, ⟨(some 84), (.mov (.tmp 83)), none, [17, 14, 13, 10, 9, 6, 5, 2, 1, 0, 4, 3, 8, 7, 12, 11, 16, 15]⟩, ⟨(some 85), (.mov (.tmp 5)), (some (84, false)), [18, 17, 14, 13, 10, 9, 6, 5, 2, 1, 0, 4, 3, 8, 7, 12, 11, 16, 15]⟩, ⟨(some 86), (.bin .lss (.tmp 85) (.const (.int .i64 0))), (some (84, false)), [19, 18, 17, 14, 13, 10, 9, 6, 5, 2, 1, 0, 4, 3, 8, 7, 12, 11, 16, 15]⟩, ⟨(some 87), (.pick (.tmp 84) (.const (.bool true)) (.tmp 86)), none, [18, 17, 14, 13, 10, 9, 6, 5, 2, 1, 0, 4, 3, 8, 7, 12, 11, 16, 15, 20, 19]⟩, ⟨(some 88), (.mov (.tmp 87)), none, [21, 18, 17, 14, 13, 10, 9, 6, 5, 2, 1, 0, 4, 3, 8, 7, 12, 11, 16, 15, 20, 19]⟩, ⟨(some 89), (.mov (.tmp 5)), (some (88, false)), [22, 21, 18, 17, 14, 13, 10, 9, 6, 5, 2, 1, 0, 4, 3, 8, 7, 12, 11, 16, 15, 20, 19]⟩, ⟨(some 90), (.bin .gtr (.tmp 89) (.const (.int .i64 800))), (some (88, false)), [23, 22, 21, 18, 17, 14, 13, 10, 9, 6, 5, 2, 1, 0, 4, 3, 8, 7, 12, 11, 16, 15, 20, 19]⟩, ⟨(some 91), (.pick (.tmp 88) (.const (.bool true)) (.tmp 90)), none, [22, 21, 18, 17, 14, 13, 10, 9, 6, 5, 2, 1, 0, 4, 3, 8, 7, 12, 11, 16, 15, 20, 19, 24, 23]⟩, ⟨(some 92), (.mov (.tmp 91)), none, [25, 22, 21, 18, 17, 14, 13, 10, 9, 6, 5, 2, 1, 0, 4, 3, 8, 7, 12, 11, 16, 15, 20, 19, 24, 23]⟩, ⟨(some 93), (.mov (.tmp 3)), (some (92, false)), [26, 25, 22, 21, 18, 17, 14, 13, 10, 9, 6, 5, 2, 1, 0, 4, 3, 8, 7, 12, 11, 16, 15, 20, 19, 24, 23]⟩, ⟨(some 94), (.len (.tmp 93)), (some (92, false)), [27, 26, 25, 22, 21, 18, 17, 14, 13, 10, 9, 6, 5, 2, 1, 0, 4, 3, 8, 7, 12, 11, 16, 15, 20, 19, 24, 23]⟩, ⟨(some 95), (.mov (.tmp 5)), (some (92, false)), [26, 25, 22, 21, 18, 17, 14, 13, 10, 9, 6, 5, 2, 1, 0, 4, 3, 8, 7, 12, 11, 16, 15, 20, 19, 24, 23]⟩, ⟨(some 96), (.bin .add (.tmp 95) (.const (.int .i64 1))), (some (92, false)), [29, 26, 25, 22, 21, 18, 17, 14, 13, 10, 9, 6, 5, 2, 1, 0, 4, 3, 8, 7, 12, 11, 16, 15, 20, 19, 24, 23]⟩, ⟨(some 97), (.bin .neq (.tmp 94) (.tmp 96)), (some (92, false)), [28, 27, 26, 25, 22, 21, 18, 17, 14, 13, 10, 9, 6, 5, 2, 1, 0, 4, 3, 8, 7, 12, 11, 16, 15, 20, 19, 24, 23, 30, 29]⟩, ⟨(some 98), (.pick (.tmp 92) (.const (.bool true)) (.tmp 97)), none, [26, 25, 22, 21, 18, 17, 14, 13, 10, 9, 6, 5, 2, 1, 0, 4, 3, 8, 7, 12, 11, 16, 15, 20, 19, 24, 23, 31, 28, 27, 30, 29]⟩, ⟨(some 99), (.mov (.tmp 98)), none, [32, 26, 25, 22, 21, 18, 17, 14, 13, 10, 9, 6, 5, 2, 1, 0, 4, 3, 8, 7, 12, 11, 16, 15, 20, 19, 24, 23, 31, 28, 27, 30, 29]⟩, ⟨(some 100), (.mov (.tmp 7)), (some (99, false)), [33, 32, 26, 25, 22, 21, 18, 17, 14, 13, 10, 9, 6, 5, 2, 1, 0, 4, 3, 8, 7, 12, 11, 16, 15, 20, 19, 24, 23, 31, 28, 27, 30, 29]⟩, ⟨(some 101), (.bin .lss (.tmp 100) (.const (.int .i64 0))), (some (99, false)), [34, 33, 32, 26, 25, 22, 21, 18, 17, 14, 13, 10, 9, 6, 5, 2, 1, 0, 4, 3, 8, 7, 12, 11, 16, 15, 20, 19, 24, 23, 31, 28, 27, 30, 29]⟩, ⟨(some 102), (.pick (.tmp 99) (.const (.bool true)) (.tmp 101)), none, [33, 32, 26, 25, 22, 21, 18, 17, 14, 13, 10, 9, 6, 5, 2, 1, 0, 4, 3, 8, 7, 12, 11, 16, 15, 20, 19, 24, 23, 31, 28, 27, 30, 29, 35, 34]⟩, ⟨(some 103), (.mov (.tmp 102)), none, [36, 33, 32, 26, 25, 22, 21, 18, 17, 14, 13, 10, 9, 6, 5, 2, 1, 0, 4, 3, 8, 7, 12, 11, 16, 15, 20, 19, 24, 23, 31, 28, 27, 30, 29, 35, 34]⟩, ⟨(some 104), (.mov (.tmp 7)), (some (103, false)), [37, 36, 33, 32, 26, 25, 22, 21, 18, 17, 14, 13, 10, 9, 6, 5, 2, 1, 0, 4, 3, 8, 7, 12, 11, 16, 15, 20, 19, 24, 23, 31, 28, 27, 30, 29, 35, 34]⟩, ⟨(some 105), (.mov (.tmp 5)), (some (103, false)), [37, 36, 33, 32, 26, 25, 22, 21, 18, 17, 14, 13, 10, 9, 6, 5, 2, 1, 0, 4, 3, 8, 7, 12, 11, 16, 15, 20, 19, 24, 23, 31, 28, 27, 30, 29, 35, 34]⟩, ⟨(some 106), (.bin .gtr (.tmp 104) (.tmp 105)), (some (103, false)), [38, 37, 36, 33, 32, 26, 25, 22, 21, 18, 17, 14, 13, 10, 9, 6, 5, 2, 1, 0, 4, 3, 8, 7, 12, 11, 16, 15, 20, 19, 24, 23, 31, 28, 27, 30, 29, 35, 34, 39]⟩, ⟨(some 107), (.pick (.tmp 103) (.const (.bool true)) (.tmp 106)), none, [37, 36, 33, 32, 26, 25, 22, 21, 18, 17, 14, 13, 10, 9, 6, 5, 2, 1, 0, 4, 3, 8, 7, 12, 11, 16, 15, 20, 19, 24, 23, 31, 28, 27, 30, 29, 35, 34, 40, 38, 39]⟩, ⟨(some 108), (.mov (.tmp 107)), none, [41, 37, 36, 33, 32, 26, 25, 22, 21, 18, 17, 14, 13, 10, 9, 6, 5, 2, 1, 0, 4, 3, 8, 7, 12, 11, 16, 15, 20, 19, 24, 23, 31, 28, 27, 30, 29, 35, 34, 40, 38, 39]⟩, ⟨(some 109), (.mov (.tmp 8)), (some (108, false)), [42, 41, 37, 36, 33, 32, 26, 25, 22, 21, 18, 17, 14, 13, 10, 9, 6, 5, 2, 1, 0, 4, 3, 8, 7, 12, 11, 16, 15, 20, 19, 24, 23, 31, 28, 27, 30, 29, 35, 34, 40, 38, 39]⟩, ⟨(some 110), (.bin .lss (.tmp 109) (.const (.int .i64 0))), (some (108, false)), [43, 42, 41, 37, 36, 33, 32, 26, 25, 22, 21, 18, 17, 14, 13, 10, 9, 6, 5, 2, 1, 0, 4, 3, 8, 7, 12, 11, 16, 15, 20, 19, 24, 23, 31, 28, 27, 30, 29, 35, 34, 40, 38, 39]⟩, ⟨(some 111), (.pick (.tmp 108) (.const (.bool true)) (.tmp 110)), none, [42, 41, 37, 36, 33, 32, 26, 25, 22, 21, 18, 17, 14, 13, 10, 9, 6, 5, 2, 1, 0, 4, 3, 8, 7, 12, 11, 16, 15, 20, 19, 24, 23, 31, 28, 27, 30, 29, 35, 34, 40, 38, 39, 44, 43]⟩, ⟨(some 112), (.mov (.tmp 111)), none, [45, 42, 41, 37, 36, 33, 32, 26, 25, 22, 21, 18, 17, 14, 13, 10, 9, 6, 5, 2, 1, 0, 4, 3, 8, 7, 12, 11, 16, 15, 20, 19, 24, 23, 31, 28, 27, 30, 29, 35, 34, 40, 38, 39, 44, 43]⟩, ⟨(some 113), (.mov (.tmp 8)), (some (112, false)), [46, 45, 42, 41, 37, 36, 33, 32, 26, 25, 22, 21, 18, 17, 14, 13, 10, 9, 6, 5, 2, 1, 0, 4, 3, 8, 7, 12, 11, 16, 15, 20, 19, 24, 23, 31, 28, 27, 30, 29, 35, 34, 40, 38, 39, 44, 43]⟩, ⟨(some 114), (.bin .gtr (.tmp 113) (.const (.int .i64 960000))), (some (112, false)), [47, 46, 45, 42, 41, 37, 36, 33, 32, 26, 25, 22, 21, 18, 17, 14, 13, 10, 9, 6, 5, 2, 1, 0, 4, 3, 8, 7, 12, 11, 16, 15, 20, 19, 24, 23, 31, 28, 27, 30, 29, 35, 34, 40, 38, 39, 44, 43]⟩, ⟨(some 115), (.pick (.tmp 112) (.const (.bool true)) (.tmp 114)), none, [46, 45, 42, 41, 37, 36, 33, 32, 26, 25, 22, 21, 18, 17, 14, 13, 10, 9, 6, 5, 2, 1, 0, 4, 3, 8, 7, 12, 11, 16, 15, 20, 19, 24, 23, 31, 28, 27, 30, 29, 35, 34, 40, 38, 39, 44, 43, 48, 47]⟩, ⟨(some 116), (.mov (.tmp 115)), none, [49, 46, 45, 42, 41, 37, 36, 33, 32, 26, 25, 22, 21, 18, 17, 14, 13, 10, 9, 6, 5, 2, 1, 0, 4, 3, 8, 7, 12, 11, 16, 15, 20, 19, 24, 23, 31, 28, 27, 30, 29, 35, 34, 40, 38, 39, 44, 43, 48, 47]⟩, ⟨(some 117), (.mov (.tmp 12)), (some (116, false)), [50, 49, 46, 45, 42, 41, 37, 36, 33, 32, 26, 25, 22, 21, 18, 17, 14, 13, 10, 9, 6, 5, 2, 1, 0, 4, 3, 8, 7, 12, 11, 16, 15, 20, 19, 24, 23, 31, 28, 27, 30, 29, 35, 34, 40, 38, 39, 44, 43, 48, 47]⟩, ⟨(some 118), (.len (.tmp 117)), (some (116, false)), [51, 50, 49, 46, 45, 42, 41, 37, 36, 33, 32, 26, 25, 22, 21, 18, 17, 14, 13, 10, 9, 6, 5, 2, 1, 0, 4, 3, 8, 7, 12, 11, 16, 15, 20, 19, 24, 23, 31, 28, 27, 30, 29, 35, 34, 40, 38, 39, 44, 43, 48, 47]⟩, ⟨(some 119), (.bin .lss (.tmp 118) (.const (.int .i64 1))), (some (116, false)), [52, 51, 50, 49, 46, 45, 42, 41, 37, 36, 33, 32, 26, 25, 22, 21, 18, 17, 14, 13, 10, 9, 6, 5, 2, 1, 0, 4, 3, 8, 7, 12, 11, 16, 15, 20, 19, 24, 23, 31, 28, 27, 30, 29, 35, 34, 40, 38, 39, 44, 43, 48, 47]⟩, ⟨(some 120), (.pick (.tmp 116) (.const (.bool true)) (.tmp 119)), none, [50, 49, 46, 45, 42, 41, 37, 36, 33, 32, 26, 25, 22, 21, 18, 17, 14, 13, 10, 9, 6, 5, 2, 1, 0, 4, 3, 8, 7, 12, 11, 16, 15, 20, 19, 24, 23, 31, 28, 27, 30, 29, 35, 34, 40, 38, 39, 44, 43, 48, 47, 53, 52, 51]⟩, ⟨(some 121), (.mov (.tmp 120)), none, [54, 50, 49, 46, 45, 42, 41, 37, 36, 33, 32, 26, 25, 22, 21, 18, 17, 14, 13, 10, 9, 6, 5, 2, 1, 0, 4, 3, 8, 7, 12, 11, 16, 15, 20, 19, 24, 23, 31, 28, 27, 30, 29, 35, 34, 40, 38, 39, 44, 43, 48, 47, 53, 52, 51]⟩, ⟨(some 122), (.mov (.tmp 12)), (some (121, false)), [55, 54, 50, 49, 46, 45, 42, 41, 37, 36, 33, 32, 26, 25, 22, 21, 18, 17, 14, 13, 10, 9, 6, 5, 2, 1, 0, 4, 3, 8, 7, 12, 11, 16, 15, 20, 19, 24, 23, 31, 28, 27, 30, 29, 35, 34, 40, 38, 39, 44, 43, 48, 47, 53, 52, 51]⟩, ⟨(some 123), (.len (.tmp 122)), (some (121, false)), [56, 55, 54, 50, 49, 46, 45, 42, 41, 37, 36, 33, 32, 26, 25, 22, 21, 18, 17, 14, 13, 10, 9, 6, 5, 2, 1, 0, 4, 3, 8, 7, 12, 11, 16, 15, 20, 19, 24, 23, 31, 28, 27, 30, 29, 35, 34, 40, 38, 39, 44, 43, 48, 47, 53, 52, 51]⟩, ⟨(some 124), (.mov (.tmp 3)), (some (121, false)), [55, 54, 50, 49, 46, 45, 42, 41, 37, 36, 33, 32, 26, 25, 22, 21, 18, 17, 14, 13, 10, 9, 6, 5, 2, 1, 0, 4, 3, 8, 7, 12, 11, 16, 15, 20, 19, 24, 23, 31, 28, 27, 30, 29, 35, 34, 40, 38, 39, 44, 43, 48, 47, 53, 52, 51]⟩, ⟨(some 125), (.len (.tmp 124)), (some (121, false)), [58, 55, 54, 50, 49, 46, 45, 42, 41, 37, 36, 33, 32, 26, 25, 22, 21, 18, 17, 14, 13, 10, 9, 6, 5, 2, 1, 0, 4, 3, 8, 7, 12, 11, 16, 15, 20, 19, 24, 23, 31, 28, 27, 30, 29, 35, 34, 40, 38, 39, 44, 43, 48, 47, 53, 52, 51]⟩, ⟨(some 126), (.bin .gtr (.tmp 123) (.tmp 125)), (some (121, false)), [57, 56, 55, 54, 50, 49, 46, 45, 42, 41, 37, 36, 33, 32, 26, 25, 22, 21, 18, 17, 14, 13, 10, 9, 6, 5, 2, 1, 0, 4, 3, 8, 7, 12, 11, 16, 15, 20, 19, 24, 23, 31, 28, 27, 30, 29, 35, 34, 40, 38, 39, 44, 43, 48, 47, 53, 52, 51, 59, 58]⟩, ⟨(some 127), (.pick (.tmp 121) (.const (.bool true)) (.tmp 126)), none, [55, 54, 50, 49, 46, 45, 42, 41, 37, 36, 33, 32, 26, 25, 22, 21, 18, 17, 14, 13, 10, 9, 6, 5, 2, 1, 0, 4, 3, 8, 7, 12, 11, 16, 15, 20, 19, 24, 23, 31, 28, 27, 30, 29, 35, 34, 40, 38, 39, 44, 43, 48, 47, 53, 52, 51, 60, 57, 56, 59, 58]⟩]) (.cond (.tmp 127) (.seq (.ops false [⟨(some 2), (.mov (.const (.bool false))), none, []⟩]) .ret) .skip)) (.seq (.seq (.ops false [⟨(some 128), (.mov (.tmp 3)), none, []⟩, ⟨(some 129), (.len (.tmp 128)), none, [0]⟩, ⟨(some 130), (.mov (.const (.int .i64 0))), none, []⟩]) (.block 0 (some ⟨[], [0, 3, 5, 7, 8, 10, 12], [257, 259, 269, 271, 279]⟩) (.loop dk8_0 db8_0))) (.seq (.seq (.ops false [⟨(some 237), (.mov (.tmp 8)), none, []⟩, ⟨(some 238), (.bin .gtr (.tmp 237) (.const (.int .i64 0))), none, [0]⟩, ⟨(some 239), (.mov (.tmp 238)), none, [1, 0]⟩, ⟨(some 240), (.mov (.tmp 10)), (some (239, true)), [2, 1, 0]⟩, ⟨(some 241), (.mov (.tmp 7)), (some (239, true)), [2, 1, 0]⟩, ⟨(some 242), (.call (.func 65) [(.tmp 240), (.tmp 241)]), (some (239, true)), [3, 2, 1, 0, 4]⟩, ⟨(some 243), (.un .not (.tmp 242)), (some (239, true)), [5, 3, 2, 1, 0, 4]⟩, ⟨(some 244), (.pick (.tmp 239) (.tmp 243) (.const (.bool false))), none, [2, 1, 0, 6, 5, 3, 4]⟩, ⟨(some 245), (.mov (.tmp 244)), none, [7, 2, 1, 0, 6, 5, 3, 4]⟩, ⟨(some 246), (.mov (.tmp 8)), (some (245, false)), [8, 7, 2, 1, 0, 6, 5, 3, 4]⟩, ⟨(some 247), (.bin .eql (.tmp 246) (.const (.int .i64 0))), (some (245, false)), [9, 8, 7, 2, 1, 0, 6, 5, 3, 4]⟩, ⟨(some 248), (.mov (.tmp 247)), (some (245, false)), [10, 9, 8, 7, 2, 1, 0, 6, 5, 3, 4]⟩, ⟨(some 249), (.mov (.tmp 10)), (some (248, true)), [11, 10, 9, 8, 7, 2, 1, 0, 6, 5, 3, 4]⟩, ⟨(some 250), (.len (.tmp 249)), (some (248, true)), [12, 11, 10, 9, 8, 7, 2, 1, 0, 6, 5, 3, 4]⟩, ⟨(some 251), (.bin .gtr (.tmp 250) (.const (.int .i64 0))), (some (248, true)), [13, 12, 11, 10, 9, 8, 7, 2, 1, 0, 6, 5, 3, 4]⟩, ⟨(some 252), (.pick (.tmp 248) (.tmp 251) (.const (.bool false))), (some (245, false)), [11, 10, 9, 8, 7, 2, 1, 0, 6, 5, 3, 4, 14, 13, 12]⟩, ⟨(some 253), (.pick (.tmp 245) (.const (.bool true)) (.tmp 252)), none, [8, 7, 2, 1, 0, 6, 5, 3, 4, 15, 11, 10, 9, 14, 13, 12]⟩]) (.cond (.tmp 253) (.seq (.ops false [⟨(some 2), (.mov (.const (.bool false))), none, []⟩]) .ret) .skip)) (.seq (.seq (.ops false [⟨(some 254), (.mov (.tmp 0)), none, []⟩, ⟨(some 255), (.call (.func 40) [(.tmp 254)]), none, [0]⟩, ⟨(some 256), (.mov (.tmp 8)), none, []⟩, ⟨(some 257), (.lit true 1 0 (.int .i64 0) []), none, []⟩, ⟨(some 258), (.mov (.tmp 12)), none, []⟩, ⟨(some 259), (.append true 1 (.tmp 257) (.tmp 258)), none, [3, 4, 1, 0]⟩, ⟨(some 260), (.call (.func 57) [(.tmp 255), (.tmp 256), (.tmp 259)]), none, [1, 0, 2, 5, 3, 4]⟩, ⟨(some 261), (.bin .neq (.tmp 260) (.const (.int .i64 0))), none, [6, 1, 0, 2, 5, 3, 4]⟩]) (.cond (.tmp 261) (.seq (.ops false [⟨(some 2), (.mov (.const (.bool false))), none, []⟩]) .ret) .skip)) (.seq (.seq (.ops false [⟨(some 262), (.mov (.tmp 8)), none, []⟩, ⟨(some 263), (.bin .gtr (.tmp 262) (.const (.int .i64 0))), none, [0]⟩, ⟨(some 264), (.mov (.tmp 263)), none, [1, 0]⟩, ⟨(some 265), (.mov (.tmp 0)), (some (264, true)), [2, 1, 0]⟩, ⟨(some 266), (.call (.func 40) [(.tmp 265)]), (some (264, true)), [3, 2, 1, 0]⟩, ⟨(some 267), (.mov (.tmp 8)), (some (264, true)), [2, 1, 0]⟩, ⟨(some 268), (.bin .sub (.tmp 267) (.const (.int .i64 1))), (some (264, true)), [5, 2, 1, 0]⟩, ⟨(some 269), (.lit true 1 0 (.int .i64 0) []), (some (264, true)), [2, 1, 0]⟩, ⟨(some 270), (.mov (.tmp 12)), (some (264, true)), [2, 1, 0]⟩, ⟨(some 271), (.append true 1 (.tmp 269) (.tmp 270)), (some (264, true)), [7, 2, 1, 0, 8, 4, 3]⟩, ⟨(some 272), (.call (.func 57) [(.tmp 266), (.tmp 268), (.tmp 271)]), (some (264, true)), [4, 3, 2, 1, 0, 6, 5, 9, 7, 8]⟩, ⟨(some 273), (.bin .neq (.tmp 272) (.const (.int .i64 19))), (some (264, true)), [10, 4, 3, 2, 1, 0, 6, 5, 9, 7, 8]⟩, ⟨(some 274), (.pick (.tmp 264) (.tmp 273) (.const (.bool false))), none, [2, 1, 0, 11, 10, 4, 3, 6, 5, 9, 7, 8]⟩]) (.cond (.tmp 274) (.seq (.ops false [⟨(some 2), (.mov (.const (.bool false))), none, []⟩]) .ret) .skip)) (.seq (.seq (.ops false [⟨(some 275), (.mov (.tmp 7)), none, []⟩, ⟨(some 276), (.mov (.tmp 5)), none, []⟩, ⟨(some 277), (.bin .quo (.tmp 276) (.const (.int .i64 2))), none, [1]⟩, ⟨(some 278), (.mov (.tmp 5)), none, []⟩, ⟨(some 279), (.lit true 1 4 (.int .i64 0) [(0, (.const (.int .i64 0))), (1, (.tmp 275)), (2, (.tmp 277)), (3, (.tmp 278))]), none, [0, 2, 1, 3]⟩, ⟨(some 280), (.len (.tmp 279)), none, [4, 0, 2, 1, 3]⟩, ⟨(some 281), (.mov (.const (.int .i64 0))), none, []⟩]) (.block 2 (some ⟨[], [0, 5], [257, 259, 269, 271, 279]⟩) (.loop dk8_2 db8_2))) (.seq (.seq (.ops false [⟨(some 345), (.mov (.tmp 5)), none, []⟩, ⟨(some 346), (.bin .lss (.tmp 345) (.const (.int .i64 800))), none, [0]⟩]) (.cond (.tmp 346) (.seq (.ops false [⟨(some 348), (.mov (.tmp 0)), none, []⟩, ⟨(some 349), (.call (.func 40) [(.tmp 348)]), none, [0]⟩, ⟨(some 350), (.mov (.tmp 5)), none, []⟩, ⟨(some 351), (.bin .add (.tmp 350) (.const (.int .i64 1))), none, [2]⟩, ⟨(some 352), (.call (.func 41) [(.tmp 349), (.tmp 351)]), none, [1, 0, 3, 2]⟩, ⟨(some 347), (.mov (.tmp 352)), none, [4, 1, 0, 3, 2]⟩, ⟨(some 353), (.extract (.tmp 347) 0), none, [5, 4, 1, 0, 3, 2]⟩, ⟨(some 354), (.extract (.tmp 347) 1), none, [5, 4, 1, 0, 3, 2]⟩, ⟨(some 29), (.mov (.tmp 353)), none, [6, 5, 4, 1, 0, 3, 2]⟩, ⟨(some 30), (.mov (.tmp 354)), none, [7, 5, 4, 1, 0, 3, 2, 8, 6]⟩]) (.seq (.ops false [⟨(some 355), (.mov (.tmp 30)), none, []⟩, ⟨(some 356), (.bin .eql (.tmp 355) (.const (.int .i64 0))), none, [0]⟩, ⟨(some 357), (.mov (.tmp 356)), none, [1, 0]⟩, ⟨(some 358), (.mov (.tmp 29)), (some (357, true)), [2, 1, 0]⟩, ⟨(some 359), (.bin .eql (.tmp 358) (.const (.int .i64 0))), (some (357, true)), [3, 2, 1, 0]⟩, ⟨(some 360), (.pick (.tmp 357) (.tmp 359) (.const (.bool false))), none, [2, 1, 0, 4, 3]⟩, ⟨(some 361), (.mov (.tmp 360)), none, [5, 2, 1, 0, 4, 3]⟩, ⟨(some 362), (.call (.func 13) []), (some (361, true)), [6, 5, 2, 1, 0, 4, 3]⟩, ⟨(some 363), (.pick (.tmp 361) (.tmp 362) (.const (.bool false))), none, [6, 5, 2, 1, 0, 4, 3, 7]⟩, ⟨(some 2), (.mov (.tmp 363)), none, [8, 6, 5, 2, 1, 0, 4, 3, 7]⟩]) .ret)) .skip)) (.seq (.ops false [⟨(some 364), (.call (.func 13) []), none, []⟩, ⟨(some 2), (.mov (.tmp 364)), none, [0]⟩]) .ret)))))))))))))))⟩
theorem dh8 : cProg Go.Proofs.Tryz.prog ⟨[(0, ⟨[], [0, 3, 5, 7, 8, 10, 12, 128, 129, 130], [257, 259, 269, 271, 279]⟩), (2, ⟨[], [0, 3, 5, 279, 280, 281], [257, 259, 269, 271, 279]⟩), (4, ⟨[], [0, 3, 5, 19, 20, 279, 280, 281, 285, 286, 287], [257, 259, 269, 271, 279]⟩)], [(0, ⟨[], [0, 3, 5, 7, 8, 10, 12], [257, 259, 269, 271, 279]⟩), (4, ⟨[], [0, 3, 5, 19, 20, 279, 280, 281], [257, 259, 269, 271, 279]⟩), (3, ⟨[], [0, 3, 5, 279, 280, 281], [257, 259, 269, 271, 279]⟩), (2, ⟨[], [0, 5], [257, 259, 269, 271, 279]⟩)], [257, 259, 269, 271, 279]⟩ 8 = some dc8 := by kernel_rfl
end Sh

/-! CurveHighest. -/
set_option maxRecDepth 100000
set_option maxHeartbeats 4000000
set_option linter.unusedSimpArgs false
set_option linter.unusedVariables false
namespace Sh
open Go Go.Proofs
theorem curveS_ok {f : List (List Cel)} (h : chkField f = 0) : curveS f = (crv f, 0) := by unfold curveS; rw [if_neg (by omega)]
theorem endS_ok {f : List (List Cel)} (h : chkField f = 0) : endS f = (endF f, 0) := by unfold endS; rw [if_neg (by omega)]
theorem peaksS_ok {f : List (List Cel)} (h : chkField f = 0) : peaksS f = (pks (crv f) (crv f).length, 0) := by unfold peaksS; rw [if_neg (by omega)]
theorem certS_ok {f : List (List Cel)} (h : chkField f = 0) : certS f = (certL (crv f) (hiF f).2, 0) := by unfold certS; rw [if_neg (by omega)]
theorem two0 {a b : Int} (h1 : a = 0) (h2 : b = 0) : firstE [a, b] = 0 := by rw [h1, h2]; rfl
theorem withE_in {n l h : Int} (h1 : l ≤ n) (h2 : n ≤ h) : withE n l h = 0 := by unfold withE; rw [if_neg (by omega)]
theorem fcurS_ok {f : List (List Cel)} {v : Int} (h : chkField f = 0) (h1 : 0 ≤ v) (h2 : v ≤ 800) : fcurS f v = (curF f v, 0) := by
  have := two0 h (withE_in h1 h2)
  unfold fcurS; rw [if_neg (by omega)]
theorem powS_ok {f : List (List Cel)} {v : Int} (h : chkField f = 0) (h1 : 0 ≤ v) (h2 : v ≤ 800) : powS f v = (v * curF f v, 0) := by
  have := two0 h (withE_in h1 h2)
  unfold powS; rw [if_neg (by omega)]
theorem chainCurrentS_ok {l : List Cel} {v : Int} (h : chkChain l = 0) (h1 : 0 ≤ v) (h2 : v ≤ 800) : chainCurrentS l v = (curH l v, 0) := by
  have := two0 h (withE_in h1 h2)
  unfold chainCurrentS; rw [if_neg (by omega)]
theorem pks_le (l : List Int) (k : Nat) : (pks l k).length ≤ k := by have := pkD_len l k; unfold pkD at this; simpa using this
theorem hasPk (L : List Int) (hL : L.length ≤ 1000) {v : Nat} (hv : v < L.length) : PC 65 [iL (pks L L.length), DV.int .i64 (v)] (.bool (isPk L v)) := by
  have h := pks_le L L.length
  have := q_HasInt (pks L L.length) v (by omega)
  have e : decide ((v : Int) ∈ pks L L.length) = isPk L v := by
    by_cases h : isPk L v = true
    · rw [decide_eq_true ((mem_pks hv).2 h), h]
    · rw [decide_eq_false (fun hh => h ((mem_pks hv).1 hh))]
      simpa using h
  rwa [e] at this
theorem cert_len {l : List Int} {m : Int} (hm : ∀ v : Nat, v < l.length → (v : Int) * l.getD v 0 ≤ m) (h0 : 0 ≤ m) (hn : l ≠ []) : (certL l m).length ≤ l.length := by
  obtain ⟨a1, a2, a3, a4, a5⟩ := stp_spec hm h0 l.length 0 (by omega) (Nat.le_refl _) (List.length_pos_iff.2 hn)
  rw [certL_length]; omega
theorem cc_yes {f : List (List Cel)} (hF : chkField f = 0) : ccE f (hiF f).2 (certL (crv f) (hiF f).2) = 0 := by
  have hO := chkField_zero hF
  have hm := hiF_bd hO
  obtain ⟨hok, hn⟩ := crv_ok hO
  have hl := cert_len hm.2.2 hm.1 hn
  have hb := endF_bd hO
  have hc := crv_len' f
  have h1 : (hiF f).2 ≤ 960000 := by
    have h2 := hiA_in (crv f) hn
    have h3 := hok.at h2
    exact Int.le_trans (Int.mul_le_mul (by omega : ((hiA (crv f) (crv f).length : Nat) : Int) ≤ 800) h3.2 h3.1 (by omega)) (by omega)
  have hc2 : countE (certL (crv f) (hiF f).2).length 801 = 0 := by
    have := certL_length (crv f) (hiF f).2
    unfold countE whenE
    rw [decide_eq_false (by omega), decide_eq_false (by omega)]; rfl
  unfold ccE
  rw [if_neg (by rw [hF, withE_in hm.1 h1, hc2]; simp [firstE]), cert_cuts hm.2.2 hm.1 hn, if_neg (by simp), cert_prov hm.2.2 hm.1 hn]
  rfl
theorem cc_not {f : List (List Cel)} (hF : chkField f = 0) (h0 : 0 < (hiF f).2) : ccE f ((hiF f).2 - 1) (certL (crv f) (hiF f).2) = 19 := by
  have hO := chkField_zero hF
  have hm := hiF_bd hO
  obtain ⟨hok, hn⟩ := crv_ok hO
  have hl := cert_len hm.2.2 hm.1 hn
  have hb := endF_bd hO
  have hc := crv_len' f
  have h2 := hiA_in (crv f) hn
  have h1 : (hiF f).2 ≤ 960000 := by
    have h3 := hok.at h2
    exact Int.le_trans (Int.mul_le_mul (by omega : ((hiA (crv f) (crv f).length : Nat) : Int) ≤ 800) h3.2 h3.1 (by omega)) (by omega)
  have hc2 : countE (certL (crv f) (hiF f).2).length 801 = 0 := by
    have := certL_length (crv f) (hiF f).2
    unfold countE whenE
    rw [decide_eq_false (by omega), decide_eq_false (by omega)]; rfl
  have hdec : ∀ v w : Nat, v ≤ w → w < (crv f).length → (crv f).getD w 0 ≤ (crv f).getD v 0 := fun v w h3 h4 => by
    rw [crv_get h4, crv_get (by omega : v < (crv f).length)]; exact curF_mono (by omega)
  unfold ccE
  rw [if_neg (by rw [hF, withE_in (by omega) (by omega : (hiF f).2 - 1 ≤ 960000), hc2]; simp [firstE]), cert_cuts hm.2.2 hm.1 hn, if_neg (by simp), cert_less (m := (hiF f).2) hok hdec hn h2 rfl hm.2.2 hm.1]
  rfl
theorem chkC_zero {f : List (List Cel)} (h : chkField f = 0) {l : List Cel} (hl : l ∈ f) : chkChain l = 0 := by
  unfold chkField at h
  split at h
  · exact absurd h ‹_›
  · exact firstE_mem h _ (List.mem_map_of_mem hl)
theorem l_CurveHighest (aw : PC 13 [] (.bool true)) (f : List (List Cel)) : PC 8 [fld f] (.bool true) := by
  refine pureCall_ofR dh8 rfl ?_
  conv => whnf
  repeat' (first
    | (refine ⟨fun hg => ?_, fun hg => ?_⟩ <;> first | contradiction | (conv => whnf))
    | (refine Or.inl ?_; conv => whnf)
    | (refine ⟨_, l_small .., ?_⟩; conv => whnf)
    | (refine ⟨_, aw .., ?_⟩; conv => whnf)
    | (refine And.intro ?_ ?_; kernel_rfl; conv => whnf))
  · rfl
  have hs := smallF_spec (f := f) (by simpa using hg)
  clear hg
  obtain ⟨hf3, hsF, hz⟩ := hs
  have hF := chkField_zero hz
  have hl := (shortF_spec hsF).2.2
  obtain ⟨hok, hn⟩ := crv_ok hF
  have hE := endF_bd hF
  have hm := hiF_bd hF
  have hA := hiA_in (crv f) hn
  have hlen : ((crv f).length : Int) = endF f + 1 := by have := crv_len' f; omega
  have hl8 := hok.1
  have hget : ∀ v : Nat, v < (crv f).length → (crv f).getD v 0 = curF f v := fun v h => crv_get h
  have hdec : ∀ v w : Nat, v ≤ w → w < (crv f).length → (crv f).getD w 0 ≤ (crv f).getD v 0 := fun v w h3 h4 => by
    rw [crv_get h4, crv_get (by omega : v < (crv f).length)]; exact curF_mono (by omega)
  have hAlt := hiA_lt (crv f) (crv f).length
  have hM1 : (hiF f).2 ≤ 960000 := by
    have h3 := hok.at hA
    exact Int.le_trans (Int.mul_le_mul (by omega : ((hiA (crv f) (crv f).length : Nat) : Int) ≤ 800) h3.2 h3.1 (by omega)) (by omega)
  have hcl := cert_len hm.2.2 hm.1 hn
  have hcl1 := certL_length (crv f) (hiF f).2
  have hpk := isPk_hi hn
  have hpn : (hiF f).2 = 0 → pks (crv f) (crv f).length = [] := fun h => pks_nil fun v hv => by
    have h1 := hm.2.2 v hv
    have h2 := (hok.pw hv).1
    show (v : Int) * (crv f).getD v 0 = 0
    omega
  have k1 := l_field f hl
  have k2 : PC 43 [fld f] (.tuple [iL (crv f), DV.int .i64 (0)]) := by have := c_Curve f hl; rw [curveS_ok hz] at this; exact this
  have k3 : PC 39 [fld f] (.tuple [DV.int .i64 (endF f), DV.int .i64 (0)]) := by have := c_End f hl; rw [endS_ok hz] at this; exact this
  have k4 : PC 55 [fld f] (.tuple [DV.int .i64 ((hiA (crv f) (crv f).length : Nat)), DV.int .i64 ((hiF f).2), DV.int .i64 (0)]) := by have := c_Highest f hl; rw [highS_ok hz] at this; exact this
  have k5 : PC 54 [fld f] (.tuple [iL (pks (crv f) (crv f).length), DV.int .i64 (0)]) := by have := c_Peaks f hl; rw [peaksS_ok hz] at this; exact this
  have k6 : PC 56 [fld f] (.tuple [iL (certL (crv f) (hiF f).2), DV.int .i64 (0)]) := by have := c_Certificate f hl; rw [certS_ok hz] at this; exact this
  have k7 := c_CheckCertificate f (hiF f).2 (certL (crv f) (hiF f).2) hl (by omega)
  rw [cc_yes hz] at k7
  have k8 := fun h0 : 0 < (hiF f).2 => (cc_not hz h0) ▸ c_CheckCertificate f ((hiF f).2 - 1) (certL (crv f) (hiF f).2) hl (by omega)
  have k9 := fun {v : Nat} (hv : v < (crv f).length) => hasPk (crv f) hl8 hv
  have hpw : (hiF f).2 = (pw (crv f) (hiA (crv f) (crv f).length)).2 := rfl
  have hmx : ∀ v : Nat, v < (crv f).length → (pw (crv f) v).2 ≤ (hiF f).2 := hm.2.2
  rw [← hpw] at hAlt hpk
  have hpwM : (pw (crv f) (hiA (crv f) (crv f).length)).2 = (hiF f).2 := rfl
  clear hpw
  generalize hiA (crv f) (crv f).length = A at *
  generalize (hiF f).2 = M at *
  generalize crv f = L at *
  have e0 : ((L.map (DV.int .i64)).length : Int) = L.length := by simp
  have e1 : (((certL L M).map (DV.int .i64)).length : Int) = (certL L M).length := by simp
  have hW : IntKind.i64.wrap (endF f + 1) = endF f + 1 := W_in (by omega) (by omega)
  generalize hEE : endF f = E at *
  repeat' (first
    | (refine ⟨fun hg => ?_, fun hg => ?_⟩ <;> first | contradiction | (replace hg := of_decide_eq_true hg; first | (exfalso; omega; done) | (conv => whnf)) | (replace hg := of_decide_eq_false hg; first | (exfalso; omega; done) | (conv => whnf)) | (skip; conv => whnf) | (conv => whnf))
    | (refine Or.inl ?_; conv => whnf)
    | (refine ⟨_, k1, ?_⟩; conv => whnf)
    | (refine ⟨_, k2, ?_⟩; conv => whnf)
    | (refine ⟨_, k3, ?_⟩; conv => whnf)
    | (refine ⟨_, k4, ?_⟩; conv => whnf)
    | (refine ⟨_, k5, ?_⟩; conv => whnf)
    | (refine ⟨_, k6, ?_⟩; conv => whnf)
    | (refine And.intro ?_ ?_; kernel_rfl; conv => whnf))
  clear hg
  refine dwp_loopR (P := Tryz.prog) (G := GC) (k := dk8_0) (b := db8_0) (α := Nat) (fun i => [(0, fld f), (3, iL L), (5, DV.int .i64 (E)), (7, DV.int .i64 (A)), (8, DV.int .i64 (M)), (10, iL (pks L L.length)), (12, iL (certL L M)), (128, iL L), (129, .int .i64 (L.map (DV.int .i64)).length), (130, DV.int .i64 (i))]) (fun _ => []) (fun i => i ≤ L.length) (fun i => L.length - i) 0 ?_ (Nat.zero_le _) ?_
  · exact ⟨rfl, rfl, rfl⟩
  intro i h1
  conv => whnf
  refine ⟨fun hb => ?_, fun hb => ?_⟩
  · have hi : i < L.length := by simpa using hb
    have hni := hok.at hi
    have hp := hok.pw hi
    have hwp : ∀ v : Nat, v < L.length → IntKind.i64.wrap ((v : Int) * L.getD v 0) = (pw L v).2 := fun v hv => by have := hok.pw hv; exact W_in (by omega) (by omega)
    have hw0 := hwp i hi
    have hmi := hmx i hi
    have hlt := hAlt i
    have hq1 := hdec (i - 1) i (by omega) hi
    have heq : i = A → (pw L i).2 = M := fun h => by rw [h]; exact hpwM
    clear hb
    conv => whnf
    rw [getD_enc _ _ (i) 0 hi]
    refine ⟨idxA hi rfl, ?_⟩
    conv => whnf
    have hspec := fun h => isPk_spec hok hi h
    have hwm := hwp (i - 1) (by omega)
    have hws : i + 1 < L.length → IntKind.i64.wrap (((i + 1 : Nat) : Int) * L.getD (i + 1) 0) = (pw L (i + 1)).2 := hwp (i + 1)
    repeat' (first
      | (refine ⟨fun hg => ?_, fun hg => ?_⟩ <;> first | contradiction | (replace hg := of_decide_eq_true hg; first | (exfalso; omega; done) | (conv => whnf)) | (replace hg := of_decide_eq_false hg; first | (exfalso; omega; done) | (conv => whnf)) | ((first | (have hx := hspec hg) | skip); conv => whnf) | (conv => whnf))
      | (refine Or.inl ?_; conv => whnf)
      | (refine ⟨_, k9 hi, ?_⟩; conv => whnf)
      | (rw [wrap_pred i (by omega) (by omega), getD_enc _ _ (i - 1) 0 (by omega)]; refine ⟨idxA (by omega) rfl, ?_⟩; conv => whnf)
      | (rw [wrap_pred i (by omega) (by omega), minmax0, getD_enc _ _ (i - 1) 0 (by omega)]; refine ⟨idxA (by omega) rfl, ?_⟩; conv => whnf)
      | (rw [wrap_succ i (by omega), minmax1 (by omega), getD_enc _ _ (i + 1) 0 (by omega)]; refine ⟨idxA (by omega) rfl, ?_⟩; conv => whnf)
      | (refine And.intro ?_ ?_; kernel_rfl; conv => whnf))
    all_goals (rw [wrap_succ i (by omega)]; exact ⟨i + 1, rfl, rfl, rfl, hi, by omega⟩)
  · clear hb h1 hmx hAlt hm hcl1
    have k10 : 0 < M → PC 65 [iL (pks L L.length), DV.int .i64 (A)] (.bool true) := fun h => hpk h ▸ k9 hA
    have hpn2 : M = 0 → (((pks L L.length).map (DV.int .i64)).length : Int) = 0 := fun h => by rw [hpn h]; rfl
    have hWM : IntKind.i64.wrap (M - 1) = M - 1 := W_in (by omega) (by omega)
    have hq2 : IntKind.i64.wrap (E.tdiv 2) = E / 2 := by
      rw [Int.tdiv_eq_ediv_of_nonneg hE.1]; exact W_in (by omega) (by omega)
    clear hpn hpk
    conv => whnf
    repeat' (first
      | (refine ⟨fun hg => ?_, fun hg => ?_⟩ <;> first | contradiction | (replace hg := of_decide_eq_true hg; first | (exfalso; omega; done) | (conv => whnf)) | (replace hg := of_decide_eq_false hg; first | (exfalso; omega; done) | (conv => whnf)) | (skip; conv => whnf) | (conv => whnf))
      | (refine Or.inl ?_; conv => whnf)
      | (refine ⟨_, k1, ?_⟩; conv => whnf)
      | (refine ⟨_, k10 (by assumption), ?_⟩; conv => whnf)
      | (refine ⟨_, k7, ?_⟩; conv => whnf)
      | (rw [hWM]; refine ⟨_, k8 (by assumption), ?_⟩; conv => whnf)
      | (refine ⟨⟨by simp; omega, fun e he => by obtain ⟨q, _, rfl⟩ := List.mem_map.1 he; rfl, fun e he => by simp at he⟩, ?_⟩; rw [show ([] : List DV).reverse ++ List.map (DV.int .i64) (certL L M) = List.map (DV.int .i64) (certL L M) from rfl]; conv => whnf)
      | (refine And.intro ?_ ?_; kernel_rfl; conv => whnf))
    all_goals refine ⟨by decide, ?_⟩
    all_goals conv => whnf
    all_goals rw [hq2]
    all_goals
      obtain ⟨ws, hws⟩ : ∃ ws : List Int, ws = [0, (A : Int), E / 2, E] := ⟨_, rfl⟩
      have hwl : ws.length = 4 := by rw [hws]; rfl
      have hwb : ∀ j : Nat, j < ws.length → 0 ≤ ws.getD j 0 ∧ ws.getD j 0 ≤ E := by
        rw [hws]
        intro j hj
        match j, hj with
        | 0, _ => exact ⟨Int.le_refl _, hE.1⟩
        | 1, _ => exact ⟨by show (0 : Int) ≤ A; omega, by show (A : Int) ≤ E; omega⟩
        | 2, _ => exact ⟨by show (0 : Int) ≤ E / 2; omega, by show E / 2 ≤ E; omega⟩
        | 3, _ => exact ⟨hE.1, Int.le_refl _⟩
      have e2 : ((ws.map (DV.int .i64)).length : Int) = ws.length := by simp
      have e3 : ((f.map chn).length : Int) = f.length := by simp
      refine dwp_loopR (P := Tryz.prog) (G := GC) (k := dk8_2) (b := db8_2) (α := Nat) (fun j => [(0, fld f), (3, iL L), (5, DV.int .i64 (E)), (279, .full (ws.map (DV.int .i64))), (280, .int .i64 (ws.map (DV.int .i64)).length), (281, DV.int .i64 (j))]) (fun _ => []) (fun j => j ≤ ws.length) (fun j => ws.length - j) 0 ?_ (Nat.zero_le _) ?_
      · rw [hws]; exact ⟨rfl, rfl, rfl⟩
      intro j h1
      conv => whnf
      refine ⟨fun hb => ?_, fun hb => ?_⟩
      · have hj : j < ws.length := by simpa using hb
        have hv := hwb j hj
        obtain ⟨u, hu⟩ : ∃ u : Nat, (u : Int) = ws.getD j 0 := ⟨(ws.getD j 0).toNat, by omega⟩
        rw [← hu] at hv
        have huL : u < L.length := by omega
        have hgu := hget u huL
        have hcb := curF_bd f (by omega) (u : Int)
        clear hb
        conv => whnf
        rw [getD_enc _ _ (j) 0 hj]
        refine ⟨idxA hj rfl, ?_⟩
        conv => whnf
        rw [← hu]
        refine dwp_loopR (P := Tryz.prog) (G := GC) (k := dk8_1) (b := db8_1) (α := Nat) (fun k => [(0, fld f), (3, iL L), (5, DV.int .i64 (E)), (19, DV.int .i64 (u)), (20, DV.int .i64 (curFi f u k)), (279, .full (ws.map (DV.int .i64))), (280, .int .i64 (ws.map (DV.int .i64)).length), (281, DV.int .i64 (j)), (285, fld f), (286, .int .i64 (f.map chn).length), (287, DV.int .i64 (k))]) (fun _ => []) (fun k => k ≤ f.length) (fun k => f.length - k) 0 ?_ (Nat.zero_le _) ?_
        · exact ⟨rfl, rfl, rfl⟩
        intro k hk1
        have hcs := curFi_bd f (by omega) (u : Int) k
        conv => whnf
        refine ⟨fun hb => ?_, fun hb => ?_⟩
        · have hk : k < f.length := by simpa using hb
          have hmem := getD_in [] hk
          have hlm := hl.2 _ hmem
          have k11 := l_cells (f.getD k []) hlm.1 hlm.2
          have k12 : PC 30 [chn (f.getD k []), DV.int .i64 (u)] (.tuple [DV.int .i64 (curH (f.getD k []) u), DV.int .i64 (0)]) := by
            have := c_ChainCurrent (f.getD k []) u hlm.1 hlm.2
            rw [chainCurrentS_ok (chkC_zero hz hmem) (by omega) (by omega)] at this
            exact this
          have hsu := curFi_succ f (u : Int) k hk
          have hcs2 := curFi_bd f (by omega) (u : Int) (k + 1)
          clear hb
          conv => whnf
          rw [getD_enc _ _ (k) [] hk]
          refine ⟨idxA hk rfl, ?_⟩
          conv => whnf
          repeat' (first
            | (refine ⟨fun hg => ?_, fun hg => ?_⟩ <;> first | contradiction | (replace hg := of_decide_eq_true hg; first | (exfalso; omega; done) | (conv => whnf)) | (replace hg := of_decide_eq_false hg; first | (exfalso; omega; done) | (conv => whnf)) | (skip; conv => whnf) | (conv => whnf))
            | (refine Or.inl ?_; conv => whnf)
            | (refine ⟨_, k11, ?_⟩; conv => whnf)
            | (refine ⟨_, k12, ?_⟩; conv => whnf)
            | (refine And.intro ?_ ?_; kernel_rfl; conv => whnf))
          rw [wrap_succ k (by omega), show IntKind.i64.wrap (curFi f u k + curH (f.getD k []) u) = curFi f u (k + 1) by rw [hsu, wrap_W, W_in (by omega) (by omega)]]
          exact ⟨k + 1, rfl, rfl, rfl, hk, by omega⟩
        · have hk : k = f.length := by have := of_decide_eq_false hb; rw [e3] at this; omega
          have hall := curFi_all f (u : Int)
          have k13 : PC 41 [fld f, DV.int .i64 (u)] (.tuple [DV.int .i64 (curF f u), DV.int .i64 (0)]) := by
            have := c_FieldCurrent f u hl
            rw [fcurS_ok hz (by omega) (by omega)] at this
            exact this
          have k14 : PC 42 [fld f, DV.int .i64 (u)] (.tuple [DV.int .i64 ((u : Int) * curF f u), DV.int .i64 (0)]) := by
            have := c_Power f u hl
            rw [powS_ok hz (by omega) (by omega)] at this
            exact this
          have hmul := mul_bd (a := (u : Int)) (b := curF f u) (A := 800) (B := 1200) (by omega) (by omega) (by omega) (by omega)
          have hWu : IntKind.i64.wrap ((u : Int) * curF f u) = (u : Int) * curF f u := W_in (by omega) (by omega)
          clear hb
          rw [hk, hall]
          conv => whnf
          repeat' (first
            | (refine ⟨fun hg => ?_, fun hg => ?_⟩ <;> first | contradiction | (replace hg := of_decide_eq_true hg; first | (exfalso; omega; done) | (conv => whnf)) | (replace hg := of_decide_eq_false hg; first | (exfalso; omega; done) | (conv => whnf)) | (skip; conv => whnf) | (conv => whnf))
            | (refine Or.inl ?_; conv => whnf)
            | (refine ⟨_, k1, ?_⟩; conv => whnf)
            | (refine ⟨_, k13, ?_⟩; conv => whnf)
            | (refine ⟨_, k14, ?_⟩; conv => whnf)
            | (rw [getD_enc _ _ u 0 huL]; refine ⟨idxA huL rfl, ?_⟩; conv => whnf)
            | (refine And.intro ?_ ?_; kernel_rfl; conv => whnf))
          all_goals (rw [wrap_succ j (by omega)]; exact ⟨j + 1, rfl, rfl, rfl, hj, by omega⟩)
      · have hj : j = ws.length := by have := of_decide_eq_false hb; rw [e2] at this; omega
        clear hb
        have k15 : E < 800 → PC 41 [fld f, DV.int .i64 (E + 1)] (.tuple [DV.int .i64 (0), DV.int .i64 (0)]) := fun h => by
          have := c_FieldCurrent f (E + 1) hl
          rw [fcurS_ok hz (by omega) (by omega), curF_end hF (by omega : endF f < E + 1)] at this
          exact this
        conv => whnf
        repeat' (first
          | (refine ⟨fun hg => ?_, fun hg => ?_⟩ <;> first | contradiction | (replace hg := of_decide_eq_true hg; first | (exfalso; omega; done) | (conv => whnf)) | (replace hg := of_decide_eq_false hg; first | (exfalso; omega; done) | (conv => whnf)) | (skip; conv => whnf) | (conv => whnf))
          | (refine Or.inl ?_; conv => whnf)
          | (refine ⟨_, k1, ?_⟩; conv => whnf)
          | (rw [hW]; refine ⟨_, k15 (by omega), ?_⟩; conv => whnf)
          | (refine ⟨_, aw .., ?_⟩; conv => whnf)
          | (refine And.intro ?_ ?_; kernel_rfl; conv => whnf))
        all_goals (first
          | rfl
          | trace_state)
end Sh

/-! What the cards of chapter 4 have in common: the arguments, the package-level variables, what the post asks. -/
set_option maxRecDepth 100000
set_option linter.unusedVariables false
namespace Sh
open Go Go.Proofs Go.Proofs.YtbkginjiknnobaaGreatDoor
section
open Go.RowKit Go.WideShapes Go.ChangeShapes
variable {H : Type} {enc : TypeId × Value → H} {P : Program}
theorem postOfBelow {f : Func} {s : ChangeSpec} {apart fresh handsOn again : Bool} {W W' : World} {args : Array Value} {v : Value} {ds gs : List (DataW H)} {before pa pv : List MemPlace}
    (hW : DataW.Whole enc P f.params.toList s.vars apart W args.toList ds gs before)
    (hres : ∀ (b : Nat) (sp : Nat → Bool) (hd : Bool), DataW.TrodAll enc P W' b sp hd f.resultTypes.toList (v.resultList f.resultTypes.size) (s.fn H (ds ++ gs)).results [])
    (hargs : ∀ sp : Nat → Bool, (∀ p ∈ before, sp p.block = true) → DataW.TrodAll enc P W' 0 sp true f.params.toList args.toList (s.fn H (ds ++ gs)).args pa)
    (hvars : ∀ sp : Nat → Bool, (∀ p ∈ before, sp p.block = true) → DataW.TrodVars enc P W' sp s.vars (s.fn H (ds ++ gs)).vars pv)
    (hps : before = pa ++ pv) (hb : Below W.heap.size W W')
    (hok : ∀ (j : Nat) (t : TypeId) (r : Value), f.resultTypes[j]? = some t → (v.resultList f.resultTypes.size)[j]? = some r → Value.okWide P W' .any 0 t r) :
    s.post enc P f apart fresh handsOn again W args v W' := by
  have hlt : ∀ p ∈ before, p.block < W.heap.size := fun p hp => hW.lt p hp
  have hold : ∀ p ∈ before, (fun b => decide (b < W.heap.size)) p.block = true := fun p hp => by simpa using hlt p hp
  refine ⟨ds, gs, before, [], pa, pv, hW, hres _ _ _, hargs _ hold, hvars _ hold, World.keptBut_mono (fun p hp => ⟨hp, ?_⟩) (hb.frame (· ∈ before)), fun _ => ?_⟩
  · rw [hps, List.mem_append] at hp
    exact Or.inr hp
  · obtain ⟨_, _, _, _, _, hz, hn⟩ := hW
    refine ⟨hok, _, _, ([] ++ pa) ++ pv, ⟨[] ++ pa, pv, trodAll_append (hargs _ (fun _ _ => rfl)) (hres _ _ _), hvars _ (fun _ _ => rfl), rfl, ?_, ?_⟩, ?_⟩
    · intro b off hp
      have hin : MemPlace.cell b off ∈ before := by rw [hps]; simpa using hp
      rw [hb.frozen (hlt _ hin)]
      exact hz b off hin
    · intro ha
      have := hn ha
      rw [hps] at this
      simpa using this
    · intro p hp _
      rw [hps]
      simpa using hp
/-- All arguments read as before. -/
theorem trodAll_stays (hl : laidOutB P = true) {W W' : World} (hb : Below W.heap.size W W') {sp : Nat → Bool} : ∀ {ts : List TypeId} {vs : List Value} {ds : List (DataW H)} {ps : List MemPlace}, DataW.TrodAll enc P W 0 (fun _ => true) true ts vs ds ps →
    (ts.all fun t => P.readableRec t && decide (t < P.types.size)) = true → (∀ p ∈ ps, p.block < W.heap.size) → (∀ p ∈ ps, sp p.block = true) → DataW.TrodAll enc P W' 0 sp true ts vs ds ps
  | [], _, _, _, h, _, _, _ => by
    obtain ⟨rfl, rfl, rfl⟩ := trodAll_nil h
    rfl
  | t :: ts, _, _, _, h, ht, hlt, hsp => by
    obtain ⟨v, vs, d, ds, p, q, rfl, rfl, rfl, h1, h2⟩ := trodAll_cons h
    rw [List.all_cons, Bool.and_eq_true, Bool.and_eq_true] at ht
    exact trodAll_cons_mk (WideElems.Trod_stays hl ht.1.1 (of_decide_eq_true ht.1.2) h1 (fun x hx => hb.same (hlt x (by simp [hx]))) (fun x hx => hsp x (by simp [hx])))
      (trodAll_stays hl hb h2 ht.2 (fun x hx => hlt x (by simp [hx])) (fun x hx => hsp x (by simp [hx])))
end
theorem A_laid : laidOutB Tryz.prog = true := by kernel_rfl
theorem own : ownKnob Tryz.prog.godebug = none := by kernel_rfl
theorem cl3 : Tryz.prog.cellsOf 3 = 1 := by kernel_rfl
theorem cl9 : Tryz.prog.cellsOf 9 = 1 := by kernel_rfl
theorem cl114 : Tryz.prog.cellsOf 114 = 1 := by kernel_rfl
theorem cl23 : Tryz.prog.cellsOf 23 = 1 := by kernel_rfl
theorem cl25 : Tryz.prog.cellsOf 25 = 3 := by kernel_rfl
theorem cl48 : Tryz.prog.cellsOf 48 = 1 := by kernel_rfl
theorem cl108 : Tryz.prog.cellsOf 108 = 2 := by kernel_rfl
theorem cl165 : Tryz.prog.cellsOf 165 = 2 := by kernel_rfl
theorem cl166 : Tryz.prog.cellsOf 166 = 10 := by kernel_rfl
section
variable {H : Type} {enc : TypeId × Value → H} {W : World}
theorem opPt : Opens enc Tryz.prog W 108 (fun p : Pt => (encPt p).cells) (fun _ => True) :=
  (opens_struct2 Tryz.underlying108 1 1 cl3 cl3 cl108 rfl rfl (opens_int Tryz.underlying3) (opens_int Tryz.underlying3)).map (fun a => Pt.mk a.1 a.2) (fun _ => rfl) (fun _ _ => trivial)
theorem opTbl : Opens enc Tryz.prog W 23 (fun t : List Pt => [tbl t]) (fun t => t.length ≤ maxLen) :=
  (opens_slice Tryz.underlying23 2 cl108 (by decide) opPt).map id (fun _ => rfl) (fun _ h => h.1)
theorem opCel : Opens enc Tryz.prog W 25 (fun c : Cel => (encC c).cells) (fun _ => True) :=
  (opens_struct3 Tryz.underlying25 1 1 1 cl23 cl3 cl3 cl25 rfl rfl rfl opTbl (opens_int Tryz.underlying3) (opens_int Tryz.underlying3)).map (fun a => Cel.mk a.1 a.2.1 a.2.2) (fun _ => rfl) (fun _ _ => trivial)
theorem opChn : Opens enc Tryz.prog W 48 (fun l : List Cel => [chn l]) (fun l => l.length ≤ maxLen) :=
  (opens_slice Tryz.underlying48 3 cl25 (by decide) opCel).map id (fun _ => rfl) (fun _ h => h.1)
theorem opFld : Opens enc Tryz.prog W 62 (fun f : List (List Cel) => [fld f]) (fun f => f.length ≤ maxLen) :=
  (opens_slice Tryz.underlying62 1 cl48 (by decide) (f := chn) opChn).map id (fun _ => rfl) (fun _ h => h.1)
theorem opInts : Opens enc Tryz.prog W 53 (fun l : List Int => [iL l]) (fun l => l.length ≤ maxLen) :=
  (opens_slice Tryz.underlying53 1 cl3 (by decide) (f := DV.int .i64) (opens_int Tryz.underlying3)).map id (fun _ => rfl) (fun _ h => h.1)
end
theorem relL_ints {M : Mem} {k : IntKind} (zs : List Int) : RelL M (zs.map (DV.int k)) (zs.map fun z => Value.int k z) := by
  refine ⟨by simp, fun i hi => ?_⟩
  rw [List.length_map] at hi
  have e1 : (zs.map (DV.int k)).getD i .undef = .int k zs[i] := by simp [List.getD_eq_getElem?_getD, hi]
  have e2 : (zs.map fun z => Value.int k z).getD i Go.undef = .int k zs[i] := by simp [List.getD_eq_getElem?_getD, hi]
  rw [e1, e2]
  exact .int _ _
theorem known_word {W : World} (s : List UInt8) {b : UInt8} {r : List UInt8} {f0 : FuncId} (hone : ((List.range Tryz.prog.funcs.size).filter fun f => (Tryz.prog.funcs[f]?).any (·.name.toUTF8.data.toList == b :: r)) = [f0]) :
    Known (funcToken Tryz.prog) Tryz.prog W 165 (.agg [.lit (.string s), .held (b :: r)]) [.str s, .func f0 []] :=
  known_struct2 (d0 := [.str s]) (d1 := [.func f0 []]) Tryz.underlying165 1 1 cl9 cl114 cl165 rfl rfl (known_string Tryz.underlying9 s) (known_func Tryz.underlying114 hone)
def wName (k : UInt8) : List UInt8 := [111, 109, 98, 105, 110, 101, 114, 47, 99, 117, 114, 118, 101, 46, 119, 111, 114, 100, 115, 36, k]
def wordsX : List (DataW (List UInt8)) := [.agg [.lit (.string [115, 97, 109, 101]), .held (99 :: wName 49)], .agg [.lit (.string [109, 111, 114, 101]), .held (99 :: wName 50)], .agg [.lit (.string [111, 112, 101, 110]), .held (99 :: wName 51)], .agg [.lit (.string [100, 97, 114, 107]), .held (99 :: wName 52)], .agg [.lit (.string [98, 121, 112, 97, 115, 115, 101, 100]), .held (99 :: wName 53)]]
def wordsD : List (List DV) := [[.str [115, 97, 109, 101], .func 190 []], [.str [109, 111, 114, 101], .func 192 []], [.str [111, 112, 101, 110], .func 193 []], [.str [100, 97, 114, 107], .func 194 []], [.str [98, 121, 112, 97, 115, 115, 101, 100], .func 195 []]]
theorem known_words {W : World} : Known (funcToken Tryz.prog) Tryz.prog W 166 (.agg wordsX) wordsD.flatten := by
  refine known_array (c := 2) Tryz.underlying166 cl165 cl166 rfl ?_
  intro i x ds e1 e2
  match i, e1, e2 with
  | 0, e1, e2 => cases Option.some.inj e1; cases Option.some.inj e2; exact known_word _ (by kernel_rfl)
  | 1, e1, e2 => cases Option.some.inj e1; cases Option.some.inj e2; exact known_word _ (by kernel_rfl)
  | 2, e1, e2 => cases Option.some.inj e1; cases Option.some.inj e2; exact known_word _ (by kernel_rfl)
  | 3, e1, e2 => cases Option.some.inj e1; cases Option.some.inj e2; exact known_word _ (by kernel_rfl)
  | 4, e1, e2 => cases Option.some.inj e1; cases Option.some.inj e2; exact known_word _ (by kernel_rfl)
def laidC : List (String × DataW Unit) := Rows.curveCellsRow.laid
theorem words_at {W : World} (h : laidMetH Tryz.prog laidC W) : ∃ cs : Array Value, W.var? Tryz.prog "combiner/curve.words" = some cs ∧ RelL (memOf W) wordsD.flatten cs.toList := by
  obtain ⟨g, t, cs, fuel, p, hg, ht, hv, hd⟩ := h.funcs (n := "combiner/curve.words") (.tail _ (.tail _ (.tail _ (.head _))))
  obtain rfl := Option.some.inj ((show Tryz.prog.globalNamed "combiner/curve.words" = some 0 by kernel_rfl).symm.trans hg)
  obtain rfl := Option.some.inj ((show (Tryz.prog.globals[0]?).map (·.type) = some 166 by kernel_rfl).symm.trans ht)
  have hd' : DataW.trod (funcToken Tryz.prog) Tryz.prog W 0 (fun _ => true) true fuel 166 cs.toList = some (.agg wordsX, p) := hd
  exact ⟨cs, hv, known_words _ _ _ _ _ hd'⟩
theorem pow_at {W : World} (h : laidMetH Tryz.prog laidC W) : Lib.TabIs Tryz.prog W "internal/strconv.uint64pow10" .u64 Lib.pow10Tab := by
  have h1 := h.filter fun x => x.1 == "internal/strconv.uint64pow10"
  have e : (laidC.filter fun x => x.1 == "internal/strconv.uint64pow10") = [("internal/strconv.uint64pow10", Lib.tabData .u64 Lib.pow10Tab)] := by kernel_rfl
  rw [e, MakeChecks.laidMetH_plain _ _ _ (by kernel_rfl)] at h1
  exact Lib.tabIs_of_head (g := 2) (t := 212) (e := 203) (n := 20) (by kernel_rfl) (by kernel_rfl) Tryz.underlying212 Tryz.underlying203 (by kernel_rfl) (by kernel_rfl) h1
theorem gokC {W : World} (h : laidMetH Tryz.prog laidC W) : GOk GC (memOf W) ∧ Tabs GC W := by
  obtain ⟨cs, hv, hr⟩ := words_at h
  have hp := pow_at h
  unfold Lib.TabIs at hp
  have g0 : Tryz.prog.globalNamed "combiner/curve.words" = some 0 := by kernel_rfl
  have g2 : Tryz.prog.globalNamed "internal/strconv.uint64pow10" = some 2 := by kernel_rfl
  refine ⟨fun g d hg => ?_, fun g d hg => ?_⟩
  all_goals unfold GC at hg
  all_goals split at hg
  · next e =>
    subst e
    obtain rfl := Option.some.inj hg
    exact gok_of (cs := cs) (fun i => World.var?_cell g0 hv i) hr
  · split at hg
    · next e =>
      subst e
      obtain rfl := Option.some.inj hg
      exact gok_of (fun i => World.var?_cell g2 hp i) (by simpa using relL_ints Lib.pow10Tab)
    · cases hg
  · next e =>
    subst e
    obtain rfl := Option.some.inj hg
    rw [len_of g0 hv, ← Array.length_toList, ← hr.1]
    rfl
  · split at hg
    · next e =>
      subst e
      obtain rfl := Option.some.inj hg
      rw [len_of g2 hp]
      rfl
    · cases hg
end Sh
