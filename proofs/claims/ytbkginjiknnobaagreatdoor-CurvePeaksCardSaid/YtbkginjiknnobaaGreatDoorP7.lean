/-
  Chapter 4's functions, walked over pure data: the library of the walk, the functions' code over data, and what each computes. (part 7)
-/
import Derived.Test.YtbkginjiknnobaaGreatDoorP6
import Derived.Test.YtbkginjiknnobaaGreatDoorProg
import Derived.Test.YtbkginjiknnobaaGreatDoorRows
import Derived.Test.YtbkginjiknnobaaGreatDoorCards
import Derived.Test.YtbkginjiknnobaaGreatDoorTie
import Derived.ProofKit
import Derived.Carry
import Derived.ChangeSame
import Derived.OpenShut
import Derived.Stop.Joined
import Derived.Deep.DeepHandedRow
import Derived.Lib.LaidTab
import Derived.MakeChecks
import Derived.LaidSub
import Derived.LaidHandle
set_option linter.unusedVariables false
set_option linter.unusedSimpArgs false
/-! The reference's ShortField and Mismatch. -/
set_option maxRecDepth 100000
set_option linter.unusedSimpArgs false
set_option linter.unusedVariables false
namespace Sh
open Go Go.Proofs
def shortFN (n : Nat) : Bool := !(decide (4 < n) && !decide (n = 7))
def lenT (f : List (List Cel)) (i : Nat) : Int := sumI ((f.take i).map fun l => (l.length : Int))
theorem lenT_succ (f : List (List Cel)) (i : Nat) (h : i < f.length) : lenT f (i + 1) = lenT f i + (f.getD i []).length := by
  unfold lenT; rw [take_map_succ _ f i [] h, sumI_append, sumI_one]
def shortF (f : List (List Cel)) : Bool := shortFN f.length && (f.all shortC && decide (lenT f f.length ≤ 24))
theorem shortC_len {l : List Cel} (h : shortC l = true) : l.length ≤ 9 := (shortC_spec h).1
theorem lenT_bd {f : List (List Cel)} {i : Nat} (h : (f.take i).all shortC = true) : 0 ≤ lenT f i ∧ lenT f i ≤ 9 * i := by
  have h1 := sumI_bd (l := (f.take i).map fun l => (l.length : Int)) (A := 0) (B := 9) (fun x hx => by
    obtain ⟨l, hl, rfl⟩ := List.mem_map.1 hx
    have := shortC_len (List.all_eq_true.1 h l hl)
    omega)
  have h2 : ((f.take i).map fun l => (l.length : Int)).length ≤ i := by simp; omega
  unfold lenT
  omega
theorem r_ShortField (f : List (List Cel)) : PC 38 [fld f] (.bool (shortF f)) := by
  have e0 : ((f.map chn).length : Int) = f.length := by simp
  refine pureCall_ofR dh38 rfl ?_
  conv => whnf
  repeat' (first
    | (refine ⟨fun hg => ?_, fun hg => ?_⟩ <;> first | contradiction | (conv => whnf))
    | (refine Or.inl ?_; conv => whnf)
    | (refine And.intro ?_ ?_; kernel_rfl; conv => whnf))
  · rw [e0] at *
    refine bool_eq ?_
    symm
    rename_i hq
    have hq := of_decide_eq_true hq
    have hg := of_decide_eq_true hg
    have : shortFN f.length = false := by simp only [shortFN]; simp; omega
    unfold shortF; rw [this]; rfl
  all_goals
    have hk : shortFN f.length = true := by
      rename_i hq
      rw [e0] at *
      have hq : ¬ ((4 : Int) < f.length ∧ ¬ ((f.length : Int) = 7)) := by simp at hq hg; omega
      simp only [shortFN]; simp; omega
  all_goals have h7 : f.length ≤ 7 := by (simp only [shortFN] at hk; simp at hk; omega)
  all_goals refine dwp_loopR (P := Tryz.prog) (G := GC) (k := dk38_0) (b := db38_0) (α := Nat) (fun i => [(0, fld f), (3, DV.int .i64 (lenT f i)), (4, DV.int .i64 (i))]) (fun _ => []) (fun i => i ≤ f.length ∧ (f.take i).all shortC = true) (fun i => f.length - i) 0 ⟨rfl, rfl, rfl⟩ ⟨Nat.zero_le _, rfl⟩ ?_
  all_goals intro i ⟨h1, h2⟩
  all_goals have hb2 := lenT_bd h2
  all_goals conv => whnf
  all_goals refine ⟨fun hb => ?_, fun hb => ?_⟩
  any_goals
    have hi : i < f.length := by simpa using hb
    have e1 : (((f.getD i []).map encC).length : Int) = (f.getD i []).length := by simp
    conv => whnf
    rw [getD_enc _ _ (i) [] hi]
    refine ⟨idxA hi rfl, ?_⟩
    conv => whnf
    rw [getD_enc _ _ (i) [] hi]
    refine ⟨idxA hi rfl, ?_⟩
    conv => whnf
    repeat' (first
      | (refine ⟨fun hg => ?_, fun hg => ?_⟩ <;> first | contradiction | (conv => whnf))
      | (refine Or.inl ?_; conv => whnf)
      | (refine ⟨_, r_ShortChain .., ?_⟩; conv => whnf)
      | (refine And.intro ?_ ?_; kernel_rfl; conv => whnf))
    · have hg : shortC (f.getD i []) = false := by simpa using hg
      refine bool_eq ?_
      unfold shortF
      rw [all_not _ f i [] hi hg, Bool.false_and, Bool.and_false]
    · have hg : shortC (f.getD i []) = true := by simpa using hg
      have hq := shortC_len hg
      rw [wrap_succ i (by omega)]
      refine ⟨i + 1, rfl, ?_, rfl, ⟨hi, all_take _ f i [] hi h2 hg⟩, by omega⟩
      show [(0, fld f), (3, DV.int .i64 (IntKind.i64.wrap (lenT f i + (((f.getD i []).map encC).length : Int)))), _] = _
      rw [e1, wrap_W, W_in (by omega) (by omega), ← lenT_succ f i hi]; rfl
  all_goals
    have hi : i = f.length := by have := of_decide_eq_false hb; rw [e0] at this; omega
    conv => whnf
    refine bool_eq ?_
    rw [hi, List.take_length] at h2
    unfold shortF
    rw [hk, h2, hi]; rfl
theorem shortF_spec {f : List (List Cel)} (h : shortF f = true) : f.length ≤ 7 ∧ (∀ l ∈ f, shortC l = true) ∧ LenF f := by
  unfold shortF at h
  rw [Bool.and_eq_true, Bool.and_eq_true] at h
  have h7 : f.length ≤ 7 := by
    have := h.1
    simp only [shortFN] at this
    simp at this
    omega
  have hA := List.all_eq_true.1 h.2.1
  refine ⟨h7, hA, by omega, fun l hl => ?_⟩
  have := shortC_spec (hA l hl)
  exact ⟨by omega, fun c hc => by have := this.2 c hc; omega⟩
theorem r_Mismatch (f : List (List Cel)) (hF : OkF f) : PC 48 [fld f] (DV.int .i64 (misF f)) := by
  have e0 : ((f.map chn).length : Int) = f.length := by simp
  have hm := hiF_bd hF
  have hfl := hF.2.1
  have hok := crv_ok hF
  refine pureCall_ofR dh48 rfl ?_
  conv => whnf
  repeat' (first
    | (refine ⟨fun hg => ?_, fun hg => ?_⟩ <;> first | contradiction | (conv => whnf))
    | (refine Or.inl ?_; conv => whnf)
    | (refine ⟨_, r_Curve f hF, ?_⟩; conv => whnf)
    | (refine ⟨_, r_Highest _ hok.1 hok.2, ?_⟩; conv => whnf)
    | (refine And.intro ?_ ?_; kernel_rfl; conv => whnf))
  refine dwp_loopR (P := Tryz.prog) (G := GC) (k := dk48_0) (b := db48_0) (α := Nat) (fun i => [(0, fld f), (4, DV.int .i64 ((hiF f).2)), (5, DV.int .i64 (misT f i)), (6, DV.int .i64 (i))]) (fun _ => []) (fun i => i ≤ f.length) (fun i => f.length - i) 0 ⟨rfl, rfl, rfl⟩ (Nat.zero_le _) ?_
  intro i h1
  have hb1 := misT_bd hF i
  conv => whnf
  refine ⟨fun hb => ?_, fun hb => ?_⟩
  · have hi : i < f.length := by simpa using hb
    have hmem := getD_in [] hi
    have hO := hF.one hmem
    have hb2 := hiF_bd hO
    have hok2 := crv_ok hO
    conv => whnf
    rw [wrap_succ i (by omega)]
    have hwin : window (f.map chn) (Int.toNat (i : Int)) (Int.toNat (((i + 1 : Nat) : Int) - (i : Int))) = [f.getD i []].map chn := by
      rw [show Int.toNat (((i + 1 : Nat) : Int) - (i : Int)) = 1 by omega, Int.toNat_natCast]
      unfold window
      rw [drop_getD (f.map chn) i (chn []) (by simpa using hi)]
      simp [List.getD_eq_getElem?_getD, hi]
    rw [hwin]
    refine ⟨⟨by omega, by omega, by rw [e0]; omega, fun e he => by obtain ⟨l, _, rfl⟩ := List.mem_map.1 he; rfl⟩, ?_⟩
    conv => whnf
    repeat' (first
      | (refine ⟨fun hg => ?_, fun hg => ?_⟩ <;> first | contradiction | (conv => whnf))
      | (refine Or.inl ?_; conv => whnf)
      | (refine ⟨_, r_Curve _ hO, ?_⟩; conv => whnf)
      | (refine ⟨_, r_Highest _ hok2.1 hok2.2, ?_⟩; conv => whnf)
      | (refine And.intro ?_ ?_; kernel_rfl; conv => whnf))
    rw [wrap_succ i (by omega)]
    refine ⟨i + 1, rfl, ?_, rfl, hi, by omega⟩
    have hh : (pw (crv [f.getD i []]) (hiA (crv [f.getD i []]) (crv [f.getD i []]).length)).2 = (hiF [f.getD i []]).2 := rfl
    rw [hh, show IntKind.i64.wrap (misT f i + (hiF [f.getD i []]).2) = misT f (i + 1) from (W_in (by omega) (by omega)).trans (misT_succ f i hi).symm]
    rfl
  · have hi : i = f.length := by have := of_decide_eq_false hb; rw [e0] at this; omega
    conv => whnf
    refine int_eq ?_
    rw [hi] at hb1 ⊢
    rw [wrap_W, W_in (by omega) (by omega)]; rfl
end Sh

/-! The reference's CheckCuts and Proves. -/
set_option maxRecDepth 100000
set_option linter.unusedSimpArgs false
set_option linter.unusedVariables false
namespace Sh
open Go Go.Proofs
def cutsR (L cuts : List Int) : Int := if countE cuts.length 801 ≠ 0 then countE cuts.length 801 else cutsE L.length true (-1) cuts
theorem r_CheckCuts (L cuts : List Int) (hLn : L ≠ []) (hL : L.length ≤ 1000) : PC 61 [iL L, iL cuts] (DV.int .i64 (cutsR L cuts)) := by
  have e0 : ((cuts.map (DV.int .i64)).length : Int) = cuts.length := by simp
  have e1 : ((L.map (DV.int .i64)).length : Int) = L.length := by simp
  have hpos := List.length_pos_iff.2 hLn
  refine pureCall_ofR dh61 rfl ?_
  conv => whnf
  repeat' (first
    | (refine ⟨fun hg => ?_, fun hg => ?_⟩ <;> first | contradiction | (conv => whnf))
    | (refine Or.inl ?_; conv => whnf)
    | (refine ⟨_, q_When .., ?_⟩; conv => whnf)
    | (refine ⟨_, q_First [_, _] (by simp), ?_⟩; conv => whnf)
    | (refine And.intro ?_ ?_; kernel_rfl; conv => whnf))
  · have hg := of_decide_eq_true hg
    exact int_eq (by rw [e0] at hg ⊢; unfold cutsR countE; rw [if_pos hg])
  · have hg := of_decide_eq_false hg
    have hc : countE cuts.length 801 = 0 := by rw [e0] at hg; exact Classical.not_not.1 hg
    have hcl := countE_zero hc
    have ek : cutsR L cuts = cutsE L.length true (-1) cuts := by unfold cutsR; rw [if_neg (by omega)]
    rw [ek]
    clear ek hg hc
    refine dwp_loopR (P := Tryz.prog) (G := GC) (k := dk61_0) (b := db61_0) (α := Nat) (fun i => [(0, iL L), (1, iL cuts), (6, DV.int .i64 (i))]) (fun _ => []) (fun i => i ≤ cuts.length ∧ cutsE L.length true (-1) cuts = cutsE L.length (decide (i = 0)) (befI cuts i) (cuts.drop i)) (fun i => cuts.length - i) 0 ⟨rfl, rfl, rfl⟩ ⟨Nat.zero_le _, rfl⟩ ?_
    intro i ⟨h1, h2⟩
    conv => whnf
    refine ⟨fun hb => ?_, fun hb => ?_⟩
    · have hi : i < cuts.length := by simpa using hb
      have hs : cutsE L.length true (-1) cuts = if cutStep L.length (decide (i = 0)) (befI cuts i) (cuts.getD i 0) ≠ 0 then cutStep L.length (decide (i = 0)) (befI cuts i) (cuts.getD i 0) else cutsE L.length false (cuts.getD i 0) (cuts.drop (i + 1)) := by rw [h2, drop_getD cuts i 0 hi]; rfl
      have w1 : IntKind.i64.wrap (((L.map (DV.int .i64)).length : Int) - 1) = (L.length : Int) - 1 := by rw [e1, wrap_W, W_in (by omega) (by omega)]
      have hbf : 0 < i → befI cuts i = cuts.getD (i - 1) 0 := befI_pos cuts i
      clear hb
      conv => whnf
      rw [getD_enc _ _ (i) 0 hi]
      refine ⟨idxA hi rfl, ?_⟩
      conv => whnf
      rw [w1]
      repeat' (first
        | (refine ⟨fun hg => ?_, fun hg => ?_⟩ <;> first | contradiction | (conv => whnf))
        | (refine Or.inl ?_; conv => whnf)
        | (refine ⟨_, q_CheckRange .., ?_⟩; conv => whnf)
        | (rw [getD_enc _ _ (i) 0 hi]; refine ⟨idxA hi rfl, ?_⟩; conv => whnf)
        | (rw [wrap_pred i (by simp only [decide_eq_true_eq, Int.natCast_pos] at *; omega) (by omega), getD_enc _ _ (i - 1) 0 (by omega)]; refine ⟨idxA (by omega) rfl, ?_⟩; conv => whnf)
        | (refine And.intro ?_ ?_; kernel_rfl; conv => whnf))
      all_goals (try rw [wrap_succ i (by omega)])
      all_goals first
        | (refine ⟨i + 1, rfl, rfl, rfl, ⟨hi, ?_⟩, Nat.sub_lt_sub_left hi (Nat.lt_succ_self i)⟩; rw [hs]; clear hs h2 h1; simp only [Bool.cond_true, Bool.cond_false, Bool.not_false, Bool.not_true, decide_eq_true_eq, decide_eq_false_iff_not, Int.natCast_eq_zero, Int.natCast_pos] at *; grind [cutStep, befI, firstE, whenE, withE])
        | (refine int_eq ?_; rw [hs]; clear hs h2 h1; simp only [Bool.cond_true, Bool.cond_false, Bool.not_false, Bool.not_true, decide_eq_true_eq, decide_eq_false_iff_not, Int.natCast_eq_zero, Int.natCast_pos] at *; grind [cutStep, firstE, whenE, withE])
        | trace_state
    · have hi : i = cuts.length := by have := of_decide_eq_false hb; rw [e0] at this; omega
      rw [hi, List.drop_length] at h2
      conv => whnf
      exact int_eq (by rw [h2]; rfl)
theorem r_Proves (L cuts : List Int) (p : Int) (hok : OkL L) (hLn : L ≠ []) (hin : InR L cuts) (hcl : cuts.length ≤ 1000) : PC 63 [iL L, DV.int .i64 (p), iL cuts] (.bool (provB L p cuts)) := by
  have e0 : ((cuts.map (DV.int .i64)).length : Int) = cuts.length := by simp
  have e1 : ((L.map (DV.int .i64)).length : Int) = L.length := by simp
  have hpos := List.length_pos_iff.2 hLn
  have hlen := hok.1
  refine pureCall_ofR dh63 rfl ?_
  conv => whnf
  refine dwp_loopR (P := Tryz.prog) (G := GC) (k := dk63_0) (b := db63_0) (α := Nat) (fun i => [(0, iL L), (1, DV.int .i64 (p)), (2, iL cuts), (7, DV.int .i64 (i))]) (fun _ => []) (fun i => i ≤ cuts.length ∧ (List.range i).all (provAt L p cuts) = true) (fun i => cuts.length - i) 0 ⟨rfl, rfl, rfl⟩ ⟨Nat.zero_le _, rfl⟩ ?_
  intro i ⟨h1, h2⟩
  conv => whnf
  refine ⟨fun hb => ?_, fun hb => ?_⟩
  · have hi : i < cuts.length := by simpa using hb
    have hci := hin i hi
    obtain ⟨u, hu⟩ : ∃ u : Nat, (u : Int) = cuts.getD i 0 := ⟨(cuts.getD i 0).toNat, by omega⟩
    have hu2 : u < L.length := by omega
    have hLu := hok.at hu2
    have w1 : IntKind.i64.wrap (((L.map (DV.int .i64)).length : Int) - 1) = (L.length : Int) - 1 := by rw [e1, wrap_W, W_in (by omega) (by omega)]
    have w2 : IntKind.i64.wrap ((i : Int) + 1) = ((i + 1 : Nat) : Int) := wrap_succ i (by omega)
    have hpa : provAt L p cuts i = !decide (p < L.getD u 0 * toI L cuts i) := by unfold provAt; rw [← hu, Int.toNat_natCast]
    have ht := toI_bd hin (i := i) hLn
    have hmul := mul_bd (a := L.getD u 0) (b := toI L cuts i) (A := 1200) (B := 1000) (by omega) (by omega) (by omega) (by omega)
    have w3 : IntKind.i64.wrap (L.getD u 0 * toI L cuts i) = L.getD u 0 * toI L cuts i := W_in (by omega) (by omega)
    clear hb
    conv => whnf
    rw [w1, w2]
    refine ⟨fun hg => ?_, fun hg => ?_⟩
    · have hi2 : i + 1 < cuts.length := by have := of_decide_eq_true hg; rw [e0] at this; omega
      have et : toI L cuts i = cuts.getD (i + 1) 0 - 1 := by unfold toI; rw [if_pos hi2]
      have hc2 := hin (i + 1) hi2
      clear hg
      conv => whnf
      rw [w2]
      rw [getD_enc _ _ (i + 1) 0 hi2]
      refine ⟨idxA hi2 rfl, ?_⟩
      conv => whnf
      rw [show IntKind.i64.wrap (cuts.getD (i + 1) 0 - 1) = toI L cuts i by rw [et, wrap_W, W_in (by omega) (by omega)]]
      rw [getD_enc _ _ (i) 0 hi]
      refine ⟨idxA hi rfl, ?_⟩
      conv => whnf
      rw [← hu]
      rw [getD_enc _ _ (u) 0 hu2]
      refine ⟨idxA hu2 rfl, ?_⟩
      conv => whnf
      rw [w3]
      repeat' (first
        | (refine ⟨fun hg => ?_, fun hg => ?_⟩ <;> first | contradiction | (conv => whnf))
        | (refine Or.inl ?_; conv => whnf)
        | (refine And.intro ?_ ?_; kernel_rfl; conv => whnf))
      · have hg := of_decide_eq_true hg
        exact bool_eq (by unfold provB; rw [range_not _ _ i hi (by rw [hpa, decide_eq_true hg]; rfl)])
      · have hg := of_decide_eq_false hg
        rw [w2]
        exact ⟨i + 1, rfl, rfl, rfl, ⟨hi, range_all _ i h2 (by rw [hpa, decide_eq_false hg]; rfl)⟩, by omega⟩
    · have hi2 : ¬ i + 1 < cuts.length := by have := of_decide_eq_false hg; rw [e0] at this; omega
      have et : toI L cuts i = (L.length : Int) - 1 := by unfold toI; rw [if_neg hi2]
      clear hg
      conv => whnf
      rw [← et]
      rw [getD_enc _ _ (i) 0 hi]
      refine ⟨idxA hi rfl, ?_⟩
      conv => whnf
      rw [← hu]
      rw [getD_enc _ _ (u) 0 hu2]
      refine ⟨idxA hu2 rfl, ?_⟩
      conv => whnf
      rw [w3]
      repeat' (first
        | (refine ⟨fun hg => ?_, fun hg => ?_⟩ <;> first | contradiction | (conv => whnf))
        | (refine Or.inl ?_; conv => whnf)
        | (refine And.intro ?_ ?_; kernel_rfl; conv => whnf))
      · have hg := of_decide_eq_true hg
        exact bool_eq (by unfold provB; rw [range_not _ _ i hi (by rw [hpa, decide_eq_true hg]; rfl)])
      · have hg := of_decide_eq_false hg
        rw [w2]
        exact ⟨i + 1, rfl, rfl, rfl, ⟨hi, range_all _ i h2 (by rw [hpa, decide_eq_false hg]; rfl)⟩, by omega⟩
  · have hi : i = cuts.length := by have := of_decide_eq_false hb; rw [e0] at this; omega
    conv => whnf
    rw [hi] at h2
    exact bool_eq h2.symm
end Sh

/-! The reference's Certificate. -/
set_option maxRecDepth 100000
set_option linter.unusedSimpArgs false
set_option linter.unusedVariables false
namespace Sh
open Go Go.Proofs
/-- The next cut, as far as the reference has searched it. -/
def nxt (A M v : Nat) : Nat := max (A + 1) (min (v - 1) M)
theorem nxt_first (A M : Nat) : nxt A M (A + 1) = A + 1 := by unfold nxt; omega
theorem nxt_in {A M v : Nat} (h1 : A + 1 ≤ v) (h2 : v ≤ M) : nxt A M (v + 1) = v := by unfold nxt; omega
theorem nxt_out {A M v : Nat} (h0 : A + 1 ≤ M) (h2 : M < v) : nxt A M (v + 1) = nxt A M v := by unfold nxt; omega
theorem nxt_end {A M v : Nat} (h0 : A + 1 ≤ M) (h2 : M < v) : nxt A M v = M := by unfold nxt; omega
theorem r_Certificate (L : List Int) (m : Int) (hok : OkL L) (hLn : L ≠ []) (hm : m = (pw L (hiA L L.length)).2) (hm2 : 0 ≤ m ∧ m ≤ 1200000 ∧ ∀ v : Nat, v < L.length → (v : Int) * L.getD v 0 ≤ m) : PC 59 [iL L] (iL (certL L m)) := by
  have e0 : ((L.map (DV.int .i64)).length : Int) = L.length := by simp
  have hpos := List.length_pos_iff.2 hLn
  have hlen := hok.1
  have w2 : IntKind.i64.wrap (((L.map (DV.int .i64)).length : Int) - 1) = (L.length : Int) - 1 := by rw [e0, wrap_W, W_in (by omega) (by omega)]
  refine pureCall_ofR dh59 rfl ?_
  conv => whnf
  repeat' (first
    | (refine ⟨fun hg => ?_, fun hg => ?_⟩ <;> first | contradiction | (conv => whnf))
    | (refine Or.inl ?_; conv => whnf)
    | (refine ⟨_, r_Highest _ hok hLn, ?_⟩; conv => whnf)
    | (refine And.intro ?_ ?_; kernel_rfl; conv => whnf))
  rw [← hm, w2]
  clear hm
  refine dwp_loopR (P := Tryz.prog) (G := GC) (k := dk59_1) (b := db59_1) (α := Nat) (fun k => [(0, iL L), (4, DV.int .i64 (m)), (5, .own 15 0 (clD L m k).length (clD L m k).length), (6, DV.int .i64 ((L.length : Int) - 1)), (7, DV.int .i64 ((ats L m k : Nat)))]) (fun k => [(15, .row 1 (clD L m k) false)]) (fun k => k ≤ ats L m k ∧ ats L m k < L.length ∧ stp L m (L.length - k) k = stp L m L.length 0) (fun k => L.length - k) 0 ⟨rfl, rfl, rfl⟩ ⟨Nat.le_refl _, hpos, rfl⟩ ?_
  intro k ⟨hk1, hk2, hk3⟩
  have hb := hok.at hk2
  obtain ⟨n, hn⟩ : ∃ n, L.length - k = n + 1 := ⟨L.length - k - 1, by omega⟩
  rw [hn, stp] at hk3
  have hmul := mul_bd (a := L.getD (ats L m k) 0) (b := (L.length : Int) - 1) (A := 1200) (B := 1000) (by omega) (by omega) (by omega) (by omega)
  conv => whnf
  rw [getD_enc _ _ (ats L m k) 0 hk2]
  refine ⟨idxA hk2 rfl, ?_⟩
  conv => whnf
  rw [show IntKind.i64.wrap (L.getD (ats L m k) 0 * ((L.length : Int) - 1)) = L.getD (ats L m k) 0 * ((L.length : Int) - 1) from W_in (by omega) (by omega)]
  refine ⟨fun hg => ?_, fun hg => ?_⟩
  · have hg : goes L m k := by have := of_decide_eq_true hg; unfold goes; omega
    rw [if_pos hg] at hk3
    have hnx := ats_next hm2.2.2 hm2.1 hk2 hg
    have hc := hnx.1
    have hM := hnx.2.2.2
    generalize hA : ats L m k = A at *
    generalize hMM : ats L m (k + 1) = M at *
    generalize hcc : L.getD A 0 = c at *
    conv => whnf
    rw [wrap_succ A (by omega)]
    refine dwp_loopR (P := Tryz.prog) (G := GC) (k := dk59_0) (b := db59_0) (α := Nat) (fun v => [(0, iL L), (4, DV.int .i64 (m)), (5, .own 15 0 (clD L m k).length (clD L m k).length), (6, DV.int .i64 ((L.length : Int) - 1)), (7, DV.int .i64 (A)), (8, DV.int .i64 ((nxt A M v : Nat))), (9, DV.int .i64 (v))]) (fun _ => [(15, .row 1 (clD L m k) false)]) (fun v => A + 1 ≤ v ∧ v ≤ L.length) (fun v => L.length - v) (A + 1) ⟨rfl, ?_, rfl⟩ ⟨Nat.le_refl _, by omega⟩ ?_
    · rw [nxt_first]; rfl
    intro v ⟨hv1, hv2⟩
    conv => whnf
    refine ⟨fun hg2 => ?_, fun hg2 => ?_⟩
    · have hv : v < L.length := by have := of_decide_eq_true hg2; omega
      have hmv := mul_bd (a := c) (b := (v : Int) - 1) (A := 1200) (B := 1000) (by omega) (by omega) (by omega) (by omega)
      have w3 : IntKind.i64.wrap ((v : Int) - 1) = (v : Int) - 1 := by rw [wrap_W, W_in (by omega) (by omega)]
      clear hg2
      conv => whnf
      rw [getD_enc _ _ (A) 0 hk2]
      refine ⟨idxA hk2 rfl, ?_⟩
      conv => whnf
      rw [hcc, w3, show IntKind.i64.wrap (c * ((v : Int) - 1)) = c * ((v : Int) - 1) from W_in (by omega) (by omega)]
      have hiff : c * ((v : Int) - 1) ≤ m ↔ v ≤ M := by
        rw [Int.mul_comm, ← Int.le_ediv_iff_mul_le hc]; omega
      refine ⟨fun hg3 => ?_, fun hg3 => ?_⟩
      · have hg3 : v ≤ M := hiff.1 (of_decide_eq_true hg3)
        conv => whnf
        rw [wrap_succ v (by omega)]
        refine ⟨v + 1, rfl, ?_, rfl, ⟨by omega, hv⟩, by omega⟩
        rw [nxt_in hv1 hg3]; rfl
      · have hg3 : ¬ v ≤ M := fun h => of_decide_eq_false hg3 (hiff.2 h)
        conv => whnf
        rw [wrap_succ v (by omega)]
        refine ⟨v + 1, rfl, ?_, rfl, ⟨by omega, hv⟩, by omega⟩
        rw [nxt_out (by omega) (by omega)]; rfl
    · have hv : v = L.length := by have := of_decide_eq_false hg2; omega
      have hnv : nxt A M v = M := nxt_end (by omega) (by omega)
      clear hg2
      rw [hnv]
      conv => whnf
      refine ⟨⟨rfl, rfl, rfl, by rw [clD_len]; simp; omega, fun e he => by simp at he; subst he; rfl⟩, ?_⟩
      conv => whnf
      refine ⟨k + 1, rfl, ?_, ?_, ⟨by omega, by omega, by rw [show L.length - (k + 1) = n by omega]; exact hk3⟩, by omega⟩
      · rw [clD_succ, hMM]; rfl
      · rw [clD_succ, hMM]; rfl
  · have hg : ¬ goes L m k := by have := of_decide_eq_false hg; unfold goes; omega
    rw [if_neg hg] at hk3
    conv => whnf
    refine ⟨rfl, ?_⟩
    rw [window_full]
    show DV.list (clD L m k) = _
    unfold certL
    rw [← hk3]
    show _ = DV.list ((rng (k + 1) fun k => (ats L m k : Int)).map (DV.int .i64))
    rw [rng_map]; rfl
end Sh

/-! The reference's Peaks. -/
set_option maxRecDepth 100000
set_option maxHeartbeats 2000000
set_option linter.unusedSimpArgs false
set_option linter.unusedVariables false
namespace Sh
open Go Go.Proofs
theorem minmax0 (n : Nat) : minmaxI true 0 (n : Int) = (n : Int) := by
  unfold minmaxI
  show (if (n : Int) > 0 then (n : Int) else 0) = _
  split <;> omega
theorem minmax1 {a b : Int} (h : b ≤ a) : minmaxI false a b = b := by
  unfold minmaxI
  show (if b < a then b else a) = _
  split <;> omega
theorem r_Peaks (L : List Int) (hok : OkL L) : PC 58 [iL L] (iL (pks L L.length)) := by
  have e0 : ((L.map (DV.int .i64)).length : Int) = L.length := by simp
  have hlen := hok.1
  have w2 : IntKind.i64.wrap (((L.map (DV.int .i64)).length : Int) - 1) = (L.length : Int) - 1 := by rw [e0, wrap_W, W_in (by omega) (by omega)]
  refine pureCall_ofR dh58 rfl ?_
  conv => whnf
  refine dwp_loopR (P := Tryz.prog) (G := GC) (k := dk58_1) (b := db58_1) (α := Nat) (fun i => [(0, iL L), (3, .own 3 0 (pkD L i).length (pkD L i).length), (4, DV.int .i64 (i))]) (fun i => [(3, .row 1 (pkD L i) false)]) (fun i => i ≤ L.length) (fun i => L.length - i) 0 ⟨rfl, rfl, rfl⟩ (Nat.zero_le _) ?_
  intro i h1
  have hpl := pkD_len L i
  conv => whnf
  refine ⟨fun hb => ?_, fun hb => ?_⟩
  · have hi : i < L.length := by simpa using hb
    have p1 := hok.pw hi
    have hp0 : 0 ≤ (pw L i).2 := p1.1
    have hwp : ∀ v : Nat, v < L.length → IntKind.i64.wrap ((v : Int) * L.getD v 0) = (pw L v).2 := fun v hv => by have := hok.pw hv; exact W_in (by omega) (by omega)
    clear hb
    conv => whnf
    rw [getD_enc _ _ (i) 0 hi]
    refine ⟨idxA hi rfl, ?_⟩
    conv => whnf
    rw [hwp i hi]
    refine dwp_loopR (P := Tryz.prog) (G := GC) (k := dk58_0) (b := db58_0) (α := Nat) (fun t => [(0, iL L), (3, .own 3 0 (pkD L i).length (pkD L i).length), (4, DV.int .i64 (i)), (5, DV.int .i64 ((pw L i).2)), (6, DV.int .i64 (t))]) (fun _ => [(3, .row 1 (pkD L i) false)]) (fun t => t < L.length ∧ i ≤ t ∧ toE L (pw L i).2 (L.length - t) t = toF L i) (fun t => L.length - t) i ⟨rfl, rfl, rfl⟩ ⟨hi, Nat.le_refl _, rfl⟩ ?_
    intro t ⟨ht, hit, hto⟩
    obtain ⟨m, hm⟩ : ∃ m, L.length - t = m + 1 := ⟨L.length - t - 1, by omega⟩
    rw [hm, toE] at hto
    have e1 : IntKind.i64.wrap ((t : Int) + 1) = ((t + 1 : Nat) : Int) := wrap_succ t (by omega)
    conv => whnf
    rw [e1]
    refine ⟨fun hg => ?_, fun hg => ?_⟩
    · have hlt : t + 1 < L.length := by have := of_decide_eq_true hg; rw [e0] at this; omega
      clear hg
      conv => whnf
      rw [e1]
      rw [getD_enc _ _ (t + 1) 0 hlt]
      refine ⟨idxA hlt rfl, ?_⟩
      conv => whnf
      rw [hwp (t + 1) hlt]
      refine ⟨fun hg => ?_, fun hg => ?_⟩
      · have hg : (pw L (t + 1)).2 = (pw L i).2 := of_decide_eq_true hg
        conv => whnf
        rw [e1]
        rw [if_pos ⟨hlt, hg⟩] at hto
        exact ⟨t + 1, rfl, rfl, rfl, ⟨hlt, by omega, by rw [show L.length - (t + 1) = m by omega]; exact hto⟩, by omega⟩
      · have hgn : ¬ (pw L (t + 1)).2 = (pw L i).2 := of_decide_eq_false hg
        rw [if_neg (fun hh => hgn hh.2)] at hto
        clear hg
        have hto := hto.symm
        conv => whnf
        repeat' (first
          | (refine ⟨fun hg => ?_, fun hg => ?_⟩ <;> first | contradiction | (conv => whnf))
          | (refine Or.inl ?_; conv => whnf)
          | (rw [wrap_pred i (by simp only [decide_eq_false_iff_not, Int.natCast_eq_zero] at *; omega) (by omega), minmax0, getD_enc _ _ (i - 1) 0 (by omega)]; refine ⟨idxA (by omega) rfl, ?_⟩; conv => whnf; rw [hwp (i - 1) (by omega)])
          | (rw [w2, e1, minmax1 (by omega), getD_enc _ _ (t + 1) 0 (by omega)]; refine ⟨idxA (by omega) rfl, ?_⟩; conv => whnf; rw [hwp (t + 1) (by omega)])
          | (refine ⟨⟨rfl, rfl, rfl, by simp; omega, fun e he => by simp at he; subst he; rfl⟩, ?_⟩; conv => whnf)
          | (refine And.intro ?_ ?_; kernel_rfl; conv => whnf))
        all_goals (try rw [wrap_succ i (by omega)])
        all_goals (first
          | (have hpk : isPk L i = true := by
              unfold isPk
              rw [hto]
              simp only [e1, e0, Bool.cond_true, Bool.cond_false, Bool.not_true, Bool.not_false, decide_eq_true_eq, decide_eq_false_iff_not, Int.natCast_pos, Int.natCast_eq_zero, gt_iff_lt] at *
              grind
             refine ⟨i + 1, rfl, ?_, ?_, hi, by omega⟩
             · rw [pkD_true hpk]; rfl
             · rw [pkD_true hpk]; rfl)
          | (have hpk : isPk L i = false := by
              unfold isPk
              rw [hto]
              simp only [e1, e0, Bool.cond_true, Bool.cond_false, Bool.not_true, Bool.not_false, decide_eq_true_eq, decide_eq_false_iff_not, Int.natCast_pos, Int.natCast_eq_zero, gt_iff_lt] at *
              grind
             refine ⟨i + 1, rfl, ?_, ?_, hi, by omega⟩
             · rw [pkD_false hpk]; rfl
             · rw [pkD_false hpk]; rfl)
          | trace_state)
    · have hlt : ¬ t + 1 < L.length := by have := of_decide_eq_false hg; rw [e0] at this; omega
      rw [if_neg (fun hh => hlt hh.1)] at hto
      have hto := hto.symm
      clear hg
      conv => whnf
      repeat' (first
        | (refine ⟨fun hg => ?_, fun hg => ?_⟩ <;> first | contradiction | (conv => whnf))
        | (refine Or.inl ?_; conv => whnf)
        | (exfalso; have hq := of_decide_eq_false (show decide (IntKind.i64.wrap ((t : Int) + 1) = _) = false from hg); rw [e1, e0] at hq; omega)
        | (rw [wrap_pred i (by simp only [decide_eq_false_iff_not, Int.natCast_eq_zero] at *; omega) (by omega), minmax0, getD_enc _ _ (i - 1) 0 (by omega)]; refine ⟨idxA (by omega) rfl, ?_⟩; conv => whnf; rw [hwp (i - 1) (by omega)])
        | (refine ⟨⟨rfl, rfl, rfl, by simp; omega, fun e he => by simp at he; subst he; rfl⟩, ?_⟩; conv => whnf)
        | (refine And.intro ?_ ?_; kernel_rfl; conv => whnf))
      all_goals (try rw [wrap_succ i (by omega)])
      all_goals (first
        | (have hpk : isPk L i = true := by
            unfold isPk
            rw [hto]
            simp only [e1, e0, Bool.cond_true, Bool.cond_false, Bool.not_true, Bool.not_false, decide_eq_true_eq, decide_eq_false_iff_not, Int.natCast_pos, Int.natCast_eq_zero, gt_iff_lt] at *
            grind
           refine ⟨i + 1, rfl, ?_, ?_, hi, by omega⟩
           · rw [pkD_true hpk]; rfl
           · rw [pkD_true hpk]; rfl)
        | (have hpk : isPk L i = false := by
            unfold isPk
            rw [hto]
            simp only [e1, e0, Bool.cond_true, Bool.cond_false, Bool.not_true, Bool.not_false, decide_eq_true_eq, decide_eq_false_iff_not, Int.natCast_pos, Int.natCast_eq_zero, gt_iff_lt] at *
            grind
           refine ⟨i + 1, rfl, ?_, ?_, hi, by omega⟩
           · rw [pkD_false hpk]; rfl
           · rw [pkD_false hpk]; rfl)
        | trace_state)
  · have hi : i = L.length := by have := of_decide_eq_false hb; rw [e0] at this; omega
    conv => whnf
    exact ⟨rfl, by rw [window_full, hi]; rfl⟩
end Sh

set_option maxRecDepth 100000
namespace Sh
open Go
def dc3 : DFunc := ⟨100, 3, [(.tmp 6)], (.seq (.ops false [⟨(some 3), (.box 3 (.tmp 0)), none, []⟩, ⟨(some 6), (.mov (.const (.bool false))), none, []⟩]) (.seq (.seq (.ops false [⟨(some 17), (.faddr 0 1 false (.tmp 3)), none, []⟩, ⟨(some 18), (.load none (.tmp 17)), none, [0]⟩, ⟨(some 19), (.call (.func 12) [(.tmp 18)]), none, [1, 0]⟩, ⟨(some 20), (.un .not (.tmp 19)), none, [2, 1, 0]⟩]) (.cond (.tmp 20) (.seq (.ops false [⟨(some 21), (.call (.func 13) []), none, []⟩, ⟨(some 6), (.mov (.tmp 21)), none, [0]⟩]) .ret) .skip)) (.seq (.ops false [⟨(some 23), (.load (some 3) (.tmp 3)), none, []⟩, ⟨(some 24), (.call (.func 15) [(.tmp 23)]), none, [0]⟩, ⟨(some 25), (.mov (.tmp 1)), none, []⟩, ⟨(some 26), (.call (.func 14) [(.tmp 24), (.tmp 25)]), none, [1, 0, 2]⟩, ⟨(some 22), (.mov (.tmp 26)), none, [3, 1, 0, 2]⟩, ⟨(some 27), (.extract (.tmp 22) 0), none, [4, 3, 1, 0, 2]⟩, ⟨(some 28), (.extract (.tmp 22) 1), none, [4, 3, 1, 0, 2]⟩, ⟨(some 7), (.mov (.tmp 27)), none, [5, 4, 3, 1, 0, 2]⟩, ⟨(some 8), (.mov (.tmp 28)), none, [6, 4, 3, 1, 0, 2, 7, 5]⟩]) (.seq (.ops false [⟨(some 30), (.load (some 3) (.tmp 3)), none, []⟩, ⟨(some 31), (.call (.func 15) [(.tmp 30)]), none, [0]⟩, ⟨(some 32), (.mov (.tmp 2)), none, []⟩, ⟨(some 33), (.call (.func 16) [(.tmp 31), (.tmp 32)]), none, [1, 0, 2]⟩, ⟨(some 29), (.mov (.tmp 33)), none, [3, 1, 0, 2]⟩, ⟨(some 34), (.extract (.tmp 29) 0), none, [4, 3, 1, 0, 2]⟩, ⟨(some 35), (.extract (.tmp 29) 1), none, [4, 3, 1, 0, 2]⟩, ⟨(some 36), (.extract (.tmp 29) 2), none, [4, 3, 1, 0, 2]⟩, ⟨(some 9), (.mov (.tmp 34)), none, [5, 4, 3, 1, 0, 2]⟩, ⟨(some 10), (.mov (.tmp 35)), none, [6, 4, 3, 1, 0, 2, 8, 5]⟩, ⟨(some 11), (.mov (.tmp 36)), none, [7, 4, 3, 1, 0, 2, 9, 6, 8, 5]⟩]) (.seq (.ops true [⟨(some 37), (.load (some 3) (.tmp 3)), none, []⟩, ⟨(some 38), (.call (.func 18) [(.tmp 37)]), none, [0]⟩, ⟨(some 39), (.mov (.tmp 1)), none, []⟩, ⟨(some 40), (.call (.func 19) [(.tmp 39)]), none, [2, 1, 0]⟩, ⟨(some 41), (.lit true 1 2 (.int .i64 0) [(0, (.tmp 38)), (1, (.tmp 40))]), none, [1, 0, 3, 2]⟩, ⟨(some 42), (.call (.func 17) [(.tmp 41)]), none, [4, 1, 0, 3, 2]⟩, ⟨(some 43), (.load (some 3) (.tmp 3)), none, []⟩, ⟨(some 44), (.call (.func 18) [(.tmp 43)]), none, [6, 5, 4, 1, 0, 3, 2]⟩, ⟨(some 45), (.mov (.tmp 2)), none, []⟩, ⟨(some 46), (.call (.func 20) [(.tmp 45)]), none, [8, 7, 6, 5, 4, 1, 0, 3, 2]⟩, ⟨(some 47), (.lit true 1 2 (.int .i64 0) [(0, (.tmp 44)), (1, (.tmp 46))]), none, [7, 6, 5, 4, 1, 0, 3, 2, 9, 8]⟩, ⟨(some 48), (.call (.func 17) [(.tmp 47)]), none, [10, 7, 6, 5, 4, 1, 0, 3, 2, 9, 8]⟩, ⟨(some 12), (.mov (.tmp 42)), none, [5, 4, 1, 0, 3, 2, 11, 10, 7, 6, 9, 8]⟩, ⟨(some 13), (.mov (.tmp 48)), none, [11, 10, 7, 6, 5, 4, 1, 0, 3, 2, 9, 8, 12]⟩]) (.seq (.ops false [⟨(some 14), (.mov (.const (.int .i64 0))), none, []⟩, ⟨(some 15), (.mov (.const (.int .i64 0))), none, [0]⟩, ⟨(some 16), (.mov (.const (.bool false))), none, [1, 0]⟩]) (.seq (.seq (.ops false [⟨(some 49), (.mov (.tmp 12)), none, []⟩, ⟨(some 50), (.bin .eql (.tmp 49) (.const (.int .i64 0))), none, [0]⟩]) (.cond (.tmp 50) (.ops false [⟨(some 51), (.load (some 3) (.tmp 3)), none, []⟩, ⟨(some 52), (.mov (.tmp 1)), none, []⟩, ⟨(some 53), (.call (.func 21) [(.tmp 51), (.tmp 52)]), none, [0, 1]⟩, ⟨(some 14), (.mov (.tmp 53)), none, [2, 0, 1]⟩]) .skip)) (.seq (.seq (.ops false [⟨(some 54), (.mov (.tmp 13)), none, []⟩, ⟨(some 55), (.bin .eql (.tmp 54) (.const (.int .i64 0))), none, [0]⟩]) (.cond (.tmp 55) (.ops false [⟨(some 57), (.load (some 3) (.tmp 3)), none, []⟩, ⟨(some 58), (.mov (.tmp 2)), none, []⟩, ⟨(some 59), (.call (.func 22) [(.tmp 57), (.tmp 58)]), none, [0, 1]⟩, ⟨(some 56), (.mov (.tmp 59)), none, [2, 0, 1]⟩, ⟨(some 60), (.extract (.tmp 56) 0), none, [3, 2, 0, 1]⟩, ⟨(some 61), (.extract (.tmp 56) 1), none, [3, 2, 0, 1]⟩, ⟨(some 15), (.mov (.tmp 60)), none, [4, 3, 2, 0, 1]⟩, ⟨(some 16), (.mov (.tmp 61)), none, [5, 3, 2, 0, 1, 6, 4]⟩]) .skip)) (.seq (.ops true [⟨(some 62), (.load (some 3) (.tmp 3)), none, []⟩, ⟨(some 63), (.call (.func 15) [(.tmp 62)]), none, [0]⟩, ⟨(some 64), (.field 0 1 false (.tmp 63)), none, [1, 0]⟩, ⟨(some 65), (.call (.func 23) [(.tmp 64)]), none, [2, 1, 0]⟩, ⟨(some 66), (.faddr 0 1 false (.tmp 3)), none, []⟩, ⟨(some 67), (.load none (.tmp 66)), none, [4]⟩, ⟨(some 68), (.call (.func 24) [(.tmp 67)]), none, [5, 4, 3, 2, 1, 0]⟩, ⟨(some 69), (.bin .eql (.tmp 65) (.tmp 68)), none, [3, 2, 1, 0, 6, 5, 4]⟩, ⟨(some 70), (.mov (.tmp 69)), none, [7, 3, 2, 1, 0, 6, 5, 4]⟩, ⟨(some 71), (.load (some 3) (.tmp 3)), (some (70, true)), [8, 7, 3, 2, 1, 0, 6, 5, 4]⟩, ⟨(some 72), (.call (.func 15) [(.tmp 71)]), (some (70, true)), [9, 8, 7, 3, 2, 1, 0, 6, 5, 4]⟩, ⟨(some 73), (.call (.func 25) [(.tmp 72)]), (some (70, true)), [10, 9, 8, 7, 3, 2, 1, 0, 6, 5, 4]⟩, ⟨(some 74), (.load (some 3) (.tmp 3)), (some (70, true)), [8, 7, 3, 2, 1, 0, 6, 5, 4]⟩, ⟨(some 75), (.call (.func 18) [(.tmp 74)]), (some (70, true)), [12, 8, 7, 3, 2, 1, 0, 6, 5, 4, 11, 10, 9]⟩, ⟨(some 76), (.bin .eql (.tmp 73) (.tmp 75)), (some (70, true)), [11, 10, 9, 8, 7, 3, 2, 1, 0, 6, 5, 4, 13, 12]⟩, ⟨(some 77), (.pick (.tmp 70) (.tmp 76) (.const (.bool false))), none, [8, 7, 3, 2, 1, 0, 6, 5, 4, 14, 11, 10, 9, 13, 12]⟩, ⟨(some 78), (.mov (.tmp 77)), none, [15, 8, 7, 3, 2, 1, 0, 6, 5, 4, 14, 11, 10, 9, 13, 12]⟩, ⟨(some 79), (.mov (.tmp 7)), (some (78, true)), [16, 15, 8, 7, 3, 2, 1, 0, 6, 5, 4, 14, 11, 10, 9, 13, 12]⟩, ⟨(some 80), (.mov (.tmp 8)), (some (78, true)), [16, 15, 8, 7, 3, 2, 1, 0, 6, 5, 4, 14, 11, 10, 9, 13, 12]⟩, ⟨(some 81), (.mov (.tmp 12)), (some (78, true)), [16, 15, 8, 7, 3, 2, 1, 0, 6, 5, 4, 14, 11, 10, 9, 13, 12]⟩, ⟨(some 82), (.mov (.tmp 14)), (some (78, true)), [16, 15, 8, 7, 3, 2, 1, 0, 6, 5, 4, 14, 11, 10, 9, 13, 12]⟩, ⟨(some 83), (.call (.func 26) [(.tmp 79), (.tmp 80), (.tmp 81), (.tmp 82)]), (some (78, true)), [17, 16, 15, 8, 7, 3, 2, 1, 0, 6, 5, 4, 14, 11, 10, 9, 13, 12, 18, 19, 20]⟩, ⟨(some 84), (.pick (.tmp 78) (.tmp 83) (.const (.bool false))), none, [16, 15, 8, 7, 3, 2, 1, 0, 6, 5, 4, 14, 11, 10, 9, 13, 12, 21, 17, 18, 19, 20]⟩, ⟨(some 85), (.mov (.tmp 84)), none, [22, 16, 15, 8, 7, 3, 2, 1, 0, 6, 5, 4, 14, 11, 10, 9, 13, 12, 21, 17, 18, 19, 20]⟩, ⟨(some 86), (.mov (.tmp 9)), (some (85, true)), [23, 22, 16, 15, 8, 7, 3, 2, 1, 0, 6, 5, 4, 14, 11, 10, 9, 13, 12, 21, 17, 18, 19, 20]⟩, ⟨(some 87), (.mov (.tmp 11)), (some (85, true)), [23, 22, 16, 15, 8, 7, 3, 2, 1, 0, 6, 5, 4, 14, 11, 10, 9, 13, 12, 21, 17, 18, 19, 20]⟩, ⟨(some 88), (.mov (.tmp 13)), (some (85, true)), [23, 22, 16, 15, 8, 7, 3, 2, 1, 0, 6, 5, 4, 14, 11, 10, 9, 13, 12, 21, 17, 18, 19, 20]⟩, ⟨(some 89), (.mov (.tmp 15)), (some (85, true)), [23, 22, 16, 15, 8, 7, 3, 2, 1, 0, 6, 5, 4, 14, 11, 10, 9, 13, 12, 21, 17, 18, 19, 20]⟩, ⟨(some 90), (.call (.func 26) [(.tmp 86), (.tmp 87), (.tmp 88), (.tmp 89)]), (some (85, true)), [24, 23, 22, 16, 15, 8, 7, 3, 2, 1, 0, 6, 5, 4, 14, 11, 10, 9, 13, 12, 21, 17, 18, 19, 20, 25, 26, 27]⟩, ⟨(some 91), (.pick (.tmp 85) (.tmp 90) (.const (.bool false))), none, [23, 22, 16, 15, 8, 7, 3, 2, 1, 0, 6, 5, 4, 14, 11, 10, 9, 13, 12, 21, 17, 18, 19, 20, 28, 24, 25, 26, 27]⟩, ⟨(some 92), (.mov (.tmp 91)), none, [29, 23, 22, 16, 15, 8, 7, 3, 2, 1, 0, 6, 5, 4, 14, 11, 10, 9, 13, 12, 21, 17, 18, 19, 20, 28, 24, 25, 26, 27]⟩, ⟨(some 93), (.mov (.tmp 10)), (some (92, true)), [30, 29, 23, 22, 16, 15, 8, 7, 3, 2, 1, 0, 6, 5, 4, 14, 11, 10, 9, 13, 12, 21, 17, 18, 19, 20, 28, 24, 25, 26, 27]⟩, ⟨(some 94), (.mov (.tmp 16)), (some (92, true)), [30, 29, 23, 22, 16, 15, 8, 7, 3, 2, 1, 0, 6, 5, 4, 14, 11, 10, 9, 13, 12, 21, 17, 18, 19, 20, 28, 24, 25, 26, 27]⟩, ⟨(some 95), (.eqB false (.tmp 93) (.tmp 94)), (some (92, true)), [31, 30, 29, 23, 22, 16, 15, 8, 7, 3, 2, 1, 0, 6, 5, 4, 14, 11, 10, 9, 13, 12, 21, 17, 18, 19, 20, 28, 24, 25, 26, 27, 32]⟩, ⟨(some 96), (.pick (.tmp 92) (.tmp 95) (.const (.bool false))), none, [30, 29, 23, 22, 16, 15, 8, 7, 3, 2, 1, 0, 6, 5, 4, 14, 11, 10, 9, 13, 12, 21, 17, 18, 19, 20, 28, 24, 25, 26, 27, 33, 31, 32]⟩, ⟨(some 97), (.mov (.tmp 96)), none, [34, 30, 29, 23, 22, 16, 15, 8, 7, 3, 2, 1, 0, 6, 5, 4, 14, 11, 10, 9, 13, 12, 21, 17, 18, 19, 20, 28, 24, 25, 26, 27, 33, 31, 32]⟩, ⟨(some 98), (.call (.func 13) []), (some (97, true)), [35, 34, 30, 29, 23, 22, 16, 15, 8, 7, 3, 2, 1, 0, 6, 5, 4, 14, 11, 10, 9, 13, 12, 21, 17, 18, 19, 20, 28, 24, 25, 26, 27, 33, 31, 32]⟩, ⟨(some 99), (.pick (.tmp 97) (.tmp 98) (.const (.bool false))), none, [35, 34, 30, 29, 23, 22, 16, 15, 8, 7, 3, 2, 1, 0, 6, 5, 4, 14, 11, 10, 9, 13, 12, 21, 17, 18, 19, 20, 28, 24, 25, 26, 27, 33, 31, 32, 36]⟩, ⟨(some 6), (.mov (.tmp 99)), none, [37, 35, 34, 30, 29, 23, 22, 16, 15, 8, 7, 3, 2, 1, 0, 6, 5, 4, 14, 11, 10, 9, 13, 12, 21, 17, 18, 19, 20, 28, 24, 25, 26, 27, 33, 31, 32, 36]⟩]) .ret)))))))))⟩
theorem dh3 : cProg Go.Proofs.Tryz.prog ⟨[], [], [41, 47]⟩ 3 = some dc3 := by kernel_rfl
end Sh

/-! CurveCells. -/
set_option maxRecDepth 100000
set_option maxHeartbeats 1000000
set_option linter.unusedSimpArgs false
set_option linter.unusedVariables false
namespace Sh
open Go Go.Proofs
theorem l_num (s : Int × Int) (E w : Int) (h1 : s.1 = if E ≠ 0 then 0 else w) (h2 : s.2 = E) : PC 26 [DV.int .i64 (s.1), DV.int .i64 (s.2), DV.int .i64 (E), DV.int .i64 (w)] (.bool true) := by
  have := l_number s.1 s.2 E w
  rwa [decide_eq_true h1, decide_eq_true h2] at this
theorem r_Current' (c : Cel) (v : Int) (h : decide (firstE [chkCell c, withE v 0 800] = 0) = true) : PC 21 [encC c, DV.int .i64 (v)] (DV.int .i64 (curC c v)) := by
  have h := firstE_cons (of_decide_eq_true h)
  have h2 := withE_zero (firstE_cons h.2).1
  exact r_Current c v (chkCell_zero h.1) h2.1 (by omega)
theorem r_Volt' (c : Cel) (n : Int) (h : decide (firstE [chkCell c, withE n 0 200] = 0) = true) : PC 22 [encC c, DV.int .i64 (n)] (encVB (voltC c n)) :=
  r_Volt c n (chkCell_zero (firstE_cons (of_decide_eq_true h)).1)
theorem num_cur (c : Cel) (v w : Int) (h : firstE [chkCell c, withE v 0 800] = 0 → w = curC c v) : PC 26 [DV.int .i64 ((currentS c v).1), DV.int .i64 ((currentS c v).2), DV.int .i64 (firstE [chkCell c, withE v 0 800]), DV.int .i64 (w)] (.bool true) := by
  refine l_num (currentS c v) _ w ?_ ?_
  all_goals unfold currentS
  all_goals split
  · rfl
  · rename_i e; rw [h (Classical.not_not.1 e)]
  · rfl
  · rename_i e; exact (Classical.not_not.1 e).symm
theorem num_volt (c : Cel) (n w : Int) (h : firstE [chkCell c, withE n 0 200] = 0 → w = (voltC c n).1) : PC 26 [DV.int .i64 ((voltS c n).1), DV.int .i64 ((voltS c n).2.2), DV.int .i64 (firstE [chkCell c, withE n 0 200]), DV.int .i64 (w)] (.bool true) := by
  refine l_num ((voltS c n).1, (voltS c n).2.2) _ w ?_ ?_
  all_goals unfold voltS
  all_goals split
  · rfl
  · rename_i e; rw [h (Classical.not_not.1 e)]
  · rfl
  · rename_i e; exact (Classical.not_not.1 e).symm
theorem volt_is (c : Cel) (n : Int) : (voltS c n).2.1 = if firstE [chkCell c, withE n 0 200] = 0 then (voltC c n).2 else false := by
  unfold voltS
  by_cases e : firstE [chkCell c, withE n 0 200] = 0
  · rw [if_neg (by simpa using e), if_pos e]
  · rw [if_pos e, if_neg e]
theorem l_CurveCells (aw : PC 13 [] (.bool true)) (c : Cel) (v n : Int) : PC 3 [encC c, DV.int .i64 (v), DV.int .i64 (n)] (.bool true) := by
  refine pureCall_ofR dh3 rfl ?_
  conv => whnf
  repeat' (first
    | (refine ⟨fun hg => ?_, fun hg => ?_⟩ <;> first | contradiction | (conv => whnf))
    | (refine Or.inl ?_; conv => whnf)
    | (refine ⟨_, r_ShortTable .., ?_⟩; conv => whnf)
    | (refine ⟨_, aw .., ?_⟩; conv => whnf)
    | (refine And.intro ?_ ?_; kernel_rfl; conv => whnf))
  · rfl
  have hl : c.tb.length < 1073741824 := by simp at hg; omega
  clear hg
  repeat' (first
    | (refine ⟨fun hg => ?_, fun hg => ?_⟩ <;> first | contradiction | (conv => whnf))
    | (refine Or.inl ?_; conv => whnf)
    | (refine ⟨_, l_cell _ hl, ?_⟩; conv => whnf)
    | (refine ⟨_, c_Current _ _ hl, ?_⟩; conv => whnf)
    | (refine ⟨_, c_Volt _ _ hl, ?_⟩; conv => whnf)
    | (refine ⟨_, r_CheckCell _ hl, ?_⟩; conv => whnf)
    | (refine ⟨_, r_CheckVolt .., ?_⟩; conv => whnf)
    | (refine ⟨_, r_CheckAmp .., ?_⟩; conv => whnf)
    | (refine ⟨_, l_first [_, _] (by simp), ?_⟩; conv => whnf)
    | (refine ⟨_, r_Current' _ _ (by assumption), ?_⟩; conv => whnf)
    | (refine ⟨_, r_Volt' _ _ (by assumption), ?_⟩; conv => whnf)
    | (refine ⟨_, c_CheckTable _ hl, ?_⟩; conv => whnf)
    | (refine ⟨_, r_CheckTable _ hl, ?_⟩; conv => whnf)
    | (refine ⟨_, c_CheckCell _ hl, ?_⟩; conv => whnf)
    | (refine ⟨_, num_cur _ _ _ (fun h => absurd h (of_decide_eq_false (by assumption))), ?_⟩; conv => whnf)
    | (refine ⟨_, num_cur _ _ _ (fun _ => rfl), ?_⟩; conv => whnf)
    | (refine ⟨_, num_volt _ _ _ (fun h => absurd h (of_decide_eq_false (by assumption))), ?_⟩; conv => whnf)
    | (refine ⟨_, num_volt _ _ _ (fun _ => rfl), ?_⟩; conv => whnf)
    | (refine ⟨_, aw .., ?_⟩; conv => whnf)
    | (refine And.intro ?_ ?_; kernel_rfl; conv => whnf))
  all_goals (first
    | rfl
    | (exfalso; have hk := ‹decide (chkTab c.tb = chkTab c.tb) = !true›; rw [decide_eq_true rfl] at hk; cases hk)
    | (exfalso; have hk := ‹(bif true then decide (chkCell c = chkCell c) else false) = !true›; rw [decide_eq_true rfl] at hk; cases hk)
    | (exfalso; rw [volt_is, if_pos (of_decide_eq_true (by assumption))] at hg; revert hg; cases (voltC c n).2 <;> decide)
    | (exfalso; rw [volt_is, if_neg (of_decide_eq_false (by assumption))] at hg; revert hg; decide)
    | skip)
end Sh

set_option maxRecDepth 100000
namespace Sh
open Go
def dc4 : DFunc := ⟨98, 3, [(.tmp 6)], (.seq (.ops false [⟨(some 6), (.mov (.const (.bool false))), none, []⟩]) (.seq (.seq (.ops false [⟨(some 18), (.mov (.tmp 0)), none, []⟩, ⟨(some 19), (.call (.func 27) [(.tmp 18)]), none, [0]⟩, ⟨(some 20), (.un .not (.tmp 19)), none, [1, 0]⟩]) (.cond (.tmp 20) (.seq (.ops false [⟨(some 21), (.call (.func 13) []), none, []⟩, ⟨(some 6), (.mov (.tmp 21)), none, [0]⟩]) .ret) .skip)) (.seq (.ops false [⟨(some 23), (.mov (.tmp 0)), none, []⟩, ⟨(some 24), (.call (.func 29) [(.tmp 23)]), none, [0]⟩, ⟨(some 25), (.mov (.tmp 2)), none, []⟩, ⟨(some 26), (.call (.func 28) [(.tmp 24), (.tmp 25)]), none, [1, 0, 2]⟩, ⟨(some 22), (.mov (.tmp 26)), none, [3, 1, 0, 2]⟩, ⟨(some 27), (.extract (.tmp 22) 0), none, [4, 3, 1, 0, 2]⟩, ⟨(some 28), (.extract (.tmp 22) 1), none, [4, 3, 1, 0, 2]⟩, ⟨(some 7), (.mov (.tmp 27)), none, [5, 4, 3, 1, 0, 2]⟩, ⟨(some 8), (.mov (.tmp 28)), none, [6, 4, 3, 1, 0, 2, 7, 5]⟩]) (.seq (.ops false [⟨(some 30), (.mov (.tmp 0)), none, []⟩, ⟨(some 31), (.call (.func 29) [(.tmp 30)]), none, [0]⟩, ⟨(some 32), (.mov (.tmp 1)), none, []⟩, ⟨(some 33), (.call (.func 30) [(.tmp 31), (.tmp 32)]), none, [1, 0, 2]⟩, ⟨(some 29), (.mov (.tmp 33)), none, [3, 1, 0, 2]⟩, ⟨(some 34), (.extract (.tmp 29) 0), none, [4, 3, 1, 0, 2]⟩, ⟨(some 35), (.extract (.tmp 29) 1), none, [4, 3, 1, 0, 2]⟩, ⟨(some 9), (.mov (.tmp 34)), none, [5, 4, 3, 1, 0, 2]⟩, ⟨(some 10), (.mov (.tmp 35)), none, [6, 4, 3, 1, 0, 2, 7, 5]⟩]) (.seq (.ops false [⟨(some 37), (.mov (.tmp 0)), none, []⟩, ⟨(some 38), (.call (.func 29) [(.tmp 37)]), none, [0]⟩, ⟨(some 39), (.mov (.tmp 2)), none, []⟩, ⟨(some 40), (.call (.func 31) [(.tmp 38), (.tmp 39)]), none, [1, 0, 2]⟩, ⟨(some 36), (.mov (.tmp 40)), none, [3, 1, 0, 2]⟩, ⟨(some 41), (.extract (.tmp 36) 0), none, [4, 3, 1, 0, 2]⟩, ⟨(some 42), (.extract (.tmp 36) 1), none, [4, 3, 1, 0, 2]⟩, ⟨(some 11), (.mov (.tmp 41)), none, [5, 4, 3, 1, 0, 2]⟩, ⟨(some 12), (.mov (.tmp 42)), none, [6, 4, 3, 1, 0, 2, 7, 5]⟩]) (.seq (.ops false [⟨(some 43), (.mov (.tmp 0)), none, []⟩, ⟨(some 44), (.call (.func 32) [(.tmp 43)]), none, [0]⟩, ⟨(some 45), (.mov (.tmp 2)), none, []⟩, ⟨(some 46), (.call (.func 20) [(.tmp 45)]), none, [2, 1, 0]⟩, ⟨(some 47), (.lit true 1 2 (.int .i64 0) [(0, (.tmp 44)), (1, (.tmp 46))]), none, [1, 0, 3, 2]⟩, ⟨(some 48), (.call (.func 17) [(.tmp 47)]), none, [4, 1, 0, 3, 2]⟩, ⟨(some 49), (.mov (.tmp 0)), none, []⟩, ⟨(some 50), (.call (.func 32) [(.tmp 49)]), none, [6, 5, 4, 1, 0, 3, 2]⟩, ⟨(some 51), (.mov (.tmp 1)), none, []⟩, ⟨(some 52), (.call (.func 19) [(.tmp 51)]), none, [8, 7, 6, 5, 4, 1, 0, 3, 2]⟩, ⟨(some 53), (.lit true 1 2 (.int .i64 0) [(0, (.tmp 50)), (1, (.tmp 52))]), none, [7, 6, 5, 4, 1, 0, 3, 2, 9, 8]⟩, ⟨(some 54), (.call (.func 17) [(.tmp 53)]), none, [10, 7, 6, 5, 4, 1, 0, 3, 2, 9, 8]⟩, ⟨(some 13), (.mov (.tmp 48)), none, [5, 4, 1, 0, 3, 2, 11, 10, 7, 6, 9, 8]⟩, ⟨(some 14), (.mov (.tmp 54)), none, [11, 10, 7, 6, 5, 4, 1, 0, 3, 2, 9, 8, 12]⟩]) (.seq (.ops false [⟨(some 15), (.mov (.const (.int .i64 0))), none, []⟩, ⟨(some 16), (.mov (.const (.int .i64 0))), none, [0]⟩]) (.seq (.ops false [⟨(some 17), (.mov (.const (.slice none 0 0))), none, []⟩]) (.seq (.seq (.ops false [⟨(some 55), (.mov (.tmp 13)), none, []⟩, ⟨(some 56), (.bin .eql (.tmp 55) (.const (.int .i64 0))), none, [0]⟩]) (.cond (.tmp 56) (.ops false [⟨(some 57), (.mov (.tmp 0)), none, []⟩, ⟨(some 58), (.mov (.tmp 2)), none, []⟩, ⟨(some 59), (.call (.func 33) [(.tmp 57), (.tmp 58)]), none, [0, 1]⟩, ⟨(some 60), (.mov (.tmp 0)), none, []⟩, ⟨(some 61), (.mov (.tmp 2)), none, []⟩, ⟨(some 62), (.call (.func 34) [(.tmp 60), (.tmp 61)]), none, [3, 4, 2, 0, 1]⟩, ⟨(some 15), (.mov (.tmp 59)), none, [2, 0, 1, 5, 3, 4]⟩, ⟨(some 17), (.mov (.tmp 62)), none, [5, 3, 4, 2, 0, 1, 6]⟩]) .skip)) (.seq (.seq (.ops false [⟨(some 63), (.mov (.tmp 14)), none, []⟩, ⟨(some 64), (.bin .eql (.tmp 63) (.const (.int .i64 0))), none, [0]⟩]) (.cond (.tmp 64) (.ops false [⟨(some 65), (.mov (.tmp 0)), none, []⟩, ⟨(some 66), (.mov (.tmp 1)), none, []⟩, ⟨(some 67), (.call (.func 35) [(.tmp 65), (.tmp 66)]), none, [0, 1]⟩, ⟨(some 16), (.mov (.tmp 67)), none, [2, 0, 1]⟩]) .skip)) (.seq (.ops false [⟨(some 68), (.mov (.tmp 0)), none, []⟩, ⟨(some 69), (.call (.func 29) [(.tmp 68)]), none, [0]⟩, ⟨(some 70), (.call (.func 36) [(.tmp 69)]), none, [1, 0]⟩, ⟨(some 71), (.mov (.tmp 0)), none, []⟩, ⟨(some 72), (.call (.func 32) [(.tmp 71)]), none, [3, 2, 1, 0]⟩, ⟨(some 73), (.bin .eql (.tmp 70) (.tmp 72)), none, [2, 1, 0, 4, 3]⟩, ⟨(some 74), (.mov (.tmp 73)), none, [5, 2, 1, 0, 4, 3]⟩, ⟨(some 75), (.mov (.tmp 7)), (some (74, true)), [6, 5, 2, 1, 0, 4, 3]⟩, ⟨(some 76), (.mov (.tmp 8)), (some (74, true)), [6, 5, 2, 1, 0, 4, 3]⟩, ⟨(some 77), (.mov (.tmp 13)), (some (74, true)), [6, 5, 2, 1, 0, 4, 3]⟩, ⟨(some 78), (.mov (.tmp 15)), (some (74, true)), [6, 5, 2, 1, 0, 4, 3]⟩, ⟨(some 79), (.call (.func 26) [(.tmp 75), (.tmp 76), (.tmp 77), (.tmp 78)]), (some (74, true)), [7, 6, 5, 2, 1, 0, 4, 3, 8, 9, 10]⟩, ⟨(some 80), (.pick (.tmp 74) (.tmp 79) (.const (.bool false))), none, [6, 5, 2, 1, 0, 4, 3, 11, 7, 8, 9, 10]⟩, ⟨(some 81), (.mov (.tmp 80)), none, [12, 6, 5, 2, 1, 0, 4, 3, 11, 7, 8, 9, 10]⟩, ⟨(some 82), (.mov (.tmp 9)), (some (81, true)), [13, 12, 6, 5, 2, 1, 0, 4, 3, 11, 7, 8, 9, 10]⟩, ⟨(some 83), (.mov (.tmp 10)), (some (81, true)), [13, 12, 6, 5, 2, 1, 0, 4, 3, 11, 7, 8, 9, 10]⟩, ⟨(some 84), (.mov (.tmp 14)), (some (81, true)), [13, 12, 6, 5, 2, 1, 0, 4, 3, 11, 7, 8, 9, 10]⟩, ⟨(some 85), (.mov (.tmp 16)), (some (81, true)), [13, 12, 6, 5, 2, 1, 0, 4, 3, 11, 7, 8, 9, 10]⟩, ⟨(some 86), (.call (.func 26) [(.tmp 82), (.tmp 83), (.tmp 84), (.tmp 85)]), (some (81, true)), [14, 13, 12, 6, 5, 2, 1, 0, 4, 3, 11, 7, 8, 9, 10, 15, 16, 17]⟩, ⟨(some 87), (.pick (.tmp 81) (.tmp 86) (.const (.bool false))), none, [13, 12, 6, 5, 2, 1, 0, 4, 3, 11, 7, 8, 9, 10, 18, 14, 15, 16, 17]⟩, ⟨(some 88), (.mov (.tmp 87)), none, [19, 13, 12, 6, 5, 2, 1, 0, 4, 3, 11, 7, 8, 9, 10, 18, 14, 15, 16, 17]⟩, ⟨(some 89), (.mov (.tmp 11)), (some (88, true)), [20, 19, 13, 12, 6, 5, 2, 1, 0, 4, 3, 11, 7, 8, 9, 10, 18, 14, 15, 16, 17]⟩, ⟨(some 90), (.mov (.tmp 12)), (some (88, true)), [20, 19, 13, 12, 6, 5, 2, 1, 0, 4, 3, 11, 7, 8, 9, 10, 18, 14, 15, 16, 17]⟩, ⟨(some 91), (.mov (.tmp 13)), (some (88, true)), [20, 19, 13, 12, 6, 5, 2, 1, 0, 4, 3, 11, 7, 8, 9, 10, 18, 14, 15, 16, 17]⟩, ⟨(some 92), (.mov (.tmp 17)), (some (88, true)), [20, 19, 13, 12, 6, 5, 2, 1, 0, 4, 3, 11, 7, 8, 9, 10, 18, 14, 15, 16, 17]⟩, ⟨(some 93), (.call (.func 37) [(.tmp 89), (.tmp 90), (.tmp 91), (.tmp 92)]), (some (88, true)), [21, 20, 19, 13, 12, 6, 5, 2, 1, 0, 4, 3, 11, 7, 8, 9, 10, 18, 14, 15, 16, 17, 22, 23, 24]⟩, ⟨(some 94), (.pick (.tmp 88) (.tmp 93) (.const (.bool false))), none, [20, 19, 13, 12, 6, 5, 2, 1, 0, 4, 3, 11, 7, 8, 9, 10, 18, 14, 15, 16, 17, 25, 21, 22, 23, 24]⟩, ⟨(some 95), (.mov (.tmp 94)), none, [26, 20, 19, 13, 12, 6, 5, 2, 1, 0, 4, 3, 11, 7, 8, 9, 10, 18, 14, 15, 16, 17, 25, 21, 22, 23, 24]⟩, ⟨(some 96), (.call (.func 13) []), (some (95, true)), [27, 26, 20, 19, 13, 12, 6, 5, 2, 1, 0, 4, 3, 11, 7, 8, 9, 10, 18, 14, 15, 16, 17, 25, 21, 22, 23, 24]⟩, ⟨(some 97), (.pick (.tmp 95) (.tmp 96) (.const (.bool false))), none, [27, 26, 20, 19, 13, 12, 6, 5, 2, 1, 0, 4, 3, 11, 7, 8, 9, 10, 18, 14, 15, 16, 17, 25, 21, 22, 23, 24, 28]⟩, ⟨(some 6), (.mov (.tmp 97)), none, [29, 27, 26, 20, 19, 13, 12, 6, 5, 2, 1, 0, 4, 3, 11, 7, 8, 9, 10, 18, 14, 15, 16, 17, 25, 21, 22, 23, 24, 28]⟩]) .ret)))))))))))⟩
theorem dh4 : cProg Go.Proofs.Tryz.prog ⟨[], [], [47, 53]⟩ 4 = some dc4 := by kernel_rfl
end Sh

/-! CurveChains. -/
set_option maxRecDepth 100000
set_option maxHeartbeats 2000000
set_option linter.unusedSimpArgs false
set_option linter.unusedVariables false
namespace Sh
open Go Go.Proofs
theorem l_lst (s : List Int × Int) (E : Int) (w : List Int) (hl : s.1.length < 4611686018427387904) (h1 : s.1 = if E ≠ 0 then [] else w) (h2 : s.2 = E) : PC 37 [iL s.1, DV.int .i64 (s.2), DV.int .i64 (E), iL w] (.bool true) := by
  have := l_listed s.1 s.2 E w hl
  rwa [decide_eq_true h1, decide_eq_true h2] at this
/-- A result and its error, as the program gives them. -/
def resI (E w : Int) : Int × Int := if E ≠ 0 then (0, E) else (w, 0)
theorem l_resI (E w x : Int) (s : Int × Int) (hs : s = resI E w) (h : E = 0 → x = w) : PC 26 [DV.int .i64 (s.1), DV.int .i64 (s.2), DV.int .i64 (E), DV.int .i64 (x)] (.bool true) := by
  subst hs
  by_cases e : E = 0
  · refine l_num _ _ _ ?_ ?_
    all_goals unfold resI
    all_goals rw [if_neg (by omega)]
    · rw [if_neg (by omega), h e]
    · exact e.symm
  · refine l_num _ _ _ ?_ ?_
    all_goals unfold resI
    all_goals rw [if_pos e]
    · rw [if_pos e]
def resL (E : Int) (w : List Int) : List Int × Int := if E ≠ 0 then ([], E) else (w, 0)
theorem l_resL (E : Int) (w x : List Int) (s : List Int × Int) (hs : s = resL E w) (hl : s.1.length < 4611686018427387904) (h : E = 0 → x = w) : PC 37 [iL s.1, DV.int .i64 (s.2), DV.int .i64 (E), iL x] (.bool true) := by
  subst hs
  by_cases e : E = 0
  · refine l_lst _ _ _ hl ?_ ?_
    all_goals unfold resL
    all_goals rw [if_neg (by omega)]
    · rw [if_neg (by omega), h e]
    · exact e.symm
  · refine l_lst _ _ _ hl ?_ ?_
    all_goals unfold resL
    all_goals rw [if_pos e]
    · rw [if_pos e]
theorem bypS_len (l : List Cel) (n : Int) : (bypS l n).1.length ≤ l.length := by
  unfold bypS
  split
  · simp
  · exact byp_len l n _
theorem okH_of {l : List Cel} {e : Int} (h : decide (firstE [chkChain l, e] = 0) = true) : OkH l := chkChain_zero (firstE_cons (of_decide_eq_true h)).1
theorem l_CurveChains (aw : PC 13 [] (.bool true)) (l : List Cel) (v n : Int) : PC 4 [chn l, DV.int .i64 (v), DV.int .i64 (n)] (.bool true) := by
  refine pureCall_ofR dh4 rfl ?_
  conv => whnf
  repeat' (first
    | (refine ⟨fun hg => ?_, fun hg => ?_⟩ <;> first | contradiction | (conv => whnf))
    | (refine Or.inl ?_; conv => whnf)
    | (refine ⟨_, r_ShortChain .., ?_⟩; conv => whnf)
    | (refine ⟨_, aw .., ?_⟩; conv => whnf)
    | (refine And.intro ?_ ?_; kernel_rfl; conv => whnf))
  · rfl
  have hs := shortC_spec (l := l) (by simpa using hg)
  have hl : l.length < 1073741824 := by omega
  have hc : ∀ c ∈ l, c.tb.length < 1073741824 := fun c h => by have := hs.2 c h; omega
  have hb := bypS_len l n
  clear hg
  have k1 := l_cells l hl hc
  have k2 := c_ChainVolt l n hl hc
  have k3 := c_ChainCurrent l v hl hc
  have k4 := c_Bypassed l n hl hc
  have k5 := r_CheckChain l hl hc
  have k6 := c_CheckChain l hl hc
  have k7 := fun h => l_resI (firstE [chkChain l, withE n 0 200]) (chV l n) 0 (chainVoltS l n) rfl (fun e => absurd e (of_decide_eq_false h))
  have k8 := l_resI (firstE [chkChain l, withE n 0 200]) (chV l n) (chV l n) (chainVoltS l n) rfl (fun _ => rfl)
  have k9 := fun h => l_resI (firstE [chkChain l, withE v 0 800]) (curH l v) 0 (chainCurrentS l v) rfl (fun e => absurd e (of_decide_eq_false h))
  have k10 := l_resI (firstE [chkChain l, withE v 0 800]) (curH l v) (curH l v) (chainCurrentS l v) rfl (fun _ => rfl)
  have k11 := fun h => l_resL (firstE [chkChain l, withE n 0 200]) (byp l n l.length) [] (bypS l n) rfl (by omega) (fun e => absurd e (of_decide_eq_false h))
  have k12 := l_resL (firstE [chkChain l, withE n 0 200]) (byp l n l.length) (byp l n l.length) (bypS l n) rfl (by omega) (fun _ => rfl)
  have k13 : ∀ {P : Prop}, decide (chkChain l = chkChain l) = !true → P := fun h => by rw [decide_eq_true rfl] at h; cases h
  repeat' (first
    | (refine ⟨fun hg => ?_, fun hg => ?_⟩ <;> first | contradiction | (conv => whnf))
    | (refine Or.inl ?_; conv => whnf)
    | (refine ⟨_, k1, ?_⟩; conv => whnf)
    | (refine ⟨_, k2, ?_⟩; conv => whnf)
    | (refine ⟨_, k3, ?_⟩; conv => whnf)
    | (refine ⟨_, k4, ?_⟩; conv => whnf)
    | (refine ⟨_, k5, ?_⟩; conv => whnf)
    | (refine ⟨_, k6, ?_⟩; conv => whnf)
    | (refine ⟨_, r_CheckVolt .., ?_⟩; conv => whnf)
    | (refine ⟨_, r_CheckAmp .., ?_⟩; conv => whnf)
    | (refine ⟨_, l_first [_, _] (by simp), ?_⟩; conv => whnf)
    | (refine ⟨_, r_ChainVolt _ _ (okH_of (by assumption)), ?_⟩; conv => whnf)
    | (refine ⟨_, r_ChainCurrent _ _ (okH_of (by assumption)), ?_⟩; conv => whnf)
    | (refine ⟨_, r_Bypassed _ _ (okH_of (by assumption)), ?_⟩; conv => whnf)
    | (refine ⟨_, k7 (by assumption), ?_⟩; conv => whnf)
    | (refine ⟨_, k8, ?_⟩; conv => whnf)
    | (refine ⟨_, k9 (by assumption), ?_⟩; conv => whnf)
    | (refine ⟨_, k10, ?_⟩; conv => whnf)
    | (refine ⟨_, k11 (by assumption), ?_⟩; conv => whnf)
    | (refine ⟨_, k12, ?_⟩; conv => whnf)
    | (refine ⟨_, aw .., ?_⟩; conv => whnf)
    | (refine And.intro ?_ ?_; kernel_rfl; conv => whnf))
  all_goals (first
    | rfl
    | exact k13 (by assumption)
    | trace_state)
end Sh

set_option maxRecDepth 100000
namespace Sh
open Go
def dc5 : DFunc := ⟨122, 2, [(.tmp 4)], (.seq (.ops false [⟨(some 4), (.mov (.const (.bool false))), none, []⟩]) (.seq (.seq (.ops false [⟨(some 21), (.mov (.tmp 0)), none, []⟩, ⟨(some 22), (.call (.func 38) [(.tmp 21)]), none, [0]⟩, ⟨(some 23), (.un .not (.tmp 22)), none, [1, 0]⟩]) (.cond (.tmp 23) (.seq (.ops false [⟨(some 24), (.call (.func 13) []), none, []⟩, ⟨(some 4), (.mov (.tmp 24)), none, [0]⟩]) .ret) .skip)) (.seq (.ops false [⟨(some 26), (.mov (.tmp 0)), none, []⟩, ⟨(some 27), (.call (.func 40) [(.tmp 26)]), none, [0]⟩, ⟨(some 28), (.call (.func 39) [(.tmp 27)]), none, [1, 0]⟩, ⟨(some 25), (.mov (.tmp 28)), none, [2, 1, 0]⟩, ⟨(some 29), (.extract (.tmp 25) 0), none, [3, 2, 1, 0]⟩, ⟨(some 30), (.extract (.tmp 25) 1), none, [3, 2, 1, 0]⟩, ⟨(some 5), (.mov (.tmp 29)), none, [4, 3, 2, 1, 0]⟩, ⟨(some 6), (.mov (.tmp 30)), none, [5, 3, 2, 1, 0, 6, 4]⟩]) (.seq (.ops false [⟨(some 32), (.mov (.tmp 0)), none, []⟩, ⟨(some 33), (.call (.func 40) [(.tmp 32)]), none, [0]⟩, ⟨(some 34), (.mov (.tmp 1)), none, []⟩, ⟨(some 35), (.call (.func 41) [(.tmp 33), (.tmp 34)]), none, [1, 0, 2]⟩, ⟨(some 31), (.mov (.tmp 35)), none, [3, 1, 0, 2]⟩, ⟨(some 36), (.extract (.tmp 31) 0), none, [4, 3, 1, 0, 2]⟩, ⟨(some 37), (.extract (.tmp 31) 1), none, [4, 3, 1, 0, 2]⟩, ⟨(some 7), (.mov (.tmp 36)), none, [5, 4, 3, 1, 0, 2]⟩, ⟨(some 8), (.mov (.tmp 37)), none, [6, 4, 3, 1, 0, 2, 7, 5]⟩]) (.seq (.ops false [⟨(some 39), (.mov (.tmp 0)), none, []⟩, ⟨(some 40), (.call (.func 40) [(.tmp 39)]), none, [0]⟩, ⟨(some 41), (.mov (.tmp 1)), none, []⟩, ⟨(some 42), (.call (.func 42) [(.tmp 40), (.tmp 41)]), none, [1, 0, 2]⟩, ⟨(some 38), (.mov (.tmp 42)), none, [3, 1, 0, 2]⟩, ⟨(some 43), (.extract (.tmp 38) 0), none, [4, 3, 1, 0, 2]⟩, ⟨(some 44), (.extract (.tmp 38) 1), none, [4, 3, 1, 0, 2]⟩, ⟨(some 9), (.mov (.tmp 43)), none, [5, 4, 3, 1, 0, 2]⟩, ⟨(some 10), (.mov (.tmp 44)), none, [6, 4, 3, 1, 0, 2, 7, 5]⟩]) (.seq (.ops false [⟨(some 46), (.mov (.tmp 0)), none, []⟩, ⟨(some 47), (.call (.func 40) [(.tmp 46)]), none, [0]⟩, ⟨(some 48), (.call (.func 43) [(.tmp 47)]), none, [1, 0]⟩, ⟨(some 45), (.mov (.tmp 48)), none, [2, 1, 0]⟩, ⟨(some 49), (.extract (.tmp 45) 0), none, [3, 2, 1, 0]⟩, ⟨(some 50), (.extract (.tmp 45) 1), none, [3, 2, 1, 0]⟩, ⟨(some 11), (.mov (.tmp 49)), none, [4, 3, 2, 1, 0]⟩, ⟨(some 12), (.mov (.tmp 50)), none, [5, 3, 2, 1, 0, 6, 4]⟩]) (.seq (.ops false [⟨(some 52), (.mov (.tmp 0)), none, []⟩, ⟨(some 53), (.call (.func 40) [(.tmp 52)]), none, [0]⟩, ⟨(some 54), (.call (.func 44) [(.tmp 53)]), none, [1, 0]⟩, ⟨(some 51), (.mov (.tmp 54)), none, [2, 1, 0]⟩, ⟨(some 55), (.extract (.tmp 51) 0), none, [3, 2, 1, 0]⟩, ⟨(some 56), (.extract (.tmp 51) 1), none, [3, 2, 1, 0]⟩, ⟨(some 13), (.mov (.tmp 55)), none, [4, 3, 2, 1, 0]⟩, ⟨(some 14), (.mov (.tmp 56)), none, [5, 3, 2, 1, 0, 6, 4]⟩]) (.seq (.ops false [⟨(some 57), (.mov (.tmp 0)), none, []⟩, ⟨(some 58), (.call (.func 45) [(.tmp 57)]), none, [0]⟩, ⟨(some 15), (.mov (.tmp 58)), none, [1, 0]⟩]) (.seq (.ops false [⟨(some 59), (.mov (.tmp 15)), none, []⟩, ⟨(some 60), (.mov (.tmp 1)), none, []⟩, ⟨(some 61), (.call (.func 19) [(.tmp 60)]), none, [1]⟩, ⟨(some 62), (.lit true 1 2 (.int .i64 0) [(0, (.tmp 59)), (1, (.tmp 61))]), none, [0, 2, 1]⟩, ⟨(some 63), (.call (.func 17) [(.tmp 62)]), none, [3, 0, 2, 1]⟩, ⟨(some 16), (.mov (.tmp 63)), none, [4, 3, 0, 2, 1]⟩]) (.seq (.ops false [⟨(some 17), (.mov (.const (.int .i64 0))), none, []⟩, ⟨(some 18), (.mov (.const (.int .i64 0))), none, [0]⟩, ⟨(some 19), (.mov (.const (.int .i64 0))), none, [1, 0]⟩]) (.seq (.ops false [⟨(some 20), (.mov (.const (.slice none 0 0))), none, []⟩]) (.seq (.seq (.ops false [⟨(some 64), (.mov (.tmp 15)), none, []⟩, ⟨(some 65), (.bin .eql (.tmp 64) (.const (.int .i64 0))), none, [0]⟩]) (.cond (.tmp 65) (.ops false [⟨(some 66), (.mov (.tmp 0)), none, []⟩, ⟨(some 67), (.call (.func 46) [(.tmp 66)]), none, [0]⟩, ⟨(some 68), (.mov (.tmp 0)), none, []⟩, ⟨(some 69), (.call (.func 47) [(.tmp 68)]), none, [2, 1, 0]⟩, ⟨(some 70), (.mov (.tmp 0)), none, []⟩, ⟨(some 71), (.call (.func 48) [(.tmp 70)]), none, [4, 3, 2, 1, 0]⟩, ⟨(some 17), (.mov (.tmp 67)), none, [1, 0, 5, 4, 3, 2]⟩, ⟨(some 20), (.mov (.tmp 69)), none, [3, 2, 1, 0, 6, 5, 4]⟩, ⟨(some 19), (.mov (.tmp 71)), none, [5, 4, 3, 2, 1, 0, 7, 6]⟩]) .skip)) (.seq (.seq (.ops false [⟨(some 72), (.mov (.tmp 16)), none, []⟩, ⟨(some 73), (.bin .eql (.tmp 72) (.const (.int .i64 0))), none, [0]⟩]) (.cond (.tmp 73) (.ops false [⟨(some 74), (.mov (.tmp 0)), none, []⟩, ⟨(some 75), (.mov (.tmp 1)), none, []⟩, ⟨(some 76), (.call (.func 49) [(.tmp 74), (.tmp 75)]), none, [0, 1]⟩, ⟨(some 18), (.mov (.tmp 76)), none, [2, 0, 1]⟩]) .skip)) (.seq (.ops false [⟨(some 77), (.mov (.tmp 0)), none, []⟩, ⟨(some 78), (.call (.func 40) [(.tmp 77)]), none, [0]⟩, ⟨(some 79), (.call (.func 50) [(.tmp 78)]), none, [1, 0]⟩, ⟨(some 80), (.mov (.tmp 15)), none, []⟩, ⟨(some 81), (.bin .eql (.tmp 79) (.tmp 80)), none, [2, 1, 0, 3]⟩, ⟨(some 82), (.mov (.tmp 81)), none, [4, 2, 1, 0, 3]⟩, ⟨(some 83), (.mov (.tmp 5)), (some (82, true)), [5, 4, 2, 1, 0, 3]⟩, ⟨(some 84), (.mov (.tmp 6)), (some (82, true)), [5, 4, 2, 1, 0, 3]⟩, ⟨(some 85), (.mov (.tmp 15)), (some (82, true)), [5, 4, 2, 1, 0, 3]⟩, ⟨(some 86), (.mov (.tmp 17)), (some (82, true)), [5, 4, 2, 1, 0, 3]⟩, ⟨(some 87), (.call (.func 26) [(.tmp 83), (.tmp 84), (.tmp 85), (.tmp 86)]), (some (82, true)), [6, 5, 4, 2, 1, 0, 3, 7, 8, 9]⟩, ⟨(some 88), (.pick (.tmp 82) (.tmp 87) (.const (.bool false))), none, [5, 4, 2, 1, 0, 3, 10, 6, 7, 8, 9]⟩, ⟨(some 89), (.mov (.tmp 88)), none, [11, 5, 4, 2, 1, 0, 3, 10, 6, 7, 8, 9]⟩, ⟨(some 90), (.mov (.tmp 7)), (some (89, true)), [12, 11, 5, 4, 2, 1, 0, 3, 10, 6, 7, 8, 9]⟩, ⟨(some 91), (.mov (.tmp 8)), (some (89, true)), [12, 11, 5, 4, 2, 1, 0, 3, 10, 6, 7, 8, 9]⟩, ⟨(some 92), (.mov (.tmp 16)), (some (89, true)), [12, 11, 5, 4, 2, 1, 0, 3, 10, 6, 7, 8, 9]⟩, ⟨(some 93), (.mov (.tmp 18)), (some (89, true)), [12, 11, 5, 4, 2, 1, 0, 3, 10, 6, 7, 8, 9]⟩, ⟨(some 94), (.call (.func 26) [(.tmp 90), (.tmp 91), (.tmp 92), (.tmp 93)]), (some (89, true)), [13, 12, 11, 5, 4, 2, 1, 0, 3, 10, 6, 7, 8, 9, 14, 15, 16]⟩, ⟨(some 95), (.pick (.tmp 89) (.tmp 94) (.const (.bool false))), none, [12, 11, 5, 4, 2, 1, 0, 3, 10, 6, 7, 8, 9, 17, 13, 14, 15, 16]⟩, ⟨(some 96), (.mov (.tmp 95)), none, [18, 12, 11, 5, 4, 2, 1, 0, 3, 10, 6, 7, 8, 9, 17, 13, 14, 15, 16]⟩, ⟨(some 97), (.mov (.tmp 9)), (some (96, true)), [19, 18, 12, 11, 5, 4, 2, 1, 0, 3, 10, 6, 7, 8, 9, 17, 13, 14, 15, 16]⟩, ⟨(some 98), (.mov (.tmp 10)), (some (96, true)), [19, 18, 12, 11, 5, 4, 2, 1, 0, 3, 10, 6, 7, 8, 9, 17, 13, 14, 15, 16]⟩, ⟨(some 99), (.mov (.tmp 16)), (some (96, true)), [19, 18, 12, 11, 5, 4, 2, 1, 0, 3, 10, 6, 7, 8, 9, 17, 13, 14, 15, 16]⟩, ⟨(some 100), (.mov (.tmp 1)), (some (96, true)), [19, 18, 12, 11, 5, 4, 2, 1, 0, 3, 10, 6, 7, 8, 9, 17, 13, 14, 15, 16]⟩, ⟨(some 101), (.mov (.tmp 18)), (some (96, true)), [19, 18, 12, 11, 5, 4, 2, 1, 0, 3, 10, 6, 7, 8, 9, 17, 13, 14, 15, 16]⟩, ⟨(some 102), (.bin .mul (.tmp 100) (.tmp 101)), (some (96, true)), [23, 19, 18, 12, 11, 5, 4, 2, 1, 0, 3, 10, 6, 7, 8, 9, 17, 13, 14, 15, 16, 24]⟩, ⟨(some 103), (.call (.func 26) [(.tmp 97), (.tmp 98), (.tmp 99), (.tmp 102)]), (some (96, true)), [20, 19, 18, 12, 11, 5, 4, 2, 1, 0, 3, 10, 6, 7, 8, 9, 17, 13, 14, 15, 16, 21, 22, 25, 23, 24]⟩, ⟨(some 104), (.pick (.tmp 96) (.tmp 103) (.const (.bool false))), none, [19, 18, 12, 11, 5, 4, 2, 1, 0, 3, 10, 6, 7, 8, 9, 17, 13, 14, 15, 16, 26, 20, 21, 22, 25, 23, 24]⟩, ⟨(some 105), (.mov (.tmp 104)), none, [27, 19, 18, 12, 11, 5, 4, 2, 1, 0, 3, 10, 6, 7, 8, 9, 17, 13, 14, 15, 16, 26, 20, 21, 22, 25, 23, 24]⟩, ⟨(some 106), (.mov (.tmp 11)), (some (105, true)), [28, 27, 19, 18, 12, 11, 5, 4, 2, 1, 0, 3, 10, 6, 7, 8, 9, 17, 13, 14, 15, 16, 26, 20, 21, 22, 25, 23, 24]⟩, ⟨(some 107), (.mov (.tmp 12)), (some (105, true)), [28, 27, 19, 18, 12, 11, 5, 4, 2, 1, 0, 3, 10, 6, 7, 8, 9, 17, 13, 14, 15, 16, 26, 20, 21, 22, 25, 23, 24]⟩, ⟨(some 108), (.mov (.tmp 15)), (some (105, true)), [28, 27, 19, 18, 12, 11, 5, 4, 2, 1, 0, 3, 10, 6, 7, 8, 9, 17, 13, 14, 15, 16, 26, 20, 21, 22, 25, 23, 24]⟩, ⟨(some 109), (.mov (.tmp 20)), (some (105, true)), [28, 27, 19, 18, 12, 11, 5, 4, 2, 1, 0, 3, 10, 6, 7, 8, 9, 17, 13, 14, 15, 16, 26, 20, 21, 22, 25, 23, 24]⟩, ⟨(some 110), (.call (.func 37) [(.tmp 106), (.tmp 107), (.tmp 108), (.tmp 109)]), (some (105, true)), [29, 28, 27, 19, 18, 12, 11, 5, 4, 2, 1, 0, 3, 10, 6, 7, 8, 9, 17, 13, 14, 15, 16, 26, 20, 21, 22, 25, 23, 24, 30, 31, 32]⟩, ⟨(some 111), (.pick (.tmp 105) (.tmp 110) (.const (.bool false))), none, [28, 27, 19, 18, 12, 11, 5, 4, 2, 1, 0, 3, 10, 6, 7, 8, 9, 17, 13, 14, 15, 16, 26, 20, 21, 22, 25, 23, 24, 33, 29, 30, 31, 32]⟩, ⟨(some 112), (.mov (.tmp 111)), none, [34, 28, 27, 19, 18, 12, 11, 5, 4, 2, 1, 0, 3, 10, 6, 7, 8, 9, 17, 13, 14, 15, 16, 26, 20, 21, 22, 25, 23, 24, 33, 29, 30, 31, 32]⟩, ⟨(some 113), (.mov (.tmp 13)), (some (112, true)), [35, 34, 28, 27, 19, 18, 12, 11, 5, 4, 2, 1, 0, 3, 10, 6, 7, 8, 9, 17, 13, 14, 15, 16, 26, 20, 21, 22, 25, 23, 24, 33, 29, 30, 31, 32]⟩, ⟨(some 114), (.mov (.tmp 14)), (some (112, true)), [35, 34, 28, 27, 19, 18, 12, 11, 5, 4, 2, 1, 0, 3, 10, 6, 7, 8, 9, 17, 13, 14, 15, 16, 26, 20, 21, 22, 25, 23, 24, 33, 29, 30, 31, 32]⟩, ⟨(some 115), (.mov (.tmp 15)), (some (112, true)), [35, 34, 28, 27, 19, 18, 12, 11, 5, 4, 2, 1, 0, 3, 10, 6, 7, 8, 9, 17, 13, 14, 15, 16, 26, 20, 21, 22, 25, 23, 24, 33, 29, 30, 31, 32]⟩, ⟨(some 116), (.mov (.tmp 19)), (some (112, true)), [35, 34, 28, 27, 19, 18, 12, 11, 5, 4, 2, 1, 0, 3, 10, 6, 7, 8, 9, 17, 13, 14, 15, 16, 26, 20, 21, 22, 25, 23, 24, 33, 29, 30, 31, 32]⟩, ⟨(some 117), (.call (.func 26) [(.tmp 113), (.tmp 114), (.tmp 115), (.tmp 116)]), (some (112, true)), [36, 35, 34, 28, 27, 19, 18, 12, 11, 5, 4, 2, 1, 0, 3, 10, 6, 7, 8, 9, 17, 13, 14, 15, 16, 26, 20, 21, 22, 25, 23, 24, 33, 29, 30, 31, 32, 37, 38, 39]⟩, ⟨(some 118), (.pick (.tmp 112) (.tmp 117) (.const (.bool false))), none, [35, 34, 28, 27, 19, 18, 12, 11, 5, 4, 2, 1, 0, 3, 10, 6, 7, 8, 9, 17, 13, 14, 15, 16, 26, 20, 21, 22, 25, 23, 24, 33, 29, 30, 31, 32, 40, 36, 37, 38, 39]⟩, ⟨(some 119), (.mov (.tmp 118)), none, [41, 35, 34, 28, 27, 19, 18, 12, 11, 5, 4, 2, 1, 0, 3, 10, 6, 7, 8, 9, 17, 13, 14, 15, 16, 26, 20, 21, 22, 25, 23, 24, 33, 29, 30, 31, 32, 40, 36, 37, 38, 39]⟩, ⟨(some 120), (.call (.func 13) []), (some (119, true)), [42, 41, 35, 34, 28, 27, 19, 18, 12, 11, 5, 4, 2, 1, 0, 3, 10, 6, 7, 8, 9, 17, 13, 14, 15, 16, 26, 20, 21, 22, 25, 23, 24, 33, 29, 30, 31, 32, 40, 36, 37, 38, 39]⟩, ⟨(some 121), (.pick (.tmp 119) (.tmp 120) (.const (.bool false))), none, [42, 41, 35, 34, 28, 27, 19, 18, 12, 11, 5, 4, 2, 1, 0, 3, 10, 6, 7, 8, 9, 17, 13, 14, 15, 16, 26, 20, 21, 22, 25, 23, 24, 33, 29, 30, 31, 32, 40, 36, 37, 38, 39, 43]⟩, ⟨(some 4), (.mov (.tmp 121)), none, [44, 42, 41, 35, 34, 28, 27, 19, 18, 12, 11, 5, 4, 2, 1, 0, 3, 10, 6, 7, 8, 9, 17, 13, 14, 15, 16, 26, 20, 21, 22, 25, 23, 24, 33, 29, 30, 31, 32, 40, 36, 37, 38, 39, 43]⟩]) .ret))))))))))))))⟩
theorem dh5 : cProg Go.Proofs.Tryz.prog ⟨[], [], [62]⟩ 5 = some dc5 := by kernel_rfl
end Sh

/-! CurveFields. -/
set_option maxRecDepth 100000
set_option maxHeartbeats 2000000
set_option linter.unusedSimpArgs false
set_option linter.unusedVariables false
namespace Sh
open Go Go.Proofs
theorem okF_of {f : List (List Cel)} (h : decide (chkField f = 0) = true) : OkF f := chkField_zero (of_decide_eq_true h)
theorem okF_of2 {f : List (List Cel)} {e : Int} (h : decide (firstE [chkField f, e] = 0) = true) : OkF f := chkField_zero (firstE_cons (of_decide_eq_true h)).1
theorem crv_len (f : List (List Cel)) (h : OkF f) : (crv f).length < 4611686018427387904 := by have := (crv_ok h).1.1; omega
theorem curveS_len (f : List (List Cel)) : (curveS f).1.length < 4611686018427387904 := by
  by_cases h : chkField f = 0
  · rw [curveS_l h]; exact crv_len f (chkField_zero h)
  · unfold curveS; rw [if_pos h]; exact (by decide : (0 : Nat) < 4611686018427387904)
theorem l_CurveFields (aw : PC 13 [] (.bool true)) (f : List (List Cel)) (v : Int) : PC 5 [fld f, DV.int .i64 (v)] (.bool true) := by
  refine pureCall_ofR dh5 rfl ?_
  conv => whnf
  repeat' (first
    | (refine ⟨fun hg => ?_, fun hg => ?_⟩ <;> first | contradiction | (conv => whnf))
    | (refine Or.inl ?_; conv => whnf)
    | (refine ⟨_, r_ShortField .., ?_⟩; conv => whnf)
    | (refine ⟨_, aw .., ?_⟩; conv => whnf)
    | (refine And.intro ?_ ?_; kernel_rfl; conv => whnf))
  · rfl
  have hs := shortF_spec (f := f) (by simpa using hg)
  have hl := hs.2.2
  clear hg
  have k1 := l_field f hl
  have k2 := c_End f hl
  have k3 := c_FieldCurrent f v hl
  have k4 := c_Power f v hl
  have k5 := c_Curve f hl
  have k6 := c_Mismatch f hl
  have k7 := r_CheckField f hl.1 hl.2
  have k8 := c_CheckField f hl.1 hl.2
  have hP : ∀ h : decide (firstE [chkField f, withE v 0 800] = 0) = true, IntKind.i64.wrap (v * curF f v) = v * curF f v := fun h => by
    have hF := okF_of2 h
    have hv := withE_zero (firstE_cons (firstE_cons (of_decide_eq_true h)).2).1
    have hc := curF_bd f hF.2.1 v
    have := mul_bd (a := v) (b := curF f v) (A := 800) (B := 1200) (by omega) (by omega) (by omega) (by omega)
    exact W_in (by omega) (by omega)
  have k10 := fun h => l_resI (chkField f) (endF f) 0 (endS f) rfl (fun e => absurd e (of_decide_eq_false h))
  have k11 := l_resI (chkField f) (endF f) (endF f) (endS f) rfl (fun _ => rfl)
  have k12 := fun h => l_resI (firstE [chkField f, withE v 0 800]) (curF f v) 0 (fcurS f v) rfl (fun e => absurd e (of_decide_eq_false h))
  have k13 := l_resI (firstE [chkField f, withE v 0 800]) (curF f v) (curF f v) (fcurS f v) rfl (fun _ => rfl)
  have k14 := fun h x => l_resI (firstE [chkField f, withE v 0 800]) (v * curF f v) x (powS f v) rfl (fun e => absurd e (of_decide_eq_false h))
  have k15 := fun h => l_resI (firstE [chkField f, withE v 0 800]) (v * curF f v) (IntKind.i64.wrap (v * curF f v)) (powS f v) rfl (fun _ => hP h)
  have k16 := fun h => l_resL (chkField f) (crv f) [] (curveS f) rfl (curveS_len f) (fun e => absurd e (of_decide_eq_false h))
  have k17 := l_resL (chkField f) (crv f) (crv f) (curveS f) rfl (curveS_len f) (fun _ => rfl)
  have k18 := fun h => l_resI (chkField f) (misF f) 0 (misS f) rfl (fun e => absurd e (of_decide_eq_false h))
  have k19 := l_resI (chkField f) (misF f) (misF f) (misS f) rfl (fun _ => rfl)
  have k20 : ∀ {P : Prop}, decide (chkField f = chkField f) = !true → P := fun h => by rw [decide_eq_true rfl] at h; cases h
  repeat' (first
    | (refine ⟨fun hg => ?_, fun hg => ?_⟩ <;> first | contradiction | (conv => whnf))
    | (refine Or.inl ?_; conv => whnf)
    | (refine ⟨_, k1, ?_⟩; conv => whnf)
    | (refine ⟨_, k2, ?_⟩; conv => whnf)
    | (refine ⟨_, k3, ?_⟩; conv => whnf)
    | (refine ⟨_, k4, ?_⟩; conv => whnf)
    | (refine ⟨_, k5, ?_⟩; conv => whnf)
    | (refine ⟨_, k6, ?_⟩; conv => whnf)
    | (refine ⟨_, k7, ?_⟩; conv => whnf)
    | (refine ⟨_, k8, ?_⟩; conv => whnf)
    | (refine ⟨_, r_CheckVolt .., ?_⟩; conv => whnf)
    | (refine ⟨_, l_first [_, _] (by simp), ?_⟩; conv => whnf)
    | (refine ⟨_, r_End _ (okF_of (by assumption)), ?_⟩; conv => whnf)
    | (refine ⟨_, r_Curve _ (okF_of (by assumption)), ?_⟩; conv => whnf)
    | (refine ⟨_, r_Mismatch _ (okF_of (by assumption)), ?_⟩; conv => whnf)
    | (refine ⟨_, r_FieldCurrent _ _ (okF_of2 (by assumption)), ?_⟩; conv => whnf)
    | (refine ⟨_, k10 (by assumption), ?_⟩; conv => whnf)
    | (refine ⟨_, k11, ?_⟩; conv => whnf)
    | (refine ⟨_, k12 (by assumption), ?_⟩; conv => whnf)
    | (refine ⟨_, k13, ?_⟩; conv => whnf)
    | (refine ⟨_, k14 (by assumption) _, ?_⟩; conv => whnf)
    | (refine ⟨_, k15 (by assumption), ?_⟩; conv => whnf)
    | (refine ⟨_, k16 (by assumption), ?_⟩; conv => whnf)
    | (refine ⟨_, k17, ?_⟩; conv => whnf)
    | (refine ⟨_, k18 (by assumption), ?_⟩; conv => whnf)
    | (refine ⟨_, k19, ?_⟩; conv => whnf)
    | (refine ⟨_, aw .., ?_⟩; conv => whnf)
    | (refine And.intro ?_ ?_; kernel_rfl; conv => whnf))
  all_goals (first
    | rfl
    | exact k20 (by assumption)
    | trace_state)
end Sh

set_option maxRecDepth 100000
namespace Sh
open Go
def dc7 : DFunc := ⟨127, 3, [(.tmp 6)], (.seq (.ops false [⟨(some 6), (.mov (.const (.bool false))), none, []⟩]) (.seq (.seq (.ops false [⟨(some 22), (.mov (.tmp 0)), none, []⟩, ⟨(some 23), (.call (.func 38) [(.tmp 22)]), none, [0]⟩, ⟨(some 24), (.un .not (.tmp 23)), none, [1, 0]⟩, ⟨(some 25), (.mov (.tmp 24)), none, [2, 1, 0]⟩, ⟨(some 26), (.mov (.tmp 2)), (some (25, false)), [3, 2, 1, 0]⟩, ⟨(some 27), (.len (.tmp 26)), (some (25, false)), [4, 3, 2, 1, 0]⟩, ⟨(some 28), (.bin .gtr (.tmp 27) (.const (.int .i64 40))), (some (25, false)), [5, 4, 3, 2, 1, 0]⟩, ⟨(some 29), (.mov (.tmp 28)), (some (25, false)), [6, 5, 4, 3, 2, 1, 0]⟩, ⟨(some 30), (.mov (.tmp 2)), (some (29, true)), [7, 6, 5, 4, 3, 2, 1, 0]⟩, ⟨(some 31), (.len (.tmp 30)), (some (29, true)), [8, 7, 6, 5, 4, 3, 2, 1, 0]⟩, ⟨(some 32), (.bin .neq (.tmp 31) (.const (.int .i64 802))), (some (29, true)), [9, 8, 7, 6, 5, 4, 3, 2, 1, 0]⟩, ⟨(some 33), (.pick (.tmp 29) (.tmp 32) (.const (.bool false))), (some (25, false)), [7, 6, 5, 4, 3, 2, 1, 0, 10, 9, 8]⟩, ⟨(some 34), (.pick (.tmp 25) (.const (.bool true)) (.tmp 33)), none, [3, 2, 1, 0, 11, 7, 6, 5, 4, 10, 9, 8]⟩]) (.cond (.tmp 34) (.seq (.ops false [⟨(some 35), (.call (.func 13) []), none, []⟩, ⟨(some 6), (.mov (.tmp 35)), none, [0]⟩]) .ret) .skip)) (.seq (.ops false [⟨(some 37), (.mov (.tmp 0)), none, []⟩, ⟨(some 38), (.call (.func 40) [(.tmp 37)]), none, [0]⟩, ⟨(some 39), (.call (.func 54) [(.tmp 38)]), none, [1, 0]⟩, ⟨(some 36), (.mov (.tmp 39)), none, [2, 1, 0]⟩, ⟨(some 40), (.extract (.tmp 36) 0), none, [3, 2, 1, 0]⟩, ⟨(some 41), (.extract (.tmp 36) 1), none, [3, 2, 1, 0]⟩, ⟨(some 7), (.mov (.tmp 40)), none, [4, 3, 2, 1, 0]⟩, ⟨(some 8), (.mov (.tmp 41)), none, [5, 3, 2, 1, 0, 6, 4]⟩]) (.seq (.ops false [⟨(some 43), (.mov (.tmp 0)), none, []⟩, ⟨(some 44), (.call (.func 40) [(.tmp 43)]), none, [0]⟩, ⟨(some 45), (.call (.func 55) [(.tmp 44)]), none, [1, 0]⟩, ⟨(some 42), (.mov (.tmp 45)), none, [2, 1, 0]⟩, ⟨(some 46), (.extract (.tmp 42) 0), none, [3, 2, 1, 0]⟩, ⟨(some 47), (.extract (.tmp 42) 1), none, [3, 2, 1, 0]⟩, ⟨(some 48), (.extract (.tmp 42) 2), none, [3, 2, 1, 0]⟩, ⟨(some 9), (.mov (.tmp 46)), none, [4, 3, 2, 1, 0]⟩, ⟨(some 10), (.mov (.tmp 47)), none, [5, 3, 2, 1, 0, 7, 4]⟩, ⟨(some 11), (.mov (.tmp 48)), none, [6, 3, 2, 1, 0, 8, 5, 7, 4]⟩]) (.seq (.ops false [⟨(some 50), (.mov (.tmp 0)), none, []⟩, ⟨(some 51), (.call (.func 40) [(.tmp 50)]), none, [0]⟩, ⟨(some 52), (.call (.func 56) [(.tmp 51)]), none, [1, 0]⟩, ⟨(some 49), (.mov (.tmp 52)), none, [2, 1, 0]⟩, ⟨(some 53), (.extract (.tmp 49) 0), none, [3, 2, 1, 0]⟩, ⟨(some 54), (.extract (.tmp 49) 1), none, [3, 2, 1, 0]⟩, ⟨(some 12), (.mov (.tmp 53)), none, [4, 3, 2, 1, 0]⟩, ⟨(some 13), (.mov (.tmp 54)), none, [5, 3, 2, 1, 0, 6, 4]⟩]) (.seq (.ops false [⟨(some 55), (.mov (.tmp 0)), none, []⟩, ⟨(some 56), (.call (.func 40) [(.tmp 55)]), none, [0]⟩, ⟨(some 57), (.mov (.tmp 1)), none, []⟩, ⟨(some 58), (.lit true 1 0 (.int .i64 0) []), none, []⟩, ⟨(some 59), (.mov (.tmp 2)), none, []⟩, ⟨(some 60), (.append true 1 (.tmp 58) (.tmp 59)), none, [3, 4, 1, 0]⟩, ⟨(some 61), (.call (.func 57) [(.tmp 56), (.tmp 57), (.tmp 60)]), none, [1, 0, 2, 5, 3, 4]⟩, ⟨(some 14), (.mov (.tmp 61)), none, [6, 1, 0, 2, 5, 3, 4]⟩]) (.seq (.ops false [⟨(some 62), (.mov (.tmp 0)), none, []⟩, ⟨(some 63), (.call (.func 45) [(.tmp 62)]), none, [0]⟩, ⟨(some 15), (.mov (.tmp 63)), none, [1, 0]⟩]) (.seq (.ops false [⟨(some 64), (.mov (.tmp 15)), none, []⟩, ⟨(some 65), (.mov (.tmp 1)), none, []⟩, ⟨(some 66), (.call (.func 52) [(.tmp 65), (.const (.int .i64 0)), (.const (.int .i64 960000))]), none, [1]⟩, ⟨(some 67), (.lit true 1 2 (.int .i64 0) [(0, (.tmp 64)), (1, (.tmp 66))]), none, [0, 2, 1]⟩, ⟨(some 68), (.call (.func 17) [(.tmp 67)]), none, [3, 0, 2, 1]⟩, ⟨(some 16), (.mov (.tmp 68)), none, [4, 3, 0, 2, 1]⟩]) (.seq (.ops false [⟨(some 17), (.mov (.const (.slice none 0 0))), none, []⟩, ⟨(some 18), (.mov (.const (.slice none 0 0))), none, [0]⟩]) (.seq (.ops false [⟨(some 19), (.mov (.const (.int .i64 0))), none, []⟩, ⟨(some 20), (.mov (.const (.int .i64 0))), none, [0]⟩]) (.seq (.seq (.ops false [⟨(some 69), (.mov (.tmp 15)), none, []⟩, ⟨(some 70), (.bin .eql (.tmp 69) (.const (.int .i64 0))), none, [0]⟩]) (.cond (.tmp 70) (.seq (.ops false [⟨(some 71), (.mov (.tmp 0)), none, []⟩, ⟨(some 72), (.call (.func 47) [(.tmp 71)]), none, [0]⟩, ⟨(some 21), (.mov (.tmp 72)), none, [1, 0]⟩]) (.seq (.ops false [⟨(some 73), (.mov (.tmp 21)), none, []⟩, ⟨(some 74), (.call (.func 58) [(.tmp 73)]), none, [0]⟩, ⟨(some 75), (.mov (.tmp 21)), none, []⟩, ⟨(some 76), (.call (.func 59) [(.tmp 75)]), none, [2, 1, 0]⟩, ⟨(some 17), (.mov (.tmp 74)), none, [1, 0, 3, 2]⟩, ⟨(some 18), (.mov (.tmp 76)), none, [3, 2, 1, 0, 4]⟩]) (.seq (.ops false [⟨(some 78), (.mov (.tmp 21)), none, []⟩, ⟨(some 79), (.call (.func 60) [(.tmp 78)]), none, [0]⟩, ⟨(some 77), (.mov (.tmp 79)), none, [1, 0]⟩, ⟨(some 80), (.extract (.tmp 77) 0), none, [2, 1, 0]⟩, ⟨(some 81), (.extract (.tmp 77) 1), none, [2, 1, 0]⟩, ⟨(some 19), (.mov (.tmp 80)), none, [3, 2, 1, 0]⟩, ⟨(some 20), (.mov (.tmp 81)), none, [4, 2, 1, 0, 5, 3]⟩]) (.seq (.seq (.ops false [⟨(some 82), (.mov (.tmp 16)), none, []⟩, ⟨(some 83), (.bin .eql (.tmp 82) (.const (.int .i64 0))), none, [0]⟩]) (.cond (.tmp 83) (.ops false [⟨(some 84), (.mov (.tmp 21)), none, []⟩, ⟨(some 85), (.mov (.tmp 2)), none, []⟩, ⟨(some 86), (.call (.func 61) [(.tmp 84), (.tmp 85)]), none, [0, 1]⟩, ⟨(some 16), (.mov (.tmp 86)), none, [2, 0, 1]⟩]) .skip)) (.seq (.ops false [⟨(some 87), (.mov (.tmp 16)), none, []⟩, ⟨(some 88), (.bin .eql (.tmp 87) (.const (.int .i64 0))), none, [0]⟩]) (.cond (.tmp 88) (.ops false [⟨(some 89), (.mov (.tmp 21)), none, []⟩, ⟨(some 90), (.mov (.tmp 1)), none, []⟩, ⟨(some 91), (.mov (.tmp 2)), none, []⟩, ⟨(some 92), (.call (.func 63) [(.tmp 89), (.tmp 90), (.tmp 91)]), none, [0, 1, 2]⟩, ⟨(some 93), (.un .not (.tmp 92)), none, [3, 0, 1, 2]⟩, ⟨(some 94), (.call (.func 62) [(.tmp 93), (.const (.int .i64 19))]), none, [4, 3, 0, 1, 2]⟩, ⟨(some 16), (.mov (.tmp 94)), none, [5, 4, 3, 0, 1, 2]⟩]) .skip)))))) .skip)) (.seq (.ops false [⟨(some 95), (.mov (.tmp 7)), none, []⟩, ⟨(some 96), (.mov (.tmp 8)), none, []⟩, ⟨(some 97), (.mov (.tmp 15)), none, []⟩, ⟨(some 98), (.mov (.tmp 17)), none, []⟩, ⟨(some 99), (.call (.func 37) [(.tmp 95), (.tmp 96), (.tmp 97), (.tmp 98)]), none, [0, 1, 2, 3]⟩, ⟨(some 100), (.mov (.tmp 99)), none, [4, 0, 1, 2, 3]⟩, ⟨(some 101), (.mov (.tmp 9)), (some (100, true)), [5, 4, 0, 1, 2, 3]⟩, ⟨(some 102), (.mov (.tmp 11)), (some (100, true)), [5, 4, 0, 1, 2, 3]⟩, ⟨(some 103), (.mov (.tmp 15)), (some (100, true)), [5, 4, 0, 1, 2, 3]⟩, ⟨(some 104), (.mov (.tmp 19)), (some (100, true)), [5, 4, 0, 1, 2, 3]⟩, ⟨(some 105), (.call (.func 26) [(.tmp 101), (.tmp 102), (.tmp 103), (.tmp 104)]), (some (100, true)), [6, 5, 4, 0, 1, 2, 3, 7, 8, 9]⟩, ⟨(some 106), (.pick (.tmp 100) (.tmp 105) (.const (.bool false))), none, [5, 4, 0, 1, 2, 3, 10, 6, 7, 8, 9]⟩, ⟨(some 107), (.mov (.tmp 106)), none, [11, 5, 4, 0, 1, 2, 3, 10, 6, 7, 8, 9]⟩, ⟨(some 108), (.mov (.tmp 10)), (some (107, true)), [12, 11, 5, 4, 0, 1, 2, 3, 10, 6, 7, 8, 9]⟩, ⟨(some 109), (.mov (.tmp 20)), (some (107, true)), [12, 11, 5, 4, 0, 1, 2, 3, 10, 6, 7, 8, 9]⟩, ⟨(some 110), (.bin .eql (.tmp 108) (.tmp 109)), (some (107, true)), [13, 12, 11, 5, 4, 0, 1, 2, 3, 10, 6, 7, 8, 9, 14]⟩, ⟨(some 111), (.pick (.tmp 107) (.tmp 110) (.const (.bool false))), none, [12, 11, 5, 4, 0, 1, 2, 3, 10, 6, 7, 8, 9, 15, 13, 14]⟩, ⟨(some 112), (.mov (.tmp 111)), none, [16, 12, 11, 5, 4, 0, 1, 2, 3, 10, 6, 7, 8, 9, 15, 13, 14]⟩, ⟨(some 113), (.mov (.tmp 12)), (some (112, true)), [17, 16, 12, 11, 5, 4, 0, 1, 2, 3, 10, 6, 7, 8, 9, 15, 13, 14]⟩, ⟨(some 114), (.mov (.tmp 13)), (some (112, true)), [17, 16, 12, 11, 5, 4, 0, 1, 2, 3, 10, 6, 7, 8, 9, 15, 13, 14]⟩, ⟨(some 115), (.mov (.tmp 15)), (some (112, true)), [17, 16, 12, 11, 5, 4, 0, 1, 2, 3, 10, 6, 7, 8, 9, 15, 13, 14]⟩, ⟨(some 116), (.mov (.tmp 18)), (some (112, true)), [17, 16, 12, 11, 5, 4, 0, 1, 2, 3, 10, 6, 7, 8, 9, 15, 13, 14]⟩, ⟨(some 117), (.call (.func 37) [(.tmp 113), (.tmp 114), (.tmp 115), (.tmp 116)]), (some (112, true)), [18, 17, 16, 12, 11, 5, 4, 0, 1, 2, 3, 10, 6, 7, 8, 9, 15, 13, 14, 19, 20, 21]⟩, ⟨(some 118), (.pick (.tmp 112) (.tmp 117) (.const (.bool false))), none, [17, 16, 12, 11, 5, 4, 0, 1, 2, 3, 10, 6, 7, 8, 9, 15, 13, 14, 22, 18, 19, 20, 21]⟩, ⟨(some 119), (.mov (.tmp 118)), none, [23, 17, 16, 12, 11, 5, 4, 0, 1, 2, 3, 10, 6, 7, 8, 9, 15, 13, 14, 22, 18, 19, 20, 21]⟩, ⟨(some 120), (.mov (.tmp 14)), (some (119, true)), [24, 23, 17, 16, 12, 11, 5, 4, 0, 1, 2, 3, 10, 6, 7, 8, 9, 15, 13, 14, 22, 18, 19, 20, 21]⟩, ⟨(some 121), (.mov (.tmp 16)), (some (119, true)), [24, 23, 17, 16, 12, 11, 5, 4, 0, 1, 2, 3, 10, 6, 7, 8, 9, 15, 13, 14, 22, 18, 19, 20, 21]⟩, ⟨(some 122), (.bin .eql (.tmp 120) (.tmp 121)), (some (119, true)), [25, 24, 23, 17, 16, 12, 11, 5, 4, 0, 1, 2, 3, 10, 6, 7, 8, 9, 15, 13, 14, 22, 18, 19, 20, 21, 26]⟩, ⟨(some 123), (.pick (.tmp 119) (.tmp 122) (.const (.bool false))), none, [24, 23, 17, 16, 12, 11, 5, 4, 0, 1, 2, 3, 10, 6, 7, 8, 9, 15, 13, 14, 22, 18, 19, 20, 21, 27, 25, 26]⟩, ⟨(some 124), (.mov (.tmp 123)), none, [28, 24, 23, 17, 16, 12, 11, 5, 4, 0, 1, 2, 3, 10, 6, 7, 8, 9, 15, 13, 14, 22, 18, 19, 20, 21, 27, 25, 26]⟩, ⟨(some 125), (.call (.func 13) []), (some (124, true)), [29, 28, 24, 23, 17, 16, 12, 11, 5, 4, 0, 1, 2, 3, 10, 6, 7, 8, 9, 15, 13, 14, 22, 18, 19, 20, 21, 27, 25, 26]⟩, ⟨(some 126), (.pick (.tmp 124) (.tmp 125) (.const (.bool false))), none, [29, 28, 24, 23, 17, 16, 12, 11, 5, 4, 0, 1, 2, 3, 10, 6, 7, 8, 9, 15, 13, 14, 22, 18, 19, 20, 21, 27, 25, 26, 30]⟩, ⟨(some 6), (.mov (.tmp 126)), none, [31, 29, 28, 24, 23, 17, 16, 12, 11, 5, 4, 0, 1, 2, 3, 10, 6, 7, 8, 9, 15, 13, 14, 22, 18, 19, 20, 21, 27, 25, 26, 30]⟩]) .ret))))))))))))⟩
theorem dh7 : cProg Go.Proofs.Tryz.prog ⟨[], [], [58, 60, 67]⟩ 7 = some dc7 := by kernel_rfl
end Sh

/-! CurvePeaks. -/
set_option maxRecDepth 100000
set_option maxHeartbeats 2000000
set_option linter.unusedSimpArgs false
set_option linter.unusedVariables false
namespace Sh
open Go Go.Proofs
theorem pks_len (l : List Int) (k : Nat) : (pks l k).length ≤ k := by have := pkD_len l k; unfold pkD at this; simpa using this
theorem stp_le (l : List Int) (m : Int) : ∀ n k, stp l m n k ≤ k + n
  | 0, k => Nat.le_refl _
  | n + 1, k => by
    unfold stp
    split
    · have := stp_le l m n (k + 1); omega
    · omega
theorem certL_len (l : List Int) (m : Int) : (certL l m).length ≤ l.length + 1 := by
  unfold certL; rw [rng_len]; have := stp_le l m l.length 0; omega
theorem peaksS_len (f : List (List Cel)) : (peaksS f).1.length < 4611686018427387904 := by
  by_cases h : chkField f = 0
  · have e : (peaksS f).1 = pks (crv f) (crv f).length := by unfold peaksS; rw [if_neg (by omega)]
    have h1 := pks_len (crv f) (crv f).length
    have h2 := crv_len f (chkField_zero h)
    rw [e]; omega
  · unfold peaksS; rw [if_pos h]; exact (by decide : (0 : Nat) < 4611686018427387904)
theorem certS_len (f : List (List Cel)) : (certS f).1.length < 4611686018427387904 := by
  by_cases h : chkField f = 0
  · have e : (certS f).1 = certL (crv f) (hiF f).2 := by unfold certS; rw [if_neg (by omega)]
    have h1 := certL_len (crv f) (hiF f).2
    have h2 := (crv_ok (chkField_zero h)).1.1
    rw [e]; omega
  · unfold certS; rw [if_pos h]; exact (by decide : (0 : Nat) < 4611686018427387904)
theorem highS_res (f : List (List Cel)) : ((highS f).1, (highS f).2.2) = resI (chkField f) (hiF f).1 := by
  unfold highS resI
  by_cases h : chkField f = 0
  · rw [if_neg (by omega), if_neg (by omega)]
  · rw [if_pos h, if_pos h]
theorem highS_most (f : List (List Cel)) : (highS f).2.1 = if chkField f ≠ 0 then 0 else (hiF f).2 := by
  unfold highS
  by_cases h : chkField f = 0
  · rw [if_neg (by omega), if_neg (by omega)]
  · rw [if_pos h, if_pos h]
theorem inR_of {L cuts : List Int} (h : decide (cutsR L cuts = 0) = true) : InR L cuts ∧ cuts.length ≤ 1000 := by
  have h := of_decide_eq_true h
  unfold cutsR at h
  split at h
  · exact absurd h ‹_›
  · rename_i hc
    have := countE_zero (Classical.not_not.1 hc)
    exact ⟨cutsE_in h, by omega⟩
theorem r_Certificate' (f : List (List Cel)) (h : OkF f) : PC 59 [iL (crv f)] (iL (certL (crv f) (hiF f).2)) :=
  r_Certificate (crv f) (hiF f).2 (crv_ok h).1 (crv_ok h).2 rfl (hiF_bd h)
theorem cc1 {f : List (List Cel)} {p : Int} {cuts : List Int} (h : decide (firstE [chkField f, withE p 0 960000] = 0) = false) : ccE f p cuts = firstE [chkField f, withE p 0 960000] := by
  have h := of_decide_eq_false h
  unfold ccE
  simp only [firstE] at *
  grind
theorem cc2 {f : List (List Cel)} {p : Int} {cuts : List Int} (h : decide (firstE [chkField f, withE p 0 960000] = 0) = true) (h2 : decide (cutsR (crv f) cuts = 0) = false) : ccE f p cuts = cutsR (crv f) cuts := by
  have h := of_decide_eq_true h
  have h2 := of_decide_eq_false h2
  unfold ccE cutsR at *
  simp only [firstE] at *
  grind
theorem cc3 {f : List (List Cel)} {p : Int} {cuts : List Int} (h : decide (firstE [chkField f, withE p 0 960000] = 0) = true) (h2 : decide (cutsR (crv f) cuts = 0) = true) : ccE f p cuts = whenE (!provB (crv f) p cuts) 19 := by
  have h := of_decide_eq_true h
  have h2 := of_decide_eq_true h2
  unfold ccE cutsR whenE at *
  simp only [firstE] at *
  grind
theorem cc0 {f : List (List Cel)} {p : Int} (h : decide (chkField f = 0) = false) : decide (firstE [chkField f, withE p 0 960000] = 0) = false := by
  have h := of_decide_eq_false h
  rw [decide_eq_false_iff_not]
  simp only [firstE]
  rw [if_pos h]; exact h
theorem no_dec {a b : Int} {P : Prop} (h : a = b) (hg : (bif true then decide (a = b) else false) = !true) : P := by
  rw [decide_eq_true h] at hg; cases hg
theorem most_ok {f : List (List Cel)} (h : decide (chkField f = 0) = true) : (highS f).2.1 = (pw (crv f) (hiA (crv f) (crv f).length)).2 := by
  have h := of_decide_eq_true h
  rw [highS_most, if_neg (by omega)]; rfl
theorem most_no {f : List (List Cel)} (h : decide (chkField f = 0) = false) : (highS f).2.1 = 0 := by
  rw [highS_most, if_pos (of_decide_eq_false h)]
theorem l_CurvePeaks (aw : PC 13 [] (.bool true)) (f : List (List Cel)) (p : Int) (cuts : List Int) : PC 7 [fld f, DV.int .i64 (p), iL cuts] (.bool true) := by
  have e0 : ((cuts.map (DV.int .i64)).length : Int) = cuts.length := by simp
  refine pureCall_ofR dh7 rfl ?_
  conv => whnf
  repeat' (first
    | (refine ⟨fun hg => ?_, fun hg => ?_⟩ <;> first | contradiction | (conv => whnf))
    | (refine Or.inl ?_; conv => whnf)
    | (refine ⟨_, r_ShortField .., ?_⟩; conv => whnf)
    | (refine ⟨_, aw .., ?_⟩; conv => whnf)
    | (refine And.intro ?_ ?_; kernel_rfl; conv => whnf))
  all_goals (try rfl)
  all_goals have hs := shortF_spec (f := f) (by simpa using ‹(!shortF f) = false›)
  all_goals
    have hcl : cuts.length ≤ 802 := by
      first
      | (have h := of_decide_eq_false (show decide (((cuts.map (DV.int .i64)).length : Int) ≠ 802) = false from hg)
         rw [e0] at h
         omega)
      | (have h := of_decide_eq_false (show decide (40 < ((cuts.map (DV.int .i64)).length : Int)) = false from ‹decide (40 < ((cuts.map (DV.int .i64)).length : Int)) = !true›)
         rw [e0] at h
         omega)
  all_goals have hl := hs.2.2
  all_goals have k1 := l_field f hl
  all_goals have k2 := c_Peaks f hl
  all_goals have k3 := c_Highest f hl
  all_goals have k4 := c_Certificate f hl
  all_goals have k5 := c_CheckCertificate f p cuts hl (by omega)
  all_goals have k6 := r_CheckField f hl.1 hl.2
  all_goals have k10 := fun h => l_resL (chkField f) (pks (crv f) (crv f).length) [] (peaksS f) rfl (peaksS_len f) (fun e => absurd e (of_decide_eq_false h))
  all_goals have k11 := l_resL (chkField f) (pks (crv f) (crv f).length) (pks (crv f) (crv f).length) (peaksS f) rfl (peaksS_len f) (fun _ => rfl)
  all_goals have k12 := fun h => l_resL (chkField f) (certL (crv f) (hiF f).2) [] (certS f) rfl (certS_len f) (fun e => absurd e (of_decide_eq_false h))
  all_goals have k13 := l_resL (chkField f) (certL (crv f) (hiF f).2) (certL (crv f) (hiF f).2) (certS f) rfl (certS_len f) (fun _ => rfl)
  all_goals have k14 := fun h => l_resI (chkField f) (hiF f).1 0 ((highS f).1, (highS f).2.2) (highS_res f) (fun e => absurd e (of_decide_eq_false h))
  all_goals have k15 := l_resI (chkField f) (hiF f).1 (hiF f).1 ((highS f).1, (highS f).2.2) (highS_res f) (fun _ => rfl)
  all_goals
    repeat' (first
      | (refine ⟨fun hg => ?_, fun hg => ?_⟩ <;> first | contradiction | (conv => whnf))
      | (refine Or.inl ?_; conv => whnf)
      | (refine ⟨_, k1, ?_⟩; conv => whnf)
      | (refine ⟨_, k2, ?_⟩; conv => whnf)
      | (refine ⟨_, k3, ?_⟩; conv => whnf)
      | (refine ⟨_, k4, ?_⟩; conv => whnf)
      | (refine ⟨_, k5, ?_⟩; conv => whnf)
      | (refine ⟨_, k6, ?_⟩; conv => whnf)
      | (refine ⟨_, q_CheckRange .., ?_⟩; conv => whnf)
      | (refine ⟨_, l_first [_, _] (by simp), ?_⟩; conv => whnf)
      | (refine ⟨_, r_Curve _ (okF_of (by assumption)), ?_⟩; conv => whnf)
      | (refine ⟨_, r_Peaks _ (crv_ok (okF_of (by assumption))).1, ?_⟩; conv => whnf)
      | (refine ⟨_, r_Certificate' _ (okF_of (by assumption)), ?_⟩; conv => whnf)
      | (refine ⟨_, r_Highest _ (crv_ok (okF_of (by assumption))).1 (crv_ok (okF_of (by assumption))).2, ?_⟩; conv => whnf)
      | (refine ⟨_, r_CheckCuts _ _ (crv_ok (okF_of (by assumption))).2 (crv_ok (okF_of (by assumption))).1.1, ?_⟩; conv => whnf)
      | (refine ⟨_, r_Proves _ _ _ (crv_ok (okF_of (by assumption))).1 (crv_ok (okF_of (by assumption))).2 (inR_of (by assumption)).1 (inR_of (by assumption)).2, ?_⟩; conv => whnf)
      | (refine ⟨_, q_When .., ?_⟩; conv => whnf)
      | (refine ⟨_, k10 (by assumption), ?_⟩; conv => whnf)
      | (refine ⟨_, k11, ?_⟩; conv => whnf)
      | (refine ⟨_, k12 (by assumption), ?_⟩; conv => whnf)
      | (refine ⟨_, k13, ?_⟩; conv => whnf)
      | (refine ⟨_, k14 (by assumption), ?_⟩; conv => whnf)
      | (refine ⟨_, k15, ?_⟩; conv => whnf)
      | (refine ⟨_, aw .., ?_⟩; conv => whnf)
      | (refine ⟨⟨by simp; omega, fun e he => by obtain ⟨q, _, rfl⟩ := List.mem_map.1 he; rfl, fun e he => by simp at he⟩, ?_⟩; rw [show ([] : List DV).reverse ++ List.map (DV.int .i64) cuts = List.map (DV.int .i64) cuts from rfl]; conv => whnf)
      | (refine And.intro ?_ ?_; kernel_rfl; conv => whnf))
  all_goals (first
    | rfl
    | exact no_dec (most_ok (by assumption)) (by assumption)
    | exact no_dec (most_no (by assumption)) (by assumption)
    | exact no_dec (cc3 (by assumption) (by assumption)) (by assumption)
    | exact no_dec (cc2 (by assumption) (by assumption)) (by assumption)
    | exact no_dec (cc1 (by assumption)) (by assumption)
    | exact no_dec (cc1 (cc0 (by assumption))) (by assumption)
    | (exfalso
       have h1 := ‹decide (firstE [chkField f, withE p 0 960000] = 0) = false›
       have h2 := ‹decide (firstE [chkField f, withE p 0 960000] = 0) = true›
       rw [h1] at h2
       cases h2)
    | trace_state)
end Sh

/-! What the cards of chapter 4 have in common: the arguments, the package-level variables, what the post asks. -/
set_option maxRecDepth 100000
set_option linter.unusedVariables false
namespace Sh
open Go Go.Proofs Go.Proofs.YtbkginjiknnobaaGreatDoor
section
open Go.RowKit Go.WideShapes Go.ChangeShapes
variable {H : Type} {enc : TypeId × Value → H} {P : Program}
theorem postOfBelow {f : Func} {s : ChangeSpec} {apart fresh handsOn again : Bool} {W W' : World} {args : Array Value} {v : Value} {ds gs : List (DataW H)} {before pa pv : List MemPlace}
    (hW : DataW.Whole enc P f.params.toList s.vars apart W args.toList ds gs before)
    (hres : ∀ (b : Nat) (sp : Nat → Bool) (hd : Bool), DataW.TrodAll enc P W' b sp hd f.resultTypes.toList (v.resultList f.resultTypes.size) (s.fn H (ds ++ gs)).results [])
    (hargs : ∀ sp : Nat → Bool, (∀ p ∈ before, sp p.block = true) → DataW.TrodAll enc P W' 0 sp true f.params.toList args.toList (s.fn H (ds ++ gs)).args pa)
    (hvars : ∀ sp : Nat → Bool, (∀ p ∈ before, sp p.block = true) → DataW.TrodVars enc P W' sp s.vars (s.fn H (ds ++ gs)).vars pv)
    (hps : before = pa ++ pv) (hb : Below W.heap.size W W')
    (hok : ∀ (j : Nat) (t : TypeId) (r : Value), f.resultTypes[j]? = some t → (v.resultList f.resultTypes.size)[j]? = some r → Value.okWide P W' .any 0 t r) :
    s.post enc P f apart fresh handsOn again W args v W' := by
  have hlt : ∀ p ∈ before, p.block < W.heap.size := fun p hp => hW.lt p hp
  have hold : ∀ p ∈ before, (fun b => decide (b < W.heap.size)) p.block = true := fun p hp => by simpa using hlt p hp
  refine ⟨ds, gs, before, [], pa, pv, hW, hres _ _ _, hargs _ hold, hvars _ hold, World.keptBut_mono (fun p hp => ⟨hp, ?_⟩) (hb.frame (· ∈ before)), fun _ => ?_⟩
  · rw [hps, List.mem_append] at hp
    exact Or.inr hp
  · obtain ⟨_, _, _, _, _, hz, hn⟩ := hW
    refine ⟨hok, _, _, ([] ++ pa) ++ pv, ⟨[] ++ pa, pv, trodAll_append (hargs _ (fun _ _ => rfl)) (hres _ _ _), hvars _ (fun _ _ => rfl), rfl, ?_, ?_⟩, ?_⟩
    · intro b off hp
      have hin : MemPlace.cell b off ∈ before := by rw [hps]; simpa using hp
      rw [hb.frozen (hlt _ hin)]
      exact hz b off hin
    · intro ha
      have := hn ha
      rw [hps] at this
      simpa using this
    · intro p hp _
      rw [hps]
      simpa using hp
/-- All arguments read as before. -/
theorem trodAll_stays (hl : laidOutB P = true) {W W' : World} (hb : Below W.heap.size W W') {sp : Nat → Bool} : ∀ {ts : List TypeId} {vs : List Value} {ds : List (DataW H)} {ps : List MemPlace}, DataW.TrodAll enc P W 0 (fun _ => true) true ts vs ds ps →
    (ts.all fun t => P.readableRec t && decide (t < P.types.size)) = true → (∀ p ∈ ps, p.block < W.heap.size) → (∀ p ∈ ps, sp p.block = true) → DataW.TrodAll enc P W' 0 sp true ts vs ds ps
  | [], _, _, _, h, _, _, _ => by
    obtain ⟨rfl, rfl, rfl⟩ := trodAll_nil h
    rfl
  | t :: ts, _, _, _, h, ht, hlt, hsp => by
    obtain ⟨v, vs, d, ds, p, q, rfl, rfl, rfl, h1, h2⟩ := trodAll_cons h
    rw [List.all_cons, Bool.and_eq_true, Bool.and_eq_true] at ht
    exact trodAll_cons_mk (WideElems.Trod_stays hl ht.1.1 (of_decide_eq_true ht.1.2) h1 (fun x hx => hb.same (hlt x (by simp [hx]))) (fun x hx => hsp x (by simp [hx])))
      (trodAll_stays hl hb h2 ht.2 (fun x hx => hlt x (by simp [hx])) (fun x hx => hsp x (by simp [hx])))
end
theorem A_laid : laidOutB Tryz.prog = true := by kernel_rfl
theorem own : ownKnob Tryz.prog.godebug = none := by kernel_rfl
theorem cl3 : Tryz.prog.cellsOf 3 = 1 := by kernel_rfl
theorem cl9 : Tryz.prog.cellsOf 9 = 1 := by kernel_rfl
theorem cl114 : Tryz.prog.cellsOf 114 = 1 := by kernel_rfl
theorem cl23 : Tryz.prog.cellsOf 23 = 1 := by kernel_rfl
theorem cl25 : Tryz.prog.cellsOf 25 = 3 := by kernel_rfl
theorem cl48 : Tryz.prog.cellsOf 48 = 1 := by kernel_rfl
theorem cl108 : Tryz.prog.cellsOf 108 = 2 := by kernel_rfl
theorem cl165 : Tryz.prog.cellsOf 165 = 2 := by kernel_rfl
theorem cl166 : Tryz.prog.cellsOf 166 = 10 := by kernel_rfl
section
variable {H : Type} {enc : TypeId × Value → H} {W : World}
theorem opPt : Opens enc Tryz.prog W 108 (fun p : Pt => (encPt p).cells) (fun _ => True) :=
  (opens_struct2 Tryz.underlying108 1 1 cl3 cl3 cl108 rfl rfl (opens_int Tryz.underlying3) (opens_int Tryz.underlying3)).map (fun a => Pt.mk a.1 a.2) (fun _ => rfl) (fun _ _ => trivial)
theorem opTbl : Opens enc Tryz.prog W 23 (fun t : List Pt => [tbl t]) (fun t => t.length ≤ maxLen) :=
  (opens_slice Tryz.underlying23 2 cl108 (by decide) opPt).map id (fun _ => rfl) (fun _ h => h.1)
theorem opCel : Opens enc Tryz.prog W 25 (fun c : Cel => (encC c).cells) (fun _ => True) :=
  (opens_struct3 Tryz.underlying25 1 1 1 cl23 cl3 cl3 cl25 rfl rfl rfl opTbl (opens_int Tryz.underlying3) (opens_int Tryz.underlying3)).map (fun a => Cel.mk a.1 a.2.1 a.2.2) (fun _ => rfl) (fun _ _ => trivial)
theorem opChn : Opens enc Tryz.prog W 48 (fun l : List Cel => [chn l]) (fun l => l.length ≤ maxLen) :=
  (opens_slice Tryz.underlying48 3 cl25 (by decide) opCel).map id (fun _ => rfl) (fun _ h => h.1)
theorem opFld : Opens enc Tryz.prog W 62 (fun f : List (List Cel) => [fld f]) (fun f => f.length ≤ maxLen) :=
  (opens_slice Tryz.underlying62 1 cl48 (by decide) (f := chn) opChn).map id (fun _ => rfl) (fun _ h => h.1)
theorem opInts : Opens enc Tryz.prog W 53 (fun l : List Int => [iL l]) (fun l => l.length ≤ maxLen) :=
  (opens_slice Tryz.underlying53 1 cl3 (by decide) (f := DV.int .i64) (opens_int Tryz.underlying3)).map id (fun _ => rfl) (fun _ h => h.1)
end
theorem relL_ints {M : Mem} {k : IntKind} (zs : List Int) : RelL M (zs.map (DV.int k)) (zs.map fun z => Value.int k z) := by
  refine ⟨by simp, fun i hi => ?_⟩
  rw [List.length_map] at hi
  have e1 : (zs.map (DV.int k)).getD i .undef = .int k zs[i] := by simp [List.getD_eq_getElem?_getD, hi]
  have e2 : (zs.map fun z => Value.int k z).getD i Go.undef = .int k zs[i] := by simp [List.getD_eq_getElem?_getD, hi]
  rw [e1, e2]
  exact .int _ _
theorem known_word {W : World} (s : List UInt8) {b : UInt8} {r : List UInt8} {f0 : FuncId} (hone : ((List.range Tryz.prog.funcs.size).filter fun f => (Tryz.prog.funcs[f]?).any (·.name.toUTF8.data.toList == b :: r)) = [f0]) :
    Known (funcToken Tryz.prog) Tryz.prog W 165 (.agg [.lit (.string s), .held (b :: r)]) [.str s, .func f0 []] :=
  known_struct2 (d0 := [.str s]) (d1 := [.func f0 []]) Tryz.underlying165 1 1 cl9 cl114 cl165 rfl rfl (known_string Tryz.underlying9 s) (known_func Tryz.underlying114 hone)
def wName (k : UInt8) : List UInt8 := [111, 109, 98, 105, 110, 101, 114, 47, 99, 117, 114, 118, 101, 46, 119, 111, 114, 100, 115, 36, k]
def wordsX : List (DataW (List UInt8)) := [.agg [.lit (.string [115, 97, 109, 101]), .held (99 :: wName 49)], .agg [.lit (.string [109, 111, 114, 101]), .held (99 :: wName 50)], .agg [.lit (.string [111, 112, 101, 110]), .held (99 :: wName 51)], .agg [.lit (.string [100, 97, 114, 107]), .held (99 :: wName 52)], .agg [.lit (.string [98, 121, 112, 97, 115, 115, 101, 100]), .held (99 :: wName 53)]]
def wordsD : List (List DV) := [[.str [115, 97, 109, 101], .func 190 []], [.str [109, 111, 114, 101], .func 192 []], [.str [111, 112, 101, 110], .func 193 []], [.str [100, 97, 114, 107], .func 194 []], [.str [98, 121, 112, 97, 115, 115, 101, 100], .func 195 []]]
theorem known_words {W : World} : Known (funcToken Tryz.prog) Tryz.prog W 166 (.agg wordsX) wordsD.flatten := by
  refine known_array (c := 2) Tryz.underlying166 cl165 cl166 rfl ?_
  intro i x ds e1 e2
  match i, e1, e2 with
  | 0, e1, e2 => cases Option.some.inj e1; cases Option.some.inj e2; exact known_word _ (by kernel_rfl)
  | 1, e1, e2 => cases Option.some.inj e1; cases Option.some.inj e2; exact known_word _ (by kernel_rfl)
  | 2, e1, e2 => cases Option.some.inj e1; cases Option.some.inj e2; exact known_word _ (by kernel_rfl)
  | 3, e1, e2 => cases Option.some.inj e1; cases Option.some.inj e2; exact known_word _ (by kernel_rfl)
  | 4, e1, e2 => cases Option.some.inj e1; cases Option.some.inj e2; exact known_word _ (by kernel_rfl)
def laidC : List (String × DataW Unit) := Rows.curveCellsRow.laid
theorem words_at {W : World} (h : laidMetH Tryz.prog laidC W) : ∃ cs : Array Value, W.var? Tryz.prog "combiner/curve.words" = some cs ∧ RelL (memOf W) wordsD.flatten cs.toList := by
  obtain ⟨g, t, cs, fuel, p, hg, ht, hv, hd⟩ := h.funcs (n := "combiner/curve.words") (.tail _ (.tail _ (.tail _ (.head _))))
  obtain rfl := Option.some.inj ((show Tryz.prog.globalNamed "combiner/curve.words" = some 0 by kernel_rfl).symm.trans hg)
  obtain rfl := Option.some.inj ((show (Tryz.prog.globals[0]?).map (·.type) = some 166 by kernel_rfl).symm.trans ht)
  have hd' : DataW.trod (funcToken Tryz.prog) Tryz.prog W 0 (fun _ => true) true fuel 166 cs.toList = some (.agg wordsX, p) := hd
  exact ⟨cs, hv, known_words _ _ _ _ _ hd'⟩
theorem pow_at {W : World} (h : laidMetH Tryz.prog laidC W) : Lib.TabIs Tryz.prog W "internal/strconv.uint64pow10" .u64 Lib.pow10Tab := by
  have h1 := h.filter fun x => x.1 == "internal/strconv.uint64pow10"
  have e : (laidC.filter fun x => x.1 == "internal/strconv.uint64pow10") = [("internal/strconv.uint64pow10", Lib.tabData .u64 Lib.pow10Tab)] := by kernel_rfl
  rw [e, MakeChecks.laidMetH_plain _ _ _ (by kernel_rfl)] at h1
  exact Lib.tabIs_of_head (g := 2) (t := 212) (e := 203) (n := 20) (by kernel_rfl) (by kernel_rfl) Tryz.underlying212 Tryz.underlying203 (by kernel_rfl) (by kernel_rfl) h1
theorem gokC {W : World} (h : laidMetH Tryz.prog laidC W) : GOk GC (memOf W) ∧ Tabs GC W := by
  obtain ⟨cs, hv, hr⟩ := words_at h
  have hp := pow_at h
  unfold Lib.TabIs at hp
  have g0 : Tryz.prog.globalNamed "combiner/curve.words" = some 0 := by kernel_rfl
  have g2 : Tryz.prog.globalNamed "internal/strconv.uint64pow10" = some 2 := by kernel_rfl
  refine ⟨fun g d hg => ?_, fun g d hg => ?_⟩
  all_goals unfold GC at hg
  all_goals split at hg
  · next e =>
    subst e
    obtain rfl := Option.some.inj hg
    exact gok_of (cs := cs) (fun i => World.var?_cell g0 hv i) hr
  · split at hg
    · next e =>
      subst e
      obtain rfl := Option.some.inj hg
      exact gok_of (fun i => World.var?_cell g2 hp i) (by simpa using relL_ints Lib.pow10Tab)
    · cases hg
  · next e =>
    subst e
    obtain rfl := Option.some.inj hg
    rw [len_of g0 hv, ← Array.length_toList, ← hr.1]
    rfl
  · split at hg
    · next e =>
      subst e
      obtain rfl := Option.some.inj hg
      rw [len_of g2 hp]
      rfl
    · cases hg
end Sh
