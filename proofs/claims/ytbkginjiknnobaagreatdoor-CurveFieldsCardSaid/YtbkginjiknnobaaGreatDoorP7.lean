/-
  Chapter 4's functions, walked over pure data: the library of the walk, the functions' code over data, and what each computes. (part 7)
-/
import Derived.Test.YtbkginjiknnobaaGreatDoorP6
import Derived.Test.YtbkginjiknnobaaGreatDoorProg
import Derived.Test.YtbkginjiknnobaaGreatDoorRows
import Derived.Test.YtbkginjiknnobaaGreatDoorCards
import Derived.Test.YtbkginjiknnobaaGreatDoorTie
import Derived.ProofKit
import Derived.Carry
import Derived.ChangeSame
import Derived.OpenShut
import Derived.Stop.Joined
import Derived.Deep.DeepHandedRow
import Derived.Lib.LaidTab
import Derived.MakeChecks
import Derived.LaidSub
import Derived.LaidHandle
set_option linter.unusedVariables false
set_option linter.unusedSimpArgs false
/-! The reference's ShortField and Mismatch. -/
set_option maxRecDepth 100000
set_option linter.unusedSimpArgs false
set_option linter.unusedVariables false
namespace Sh
open Go Go.Proofs
def shortFN (n : Nat) : Bool := !(decide (4 < n) && !decide (n = 7))
def lenT (f : List (List Cel)) (i : Nat) : Int := sumI ((f.take i).map fun l => (l.length : Int))
theorem lenT_succ (f : List (List Cel)) (i : Nat) (h : i < f.length) : lenT f (i + 1) = lenT f i + (f.getD i []).length := by
  unfold lenT; rw [take_map_succ _ f i [] h, sumI_append, sumI_one]
def shortF (f : List (List Cel)) : Bool := shortFN f.length && (f.all shortC && decide (lenT f f.length ≤ 24))
theorem shortC_len {l : List Cel} (h : shortC l = true) : l.length ≤ 9 := (shortC_spec h).1
theorem lenT_bd {f : List (List Cel)} {i : Nat} (h : (f.take i).all shortC = true) : 0 ≤ lenT f i ∧ lenT f i ≤ 9 * i := by
  have h1 := sumI_bd (l := (f.take i).map fun l => (l.length : Int)) (A := 0) (B := 9) (fun x hx => by
    obtain ⟨l, hl, rfl⟩ := List.mem_map.1 hx
    have := shortC_len (List.all_eq_true.1 h l hl)
    omega)
  have h2 : ((f.take i).map fun l => (l.length : Int)).length ≤ i := by simp; omega
  unfold lenT
  omega
theorem r_ShortField (f : List (List Cel)) : PC 38 [fld f] (.bool (shortF f)) := by
  have e0 : ((f.map chn).length : Int) = f.length := by simp
  refine pureCall_ofR dh38 rfl ?_
  conv => whnf
  repeat' (first
    | (refine ⟨fun hg => ?_, fun hg => ?_⟩ <;> first | contradiction | (conv => whnf))
    | (refine Or.inl ?_; conv => whnf)
    | (refine And.intro ?_ ?_; kernel_rfl; conv => whnf))
  · rw [e0] at *
    refine bool_eq ?_
    symm
    rename_i hq
    have hq := of_decide_eq_true hq
    have hg := of_decide_eq_true hg
    have : shortFN f.length = false := by simp only [shortFN]; simp; omega
    unfold shortF; rw [this]; rfl
  all_goals
    have hk : shortFN f.length = true := by
      rename_i hq
      rw [e0] at *
      have hq : ¬ ((4 : Int) < f.length ∧ ¬ ((f.length : Int) = 7)) := by simp at hq hg; omega
      simp only [shortFN]; simp; omega
  all_goals have h7 : f.length ≤ 7 := by (simp only [shortFN] at hk; simp at hk; omega)
  all_goals refine dwp_loopR (P := Tryz.prog) (G := GC) (k := dk38_0) (b := db38_0) (α := Nat) (fun i => [(0, fld f), (3, DV.int .i64 (lenT f i)), (4, DV.int .i64 (i))]) (fun _ => []) (fun i => i ≤ f.length ∧ (f.take i).all shortC = true) (fun i => f.length - i) 0 ⟨rfl, rfl, rfl⟩ ⟨Nat.zero_le _, rfl⟩ ?_
  all_goals intro i ⟨h1, h2⟩
  all_goals have hb2 := lenT_bd h2
  all_goals conv => whnf
  all_goals refine ⟨fun hb => ?_, fun hb => ?_⟩
  any_goals
    have hi : i < f.length := by simpa using hb
    have e1 : (((f.getD i []).map encC).length : Int) = (f.getD i []).length := by simp
    conv => whnf
    rw [getD_enc _ _ (i) [] hi]
    refine ⟨idxA hi rfl, ?_⟩
    conv => whnf
    rw [getD_enc _ _ (i) [] hi]
    refine ⟨idxA hi rfl, ?_⟩
    conv => whnf
    repeat' (first
      | (refine ⟨fun hg => ?_, fun hg => ?_⟩ <;> first | contradiction | (conv => whnf))
      | (refine Or.inl ?_; conv => whnf)
      | (refine ⟨_, r_ShortChain .., ?_⟩; conv => whnf)
      | (refine And.intro ?_ ?_; kernel_rfl; conv => whnf))
    · have hg : shortC (f.getD i []) = false := by simpa using hg
      refine bool_eq ?_
      unfold shortF
      rw [all_not _ f i [] hi hg, Bool.false_and, Bool.and_false]
    · have hg : shortC (f.getD i []) = true := by simpa using hg
      have hq := shortC_len hg
      rw [wrap_succ i (by omega)]
      refine ⟨i + 1, rfl, ?_, rfl, ⟨hi, all_take _ f i [] hi h2 hg⟩, by omega⟩
      show [(0, fld f), (3, DV.int .i64 (IntKind.i64.wrap (lenT f i + (((f.getD i []).map encC).length : Int)))), _] = _
      rw [e1, wrap_W, W_in (by omega) (by omega), ← lenT_succ f i hi]; rfl
  all_goals
    have hi : i = f.length := by have := of_decide_eq_false hb; rw [e0] at this; omega
    conv => whnf
    refine bool_eq ?_
    rw [hi, List.take_length] at h2
    unfold shortF
    rw [hk, h2, hi]; rfl
theorem shortF_spec {f : List (List Cel)} (h : shortF f = true) : f.length ≤ 7 ∧ (∀ l ∈ f, shortC l = true) ∧ LenF f := by
  unfold shortF at h
  rw [Bool.and_eq_true, Bool.and_eq_true] at h
  have h7 : f.length ≤ 7 := by
    have := h.1
    simp only [shortFN] at this
    simp at this
    omega
  have hA := List.all_eq_true.1 h.2.1
  refine ⟨h7, hA, by omega, fun l hl => ?_⟩
  have := shortC_spec (hA l hl)
  exact ⟨by omega, fun c hc => by have := this.2 c hc; omega⟩
theorem r_Mismatch (f : List (List Cel)) (hF : OkF f) : PC 48 [fld f] (DV.int .i64 (misF f)) := by
  have e0 : ((f.map chn).length : Int) = f.length := by simp
  have hm := hiF_bd hF
  have hfl := hF.2.1
  have hok := crv_ok hF
  refine pureCall_ofR dh48 rfl ?_
  conv => whnf
  repeat' (first
    | (refine ⟨fun hg => ?_, fun hg => ?_⟩ <;> first | contradiction | (conv => whnf))
    | (refine Or.inl ?_; conv => whnf)
    | (refine ⟨_, r_Curve f hF, ?_⟩; conv => whnf)
    | (refine ⟨_, r_Highest _ hok.1 hok.2, ?_⟩; conv => whnf)
    | (refine And.intro ?_ ?_; kernel_rfl; conv => whnf))
  refine dwp_loopR (P := Tryz.prog) (G := GC) (k := dk48_0) (b := db48_0) (α := Nat) (fun i => [(0, fld f), (4, DV.int .i64 ((hiF f).2)), (5, DV.int .i64 (misT f i)), (6, DV.int .i64 (i))]) (fun _ => []) (fun i => i ≤ f.length) (fun i => f.length - i) 0 ⟨rfl, rfl, rfl⟩ (Nat.zero_le _) ?_
  intro i h1
  have hb1 := misT_bd hF i
  conv => whnf
  refine ⟨fun hb => ?_, fun hb => ?_⟩
  · have hi : i < f.length := by simpa using hb
    have hmem := getD_in [] hi
    have hO := hF.one hmem
    have hb2 := hiF_bd hO
    have hok2 := crv_ok hO
    conv => whnf
    rw [wrap_succ i (by omega)]
    have hwin : window (f.map chn) (Int.toNat (i : Int)) (Int.toNat (((i + 1 : Nat) : Int) - (i : Int))) = [f.getD i []].map chn := by
      rw [show Int.toNat (((i + 1 : Nat) : Int) - (i : Int)) = 1 by omega, Int.toNat_natCast]
      unfold window
      rw [drop_getD (f.map chn) i (chn []) (by simpa using hi)]
      simp [List.getD_eq_getElem?_getD, hi]
    rw [hwin]
    refine ⟨⟨by omega, by omega, by rw [e0]; omega, fun e he => by obtain ⟨l, _, rfl⟩ := List.mem_map.1 he; rfl⟩, ?_⟩
    conv => whnf
    repeat' (first
      | (refine ⟨fun hg => ?_, fun hg => ?_⟩ <;> first | contradiction | (conv => whnf))
      | (refine Or.inl ?_; conv => whnf)
      | (refine ⟨_, r_Curve _ hO, ?_⟩; conv => whnf)
      | (refine ⟨_, r_Highest _ hok2.1 hok2.2, ?_⟩; conv => whnf)
      | (refine And.intro ?_ ?_; kernel_rfl; conv => whnf))
    rw [wrap_succ i (by omega)]
    refine ⟨i + 1, rfl, ?_, rfl, hi, by omega⟩
    have hh : (pw (crv [f.getD i []]) (hiA (crv [f.getD i []]) (crv [f.getD i []]).length)).2 = (hiF [f.getD i []]).2 := rfl
    rw [hh, show IntKind.i64.wrap (misT f i + (hiF [f.getD i []]).2) = misT f (i + 1) from (W_in (by omega) (by omega)).trans (misT_succ f i hi).symm]
    rfl
  · have hi : i = f.length := by have := of_decide_eq_false hb; rw [e0] at this; omega
    conv => whnf
    refine int_eq ?_
    rw [hi] at hb1 ⊢
    rw [wrap_W, W_in (by omega) (by omega)]; rfl
end Sh

set_option maxRecDepth 100000
namespace Sh
open Go
def dc3 : DFunc := ⟨100, 3, [(.tmp 6)], (.seq (.ops false [⟨(some 3), (.box 3 (.tmp 0)), none, []⟩, ⟨(some 6), (.mov (.const (.bool false))), none, []⟩]) (.seq (.seq (.ops false [⟨(some 17), (.faddr 0 1 false (.tmp 3)), none, []⟩, ⟨(some 18), (.load none (.tmp 17)), none, [0]⟩, ⟨(some 19), (.call (.func 12) [(.tmp 18)]), none, [1, 0]⟩, ⟨(some 20), (.un .not (.tmp 19)), none, [2, 1, 0]⟩]) (.cond (.tmp 20) (.seq (.ops false [⟨(some 21), (.call (.func 13) []), none, []⟩, ⟨(some 6), (.mov (.tmp 21)), none, [0]⟩]) .ret) .skip)) (.seq (.ops false [⟨(some 23), (.load (some 3) (.tmp 3)), none, []⟩, ⟨(some 24), (.call (.func 15) [(.tmp 23)]), none, [0]⟩, ⟨(some 25), (.mov (.tmp 1)), none, []⟩, ⟨(some 26), (.call (.func 14) [(.tmp 24), (.tmp 25)]), none, [1, 0, 2]⟩, ⟨(some 22), (.mov (.tmp 26)), none, [3, 1, 0, 2]⟩, ⟨(some 27), (.extract (.tmp 22) 0), none, [4, 3, 1, 0, 2]⟩, ⟨(some 28), (.extract (.tmp 22) 1), none, [4, 3, 1, 0, 2]⟩, ⟨(some 7), (.mov (.tmp 27)), none, [5, 4, 3, 1, 0, 2]⟩, ⟨(some 8), (.mov (.tmp 28)), none, [6, 4, 3, 1, 0, 2, 7, 5]⟩]) (.seq (.ops false [⟨(some 30), (.load (some 3) (.tmp 3)), none, []⟩, ⟨(some 31), (.call (.func 15) [(.tmp 30)]), none, [0]⟩, ⟨(some 32), (.mov (.tmp 2)), none, []⟩, ⟨(some 33), (.call (.func 16) [(.tmp 31), (.tmp 32)]), none, [1, 0, 2]⟩, ⟨(some 29), (.mov (.tmp 33)), none, [3, 1, 0, 2]⟩, ⟨(some 34), (.extract (.tmp 29) 0), none, [4, 3, 1, 0, 2]⟩, ⟨(some 35), (.extract (.tmp 29) 1), none, [4, 3, 1, 0, 2]⟩, ⟨(some 36), (.extract (.tmp 29) 2), none, [4, 3, 1, 0, 2]⟩, ⟨(some 9), (.mov (.tmp 34)), none, [5, 4, 3, 1, 0, 2]⟩, ⟨(some 10), (.mov (.tmp 35)), none, [6, 4, 3, 1, 0, 2, 8, 5]⟩, ⟨(some 11), (.mov (.tmp 36)), none, [7, 4, 3, 1, 0, 2, 9, 6, 8, 5]⟩]) (.seq (.ops true [⟨(some 37), (.load (some 3) (.tmp 3)), none, []⟩, ⟨(some 38), (.call (.func 18) [(.tmp 37)]), none, [0]⟩, ⟨(some 39), (.mov (.tmp 1)), none, []⟩, ⟨(some 40), (.call (.func 19) [(.tmp 39)]), none, [2, 1, 0]⟩, ⟨(some 41), (.lit true 1 2 (.int .i64 0) [(0, (.tmp 38)), (1, (.tmp 40))]), none, [1, 0, 3, 2]⟩, ⟨(some 42), (.call (.func 17) [(.tmp 41)]), none, [4, 1, 0, 3, 2]⟩, ⟨(some 43), (.load (some 3) (.tmp 3)), none, []⟩, ⟨(some 44), (.call (.func 18) [(.tmp 43)]), none, [6, 5, 4, 1, 0, 3, 2]⟩, ⟨(some 45), (.mov (.tmp 2)), none, []⟩, ⟨(some 46), (.call (.func 20) [(.tmp 45)]), none, [8, 7, 6, 5, 4, 1, 0, 3, 2]⟩, ⟨(some 47), (.lit true 1 2 (.int .i64 0) [(0, (.tmp 44)), (1, (.tmp 46))]), none, [7, 6, 5, 4, 1, 0, 3, 2, 9, 8]⟩, ⟨(some 48), (.call (.func 17) [(.tmp 47)]), none, [10, 7, 6, 5, 4, 1, 0, 3, 2, 9, 8]⟩, ⟨(some 12), (.mov (.tmp 42)), none, [5, 4, 1, 0, 3, 2, 11, 10, 7, 6, 9, 8]⟩, ⟨(some 13), (.mov (.tmp 48)), none, [11, 10, 7, 6, 5, 4, 1, 0, 3, 2, 9, 8, 12]⟩]) (.seq (.ops false [⟨(some 14), (.mov (.const (.int .i64 0))), none, []⟩, ⟨(some 15), (.mov (.const (.int .i64 0))), none, [0]⟩, ⟨(some 16), (.mov (.const (.bool false))), none, [1, 0]⟩]) (.seq (.seq (.ops false [⟨(some 49), (.mov (.tmp 12)), none, []⟩, ⟨(some 50), (.bin .eql (.tmp 49) (.const (.int .i64 0))), none, [0]⟩]) (.cond (.tmp 50) (.ops false [⟨(some 51), (.load (some 3) (.tmp 3)), none, []⟩, ⟨(some 52), (.mov (.tmp 1)), none, []⟩, ⟨(some 53), (.call (.func 21) [(.tmp 51), (.tmp 52)]), none, [0, 1]⟩, ⟨(some 14), (.mov (.tmp 53)), none, [2, 0, 1]⟩]) .skip)) (.seq (.seq (.ops false [⟨(some 54), (.mov (.tmp 13)), none, []⟩, ⟨(some 55), (.bin .eql (.tmp 54) (.const (.int .i64 0))), none, [0]⟩]) (.cond (.tmp 55) (.ops false [⟨(some 57), (.load (some 3) (.tmp 3)), none, []⟩, ⟨(some 58), (.mov (.tmp 2)), none, []⟩, ⟨(some 59), (.call (.func 22) [(.tmp 57), (.tmp 58)]), none, [0, 1]⟩, ⟨(some 56), (.mov (.tmp 59)), none, [2, 0, 1]⟩, ⟨(some 60), (.extract (.tmp 56) 0), none, [3, 2, 0, 1]⟩, ⟨(some 61), (.extract (.tmp 56) 1), none, [3, 2, 0, 1]⟩, ⟨(some 15), (.mov (.tmp 60)), none, [4, 3, 2, 0, 1]⟩, ⟨(some 16), (.mov (.tmp 61)), none, [5, 3, 2, 0, 1, 6, 4]⟩]) .skip)) (.seq (.ops true [⟨(some 62), (.load (some 3) (.tmp 3)), none, []⟩, ⟨(some 63), (.call (.func 15) [(.tmp 62)]), none, [0]⟩, ⟨(some 64), (.field 0 1 false (.tmp 63)), none, [1, 0]⟩, ⟨(some 65), (.call (.func 23) [(.tmp 64)]), none, [2, 1, 0]⟩, ⟨(some 66), (.faddr 0 1 false (.tmp 3)), none, []⟩, ⟨(some 67), (.load none (.tmp 66)), none, [4]⟩, ⟨(some 68), (.call (.func 24) [(.tmp 67)]), none, [5, 4, 3, 2, 1, 0]⟩, ⟨(some 69), (.bin .eql (.tmp 65) (.tmp 68)), none, [3, 2, 1, 0, 6, 5, 4]⟩, ⟨(some 70), (.mov (.tmp 69)), none, [7, 3, 2, 1, 0, 6, 5, 4]⟩, ⟨(some 71), (.load (some 3) (.tmp 3)), (some (70, true)), [8, 7, 3, 2, 1, 0, 6, 5, 4]⟩, ⟨(some 72), (.call (.func 15) [(.tmp 71)]), (some (70, true)), [9, 8, 7, 3, 2, 1, 0, 6, 5, 4]⟩, ⟨(some 73), (.call (.func 25) [(.tmp 72)]), (some (70, true)), [10, 9, 8, 7, 3, 2, 1, 0, 6, 5, 4]⟩, ⟨(some 74), (.load (some 3) (.tmp 3)), (some (70, true)), [8, 7, 3, 2, 1, 0, 6, 5, 4]⟩, ⟨(some 75), (.call (.func 18) [(.tmp 74)]), (some (70, true)), [12, 8, 7, 3, 2, 1, 0, 6, 5, 4, 11, 10, 9]⟩, ⟨(some 76), (.bin .eql (.tmp 73) (.tmp 75)), (some (70, true)), [11, 10, 9, 8, 7, 3, 2, 1, 0, 6, 5, 4, 13, 12]⟩, ⟨(some 77), (.pick (.tmp 70) (.tmp 76) (.const (.bool false))), none, [8, 7, 3, 2, 1, 0, 6, 5, 4, 14, 11, 10, 9, 13, 12]⟩, ⟨(some 78), (.mov (.tmp 77)), none, [15, 8, 7, 3, 2, 1, 0, 6, 5, 4, 14, 11, 10, 9, 13, 12]⟩, ⟨(some 79), (.mov (.tmp 7)), (some (78, true)), [16, 15, 8, 7, 3, 2, 1, 0, 6, 5, 4, 14, 11, 10, 9, 13, 12]⟩, ⟨(some 80), (.mov (.tmp 8)), (some (78, true)), [16, 15, 8, 7, 3, 2, 1, 0, 6, 5, 4, 14, 11, 10, 9, 13, 12]⟩, ⟨(some 81), (.mov (.tmp 12)), (some (78, true)), [16, 15, 8, 7, 3, 2, 1, 0, 6, 5, 4, 14, 11, 10, 9, 13, 12]⟩, ⟨(some 82), (.mov (.tmp 14)), (some (78, true)), [16, 15, 8, 7, 3, 2, 1, 0, 6, 5, 4, 14, 11, 10, 9, 13, 12]⟩, ⟨(some 83), (.call (.func 26) [(.tmp 79), (.tmp 80), (.tmp 81), (.tmp 82)]), (some (78, true)), [17, 16, 15, 8, 7, 3, 2, 1, 0, 6, 5, 4, 14, 11, 10, 9, 13, 12, 18, 19, 20]⟩, ⟨(some 84), (.pick (.tmp 78) (.tmp 83) (.const (.bool false))), none, [16, 15, 8, 7, 3, 2, 1, 0, 6, 5, 4, 14, 11, 10, 9, 13, 12, 21, 17, 18, 19, 20]⟩, ⟨(some 85), (.mov (.tmp 84)), none, [22, 16, 15, 8, 7, 3, 2, 1, 0, 6, 5, 4, 14, 11, 10, 9, 13, 12, 21, 17, 18, 19, 20]⟩, ⟨(some 86), (.mov (.tmp 9)), (some (85, true)), [23, 22, 16, 15, 8, 7, 3, 2, 1, 0, 6, 5, 4, 14, 11, 10, 9, 13, 12, 21, 17, 18, 19, 20]⟩, ⟨(some 87), (.mov (.tmp 11)), (some (85, true)), [23, 22, 16, 15, 8, 7, 3, 2, 1, 0, 6, 5, 4, 14, 11, 10, 9, 13, 12, 21, 17, 18, 19, 20]⟩, ⟨(some 88), (.mov (.tmp 13)), (some (85, true)), [23, 22, 16, 15, 8, 7, 3, 2, 1, 0, 6, 5, 4, 14, 11, 10, 9, 13, 12, 21, 17, 18, 19, 20]⟩, ⟨(some 89), (.mov (.tmp 15)), (some (85, true)), [23, 22, 16, 15, 8, 7, 3, 2, 1, 0, 6, 5, 4, 14, 11, 10, 9, 13, 12, 21, 17, 18, 19, 20]⟩, ⟨(some 90), (.call (.func 26) [(.tmp 86), (.tmp 87), (.tmp 88), (.tmp 89)]), (some (85, true)), [24, 23, 22, 16, 15, 8, 7, 3, 2, 1, 0, 6, 5, 4, 14, 11, 10, 9, 13, 12, 21, 17, 18, 19, 20, 25, 26, 27]⟩, ⟨(some 91), (.pick (.tmp 85) (.tmp 90) (.const (.bool false))), none, [23, 22, 16, 15, 8, 7, 3, 2, 1, 0, 6, 5, 4, 14, 11, 10, 9, 13, 12, 21, 17, 18, 19, 20, 28, 24, 25, 26, 27]⟩, ⟨(some 92), (.mov (.tmp 91)), none, [29, 23, 22, 16, 15, 8, 7, 3, 2, 1, 0, 6, 5, 4, 14, 11, 10, 9, 13, 12, 21, 17, 18, 19, 20, 28, 24, 25, 26, 27]⟩, ⟨(some 93), (.mov (.tmp 10)), (some (92, true)), [30, 29, 23, 22, 16, 15, 8, 7, 3, 2, 1, 0, 6, 5, 4, 14, 11, 10, 9, 13, 12, 21, 17, 18, 19, 20, 28, 24, 25, 26, 27]⟩, ⟨(some 94), (.mov (.tmp 16)), (some (92, true)), [30, 29, 23, 22, 16, 15, 8, 7, 3, 2, 1, 0, 6, 5, 4, 14, 11, 10, 9, 13, 12, 21, 17, 18, 19, 20, 28, 24, 25, 26, 27]⟩, ⟨(some 95), (.eqB false (.tmp 93) (.tmp 94)), (some (92, true)), [31, 30, 29, 23, 22, 16, 15, 8, 7, 3, 2, 1, 0, 6, 5, 4, 14, 11, 10, 9, 13, 12, 21, 17, 18, 19, 20, 28, 24, 25, 26, 27, 32]⟩, ⟨(some 96), (.pick (.tmp 92) (.tmp 95) (.const (.bool false))), none, [30, 29, 23, 22, 16, 15, 8, 7, 3, 2, 1, 0, 6, 5, 4, 14, 11, 10, 9, 13, 12, 21, 17, 18, 19, 20, 28, 24, 25, 26, 27, 33, 31, 32]⟩, ⟨(some 97), (.mov (.tmp 96)), none, [34, 30, 29, 23, 22, 16, 15, 8, 7, 3, 2, 1, 0, 6, 5, 4, 14, 11, 10, 9, 13, 12, 21, 17, 18, 19, 20, 28, 24, 25, 26, 27, 33, 31, 32]⟩, ⟨(some 98), (.call (.func 13) []), (some (97, true)), [35, 34, 30, 29, 23, 22, 16, 15, 8, 7, 3, 2, 1, 0, 6, 5, 4, 14, 11, 10, 9, 13, 12, 21, 17, 18, 19, 20, 28, 24, 25, 26, 27, 33, 31, 32]⟩, ⟨(some 99), (.pick (.tmp 97) (.tmp 98) (.const (.bool false))), none, [35, 34, 30, 29, 23, 22, 16, 15, 8, 7, 3, 2, 1, 0, 6, 5, 4, 14, 11, 10, 9, 13, 12, 21, 17, 18, 19, 20, 28, 24, 25, 26, 27, 33, 31, 32, 36]⟩, ⟨(some 6), (.mov (.tmp 99)), none, [37, 35, 34, 30, 29, 23, 22, 16, 15, 8, 7, 3, 2, 1, 0, 6, 5, 4, 14, 11, 10, 9, 13, 12, 21, 17, 18, 19, 20, 28, 24, 25, 26, 27, 33, 31, 32, 36]⟩]) .ret)))))))))⟩
theorem dh3 : cProg Go.Proofs.Tryz.prog ⟨[], [], [41, 47]⟩ 3 = some dc3 := by kernel_rfl
end Sh

/-! CurveCells. -/
set_option maxRecDepth 100000
set_option maxHeartbeats 1000000
set_option linter.unusedSimpArgs false
set_option linter.unusedVariables false
namespace Sh
open Go Go.Proofs
theorem l_num (s : Int × Int) (E w : Int) (h1 : s.1 = if E ≠ 0 then 0 else w) (h2 : s.2 = E) : PC 26 [DV.int .i64 (s.1), DV.int .i64 (s.2), DV.int .i64 (E), DV.int .i64 (w)] (.bool true) := by
  have := l_number s.1 s.2 E w
  rwa [decide_eq_true h1, decide_eq_true h2] at this
theorem r_Current' (c : Cel) (v : Int) (h : decide (firstE [chkCell c, withE v 0 800] = 0) = true) : PC 21 [encC c, DV.int .i64 (v)] (DV.int .i64 (curC c v)) := by
  have h := firstE_cons (of_decide_eq_true h)
  have h2 := withE_zero (firstE_cons h.2).1
  exact r_Current c v (chkCell_zero h.1) h2.1 (by omega)
theorem r_Volt' (c : Cel) (n : Int) (h : decide (firstE [chkCell c, withE n 0 200] = 0) = true) : PC 22 [encC c, DV.int .i64 (n)] (encVB (voltC c n)) :=
  r_Volt c n (chkCell_zero (firstE_cons (of_decide_eq_true h)).1)
theorem num_cur (c : Cel) (v w : Int) (h : firstE [chkCell c, withE v 0 800] = 0 → w = curC c v) : PC 26 [DV.int .i64 ((currentS c v).1), DV.int .i64 ((currentS c v).2), DV.int .i64 (firstE [chkCell c, withE v 0 800]), DV.int .i64 (w)] (.bool true) := by
  refine l_num (currentS c v) _ w ?_ ?_
  all_goals unfold currentS
  all_goals split
  · rfl
  · rename_i e; rw [h (Classical.not_not.1 e)]
  · rfl
  · rename_i e; exact (Classical.not_not.1 e).symm
theorem num_volt (c : Cel) (n w : Int) (h : firstE [chkCell c, withE n 0 200] = 0 → w = (voltC c n).1) : PC 26 [DV.int .i64 ((voltS c n).1), DV.int .i64 ((voltS c n).2.2), DV.int .i64 (firstE [chkCell c, withE n 0 200]), DV.int .i64 (w)] (.bool true) := by
  refine l_num ((voltS c n).1, (voltS c n).2.2) _ w ?_ ?_
  all_goals unfold voltS
  all_goals split
  · rfl
  · rename_i e; rw [h (Classical.not_not.1 e)]
  · rfl
  · rename_i e; exact (Classical.not_not.1 e).symm
theorem volt_is (c : Cel) (n : Int) : (voltS c n).2.1 = if firstE [chkCell c, withE n 0 200] = 0 then (voltC c n).2 else false := by
  unfold voltS
  by_cases e : firstE [chkCell c, withE n 0 200] = 0
  · rw [if_neg (by simpa using e), if_pos e]
  · rw [if_pos e, if_neg e]
theorem l_CurveCells (aw : PC 13 [] (.bool true)) (c : Cel) (v n : Int) : PC 3 [encC c, DV.int .i64 (v), DV.int .i64 (n)] (.bool true) := by
  refine pureCall_ofR dh3 rfl ?_
  conv => whnf
  repeat' (first
    | (refine ⟨fun hg => ?_, fun hg => ?_⟩ <;> first | contradiction | (conv => whnf))
    | (refine Or.inl ?_; conv => whnf)
    | (refine ⟨_, r_ShortTable .., ?_⟩; conv => whnf)
    | (refine ⟨_, aw .., ?_⟩; conv => whnf)
    | (refine And.intro ?_ ?_; kernel_rfl; conv => whnf))
  · rfl
  have hl : c.tb.length < 1073741824 := by simp at hg; omega
  clear hg
  repeat' (first
    | (refine ⟨fun hg => ?_, fun hg => ?_⟩ <;> first | contradiction | (conv => whnf))
    | (refine Or.inl ?_; conv => whnf)
    | (refine ⟨_, l_cell _ hl, ?_⟩; conv => whnf)
    | (refine ⟨_, c_Current _ _ hl, ?_⟩; conv => whnf)
    | (refine ⟨_, c_Volt _ _ hl, ?_⟩; conv => whnf)
    | (refine ⟨_, r_CheckCell _ hl, ?_⟩; conv => whnf)
    | (refine ⟨_, r_CheckVolt .., ?_⟩; conv => whnf)
    | (refine ⟨_, r_CheckAmp .., ?_⟩; conv => whnf)
    | (refine ⟨_, l_first [_, _] (by simp), ?_⟩; conv => whnf)
    | (refine ⟨_, r_Current' _ _ (by assumption), ?_⟩; conv => whnf)
    | (refine ⟨_, r_Volt' _ _ (by assumption), ?_⟩; conv => whnf)
    | (refine ⟨_, c_CheckTable _ hl, ?_⟩; conv => whnf)
    | (refine ⟨_, r_CheckTable _ hl, ?_⟩; conv => whnf)
    | (refine ⟨_, c_CheckCell _ hl, ?_⟩; conv => whnf)
    | (refine ⟨_, num_cur _ _ _ (fun h => absurd h (of_decide_eq_false (by assumption))), ?_⟩; conv => whnf)
    | (refine ⟨_, num_cur _ _ _ (fun _ => rfl), ?_⟩; conv => whnf)
    | (refine ⟨_, num_volt _ _ _ (fun h => absurd h (of_decide_eq_false (by assumption))), ?_⟩; conv => whnf)
    | (refine ⟨_, num_volt _ _ _ (fun _ => rfl), ?_⟩; conv => whnf)
    | (refine ⟨_, aw .., ?_⟩; conv => whnf)
    | (refine And.intro ?_ ?_; kernel_rfl; conv => whnf))
  all_goals (first
    | rfl
    | (exfalso; have hk := ‹decide (chkTab c.tb = chkTab c.tb) = !true›; rw [decide_eq_true rfl] at hk; cases hk)
    | (exfalso; have hk := ‹(bif true then decide (chkCell c = chkCell c) else false) = !true›; rw [decide_eq_true rfl] at hk; cases hk)
    | (exfalso; rw [volt_is, if_pos (of_decide_eq_true (by assumption))] at hg; revert hg; cases (voltC c n).2 <;> decide)
    | (exfalso; rw [volt_is, if_neg (of_decide_eq_false (by assumption))] at hg; revert hg; decide)
    | skip)
end Sh

set_option maxRecDepth 100000
namespace Sh
open Go
def dc4 : DFunc := ⟨98, 3, [(.tmp 6)], (.seq (.ops false [⟨(some 6), (.mov (.const (.bool false))), none, []⟩]) (.seq (.seq (.ops false [⟨(some 18), (.mov (.tmp 0)), none, []⟩, ⟨(some 19), (.call (.func 27) [(.tmp 18)]), none, [0]⟩, ⟨(some 20), (.un .not (.tmp 19)), none, [1, 0]⟩]) (.cond (.tmp 20) (.seq (.ops false [⟨(some 21), (.call (.func 13) []), none, []⟩, ⟨(some 6), (.mov (.tmp 21)), none, [0]⟩]) .ret) .skip)) (.seq (.ops false [⟨(some 23), (.mov (.tmp 0)), none, []⟩, ⟨(some 24), (.call (.func 29) [(.tmp 23)]), none, [0]⟩, ⟨(some 25), (.mov (.tmp 2)), none, []⟩, ⟨(some 26), (.call (.func 28) [(.tmp 24), (.tmp 25)]), none, [1, 0, 2]⟩, ⟨(some 22), (.mov (.tmp 26)), none, [3, 1, 0, 2]⟩, ⟨(some 27), (.extract (.tmp 22) 0), none, [4, 3, 1, 0, 2]⟩, ⟨(some 28), (.extract (.tmp 22) 1), none, [4, 3, 1, 0, 2]⟩, ⟨(some 7), (.mov (.tmp 27)), none, [5, 4, 3, 1, 0, 2]⟩, ⟨(some 8), (.mov (.tmp 28)), none, [6, 4, 3, 1, 0, 2, 7, 5]⟩]) (.seq (.ops false [⟨(some 30), (.mov (.tmp 0)), none, []⟩, ⟨(some 31), (.call (.func 29) [(.tmp 30)]), none, [0]⟩, ⟨(some 32), (.mov (.tmp 1)), none, []⟩, ⟨(some 33), (.call (.func 30) [(.tmp 31), (.tmp 32)]), none, [1, 0, 2]⟩, ⟨(some 29), (.mov (.tmp 33)), none, [3, 1, 0, 2]⟩, ⟨(some 34), (.extract (.tmp 29) 0), none, [4, 3, 1, 0, 2]⟩, ⟨(some 35), (.extract (.tmp 29) 1), none, [4, 3, 1, 0, 2]⟩, ⟨(some 9), (.mov (.tmp 34)), none, [5, 4, 3, 1, 0, 2]⟩, ⟨(some 10), (.mov (.tmp 35)), none, [6, 4, 3, 1, 0, 2, 7, 5]⟩]) (.seq (.ops false [⟨(some 37), (.mov (.tmp 0)), none, []⟩, ⟨(some 38), (.call (.func 29) [(.tmp 37)]), none, [0]⟩, ⟨(some 39), (.mov (.tmp 2)), none, []⟩, ⟨(some 40), (.call (.func 31) [(.tmp 38), (.tmp 39)]), none, [1, 0, 2]⟩, ⟨(some 36), (.mov (.tmp 40)), none, [3, 1, 0, 2]⟩, ⟨(some 41), (.extract (.tmp 36) 0), none, [4, 3, 1, 0, 2]⟩, ⟨(some 42), (.extract (.tmp 36) 1), none, [4, 3, 1, 0, 2]⟩, ⟨(some 11), (.mov (.tmp 41)), none, [5, 4, 3, 1, 0, 2]⟩, ⟨(some 12), (.mov (.tmp 42)), none, [6, 4, 3, 1, 0, 2, 7, 5]⟩]) (.seq (.ops false [⟨(some 43), (.mov (.tmp 0)), none, []⟩, ⟨(some 44), (.call (.func 32) [(.tmp 43)]), none, [0]⟩, ⟨(some 45), (.mov (.tmp 2)), none, []⟩, ⟨(some 46), (.call (.func 20) [(.tmp 45)]), none, [2, 1, 0]⟩, ⟨(some 47), (.lit true 1 2 (.int .i64 0) [(0, (.tmp 44)), (1, (.tmp 46))]), none, [1, 0, 3, 2]⟩, ⟨(some 48), (.call (.func 17) [(.tmp 47)]), none, [4, 1, 0, 3, 2]⟩, ⟨(some 49), (.mov (.tmp 0)), none, []⟩, ⟨(some 50), (.call (.func 32) [(.tmp 49)]), none, [6, 5, 4, 1, 0, 3, 2]⟩, ⟨(some 51), (.mov (.tmp 1)), none, []⟩, ⟨(some 52), (.call (.func 19) [(.tmp 51)]), none, [8, 7, 6, 5, 4, 1, 0, 3, 2]⟩, ⟨(some 53), (.lit true 1 2 (.int .i64 0) [(0, (.tmp 50)), (1, (.tmp 52))]), none, [7, 6, 5, 4, 1, 0, 3, 2, 9, 8]⟩, ⟨(some 54), (.call (.func 17) [(.tmp 53)]), none, [10, 7, 6, 5, 4, 1, 0, 3, 2, 9, 8]⟩, ⟨(some 13), (.mov (.tmp 48)), none, [5, 4, 1, 0, 3, 2, 11, 10, 7, 6, 9, 8]⟩, ⟨(some 14), (.mov (.tmp 54)), none, [11, 10, 7, 6, 5, 4, 1, 0, 3, 2, 9, 8, 12]⟩]) (.seq (.ops false [⟨(some 15), (.mov (.const (.int .i64 0))), none, []⟩, ⟨(some 16), (.mov (.const (.int .i64 0))), none, [0]⟩]) (.seq (.ops false [⟨(some 17), (.mov (.const (.slice none 0 0))), none, []⟩]) (.seq (.seq (.ops false [⟨(some 55), (.mov (.tmp 13)), none, []⟩, ⟨(some 56), (.bin .eql (.tmp 55) (.const (.int .i64 0))), none, [0]⟩]) (.cond (.tmp 56) (.ops false [⟨(some 57), (.mov (.tmp 0)), none, []⟩, ⟨(some 58), (.mov (.tmp 2)), none, []⟩, ⟨(some 59), (.call (.func 33) [(.tmp 57), (.tmp 58)]), none, [0, 1]⟩, ⟨(some 60), (.mov (.tmp 0)), none, []⟩, ⟨(some 61), (.mov (.tmp 2)), none, []⟩, ⟨(some 62), (.call (.func 34) [(.tmp 60), (.tmp 61)]), none, [3, 4, 2, 0, 1]⟩, ⟨(some 15), (.mov (.tmp 59)), none, [2, 0, 1, 5, 3, 4]⟩, ⟨(some 17), (.mov (.tmp 62)), none, [5, 3, 4, 2, 0, 1, 6]⟩]) .skip)) (.seq (.seq (.ops false [⟨(some 63), (.mov (.tmp 14)), none, []⟩, ⟨(some 64), (.bin .eql (.tmp 63) (.const (.int .i64 0))), none, [0]⟩]) (.cond (.tmp 64) (.ops false [⟨(some 65), (.mov (.tmp 0)), none, []⟩, ⟨(some 66), (.mov (.tmp 1)), none, []⟩, ⟨(some 67), (.call (.func 35) [(.tmp 65), (.tmp 66)]), none, [0, 1]⟩, ⟨(some 16), (.mov (.tmp 67)), none, [2, 0, 1]⟩]) .skip)) (.seq (.ops false [⟨(some 68), (.mov (.tmp 0)), none, []⟩, ⟨(some 69), (.call (.func 29) [(.tmp 68)]), none, [0]⟩, ⟨(some 70), (.call (.func 36) [(.tmp 69)]), none, [1, 0]⟩, ⟨(some 71), (.mov (.tmp 0)), none, []⟩, ⟨(some 72), (.call (.func 32) [(.tmp 71)]), none, [3, 2, 1, 0]⟩, ⟨(some 73), (.bin .eql (.tmp 70) (.tmp 72)), none, [2, 1, 0, 4, 3]⟩, ⟨(some 74), (.mov (.tmp 73)), none, [5, 2, 1, 0, 4, 3]⟩, ⟨(some 75), (.mov (.tmp 7)), (some (74, true)), [6, 5, 2, 1, 0, 4, 3]⟩, ⟨(some 76), (.mov (.tmp 8)), (some (74, true)), [6, 5, 2, 1, 0, 4, 3]⟩, ⟨(some 77), (.mov (.tmp 13)), (some (74, true)), [6, 5, 2, 1, 0, 4, 3]⟩, ⟨(some 78), (.mov (.tmp 15)), (some (74, true)), [6, 5, 2, 1, 0, 4, 3]⟩, ⟨(some 79), (.call (.func 26) [(.tmp 75), (.tmp 76), (.tmp 77), (.tmp 78)]), (some (74, true)), [7, 6, 5, 2, 1, 0, 4, 3, 8, 9, 10]⟩, ⟨(some 80), (.pick (.tmp 74) (.tmp 79) (.const (.bool false))), none, [6, 5, 2, 1, 0, 4, 3, 11, 7, 8, 9, 10]⟩, ⟨(some 81), (.mov (.tmp 80)), none, [12, 6, 5, 2, 1, 0, 4, 3, 11, 7, 8, 9, 10]⟩, ⟨(some 82), (.mov (.tmp 9)), (some (81, true)), [13, 12, 6, 5, 2, 1, 0, 4, 3, 11, 7, 8, 9, 10]⟩, ⟨(some 83), (.mov (.tmp 10)), (some (81, true)), [13, 12, 6, 5, 2, 1, 0, 4, 3, 11, 7, 8, 9, 10]⟩, ⟨(some 84), (.mov (.tmp 14)), (some (81, true)), [13, 12, 6, 5, 2, 1, 0, 4, 3, 11, 7, 8, 9, 10]⟩, ⟨(some 85), (.mov (.tmp 16)), (some (81, true)), [13, 12, 6, 5, 2, 1, 0, 4, 3, 11, 7, 8, 9, 10]⟩, ⟨(some 86), (.call (.func 26) [(.tmp 82), (.tmp 83), (.tmp 84), (.tmp 85)]), (some (81, true)), [14, 13, 12, 6, 5, 2, 1, 0, 4, 3, 11, 7, 8, 9, 10, 15, 16, 17]⟩, ⟨(some 87), (.pick (.tmp 81) (.tmp 86) (.const (.bool false))), none, [13, 12, 6, 5, 2, 1, 0, 4, 3, 11, 7, 8, 9, 10, 18, 14, 15, 16, 17]⟩, ⟨(some 88), (.mov (.tmp 87)), none, [19, 13, 12, 6, 5, 2, 1, 0, 4, 3, 11, 7, 8, 9, 10, 18, 14, 15, 16, 17]⟩, ⟨(some 89), (.mov (.tmp 11)), (some (88, true)), [20, 19, 13, 12, 6, 5, 2, 1, 0, 4, 3, 11, 7, 8, 9, 10, 18, 14, 15, 16, 17]⟩, ⟨(some 90), (.mov (.tmp 12)), (some (88, true)), [20, 19, 13, 12, 6, 5, 2, 1, 0, 4, 3, 11, 7, 8, 9, 10, 18, 14, 15, 16, 17]⟩, ⟨(some 91), (.mov (.tmp 13)), (some (88, true)), [20, 19, 13, 12, 6, 5, 2, 1, 0, 4, 3, 11, 7, 8, 9, 10, 18, 14, 15, 16, 17]⟩, ⟨(some 92), (.mov (.tmp 17)), (some (88, true)), [20, 19, 13, 12, 6, 5, 2, 1, 0, 4, 3, 11, 7, 8, 9, 10, 18, 14, 15, 16, 17]⟩, ⟨(some 93), (.call (.func 37) [(.tmp 89), (.tmp 90), (.tmp 91), (.tmp 92)]), (some (88, true)), [21, 20, 19, 13, 12, 6, 5, 2, 1, 0, 4, 3, 11, 7, 8, 9, 10, 18, 14, 15, 16, 17, 22, 23, 24]⟩, ⟨(some 94), (.pick (.tmp 88) (.tmp 93) (.const (.bool false))), none, [20, 19, 13, 12, 6, 5, 2, 1, 0, 4, 3, 11, 7, 8, 9, 10, 18, 14, 15, 16, 17, 25, 21, 22, 23, 24]⟩, ⟨(some 95), (.mov (.tmp 94)), none, [26, 20, 19, 13, 12, 6, 5, 2, 1, 0, 4, 3, 11, 7, 8, 9, 10, 18, 14, 15, 16, 17, 25, 21, 22, 23, 24]⟩, ⟨(some 96), (.call (.func 13) []), (some (95, true)), [27, 26, 20, 19, 13, 12, 6, 5, 2, 1, 0, 4, 3, 11, 7, 8, 9, 10, 18, 14, 15, 16, 17, 25, 21, 22, 23, 24]⟩, ⟨(some 97), (.pick (.tmp 95) (.tmp 96) (.const (.bool false))), none, [27, 26, 20, 19, 13, 12, 6, 5, 2, 1, 0, 4, 3, 11, 7, 8, 9, 10, 18, 14, 15, 16, 17, 25, 21, 22, 23, 24, 28]⟩, ⟨(some 6), (.mov (.tmp 97)), none, [29, 27, 26, 20, 19, 13, 12, 6, 5, 2, 1, 0, 4, 3, 11, 7, 8, 9, 10, 18, 14, 15, 16, 17, 25, 21, 22, 23, 24, 28]⟩]) .ret)))))))))))⟩
theorem dh4 : cProg Go.Proofs.Tryz.prog ⟨[], [], [47, 53]⟩ 4 = some dc4 := by kernel_rfl
end Sh

/-! CurveChains. -/
set_option maxRecDepth 100000
set_option maxHeartbeats 2000000
set_option linter.unusedSimpArgs false
set_option linter.unusedVariables false
namespace Sh
open Go Go.Proofs
theorem l_lst (s : List Int × Int) (E : Int) (w : List Int) (hl : s.1.length < 4611686018427387904) (h1 : s.1 = if E ≠ 0 then [] else w) (h2 : s.2 = E) : PC 37 [iL s.1, DV.int .i64 (s.2), DV.int .i64 (E), iL w] (.bool true) := by
  have := l_listed s.1 s.2 E w hl
  rwa [decide_eq_true h1, decide_eq_true h2] at this
/-- A result and its error, as the program gives them. -/
def resI (E w : Int) : Int × Int := if E ≠ 0 then (0, E) else (w, 0)
theorem l_resI (E w x : Int) (s : Int × Int) (hs : s = resI E w) (h : E = 0 → x = w) : PC 26 [DV.int .i64 (s.1), DV.int .i64 (s.2), DV.int .i64 (E), DV.int .i64 (x)] (.bool true) := by
  subst hs
  by_cases e : E = 0
  · refine l_num _ _ _ ?_ ?_
    all_goals unfold resI
    all_goals rw [if_neg (by omega)]
    · rw [if_neg (by omega), h e]
    · exact e.symm
  · refine l_num _ _ _ ?_ ?_
    all_goals unfold resI
    all_goals rw [if_pos e]
    · rw [if_pos e]
def resL (E : Int) (w : List Int) : List Int × Int := if E ≠ 0 then ([], E) else (w, 0)
theorem l_resL (E : Int) (w x : List Int) (s : List Int × Int) (hs : s = resL E w) (hl : s.1.length < 4611686018427387904) (h : E = 0 → x = w) : PC 37 [iL s.1, DV.int .i64 (s.2), DV.int .i64 (E), iL x] (.bool true) := by
  subst hs
  by_cases e : E = 0
  · refine l_lst _ _ _ hl ?_ ?_
    all_goals unfold resL
    all_goals rw [if_neg (by omega)]
    · rw [if_neg (by omega), h e]
    · exact e.symm
  · refine l_lst _ _ _ hl ?_ ?_
    all_goals unfold resL
    all_goals rw [if_pos e]
    · rw [if_pos e]
theorem bypS_len (l : List Cel) (n : Int) : (bypS l n).1.length ≤ l.length := by
  unfold bypS
  split
  · simp
  · exact byp_len l n _
theorem okH_of {l : List Cel} {e : Int} (h : decide (firstE [chkChain l, e] = 0) = true) : OkH l := chkChain_zero (firstE_cons (of_decide_eq_true h)).1
theorem l_CurveChains (aw : PC 13 [] (.bool true)) (l : List Cel) (v n : Int) : PC 4 [chn l, DV.int .i64 (v), DV.int .i64 (n)] (.bool true) := by
  refine pureCall_ofR dh4 rfl ?_
  conv => whnf
  repeat' (first
    | (refine ⟨fun hg => ?_, fun hg => ?_⟩ <;> first | contradiction | (conv => whnf))
    | (refine Or.inl ?_; conv => whnf)
    | (refine ⟨_, r_ShortChain .., ?_⟩; conv => whnf)
    | (refine ⟨_, aw .., ?_⟩; conv => whnf)
    | (refine And.intro ?_ ?_; kernel_rfl; conv => whnf))
  · rfl
  have hs := shortC_spec (l := l) (by simpa using hg)
  have hl : l.length < 1073741824 := by omega
  have hc : ∀ c ∈ l, c.tb.length < 1073741824 := fun c h => by have := hs.2 c h; omega
  have hb := bypS_len l n
  clear hg
  have k1 := l_cells l hl hc
  have k2 := c_ChainVolt l n hl hc
  have k3 := c_ChainCurrent l v hl hc
  have k4 := c_Bypassed l n hl hc
  have k5 := r_CheckChain l hl hc
  have k6 := c_CheckChain l hl hc
  have k7 := fun h => l_resI (firstE [chkChain l, withE n 0 200]) (chV l n) 0 (chainVoltS l n) rfl (fun e => absurd e (of_decide_eq_false h))
  have k8 := l_resI (firstE [chkChain l, withE n 0 200]) (chV l n) (chV l n) (chainVoltS l n) rfl (fun _ => rfl)
  have k9 := fun h => l_resI (firstE [chkChain l, withE v 0 800]) (curH l v) 0 (chainCurrentS l v) rfl (fun e => absurd e (of_decide_eq_false h))
  have k10 := l_resI (firstE [chkChain l, withE v 0 800]) (curH l v) (curH l v) (chainCurrentS l v) rfl (fun _ => rfl)
  have k11 := fun h => l_resL (firstE [chkChain l, withE n 0 200]) (byp l n l.length) [] (bypS l n) rfl (by omega) (fun e => absurd e (of_decide_eq_false h))
  have k12 := l_resL (firstE [chkChain l, withE n 0 200]) (byp l n l.length) (byp l n l.length) (bypS l n) rfl (by omega) (fun _ => rfl)
  have k13 : ∀ {P : Prop}, decide (chkChain l = chkChain l) = !true → P := fun h => by rw [decide_eq_true rfl] at h; cases h
  repeat' (first
    | (refine ⟨fun hg => ?_, fun hg => ?_⟩ <;> first | contradiction | (conv => whnf))
    | (refine Or.inl ?_; conv => whnf)
    | (refine ⟨_, k1, ?_⟩; conv => whnf)
    | (refine ⟨_, k2, ?_⟩; conv => whnf)
    | (refine ⟨_, k3, ?_⟩; conv => whnf)
    | (refine ⟨_, k4, ?_⟩; conv => whnf)
    | (refine ⟨_, k5, ?_⟩; conv => whnf)
    | (refine ⟨_, k6, ?_⟩; conv => whnf)
    | (refine ⟨_, r_CheckVolt .., ?_⟩; conv => whnf)
    | (refine ⟨_, r_CheckAmp .., ?_⟩; conv => whnf)
    | (refine ⟨_, l_first [_, _] (by simp), ?_⟩; conv => whnf)
    | (refine ⟨_, r_ChainVolt _ _ (okH_of (by assumption)), ?_⟩; conv => whnf)
    | (refine ⟨_, r_ChainCurrent _ _ (okH_of (by assumption)), ?_⟩; conv => whnf)
    | (refine ⟨_, r_Bypassed _ _ (okH_of (by assumption)), ?_⟩; conv => whnf)
    | (refine ⟨_, k7 (by assumption), ?_⟩; conv => whnf)
    | (refine ⟨_, k8, ?_⟩; conv => whnf)
    | (refine ⟨_, k9 (by assumption), ?_⟩; conv => whnf)
    | (refine ⟨_, k10, ?_⟩; conv => whnf)
    | (refine ⟨_, k11 (by assumption), ?_⟩; conv => whnf)
    | (refine ⟨_, k12, ?_⟩; conv => whnf)
    | (refine ⟨_, aw .., ?_⟩; conv => whnf)
    | (refine And.intro ?_ ?_; kernel_rfl; conv => whnf))
  all_goals (first
    | rfl
    | exact k13 (by assumption)
    | trace_state)
end Sh

set_option maxRecDepth 100000
namespace Sh
open Go
def dc5 : DFunc := ⟨122, 2, [(.tmp 4)], (.seq (.ops false [⟨(some 4), (.mov (.const (.bool false))), none, []⟩]) (.seq (.seq (.ops false [⟨(some 21), (.mov (.tmp 0)), none, []⟩, ⟨(some 22), (.call (.func 38) [(.tmp 21)]), none, [0]⟩, ⟨(some 23), (.un .not (.tmp 22)), none, [1, 0]⟩]) (.cond (.tmp 23) (.seq (.ops false [⟨(some 24), (.call (.func 13) []), none, []⟩, ⟨(some 4), (.mov (.tmp 24)), none, [0]⟩]) .ret) .skip)) (.seq (.ops false [⟨(some 26), (.mov (.tmp 0)), none, []⟩, ⟨(some 27), (.call (.func 40) [(.tmp 26)]), none, [0]⟩, ⟨(some 28), (.call (.func 39) [(.tmp 27)]), none, [1, 0]⟩, ⟨(some 25), (.mov (.tmp 28)), none, [2, 1, 0]⟩, ⟨(some 29), (.extract (.tmp 25) 0), none, [3, 2, 1, 0]⟩, ⟨(some 30), (.extract (.tmp 25) 1), none, [3, 2, 1, 0]⟩, ⟨(some 5), (.mov (.tmp 29)), none, [4, 3, 2, 1, 0]⟩, ⟨(some 6), (.mov (.tmp 30)), none, [5, 3, 2, 1, 0, 6, 4]⟩]) (.seq (.ops false [⟨(some 32), (.mov (.tmp 0)), none, []⟩, ⟨(some 33), (.call (.func 40) [(.tmp 32)]), none, [0]⟩, ⟨(some 34), (.mov (.tmp 1)), none, []⟩, ⟨(some 35), (.call (.func 41) [(.tmp 33), (.tmp 34)]), none, [1, 0, 2]⟩, ⟨(some 31), (.mov (.tmp 35)), none, [3, 1, 0, 2]⟩, ⟨(some 36), (.extract (.tmp 31) 0), none, [4, 3, 1, 0, 2]⟩, ⟨(some 37), (.extract (.tmp 31) 1), none, [4, 3, 1, 0, 2]⟩, ⟨(some 7), (.mov (.tmp 36)), none, [5, 4, 3, 1, 0, 2]⟩, ⟨(some 8), (.mov (.tmp 37)), none, [6, 4, 3, 1, 0, 2, 7, 5]⟩]) (.seq (.ops false [⟨(some 39), (.mov (.tmp 0)), none, []⟩, ⟨(some 40), (.call (.func 40) [(.tmp 39)]), none, [0]⟩, ⟨(some 41), (.mov (.tmp 1)), none, []⟩, ⟨(some 42), (.call (.func 42) [(.tmp 40), (.tmp 41)]), none, [1, 0, 2]⟩, ⟨(some 38), (.mov (.tmp 42)), none, [3, 1, 0, 2]⟩, ⟨(some 43), (.extract (.tmp 38) 0), none, [4, 3, 1, 0, 2]⟩, ⟨(some 44), (.extract (.tmp 38) 1), none, [4, 3, 1, 0, 2]⟩, ⟨(some 9), (.mov (.tmp 43)), none, [5, 4, 3, 1, 0, 2]⟩, ⟨(some 10), (.mov (.tmp 44)), none, [6, 4, 3, 1, 0, 2, 7, 5]⟩]) (.seq (.ops false [⟨(some 46), (.mov (.tmp 0)), none, []⟩, ⟨(some 47), (.call (.func 40) [(.tmp 46)]), none, [0]⟩, ⟨(some 48), (.call (.func 43) [(.tmp 47)]), none, [1, 0]⟩, ⟨(some 45), (.mov (.tmp 48)), none, [2, 1, 0]⟩, ⟨(some 49), (.extract (.tmp 45) 0), none, [3, 2, 1, 0]⟩, ⟨(some 50), (.extract (.tmp 45) 1), none, [3, 2, 1, 0]⟩, ⟨(some 11), (.mov (.tmp 49)), none, [4, 3, 2, 1, 0]⟩, ⟨(some 12), (.mov (.tmp 50)), none, [5, 3, 2, 1, 0, 6, 4]⟩]) (.seq (.ops false [⟨(some 52), (.mov (.tmp 0)), none, []⟩, ⟨(some 53), (.call (.func 40) [(.tmp 52)]), none, [0]⟩, ⟨(some 54), (.call (.func 44) [(.tmp 53)]), none, [1, 0]⟩, ⟨(some 51), (.mov (.tmp 54)), none, [2, 1, 0]⟩, ⟨(some 55), (.extract (.tmp 51) 0), none, [3, 2, 1, 0]⟩, ⟨(some 56), (.extract (.tmp 51) 1), none, [3, 2, 1, 0]⟩, ⟨(some 13), (.mov (.tmp 55)), none, [4, 3, 2, 1, 0]⟩, ⟨(some 14), (.mov (.tmp 56)), none, [5, 3, 2, 1, 0, 6, 4]⟩]) (.seq (.ops false [⟨(some 57), (.mov (.tmp 0)), none, []⟩, ⟨(some 58), (.call (.func 45) [(.tmp 57)]), none, [0]⟩, ⟨(some 15), (.mov (.tmp 58)), none, [1, 0]⟩]) (.seq (.ops false [⟨(some 59), (.mov (.tmp 15)), none, []⟩, ⟨(some 60), (.mov (.tmp 1)), none, []⟩, ⟨(some 61), (.call (.func 19) [(.tmp 60)]), none, [1]⟩, ⟨(some 62), (.lit true 1 2 (.int .i64 0) [(0, (.tmp 59)), (1, (.tmp 61))]), none, [0, 2, 1]⟩, ⟨(some 63), (.call (.func 17) [(.tmp 62)]), none, [3, 0, 2, 1]⟩, ⟨(some 16), (.mov (.tmp 63)), none, [4, 3, 0, 2, 1]⟩]) (.seq (.ops false [⟨(some 17), (.mov (.const (.int .i64 0))), none, []⟩, ⟨(some 18), (.mov (.const (.int .i64 0))), none, [0]⟩, ⟨(some 19), (.mov (.const (.int .i64 0))), none, [1, 0]⟩]) (.seq (.ops false [⟨(some 20), (.mov (.const (.slice none 0 0))), none, []⟩]) (.seq (.seq (.ops false [⟨(some 64), (.mov (.tmp 15)), none, []⟩, ⟨(some 65), (.bin .eql (.tmp 64) (.const (.int .i64 0))), none, [0]⟩]) (.cond (.tmp 65) (.ops false [⟨(some 66), (.mov (.tmp 0)), none, []⟩, ⟨(some 67), (.call (.func 46) [(.tmp 66)]), none, [0]⟩, ⟨(some 68), (.mov (.tmp 0)), none, []⟩, ⟨(some 69), (.call (.func 47) [(.tmp 68)]), none, [2, 1, 0]⟩, ⟨(some 70), (.mov (.tmp 0)), none, []⟩, ⟨(some 71), (.call (.func 48) [(.tmp 70)]), none, [4, 3, 2, 1, 0]⟩, ⟨(some 17), (.mov (.tmp 67)), none, [1, 0, 5, 4, 3, 2]⟩, ⟨(some 20), (.mov (.tmp 69)), none, [3, 2, 1, 0, 6, 5, 4]⟩, ⟨(some 19), (.mov (.tmp 71)), none, [5, 4, 3, 2, 1, 0, 7, 6]⟩]) .skip)) (.seq (.seq (.ops false [⟨(some 72), (.mov (.tmp 16)), none, []⟩, ⟨(some 73), (.bin .eql (.tmp 72) (.const (.int .i64 0))), none, [0]⟩]) (.cond (.tmp 73) (.ops false [⟨(some 74), (.mov (.tmp 0)), none, []⟩, ⟨(some 75), (.mov (.tmp 1)), none, []⟩, ⟨(some 76), (.call (.func 49) [(.tmp 74), (.tmp 75)]), none, [0, 1]⟩, ⟨(some 18), (.mov (.tmp 76)), none, [2, 0, 1]⟩]) .skip)) (.seq (.ops false [⟨(some 77), (.mov (.tmp 0)), none, []⟩, ⟨(some 78), (.call (.func 40) [(.tmp 77)]), none, [0]⟩, ⟨(some 79), (.call (.func 50) [(.tmp 78)]), none, [1, 0]⟩, ⟨(some 80), (.mov (.tmp 15)), none, []⟩, ⟨(some 81), (.bin .eql (.tmp 79) (.tmp 80)), none, [2, 1, 0, 3]⟩, ⟨(some 82), (.mov (.tmp 81)), none, [4, 2, 1, 0, 3]⟩, ⟨(some 83), (.mov (.tmp 5)), (some (82, true)), [5, 4, 2, 1, 0, 3]⟩, ⟨(some 84), (.mov (.tmp 6)), (some (82, true)), [5, 4, 2, 1, 0, 3]⟩, ⟨(some 85), (.mov (.tmp 15)), (some (82, true)), [5, 4, 2, 1, 0, 3]⟩, ⟨(some 86), (.mov (.tmp 17)), (some (82, true)), [5, 4, 2, 1, 0, 3]⟩, ⟨(some 87), (.call (.func 26) [(.tmp 83), (.tmp 84), (.tmp 85), (.tmp 86)]), (some (82, true)), [6, 5, 4, 2, 1, 0, 3, 7, 8, 9]⟩, ⟨(some 88), (.pick (.tmp 82) (.tmp 87) (.const (.bool false))), none, [5, 4, 2, 1, 0, 3, 10, 6, 7, 8, 9]⟩, ⟨(some 89), (.mov (.tmp 88)), none, [11, 5, 4, 2, 1, 0, 3, 10, 6, 7, 8, 9]⟩, ⟨(some 90), (.mov (.tmp 7)), (some (89, true)), [12, 11, 5, 4, 2, 1, 0, 3, 10, 6, 7, 8, 9]⟩, ⟨(some 91), (.mov (.tmp 8)), (some (89, true)), [12, 11, 5, 4, 2, 1, 0, 3, 10, 6, 7, 8, 9]⟩, ⟨(some 92), (.mov (.tmp 16)), (some (89, true)), [12, 11, 5, 4, 2, 1, 0, 3, 10, 6, 7, 8, 9]⟩, ⟨(some 93), (.mov (.tmp 18)), (some (89, true)), [12, 11, 5, 4, 2, 1, 0, 3, 10, 6, 7, 8, 9]⟩, ⟨(some 94), (.call (.func 26) [(.tmp 90), (.tmp 91), (.tmp 92), (.tmp 93)]), (some (89, true)), [13, 12, 11, 5, 4, 2, 1, 0, 3, 10, 6, 7, 8, 9, 14, 15, 16]⟩, ⟨(some 95), (.pick (.tmp 89) (.tmp 94) (.const (.bool false))), none, [12, 11, 5, 4, 2, 1, 0, 3, 10, 6, 7, 8, 9, 17, 13, 14, 15, 16]⟩, ⟨(some 96), (.mov (.tmp 95)), none, [18, 12, 11, 5, 4, 2, 1, 0, 3, 10, 6, 7, 8, 9, 17, 13, 14, 15, 16]⟩, ⟨(some 97), (.mov (.tmp 9)), (some (96, true)), [19, 18, 12, 11, 5, 4, 2, 1, 0, 3, 10, 6, 7, 8, 9, 17, 13, 14, 15, 16]⟩, ⟨(some 98), (.mov (.tmp 10)), (some (96, true)), [19, 18, 12, 11, 5, 4, 2, 1, 0, 3, 10, 6, 7, 8, 9, 17, 13, 14, 15, 16]⟩, ⟨(some 99), (.mov (.tmp 16)), (some (96, true)), [19, 18, 12, 11, 5, 4, 2, 1, 0, 3, 10, 6, 7, 8, 9, 17, 13, 14, 15, 16]⟩, ⟨(some 100), (.mov (.tmp 1)), (some (96, true)), [19, 18, 12, 11, 5, 4, 2, 1, 0, 3, 10, 6, 7, 8, 9, 17, 13, 14, 15, 16]⟩, ⟨(some 101), (.mov (.tmp 18)), (some (96, true)), [19, 18, 12, 11, 5, 4, 2, 1, 0, 3, 10, 6, 7, 8, 9, 17, 13, 14, 15, 16]⟩, ⟨(some 102), (.bin .mul (.tmp 100) (.tmp 101)), (some (96, true)), [23, 19, 18, 12, 11, 5, 4, 2, 1, 0, 3, 10, 6, 7, 8, 9, 17, 13, 14, 15, 16, 24]⟩, ⟨(some 103), (.call (.func 26) [(.tmp 97), (.tmp 98), (.tmp 99), (.tmp 102)]), (some (96, true)), [20, 19, 18, 12, 11, 5, 4, 2, 1, 0, 3, 10, 6, 7, 8, 9, 17, 13, 14, 15, 16, 21, 22, 25, 23, 24]⟩, ⟨(some 104), (.pick (.tmp 96) (.tmp 103) (.const (.bool false))), none, [19, 18, 12, 11, 5, 4, 2, 1, 0, 3, 10, 6, 7, 8, 9, 17, 13, 14, 15, 16, 26, 20, 21, 22, 25, 23, 24]⟩, ⟨(some 105), (.mov (.tmp 104)), none, [27, 19, 18, 12, 11, 5, 4, 2, 1, 0, 3, 10, 6, 7, 8, 9, 17, 13, 14, 15, 16, 26, 20, 21, 22, 25, 23, 24]⟩, ⟨(some 106), (.mov (.tmp 11)), (some (105, true)), [28, 27, 19, 18, 12, 11, 5, 4, 2, 1, 0, 3, 10, 6, 7, 8, 9, 17, 13, 14, 15, 16, 26, 20, 21, 22, 25, 23, 24]⟩, ⟨(some 107), (.mov (.tmp 12)), (some (105, true)), [28, 27, 19, 18, 12, 11, 5, 4, 2, 1, 0, 3, 10, 6, 7, 8, 9, 17, 13, 14, 15, 16, 26, 20, 21, 22, 25, 23, 24]⟩, ⟨(some 108), (.mov (.tmp 15)), (some (105, true)), [28, 27, 19, 18, 12, 11, 5, 4, 2, 1, 0, 3, 10, 6, 7, 8, 9, 17, 13, 14, 15, 16, 26, 20, 21, 22, 25, 23, 24]⟩, ⟨(some 109), (.mov (.tmp 20)), (some (105, true)), [28, 27, 19, 18, 12, 11, 5, 4, 2, 1, 0, 3, 10, 6, 7, 8, 9, 17, 13, 14, 15, 16, 26, 20, 21, 22, 25, 23, 24]⟩, ⟨(some 110), (.call (.func 37) [(.tmp 106), (.tmp 107), (.tmp 108), (.tmp 109)]), (some (105, true)), [29, 28, 27, 19, 18, 12, 11, 5, 4, 2, 1, 0, 3, 10, 6, 7, 8, 9, 17, 13, 14, 15, 16, 26, 20, 21, 22, 25, 23, 24, 30, 31, 32]⟩, ⟨(some 111), (.pick (.tmp 105) (.tmp 110) (.const (.bool false))), none, [28, 27, 19, 18, 12, 11, 5, 4, 2, 1, 0, 3, 10, 6, 7, 8, 9, 17, 13, 14, 15, 16, 26, 20, 21, 22, 25, 23, 24, 33, 29, 30, 31, 32]⟩, ⟨(some 112), (.mov (.tmp 111)), none, [34, 28, 27, 19, 18, 12, 11, 5, 4, 2, 1, 0, 3, 10, 6, 7, 8, 9, 17, 13, 14, 15, 16, 26, 20, 21, 22, 25, 23, 24, 33, 29, 30, 31, 32]⟩, ⟨(some 113), (.mov (.tmp 13)), (some (112, true)), [35, 34, 28, 27, 19, 18, 12, 11, 5, 4, 2, 1, 0, 3, 10, 6, 7, 8, 9, 17, 13, 14, 15, 16, 26, 20, 21, 22, 25, 23, 24, 33, 29, 30, 31, 32]⟩, ⟨(some 114), (.mov (.tmp 14)), (some (112, true)), [35, 34, 28, 27, 19, 18, 12, 11, 5, 4, 2, 1, 0, 3, 10, 6, 7, 8, 9, 17, 13, 14, 15, 16, 26, 20, 21, 22, 25, 23, 24, 33, 29, 30, 31, 32]⟩, ⟨(some 115), (.mov (.tmp 15)), (some (112, true)), [35, 34, 28, 27, 19, 18, 12, 11, 5, 4, 2, 1, 0, 3, 10, 6, 7, 8, 9, 17, 13, 14, 15, 16, 26, 20, 21, 22, 25, 23, 24, 33, 29, 30, 31, 32]⟩, ⟨(some 116), (.mov (.tmp 19)), (some (112, true)), [35, 34, 28, 27, 19, 18, 12, 11, 5, 4, 2, 1, 0, 3, 10, 6, 7, 8, 9, 17, 13, 14, 15, 16, 26, 20, 21, 22, 25, 23, 24, 33, 29, 30, 31, 32]⟩, ⟨(some 117), (.call (.func 26) [(.tmp 113), (.tmp 114), (.tmp 115), (.tmp 116)]), (some (112, true)), [36, 35, 34, 28, 27, 19, 18, 12, 11, 5, 4, 2, 1, 0, 3, 10, 6, 7, 8, 9, 17, 13, 14, 15, 16, 26, 20, 21, 22, 25, 23, 24, 33, 29, 30, 31, 32, 37, 38, 39]⟩, ⟨(some 118), (.pick (.tmp 112) (.tmp 117) (.const (.bool false))), none, [35, 34, 28, 27, 19, 18, 12, 11, 5, 4, 2, 1, 0, 3, 10, 6, 7, 8, 9, 17, 13, 14, 15, 16, 26, 20, 21, 22, 25, 23, 24, 33, 29, 30, 31, 32, 40, 36, 37, 38, 39]⟩, ⟨(some 119), (.mov (.tmp 118)), none, [41, 35, 34, 28, 27, 19, 18, 12, 11, 5, 4, 2, 1, 0, 3, 10, 6, 7, 8, 9, 17, 13, 14, 15, 16, 26, 20, 21, 22, 25, 23, 24, 33, 29, 30, 31, 32, 40, 36, 37, 38, 39]⟩, ⟨(some 120), (.call (.func 13) []), (some (119, true)), [42, 41, 35, 34, 28, 27, 19, 18, 12, 11, 5, 4, 2, 1, 0, 3, 10, 6, 7, 8, 9, 17, 13, 14, 15, 16, 26, 20, 21, 22, 25, 23, 24, 33, 29, 30, 31, 32, 40, 36, 37, 38, 39]⟩, ⟨(some 121), (.pick (.tmp 119) (.tmp 120) (.const (.bool false))), none, [42, 41, 35, 34, 28, 27, 19, 18, 12, 11, 5, 4, 2, 1, 0, 3, 10, 6, 7, 8, 9, 17, 13, 14, 15, 16, 26, 20, 21, 22, 25, 23, 24, 33, 29, 30, 31, 32, 40, 36, 37, 38, 39, 43]⟩, ⟨(some 4), (.mov (.tmp 121)), none, [44, 42, 41, 35, 34, 28, 27, 19, 18, 12, 11, 5, 4, 2, 1, 0, 3, 10, 6, 7, 8, 9, 17, 13, 14, 15, 16, 26, 20, 21, 22, 25, 23, 24, 33, 29, 30, 31, 32, 40, 36, 37, 38, 39, 43]⟩]) .ret))))))))))))))⟩
theorem dh5 : cProg Go.Proofs.Tryz.prog ⟨[], [], [62]⟩ 5 = some dc5 := by kernel_rfl
end Sh

/-! CurveFields. -/
set_option maxRecDepth 100000
set_option maxHeartbeats 2000000
set_option linter.unusedSimpArgs false
set_option linter.unusedVariables false
namespace Sh
open Go Go.Proofs
theorem okF_of {f : List (List Cel)} (h : decide (chkField f = 0) = true) : OkF f := chkField_zero (of_decide_eq_true h)
theorem okF_of2 {f : List (List Cel)} {e : Int} (h : decide (firstE [chkField f, e] = 0) = true) : OkF f := chkField_zero (firstE_cons (of_decide_eq_true h)).1
theorem crv_len (f : List (List Cel)) (h : OkF f) : (crv f).length < 4611686018427387904 := by have := (crv_ok h).1.1; omega
theorem curveS_len (f : List (List Cel)) : (curveS f).1.length < 4611686018427387904 := by
  by_cases h : chkField f = 0
  · rw [curveS_l h]; exact crv_len f (chkField_zero h)
  · unfold curveS; rw [if_pos h]; exact (by decide : (0 : Nat) < 4611686018427387904)
theorem l_CurveFields (aw : PC 13 [] (.bool true)) (f : List (List Cel)) (v : Int) : PC 5 [fld f, DV.int .i64 (v)] (.bool true) := by
  refine pureCall_ofR dh5 rfl ?_
  conv => whnf
  repeat' (first
    | (refine ⟨fun hg => ?_, fun hg => ?_⟩ <;> first | contradiction | (conv => whnf))
    | (refine Or.inl ?_; conv => whnf)
    | (refine ⟨_, r_ShortField .., ?_⟩; conv => whnf)
    | (refine ⟨_, aw .., ?_⟩; conv => whnf)
    | (refine And.intro ?_ ?_; kernel_rfl; conv => whnf))
  · rfl
  have hs := shortF_spec (f := f) (by simpa using hg)
  have hl := hs.2.2
  clear hg
  have k1 := l_field f hl
  have k2 := c_End f hl
  have k3 := c_FieldCurrent f v hl
  have k4 := c_Power f v hl
  have k5 := c_Curve f hl
  have k6 := c_Mismatch f hl
  have k7 := r_CheckField f hl.1 hl.2
  have k8 := c_CheckField f hl.1 hl.2
  have hP : ∀ h : decide (firstE [chkField f, withE v 0 800] = 0) = true, IntKind.i64.wrap (v * curF f v) = v * curF f v := fun h => by
    have hF := okF_of2 h
    have hv := withE_zero (firstE_cons (firstE_cons (of_decide_eq_true h)).2).1
    have hc := curF_bd f hF.2.1 v
    have := mul_bd (a := v) (b := curF f v) (A := 800) (B := 1200) (by omega) (by omega) (by omega) (by omega)
    exact W_in (by omega) (by omega)
  have k10 := fun h => l_resI (chkField f) (endF f) 0 (endS f) rfl (fun e => absurd e (of_decide_eq_false h))
  have k11 := l_resI (chkField f) (endF f) (endF f) (endS f) rfl (fun _ => rfl)
  have k12 := fun h => l_resI (firstE [chkField f, withE v 0 800]) (curF f v) 0 (fcurS f v) rfl (fun e => absurd e (of_decide_eq_false h))
  have k13 := l_resI (firstE [chkField f, withE v 0 800]) (curF f v) (curF f v) (fcurS f v) rfl (fun _ => rfl)
  have k14 := fun h x => l_resI (firstE [chkField f, withE v 0 800]) (v * curF f v) x (powS f v) rfl (fun e => absurd e (of_decide_eq_false h))
  have k15 := fun h => l_resI (firstE [chkField f, withE v 0 800]) (v * curF f v) (IntKind.i64.wrap (v * curF f v)) (powS f v) rfl (fun _ => hP h)
  have k16 := fun h => l_resL (chkField f) (crv f) [] (curveS f) rfl (curveS_len f) (fun e => absurd e (of_decide_eq_false h))
  have k17 := l_resL (chkField f) (crv f) (crv f) (curveS f) rfl (curveS_len f) (fun _ => rfl)
  have k18 := fun h => l_resI (chkField f) (misF f) 0 (misS f) rfl (fun e => absurd e (of_decide_eq_false h))
  have k19 := l_resI (chkField f) (misF f) (misF f) (misS f) rfl (fun _ => rfl)
  have k20 : ∀ {P : Prop}, decide (chkField f = chkField f) = !true → P := fun h => by rw [decide_eq_true rfl] at h; cases h
  repeat' (first
    | (refine ⟨fun hg => ?_, fun hg => ?_⟩ <;> first | contradiction | (conv => whnf))
    | (refine Or.inl ?_; conv => whnf)
    | (refine ⟨_, k1, ?_⟩; conv => whnf)
    | (refine ⟨_, k2, ?_⟩; conv => whnf)
    | (refine ⟨_, k3, ?_⟩; conv => whnf)
    | (refine ⟨_, k4, ?_⟩; conv => whnf)
    | (refine ⟨_, k5, ?_⟩; conv => whnf)
    | (refine ⟨_, k6, ?_⟩; conv => whnf)
    | (refine ⟨_, k7, ?_⟩; conv => whnf)
    | (refine ⟨_, k8, ?_⟩; conv => whnf)
    | (refine ⟨_, r_CheckVolt .., ?_⟩; conv => whnf)
    | (refine ⟨_, l_first [_, _] (by simp), ?_⟩; conv => whnf)
    | (refine ⟨_, r_End _ (okF_of (by assumption)), ?_⟩; conv => whnf)
    | (refine ⟨_, r_Curve _ (okF_of (by assumption)), ?_⟩; conv => whnf)
    | (refine ⟨_, r_Mismatch _ (okF_of (by assumption)), ?_⟩; conv => whnf)
    | (refine ⟨_, r_FieldCurrent _ _ (okF_of2 (by assumption)), ?_⟩; conv => whnf)
    | (refine ⟨_, k10 (by assumption), ?_⟩; conv => whnf)
    | (refine ⟨_, k11, ?_⟩; conv => whnf)
    | (refine ⟨_, k12 (by assumption), ?_⟩; conv => whnf)
    | (refine ⟨_, k13, ?_⟩; conv => whnf)
    | (refine ⟨_, k14 (by assumption) _, ?_⟩; conv => whnf)
    | (refine ⟨_, k15 (by assumption), ?_⟩; conv => whnf)
    | (refine ⟨_, k16 (by assumption), ?_⟩; conv => whnf)
    | (refine ⟨_, k17, ?_⟩; conv => whnf)
    | (refine ⟨_, k18 (by assumption), ?_⟩; conv => whnf)
    | (refine ⟨_, k19, ?_⟩; conv => whnf)
    | (refine ⟨_, aw .., ?_⟩; conv => whnf)
    | (refine And.intro ?_ ?_; kernel_rfl; conv => whnf))
  all_goals (first
    | rfl
    | exact k20 (by assumption)
    | trace_state)
end Sh

/-! What the cards of chapter 4 have in common: the arguments, the package-level variables, what the post asks. -/
set_option maxRecDepth 100000
set_option linter.unusedVariables false
namespace Sh
open Go Go.Proofs Go.Proofs.YtbkginjiknnobaaGreatDoor
section
open Go.RowKit Go.WideShapes Go.ChangeShapes
variable {H : Type} {enc : TypeId × Value → H} {P : Program}
theorem postOfBelow {f : Func} {s : ChangeSpec} {apart fresh handsOn again : Bool} {W W' : World} {args : Array Value} {v : Value} {ds gs : List (DataW H)} {before pa pv : List MemPlace}
    (hW : DataW.Whole enc P f.params.toList s.vars apart W args.toList ds gs before)
    (hres : ∀ (b : Nat) (sp : Nat → Bool) (hd : Bool), DataW.TrodAll enc P W' b sp hd f.resultTypes.toList (v.resultList f.resultTypes.size) (s.fn H (ds ++ gs)).results [])
    (hargs : ∀ sp : Nat → Bool, (∀ p ∈ before, sp p.block = true) → DataW.TrodAll enc P W' 0 sp true f.params.toList args.toList (s.fn H (ds ++ gs)).args pa)
    (hvars : ∀ sp : Nat → Bool, (∀ p ∈ before, sp p.block = true) → DataW.TrodVars enc P W' sp s.vars (s.fn H (ds ++ gs)).vars pv)
    (hps : before = pa ++ pv) (hb : Below W.heap.size W W')
    (hok : ∀ (j : Nat) (t : TypeId) (r : Value), f.resultTypes[j]? = some t → (v.resultList f.resultTypes.size)[j]? = some r → Value.okWide P W' .any 0 t r) :
    s.post enc P f apart fresh handsOn again W args v W' := by
  have hlt : ∀ p ∈ before, p.block < W.heap.size := fun p hp => hW.lt p hp
  have hold : ∀ p ∈ before, (fun b => decide (b < W.heap.size)) p.block = true := fun p hp => by simpa using hlt p hp
  refine ⟨ds, gs, before, [], pa, pv, hW, hres _ _ _, hargs _ hold, hvars _ hold, World.keptBut_mono (fun p hp => ⟨hp, ?_⟩) (hb.frame (· ∈ before)), fun _ => ?_⟩
  · rw [hps, List.mem_append] at hp
    exact Or.inr hp
  · obtain ⟨_, _, _, _, _, hz, hn⟩ := hW
    refine ⟨hok, _, _, ([] ++ pa) ++ pv, ⟨[] ++ pa, pv, trodAll_append (hargs _ (fun _ _ => rfl)) (hres _ _ _), hvars _ (fun _ _ => rfl), rfl, ?_, ?_⟩, ?_⟩
    · intro b off hp
      have hin : MemPlace.cell b off ∈ before := by rw [hps]; simpa using hp
      rw [hb.frozen (hlt _ hin)]
      exact hz b off hin
    · intro ha
      have := hn ha
      rw [hps] at this
      simpa using this
    · intro p hp _
      rw [hps]
      simpa using hp
/-- All arguments read as before. -/
theorem trodAll_stays (hl : laidOutB P = true) {W W' : World} (hb : Below W.heap.size W W') {sp : Nat → Bool} : ∀ {ts : List TypeId} {vs : List Value} {ds : List (DataW H)} {ps : List MemPlace}, DataW.TrodAll enc P W 0 (fun _ => true) true ts vs ds ps →
    (ts.all fun t => P.readableRec t && decide (t < P.types.size)) = true → (∀ p ∈ ps, p.block < W.heap.size) → (∀ p ∈ ps, sp p.block = true) → DataW.TrodAll enc P W' 0 sp true ts vs ds ps
  | [], _, _, _, h, _, _, _ => by
    obtain ⟨rfl, rfl, rfl⟩ := trodAll_nil h
    rfl
  | t :: ts, _, _, _, h, ht, hlt, hsp => by
    obtain ⟨v, vs, d, ds, p, q, rfl, rfl, rfl, h1, h2⟩ := trodAll_cons h
    rw [List.all_cons, Bool.and_eq_true, Bool.and_eq_true] at ht
    exact trodAll_cons_mk (WideElems.Trod_stays hl ht.1.1 (of_decide_eq_true ht.1.2) h1 (fun x hx => hb.same (hlt x (by simp [hx]))) (fun x hx => hsp x (by simp [hx])))
      (trodAll_stays hl hb h2 ht.2 (fun x hx => hlt x (by simp [hx])) (fun x hx => hsp x (by simp [hx])))
end
theorem A_laid : laidOutB Tryz.prog = true := by kernel_rfl
theorem own : ownKnob Tryz.prog.godebug = none := by kernel_rfl
theorem cl3 : Tryz.prog.cellsOf 3 = 1 := by kernel_rfl
theorem cl9 : Tryz.prog.cellsOf 9 = 1 := by kernel_rfl
theorem cl114 : Tryz.prog.cellsOf 114 = 1 := by kernel_rfl
theorem cl23 : Tryz.prog.cellsOf 23 = 1 := by kernel_rfl
theorem cl25 : Tryz.prog.cellsOf 25 = 3 := by kernel_rfl
theorem cl48 : Tryz.prog.cellsOf 48 = 1 := by kernel_rfl
theorem cl108 : Tryz.prog.cellsOf 108 = 2 := by kernel_rfl
theorem cl165 : Tryz.prog.cellsOf 165 = 2 := by kernel_rfl
theorem cl166 : Tryz.prog.cellsOf 166 = 10 := by kernel_rfl
section
variable {H : Type} {enc : TypeId × Value → H} {W : World}
theorem opPt : Opens enc Tryz.prog W 108 (fun p : Pt => (encPt p).cells) (fun _ => True) :=
  (opens_struct2 Tryz.underlying108 1 1 cl3 cl3 cl108 rfl rfl (opens_int Tryz.underlying3) (opens_int Tryz.underlying3)).map (fun a => Pt.mk a.1 a.2) (fun _ => rfl) (fun _ _ => trivial)
theorem opTbl : Opens enc Tryz.prog W 23 (fun t : List Pt => [tbl t]) (fun t => t.length ≤ maxLen) :=
  (opens_slice Tryz.underlying23 2 cl108 (by decide) opPt).map id (fun _ => rfl) (fun _ h => h.1)
theorem opCel : Opens enc Tryz.prog W 25 (fun c : Cel => (encC c).cells) (fun _ => True) :=
  (opens_struct3 Tryz.underlying25 1 1 1 cl23 cl3 cl3 cl25 rfl rfl rfl opTbl (opens_int Tryz.underlying3) (opens_int Tryz.underlying3)).map (fun a => Cel.mk a.1 a.2.1 a.2.2) (fun _ => rfl) (fun _ _ => trivial)
theorem opChn : Opens enc Tryz.prog W 48 (fun l : List Cel => [chn l]) (fun l => l.length ≤ maxLen) :=
  (opens_slice Tryz.underlying48 3 cl25 (by decide) opCel).map id (fun _ => rfl) (fun _ h => h.1)
theorem opFld : Opens enc Tryz.prog W 62 (fun f : List (List Cel) => [fld f]) (fun f => f.length ≤ maxLen) :=
  (opens_slice Tryz.underlying62 1 cl48 (by decide) (f := chn) opChn).map id (fun _ => rfl) (fun _ h => h.1)
theorem opInts : Opens enc Tryz.prog W 53 (fun l : List Int => [iL l]) (fun l => l.length ≤ maxLen) :=
  (opens_slice Tryz.underlying53 1 cl3 (by decide) (f := DV.int .i64) (opens_int Tryz.underlying3)).map id (fun _ => rfl) (fun _ h => h.1)
end
theorem relL_ints {M : Mem} {k : IntKind} (zs : List Int) : RelL M (zs.map (DV.int k)) (zs.map fun z => Value.int k z) := by
  refine ⟨by simp, fun i hi => ?_⟩
  rw [List.length_map] at hi
  have e1 : (zs.map (DV.int k)).getD i .undef = .int k zs[i] := by simp [List.getD_eq_getElem?_getD, hi]
  have e2 : (zs.map fun z => Value.int k z).getD i Go.undef = .int k zs[i] := by simp [List.getD_eq_getElem?_getD, hi]
  rw [e1, e2]
  exact .int _ _
theorem known_word {W : World} (s : List UInt8) {b : UInt8} {r : List UInt8} {f0 : FuncId} (hone : ((List.range Tryz.prog.funcs.size).filter fun f => (Tryz.prog.funcs[f]?).any (·.name.toUTF8.data.toList == b :: r)) = [f0]) :
    Known (funcToken Tryz.prog) Tryz.prog W 165 (.agg [.lit (.string s), .held (b :: r)]) [.str s, .func f0 []] :=
  known_struct2 (d0 := [.str s]) (d1 := [.func f0 []]) Tryz.underlying165 1 1 cl9 cl114 cl165 rfl rfl (known_string Tryz.underlying9 s) (known_func Tryz.underlying114 hone)
def wName (k : UInt8) : List UInt8 := [111, 109, 98, 105, 110, 101, 114, 47, 99, 117, 114, 118, 101, 46, 119, 111, 114, 100, 115, 36, k]
def wordsX : List (DataW (List UInt8)) := [.agg [.lit (.string [115, 97, 109, 101]), .held (99 :: wName 49)], .agg [.lit (.string [109, 111, 114, 101]), .held (99 :: wName 50)], .agg [.lit (.string [111, 112, 101, 110]), .held (99 :: wName 51)], .agg [.lit (.string [100, 97, 114, 107]), .held (99 :: wName 52)], .agg [.lit (.string [98, 121, 112, 97, 115, 115, 101, 100]), .held (99 :: wName 53)]]
def wordsD : List (List DV) := [[.str [115, 97, 109, 101], .func 190 []], [.str [109, 111, 114, 101], .func 192 []], [.str [111, 112, 101, 110], .func 193 []], [.str [100, 97, 114, 107], .func 194 []], [.str [98, 121, 112, 97, 115, 115, 101, 100], .func 195 []]]
theorem known_words {W : World} : Known (funcToken Tryz.prog) Tryz.prog W 166 (.agg wordsX) wordsD.flatten := by
  refine known_array (c := 2) Tryz.underlying166 cl165 cl166 rfl ?_
  intro i x ds e1 e2
  match i, e1, e2 with
  | 0, e1, e2 => cases Option.some.inj e1; cases Option.some.inj e2; exact known_word _ (by kernel_rfl)
  | 1, e1, e2 => cases Option.some.inj e1; cases Option.some.inj e2; exact known_word _ (by kernel_rfl)
  | 2, e1, e2 => cases Option.some.inj e1; cases Option.some.inj e2; exact known_word _ (by kernel_rfl)
  | 3, e1, e2 => cases Option.some.inj e1; cases Option.some.inj e2; exact known_word _ (by kernel_rfl)
  | 4, e1, e2 => cases Option.some.inj e1; cases Option.some.inj e2; exact known_word _ (by kernel_rfl)
def laidC : List (String × DataW Unit) := Rows.curveCellsRow.laid
theorem words_at {W : World} (h : laidMetH Tryz.prog laidC W) : ∃ cs : Array Value, W.var? Tryz.prog "combiner/curve.words" = some cs ∧ RelL (memOf W) wordsD.flatten cs.toList := by
  obtain ⟨g, t, cs, fuel, p, hg, ht, hv, hd⟩ := h.funcs (n := "combiner/curve.words") (.tail _ (.tail _ (.tail _ (.head _))))
  obtain rfl := Option.some.inj ((show Tryz.prog.globalNamed "combiner/curve.words" = some 0 by kernel_rfl).symm.trans hg)
  obtain rfl := Option.some.inj ((show (Tryz.prog.globals[0]?).map (·.type) = some 166 by kernel_rfl).symm.trans ht)
  have hd' : DataW.trod (funcToken Tryz.prog) Tryz.prog W 0 (fun _ => true) true fuel 166 cs.toList = some (.agg wordsX, p) := hd
  exact ⟨cs, hv, known_words _ _ _ _ _ hd'⟩
theorem pow_at {W : World} (h : laidMetH Tryz.prog laidC W) : Lib.TabIs Tryz.prog W "internal/strconv.uint64pow10" .u64 Lib.pow10Tab := by
  have h1 := h.filter fun x => x.1 == "internal/strconv.uint64pow10"
  have e : (laidC.filter fun x => x.1 == "internal/strconv.uint64pow10") = [("internal/strconv.uint64pow10", Lib.tabData .u64 Lib.pow10Tab)] := by kernel_rfl
  rw [e, MakeChecks.laidMetH_plain _ _ _ (by kernel_rfl)] at h1
  exact Lib.tabIs_of_head (g := 2) (t := 212) (e := 203) (n := 20) (by kernel_rfl) (by kernel_rfl) Tryz.underlying212 Tryz.underlying203 (by kernel_rfl) (by kernel_rfl) h1
theorem gokC {W : World} (h : laidMetH Tryz.prog laidC W) : GOk GC (memOf W) ∧ Tabs GC W := by
  obtain ⟨cs, hv, hr⟩ := words_at h
  have hp := pow_at h
  unfold Lib.TabIs at hp
  have g0 : Tryz.prog.globalNamed "combiner/curve.words" = some 0 := by kernel_rfl
  have g2 : Tryz.prog.globalNamed "internal/strconv.uint64pow10" = some 2 := by kernel_rfl
  refine ⟨fun g d hg => ?_, fun g d hg => ?_⟩
  all_goals unfold GC at hg
  all_goals split at hg
  · next e =>
    subst e
    obtain rfl := Option.some.inj hg
    exact gok_of (cs := cs) (fun i => World.var?_cell g0 hv i) hr
  · split at hg
    · next e =>
      subst e
      obtain rfl := Option.some.inj hg
      exact gok_of (fun i => World.var?_cell g2 hp i) (by simpa using relL_ints Lib.pow10Tab)
    · cases hg
  · next e =>
    subst e
    obtain rfl := Option.some.inj hg
    rw [len_of g0 hv, ← Array.length_toList, ← hr.1]
    rfl
  · split at hg
    · next e =>
      subst e
      obtain rfl := Option.some.inj hg
      rw [len_of g2 hp]
      rfl
    · cases hg
end Sh
