/-
  Chapter 4's functions, walked over pure data: the library of the walk, the functions' code over data, and what each computes. (part 6)
-/
import Derived.Test.YtbkginjiknnobaaDoorP5
import Derived.Test.YtbkginjiknnobaaDoorProg
import Derived.Test.YtbkginjiknnobaaDoorRows
import Derived.Test.YtbkginjiknnobaaDoorCards
import Derived.Test.YtbkginjiknnobaaDoorTie
import Derived.ProofKit
import Derived.Carry
import Derived.ChangeSame
import Derived.OpenShut
import Derived.Stop.Joined
import Derived.Deep.DeepHandedRow
import Derived.Lib.LaidTab
import Derived.MakeChecks
import Derived.LaidSub
import Derived.LaidHandle
set_option linter.unusedVariables false
set_option linter.unusedSimpArgs false
set_option maxRecDepth 100000
namespace Sh
open Go
def dc6 : DFunc := ⟨25, 2, [(.tmp 4)], (.seq (.ops false [⟨(some 4), (.mov (.const (.int .i64 0))), none, []⟩]) (.seq (.ops false [⟨(some 5), (.mov (.tmp 0)), none, []⟩, ⟨(some 6), (.len (.tmp 5)), none, [0]⟩, ⟨(some 7), (.bin .eql (.tmp 6) (.const (.int .i64 0))), none, [1, 0]⟩, ⟨(some 8), (.call (.func 34) [(.tmp 7), (.const (.int .i64 12))]), none, [2, 1, 0]⟩, ⟨(some 9), (.mov (.tmp 0)), none, []⟩, ⟨(some 10), (.len (.tmp 9)), none, [4]⟩, ⟨(some 11), (.bin .gtr (.tmp 10) (.const (.int .i64 801))), none, [5, 4]⟩, ⟨(some 12), (.call (.func 34) [(.tmp 11), (.const (.int .i64 5))]), none, [6, 5, 4, 3, 2, 1, 0]⟩, ⟨(some 13), (.mov (.tmp 0)), none, []⟩, ⟨(some 14), (.call (.func 35) [(.tmp 13)]), none, [8, 7, 6, 5, 4, 3, 2, 1, 0]⟩, ⟨(some 15), (.mov (.tmp 1)), none, []⟩, ⟨(some 16), (.len (.tmp 15)), none, [10]⟩, ⟨(some 17), (.mov (.tmp 0)), none, []⟩, ⟨(some 18), (.len (.tmp 17)), none, [12]⟩, ⟨(some 19), (.bin .neq (.tmp 16) (.tmp 18)), none, [11, 10, 13, 12]⟩, ⟨(some 20), (.call (.func 34) [(.tmp 19), (.const (.int .i64 2))]), none, [14, 11, 10, 13, 12, 9, 8, 7, 6, 5, 4, 3, 2, 1, 0]⟩, ⟨(some 21), (.mov (.tmp 1)), none, []⟩, ⟨(some 22), (.call (.func 35) [(.tmp 21)]), none, [16, 15, 14, 11, 10, 13, 12, 9, 8, 7, 6, 5, 4, 3, 2, 1, 0]⟩, ⟨(some 23), (.lit true 1 5 (.int .i64 0) [(0, (.tmp 8)), (1, (.tmp 12)), (2, (.tmp 14)), (3, (.tmp 20)), (4, (.tmp 22))]), none, [3, 2, 1, 0, 7, 6, 5, 4, 9, 8, 15, 14, 11, 10, 13, 12, 17, 16]⟩, ⟨(some 24), (.call (.func 33) [(.tmp 23)]), none, [18, 3, 2, 1, 0, 7, 6, 5, 4, 9, 8, 15, 14, 11, 10, 13, 12, 17, 16]⟩, ⟨(some 4), (.mov (.tmp 24)), none, [19, 18, 3, 2, 1, 0, 7, 6, 5, 4, 9, 8, 15, 14, 11, 10, 13, 12, 17, 16]⟩]) .ret))⟩
theorem dh6 : cProg Go.Proofs.Tryd.prog ⟨[], [], [23]⟩ 6 = some dc6 := by kernel_rfl
def db7_0 : DC := (.seq (.seq (.ops false [⟨(some 10), (.mov (.tmp 6)), none, []⟩, ⟨(some 11), (.mov (.tmp 1)), none, []⟩, ⟨(some 12), (.len (.tmp 11)), none, [1]⟩, ⟨(some 13), (.bin .lss (.tmp 10) (.tmp 12)), none, [0, 2, 1]⟩]) (.cond (.tmp 13) .skip (.exit 0))) (.seq (.block 1 none (.seq (.seq (.ops true [⟨(some 16), (.mov (.tmp 1)), none, []⟩, ⟨(some 17), (.mov (.tmp 6)), none, []⟩, ⟨(some 18), (.iaddr 1 (.tmp 16) (.tmp 17)), none, [0, 1]⟩, ⟨(some 19), (.load none (.tmp 18)), none, [2, 0, 1]⟩, ⟨(some 20), (.mov (.tmp 0)), none, []⟩, ⟨(some 21), (.mov (.tmp 6)), none, []⟩, ⟨(some 22), (.iaddr 1 (.tmp 20) (.tmp 21)), none, [4, 5]⟩, ⟨(some 23), (.load none (.tmp 22)), none, [6, 4, 5]⟩, ⟨(some 24), (.bin .gtr (.tmp 19) (.tmp 23)), none, [3, 2, 0, 1, 7, 6, 4, 5]⟩]) (.cond (.tmp 24) (.seq (.ops false [⟨(some 4), (.mov (.const (.string ⟨#[109, 111, 114, 101]⟩))), none, []⟩]) .ret) .skip)) (.ops false [⟨(some 25), (.mov (.tmp 5)), none, []⟩, ⟨(some 26), (.mov (.tmp 25)), none, [0]⟩, ⟨(some 27), (.mov (.tmp 1)), (some (26, true)), [1, 0]⟩, ⟨(some 28), (.mov (.tmp 6)), (some (26, true)), [1, 0]⟩, ⟨(some 29), (.iaddr 1 (.tmp 27) (.tmp 28)), (some (26, true)), [2, 1, 0, 3]⟩, ⟨(some 30), (.load none (.tmp 29)), (some (26, true)), [4, 2, 1, 0, 3]⟩, ⟨(some 31), (.bin .eql (.tmp 30) (.const (.int .i64 0))), (some (26, true)), [5, 4, 2, 1, 0, 3]⟩, ⟨(some 32), (.pick (.tmp 26) (.tmp 31) (.const (.bool false))), none, [1, 0, 6, 5, 4, 2, 3]⟩, ⟨(some 5), (.mov (.tmp 32)), none, [7, 1, 0, 6, 5, 4, 2, 3]⟩]))) (.ops false [⟨(some 14), (.mov (.tmp 6)), none, []⟩, ⟨(some 15), (.bin .add (.tmp 14) (.const (.int .i64 1))), none, [0]⟩, ⟨(some 6), (.mov (.tmp 15)), none, [1, 0]⟩])))
def dk7_0 : Keep := ⟨[], [0, 1, 5, 6], []⟩
def dc7 : DFunc := ⟨41, 2, [(.tmp 4)], (.seq (.ops false [⟨(some 4), (.mov (.const (.string ⟨#[]⟩))), none, []⟩]) (.seq (.seq (.ops false [⟨(some 7), (.mov (.tmp 0)), none, []⟩, ⟨(some 8), (.mov (.tmp 1)), none, []⟩, ⟨(some 9), (.call (.func 19) [(.tmp 7), (.tmp 8)]), none, [0, 1]⟩]) (.cond (.tmp 9) (.seq (.ops false [⟨(some 4), (.mov (.const (.string ⟨#[115, 97, 109, 101]⟩))), none, []⟩]) .ret) .skip)) (.seq (.ops false [⟨(some 5), (.mov (.const (.bool true))), none, []⟩]) (.seq (.seq (.ops false [⟨(some 6), (.mov (.const (.int .i64 0))), none, []⟩]) (.block 0 (some ⟨[], [0, 1, 5], []⟩) (.loop dk7_0 db7_0))) (.seq (.seq (.ops false [⟨(some 33), (.mov (.tmp 5)), none, []⟩]) (.cond (.tmp 33) (.seq (.ops false [⟨(some 4), (.mov (.const (.string ⟨#[111, 112, 101, 110]⟩))), none, []⟩]) .ret) .skip)) (.seq (.seq (.ops true [⟨(some 34), (.mov (.tmp 1)), none, []⟩, ⟨(some 35), (.iaddr 1 (.tmp 34) (.const (.int .i64 0))), none, [0]⟩, ⟨(some 36), (.load none (.tmp 35)), none, [1, 0]⟩, ⟨(some 37), (.mov (.tmp 0)), none, []⟩, ⟨(some 38), (.iaddr 1 (.tmp 37) (.const (.int .i64 0))), none, [3]⟩, ⟨(some 39), (.load none (.tmp 38)), none, [4, 3]⟩, ⟨(some 40), (.bin .lss (.tmp 36) (.tmp 39)), none, [2, 1, 0, 5, 4, 3]⟩]) (.cond (.tmp 40) (.seq (.ops false [⟨(some 4), (.mov (.const (.string ⟨#[100, 97, 114, 107]⟩))), none, []⟩]) .ret) .skip)) (.seq (.ops false [⟨(some 4), (.mov (.const (.string ⟨#[98, 121, 112, 97, 115, 115, 101, 100]⟩))), none, []⟩]) .ret)))))))⟩
theorem dh7 : cProg Go.Proofs.Tryd.prog ⟨[(0, ⟨[], [0, 1, 5, 6], []⟩)], [(0, ⟨[], [0, 1, 5], []⟩)], []⟩ 7 = some dc7 := by kernel_rfl
def db35_0 : DC := (.seq (.seq (.ops false [⟨(some 5), (.mov (.tmp 3)), none, []⟩, ⟨(some 6), (.mov (.tmp 0)), none, []⟩, ⟨(some 7), (.len (.tmp 6)), none, [1]⟩, ⟨(some 8), (.bin .lss (.tmp 5) (.tmp 7)), none, [0, 2, 1]⟩]) (.cond (.tmp 8) .skip (.exit 0))) (.seq (.block 1 none (.seq (.ops false [⟨(some 11), (.mov (.tmp 0)), none, []⟩, ⟨(some 12), (.mov (.tmp 3)), none, []⟩, ⟨(some 13), (.iaddr 1 (.tmp 11) (.tmp 12)), none, [0, 1]⟩, ⟨(some 14), (.load none (.tmp 13)), none, [2, 0, 1]⟩, ⟨(some 15), (.call (.func 58) [(.tmp 14), (.const (.int .i64 0)), (.const (.int .i64 1200))]), none, [3, 2, 0, 1]⟩, ⟨(some 4), (.mov (.tmp 15)), none, [4, 3, 2, 0, 1]⟩]) (.seq (.ops false [⟨(some 16), (.mov (.tmp 4)), none, []⟩, ⟨(some 17), (.bin .neq (.tmp 16) (.const (.int .i64 0))), none, [0]⟩]) (.cond (.tmp 17) (.seq (.ops false [⟨(some 18), (.mov (.tmp 4)), none, []⟩, ⟨(some 2), (.mov (.tmp 18)), none, [0]⟩]) .ret) .skip)))) (.ops false [⟨(some 9), (.mov (.tmp 3)), none, []⟩, ⟨(some 10), (.bin .add (.tmp 9) (.const (.int .i64 1))), none, [0]⟩, ⟨(some 3), (.mov (.tmp 10)), none, [1, 0]⟩])))
def dk35_0 : Keep := ⟨[], [0, 3], []⟩
def dc35 : DFunc := ⟨19, 1, [(.tmp 2)], (.seq (.ops false [⟨(some 2), (.mov (.const (.int .i64 0))), none, []⟩]) (.seq (.seq (.ops false [⟨(some 3), (.mov (.const (.int .i64 0))), none, []⟩]) (.block 0 (some ⟨[], [], []⟩) (.loop dk35_0 db35_0))) (.seq (.ops false [⟨(some 2), (.mov (.const (.int .i64 0))), none, []⟩]) .ret)))⟩
theorem dh35 : cProg Go.Proofs.Tryd.prog ⟨[(0, ⟨[], [0, 3], []⟩)], [(0, ⟨[], [], []⟩)], []⟩ 35 = some dc35 := by kernel_rfl
end Sh

set_option maxRecDepth 100000
namespace Sh
open Go
def dc3 : DFunc := ⟨57, 2, [(.tmp 4)], (.seq (.ops false [⟨(some 4), (.mov (.const (.bool false))), none, []⟩]) (.seq (.seq (.ops false [⟨(some 9), (.mov (.tmp 0)), none, []⟩, ⟨(some 10), (.len (.tmp 9)), none, [0]⟩, ⟨(some 11), (.bin .gtr (.tmp 10) (.const (.int .i64 40))), none, [1, 0]⟩, ⟨(some 12), (.mov (.tmp 11)), none, [2, 1, 0]⟩, ⟨(some 13), (.mov (.tmp 0)), (some (12, true)), [3, 2, 1, 0]⟩, ⟨(some 14), (.len (.tmp 13)), (some (12, true)), [4, 3, 2, 1, 0]⟩, ⟨(some 15), (.bin .neq (.tmp 14) (.const (.int .i64 802))), (some (12, true)), [5, 4, 3, 2, 1, 0]⟩, ⟨(some 16), (.pick (.tmp 12) (.tmp 15) (.const (.bool false))), none, [3, 2, 1, 0, 6, 5, 4]⟩, ⟨(some 17), (.mov (.tmp 16)), none, [7, 3, 2, 1, 0, 6, 5, 4]⟩, ⟨(some 18), (.mov (.tmp 1)), (some (17, false)), [8, 7, 3, 2, 1, 0, 6, 5, 4]⟩, ⟨(some 19), (.len (.tmp 18)), (some (17, false)), [9, 8, 7, 3, 2, 1, 0, 6, 5, 4]⟩, ⟨(some 20), (.bin .gtr (.tmp 19) (.const (.int .i64 40))), (some (17, false)), [10, 9, 8, 7, 3, 2, 1, 0, 6, 5, 4]⟩, ⟨(some 21), (.mov (.tmp 20)), (some (17, false)), [11, 10, 9, 8, 7, 3, 2, 1, 0, 6, 5, 4]⟩, ⟨(some 22), (.mov (.tmp 1)), (some (21, true)), [12, 11, 10, 9, 8, 7, 3, 2, 1, 0, 6, 5, 4]⟩, ⟨(some 23), (.len (.tmp 22)), (some (21, true)), [13, 12, 11, 10, 9, 8, 7, 3, 2, 1, 0, 6, 5, 4]⟩, ⟨(some 24), (.bin .neq (.tmp 23) (.const (.int .i64 802))), (some (21, true)), [14, 13, 12, 11, 10, 9, 8, 7, 3, 2, 1, 0, 6, 5, 4]⟩, ⟨(some 25), (.pick (.tmp 21) (.tmp 24) (.const (.bool false))), (some (17, false)), [12, 11, 10, 9, 8, 7, 3, 2, 1, 0, 6, 5, 4, 15, 14, 13]⟩, ⟨(some 26), (.pick (.tmp 17) (.const (.bool true)) (.tmp 25)), none, [8, 7, 3, 2, 1, 0, 6, 5, 4, 16, 12, 11, 10, 9, 15, 14, 13]⟩]) (.cond (.tmp 26) (.seq (.ops false [⟨(some 27), (.call (.func 4) []), none, []⟩, ⟨(some 4), (.mov (.tmp 27)), none, [0]⟩]) .ret) .skip)) (.seq (.ops false [⟨(some 29), (.lit true 1 0 (.int .i64 0) []), none, []⟩, ⟨(some 30), (.mov (.tmp 0)), none, []⟩, ⟨(some 31), (.append true 1 (.tmp 29) (.tmp 30)), none, [0, 1]⟩, ⟨(some 32), (.lit true 1 0 (.int .i64 0) []), none, []⟩, ⟨(some 33), (.mov (.tmp 1)), none, []⟩, ⟨(some 34), (.append true 1 (.tmp 32) (.tmp 33)), none, [3, 4, 2, 0, 1]⟩, ⟨(some 35), (.call (.func 5) [(.tmp 31), (.tmp 34)]), none, [2, 0, 1, 5, 3, 4]⟩, ⟨(some 28), (.mov (.tmp 35)), none, [6, 2, 0, 1, 5, 3, 4]⟩, ⟨(some 36), (.extract (.tmp 28) 0), none, [7, 6, 2, 0, 1, 5, 3, 4]⟩, ⟨(some 37), (.extract (.tmp 28) 1), none, [7, 6, 2, 0, 1, 5, 3, 4]⟩, ⟨(some 5), (.mov (.tmp 36)), none, [8, 7, 6, 2, 0, 1, 5, 3, 4]⟩, ⟨(some 6), (.mov (.tmp 37)), none, [9, 7, 6, 2, 0, 1, 5, 3, 4, 10, 8]⟩]) (.seq (.ops false [⟨(some 38), (.mov (.tmp 0)), none, []⟩, ⟨(some 39), (.mov (.tmp 1)), none, []⟩, ⟨(some 40), (.call (.func 6) [(.tmp 38), (.tmp 39)]), none, [0, 1]⟩, ⟨(some 7), (.mov (.tmp 40)), none, [2, 0, 1]⟩, ⟨(some 8), (.mov (.const (.string ⟨#[]⟩))), none, [3, 2, 0, 1]⟩]) (.seq (.seq (.ops false [⟨(some 41), (.mov (.tmp 7)), none, []⟩, ⟨(some 42), (.bin .eql (.tmp 41) (.const (.int .i64 0))), none, [0]⟩]) (.cond (.tmp 42) (.ops false [⟨(some 43), (.mov (.tmp 0)), none, []⟩, ⟨(some 44), (.mov (.tmp 1)), none, []⟩, ⟨(some 45), (.call (.func 7) [(.tmp 43), (.tmp 44)]), none, [0, 1]⟩, ⟨(some 8), (.mov (.tmp 45)), none, [2, 0, 1]⟩]) .skip)) (.seq (.ops false [⟨(some 46), (.mov (.tmp 5)), none, []⟩, ⟨(some 47), (.mov (.tmp 8)), none, []⟩, ⟨(some 48), (.bin .eql (.tmp 46) (.tmp 47)), none, [0, 1]⟩, ⟨(some 49), (.mov (.tmp 48)), none, [2, 0, 1]⟩, ⟨(some 50), (.mov (.tmp 6)), (some (49, true)), [3, 2, 0, 1]⟩, ⟨(some 51), (.mov (.tmp 7)), (some (49, true)), [3, 2, 0, 1]⟩, ⟨(some 52), (.bin .eql (.tmp 50) (.tmp 51)), (some (49, true)), [4, 3, 2, 0, 1, 5]⟩, ⟨(some 53), (.pick (.tmp 49) (.tmp 52) (.const (.bool false))), none, [3, 2, 0, 1, 6, 4, 5]⟩, ⟨(some 54), (.mov (.tmp 53)), none, [7, 3, 2, 0, 1, 6, 4, 5]⟩, ⟨(some 55), (.call (.func 4) []), (some (54, true)), [8, 7, 3, 2, 0, 1, 6, 4, 5]⟩, ⟨(some 56), (.pick (.tmp 54) (.tmp 55) (.const (.bool false))), none, [8, 7, 3, 2, 0, 1, 6, 4, 5, 9]⟩, ⟨(some 4), (.mov (.tmp 56)), none, [10, 8, 7, 3, 2, 0, 1, 6, 4, 5, 9]⟩]) .ret))))))⟩
theorem dh3 : cProg Go.Proofs.Tryd.prog ⟨[], [], [29, 31, 32, 34]⟩ 3 = some dc3 := by kernel_rfl
end Sh

/-! Shapes: the reference, and the law (seat D). -/
set_option maxRecDepth 100000
set_option maxHeartbeats 2000000
set_option linter.unusedSimpArgs false
set_option linter.unusedVariables false
namespace Sh
open Go Go.Proofs
theorem r_CheckCurrents (l : List Int) (hl : l.length ≤ 802) : PC 35 [iL l] (DV.int .i64 (chkCur l)) := by
  have e0 : ((l.map (DV.int .i64)).length : Int) = l.length := by simp
  refine pureCall_ofR dh35 rfl ?_
  conv => whnf
  refine dwp_loopR (P := Tryd.prog) (G := GC) (k := dk35_0) (b := db35_0) (α := Nat) (fun i => [(0, iL l), (3, DV.int .i64 (i))]) (fun _ => []) (fun i => i ≤ l.length ∧ chkCur l = firstE ((l.map fun n => withE n 0 1200).drop i)) (fun i => l.length - i) 0 ⟨rfl, rfl, rfl⟩ ⟨Nat.zero_le _, rfl⟩ ?_
  intro i ⟨h1, h2⟩
  conv => whnf
  refine ⟨fun hb => ?_, fun hb => ?_⟩
  · have hi : i < l.length := by simpa using hb
    have hd := firstE_drop (l.map fun n => withE n 0 1200) i (by simpa using hi)
    rw [show (l.map fun n => withE n 0 1200).getD i 0 = withE (l.getD i 0) 0 1200 by simp [List.getD_eq_getElem?_getD, hi]] at hd
    conv => whnf
    rw [getD_enc _ _ (i) 0 hi]
    refine ⟨idxA hi rfl, ?_⟩
    conv => whnf
    repeat' (first
      | (refine ⟨fun hg => ?_, fun hg => ?_⟩ <;> first | contradiction | (conv => whnf))
      | (refine Or.inl ?_; conv => whnf)
      | (refine ⟨_, q_CheckRange .., ?_⟩; conv => whnf)
      | (refine And.intro ?_ ?_; kernel_rfl; conv => whnf))
    · have hg := of_decide_eq_true hg
      exact int_eq (by rw [h2, hd, if_pos hg])
    · have hg := of_decide_eq_false hg
      rw [wrap_succ i (by omega)]
      exact ⟨i + 1, rfl, rfl, rfl, ⟨hi, by rw [h2, hd, if_neg hg]⟩, by omega⟩
  · have hi : i = l.length := by have := of_decide_eq_false hb; rw [e0] at this; omega
    conv => whnf
    exact int_eq (by rw [h2, hi, List.drop_of_length_le (by simp)]; rfl)
theorem first2 (a b : Int) (l : List Int) : firstE (firstE [a, b] :: l) = firstE (a :: b :: l) := by
  simp only [firstE]
  by_cases ha : a = 0
  · by_cases hb : b = 0
    · simp [ha, hb]
    · simp [ha, hb]
  · simp [ha]
theorem r_CheckShape (a b : List Int) (ha : a.length ≤ 802) (hb : b.length ≤ 802) : PC 6 [iL a, iL b] (DV.int .i64 (shE a b)) := by
  have e0 : ((a.map (DV.int .i64)).length : Int) = a.length := by simp
  have e1 : ((b.map (DV.int .i64)).length : Int) = b.length := by simp
  refine pureCall_ofR dh6 rfl ?_
  conv => whnf
  repeat' (first
    | (refine ⟨fun hg => ?_, fun hg => ?_⟩ <;> first | contradiction | (conv => whnf))
    | (refine Or.inl ?_; conv => whnf)
    | (refine ⟨_, q_When .., ?_⟩; conv => whnf)
    | (refine ⟨_, r_CheckCurrents a ha, ?_⟩; conv => whnf)
    | (refine ⟨_, r_CheckCurrents b hb, ?_⟩; conv => whnf)
    | (refine ⟨_, q_First [_, _, _, _, _] (by simp), ?_⟩; conv => whnf)
    | (refine And.intro ?_ ?_; kernel_rfl; conv => whnf))
  refine int_eq ?_
  rw [e0, e1]
  unfold shE countE
  rw [first2]
/-- The name of the shape, as the document finds it. -/
def shW (a b : List Int) : List UInt8 := (wds.getD (shI a b).toNat W0).1
theorem shW_eq (a b : List Int) : shW a b = if a = b then [115, 97, 109, 101] else if moreB a b then [109, 111, 114, 101] else if mxL b = 0 then [111, 112, 101, 110] else if b.getD 0 0 < a.getD 0 0 then [100, 97, 114, 107] else [98, 121, 112, 97, 115, 115, 101, 100] := by
  unfold shW shI wds
  simp only [idxG, wdP]
  by_cases h1 : a = b
  · simp [h1]
  · by_cases h2 : moreB a b = true
    · simp [h1, h2]
    · by_cases h3 : mxL b = 0
      · simp [h1, h2, h3]
      · by_cases h4 : b.getD 0 0 < a.getD 0 0
        · simp only [h1, h2, h3, h4]; rfl
        · simp only [h1, h2, h3, h4]; rfl
def zer (b : List Int) (i : Nat) : Bool := (b.take i).all fun x => decide (x = 0)
theorem zer_succ (b : List Int) (i : Nat) (h : i < b.length) : zer b (i + 1) = (zer b i && decide (b.getD i 0 = 0)) := by
  unfold zer; rw [take_snoc b i 0 h, List.all_append]; simp
theorem mxL_zero {b : List Int} (h : ∀ x ∈ b, 0 ≤ x) : zer b b.length = decide (mxL b = 0) := by
  unfold zer
  rw [List.take_length]
  by_cases e : ∀ x ∈ b, x = 0
  · have h1 : mxL b = 0 := by
      have := mxL_bd (l := b) (B := 0) (Int.le_refl _) (fun x hx => by rw [e x hx]; exact Int.le_refl _)
      omega
    rw [h1, decide_eq_true rfl, List.all_eq_true]
    intro x hx; simpa using e x hx
  · have h1 : mxL b ≠ 0 := fun h0 => e fun x hx => by
      have hge : ∀ (l : List Int) (m : Int), (∀ y ∈ l, y ≤ l.foldl mx m) ∧ m ≤ l.foldl mx m := by
        intro l
        induction l with
        | nil => intro m; exact ⟨fun y hy => by simp at hy, Int.le_refl _⟩
        | cons z r ih =>
          intro m
          have h2 := ih (mx m z)
          have h3 := mx_ge m z
          refine ⟨fun y hy => ?_, by show m ≤ r.foldl mx (mx m z); omega⟩
          show y ≤ r.foldl mx (mx m z)
          rcases List.mem_cons.1 hy with rfl | hy
          · omega
          · exact h2.1 y hy
      have h2 := (hge b 0).1 x hx
      have h3 := h x hx
      unfold mxL at h0
      omega
    rw [decide_eq_false h1, List.all_eq_false]
    have : ∃ x, x ∈ b ∧ ¬ x = 0 := by
      false_or_by_contra
      rename_i hn
      exact e fun x hx => Classical.not_not.1 fun h => hn ⟨x, hx, h⟩
    obtain ⟨x, hx, hn⟩ := this
    exact ⟨x, hx, by simpa using hn⟩
theorem r_Shape (a b : List Int) (h : shE a b = 0) : PC 7 [iL a, iL b] (.str (shW a b)) := by
  have e0 : ((b.map (DV.int .i64)).length : Int) = b.length := by simp
  obtain ⟨ha0, ha, hab, hpos⟩ := shE_ok h
  have hz := mxL_zero hpos
  rw [shW_eq]
  refine pureCall_ofR dh7 rfl ?_
  conv => whnf
  repeat' (first
    | (refine ⟨fun hg => ?_, fun hg => ?_⟩ <;> first | contradiction | (conv => whnf))
    | (refine Or.inl ?_; conv => whnf)
    | (refine ⟨_, q_SameInts a b (by omega), ?_⟩; conv => whnf)
    | (refine And.intro ?_ ?_; kernel_rfl; conv => whnf))
  · have hg := of_decide_eq_true hg
    rw [if_pos hg]; rfl
  have hg := of_decide_eq_false hg
  rw [if_neg hg]
  refine dwp_loopR (P := Tryd.prog) (G := GC) (k := dk7_0) (b := db7_0) (α := Nat) (fun i => [(0, iL a), (1, iL b), (5, .bool (zer b i)), (6, DV.int .i64 (i))]) (fun _ => []) (fun i => i ≤ b.length ∧ moreB a b = moreG a b (b.length - i) i) (fun i => b.length - i) 0 ⟨rfl, rfl, rfl⟩ ⟨Nat.zero_le _, rfl⟩ ?_
  intro i ⟨h1, h2⟩
  conv => whnf
  refine ⟨fun hb => ?_, fun hb => ?_⟩
  · have hi : i < b.length := by simpa using hb
    rw [show b.length - i = (b.length - (i + 1)) + 1 by omega, moreG] at h2
    clear hb
    conv => whnf
    rw [getD_enc _ _ (i) 0 hi]
    refine ⟨idxA hi rfl, ?_⟩
    conv => whnf
    rw [getD_enc _ _ (i) 0 (by omega : i < a.length)]
    refine ⟨idxA (by omega : i < a.length) rfl, ?_⟩
    conv => whnf
    refine ⟨by kernel_rfl, ?_⟩
    conv => whnf
    refine ⟨fun hg2 => ?_, fun hg2 => ?_⟩
    · have hg2 : b.getD i 0 > a.getD i 0 := of_decide_eq_true hg2
      rw [if_pos hg2] at h2
      rw [h2, if_pos rfl]
      rfl
    · have hg2 : ¬ b.getD i 0 > a.getD i 0 := of_decide_eq_false hg2
      rw [if_neg hg2] at h2
      conv => whnf
      refine ⟨fun hq => ?_, fun hq => ?_⟩
      · conv => whnf
        rw [getD_enc _ _ (i) 0 hi]
        refine ⟨idxA hi rfl, ?_⟩
        conv => whnf
        rw [wrap_succ i (by omega)]
        refine ⟨i + 1, rfl, ?_, rfl, ⟨hi, h2⟩, by omega⟩
        rw [zer_succ b i hi, hq]; rfl
      · have hq : zer b i = false := hq
        conv => whnf
        rw [wrap_succ i (by omega)]
        refine ⟨i + 1, rfl, ?_, rfl, ⟨hi, h2⟩, by omega⟩
        rw [zer_succ b i hi, hq]; rfl
  · have hi : i = b.length := by have := of_decide_eq_false hb; rw [e0] at this; omega
    rw [hi, Nat.sub_self] at h2
    have hmb : moreB a b = false := h2
    rw [hmb, if_neg (by decide), hi, hz]
    clear hb
    conv => whnf
    refine ⟨fun hq => ?_, fun hq => ?_⟩
    · have hq := of_decide_eq_true hq
      rw [if_pos hq]; rfl
    · have hq := of_decide_eq_false hq
      rw [if_neg hq]
      conv => whnf
      rw [getD_enc' _ _ (0) 0 (by decide) (by omega : (0 : Int) < b.length)]
      refine ⟨idxB (by decide) (by omega : (0 : Int) < b.length) rfl, ?_⟩
      conv => whnf
      rw [getD_enc' _ _ (0) 0 (by decide) (by omega : (0 : Int) < a.length)]
      refine ⟨idxB (by decide) (by omega : (0 : Int) < a.length) rfl, ?_⟩
      conv => whnf
      refine ⟨by kernel_rfl, ?_⟩
      conv => whnf
      refine ⟨fun hr => ?_, fun hr => ?_⟩
      · have hr : b.getD 0 0 < a.getD 0 0 := of_decide_eq_true hr
        rw [if_pos hr]; rfl
      · have hr : ¬ b.getD 0 0 < a.getD 0 0 := of_decide_eq_false hr
        rw [if_neg hr]; rfl
theorem shpS_1 (a b : List Int) : (shpS a b).1 = if shE a b ≠ 0 then [] else shW a b := by
  unfold shpS shW
  by_cases h : shE a b = 0
  · rw [if_neg (by omega), if_neg (by omega)]
  · rw [if_pos h, if_pos h]
theorem shpS_2 (a b : List Int) : (shpS a b).2 = shE a b := by
  unfold shpS
  by_cases h : shE a b = 0
  · rw [if_neg (by omega)]; exact h.symm
  · rw [if_pos h]
theorem no_str {a b : List UInt8} {P : Prop} (h : a = b) (hg : decide (a = b) = !true) : P := by
  rw [decide_eq_true h] at hg; cases hg
theorem no_dec {a b : Int} {P : Prop} (h : a = b) (hg : (bif true then decide (a = b) else false) = !true) : P := by
  rw [decide_eq_true h] at hg; cases hg
theorem shp_ok {a b : List Int} (h : decide (shE a b = 0) = true) : (shpS a b).1 = shW a b := by
  have h := of_decide_eq_true h
  rw [shpS_1, if_neg (by omega)]
theorem shp_no {a b : List Int} (h : decide (shE a b = 0) = false) : (shpS a b).1 = (⟨#[]⟩ : ByteArray).data.toList := by
  rw [shpS_1, if_pos (of_decide_eq_false h)]
theorem l_CurveShapes (aw : PC 4 [] (.bool true)) (a b : List Int) : PC 3 [iL a, iL b] (.bool true) := by
  have e0 : ((a.map (DV.int .i64)).length : Int) = a.length := by simp
  have e1 : ((b.map (DV.int .i64)).length : Int) = b.length := by simp
  refine pureCall_ofR dh3 rfl ?_
  conv => whnf
  repeat' (first
    | (refine ⟨fun hg => ?_, fun hg => ?_⟩ <;> first | contradiction | (conv => whnf))
    | (refine Or.inl ?_; conv => whnf)
    | (refine ⟨_, aw .., ?_⟩; conv => whnf)
    | (refine And.intro ?_ ?_; kernel_rfl; conv => whnf))
  all_goals (try rfl)
  all_goals
    have ha : a.length ≤ 802 := by
      first
      | (have h := of_decide_eq_false (show decide (((a.map (DV.int .i64)).length : Int) ≠ 802) = false from ‹(bif true then decide (((a.map (DV.int .i64)).length : Int) ≠ 802) else false) = false›)
         rw [e0] at h
         omega)
      | (have h := of_decide_eq_false (show decide (40 < ((a.map (DV.int .i64)).length : Int)) = false from ‹decide (40 < ((a.map (DV.int .i64)).length : Int)) = !true›)
         rw [e0] at h
         omega)
  all_goals
    have hb : b.length ≤ 802 := by
      first
      | (have h := of_decide_eq_false (show decide (((b.map (DV.int .i64)).length : Int) ≠ 802) = false from ‹(bif false then true else bif true then decide (((b.map (DV.int .i64)).length : Int) ≠ 802) else false) = false›)
         rw [e1] at h
         omega)
      | (have h := of_decide_eq_false (show decide (40 < ((b.map (DV.int .i64)).length : Int)) = false from ‹decide (40 < ((b.map (DV.int .i64)).length : Int)) = !true›)
         rw [e1] at h
         omega)
  all_goals have k1 := c_Shape a b (by omega) (by omega)
  all_goals have k2 := r_CheckShape a b ha hb
  all_goals
    repeat' (first
      | (refine ⟨fun hg => ?_, fun hg => ?_⟩ <;> first | contradiction | (conv => whnf))
      | (refine Or.inl ?_; conv => whnf)
      | (refine ⟨_, k1, ?_⟩; conv => whnf)
      | (refine ⟨_, k2, ?_⟩; conv => whnf)
      | (refine ⟨_, r_Shape a b (of_decide_eq_true (by assumption)), ?_⟩; conv => whnf)
      | (refine ⟨_, aw .., ?_⟩; conv => whnf)
      | (refine ⟨⟨by simp; omega, fun e he => by obtain ⟨q, _, rfl⟩ := List.mem_map.1 he; rfl, fun e he => by simp at he⟩, ?_⟩; rw [show ([] : List DV).reverse ++ List.map (DV.int .i64) a = List.map (DV.int .i64) a from rfl]; conv => whnf)
      | (refine ⟨⟨by simp; omega, fun e he => by obtain ⟨q, _, rfl⟩ := List.mem_map.1 he; rfl, fun e he => by simp at he⟩, ?_⟩; rw [show ([] : List DV).reverse ++ List.map (DV.int .i64) b = List.map (DV.int .i64) b from rfl]; conv => whnf)
      | (refine And.intro ?_ ?_; kernel_rfl; conv => whnf))
  all_goals (first
    | rfl
    | exact no_dec (shpS_2 a b) (by assumption)
    | exact no_str (shp_ok (by assumption)) (by assumption)
    | exact no_str (shp_no (by assumption)) (by assumption)
    | trace_state)
end Sh

/-! What the cards of chapter 4 have in common: the arguments, the package-level variables, what the post asks. -/
set_option maxRecDepth 100000
set_option linter.unusedVariables false
namespace Sh
open Go Go.Proofs Go.Proofs.YtbkginjiknnobaaDoor
section
open Go.RowKit Go.WideShapes Go.ChangeShapes
variable {H : Type} {enc : TypeId × Value → H} {P : Program}
theorem postOfBelow {f : Func} {s : ChangeSpec} {apart fresh handsOn again : Bool} {W W' : World} {args : Array Value} {v : Value} {ds gs : List (DataW H)} {before pa pv : List MemPlace}
    (hW : DataW.Whole enc P f.params.toList s.vars apart W args.toList ds gs before)
    (hres : ∀ (b : Nat) (sp : Nat → Bool) (hd : Bool), DataW.TrodAll enc P W' b sp hd f.resultTypes.toList (v.resultList f.resultTypes.size) (s.fn H (ds ++ gs)).results [])
    (hargs : ∀ sp : Nat → Bool, (∀ p ∈ before, sp p.block = true) → DataW.TrodAll enc P W' 0 sp true f.params.toList args.toList (s.fn H (ds ++ gs)).args pa)
    (hvars : ∀ sp : Nat → Bool, (∀ p ∈ before, sp p.block = true) → DataW.TrodVars enc P W' sp s.vars (s.fn H (ds ++ gs)).vars pv)
    (hps : before = pa ++ pv) (hb : Below W.heap.size W W')
    (hok : ∀ (j : Nat) (t : TypeId) (r : Value), f.resultTypes[j]? = some t → (v.resultList f.resultTypes.size)[j]? = some r → Value.okWide P W' .any 0 t r) :
    s.post enc P f apart fresh handsOn again W args v W' := by
  have hlt : ∀ p ∈ before, p.block < W.heap.size := fun p hp => hW.lt p hp
  have hold : ∀ p ∈ before, (fun b => decide (b < W.heap.size)) p.block = true := fun p hp => by simpa using hlt p hp
  refine ⟨ds, gs, before, [], pa, pv, hW, hres _ _ _, hargs _ hold, hvars _ hold, World.keptBut_mono (fun p hp => ⟨hp, ?_⟩) (hb.frame (· ∈ before)), fun _ => ?_⟩
  · rw [hps, List.mem_append] at hp
    exact Or.inr hp
  · obtain ⟨_, _, _, _, _, hz, hn⟩ := hW
    refine ⟨hok, _, _, ([] ++ pa) ++ pv, ⟨[] ++ pa, pv, trodAll_append (hargs _ (fun _ _ => rfl)) (hres _ _ _), hvars _ (fun _ _ => rfl), rfl, ?_, ?_⟩, ?_⟩
    · intro b off hp
      have hin : MemPlace.cell b off ∈ before := by rw [hps]; simpa using hp
      rw [hb.frozen (hlt _ hin)]
      exact hz b off hin
    · intro ha
      have := hn ha
      rw [hps] at this
      simpa using this
    · intro p hp _
      rw [hps]
      simpa using hp
/-- All arguments read as before. -/
theorem trodAll_stays (hl : laidOutB P = true) {W W' : World} (hb : Below W.heap.size W W') {sp : Nat → Bool} : ∀ {ts : List TypeId} {vs : List Value} {ds : List (DataW H)} {ps : List MemPlace}, DataW.TrodAll enc P W 0 (fun _ => true) true ts vs ds ps →
    (ts.all fun t => P.readableRec t && decide (t < P.types.size)) = true → (∀ p ∈ ps, p.block < W.heap.size) → (∀ p ∈ ps, sp p.block = true) → DataW.TrodAll enc P W' 0 sp true ts vs ds ps
  | [], _, _, _, h, _, _, _ => by
    obtain ⟨rfl, rfl, rfl⟩ := trodAll_nil h
    rfl
  | t :: ts, _, _, _, h, ht, hlt, hsp => by
    obtain ⟨v, vs, d, ds, p, q, rfl, rfl, rfl, h1, h2⟩ := trodAll_cons h
    rw [List.all_cons, Bool.and_eq_true, Bool.and_eq_true] at ht
    exact trodAll_cons_mk (WideElems.Trod_stays hl ht.1.1 (of_decide_eq_true ht.1.2) h1 (fun x hx => hb.same (hlt x (by simp [hx]))) (fun x hx => hsp x (by simp [hx])))
      (trodAll_stays hl hb h2 ht.2 (fun x hx => hlt x (by simp [hx])) (fun x hx => hsp x (by simp [hx])))
end
theorem A_laid : laidOutB Tryd.prog = true := by kernel_rfl
theorem own : ownKnob Tryd.prog.godebug = none := by kernel_rfl
theorem cl3 : Tryd.prog.cellsOf 3 = 1 := by kernel_rfl
theorem cl9 : Tryd.prog.cellsOf 9 = 1 := by kernel_rfl
theorem cl29 : Tryd.prog.cellsOf 29 = 1 := by kernel_rfl
theorem cl93 : Tryd.prog.cellsOf 93 = 2 := by kernel_rfl
theorem cl63 : Tryd.prog.cellsOf 63 = 2 := by kernel_rfl
theorem cl64 : Tryd.prog.cellsOf 64 = 10 := by kernel_rfl
section
variable {H : Type} {enc : TypeId × Value → H} {W : World}
theorem opPt : Opens enc Tryd.prog W 93 (fun p : Pt => (encPt p).cells) (fun _ => True) :=
  (opens_struct2 Tryd.underlying93 1 1 cl3 cl3 cl93 rfl rfl (opens_int Tryd.underlying3) (opens_int Tryd.underlying3)).map (fun a => Pt.mk a.1 a.2) (fun _ => rfl) (fun _ _ => trivial)
theorem opInts : Opens enc Tryd.prog W 22 (fun l : List Int => [iL l]) (fun l => l.length ≤ maxLen) :=
  (opens_slice Tryd.underlying22 1 cl3 (by decide) (f := DV.int .i64) (opens_int Tryd.underlying3)).map id (fun _ => rfl) (fun _ h => h.1)
end
theorem relL_ints {M : Mem} {k : IntKind} (zs : List Int) : RelL M (zs.map (DV.int k)) (zs.map fun z => Value.int k z) := by
  refine ⟨by simp, fun i hi => ?_⟩
  rw [List.length_map] at hi
  have e1 : (zs.map (DV.int k)).getD i .undef = .int k zs[i] := by simp [List.getD_eq_getElem?_getD, hi]
  have e2 : (zs.map fun z => Value.int k z).getD i Go.undef = .int k zs[i] := by simp [List.getD_eq_getElem?_getD, hi]
  rw [e1, e2]
  exact .int _ _
theorem known_word {W : World} (s : List UInt8) {b : UInt8} {r : List UInt8} {f0 : FuncId} (hone : ((List.range Tryd.prog.funcs.size).filter fun f => (Tryd.prog.funcs[f]?).any (·.name.toUTF8.data.toList == b :: r)) = [f0]) :
    Known (funcToken Tryd.prog) Tryd.prog W 63 (.agg [.lit (.string s), .held (b :: r)]) [.str s, .func f0 []] :=
  known_struct2 (d0 := [.str s]) (d1 := [.func f0 []]) Tryd.underlying63 1 1 cl9 cl29 cl63 rfl rfl (known_string Tryd.underlying9 s) (known_func Tryd.underlying29 hone)
def wName (k : UInt8) : List UInt8 := [111, 109, 98, 105, 110, 101, 114, 47, 99, 117, 114, 118, 101, 46, 119, 111, 114, 100, 115, 36, k]
def wordsX : List (DataW (List UInt8)) := [.agg [.lit (.string [115, 97, 109, 101]), .held (99 :: wName 49)], .agg [.lit (.string [109, 111, 114, 101]), .held (99 :: wName 50)], .agg [.lit (.string [111, 112, 101, 110]), .held (99 :: wName 51)], .agg [.lit (.string [100, 97, 114, 107]), .held (99 :: wName 52)], .agg [.lit (.string [98, 121, 112, 97, 115, 115, 101, 100]), .held (99 :: wName 53)]]
def wordsD : List (List DV) := [[.str [115, 97, 109, 101], .func 114 []], [.str [109, 111, 114, 101], .func 116 []], [.str [111, 112, 101, 110], .func 117 []], [.str [100, 97, 114, 107], .func 118 []], [.str [98, 121, 112, 97, 115, 115, 101, 100], .func 119 []]]
theorem known_words {W : World} : Known (funcToken Tryd.prog) Tryd.prog W 64 (.agg wordsX) wordsD.flatten := by
  refine known_array (c := 2) Tryd.underlying64 cl63 cl64 rfl ?_
  intro i x ds e1 e2
  match i, e1, e2 with
  | 0, e1, e2 => cases Option.some.inj e1; cases Option.some.inj e2; exact known_word _ (by kernel_rfl)
  | 1, e1, e2 => cases Option.some.inj e1; cases Option.some.inj e2; exact known_word _ (by kernel_rfl)
  | 2, e1, e2 => cases Option.some.inj e1; cases Option.some.inj e2; exact known_word _ (by kernel_rfl)
  | 3, e1, e2 => cases Option.some.inj e1; cases Option.some.inj e2; exact known_word _ (by kernel_rfl)
  | 4, e1, e2 => cases Option.some.inj e1; cases Option.some.inj e2; exact known_word _ (by kernel_rfl)
def laidC : List (String × DataW Unit) := Rows.curveShapesRow.laid
theorem words_at {W : World} (h : laidMetH Tryd.prog laidC W) : ∃ cs : Array Value, W.var? Tryd.prog "combiner/curve.words" = some cs ∧ RelL (memOf W) wordsD.flatten cs.toList := by
  obtain ⟨g, t, cs, fuel, p, hg, ht, hv, hd⟩ := h.funcs (n := "combiner/curve.words") (.tail _ (.tail _ (.tail _ (.head _))))
  obtain rfl := Option.some.inj ((show Tryd.prog.globalNamed "combiner/curve.words" = some 0 by kernel_rfl).symm.trans hg)
  obtain rfl := Option.some.inj ((show (Tryd.prog.globals[0]?).map (·.type) = some 64 by kernel_rfl).symm.trans ht)
  have hd' : DataW.trod (funcToken Tryd.prog) Tryd.prog W 0 (fun _ => true) true fuel 64 cs.toList = some (.agg wordsX, p) := hd
  exact ⟨cs, hv, known_words _ _ _ _ _ hd'⟩
theorem pow_at {W : World} (h : laidMetH Tryd.prog laidC W) : Lib.TabIs Tryd.prog W "internal/strconv.uint64pow10" .u64 Lib.pow10Tab := by
  have h1 := h.filter fun x => x.1 == "internal/strconv.uint64pow10"
  have e : (laidC.filter fun x => x.1 == "internal/strconv.uint64pow10") = [("internal/strconv.uint64pow10", Lib.tabData .u64 Lib.pow10Tab)] := by kernel_rfl
  rw [e, MakeChecks.laidMetH_plain _ _ _ (by kernel_rfl)] at h1
  exact Lib.tabIs_of_head (g := 2) (t := 141) (e := 135) (n := 20) (by kernel_rfl) (by kernel_rfl) Tryd.underlying141 Tryd.underlying135 (by kernel_rfl) (by kernel_rfl) h1
theorem gokC {W : World} (h : laidMetH Tryd.prog laidC W) : GOk GC (memOf W) ∧ Tabs GC W := by
  obtain ⟨cs, hv, hr⟩ := words_at h
  have hp := pow_at h
  unfold Lib.TabIs at hp
  have g0 : Tryd.prog.globalNamed "combiner/curve.words" = some 0 := by kernel_rfl
  have g2 : Tryd.prog.globalNamed "internal/strconv.uint64pow10" = some 2 := by kernel_rfl
  refine ⟨fun g d hg => ?_, fun g d hg => ?_⟩
  all_goals unfold GC at hg
  all_goals split at hg
  · next e =>
    subst e
    obtain rfl := Option.some.inj hg
    exact gok_of (cs := cs) (fun i => World.var?_cell g0 hv i) hr
  · split at hg
    · next e =>
      subst e
      obtain rfl := Option.some.inj hg
      exact gok_of (fun i => World.var?_cell g2 hp i) (by simpa using relL_ints Lib.pow10Tab)
    · cases hg
  · next e =>
    subst e
    obtain rfl := Option.some.inj hg
    rw [len_of g0 hv, ← Array.length_toList, ← hr.1]
    rfl
  · split at hg
    · next e =>
      subst e
      obtain rfl := Option.some.inj hg
      rw [len_of g2 hp]
      rfl
    · cases hg
end Sh
