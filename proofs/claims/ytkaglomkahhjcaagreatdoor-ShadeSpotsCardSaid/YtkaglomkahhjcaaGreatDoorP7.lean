/-
  Chapter 3's functions, walked over pure data: the library of the walk, the functions' code over data, and what each computes. (part 7)
-/
import Derived.Test.YtkaglomkahhjcaaGreatDoorP6
import Derived.Test.YtkaglomkahhjcaaGreatDoorProg
set_option linter.unusedVariables false
set_option linter.unusedSimpArgs false
set_option maxRecDepth 100000
namespace Sh
open Go
def dc3 : DFunc := ⟨104, 3, [(.tmp 6)], (.seq (.ops false [⟨(some 4), (.box 3 (.tmp 1)), none, []⟩, ⟨(some 5), (.box 2 (.tmp 2)), none, []⟩, ⟨(some 6), (.mov (.const (.bool false))), none, []⟩]) (.seq (.seq (.ops false [⟨(some 15), (.mov (.tmp 0)), none, []⟩, ⟨(some 16), (.call (.func 13) [(.tmp 15)]), none, []⟩, ⟨(some 17), (.un .not (.tmp 16)), none, []⟩]) (.cond (.tmp 17) (.seq (.ops false [⟨(some 18), (.call (.func 14) []), none, []⟩, ⟨(some 6), (.mov (.tmp 18)), none, []⟩]) .ret) .skip)) (.seq (.ops true [⟨(some 20), (.mov (.tmp 0)), none, []⟩, ⟨(some 21), (.call (.func 17) [(.tmp 20)]), none, [0]⟩, ⟨(some 22), (.call (.func 16) [(.tmp 21)]), none, [1, 0]⟩, ⟨(some 23), (.load (some 3) (.tmp 4)), none, []⟩, ⟨(some 24), (.load (some 2) (.tmp 5)), none, []⟩, ⟨(some 25), (.call (.func 15) [(.tmp 22), (.tmp 23), (.tmp 24)]), none, [2, 1, 0, 3, 4]⟩, ⟨(some 19), (.mov (.tmp 25)), none, [5, 2, 1, 0, 3, 4]⟩, ⟨(some 26), (.extract (.tmp 19) 0), none, [6, 5, 2, 1, 0, 3, 4]⟩, ⟨(some 27), (.extract (.tmp 19) 1), none, [6, 5, 2, 1, 0, 3, 4]⟩, ⟨(some 7), (.mov (.tmp 26)), none, [7, 6, 5, 2, 1, 0, 3, 4]⟩, ⟨(some 8), (.mov (.tmp 27)), none, [8, 6, 5, 2, 1, 0, 3, 4, 9, 7]⟩]) (.seq (.ops true [⟨(some 29), (.mov (.tmp 0)), none, []⟩, ⟨(some 30), (.call (.func 19) [(.tmp 29)]), none, [0]⟩, ⟨(some 31), (.load (some 3) (.tmp 4)), none, []⟩, ⟨(some 32), (.load (some 2) (.tmp 5)), none, []⟩, ⟨(some 33), (.call (.func 18) [(.tmp 30), (.tmp 31), (.tmp 32)]), none, [1, 0, 2, 3]⟩, ⟨(some 28), (.mov (.tmp 33)), none, [4, 1, 0, 2, 3]⟩, ⟨(some 34), (.extract (.tmp 28) 0), none, [5, 4, 1, 0, 2, 3]⟩, ⟨(some 35), (.extract (.tmp 28) 1), none, [5, 4, 1, 0, 2, 3]⟩, ⟨(some 9), (.mov (.tmp 34)), none, [6, 5, 4, 1, 0, 2, 3]⟩, ⟨(some 10), (.mov (.tmp 35)), none, [7, 5, 4, 1, 0, 2, 3, 8, 6]⟩]) (.seq (.ops true [⟨(some 36), (.mov (.tmp 0)), none, []⟩, ⟨(some 37), (.call (.func 17) [(.tmp 36)]), none, [0]⟩, ⟨(some 38), (.call (.func 21) [(.tmp 37)]), none, [1, 0]⟩, ⟨(some 39), (.load (some 3) (.tmp 4)), none, []⟩, ⟨(some 40), (.call (.func 22) [(.tmp 39)]), none, [3, 2, 1, 0]⟩, ⟨(some 41), (.load (some 2) (.tmp 5)), none, []⟩, ⟨(some 42), (.call (.func 23) [(.tmp 41)]), none, [5, 4, 3, 2, 1, 0]⟩, ⟨(some 43), (.lit true 1 3 (.int .i64 0) [(0, (.tmp 38)), (1, (.tmp 40)), (2, (.tmp 42))]), none, [2, 1, 0, 4, 3, 6, 5]⟩, ⟨(some 44), (.call (.func 20) [(.tmp 43)]), none, [7, 2, 1, 0, 4, 3, 6, 5]⟩, ⟨(some 45), (.mov (.tmp 0)), none, []⟩, ⟨(some 46), (.call (.func 24) [(.tmp 45)]), none, [9, 8, 7, 2, 1, 0, 4, 3, 6, 5]⟩, ⟨(some 47), (.load (some 3) (.tmp 4)), none, []⟩, ⟨(some 48), (.call (.func 22) [(.tmp 47)]), none, [11, 10, 9, 8, 7, 2, 1, 0, 4, 3, 6, 5]⟩, ⟨(some 49), (.load (some 2) (.tmp 5)), none, []⟩, ⟨(some 50), (.call (.func 23) [(.tmp 49)]), none, [13, 12, 11, 10, 9, 8, 7, 2, 1, 0, 4, 3, 6, 5]⟩, ⟨(some 51), (.lit true 1 3 (.int .i64 0) [(0, (.tmp 46)), (1, (.tmp 48)), (2, (.tmp 50))]), none, [10, 9, 8, 7, 2, 1, 0, 4, 3, 6, 5, 12, 11, 14, 13]⟩, ⟨(some 52), (.call (.func 20) [(.tmp 51)]), none, [15, 10, 9, 8, 7, 2, 1, 0, 4, 3, 6, 5, 12, 11, 14, 13]⟩, ⟨(some 11), (.mov (.tmp 44)), none, [8, 7, 2, 1, 0, 4, 3, 6, 5, 16, 15, 10, 9, 12, 11, 14, 13]⟩, ⟨(some 12), (.mov (.tmp 52)), none, [16, 15, 10, 9, 8, 7, 2, 1, 0, 4, 3, 6, 5, 12, 11, 14, 13, 17]⟩]) (.seq (.ops false [⟨(some 13), (.mov (.const (.bool false))), none, []⟩]) (.seq (.ops false [⟨(some 14), (.mov (.const (.slice none 0 0))), none, []⟩]) (.seq (.seq (.ops false [⟨(some 53), (.mov (.tmp 11)), none, []⟩, ⟨(some 54), (.bin .eql (.tmp 53) (.const (.int .i64 0))), none, []⟩]) (.cond (.tmp 54) (.ops true [⟨(some 55), (.mov (.tmp 0)), none, []⟩, ⟨(some 56), (.call (.func 17) [(.tmp 55)]), none, [0]⟩, ⟨(some 57), (.load (some 3) (.tmp 4)), none, []⟩, ⟨(some 58), (.load (some 2) (.tmp 5)), none, []⟩, ⟨(some 59), (.call (.func 25) [(.tmp 56), (.tmp 57), (.tmp 58)]), none, [1, 0, 2, 3]⟩, ⟨(some 13), (.mov (.tmp 59)), none, [4, 1, 0, 2, 3]⟩]) .skip)) (.seq (.seq (.ops false [⟨(some 60), (.mov (.tmp 12)), none, []⟩, ⟨(some 61), (.bin .eql (.tmp 60) (.const (.int .i64 0))), none, []⟩]) (.cond (.tmp 61) (.ops false [⟨(some 62), (.mov (.tmp 0)), none, []⟩, ⟨(some 63), (.load (some 3) (.tmp 4)), none, []⟩, ⟨(some 64), (.load (some 2) (.tmp 5)), none, []⟩, ⟨(some 65), (.call (.func 26) [(.tmp 62), (.tmp 63), (.tmp 64)]), none, []⟩, ⟨(some 14), (.mov (.tmp 65)), none, []⟩]) .skip)) (.seq (.ops true [⟨(some 66), (.load (some 3) (.tmp 4)), none, []⟩, ⟨(some 67), (.call (.func 27) [(.tmp 66)]), none, [0]⟩, ⟨(some 68), (.load (some 3) (.tmp 4)), none, []⟩, ⟨(some 69), (.call (.func 22) [(.tmp 68)]), none, [2, 1, 0]⟩, ⟨(some 70), (.bin .eql (.tmp 67) (.tmp 69)), none, [1, 0, 3, 2]⟩, ⟨(some 71), (.mov (.tmp 70)), none, [4, 1, 0, 3, 2]⟩, ⟨(some 72), (.mov (.tmp 0)), (some (71, true)), [5, 4, 1, 0, 3, 2]⟩, ⟨(some 73), (.call (.func 17) [(.tmp 72)]), (some (71, true)), [6, 5, 4, 1, 0, 3, 2]⟩, ⟨(some 74), (.call (.func 16) [(.tmp 73)]), (some (71, true)), [7, 6, 5, 4, 1, 0, 3, 2]⟩, ⟨(some 75), (.call (.func 28) [(.tmp 74)]), (some (71, true)), [8, 7, 6, 5, 4, 1, 0, 3, 2]⟩, ⟨(some 76), (.mov (.tmp 0)), (some (71, true)), [5, 4, 1, 0, 3, 2]⟩, ⟨(some 77), (.call (.func 17) [(.tmp 76)]), (some (71, true)), [10, 5, 4, 1, 0, 3, 2, 9, 8, 7, 6]⟩, ⟨(some 78), (.call (.func 21) [(.tmp 77)]), (some (71, true)), [11, 10, 5, 4, 1, 0, 3, 2, 9, 8, 7, 6]⟩, ⟨(some 79), (.bin .eql (.tmp 75) (.tmp 78)), (some (71, true)), [9, 8, 7, 6, 5, 4, 1, 0, 3, 2, 12, 11, 10]⟩, ⟨(some 80), (.pick (.tmp 71) (.tmp 79) (.const (.bool false))), none, [5, 4, 1, 0, 3, 2, 13, 9, 8, 7, 6, 12, 11, 10]⟩, ⟨(some 81), (.mov (.tmp 80)), none, [14, 5, 4, 1, 0, 3, 2, 13, 9, 8, 7, 6, 12, 11, 10]⟩, ⟨(some 82), (.mov (.tmp 7)), (some (81, true)), [15, 14, 5, 4, 1, 0, 3, 2, 13, 9, 8, 7, 6, 12, 11, 10]⟩, ⟨(some 83), (.mov (.tmp 13)), (some (81, true)), [15, 14, 5, 4, 1, 0, 3, 2, 13, 9, 8, 7, 6, 12, 11, 10]⟩, ⟨(some 84), (.eqB false (.tmp 82) (.tmp 83)), (some (81, true)), [16, 15, 14, 5, 4, 1, 0, 3, 2, 13, 9, 8, 7, 6, 12, 11, 10, 17]⟩, ⟨(some 85), (.pick (.tmp 81) (.tmp 84) (.const (.bool false))), none, [15, 14, 5, 4, 1, 0, 3, 2, 13, 9, 8, 7, 6, 12, 11, 10, 18, 16, 17]⟩, ⟨(some 86), (.mov (.tmp 85)), none, [19, 15, 14, 5, 4, 1, 0, 3, 2, 13, 9, 8, 7, 6, 12, 11, 10, 18, 16, 17]⟩, ⟨(some 87), (.mov (.tmp 8)), (some (86, true)), [20, 19, 15, 14, 5, 4, 1, 0, 3, 2, 13, 9, 8, 7, 6, 12, 11, 10, 18, 16, 17]⟩, ⟨(some 88), (.mov (.tmp 11)), (some (86, true)), [20, 19, 15, 14, 5, 4, 1, 0, 3, 2, 13, 9, 8, 7, 6, 12, 11, 10, 18, 16, 17]⟩, ⟨(some 89), (.bin .eql (.tmp 87) (.tmp 88)), (some (86, true)), [21, 20, 19, 15, 14, 5, 4, 1, 0, 3, 2, 13, 9, 8, 7, 6, 12, 11, 10, 18, 16, 17, 22]⟩, ⟨(some 90), (.pick (.tmp 86) (.tmp 89) (.const (.bool false))), none, [20, 19, 15, 14, 5, 4, 1, 0, 3, 2, 13, 9, 8, 7, 6, 12, 11, 10, 18, 16, 17, 23, 21, 22]⟩, ⟨(some 91), (.mov (.tmp 90)), none, [24, 20, 19, 15, 14, 5, 4, 1, 0, 3, 2, 13, 9, 8, 7, 6, 12, 11, 10, 18, 16, 17, 23, 21, 22]⟩, ⟨(some 92), (.mov (.tmp 9)), (some (91, true)), [25, 24, 20, 19, 15, 14, 5, 4, 1, 0, 3, 2, 13, 9, 8, 7, 6, 12, 11, 10, 18, 16, 17, 23, 21, 22]⟩, ⟨(some 93), (.mov (.tmp 14)), (some (91, true)), [25, 24, 20, 19, 15, 14, 5, 4, 1, 0, 3, 2, 13, 9, 8, 7, 6, 12, 11, 10, 18, 16, 17, 23, 21, 22]⟩, ⟨(some 94), (.call (.func 29) [(.tmp 92), (.tmp 93)]), (some (91, true)), [26, 25, 24, 20, 19, 15, 14, 5, 4, 1, 0, 3, 2, 13, 9, 8, 7, 6, 12, 11, 10, 18, 16, 17, 23, 21, 22, 27]⟩, ⟨(some 95), (.pick (.tmp 91) (.tmp 94) (.const (.bool false))), none, [25, 24, 20, 19, 15, 14, 5, 4, 1, 0, 3, 2, 13, 9, 8, 7, 6, 12, 11, 10, 18, 16, 17, 23, 21, 22, 28, 26, 27]⟩, ⟨(some 96), (.mov (.tmp 95)), none, [29, 25, 24, 20, 19, 15, 14, 5, 4, 1, 0, 3, 2, 13, 9, 8, 7, 6, 12, 11, 10, 18, 16, 17, 23, 21, 22, 28, 26, 27]⟩, ⟨(some 97), (.mov (.tmp 10)), (some (96, true)), [30, 29, 25, 24, 20, 19, 15, 14, 5, 4, 1, 0, 3, 2, 13, 9, 8, 7, 6, 12, 11, 10, 18, 16, 17, 23, 21, 22, 28, 26, 27]⟩, ⟨(some 98), (.mov (.tmp 12)), (some (96, true)), [30, 29, 25, 24, 20, 19, 15, 14, 5, 4, 1, 0, 3, 2, 13, 9, 8, 7, 6, 12, 11, 10, 18, 16, 17, 23, 21, 22, 28, 26, 27]⟩, ⟨(some 99), (.bin .eql (.tmp 97) (.tmp 98)), (some (96, true)), [31, 30, 29, 25, 24, 20, 19, 15, 14, 5, 4, 1, 0, 3, 2, 13, 9, 8, 7, 6, 12, 11, 10, 18, 16, 17, 23, 21, 22, 28, 26, 27, 32]⟩, ⟨(some 100), (.pick (.tmp 96) (.tmp 99) (.const (.bool false))), none, [30, 29, 25, 24, 20, 19, 15, 14, 5, 4, 1, 0, 3, 2, 13, 9, 8, 7, 6, 12, 11, 10, 18, 16, 17, 23, 21, 22, 28, 26, 27, 33, 31, 32]⟩, ⟨(some 101), (.mov (.tmp 100)), none, [34, 30, 29, 25, 24, 20, 19, 15, 14, 5, 4, 1, 0, 3, 2, 13, 9, 8, 7, 6, 12, 11, 10, 18, 16, 17, 23, 21, 22, 28, 26, 27, 33, 31, 32]⟩, ⟨(some 102), (.call (.func 14) []), (some (101, true)), [35, 34, 30, 29, 25, 24, 20, 19, 15, 14, 5, 4, 1, 0, 3, 2, 13, 9, 8, 7, 6, 12, 11, 10, 18, 16, 17, 23, 21, 22, 28, 26, 27, 33, 31, 32]⟩, ⟨(some 103), (.pick (.tmp 101) (.tmp 102) (.const (.bool false))), none, [35, 34, 30, 29, 25, 24, 20, 19, 15, 14, 5, 4, 1, 0, 3, 2, 13, 9, 8, 7, 6, 12, 11, 10, 18, 16, 17, 23, 21, 22, 28, 26, 27, 33, 31, 32, 36]⟩, ⟨(some 6), (.mov (.tmp 103)), none, [37, 35, 34, 30, 29, 25, 24, 20, 19, 15, 14, 5, 4, 1, 0, 3, 2, 13, 9, 8, 7, 6, 12, 11, 10, 18, 16, 17, 23, 21, 22, 28, 26, 27, 33, 31, 32, 36]⟩]) .ret))))))))))⟩
theorem dh3 : cProg Go.Proofs.Tryz.prog ⟨[], [], [43, 51]⟩ 3 = some dc3 := by kernel_rfl
end Sh


set_option maxRecDepth 100000
set_option maxHeartbeats 2000000
set_option linter.unusedSimpArgs false
set_option linter.unusedVariables false
namespace Sh
open Go Go.Proofs
theorem l_ShadeSpots (aw : PC 14 [] (.bool true)) (l : List (List V3)) (hU : l.length ≤ 9223372036854775807) (sun : V3) (p : Pt) : PC 3 [shps l, encV sun, encPt p] (.bool true) := by
  have kS := r_ShortU l hU
  refine pureCall_ofR dh3 rfl ?_
  conv => whnf
  refine .inl ?_
  conv => whnf
  refine ⟨_, kS .., ?_⟩
  conv => whnf
  refine ⟨fun hg => ?_, fun hg => ?_⟩
  · conv => whnf
    repeat' (first
      | (refine ⟨fun hg => ?_, fun hg => ?_⟩ <;> first | contradiction | (conv => whnf))
      | (refine Or.inl ?_; conv => whnf)
      | (refine ⟨_, aw .., ?_⟩; conv => whnf)
      | (refine And.intro ?_ ?_; kernel_rfl; conv => whnf))
    rfl
  · have hsh : shortB l = true := by rw [← Bool.not_not (shortB l), show (!shortB l) = false from hg]; rfl
    obtain ⟨hl, hls, hl0⟩ := short_len hsh
    clear hg hsh kS
    have a1 := l_one l
    have a2 := l_own (l.getD 0 []) hl0
    have a3 := l_all l hl hls
    have a4 := r_CheckShape (l.getD 0 []) hl0
    have a5 := r_CheckShapes l hl hls
    have a6 := c_CheckShape (l.getD 0 []) hl0
    generalize hs0 : l.getD 0 [] = s0 at *
    have b1 := c_Hides s0 sun p hl0
    have b2 := c_Hiding l sun p hl hls
    have f1 : PC 20 [iL [chkShp s0, chkSun sun, chkSpot p]] (DV.int .i64 (hdE s0 sun p)) := l_first [chkShp s0, chkSun sun, chkSpot p] (by simp)
    have f2 : PC 20 [iL [chkShps l, chkSun sun, chkSpot p]] (DV.int .i64 (hgE l sun p)) := l_first [chkShps l, chkSun sun, chkSpot p] (by simp)
    have c3 := q_SameInts (hidng l sun p l.length) (hidng l sun p l.length) (by have := hidng_len l sun p l.length; omega)
    rw [dec_same] at c3
    have c4 : PC 29 [.list [], .list []] (.bool true) := by have := q_SameInts [] [] (by decide); rwa [dec_same] at this
    by_cases h1 : hdE s0 sun p = 0
    · rw [show hdS s0 sun p = (hidB s0 sun p, 0) from if_neg (fun h => h h1)] at b1
      rw [h1] at f1
      have c1 := r_Hides s0 sun p (hdE_zero h1).1 (hdE_zero h1).2.1 (hdE_zero h1).2.2
      by_cases h2 : hgE l sun p = 0
      · rw [show hgS l sun p = (hidng l sun p l.length, 0) from if_neg (fun h => h h2)] at b2
        rw [h2] at f2
        have c2 := r_Hiding l sun p (hgE_zero h2).1.1 (hgE_zero h2).1.2 (hgE_zero h2).2.1 (hgE_zero h2).2.2
        conv => whnf
        repeat' (first
          | (refine ⟨fun hg => ?_, fun hg => ?_⟩ <;> first | contradiction | (exfalso; revert hg; simp; done) | (exfalso; exact absurd (of_decide_eq_true hg) (by assumption)) | (exfalso; exact absurd (by assumption) (of_decide_eq_false hg)) | (conv => whnf))
          | (refine Or.inl ?_; conv => whnf)
          | (refine ⟨_, a1, ?_⟩; conv => whnf)
          | (refine ⟨_, a2, ?_⟩; conv => whnf)
          | (refine ⟨_, a3, ?_⟩; conv => whnf)
          | (refine ⟨_, a4, ?_⟩; conv => whnf)
          | (refine ⟨_, a5, ?_⟩; conv => whnf)
          | (refine ⟨_, a6, ?_⟩; conv => whnf)
          | (refine ⟨_, b1, ?_⟩; conv => whnf)
          | (refine ⟨_, b2, ?_⟩; conv => whnf)
          | (refine ⟨_, f1, ?_⟩; conv => whnf)
          | (refine ⟨_, f2, ?_⟩; conv => whnf)
          | (refine ⟨_, c1, ?_⟩; conv => whnf)
          | (refine ⟨_, c2, ?_⟩; conv => whnf)
          | (refine ⟨_, c3, ?_⟩; conv => whnf)
          | (refine ⟨_, r_CheckSun sun, ?_⟩; conv => whnf)
          | (refine ⟨_, r_CheckSpot p, ?_⟩; conv => whnf)
          | (refine ⟨_, c_CheckSun sun, ?_⟩; conv => whnf)
          | (refine ⟨_, aw, ?_⟩; conv => whnf)
          | (refine And.intro ?_ ?_; kernel_rfl; conv => whnf))
        rfl
      · rw [show hgS l sun p = ([], hgE l sun p) from if_pos h2] at b2
        generalize hgE l sun p = E2 at *
        conv => whnf
        repeat' (first
          | (refine ⟨fun hg => ?_, fun hg => ?_⟩ <;> first | contradiction | (exfalso; revert hg; simp; done) | (exfalso; exact absurd (of_decide_eq_true hg) (by assumption)) | (exfalso; exact absurd (by assumption) (of_decide_eq_false hg)) | (conv => whnf))
          | (refine Or.inl ?_; conv => whnf)
          | (refine ⟨_, a1, ?_⟩; conv => whnf)
          | (refine ⟨_, a2, ?_⟩; conv => whnf)
          | (refine ⟨_, a3, ?_⟩; conv => whnf)
          | (refine ⟨_, a4, ?_⟩; conv => whnf)
          | (refine ⟨_, a5, ?_⟩; conv => whnf)
          | (refine ⟨_, a6, ?_⟩; conv => whnf)
          | (refine ⟨_, b1, ?_⟩; conv => whnf)
          | (refine ⟨_, b2, ?_⟩; conv => whnf)
          | (refine ⟨_, f1, ?_⟩; conv => whnf)
          | (refine ⟨_, f2, ?_⟩; conv => whnf)
          | (refine ⟨_, c1, ?_⟩; conv => whnf)
          | (refine ⟨_, c3, ?_⟩; conv => whnf)
          | (refine ⟨_, c4, ?_⟩; conv => whnf)
          | (refine ⟨_, r_CheckSun sun, ?_⟩; conv => whnf)
          | (refine ⟨_, r_CheckSpot p, ?_⟩; conv => whnf)
          | (refine ⟨_, c_CheckSun sun, ?_⟩; conv => whnf)
          | (refine ⟨_, aw, ?_⟩; conv => whnf)
          | (refine And.intro ?_ ?_; kernel_rfl; conv => whnf))
        rfl
    · rw [show hdS s0 sun p = (false, hdE s0 sun p) from if_pos h1] at b1
      generalize hdE s0 sun p = E1 at *
      by_cases h2 : hgE l sun p = 0
      · rw [show hgS l sun p = (hidng l sun p l.length, 0) from if_neg (fun h => h h2)] at b2
        rw [h2] at f2
        have c2 := r_Hiding l sun p (hgE_zero h2).1.1 (hgE_zero h2).1.2 (hgE_zero h2).2.1 (hgE_zero h2).2.2
        conv => whnf
        repeat' (first
          | (refine ⟨fun hg => ?_, fun hg => ?_⟩ <;> first | contradiction | (exfalso; revert hg; simp; done) | (exfalso; exact absurd (of_decide_eq_true hg) (by assumption)) | (exfalso; exact absurd (by assumption) (of_decide_eq_false hg)) | (conv => whnf))
          | (refine Or.inl ?_; conv => whnf)
          | (refine ⟨_, a1, ?_⟩; conv => whnf)
          | (refine ⟨_, a2, ?_⟩; conv => whnf)
          | (refine ⟨_, a3, ?_⟩; conv => whnf)
          | (refine ⟨_, a4, ?_⟩; conv => whnf)
          | (refine ⟨_, a5, ?_⟩; conv => whnf)
          | (refine ⟨_, a6, ?_⟩; conv => whnf)
          | (refine ⟨_, b1, ?_⟩; conv => whnf)
          | (refine ⟨_, b2, ?_⟩; conv => whnf)
          | (refine ⟨_, f1, ?_⟩; conv => whnf)
          | (refine ⟨_, f2, ?_⟩; conv => whnf)
          | (refine ⟨_, c2, ?_⟩; conv => whnf)
          | (refine ⟨_, c3, ?_⟩; conv => whnf)
          | (refine ⟨_, r_CheckSun sun, ?_⟩; conv => whnf)
          | (refine ⟨_, r_CheckSpot p, ?_⟩; conv => whnf)
          | (refine ⟨_, c_CheckSun sun, ?_⟩; conv => whnf)
          | (refine ⟨_, aw, ?_⟩; conv => whnf)
          | (refine And.intro ?_ ?_; kernel_rfl; conv => whnf))
        rfl
      · rw [show hgS l sun p = ([], hgE l sun p) from if_pos h2] at b2
        generalize hgE l sun p = E2 at *
        conv => whnf
        repeat' (first
          | (refine ⟨fun hg => ?_, fun hg => ?_⟩ <;> first | contradiction | (exfalso; revert hg; simp; done) | (exfalso; exact absurd (of_decide_eq_true hg) (by assumption)) | (exfalso; exact absurd (by assumption) (of_decide_eq_false hg)) | (conv => whnf))
          | (refine Or.inl ?_; conv => whnf)
          | (refine ⟨_, a1, ?_⟩; conv => whnf)
          | (refine ⟨_, a2, ?_⟩; conv => whnf)
          | (refine ⟨_, a3, ?_⟩; conv => whnf)
          | (refine ⟨_, a4, ?_⟩; conv => whnf)
          | (refine ⟨_, a5, ?_⟩; conv => whnf)
          | (refine ⟨_, a6, ?_⟩; conv => whnf)
          | (refine ⟨_, b1, ?_⟩; conv => whnf)
          | (refine ⟨_, b2, ?_⟩; conv => whnf)
          | (refine ⟨_, f1, ?_⟩; conv => whnf)
          | (refine ⟨_, f2, ?_⟩; conv => whnf)
          | (refine ⟨_, c3, ?_⟩; conv => whnf)
          | (refine ⟨_, c4, ?_⟩; conv => whnf)
          | (refine ⟨_, r_CheckSun sun, ?_⟩; conv => whnf)
          | (refine ⟨_, r_CheckSpot p, ?_⟩; conv => whnf)
          | (refine ⟨_, c_CheckSun sun, ?_⟩; conv => whnf)
          | (refine ⟨_, aw, ?_⟩; conv => whnf)
          | (refine And.intro ?_ ?_; kernel_rfl; conv => whnf))
        rfl
end Sh

