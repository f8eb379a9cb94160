/-
  Chapter 3's functions, walked over pure data: the library of the walk, the functions' code over data, and what each computes. (part 7)
-/
import Derived.Test.YtkaglomkahhjcaaGreatDoorP6
import Derived.Test.YtkaglomkahhjcaaGreatDoorProg
set_option linter.unusedVariables false
set_option linter.unusedSimpArgs false
set_option maxRecDepth 100000
namespace Sh
open Go
def dc59 : DFunc := ⟨11, 1, [(.tmp 2)], (.seq (.ops false [⟨(some 1), (.box 2 (.tmp 0)), none, []⟩, ⟨(some 2), (.mov (.const (.int .i64 0))), none, []⟩]) (.seq (.ops true [⟨(some 3), (.faddr 0 1 false (.tmp 1)), none, []⟩, ⟨(some 4), (.load none (.tmp 3)), none, [0]⟩, ⟨(some 5), (.call (.func 96) [(.tmp 4), (.const (.int .i64 1)), (.const (.int .i64 100))]), none, [1, 0]⟩, ⟨(some 6), (.faddr 1 1 false (.tmp 1)), none, []⟩, ⟨(some 7), (.load none (.tmp 6)), none, [3]⟩, ⟨(some 8), (.call (.func 96) [(.tmp 7), (.const (.int .i64 (-100))), (.const (.int .i64 100))]), none, [4, 3, 2, 1, 0]⟩, ⟨(some 9), (.lit true 1 2 (.int .i64 0) [(0, (.tmp 5)), (1, (.tmp 8))]), none, [2, 1, 0, 5, 4, 3]⟩, ⟨(some 10), (.call (.func 94) [(.tmp 9)]), none, [6, 2, 1, 0, 5, 4, 3]⟩, ⟨(some 2), (.mov (.tmp 10)), none, [7, 6, 2, 1, 0, 5, 4, 3]⟩]) .ret))⟩
theorem dh59 : cProg Go.Proofs.Tryz.prog ⟨[], [], [9]⟩ 59 = some dc59 := by kernel_rfl
def dc60 : DFunc := ⟨11, 1, [(.tmp 2)], (.seq (.ops false [⟨(some 1), (.box 2 (.tmp 0)), none, []⟩, ⟨(some 2), (.mov (.const (.int .i64 0))), none, []⟩]) (.seq (.ops true [⟨(some 3), (.faddr 0 1 false (.tmp 1)), none, []⟩, ⟨(some 4), (.load none (.tmp 3)), none, [0]⟩, ⟨(some 5), (.call (.func 96) [(.tmp 4), (.const (.int .i64 1)), (.const (.int .i64 1000))]), none, [1, 0]⟩, ⟨(some 6), (.faddr 1 1 false (.tmp 1)), none, []⟩, ⟨(some 7), (.load none (.tmp 6)), none, [3]⟩, ⟨(some 8), (.call (.func 96) [(.tmp 7), (.const (.int .i64 (-1000))), (.const (.int .i64 1000))]), none, [4, 3, 2, 1, 0]⟩, ⟨(some 9), (.lit true 1 2 (.int .i64 0) [(0, (.tmp 5)), (1, (.tmp 8))]), none, [2, 1, 0, 5, 4, 3]⟩, ⟨(some 10), (.call (.func 94) [(.tmp 9)]), none, [6, 2, 1, 0, 5, 4, 3]⟩, ⟨(some 2), (.mov (.tmp 10)), none, [7, 6, 2, 1, 0, 5, 4, 3]⟩]) .ret))⟩
theorem dh60 : cProg Go.Proofs.Tryz.prog ⟨[], [], [9]⟩ 60 = some dc60 := by kernel_rfl
def dc61 : DFunc := ⟨16, 2, [(.tmp 4)], (.seq (.ops false [⟨(some 2), (.box 2 (.tmp 0)), none, []⟩, ⟨(some 3), (.box 3 (.tmp 1)), none, []⟩, ⟨(some 4), (.mov (.const (.int .i64 0))), none, []⟩]) (.seq (.ops false [⟨(some 5), (.faddr 0 1 false (.tmp 2)), none, []⟩, ⟨(some 6), (.load none (.tmp 5)), none, []⟩, ⟨(some 7), (.faddr 2 1 false (.tmp 3)), none, []⟩, ⟨(some 8), (.load none (.tmp 7)), none, []⟩, ⟨(some 9), (.bin .mul (.tmp 6) (.tmp 8)), none, []⟩, ⟨(some 10), (.faddr 1 1 false (.tmp 2)), none, []⟩, ⟨(some 11), (.load none (.tmp 10)), none, []⟩, ⟨(some 12), (.faddr 1 1 false (.tmp 3)), none, []⟩, ⟨(some 13), (.load none (.tmp 12)), none, []⟩, ⟨(some 14), (.bin .mul (.tmp 11) (.tmp 13)), none, []⟩, ⟨(some 15), (.bin .sub (.tmp 9) (.tmp 14)), none, []⟩, ⟨(some 4), (.mov (.tmp 15)), none, []⟩]) .ret))⟩
theorem dh61 : cProg Go.Proofs.Tryz.prog ⟨[], [], []⟩ 61 = some dc61 := by kernel_rfl
def dc62 : DFunc := ⟨21, 2, [(.tmp 4)], (.seq (.ops false [⟨(some 2), (.box 2 (.tmp 0)), none, []⟩, ⟨(some 3), (.box 3 (.tmp 1)), none, []⟩, ⟨(some 4), (.mov (.const (.int .i64 0))), none, []⟩]) (.seq (.ops false [⟨(some 6), (.faddr 0 1 false (.tmp 2)), none, []⟩, ⟨(some 7), (.load none (.tmp 6)), none, []⟩, ⟨(some 8), (.faddr 2 1 false (.tmp 3)), none, []⟩, ⟨(some 9), (.load none (.tmp 8)), none, []⟩, ⟨(some 10), (.bin .mul (.tmp 7) (.tmp 9)), none, []⟩, ⟨(some 11), (.faddr 1 1 false (.tmp 2)), none, []⟩, ⟨(some 12), (.load none (.tmp 11)), none, []⟩, ⟨(some 13), (.faddr 1 1 false (.tmp 3)), none, []⟩, ⟨(some 14), (.load none (.tmp 13)), none, []⟩, ⟨(some 15), (.bin .mul (.tmp 12) (.tmp 14)), none, []⟩, ⟨(some 16), (.bin .sub (.tmp 10) (.tmp 15)), none, []⟩, ⟨(some 5), (.mov (.tmp 16)), none, []⟩]) (.seq (.ops false [⟨(some 17), (.mov (.tmp 5)), none, []⟩, ⟨(some 18), (.mov (.tmp 5)), none, []⟩, ⟨(some 19), (.bin .sub (.const (.int .i64 0)) (.tmp 18)), none, []⟩, ⟨(some 20), (.minmax true (.tmp 17) [(.tmp 19)]), none, []⟩, ⟨(some 4), (.mov (.tmp 20)), none, []⟩]) .ret)))⟩
theorem dh62 : cProg Go.Proofs.Tryz.prog ⟨[], [], []⟩ 62 = some dc62 := by kernel_rfl
def dc63 : DFunc := ⟨14, 3, [(.tmp 6)], (.seq (.ops false [⟨(some 3), (.box 2 (.tmp 0)), none, []⟩, ⟨(some 4), (.box 2 (.tmp 1)), none, []⟩, ⟨(some 5), (.box 3 (.tmp 2)), none, []⟩, ⟨(some 6), (.mov (.const (.bool false))), none, []⟩]) (.seq (.ops true [⟨(some 7), (.load (some 2) (.tmp 3)), none, []⟩, ⟨(some 8), (.load (some 3) (.tmp 5)), none, []⟩, ⟨(some 9), (.call (.func 128) [(.tmp 7), (.tmp 8)]), none, [0, 1]⟩, ⟨(some 10), (.load (some 2) (.tmp 4)), none, []⟩, ⟨(some 11), (.load (some 3) (.tmp 5)), none, []⟩, ⟨(some 12), (.call (.func 62) [(.tmp 10), (.tmp 11)]), none, [3, 4, 2, 0, 1]⟩, ⟨(some 13), (.bin .leq (.tmp 9) (.tmp 12)), none, [2, 0, 1, 5, 3, 4]⟩, ⟨(some 6), (.mov (.tmp 13)), none, [6, 2, 0, 1, 5, 3, 4]⟩]) .ret))⟩
theorem dh63 : cProg Go.Proofs.Tryz.prog ⟨[], [], []⟩ 63 = some dc63 := by kernel_rfl
def dc66 : DFunc := ⟨6, 1, [(.tmp 2)], (.seq (.ops false [⟨(some 2), (.mov (.const (.slice none 0 0))), none, []⟩]) (.seq (.ops false [⟨(some 3), (.lit true 2 0 (.agg [(.int .i64 0), (.int .i64 0)]) []), none, []⟩, ⟨(some 4), (.mov (.tmp 0)), none, []⟩, ⟨(some 5), (.append true 2 (.tmp 3) (.tmp 4)), none, []⟩, ⟨(some 2), (.mov (.tmp 5)), none, []⟩]) .ret))⟩
theorem dh66 : cProg Go.Proofs.Tryz.prog ⟨[], [], [3, 5]⟩ 66 = some dc66 := by kernel_rfl
def db69_0 : DC := (.seq (.seq (.ops false [⟨(some 34), (.mov (.tmp 6)), none, []⟩, ⟨(some 35), (.mov (.tmp 4)), none, []⟩, ⟨(some 36), (.bin .lss (.tmp 34) (.tmp 35)), none, []⟩]) (.cond (.tmp 36) .skip (.exit 2))) (.seq (.block 3 none (.seq (.ops true [⟨(some 39), (.mov (.tmp 0)), none, []⟩, ⟨(some 40), (.mov (.tmp 6)), none, []⟩, ⟨(some 41), (.iaddr 2 (.tmp 39) (.tmp 40)), none, [0, 1]⟩, ⟨(some 42), (.load (some 2) (.tmp 41)), none, [2, 0, 1]⟩, ⟨(some 43), (.mov (.tmp 0)), none, []⟩, ⟨(some 44), (.mov (.tmp 4)), none, []⟩, ⟨(some 45), (.iaddr 2 (.tmp 43) (.tmp 44)), none, [4, 5]⟩, ⟨(some 46), (.load (some 2) (.tmp 45)), none, [6, 4, 5]⟩, ⟨(some 47), (.eqA false [1, 1] (.tmp 42) (.tmp 46)), none, [3, 2, 0, 1, 7, 6, 4, 5]⟩]) (.cond (.tmp 47) (.seq (.ops false [⟨(some 2), (.mov (.const (.int .i64 9))), none, []⟩]) .ret) .skip))) (.ops false [⟨(some 37), (.mov (.tmp 6)), none, []⟩, ⟨(some 38), (.bin .add (.tmp 37) (.const (.int .i64 1))), none, []⟩, ⟨(some 6), (.mov (.tmp 38)), none, []⟩])))
def dk69_0 : Keep := ⟨[], [0, 4, 6], [15]⟩
def db69_1 : DC := (.seq (.seq (.ops false [⟨(some 20), (.mov (.tmp 4)), none, []⟩, ⟨(some 21), (.mov (.tmp 0)), none, []⟩, ⟨(some 22), (.len (.tmp 21)), none, []⟩, ⟨(some 23), (.bin .lss (.tmp 20) (.tmp 22)), none, []⟩]) (.cond (.tmp 23) .skip (.exit 0))) (.seq (.block 1 (some ⟨[], [0, 4], [15]⟩) (.seq (.seq (.ops false [⟨(some 26), (.mov (.tmp 0)), none, []⟩, ⟨(some 27), (.mov (.tmp 4)), none, []⟩, ⟨(some 28), (.iaddr 2 (.tmp 26) (.tmp 27)), none, []⟩, ⟨(some 29), (.load (some 2) (.tmp 28)), none, []⟩, ⟨(some 30), (.call (.func 59) [(.tmp 29)]), none, []⟩, ⟨(some 5), (.mov (.tmp 30)), none, []⟩]) (.seq (.ops false [⟨(some 31), (.mov (.tmp 5)), none, []⟩, ⟨(some 32), (.bin .neq (.tmp 31) (.const (.int .i64 0))), none, []⟩]) (.cond (.tmp 32) (.seq (.ops false [⟨(some 33), (.mov (.tmp 5)), none, []⟩, ⟨(some 2), (.mov (.tmp 33)), none, []⟩]) .ret) .skip))) (.seq (.ops false [⟨(some 6), (.mov (.const (.int .i64 0))), none, []⟩]) (.block 2 (some ⟨[], [0, 4], [15]⟩) (.loop dk69_0 db69_0))))) (.ops false [⟨(some 24), (.mov (.tmp 4)), none, []⟩, ⟨(some 25), (.bin .add (.tmp 24) (.const (.int .i64 1))), none, []⟩, ⟨(some 4), (.mov (.tmp 25)), none, []⟩])))
def dk69_1 : Keep := ⟨[], [0, 4], [15]⟩
def dc69 : DFunc := ⟨48, 1, [(.tmp 2)], (.seq (.ops false [⟨(some 2), (.mov (.const (.int .i64 0))), none, []⟩]) (.seq (.seq (.ops false [⟨(some 7), (.mov (.tmp 0)), none, []⟩, ⟨(some 8), (.len (.tmp 7)), none, []⟩, ⟨(some 9), (.bin .eql (.tmp 8) (.const (.int .i64 0))), none, []⟩, ⟨(some 10), (.call (.func 95) [(.tmp 9), (.const (.int .i64 12))]), none, []⟩, ⟨(some 11), (.mov (.tmp 0)), none, []⟩, ⟨(some 12), (.len (.tmp 11)), none, []⟩, ⟨(some 13), (.bin .gtr (.tmp 12) (.const (.int .i64 16))), none, []⟩, ⟨(some 14), (.call (.func 95) [(.tmp 13), (.const (.int .i64 5))]), none, []⟩, ⟨(some 15), (.lit true 1 2 (.int .i64 0) [(0, (.tmp 10)), (1, (.tmp 14))]), none, []⟩, ⟨(some 16), (.call (.func 94) [(.tmp 15)]), none, []⟩, ⟨(some 3), (.mov (.tmp 16)), none, []⟩]) (.seq (.ops false [⟨(some 17), (.mov (.tmp 3)), none, []⟩, ⟨(some 18), (.bin .neq (.tmp 17) (.const (.int .i64 0))), none, []⟩]) (.cond (.tmp 18) (.seq (.ops false [⟨(some 19), (.mov (.tmp 3)), none, []⟩, ⟨(some 2), (.mov (.tmp 19)), none, []⟩]) .ret) .skip))) (.seq (.seq (.ops false [⟨(some 4), (.mov (.const (.int .i64 0))), none, []⟩]) (.block 0 (some ⟨[], [], [15]⟩) (.loop dk69_1 db69_1))) (.seq (.ops false [⟨(some 2), (.mov (.const (.int .i64 0))), none, []⟩]) .ret))))⟩
theorem dh69 : cProg Go.Proofs.Tryz.prog ⟨[(0, ⟨[], [0, 4], [15]⟩), (2, ⟨[], [0, 4, 6], [15]⟩)], [(2, ⟨[], [0, 4], [15]⟩), (1, ⟨[], [0, 4], [15]⟩), (0, ⟨[], [], [15]⟩)], [15]⟩ 69 = some dc69 := by kernel_rfl
def db70_0 : DC := (.seq (.seq (.ops false [⟨(some 19), (.mov (.tmp 4)), none, []⟩, ⟨(some 20), (.mov (.tmp 0)), none, []⟩, ⟨(some 21), (.len (.tmp 20)), none, []⟩, ⟨(some 22), (.bin .lss (.tmp 19) (.tmp 21)), none, []⟩]) (.cond (.tmp 22) .skip (.exit 0))) (.seq (.block 1 none (.seq (.ops true [⟨(some 25), (.mov (.tmp 0)), none, []⟩, ⟨(some 26), (.mov (.tmp 4)), none, []⟩, ⟨(some 27), (.iaddr 3 (.tmp 25) (.tmp 26)), none, [0, 1]⟩, ⟨(some 28), (.faddr 0 1 false (.tmp 27)), none, [2, 0, 1]⟩, ⟨(some 29), (.load none (.tmp 28)), none, [3, 2, 0, 1]⟩, ⟨(some 30), (.call (.func 96) [(.tmp 29), (.const (.int .i64 (-1000))), (.const (.int .i64 1000))]), none, [4, 3, 2, 0, 1]⟩, ⟨(some 31), (.mov (.tmp 0)), none, []⟩, ⟨(some 32), (.mov (.tmp 4)), none, []⟩, ⟨(some 33), (.iaddr 3 (.tmp 31) (.tmp 32)), none, [6, 7]⟩, ⟨(some 34), (.faddr 1 1 false (.tmp 33)), none, [8, 6, 7]⟩, ⟨(some 35), (.load none (.tmp 34)), none, [9, 8, 6, 7]⟩, ⟨(some 36), (.call (.func 96) [(.tmp 35), (.const (.int .i64 (-1000))), (.const (.int .i64 1000))]), none, [10, 9, 8, 6, 7, 5, 4, 3, 2, 0, 1]⟩, ⟨(some 37), (.mov (.tmp 0)), none, []⟩, ⟨(some 38), (.mov (.tmp 4)), none, []⟩, ⟨(some 39), (.iaddr 3 (.tmp 37) (.tmp 38)), none, [12, 13]⟩, ⟨(some 40), (.faddr 2 1 false (.tmp 39)), none, [14, 12, 13]⟩, ⟨(some 41), (.load none (.tmp 40)), none, [15, 14, 12, 13]⟩, ⟨(some 42), (.call (.func 96) [(.tmp 41), (.const (.int .i64 (-1000))), (.const (.int .i64 1000))]), none, [16, 15, 14, 12, 13, 11, 10, 9, 8, 6, 7, 5, 4, 3, 2, 0, 1]⟩, ⟨(some 43), (.lit true 1 3 (.int .i64 0) [(0, (.tmp 30)), (1, (.tmp 36)), (2, (.tmp 42))]), none, [5, 4, 3, 2, 0, 1, 11, 10, 9, 8, 6, 7, 17, 16, 15, 14, 12, 13]⟩, ⟨(some 44), (.call (.func 94) [(.tmp 43)]), none, [18, 5, 4, 3, 2, 0, 1, 11, 10, 9, 8, 6, 7, 17, 16, 15, 14, 12, 13]⟩, ⟨(some 5), (.mov (.tmp 44)), none, [19, 18, 5, 4, 3, 2, 0, 1, 11, 10, 9, 8, 6, 7, 17, 16, 15, 14, 12, 13]⟩]) (.seq (.ops false [⟨(some 45), (.mov (.tmp 5)), none, []⟩, ⟨(some 46), (.bin .neq (.tmp 45) (.const (.int .i64 0))), none, []⟩]) (.cond (.tmp 46) (.seq (.ops false [⟨(some 47), (.mov (.tmp 5)), none, []⟩, ⟨(some 2), (.mov (.tmp 47)), none, []⟩]) .ret) .skip)))) (.ops false [⟨(some 23), (.mov (.tmp 4)), none, []⟩, ⟨(some 24), (.bin .add (.tmp 23) (.const (.int .i64 1))), none, []⟩, ⟨(some 4), (.mov (.tmp 24)), none, []⟩])))
def dk70_0 : Keep := ⟨[], [0, 4], [14]⟩
def dc70 : DFunc := ⟨48, 1, [(.tmp 2)], (.seq (.ops false [⟨(some 2), (.mov (.const (.int .i64 0))), none, []⟩]) (.seq (.seq (.ops false [⟨(some 6), (.mov (.tmp 0)), none, []⟩, ⟨(some 7), (.len (.tmp 6)), none, []⟩, ⟨(some 8), (.bin .eql (.tmp 7) (.const (.int .i64 0))), none, []⟩, ⟨(some 9), (.call (.func 95) [(.tmp 8), (.const (.int .i64 12))]), none, []⟩, ⟨(some 10), (.mov (.tmp 0)), none, []⟩, ⟨(some 11), (.len (.tmp 10)), none, []⟩, ⟨(some 12), (.bin .gtr (.tmp 11) (.const (.int .i64 64))), none, []⟩, ⟨(some 13), (.call (.func 95) [(.tmp 12), (.const (.int .i64 5))]), none, []⟩, ⟨(some 14), (.lit true 1 2 (.int .i64 0) [(0, (.tmp 9)), (1, (.tmp 13))]), none, []⟩, ⟨(some 15), (.call (.func 94) [(.tmp 14)]), none, []⟩, ⟨(some 3), (.mov (.tmp 15)), none, []⟩]) (.seq (.ops false [⟨(some 16), (.mov (.tmp 3)), none, []⟩, ⟨(some 17), (.bin .neq (.tmp 16) (.const (.int .i64 0))), none, []⟩]) (.cond (.tmp 17) (.seq (.ops false [⟨(some 18), (.mov (.tmp 3)), none, []⟩, ⟨(some 2), (.mov (.tmp 18)), none, []⟩]) .ret) .skip))) (.seq (.seq (.ops false [⟨(some 4), (.mov (.const (.int .i64 0))), none, []⟩]) (.block 0 (some ⟨[], [], [14]⟩) (.loop dk70_0 db70_0))) (.seq (.ops false [⟨(some 2), (.mov (.const (.int .i64 0))), none, []⟩]) .ret))))⟩
theorem dh70 : cProg Go.Proofs.Tryz.prog ⟨[(0, ⟨[], [0, 4], [14]⟩)], [(0, ⟨[], [], [14]⟩)], [14, 43]⟩ 70 = some dc70 := by kernel_rfl
def db71_0 : DC := (.seq (.seq (.ops false [⟨(some 10), (.mov (.tmp 9)), none, []⟩, ⟨(some 11), (.mov (.tmp 0)), none, []⟩, ⟨(some 12), (.len (.tmp 11)), none, []⟩, ⟨(some 13), (.bin .lss (.tmp 10) (.tmp 12)), none, []⟩]) (.cond (.tmp 13) .skip (.exit 0))) (.seq (.block 1 none (.seq (.ops true [⟨(some 16), (.mov (.tmp 0)), none, []⟩, ⟨(some 17), (.mov (.tmp 9)), none, []⟩, ⟨(some 18), (.iaddr 2 (.tmp 16) (.tmp 17)), none, [0, 1]⟩, ⟨(some 19), (.load (some 2) (.tmp 18)), none, [2, 0, 1]⟩, ⟨(some 20), (.load (some 2) (.tmp 4)), none, []⟩, ⟨(some 21), (.load (some 3) (.tmp 5)), none, []⟩, ⟨(some 22), (.call (.func 63) [(.tmp 19), (.tmp 20), (.tmp 21)]), none, [3, 2, 0, 1, 4, 5]⟩, ⟨(some 23), (.mov (.tmp 22)), none, [6, 3, 2, 0, 1, 4, 5]⟩, ⟨(some 24), (.mov (.tmp 8)), (some (23, true)), [7, 6, 3, 2, 0, 1, 4, 5]⟩, ⟨(some 25), (.bin .lss (.tmp 24) (.const (.int .i64 0))), (some (23, true)), [8, 7, 6, 3, 2, 0, 1, 4, 5]⟩, ⟨(some 26), (.mov (.tmp 25)), (some (23, true)), [9, 8, 7, 6, 3, 2, 0, 1, 4, 5]⟩, ⟨(some 27), (.mov (.tmp 0)), (some (26, false)), [10, 9, 8, 7, 6, 3, 2, 0, 1, 4, 5]⟩, ⟨(some 28), (.mov (.tmp 9)), (some (26, false)), [10, 9, 8, 7, 6, 3, 2, 0, 1, 4, 5]⟩, ⟨(some 29), (.iaddr 2 (.tmp 27) (.tmp 28)), (some (26, false)), [11, 10, 9, 8, 7, 6, 3, 2, 0, 1, 4, 5, 12]⟩, ⟨(some 30), (.load (some 2) (.tmp 29)), (some (26, false)), [13, 11, 10, 9, 8, 7, 6, 3, 2, 0, 1, 4, 5, 12]⟩, ⟨(some 31), (.load (some 3) (.tmp 5)), (some (26, false)), [10, 9, 8, 7, 6, 3, 2, 0, 1, 4, 5]⟩, ⟨(some 32), (.call (.func 61) [(.tmp 30), (.tmp 31)]), (some (26, false)), [14, 13, 11, 10, 9, 8, 7, 6, 3, 2, 0, 1, 4, 5, 12, 15]⟩, ⟨(some 33), (.mov (.tmp 0)), (some (26, false)), [10, 9, 8, 7, 6, 3, 2, 0, 1, 4, 5]⟩, ⟨(some 34), (.mov (.tmp 8)), (some (26, false)), [10, 9, 8, 7, 6, 3, 2, 0, 1, 4, 5]⟩, ⟨(some 35), (.minmax true (.const (.int .i64 0)) [(.tmp 34)]), (some (26, false)), [18, 10, 9, 8, 7, 6, 3, 2, 0, 1, 4, 5]⟩, ⟨(some 36), (.iaddr 2 (.tmp 33) (.tmp 35)), (some (26, false)), [17, 10, 9, 8, 7, 6, 3, 2, 0, 1, 4, 5, 19, 18]⟩, ⟨(some 37), (.load (some 2) (.tmp 36)), (some (26, false)), [20, 17, 10, 9, 8, 7, 6, 3, 2, 0, 1, 4, 5, 19, 18]⟩, ⟨(some 38), (.load (some 3) (.tmp 5)), (some (26, false)), [10, 9, 8, 7, 6, 3, 2, 0, 1, 4, 5]⟩, ⟨(some 39), (.call (.func 61) [(.tmp 37), (.tmp 38)]), (some (26, false)), [21, 20, 17, 10, 9, 8, 7, 6, 3, 2, 0, 1, 4, 5, 19, 18, 22, 16, 14, 13, 11, 12, 15]⟩, ⟨(some 40), (.bin .gtr (.tmp 32) (.tmp 39)), (some (26, false)), [16, 14, 13, 11, 10, 9, 8, 7, 6, 3, 2, 0, 1, 4, 5, 12, 15, 23, 21, 20, 17, 19, 18, 22]⟩, ⟨(some 41), (.pick (.tmp 26) (.const (.bool true)) (.tmp 40)), (some (23, true)), [10, 9, 8, 7, 6, 3, 2, 0, 1, 4, 5, 24, 16, 14, 13, 11, 12, 15, 23, 21, 20, 17, 19, 18, 22]⟩, ⟨(some 42), (.pick (.tmp 23) (.tmp 41) (.const (.bool false))), none, [7, 6, 3, 2, 0, 1, 4, 5, 25, 10, 9, 8, 24, 16, 14, 13, 11, 12, 15, 23, 21, 20, 17, 19, 18, 22]⟩]) (.cond (.tmp 42) (.ops false [⟨(some 43), (.mov (.tmp 9)), none, []⟩, ⟨(some 8), (.mov (.tmp 43)), none, []⟩]) .skip))) (.ops false [⟨(some 14), (.mov (.tmp 9)), none, []⟩, ⟨(some 15), (.bin .add (.tmp 14) (.const (.int .i64 1))), none, []⟩, ⟨(some 9), (.mov (.tmp 15)), none, []⟩])))
def dk71_0 : Keep := ⟨[], [0, 4, 5, 8, 9], [4, 5]⟩
def dc71 : DFunc := ⟨47, 3, [(.tmp 6), (.tmp 7)], (.seq (.ops false [⟨(some 4), (.box 2 (.tmp 1)), none, []⟩, ⟨(some 5), (.box 3 (.tmp 2)), none, []⟩, ⟨(some 6), (.mov (.const (.int .i64 0))), none, []⟩, ⟨(some 7), (.mov (.const (.int .i64 0))), none, []⟩]) (.seq (.ops false [⟨(some 8), (.mov (.const (.int .i64 (-1)))), none, []⟩]) (.seq (.seq (.ops false [⟨(some 9), (.mov (.const (.int .i64 0))), none, []⟩]) (.block 0 (some ⟨[], [8], [4, 5]⟩) (.loop dk71_0 db71_0))) (.seq (.seq (.ops false [⟨(some 44), (.mov (.tmp 8)), none, []⟩, ⟨(some 45), (.bin .lss (.tmp 44) (.const (.int .i64 0))), none, []⟩]) (.cond (.tmp 45) (.seq (.ops false [⟨(some 6), (.mov (.const (.int .i64 0))), none, []⟩, ⟨(some 7), (.mov (.const (.int .i64 7))), none, []⟩]) .ret) .skip)) (.seq (.ops false [⟨(some 46), (.mov (.tmp 8)), none, []⟩, ⟨(some 6), (.mov (.tmp 46)), none, []⟩, ⟨(some 7), (.mov (.const (.int .i64 0))), none, []⟩]) .ret)))))⟩
theorem dh71 : cProg Go.Proofs.Tryz.prog ⟨[(0, ⟨[], [0, 4, 5, 8, 9], [4, 5]⟩)], [(0, ⟨[], [8], [4, 5]⟩)], []⟩ 71 = some dc71 := by kernel_rfl
def dc72 : DFunc := ⟨38, 4, [(.tmp 8)], (.seq (.ops false [⟨(some 5), (.box 2 (.tmp 1)), none, []⟩, ⟨(some 6), (.box 3 (.tmp 2)), none, []⟩, ⟨(some 8), (.mov (.const (.int .i64 0))), none, []⟩]) (.seq (.seq (.ops false [⟨(some 11), (.mov (.tmp 3)), none, []⟩, ⟨(some 12), (.bin .lss (.tmp 11) (.const (.int .i64 0))), none, []⟩, ⟨(some 13), (.mov (.tmp 12)), none, []⟩, ⟨(some 14), (.mov (.tmp 3)), (some (13, false)), []⟩, ⟨(some 15), (.mov (.tmp 0)), (some (13, false)), []⟩, ⟨(some 16), (.len (.tmp 15)), (some (13, false)), []⟩, ⟨(some 17), (.bin .geq (.tmp 14) (.tmp 16)), (some (13, false)), []⟩, ⟨(some 18), (.pick (.tmp 13) (.const (.bool true)) (.tmp 17)), none, []⟩]) (.cond (.tmp 18) (.seq (.ops false [⟨(some 8), (.mov (.const (.int .i64 10))), none, []⟩]) .ret) .skip)) (.seq (.seq (.ops true [⟨(some 19), (.mov (.tmp 0)), none, []⟩, ⟨(some 20), (.mov (.tmp 3)), none, []⟩, ⟨(some 21), (.iaddr 2 (.tmp 19) (.tmp 20)), none, [0, 1]⟩, ⟨(some 22), (.load (some 2) (.tmp 21)), none, [2, 0, 1]⟩, ⟨(some 23), (.load (some 2) (.tmp 5)), none, []⟩, ⟨(some 24), (.load (some 3) (.tmp 6)), none, []⟩, ⟨(some 25), (.call (.func 63) [(.tmp 22), (.tmp 23), (.tmp 24)]), none, [3, 2, 0, 1, 4, 5]⟩, ⟨(some 26), (.un .not (.tmp 25)), none, [6, 3, 2, 0, 1, 4, 5]⟩]) (.cond (.tmp 26) (.seq (.ops false [⟨(some 8), (.mov (.const (.int .i64 32))), none, []⟩]) .ret) .skip)) (.seq (.ops false [⟨(some 28), (.mov (.tmp 0)), none, []⟩, ⟨(some 29), (.load (some 2) (.tmp 5)), none, []⟩, ⟨(some 30), (.load (some 3) (.tmp 6)), none, []⟩, ⟨(some 31), (.call (.func 71) [(.tmp 28), (.tmp 29), (.tmp 30)]), none, []⟩, ⟨(some 27), (.mov (.tmp 31)), none, []⟩, ⟨(some 32), (.extract (.tmp 27) 0), none, []⟩, ⟨(some 33), (.extract (.tmp 27) 1), none, []⟩, ⟨(some 9), (.mov (.tmp 32)), none, []⟩, ⟨(some 10), (.mov (.tmp 33)), none, []⟩]) (.seq (.ops false [⟨(some 34), (.mov (.tmp 9)), none, []⟩, ⟨(some 35), (.mov (.tmp 3)), none, []⟩, ⟨(some 36), (.bin .neq (.tmp 34) (.tmp 35)), none, []⟩, ⟨(some 37), (.call (.func 95) [(.tmp 36), (.const (.int .i64 19))]), none, []⟩, ⟨(some 8), (.mov (.tmp 37)), none, []⟩]) .ret)))))⟩
theorem dh72 : cProg Go.Proofs.Tryz.prog ⟨[], [], []⟩ 72 = some dc72 := by kernel_rfl
def db73_0 : DC := (.seq (.seq (.ops false [⟨(some 11), (.mov (.tmp 8)), none, []⟩, ⟨(some 12), (.mov (.tmp 2)), none, []⟩, ⟨(some 13), (.len (.tmp 12)), none, []⟩, ⟨(some 14), (.bin .lss (.tmp 11) (.tmp 13)), none, []⟩]) (.cond (.tmp 14) .skip (.exit 0))) (.seq (.block 1 none (.seq (.ops false [⟨(some 9), (.mov (.const (.int .i64 0))), none, []⟩, ⟨(some 10), (.mov (.const (.int .i64 7))), none, []⟩]) (.seq (.seq (.ops false [⟨(some 17), (.mov (.tmp 2)), none, []⟩, ⟨(some 18), (.mov (.tmp 8)), none, []⟩, ⟨(some 19), (.iaddr 3 (.tmp 17) (.tmp 18)), none, []⟩, ⟨(some 20), (.faddr 2 1 false (.tmp 19)), none, []⟩, ⟨(some 21), (.load none (.tmp 20)), none, []⟩, ⟨(some 22), (.bin .gtr (.tmp 21) (.const (.int .i64 0))), none, []⟩]) (.cond (.tmp 22) (.ops true [⟨(some 24), (.mov (.tmp 0)), none, []⟩, ⟨(some 25), (.load (some 2) (.tmp 4)), none, []⟩, ⟨(some 26), (.mov (.tmp 2)), none, []⟩, ⟨(some 27), (.mov (.tmp 8)), none, []⟩, ⟨(some 28), (.iaddr 3 (.tmp 26) (.tmp 27)), none, [2, 3]⟩, ⟨(some 29), (.load (some 3) (.tmp 28)), none, [4, 2, 3]⟩, ⟨(some 30), (.call (.func 71) [(.tmp 24), (.tmp 25), (.tmp 29)]), none, [0, 1, 5, 4, 2, 3]⟩, ⟨(some 23), (.mov (.tmp 30)), none, [6, 0, 1, 5, 4, 2, 3]⟩, ⟨(some 31), (.extract (.tmp 23) 0), none, [7, 6, 0, 1, 5, 4, 2, 3]⟩, ⟨(some 32), (.extract (.tmp 23) 1), none, [7, 6, 0, 1, 5, 4, 2, 3]⟩, ⟨(some 9), (.mov (.tmp 31)), none, [8, 7, 6, 0, 1, 5, 4, 2, 3]⟩, ⟨(some 10), (.mov (.tmp 32)), none, [9, 7, 6, 0, 1, 5, 4, 2, 3, 10, 8]⟩]) .skip)) (.seq (.seq (.ops false [⟨(some 33), (.mov (.tmp 10)), none, []⟩, ⟨(some 34), (.bin .neq (.tmp 33) (.const (.int .i64 0))), none, []⟩]) (.cond (.tmp 34) (.ops false [⟨(some 9), (.mov (.const (.int .i64 (-1)))), none, []⟩]) .skip)) (.ops false [⟨(some 35), (.mov (.tmp 7)), none, []⟩, ⟨(some 36), (.mov (.tmp 9)), none, []⟩, ⟨(some 37), (.lit true 1 1 (.int .i64 0) [(0, (.tmp 36))]), none, []⟩, ⟨(some 38), (.append false 1 (.tmp 35) (.tmp 37)), none, []⟩, ⟨(some 7), (.mov (.tmp 38)), none, []⟩]))))) (.ops false [⟨(some 15), (.mov (.tmp 8)), none, []⟩, ⟨(some 16), (.bin .add (.tmp 15) (.const (.int .i64 1))), none, []⟩, ⟨(some 8), (.mov (.tmp 16)), none, []⟩])))
def dk73_0 : Keep := ⟨[(7, 1)], [0, 2, 4, 7, 8], [4, 7]⟩
def dc73 : DFunc := ⟨40, 3, [(.tmp 6)], (.seq (.ops false [⟨(some 4), (.box 2 (.tmp 1)), none, []⟩, ⟨(some 6), (.mov (.const (.slice none 0 0))), none, []⟩]) (.seq (.ops false [⟨(some 7), (.mov (.const (.slice none 0 0))), none, []⟩]) (.seq (.seq (.ops false [⟨(some 8), (.mov (.const (.int .i64 0))), none, []⟩]) (.block 0 (some ⟨[], [7], [4, 7]⟩) (.loop dk73_0 db73_0))) (.seq (.ops false [⟨(some 39), (.mov (.tmp 7)), none, []⟩, ⟨(some 6), (.mov (.tmp 39)), none, []⟩]) .ret))))⟩
theorem dh73 : cProg Go.Proofs.Tryz.prog ⟨[(0, ⟨[(7, 1)], [0, 2, 4, 7, 8], [4, 7]⟩)], [(0, ⟨[], [7], [4, 7]⟩)], [37]⟩ 73 = some dc73 := by kernel_rfl
end Sh


set_option maxRecDepth 100000
namespace Sh
open Go
def db94_0 : DC := (.seq (.seq (.ops false [⟨(some 4), (.mov (.tmp 3)), none, []⟩, ⟨(some 5), (.mov (.tmp 0)), none, []⟩, ⟨(some 6), (.len (.tmp 5)), none, []⟩, ⟨(some 7), (.bin .lss (.tmp 4) (.tmp 6)), none, []⟩]) (.cond (.tmp 7) .skip (.exit 0))) (.seq (.block 1 none (.seq (.ops false [⟨(some 10), (.mov (.tmp 0)), none, []⟩, ⟨(some 11), (.mov (.tmp 3)), none, []⟩, ⟨(some 12), (.iaddr 1 (.tmp 10) (.tmp 11)), none, []⟩, ⟨(some 13), (.load none (.tmp 12)), none, []⟩, ⟨(some 14), (.bin .neq (.tmp 13) (.const (.int .i64 0))), none, []⟩]) (.cond (.tmp 14) (.seq (.ops false [⟨(some 15), (.mov (.tmp 0)), none, []⟩, ⟨(some 16), (.mov (.tmp 3)), none, []⟩, ⟨(some 17), (.iaddr 1 (.tmp 15) (.tmp 16)), none, []⟩, ⟨(some 18), (.load none (.tmp 17)), none, []⟩, ⟨(some 2), (.mov (.tmp 18)), none, []⟩]) .ret) .skip))) (.ops false [⟨(some 8), (.mov (.tmp 3)), none, []⟩, ⟨(some 9), (.bin .add (.tmp 8) (.const (.int .i64 1))), none, []⟩, ⟨(some 3), (.mov (.tmp 9)), none, []⟩])))
def dk94_0 : Keep := ⟨[], [0, 3], []⟩
def dc94 : DFunc := ⟨19, 1, [(.tmp 2)], (.seq (.ops false [⟨(some 2), (.mov (.const (.int .i64 0))), none, []⟩]) (.seq (.seq (.ops false [⟨(some 3), (.mov (.const (.int .i64 0))), none, []⟩]) (.block 0 (some ⟨[], [], []⟩) (.loop dk94_0 db94_0))) (.seq (.ops false [⟨(some 2), (.mov (.const (.int .i64 0))), none, []⟩]) .ret)))⟩
theorem dh94 : cProg Go.Proofs.Tryz.prog ⟨[(0, ⟨[], [0, 3], []⟩)], [(0, ⟨[], [], []⟩)], []⟩ 94 = some dc94 := by kernel_rfl
def dc95 : DFunc := ⟨7, 2, [(.tmp 4)], (.seq (.ops false [⟨(some 4), (.mov (.const (.int .i64 0))), none, []⟩]) (.seq (.seq (.ops false [⟨(some 5), (.mov (.tmp 0)), none, []⟩]) (.cond (.tmp 5) (.seq (.ops false [⟨(some 6), (.mov (.tmp 1)), none, []⟩, ⟨(some 4), (.mov (.tmp 6)), none, []⟩]) .ret) .skip)) (.seq (.ops false [⟨(some 4), (.mov (.const (.int .i64 0))), none, []⟩]) .ret)))⟩
theorem dh95 : cProg Go.Proofs.Tryz.prog ⟨[], [], []⟩ 95 = some dc95 := by kernel_rfl
def dc96 : DFunc := ⟨16, 3, [(.tmp 6)], (.seq (.ops false [⟨(some 6), (.mov (.const (.int .i64 0))), none, []⟩]) (.seq (.ops false [⟨(some 7), (.mov (.tmp 0)), none, []⟩, ⟨(some 8), (.mov (.tmp 1)), none, []⟩, ⟨(some 9), (.bin .lss (.tmp 7) (.tmp 8)), none, []⟩, ⟨(some 10), (.mov (.tmp 9)), none, []⟩, ⟨(some 11), (.mov (.tmp 0)), (some (10, false)), []⟩, ⟨(some 12), (.mov (.tmp 2)), (some (10, false)), []⟩, ⟨(some 13), (.bin .gtr (.tmp 11) (.tmp 12)), (some (10, false)), []⟩, ⟨(some 14), (.pick (.tmp 10) (.const (.bool true)) (.tmp 13)), none, []⟩, ⟨(some 15), (.call (.func 95) [(.tmp 14), (.const (.int .i64 3))]), none, []⟩, ⟨(some 6), (.mov (.tmp 15)), none, []⟩]) .ret))⟩
theorem dh96 : cProg Go.Proofs.Tryz.prog ⟨[], [], []⟩ 96 = some dc96 := by kernel_rfl
end Sh


set_option maxRecDepth 100000
namespace Sh
open Go
def dc128 : DFunc := ⟨14, 2, [(.tmp 4)], (.seq (.ops false [⟨(some 2), (.box 2 (.tmp 0)), none, []⟩, ⟨(some 3), (.box 3 (.tmp 1)), none, []⟩, ⟨(some 4), (.mov (.const (.int .i64 0))), none, []⟩]) (.seq (.ops false [⟨(some 6), (.load (some 2) (.tmp 2)), none, []⟩, ⟨(some 7), (.load (some 3) (.tmp 3)), none, []⟩, ⟨(some 8), (.call (.func 61) [(.tmp 6), (.tmp 7)]), none, []⟩, ⟨(some 9), (.bin .mul (.const (.int .i64 2)) (.tmp 8)), none, []⟩, ⟨(some 5), (.mov (.tmp 9)), none, []⟩]) (.seq (.ops false [⟨(some 10), (.mov (.tmp 5)), none, []⟩, ⟨(some 11), (.mov (.tmp 5)), none, []⟩, ⟨(some 12), (.bin .sub (.const (.int .i64 0)) (.tmp 11)), none, []⟩, ⟨(some 13), (.minmax true (.tmp 10) [(.tmp 12)]), none, []⟩, ⟨(some 4), (.mov (.tmp 13)), none, []⟩]) .ret)))⟩
theorem dh128 : cProg Go.Proofs.Tryz.prog ⟨[], [], []⟩ 128 = some dc128 := by kernel_rfl
end Sh


set_option maxRecDepth 100000
namespace Sh
open Go
def dc16 : DFunc := ⟨6, 1, [(.tmp 2)], (.seq (.ops false [⟨(some 2), (.mov (.const (.slice none 0 0))), none, []⟩]) (.seq (.ops false [⟨(some 3), (.lit true 3 0 (.agg [(.int .i64 0), (.int .i64 0), (.int .i64 0)]) []), none, []⟩, ⟨(some 4), (.mov (.tmp 0)), none, []⟩, ⟨(some 5), (.append true 3 (.tmp 3) (.tmp 4)), none, []⟩, ⟨(some 2), (.mov (.tmp 5)), none, []⟩]) .ret))⟩
theorem dh16 : cProg Go.Proofs.Tryz.prog ⟨[], [], [3, 5]⟩ 16 = some dc16 := by kernel_rfl
def dc20 : DFunc := ⟨5, 1, [(.tmp 2)], (.seq (.ops false [⟨(some 2), (.mov (.const (.int .i64 0))), none, []⟩]) (.seq (.ops false [⟨(some 3), (.mov (.tmp 0)), none, []⟩, ⟨(some 4), (.call (.func 94) [(.tmp 3)]), none, []⟩, ⟨(some 2), (.mov (.tmp 4)), none, []⟩]) .ret))⟩
theorem dh20 : cProg Go.Proofs.Tryz.prog ⟨[], [], []⟩ 20 = some dc20 := by kernel_rfl
def dc22 : DFunc := ⟨14, 1, [(.tmp 2)], (.seq (.ops false [⟨(some 1), (.box 3 (.tmp 0)), none, []⟩, ⟨(some 2), (.mov (.const (.int .i64 0))), none, []⟩]) (.seq (.ops true [⟨(some 3), (.faddr 0 1 false (.tmp 1)), none, []⟩, ⟨(some 4), (.load none (.tmp 3)), none, [0]⟩, ⟨(some 5), (.call (.func 96) [(.tmp 4), (.const (.int .i64 (-1000))), (.const (.int .i64 1000))]), none, [1, 0]⟩, ⟨(some 6), (.faddr 1 1 false (.tmp 1)), none, []⟩, ⟨(some 7), (.load none (.tmp 6)), none, [3]⟩, ⟨(some 8), (.call (.func 96) [(.tmp 7), (.const (.int .i64 (-1000))), (.const (.int .i64 1000))]), none, [4, 3, 2, 1, 0]⟩, ⟨(some 9), (.faddr 2 1 false (.tmp 1)), none, []⟩, ⟨(some 10), (.load none (.tmp 9)), none, [6]⟩, ⟨(some 11), (.call (.func 96) [(.tmp 10), (.const (.int .i64 1)), (.const (.int .i64 1000))]), none, [7, 6, 5, 4, 3, 2, 1, 0]⟩, ⟨(some 12), (.lit true 1 3 (.int .i64 0) [(0, (.tmp 5)), (1, (.tmp 8)), (2, (.tmp 11))]), none, [2, 1, 0, 5, 4, 3, 8, 7, 6]⟩, ⟨(some 13), (.call (.func 94) [(.tmp 12)]), none, [9, 2, 1, 0, 5, 4, 3, 8, 7, 6]⟩, ⟨(some 2), (.mov (.tmp 13)), none, [10, 9, 2, 1, 0, 5, 4, 3, 8, 7, 6]⟩]) .ret))⟩
theorem dh22 : cProg Go.Proofs.Tryz.prog ⟨[], [], [12]⟩ 22 = some dc22 := by kernel_rfl
end Sh


set_option maxRecDepth 100000
set_option linter.unusedSimpArgs false
set_option linter.unusedVariables false
namespace Sh
open Go Go.Proofs
theorem q_When (b : Bool) (e : Int) : PC 95 [.bool b, DV.int .i64 (e)] (DV.int .i64 (whenE b e)) := by
  refine pureCall_ofR dh95 rfl ?_
  conv => whnf
  refine ⟨fun hb => ?_, fun hb => ?_⟩ <;> try (exact absurd hb (by decide))
  all_goals conv => whnf
  all_goals subst hb; rfl
theorem q_CheckRange (n l h : Int) : PC 96 [DV.int .i64 (n), DV.int .i64 (l), DV.int .i64 (h)] (DV.int .i64 (withE n l h)) := by
  refine pureCall_ofR dh96 rfl ?_
  conv => whnf
  refine ⟨fun hb => ?_, fun hb => ?_⟩ <;> try (exact absurd hb (by decide))
  all_goals conv => whnf
  · refine .inl ?_
    conv => whnf
    refine ⟨_, q_When .., ?_⟩
    conv => whnf
    exact int_eq (by simp_all [withE, whenE]; split <;> split <;> omega)
  · refine .inl ?_
    conv => whnf
    refine ⟨_, q_When .., ?_⟩
    conv => whnf
    exact int_eq (by simp_all [withE, whenE])
theorem q_First (l : List Int) (hl : l.length < 4611686018427387904) : PC 94 [iL l] (DV.int .i64 (firstE l)) := by
  refine pureCall_ofR dh94 rfl ?_
  conv => whnf
  refine dwp_loopR (P := Tryz.prog) (G := GC) (k := dk94_0) (b := db94_0) (α := Nat) (fun i => [(0, iL l), (3, DV.int .i64 (i))]) (fun _ => []) (fun i => i ≤ l.length ∧ firstE l = firstE (l.drop i)) (fun i => l.length - i) 0 ⟨rfl, rfl, rfl⟩ ⟨Nat.zero_le _, rfl⟩ ?_
  intro i ⟨h1, h2⟩
  conv => whnf
  refine ⟨fun hb => ?_, fun hb => ?_⟩ <;> try (exact absurd hb (by decide))
  · have hi : i < l.length := by simpa using hb
    have hd := firstE_drop l i hi
    conv => whnf
    rw [getD_enc _ _ (i) 0 hi]
    refine ⟨idxA hi rfl, ?_⟩
    conv => whnf
    refine ⟨fun hb => ?_, fun hb => ?_⟩ <;> try (exact absurd hb (by decide))
    · conv => whnf
      rw [getD_enc _ _ (i) 0 hi]
      refine ⟨idxA hi rfl, ?_⟩
      conv => whnf
      exact int_eq (by simp_all)
    · conv => whnf
      rw [wrap_succ i (by omega)]
      exact ⟨i + 1, rfl, rfl, rfl, ⟨hi, by simp_all⟩, by omega⟩
  · conv => whnf
    have : i = l.length := by simp at hb; omega
    subst this
    exact int_eq (by rw [h2]; simp [firstE])
end Sh


set_option linter.unusedSimpArgs false
set_option linter.unusedVariables false
namespace Sh
open Go
theorem rulB_spec (l : List Pt) (p : Pt) (sun : V3) : ∀ k : Nat, (rulB l p sun k = -1 ∧ ∀ i, i < k → freeB (l.getD i P0) p sun = false) ∨
    (∃ n : Nat, rulB l p sun k = n ∧ n < k ∧ freeB (l.getD n P0) p sun = true ∧ ∀ i, i < k → freeB (l.getD i P0) p sun = true → acr (l.getD i P0) sun ≤ acr (l.getD n P0) sun ∧ (acr (l.getD i P0) sun = acr (l.getD n P0) sun → n ≤ i))
  | 0 => .inl ⟨rfl, fun i h => by omega⟩
  | k + 1 => by
    unfold rulB
    cases hf : freeB (l.getD k P0) p sun with
    | false =>
      rw [Bool.false_and]
      rw [if_neg (by simp)]
      rcases rulB_spec l p sun k with ⟨h1, h2⟩ | ⟨n, h1, h2, h3, h4⟩
      · refine .inl ⟨h1, fun i hi => ?_⟩
        by_cases e : i = k
        · subst e; exact hf
        · exact h2 i (by omega)
      · refine .inr ⟨n, h1, by omega, h3, fun i hi hfi => ?_⟩
        by_cases e : i = k
        · subst e; rw [hf] at hfi; cases hfi
        · exact h4 i (by omega) hfi
    | true =>
      rw [Bool.true_and]
      rcases rulB_spec l p sun k with ⟨h1, h2⟩ | ⟨n, h1, h2, h3, h4⟩
      · rw [h1, if_pos (by simp)]
        refine .inr ⟨k, rfl, by omega, hf, fun i hi hfi => ?_⟩
        by_cases e : i = k
        · subst e; exact ⟨Int.le_refl _, fun _ => Nat.le_refl _⟩
        · rw [h2 i (by omega)] at hfi; cases hfi
      · rw [h1, Int.toNat_natCast]
        by_cases hg : acr (l.getD n P0) sun < acr (l.getD k P0) sun
        · rw [if_pos (by rw [decide_eq_true hg, Bool.or_true])]
          refine .inr ⟨k, rfl, by omega, hf, fun i hi hfi => ?_⟩
          by_cases e : i = k
          · subst e; exact ⟨Int.le_refl _, fun _ => Nat.le_refl _⟩
          · have := h4 i (by omega) hfi
            exact ⟨by omega, fun h => by omega⟩
        · rw [if_neg (by rw [decide_eq_false hg, decide_eq_false (by omega : ¬ (n : Int) < 0)]; decide)]
          refine .inr ⟨n, rfl, by omega, h3, fun i hi hfi => ?_⟩
          by_cases e : i = k
          · subst e; exact ⟨by omega, fun _ => by omega⟩
          · exact h4 i (by omega) hfi
end Sh


set_option maxRecDepth 100000
set_option linter.unusedSimpArgs false
set_option linter.unusedVariables false
namespace Sh
open Go Go.Proofs
theorem r_CheckSun (v : V3) : PC 22 [encV v] (DV.int .i64 (chkSun v)) := by
  refine pureCall_ofR dh22 rfl ?_
  conv => whnf
  repeat' (first
    | (refine ⟨fun hg => ?_, fun hg => ?_⟩ <;> first | contradiction | (conv => whnf))
    | (refine Or.inl ?_; conv => whnf)
    | (refine ⟨_, q_CheckRange .., ?_⟩; conv => whnf)
    | (refine ⟨_, q_First [_, _, _] (by simp), ?_⟩; conv => whnf)
    | (refine And.intro ?_ ?_; kernel_rfl; conv => whnf))
  rfl
theorem r_CheckTilt (p : Pt) : PC 59 [encPt p] (DV.int .i64 (chkTilt p)) := by
  refine pureCall_ofR dh59 rfl ?_
  conv => whnf
  repeat' (first
    | (refine ⟨fun hg => ?_, fun hg => ?_⟩ <;> first | contradiction | (conv => whnf))
    | (refine Or.inl ?_; conv => whnf)
    | (refine ⟨_, q_CheckRange .., ?_⟩; conv => whnf)
    | (refine ⟨_, q_First [_, _] (by simp), ?_⟩; conv => whnf)
    | (refine And.intro ?_ ?_; kernel_rfl; conv => whnf))
  rfl
theorem r_CheckPitch (p : Pt) : PC 60 [encPt p] (DV.int .i64 (chkPitch p)) := by
  refine pureCall_ofR dh60 rfl ?_
  conv => whnf
  repeat' (first
    | (refine ⟨fun hg => ?_, fun hg => ?_⟩ <;> first | contradiction | (conv => whnf))
    | (refine Or.inl ?_; conv => whnf)
    | (refine ⟨_, q_CheckRange .., ?_⟩; conv => whnf)
    | (refine ⟨_, q_First [_, _] (by simp), ?_⟩; conv => whnf)
    | (refine And.intro ?_ ?_; kernel_rfl; conv => whnf))
  rfl
end Sh


set_option maxRecDepth 100000
set_option linter.unusedSimpArgs false
set_option linter.unusedVariables false
namespace Sh
open Go Go.Proofs
theorem map_getD {α : Type} (g : α → Int) (l : List α) (i : Nat) (d : α) (h : i < l.length) : (l.map g).getD i 0 = g (l.getD i d) := by simp [List.getD_eq_getElem?_getD, h]
end Sh


set_option maxRecDepth 100000
set_option linter.unusedSimpArgs false
set_option linter.unusedVariables false
namespace Sh
open Go Go.Proofs
theorem r_Gain (p : Pt) (sun : V3) (hp : OkP p) (hs : bdV 1000 sun) : PC 61 [encPt p, encV sun] (DV.int .i64 (acr p sun)) := by
  refine pureCall_ofR dh61 rfl ?_
  conv => whnf
  exact int_eq (acr_w hp hs)
theorem abs_w0 {n : Int} (h : -2000000 ≤ n ∧ n ≤ 2000000) : (if IntKind.i64.wrap (0 - n) > n then IntKind.i64.wrap (0 - n) else n) = absI n := by
  rw [Int.zero_sub, abs_w h]
theorem r_Room (p : Pt) (sun : V3) (hp : OkP p) (hs : bdV 1000 sun) : PC 62 [encPt p, encV sun] (DV.int .i64 (roomI p sun)) := by
  have hb := acr_bd hp.1 hp.2 hs
  have hw := acr_w hp hs
  refine pureCall_ofR dh62 rfl ?_
  conv => whnf
  rw [hw]
  exact int_eq (abs_w0 hb)
theorem r_twice (p : Pt) (sun : V3) (hp : OkP p) (hs : bdV 1000 sun) : PC 128 [encPt p, encV sun] (DV.int .i64 (widI p sun)) := by
  have k1 := r_Gain p sun hp hs
  have hb := acr_bd hp.1 hp.2 hs
  have h2 : IntKind.i64.wrap (2 * acr p sun) = 2 * acr p sun := wrap_in (by omega) (by omega)
  have h3 : IntKind.i64.wrap (0 - 2 * acr p sun) = -(2 * acr p sun) := by rw [wrap_in (by omega) (by omega)]; omega
  refine pureCall_ofR dh128 rfl ?_
  conv => whnf
  repeat' (first
    | (refine ⟨fun hg => ?_, fun hg => ?_⟩ <;> first | contradiction | (conv => whnf))
    | (refine Or.inl ?_; conv => whnf)
    | (refine ⟨_, k1, ?_⟩; conv => whnf)
    | (refine And.intro ?_ ?_; kernel_rfl; conv => whnf))
  rw [h2, h3]
  exact int_eq (by show (if -(2 * acr p sun) > 2 * acr p sun then -(2 * acr p sun) else 2 * acr p sun) = 2 * absI (acr p sun); unfold absI; split <;> split <;> omega)
theorem r_Free (t p : Pt) (sun : V3) (h1 : OkP t) (h2 : OkP p) (h3 : bdV 1000 sun) : PC 63 [encPt t, encPt p, encV sun] (.bool (freeB t p sun)) := by
  have k1 := r_twice t sun h1 h3
  have k2 := r_Room p sun h2 h3
  refine pureCall_ofR dh63 rfl ?_
  conv => whnf
  repeat' (first
    | (refine ⟨fun hg => ?_, fun hg => ?_⟩ <;> first | contradiction | (conv => whnf))
    | (refine Or.inl ?_; conv => whnf)
    | (refine ⟨_, k1, ?_⟩; conv => whnf)
    | (refine ⟨_, k2, ?_⟩; conv => whnf)
    | (refine And.intro ?_ ?_; kernel_rfl; conv => whnf))
  rfl
end Sh


set_option maxRecDepth 100000
set_option linter.unusedSimpArgs false
set_option linter.unusedVariables false
namespace Sh
open Go Go.Proofs
theorem l_own (s : List V3) (hl : s.length < 1073741824) : PC 16 [shp s] (shp s) := by
  refine pureCall_ofR dh16 rfl ?_
  conv => whnf
  refine ⟨⟨by simp; omega, fun e he => by obtain ⟨v, _, rfl⟩ := List.mem_map.1 he; rfl, fun e he => absurd he List.not_mem_nil⟩, ?_⟩
  conv => whnf
  rfl
theorem l_points (l : List Pt) (hl : l.length < 1073741824) : PC 66 [pts l] (pts l) := by
  refine pureCall_ofR dh66 rfl ?_
  conv => whnf
  refine ⟨⟨by simp; omega, fun e he => by obtain ⟨v, _, rfl⟩ := List.mem_map.1 he; rfl, fun e he => absurd he List.not_mem_nil⟩, ?_⟩
  conv => whnf
  rfl
end Sh


set_option maxRecDepth 100000
set_option linter.unusedSimpArgs false
set_option linter.unusedVariables false
namespace Sh
open Go Go.Proofs
theorem r_CheckTilts (l : List Pt) (hl : l.length < 1073741824) : PC 69 [pts l] (DV.int .i64 (chkTilts l)) := by
  have e0 : ((l.map encPt).length : Int) = l.length := by simp
  have k3 := q_First [whenE (decide (((l.map encPt).length : Int) = 0)) 12, whenE (decide (16 < ((l.map encPt).length : Int))) 5] (by simp)
  have hS : firstE [whenE (decide (((l.map encPt).length : Int) = 0)) 12, whenE (decide (16 < ((l.map encPt).length : Int))) 5] = sizeT_ l := by rw [e0]; rfl
  refine pureCall_ofR dh69 rfl ?_
  conv => whnf
  repeat' (first
    | (refine ⟨fun hg => ?_, fun hg => ?_⟩ <;> first | contradiction | (conv => whnf))
    | (refine Or.inl ?_; conv => whnf)
    | (refine ⟨_, q_When .., ?_⟩; conv => whnf)
    | (refine ⟨_, k3, ?_⟩; conv => whnf)
    | (refine And.intro ?_ ?_; kernel_rfl; conv => whnf))
  · have hg := of_decide_eq_true hg
    rw [hS] at hg ⊢
    exact int_eq (by unfold chkTilts; rw [if_pos hg])
  · have hg := of_decide_eq_false hg
    rw [hS] at hg
    have hc : chkTilts l = firstE (rng l.length (tiltI l)) := if_neg hg
    clear hg hS k3
    refine dwp_loopU (P := Tryz.prog) (G := GC) (k := dk69_1) (b := db69_1) (α := Nat) (fun i => [(4, DV.int .i64 (i))]) (fun _ => []) (fun i => i ≤ l.length ∧ firstE (rng l.length (tiltI l)) = firstE ((rng l.length (tiltI l)).drop i)) (fun i => l.length - i) 0 ⟨Nat.zero_le _, rfl⟩ ?_
    conv => whnf
    refine ⟨rfl, rfl, ?_⟩
    conv => whnf
    refine ⟨rfl, ?_⟩
    intro i ⟨h1, h2⟩
    conv => whnf
    refine ⟨fun hb => ?_, fun hb => ?_⟩
    · have hi : i < l.length := by simpa using hb
      have hd := firstE_drop (rng l.length (tiltI l)) i (by rw [rng_len]; exact hi)
      rw [rng_getDI _ hi] at hd
      have k1 := r_CheckTilt (l.getD i P0)
      have hT : tiltI l i = firstE [chkTilt (l.getD i P0), whenE (findP (l.take i) (l.getD i P0)) 9] := rfl
      clear hb
      conv => whnf
      rw [getD_enc _ _ (i) P0 hi]
      refine ⟨idxA hi rfl, ?_⟩
      conv => whnf
      repeat' (first
        | (refine ⟨fun hg => ?_, fun hg => ?_⟩ <;> first | contradiction | (conv => whnf))
        | (refine Or.inl ?_; conv => whnf)
        | (refine ⟨_, k1, ?_⟩; conv => whnf)
        | (refine And.intro ?_ ?_; kernel_rfl; conv => whnf))
      · have hg : chkTilt (l.getD i P0) ≠ 0 := of_decide_eq_true hg
        have hv : tiltI l i = chkTilt (l.getD i P0) := by rw [hT]; simp only [firstE]; rw [if_pos hg]
        rw [hv, if_pos hg] at hd
        exact int_eq (by rw [hc, h2, hd])
      · have hg : ¬ chkTilt (l.getD i P0) ≠ 0 := of_decide_eq_false hg
        have hv : tiltI l i = whenE (findP (l.take i) (l.getD i P0)) 9 := by
          rw [hT]; simp only [firstE]; rw [if_neg hg]
          generalize whenE (findP (l.take i) (l.getD i P0)) 9 = w
          by_cases e : w = 0
          · rw [if_neg (fun h => h e), e]
          · rw [if_pos e]
        clear hg hT
        refine dwp_loopU (P := Tryz.prog) (G := GC) (k := dk69_0) (b := db69_0) (α := Nat) (fun j => [(6, DV.int .i64 (j))]) (fun _ => []) (fun j => j ≤ i ∧ findP (l.take j) (l.getD i P0) = false) (fun j => i - j) 0 ⟨Nat.zero_le _, rfl⟩ ?_
        conv => whnf
        refine ⟨rfl, rfl, ?_⟩
        conv => whnf
        refine ⟨rfl, ?_⟩
        intro j ⟨j1, j2⟩
        conv => whnf
        refine ⟨fun hb => ?_, fun hb => ?_⟩
        · have hj : j < i := by have := of_decide_eq_true hb; omega
          have hjl : j < l.length := by omega
          have hs : findP (l.take (j + 1)) (l.getD i P0) = samePt (l.getD j P0) (l.getD i P0) := by
            unfold findP at *
            rw [take_snoc l j P0 hjl, List.any_append, j2]; simp
          clear hb
          conv => whnf
          repeat' (first
            | (refine ⟨fun hg => ?_, fun hg => ?_⟩ <;> first | contradiction | (conv => whnf))
            | (refine Or.inl ?_; conv => whnf)
            | (rw [getD_enc _ _ j P0 hjl]; refine ⟨idxA hjl rfl, ?_⟩; conv => whnf)
            | (rw [getD_enc _ _ i P0 hi]; refine ⟨idxA hi rfl, ?_⟩; conv => whnf)
            | (refine And.intro ?_ ?_; kernel_rfl; conv => whnf))
          · have hg : (decide ((l.getD j P0).x = (l.getD i P0).x) && (decide ((l.getD j P0).y = (l.getD i P0).y) && true)) = true := hg
            have hgt : samePt (l.getD j P0) (l.getD i P0) = true := by unfold samePt; rw [Bool.and_true] at hg; exact hg
            have hF : findP (l.take i) (l.getD i P0) = true := by
              unfold findP
              rw [List.any_eq_true]
              refine ⟨l.getD j P0, ?_, hgt⟩
              rw [← show (l.take i).getD j P0 = l.getD j P0 by simp [List.getD_eq_getElem?_getD, List.getElem?_take, hj]]
              exact getD_in P0 (by rw [List.length_take]; omega)
            rw [hF] at hv
            rw [hv, if_pos (by decide)] at hd
            exact int_eq (by rw [hc, h2, hd]; rfl)
          · have hg : (decide ((l.getD j P0).x = (l.getD i P0).x) && (decide ((l.getD j P0).y = (l.getD i P0).y) && true)) = false := hg
            have hgf : samePt (l.getD j P0) (l.getD i P0) = false := by unfold samePt; rw [Bool.and_true] at hg; exact hg
            rw [wrap_succ j (by omega)]
            exact ⟨j + 1, rfl, rfl, rfl, ⟨hj, by rw [hs]; exact hgf⟩, by omega⟩
        · have hj : j = i := by have := of_decide_eq_false hb; omega
          rw [hj] at j2
          rw [j2] at hv
          rw [hv, if_neg (by decide)] at hd
          clear hb
          conv => whnf
          rw [wrap_succ i (by omega)]
          exact ⟨i + 1, rfl, rfl, rfl, ⟨hi, h2.trans hd⟩, by omega⟩
    · have hi : i = l.length := by have := of_decide_eq_false hb; rw [e0] at this; omega
      rw [hi, List.drop_of_length_le (by rw [rng_len]; exact Nat.le_refl _)] at h2
      clear hb
      conv => whnf
      exact int_eq (by rw [hc, h2]; rfl)
end Sh


set_option maxRecDepth 100000
set_option linter.unusedSimpArgs false
set_option linter.unusedVariables false
namespace Sh
open Go Go.Proofs
def rulT (n : Int) : DV := if n < 0 then .tuple [DV.int .i64 (0), DV.int .i64 (7)] else .tuple [DV.int .i64 (n), DV.int .i64 (0)]
theorem r_Rule (l : List Pt) (p : Pt) (sun : V3) (h0 : chkTilts l = 0) (hp : OkP p) (hs : bdV 1000 sun) : PC 71 [pts l, encPt p, encV sun] (rulT (ruleS l p sun)) := by
  have e0 : ((l.map encPt).length : Int) = l.length := by simp
  have h16 := (chkTilts_zero h0).2.1
  have hT : ∀ q ∈ l, OkP q := fun q hq => chkTilt_ok ((chkTilts_zero h0).2.2 q hq)
  refine pureCall_ofR dh71 rfl ?_
  conv => whnf
  refine dwp_loopU (P := Tryz.prog) (G := GC) (k := dk71_0) (b := db71_0) (α := Nat) (fun i => [(8, DV.int .i64 (rulB l p sun i)), (9, DV.int .i64 (i))]) (fun i => [(4, .box 2 (encPt p)), (5, .box 3 (encV sun))]) (fun i => i ≤ l.length) (fun i => l.length - i) 0 (Nat.zero_le _) ?_
  conv => whnf
  refine ⟨rfl, rfl, ?_⟩
  conv => whnf
  refine ⟨rfl, ?_⟩
  intro i j1
  conv => whnf
  refine ⟨fun hb => ?_, fun hb => ?_⟩
  · have hi : i < l.length := by simpa using hb
    have hb2 := rulB_bd l p sun i
    have hr : rulB l p sun (i + 1) = if freeB (l.getD i P0) p sun && (decide (rulB l p sun i < 0) || decide (acr (l.getD (rulB l p sun i).toNat P0) sun < acr (l.getD i P0) sun)) then (i : Int) else rulB l p sun i := rfl
    have k1 := r_Free _ p sun (hT _ (getD_in P0 hi)) hp hs
    have k2 := r_Gain _ sun (hT _ (getD_in P0 hi)) hs
    generalize rulB l p sun i = B at *
    clear hb
    conv => whnf
    rw [getD_enc _ _ (i) P0 hi]
    refine ⟨idxA hi rfl, ?_⟩
    conv => whnf
    repeat' (first
      | (refine ⟨fun hg => ?_, fun hg => ?_⟩ <;> first | contradiction | (conv => whnf))
      | (refine Or.inl ?_; conv => whnf)
      | (refine ⟨_, k1, ?_⟩; conv => whnf)
      | (refine And.intro ?_ ?_; kernel_rfl; conv => whnf))
    · repeat' (first
        | (refine ⟨fun hg => ?_, fun hg => ?_⟩ <;> first | contradiction | (conv => whnf))
        | (refine Or.inl ?_; conv => whnf)
        | (rw [getD_enc _ _ i P0 hi]; refine ⟨idxA hi rfl, ?_⟩; conv => whnf)
        | (refine ⟨_, k2, ?_⟩; conv => whnf)
        | (refine And.intro ?_ ?_; kernel_rfl; conv => whnf))
      · have hB0 : ¬ B < 0 := of_decide_eq_false ‹decide (B < 0) = false›
        have hm : minmaxI true 0 B = B := by
          show (if B > 0 then B else 0) = B
          split <;> omega
        have hBl : B.toNat < l.length := by omega
        have k3 := r_Gain _ sun (hT _ (getD_in P0 hBl)) hs
        rw [hm, getD_enc' _ _ B P0 (by omega) (by omega)]
        refine ⟨idxB (by omega) (by omega) rfl, ?_⟩
        conv => whnf
        repeat' (first
          | (refine ⟨fun hg => ?_, fun hg => ?_⟩ <;> first | contradiction | (conv => whnf))
          | (refine Or.inl ?_; conv => whnf)
          | (refine ⟨_, k3, ?_⟩; conv => whnf)
          | (refine And.intro ?_ ?_; kernel_rfl; conv => whnf))
        · have hF : freeB (l.getD i P0) p sun = true := by assumption
          have hG : decide (acr (l.getD B.toNat P0) sun < acr (l.getD i P0) sun) = true := hg
          rw [wrap_succ i (by omega)]
          refine ⟨i + 1, rfl, ?_, rfl, hi, by omega⟩
          have hv : rulB l p sun (i + 1) = (i : Int) := by rw [hr, hF, hG, Bool.or_true]; rfl
          rw [hv]; rfl
        · have hF : freeB (l.getD i P0) p sun = true := by assumption
          have hG : decide (acr (l.getD B.toNat P0) sun < acr (l.getD i P0) sun) = false := hg
          rw [wrap_succ i (by omega)]
          refine ⟨i + 1, rfl, ?_, rfl, hi, by omega⟩
          have hv : rulB l p sun (i + 1) = B := by rw [hr, hF, hG, decide_eq_false hB0]; rfl
          rw [hv]; rfl
    · have hF : freeB (l.getD i P0) p sun = true := by assumption
      have hB1 : decide (B < 0) = true := by first | assumption | exact ‹decide (B < 0) = !false›
      rw [wrap_succ i (by omega)]
      refine ⟨i + 1, rfl, ?_, rfl, hi, by omega⟩
      have hv : rulB l p sun (i + 1) = (i : Int) := by rw [hr, hF, hB1]; rfl
      rw [hv]; rfl
    · have hF : freeB (l.getD i P0) p sun = false := by first | assumption | exact ‹freeB (l.getD i P0) p sun = !true›
      rw [wrap_succ i (by omega)]
      refine ⟨i + 1, rfl, ?_, rfl, hi, by omega⟩
      have hv : rulB l p sun (i + 1) = B := by rw [hr, hF]; rfl
      rw [hv]; rfl
  · have hi : i = l.length := by have := of_decide_eq_false hb; rw [e0] at this; omega
    clear hb
    conv => whnf
    rw [hi]
    repeat' (first
      | (refine ⟨fun hg => ?_, fun hg => ?_⟩ <;> first | contradiction | (conv => whnf))
      | (refine Or.inl ?_; conv => whnf)
      | (refine And.intro ?_ ?_; kernel_rfl; conv => whnf))
    · have hg : rulB l p sun l.length < 0 := of_decide_eq_true hg
      unfold rulT ruleS
      rw [if_pos hg]; rfl
    · have hg : ¬ rulB l p sun l.length < 0 := of_decide_eq_false hg
      unfold rulT ruleS
      rw [if_neg hg]; rfl
end Sh


set_option maxRecDepth 100000
set_option linter.unusedSimpArgs false
set_option linter.unusedVariables false
namespace Sh
open Go Go.Proofs
def crI (l : List Pt) (p : Pt) (sun : V3) (n : Int) : Int := if n < 0 ∨ (l.length : Int) ≤ n then 10 else if freeB (l.getD n.toNat P0) p sun = false then 32 else whenE (decide (rul0 (ruleS l p sun) ≠ n)) 19
theorem rulT_eq (n : Int) : rulT n = .tuple [DV.int .i64 (rul0 n), DV.int .i64 (if n < 0 then 7 else 0)] := by unfold rulT rul0; split <;> rfl
theorem r_CheckRule (l : List Pt) (p : Pt) (sun : V3) (n : Int) (h0 : chkTilts l = 0) (hp : OkP p) (hs : bdV 1000 sun) : PC 72 [pts l, encPt p, encV sun, DV.int .i64 (n)] (DV.int .i64 (crI l p sun n)) := by
  have e0 : ((l.map encPt).length : Int) = l.length := by simp
  have hT : ∀ q ∈ l, OkP q := fun q hq => chkTilt_ok ((chkTilts_zero h0).2.2 q hq)
  have kR := r_Rule l p sun h0 hp hs
  rw [rulT_eq] at kR
  by_cases hn : n < 0
  · have e : crI l p sun n = 10 := if_pos (.inl hn)
    rw [e]
    have hd : decide (n < 0) = true := decide_eq_true hn
    refine pureCall_ofR dh72 rfl ?_
    conv => whnf
    repeat' (first
      | (refine ⟨fun hg => ?_, fun hg => ?_⟩ <;> first | contradiction | (conv => whnf))
      | (refine Or.inl ?_; conv => whnf)
      | (refine And.intro ?_ ?_; kernel_rfl; conv => whnf))
    all_goals first | rfl | (exfalso; simp_all; done) | skip
  · by_cases hn2 : (l.length : Int) ≤ n
    · have e : crI l p sun n = 10 := if_pos (.inr hn2)
      rw [e]
      refine pureCall_ofR dh72 rfl ?_
      conv => whnf
      repeat' (first
        | (refine ⟨fun hg => ?_, fun hg => ?_⟩ <;> first | contradiction | (conv => whnf))
        | (refine Or.inl ?_; conv => whnf)
        | (refine And.intro ?_ ?_; kernel_rfl; conv => whnf))
      all_goals first | rfl | (exfalso; simp_all; done) | skip
    · have hnl : n.toNat < l.length := by omega
      have k1 := r_Free _ p sun (hT _ (getD_in P0 hnl)) hp hs
      have e : crI l p sun n = if freeB (l.getD n.toNat P0) p sun = false then 32 else whenE (decide (rul0 (ruleS l p sun) ≠ n)) 19 := if_neg (by omega)
      rw [e]
      refine pureCall_ofR dh72 rfl ?_
      conv => whnf
      repeat' (first
        | (refine ⟨fun hg => ?_, fun hg => ?_⟩ <;> first | contradiction | (conv => whnf))
        | (refine Or.inl ?_; conv => whnf)
        | (refine And.intro ?_ ?_; kernel_rfl; conv => whnf))
      · exfalso
        have hg : decide ((l.map encPt).length ≤ n) = true := hg
        have := of_decide_eq_true hg
        rw [e0] at this
        exact hn2 this
      · rw [getD_enc' _ _ n P0 (by omega) (by omega)]
        refine ⟨idxB (by omega) (by omega) rfl, ?_⟩
        conv => whnf
        repeat' (first
          | (refine ⟨fun hg => ?_, fun hg => ?_⟩ <;> first | contradiction | (conv => whnf))
          | (refine Or.inl ?_; conv => whnf)
          | (refine ⟨_, k1, ?_⟩; conv => whnf)
          | (refine ⟨_, kR .., ?_⟩; conv => whnf)
          | (refine ⟨_, q_When .., ?_⟩; conv => whnf)
          | (refine And.intro ?_ ?_; kernel_rfl; conv => whnf))
        · have hg : (!freeB (l.getD n.toNat P0) p sun) = true := hg
          rw [Bool.not_eq_true'] at hg
          exact int_eq (by rw [if_pos hg])
        · have hg : (!freeB (l.getD n.toNat P0) p sun) = false := hg
          rw [Bool.not_eq_false'] at hg
          exact int_eq (by rw [hg]; rfl)
      · exfalso
        exact hn (of_decide_eq_true (show decide (n < 0) = true from ‹decide (n < 0) = !false›))
end Sh


set_option maxRecDepth 100000
set_option linter.unusedSimpArgs false
set_option linter.unusedVariables false
namespace Sh
open Go Go.Proofs
theorem r_Tracked (l : List Pt) (p : Pt) (vs : List V3) (h0 : chkTilts l = 0) (hp : OkP p) (hs : ∀ v ∈ vs, bdV 1000 v) (hl : vs.length < 1073741824) : PC 73 [pts l, encPt p, .list (vs.map encV)] (iL (vs.map (trI l p))) := by
  have e0 : ((vs.map encV).length : Int) = vs.length := by simp
  refine pureCall_ofR dh73 rfl ?_
  conv => whnf
  refine dwp_loopU (P := Tryz.prog) (G := GC) (k := dk73_0) (b := db73_0) (α := Nat) (fun i => [(7, .own 7 0 (oI (trI l p) vs i).length (oI (trI l p) vs i).length), (8, DV.int .i64 (i))]) (fun i => [(4, .box 2 (encPt p)), (7, .row 1 (oI (trI l p) vs i) false)]) (fun i => i ≤ vs.length) (fun i => vs.length - i) 0 (Nat.zero_le _) ?_
  conv => whnf
  refine ⟨rfl, rfl, ?_⟩
  conv => whnf
  refine ⟨rfl, ?_⟩
  intro i j1
  conv => whnf
  refine ⟨fun hb => ?_, fun hb => ?_⟩
  · have hi : i < vs.length := by simpa using hb
    have hln := oI_len (trI l p) vs i j1
    have kR := r_Rule l p (vs.getD i V0) h0 hp (hs _ (getD_in V0 hi))
    rw [rulT_eq] at kR
    have hsc := oI_succ (trI l p) vs i V0 hi
    have hbd := rulB_bd l p (vs.getD i V0) l.length
    have hv : trI l p (vs.getD i V0) = if 0 < (vs.getD i V0).z then ruleS l p (vs.getD i V0) else -1 := rfl
    change -1 ≤ ruleS l p (vs.getD i V0) ∧ ruleS l p (vs.getD i V0) < _ at hbd
    have hr0 : rul0 (ruleS l p (vs.getD i V0)) = if ruleS l p (vs.getD i V0) < 0 then 0 else ruleS l p (vs.getD i V0) := rfl
    clear hb
    conv => whnf
    rw [getD_enc _ _ (i) V0 hi]
    refine ⟨idxA hi rfl, ?_⟩
    conv => whnf
    repeat' (first
      | (refine ⟨fun hg => ?_, fun hg => ?_⟩ <;> first | contradiction | (conv => whnf))
      | (refine Or.inl ?_; conv => whnf)
      | (rw [getD_enc _ _ i V0 hi]; refine ⟨idxA hi rfl, ?_⟩; conv => whnf)
      | (refine ⟨_, kR .., ?_⟩; conv => whnf)
      | (refine ⟨⟨rfl, rfl, rfl, by rw [hln]; simp; omega, fun e he => by simp at he; subst he; rfl⟩, ?_⟩; conv => whnf)
      | (refine And.intro ?_ ?_; kernel_rfl; conv => whnf))
    · have hz : 0 < (vs.getD i V0).z := of_decide_eq_true (show decide (0 < (vs.getD i V0).z) = true from ‹_›)
      have hg := of_decide_eq_true hg
      have hneg : ruleS l p (vs.getD i V0) < 0 := Classical.byContradiction fun h => hg (if_neg h)
      have hval : trI l p (vs.getD i V0) = -1 := by rw [hv, if_pos hz]; omega
      rw [wrap_succ i (by omega)]
      refine ⟨i + 1, rfl, ?_, ?_, hi, by omega⟩
      · rw [hsc, hval]; rfl
      · rw [hsc, hval]; rfl
    · have hz : 0 < (vs.getD i V0).z := of_decide_eq_true (show decide (0 < (vs.getD i V0).z) = true from ‹_›)
      have hg := of_decide_eq_false hg
      have hneg : ¬ ruleS l p (vs.getD i V0) < 0 := fun h => hg (by rw [if_pos h]; decide)
      have hval : trI l p (vs.getD i V0) = rul0 (ruleS l p (vs.getD i V0)) := by rw [hv, if_pos hz, hr0, if_neg hneg]
      rw [wrap_succ i (by omega)]
      refine ⟨i + 1, rfl, ?_, ?_, hi, by omega⟩
      · rw [hsc, hval]; rfl
      · rw [hsc, hval]; rfl
    · have hz : ¬ 0 < (vs.getD i V0).z := of_decide_eq_false (show decide (0 < (vs.getD i V0).z) = false from ‹_›)
      have hval : trI l p (vs.getD i V0) = -1 := by rw [hv, if_neg hz]
      rw [wrap_succ i (by omega)]
      refine ⟨i + 1, rfl, ?_, ?_, hi, by omega⟩
      · rw [hsc, hval]; rfl
      · rw [hsc, hval]; rfl
  · have hi : i = vs.length := by have := of_decide_eq_false hb; rw [e0] at this; omega
    clear hb
    conv => whnf
    exact ⟨rfl, by rw [window_full, hi, oI_all]; rfl⟩
end Sh


set_option maxRecDepth 100000
set_option linter.unusedSimpArgs false
set_option linter.unusedVariables false
namespace Sh
open Go Go.Proofs
theorem l_first (l : List Int) (hl : l.length < 4611686018427387904) : PC 20 [iL l] (DV.int .i64 (firstE l)) := by
  refine pureCall_ofR dh20 rfl ?_
  conv => whnf
  refine .inl ?_
  conv => whnf
  refine ⟨_, q_First _ hl, ?_⟩
  conv => whnf
  rfl
end Sh


set_option maxRecDepth 100000
set_option maxHeartbeats 2000000
set_option linter.unusedSimpArgs false
set_option linter.unusedVariables false
namespace Sh
open Go Go.Proofs
def dayN (vs : List V3) : Int := firstE [whenE (decide ((vs.length : Int) = 0)) 12, whenE (decide (64 < (vs.length : Int))) 5]
def chkDay (vs : List V3) : Int := if dayN vs ≠ 0 then dayN vs else firstE (vs.map chkTv)
theorem r_CheckDay (vs : List V3) : PC 70 [.list (vs.map encV)] (DV.int .i64 (chkDay vs)) := by
  have e0 : ((vs.map encV).length : Int) = vs.length := by simp
  have hE : firstE [whenE (decide (((vs.map encV).length : Int) = 0)) 12, whenE (decide (64 < ((vs.map encV).length : Int))) 5] = dayN vs := by rw [e0]; rfl
  have k3 := q_First [whenE (decide (((vs.map encV).length : Int) = 0)) 12, whenE (decide (64 < ((vs.map encV).length : Int))) 5] (by simp)
  rw [hE] at k3
  refine pureCall_ofR dh70 rfl ?_
  conv => whnf
  repeat' (first
    | (refine ⟨fun hg => ?_, fun hg => ?_⟩ <;> first | contradiction | (conv => whnf))
    | (refine Or.inl ?_; conv => whnf)
    | (refine ⟨_, q_When .., ?_⟩; conv => whnf)
    | (refine ⟨_, k3, ?_⟩; conv => whnf)
    | (refine And.intro ?_ ?_; kernel_rfl; conv => whnf))
  · have hg := of_decide_eq_true hg
    exact int_eq (by unfold chkDay; rw [if_pos hg])
  · have hg := of_decide_eq_false hg
    have hc : chkDay vs = firstE (vs.map chkTv) := if_neg hg
    have hl : vs.length ≤ 64 := by
      have hz := Classical.not_not.1 hg
      unfold dayN at hz
      obtain ⟨z1, h⟩ := firstE_cons hz
      obtain ⟨z2, h⟩ := firstE_cons h
      have := of_decide_eq_false (whenE_zero z2 (by decide))
      omega
    clear hg hE k3
    refine dwp_loopU (P := Tryz.prog) (G := GC) (k := dk70_0) (b := db70_0) (α := Nat) (fun i => [(4, DV.int .i64 (i))]) (fun _ => []) (fun i => i ≤ vs.length ∧ firstE (vs.map chkTv) = firstE ((vs.map chkTv).drop i)) (fun i => vs.length - i) 0 ⟨Nat.zero_le _, rfl⟩ ?_
    conv => whnf
    refine ⟨rfl, rfl, ?_⟩
    conv => whnf
    refine ⟨rfl, ?_⟩
    intro i ⟨h1, h2⟩
    conv => whnf
    refine ⟨fun hb => ?_, fun hb => ?_⟩
    · have hi : i < vs.length := by simpa using hb
      have hd := firstE_drop (vs.map chkTv) i (by rw [List.length_map]; exact hi)
      rw [map_getD chkTv vs i V0 hi] at hd
      clear hb
      conv => whnf
      repeat' (first
        | (refine ⟨fun hg => ?_, fun hg => ?_⟩ <;> first | contradiction | (conv => whnf))
        | (refine Or.inl ?_; conv => whnf)
        | (rw [getD_enc _ _ i V0 hi]; refine ⟨idxA hi rfl, ?_⟩; conv => whnf)
        | (refine ⟨_, q_CheckRange .., ?_⟩; conv => whnf)
        | (refine ⟨_, q_First [_, _, _] (by simp), ?_⟩; conv => whnf)
        | (refine And.intro ?_ ?_; kernel_rfl; conv => whnf))
      · have hg := of_decide_eq_true (show decide (chkTv (vs.getD i V0) ≠ 0) = true from hg)
        rw [if_pos hg] at hd
        exact int_eq (by rw [hc, h2, hd]; rfl)
      · have hg := of_decide_eq_false (show decide (chkTv (vs.getD i V0) ≠ 0) = false from hg)
        rw [if_neg hg] at hd
        rw [wrap_succ i (by omega)]
        exact ⟨i + 1, rfl, rfl, rfl, ⟨hi, h2.trans hd⟩, by omega⟩
    · have hi : i = vs.length := by have := of_decide_eq_false hb; rw [e0] at this; omega
      rw [hi, List.drop_of_length_le (by rw [List.length_map]; exact Nat.le_refl _)] at h2
      clear hb
      conv => whnf
      exact int_eq (by rw [hc, h2]; rfl)
def tdE (l : List Pt) (p : Pt) (vs : List V3) : Int := firstE [chkTilts l, chkPitch p, chkDay vs]
theorem tkS_eq (l : List Pt) (p : Pt) (vs : List V3) : tkS l p vs = if tdE l p vs ≠ 0 then ([], tdE l p vs) else (vs.map (trI l p), 0) := by
  unfold tkS tkE tdE chkDay dayN
  simp only [firstE]
  generalize whenE (decide ((vs.length : Int) = 0)) 12 = x
  generalize whenE (decide (64 < (vs.length : Int))) 5 = y
  generalize firstE (vs.map chkTv) = z
  by_cases h1 : chkTilts l = 0
  · by_cases h2 : chkPitch p = 0
    · by_cases h3 : x = 0
      · by_cases h4 : y = 0
        · by_cases h5 : z = 0
          · simp [h1, h2, h3, h4, h5]
          · simp [h1, h2, h3, h4, h5]
        · simp [h1, h2, h3, h4]
      · simp [h1, h2, h3]
    · simp [h1, h2]
  · simp [h1]
theorem tdE_zero {l : List Pt} {p : Pt} {vs : List V3} (h : tdE l p vs = 0) : chkTilts l = 0 ∧ OkP p ∧ ∀ v ∈ vs, bdV 1000 v := by
  unfold tdE at h
  obtain ⟨z1, h⟩ := firstE_cons h
  obtain ⟨z2, h⟩ := firstE_cons h
  obtain ⟨z3, h⟩ := firstE_cons h
  refine ⟨z1, chkPitch_ok z2, fun v hv => ?_⟩
  unfold chkDay at z3
  by_cases hd : dayN vs ≠ 0
  · rw [if_pos hd] at z3; exact absurd z3 hd
  · rw [if_neg hd] at z3
    exact chkTv_zero (firstE_mem z3 _ (List.mem_map_of_mem hv))
theorem rlE_zero {l : List Pt} {p : Pt} {sun : V3} (h : rlE l p sun = 0) : chkTilts l = 0 ∧ OkP p ∧ bdV 1000 sun := by
  unfold rlE at h
  obtain ⟨z1, h⟩ := firstE_cons h
  obtain ⟨z2, h⟩ := firstE_cons h
  obtain ⟨z3, h⟩ := firstE_cons h
  exact ⟨z1, chkPitch_ok z2, (chkSun_zero z3).1⟩
theorem crS_bad {l : List Pt} {p : Pt} {sun : V3} {n : Int} (h : rlE l p sun ≠ 0) : crS l p sun n = rlE l p sun := by
  have e : crE l p sun n = rlE l p sun := by
    unfold rlE at h ⊢
    unfold crE
    simp only [firstE] at h ⊢
    by_cases h1 : chkTilts l = 0
    · by_cases h2 : chkPitch p = 0
      · by_cases h3 : chkSun sun = 0
        · simp [h1, h2, h3] at h
        · simp [h1, h2, h3]
      · simp [h1, h2]
    · simp [h1]
  unfold crS
  rw [e, if_pos h]
theorem crS_ok {l : List Pt} {p : Pt} {sun : V3} {n : Int} (h : rlE l p sun = 0) : crS l p sun n = crI l p sun n := by
  have e : crE l p sun n = whenE (inB l n) 10 := by
    unfold rlE at h
    obtain ⟨z1, h⟩ := firstE_cons h
    obtain ⟨z2, h⟩ := firstE_cons h
    obtain ⟨z3, h⟩ := firstE_cons h
    unfold crE
    simp only [firstE]
    simp [z1, z2, z3]
    intro h; exact h.symm
  unfold crS crI
  rw [e]
  unfold inB
  by_cases h1 : n < 0 ∨ (l.length : Int) ≤ n
  · rw [if_pos h1, show (decide (n < 0) || decide ((l.length : Int) ≤ n)) = true by simpa using h1]; rfl
  · rw [if_neg h1, show (decide (n < 0) || decide ((l.length : Int) ≤ n)) = false by simp; omega]
    rw [if_neg (show ¬ whenE false 10 ≠ 0 from fun h => h rfl)]
    cases hf : freeB (l.getD n.toNat P0) p sun with
    | false => rfl
    | true =>
      rw [if_neg (by decide)]
      have hr : rul0 (ruleS l p sun) = ruleS l p sun := by
        rcases rulB_spec l p sun l.length with ⟨_, h2⟩ | ⟨k, h1, _⟩
        · have := h2 n.toNat (by omega); rw [hf] at this; exact absurd this (by decide)
        · unfold rul0 ruleS; rw [h1, if_neg (by omega)]
      rw [hr]
      simp only [firstE, whenE]
      by_cases h5 : ruleS l p sun = n <;> simp [h5]
end Sh


set_option maxRecDepth 100000
namespace Sh
open Go
def dc7 : DFunc := ⟨142, 3, [(.tmp 6)], (.seq (.ops false [⟨(some 4), (.box 8 (.tmp 1)), none, []⟩, ⟨(some 6), (.mov (.const (.bool false))), none, []⟩]) (.seq (.seq (.ops false [⟨(some 18), (.mov (.tmp 0)), none, []⟩, ⟨(some 19), (.len (.tmp 18)), none, []⟩, ⟨(some 20), (.bin .gtr (.tmp 19) (.const (.int .i64 17))), none, []⟩, ⟨(some 21), (.mov (.tmp 20)), none, []⟩, ⟨(some 22), (.mov (.tmp 2)), (some (21, false)), []⟩, ⟨(some 23), (.len (.tmp 22)), (some (21, false)), []⟩, ⟨(some 24), (.bin .gtr (.tmp 23) (.const (.int .i64 10))), (some (21, false)), []⟩, ⟨(some 25), (.mov (.tmp 24)), (some (21, false)), []⟩, ⟨(some 26), (.mov (.tmp 2)), (some (25, true)), []⟩, ⟨(some 27), (.len (.tmp 26)), (some (25, true)), []⟩, ⟨(some 28), (.bin .neq (.tmp 27) (.const (.int .i64 65))), (some (25, true)), []⟩, ⟨(some 29), (.pick (.tmp 25) (.tmp 28) (.const (.bool false))), (some (21, false)), []⟩, ⟨(some 30), (.pick (.tmp 21) (.const (.bool true)) (.tmp 29)), none, []⟩]) (.cond (.tmp 30) (.seq (.ops false [⟨(some 31), (.call (.func 14) []), none, []⟩, ⟨(some 6), (.mov (.tmp 31)), none, []⟩]) .ret) .skip)) (.seq (.ops true [⟨(some 33), (.mov (.tmp 0)), none, []⟩, ⟨(some 34), (.call (.func 66) [(.tmp 33)]), none, [0]⟩, ⟨(some 35), (.faddr 2 2 true (.tmp 4)), none, []⟩, ⟨(some 36), (.load (some 2) (.tmp 35)), none, [2]⟩, ⟨(some 37), (.faddr 4 3 true (.tmp 4)), none, []⟩, ⟨(some 38), (.load (some 3) (.tmp 37)), none, [4]⟩, ⟨(some 39), (.call (.func 65) [(.tmp 34), (.tmp 36), (.tmp 38)]), none, [1, 0, 3, 2, 5, 4]⟩, ⟨(some 32), (.mov (.tmp 39)), none, [6, 1, 0, 3, 2, 5, 4]⟩, ⟨(some 40), (.extract (.tmp 32) 0), none, [7, 6, 1, 0, 3, 2, 5, 4]⟩, ⟨(some 41), (.extract (.tmp 32) 1), none, [7, 6, 1, 0, 3, 2, 5, 4]⟩, ⟨(some 7), (.mov (.tmp 40)), none, [8, 7, 6, 1, 0, 3, 2, 5, 4]⟩, ⟨(some 8), (.mov (.tmp 41)), none, [9, 7, 6, 1, 0, 3, 2, 5, 4, 10, 8]⟩]) (.seq (.ops true [⟨(some 42), (.mov (.tmp 0)), none, []⟩, ⟨(some 43), (.call (.func 66) [(.tmp 42)]), none, [0]⟩, ⟨(some 44), (.faddr 2 2 true (.tmp 4)), none, []⟩, ⟨(some 45), (.load (some 2) (.tmp 44)), none, [2]⟩, ⟨(some 46), (.faddr 4 3 true (.tmp 4)), none, []⟩, ⟨(some 47), (.load (some 3) (.tmp 46)), none, [4]⟩, ⟨(some 48), (.faddr 7 1 false (.tmp 4)), none, []⟩, ⟨(some 49), (.load none (.tmp 48)), none, [6]⟩, ⟨(some 50), (.call (.func 67) [(.tmp 43), (.tmp 45), (.tmp 47), (.tmp 49)]), none, [1, 0, 3, 2, 5, 4, 7, 6]⟩, ⟨(some 9), (.mov (.tmp 50)), none, [8, 1, 0, 3, 2, 5, 4, 7, 6]⟩]) (.seq (.ops true [⟨(some 52), (.mov (.tmp 0)), none, []⟩, ⟨(some 53), (.call (.func 66) [(.tmp 52)]), none, [0]⟩, ⟨(some 54), (.faddr 2 2 true (.tmp 4)), none, []⟩, ⟨(some 55), (.load (some 2) (.tmp 54)), none, [2]⟩, ⟨(some 56), (.mov (.tmp 2)), none, []⟩, ⟨(some 57), (.call (.func 16) [(.tmp 56)]), none, [4, 1, 0]⟩, ⟨(some 58), (.call (.func 68) [(.tmp 53), (.tmp 55), (.tmp 57)]), none, [1, 0, 3, 2, 5, 4]⟩, ⟨(some 51), (.mov (.tmp 58)), none, [6, 1, 0, 3, 2, 5, 4]⟩, ⟨(some 59), (.extract (.tmp 51) 0), none, [7, 6, 1, 0, 3, 2, 5, 4]⟩, ⟨(some 60), (.extract (.tmp 51) 1), none, [7, 6, 1, 0, 3, 2, 5, 4]⟩, ⟨(some 10), (.mov (.tmp 59)), none, [8, 7, 6, 1, 0, 3, 2, 5, 4]⟩, ⟨(some 11), (.mov (.tmp 60)), none, [9, 7, 6, 1, 0, 3, 2, 5, 4, 10, 8]⟩]) (.seq (.ops true [⟨(some 61), (.mov (.tmp 0)), none, []⟩, ⟨(some 62), (.call (.func 69) [(.tmp 61)]), none, [0]⟩, ⟨(some 63), (.faddr 2 2 true (.tmp 4)), none, []⟩, ⟨(some 64), (.load (some 2) (.tmp 63)), none, [2]⟩, ⟨(some 65), (.call (.func 60) [(.tmp 64)]), none, [3, 2, 1, 0]⟩, ⟨(some 66), (.faddr 4 3 true (.tmp 4)), none, []⟩, ⟨(some 67), (.load (some 3) (.tmp 66)), none, [5]⟩, ⟨(some 68), (.call (.func 22) [(.tmp 67)]), none, [6, 5, 4, 3, 2, 1, 0]⟩, ⟨(some 69), (.lit true 1 3 (.int .i64 0) [(0, (.tmp 62)), (1, (.tmp 65)), (2, (.tmp 68))]), none, [1, 0, 4, 3, 2, 7, 6, 5]⟩, ⟨(some 70), (.call (.func 20) [(.tmp 69)]), none, [8, 1, 0, 4, 3, 2, 7, 6, 5]⟩, ⟨(some 12), (.mov (.tmp 70)), none, [9, 8, 1, 0, 4, 3, 2, 7, 6, 5]⟩]) (.seq (.ops true [⟨(some 71), (.mov (.tmp 12)), none, []⟩, ⟨(some 72), (.mov (.tmp 12)), none, []⟩, ⟨(some 73), (.mov (.tmp 0)), none, []⟩, ⟨(some 74), (.call (.func 69) [(.tmp 73)]), none, [2]⟩, ⟨(some 75), (.faddr 2 2 true (.tmp 4)), none, []⟩, ⟨(some 76), (.load (some 2) (.tmp 75)), none, [4]⟩, ⟨(some 77), (.call (.func 60) [(.tmp 76)]), none, [5, 4, 3, 2]⟩, ⟨(some 78), (.mov (.tmp 2)), none, []⟩, ⟨(some 79), (.call (.func 70) [(.tmp 78)]), none, [7, 6, 5, 4, 3, 2]⟩, ⟨(some 80), (.lit true 1 3 (.int .i64 0) [(0, (.tmp 74)), (1, (.tmp 77)), (2, (.tmp 79))]), none, [3, 2, 6, 5, 4, 8, 7]⟩, ⟨(some 81), (.call (.func 20) [(.tmp 80)]), none, [9, 3, 2, 6, 5, 4, 8, 7]⟩, ⟨(some 13), (.mov (.tmp 71)), none, [0, 10, 9, 3, 2, 6, 5, 4, 8, 7]⟩, ⟨(some 14), (.mov (.tmp 72)), none, [1, 11, 0, 10, 9, 3, 2, 6, 5, 4, 8, 7]⟩, ⟨(some 15), (.mov (.tmp 81)), none, [10, 9, 3, 2, 6, 5, 4, 8, 7, 12, 1, 11, 0]⟩]) (.seq (.ops false [⟨(some 16), (.mov (.const (.int .i64 0))), none, []⟩]) (.seq (.ops false [⟨(some 17), (.mov (.const (.slice none 0 0))), none, []⟩]) (.seq (.seq (.ops false [⟨(some 82), (.mov (.tmp 12)), none, []⟩, ⟨(some 83), (.bin .eql (.tmp 82) (.const (.int .i64 0))), none, []⟩]) (.cond (.tmp 83) (.seq (.ops false [⟨(some 85), (.mov (.tmp 0)), none, []⟩, ⟨(some 86), (.faddr 2 2 true (.tmp 4)), none, []⟩, ⟨(some 87), (.load (some 2) (.tmp 86)), none, []⟩, ⟨(some 88), (.faddr 4 3 true (.tmp 4)), none, []⟩, ⟨(some 89), (.load (some 3) (.tmp 88)), none, []⟩, ⟨(some 90), (.call (.func 71) [(.tmp 85), (.tmp 87), (.tmp 89)]), none, []⟩, ⟨(some 84), (.mov (.tmp 90)), none, []⟩, ⟨(some 91), (.extract (.tmp 84) 0), none, []⟩, ⟨(some 92), (.extract (.tmp 84) 1), none, []⟩, ⟨(some 16), (.mov (.tmp 91)), none, []⟩, ⟨(some 13), (.mov (.tmp 92)), none, []⟩]) (.ops false [⟨(some 93), (.mov (.tmp 0)), none, []⟩, ⟨(some 94), (.faddr 2 2 true (.tmp 4)), none, []⟩, ⟨(some 95), (.load (some 2) (.tmp 94)), none, []⟩, ⟨(some 96), (.faddr 4 3 true (.tmp 4)), none, []⟩, ⟨(some 97), (.load (some 3) (.tmp 96)), none, []⟩, ⟨(some 98), (.faddr 7 1 false (.tmp 4)), none, []⟩, ⟨(some 99), (.load none (.tmp 98)), none, []⟩, ⟨(some 100), (.call (.func 72) [(.tmp 93), (.tmp 95), (.tmp 97), (.tmp 99)]), none, []⟩, ⟨(some 14), (.mov (.tmp 100)), none, []⟩])) .skip)) (.seq (.seq (.ops false [⟨(some 101), (.mov (.tmp 15)), none, []⟩, ⟨(some 102), (.bin .eql (.tmp 101) (.const (.int .i64 0))), none, []⟩]) (.cond (.tmp 102) (.ops false [⟨(some 103), (.mov (.tmp 0)), none, []⟩, ⟨(some 104), (.faddr 2 2 true (.tmp 4)), none, []⟩, ⟨(some 105), (.load (some 2) (.tmp 104)), none, []⟩, ⟨(some 106), (.mov (.tmp 2)), none, []⟩, ⟨(some 107), (.call (.func 73) [(.tmp 103), (.tmp 105), (.tmp 106)]), none, []⟩, ⟨(some 17), (.mov (.tmp 107)), none, []⟩]) .skip)) (.seq (.ops false [⟨(some 108), (.mov (.tmp 0)), none, []⟩, ⟨(some 109), (.call (.func 66) [(.tmp 108)]), none, []⟩, ⟨(some 110), (.call (.func 74) [(.tmp 109)]), none, []⟩, ⟨(some 111), (.mov (.tmp 0)), none, []⟩, ⟨(some 112), (.call (.func 69) [(.tmp 111)]), none, []⟩, ⟨(some 113), (.bin .eql (.tmp 110) (.tmp 112)), none, []⟩, ⟨(some 114), (.mov (.tmp 113)), none, []⟩, ⟨(some 115), (.mov (.tmp 7)), (some (114, true)), []⟩, ⟨(some 116), (.mov (.tmp 16)), (some (114, true)), []⟩, ⟨(some 117), (.bin .eql (.tmp 115) (.tmp 116)), (some (114, true)), []⟩, ⟨(some 118), (.pick (.tmp 114) (.tmp 117) (.const (.bool false))), none, []⟩, ⟨(some 119), (.mov (.tmp 118)), none, []⟩, ⟨(some 120), (.mov (.tmp 8)), (some (119, true)), []⟩, ⟨(some 121), (.mov (.tmp 13)), (some (119, true)), []⟩, ⟨(some 122), (.bin .eql (.tmp 120) (.tmp 121)), (some (119, true)), []⟩, ⟨(some 123), (.pick (.tmp 119) (.tmp 122) (.const (.bool false))), none, []⟩, ⟨(some 124), (.mov (.tmp 123)), none, []⟩, ⟨(some 125), (.mov (.tmp 9)), (some (124, true)), []⟩, ⟨(some 126), (.mov (.tmp 14)), (some (124, true)), []⟩, ⟨(some 127), (.bin .eql (.tmp 125) (.tmp 126)), (some (124, true)), []⟩, ⟨(some 128), (.pick (.tmp 124) (.tmp 127) (.const (.bool false))), none, []⟩, ⟨(some 129), (.mov (.tmp 128)), none, []⟩, ⟨(some 130), (.mov (.tmp 10)), (some (129, true)), []⟩, ⟨(some 131), (.mov (.tmp 17)), (some (129, true)), []⟩, ⟨(some 132), (.call (.func 29) [(.tmp 130), (.tmp 131)]), (some (129, true)), []⟩, ⟨(some 133), (.pick (.tmp 129) (.tmp 132) (.const (.bool false))), none, []⟩, ⟨(some 134), (.mov (.tmp 133)), none, []⟩, ⟨(some 135), (.mov (.tmp 11)), (some (134, true)), []⟩, ⟨(some 136), (.mov (.tmp 15)), (some (134, true)), []⟩, ⟨(some 137), (.bin .eql (.tmp 135) (.tmp 136)), (some (134, true)), []⟩, ⟨(some 138), (.pick (.tmp 134) (.tmp 137) (.const (.bool false))), none, []⟩, ⟨(some 139), (.mov (.tmp 138)), none, []⟩, ⟨(some 140), (.call (.func 14) []), (some (139, true)), []⟩, ⟨(some 141), (.pick (.tmp 139) (.tmp 140) (.const (.bool false))), none, []⟩, ⟨(some 6), (.mov (.tmp 141)), none, []⟩]) .ret))))))))))))⟩
theorem dh7 : cProg Go.Proofs.Tryz.prog ⟨[], [], [69, 80]⟩ 7 = some dc7 := by kernel_rfl
end Sh


set_option maxRecDepth 100000
set_option maxHeartbeats 4000000
set_option linter.unusedSimpArgs false
set_option linter.unusedVariables false
namespace Sh
open Go Go.Proofs
theorem l_ShadeRules (aw : PC 14 [] (.bool true)) (l : List Pt) (r : Rw) (vs : List V3) : PC 7 [pts l, encW r, .list (vs.map encV)] (.bool true) := by
  obtain ⟨t, p, s, n⟩ := r
  have e0 : ((l.map encPt).length : Int) = l.length := by simp
  have e1 : ((vs.map encV).length : Int) = vs.length := by simp
  by_cases hL : l.length ≤ 17 ∧ vs.length ≤ 65
  · have hl : l.length < 1073741824 := by omega
    have hv : vs.length < 1073741824 := by omega
    have a1 := l_points l hl
    have a2 : PC 16 [.list (vs.map encV)] (.list (vs.map encV)) := l_own vs hv
    have a3 := r_CheckTilts l hl
    have a4 := r_CheckPitch p
    have a5 := r_CheckSun s
    have a6 := r_CheckDay vs
    have a7 := c_CheckTilts l hl
    have b1 := c_Rule l p s hl
    have b2 := c_CheckRule l p s n hl
    have b3 := c_Tracked l p vs hl hv
    have f1 : PC 20 [iL [chkTilts l, chkPitch p, chkSun s]] (DV.int .i64 (rlE l p s)) := l_first [chkTilts l, chkPitch p, chkSun s] (by simp)
    have f2 : PC 20 [iL [chkTilts l, chkPitch p, chkDay vs]] (DV.int .i64 (tdE l p vs)) := l_first [chkTilts l, chkPitch p, chkDay vs] (by simp)
    have iN : PC 29 [.list [], .list []] (.bool true) := by have := q_SameInts [] [] (by decide); rwa [dec_same] at this
    have g3 := q_SameInts (vs.map (trI l p)) (vs.map (trI l p)) (by rw [List.length_map]; omega)
    rw [dec_same] at g3
    rw [tkS_eq] at b3
    by_cases h1 : rlE l p s = 0
    all_goals by_cases h2 : tdE l p vs = 0
    all_goals first
      | rw [show rlS l p s = (rul0 (ruleS l p s), if ruleS l p s < 0 then 7 else 0) from if_neg (fun h => h h1)] at b1
        rw [crS_ok h1] at b2
        have c1 := r_Rule l p s (rlE_zero h1).1 (rlE_zero h1).2.1 (rlE_zero h1).2.2
        rw [rulT_eq] at c1
        have c2 := r_CheckRule l p s n (rlE_zero h1).1 (rlE_zero h1).2.1 (rlE_zero h1).2.2
        rw [h1] at f1
        generalize rul0 (ruleS l p s) = Q1 at *
        generalize (if ruleS l p s < 0 then (7 : Int) else 0) = Q2 at *
        generalize crI l p s n = Q3 at *
      | rw [show rlS l p s = (0, rlE l p s) from if_pos h1] at b1
        rw [crS_bad h1] at b2
        have c1 := aw
        have c2 := aw
        generalize rlE l p s = E1 at *
    all_goals first
      | rw [if_neg (show ¬ tdE l p vs ≠ 0 from fun h => h h2)] at b3
        have c3 := r_Tracked l p vs (tdE_zero h2).1 (tdE_zero h2).2.1 (tdE_zero h2).2.2 hv
        rw [h2] at f2
      | rw [if_pos h2] at b3
        have c3 := aw
        replace g3 := iN
        generalize tdE l p vs = E2 at *
    all_goals
      refine pureCall_ofR dh7 rfl ?_
      conv => whnf
      conv => whnf
      repeat' (first
        | (refine ⟨fun hg => ?_, fun hg => ?_⟩ <;> first | contradiction | (exfalso; revert hg; simp; done) | (exfalso; exact absurd (of_decide_eq_true hg) (by assumption)) | (exfalso; exact absurd (by assumption) (of_decide_eq_false hg)) | (conv => whnf))
        | (refine Or.inl ?_; conv => whnf)
        | (refine ⟨_, a1, ?_⟩; conv => whnf)
        | (refine ⟨_, a2, ?_⟩; conv => whnf)
        | (refine ⟨_, a3, ?_⟩; conv => whnf)
        | (refine ⟨_, a4, ?_⟩; conv => whnf)
        | (refine ⟨_, a5, ?_⟩; conv => whnf)
        | (refine ⟨_, a6, ?_⟩; conv => whnf)
        | (refine ⟨_, a7, ?_⟩; conv => whnf)
        | (refine ⟨_, b1, ?_⟩; conv => whnf)
        | (refine ⟨_, b2, ?_⟩; conv => whnf)
        | (refine ⟨_, b3, ?_⟩; conv => whnf)
        | (refine ⟨_, f1, ?_⟩; conv => whnf)
        | (refine ⟨_, f2, ?_⟩; conv => whnf)
        | (refine ⟨_, c1, ?_⟩; conv => whnf)
        | (refine ⟨_, c2, ?_⟩; conv => whnf)
        | (refine ⟨_, c3, ?_⟩; conv => whnf)
        | (refine ⟨_, g3, ?_⟩; conv => whnf)
        | (refine ⟨_, aw, ?_⟩; conv => whnf)
        | (refine And.intro ?_ ?_; kernel_rfl; conv => whnf))
      all_goals rfl
  · by_cases n1 : (17 : Int) < ((l.map encPt).length : Int)
    · refine pureCall_ofR dh7 rfl ?_
      conv => whnf
      conv => whnf
      repeat' (first
        | (refine ⟨fun hg => ?_, fun hg => ?_⟩ <;> first | contradiction | (exfalso; revert hg; simp; done) | (exfalso; exact absurd (of_decide_eq_true hg) (by assumption)) | (exfalso; exact absurd (by assumption) (of_decide_eq_false hg)) | (conv => whnf))
        | (refine Or.inl ?_; conv => whnf)
        | (refine ⟨_, aw, ?_⟩; conv => whnf)
        | (refine And.intro ?_ ?_; kernel_rfl; conv => whnf))
      all_goals rfl
    · have n2 : (10 : Int) < ((vs.map encV).length : Int) := by omega
      have n3 : ((vs.map encV).length : Int) ≠ 65 := by omega
      refine pureCall_ofR dh7 rfl ?_
      conv => whnf
      conv => whnf
      repeat' (first
        | (refine ⟨fun hg => ?_, fun hg => ?_⟩ <;> first | contradiction | (exfalso; revert hg; simp; done) | (exfalso; exact absurd (of_decide_eq_true hg) (by assumption)) | (exfalso; exact absurd (by assumption) (of_decide_eq_false hg)) | (conv => whnf))
        | (refine Or.inl ?_; conv => whnf)
        | (refine ⟨_, aw, ?_⟩; conv => whnf)
        | (refine And.intro ?_ ?_; kernel_rfl; conv => whnf))
      all_goals rfl
end Sh

