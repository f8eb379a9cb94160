/-
  Chapter 4's functions, walked over pure data: the library of the walk, the functions' code over data, and what each computes. (part 4)
-/
import Derived.Test.YtbkginjiknnobaaDoorP3
import Derived.Test.YtbkginjiknnobaaDoorProg
import Derived.Lib.ItoaNum
set_option linter.unusedVariables false
set_option linter.unusedSimpArgs false
set_option maxRecDepth 100000
namespace Sh
open Go
def dc8 : DFunc := ⟨19, 2, [(.tmp 4), (.tmp 5)], (.seq (.ops false [⟨(some 2), (.box 3 (.tmp 0)), none, []⟩, ⟨(some 4), (.mov (.const (.int .i64 0))), none, []⟩, ⟨(some 5), (.mov (.const (.int .i64 0))), none, [1]⟩]) (.seq (.seq (.ops false [⟨(some 7), (.load (some 3) (.tmp 2)), none, []⟩, ⟨(some 8), (.call (.func 36) [(.tmp 7)]), none, [0]⟩, ⟨(some 9), (.mov (.tmp 1)), none, []⟩, ⟨(some 10), (.call (.func 37) [(.tmp 9)]), none, [2, 1, 0]⟩, ⟨(some 11), (.lit true 1 2 (.int .i64 0) [(0, (.tmp 8)), (1, (.tmp 10))]), none, [1, 0, 3, 2]⟩, ⟨(some 12), (.call (.func 27) [(.tmp 11)]), none, [4, 1, 0, 3, 2]⟩, ⟨(some 6), (.mov (.tmp 12)), none, [5, 4, 1, 0, 3, 2]⟩]) (.seq (.ops false [⟨(some 13), (.mov (.tmp 6)), none, []⟩, ⟨(some 14), (.bin .neq (.tmp 13) (.const (.int .i64 0))), none, [0]⟩]) (.cond (.tmp 14) (.seq (.ops false [⟨(some 15), (.mov (.tmp 6)), none, []⟩, ⟨(some 4), (.mov (.const (.int .i64 0))), none, []⟩, ⟨(some 5), (.mov (.tmp 15)), none, [0, 1]⟩]) .ret) .skip))) (.seq (.ops false [⟨(some 16), (.load (some 3) (.tmp 2)), none, []⟩, ⟨(some 17), (.mov (.tmp 1)), none, []⟩, ⟨(some 18), (.call (.func 38) [(.tmp 16), (.tmp 17)]), none, [0, 1]⟩, ⟨(some 4), (.mov (.tmp 18)), none, [2, 0, 1]⟩, ⟨(some 5), (.mov (.const (.int .i64 0))), none, [3, 2, 0, 1]⟩]) .ret)))⟩
theorem dh8 : cProg Go.Proofs.Tryd.prog ⟨[], [], [11]⟩ 8 = some dc8 := by kernel_rfl
def dc11 : DFunc := ⟨27, 2, [(.tmp 4), (.tmp 5), (.tmp 6)], (.seq (.ops false [⟨(some 2), (.box 3 (.tmp 0)), none, []⟩, ⟨(some 4), (.mov (.const (.int .i64 0))), none, []⟩, ⟨(some 5), (.mov (.const (.bool false))), none, [1]⟩, ⟨(some 6), (.mov (.const (.int .i64 0))), none, [2, 1]⟩]) (.seq (.seq (.ops false [⟨(some 10), (.load (some 3) (.tmp 2)), none, []⟩, ⟨(some 11), (.call (.func 36) [(.tmp 10)]), none, [0]⟩, ⟨(some 12), (.mov (.tmp 1)), none, []⟩, ⟨(some 13), (.call (.func 40) [(.tmp 12)]), none, [2, 1, 0]⟩, ⟨(some 14), (.lit true 1 2 (.int .i64 0) [(0, (.tmp 11)), (1, (.tmp 13))]), none, [1, 0, 3, 2]⟩, ⟨(some 15), (.call (.func 27) [(.tmp 14)]), none, [4, 1, 0, 3, 2]⟩, ⟨(some 7), (.mov (.tmp 15)), none, [5, 4, 1, 0, 3, 2]⟩]) (.seq (.ops false [⟨(some 16), (.mov (.tmp 7)), none, []⟩, ⟨(some 17), (.bin .neq (.tmp 16) (.const (.int .i64 0))), none, [0]⟩]) (.cond (.tmp 17) (.seq (.ops false [⟨(some 18), (.mov (.tmp 7)), none, []⟩, ⟨(some 4), (.mov (.const (.int .i64 0))), none, []⟩, ⟨(some 5), (.mov (.const (.bool false))), none, [1]⟩, ⟨(some 6), (.mov (.tmp 18)), none, [0, 2, 1]⟩]) .ret) .skip))) (.seq (.ops false [⟨(some 20), (.load (some 3) (.tmp 2)), none, []⟩, ⟨(some 21), (.mov (.tmp 1)), none, []⟩, ⟨(some 22), (.call (.func 41) [(.tmp 20), (.tmp 21)]), none, [0, 1]⟩, ⟨(some 19), (.mov (.tmp 22)), none, [2, 0, 1]⟩, ⟨(some 23), (.extract (.tmp 19) 0), none, [3, 2, 0, 1]⟩, ⟨(some 24), (.extract (.tmp 19) 1), none, [3, 2, 0, 1]⟩, ⟨(some 8), (.mov (.tmp 23)), none, [4, 3, 2, 0, 1]⟩, ⟨(some 9), (.mov (.tmp 24)), none, [5, 3, 2, 0, 1, 6, 4]⟩]) (.seq (.ops false [⟨(some 25), (.mov (.tmp 8)), none, []⟩, ⟨(some 26), (.mov (.tmp 9)), none, []⟩, ⟨(some 4), (.mov (.tmp 25)), none, [0]⟩, ⟨(some 5), (.mov (.tmp 26)), none, [1, 2, 0]⟩, ⟨(some 6), (.mov (.const (.int .i64 0))), none, [3, 1, 2, 0]⟩]) .ret))))⟩
theorem dh11 : cProg Go.Proofs.Tryd.prog ⟨[], [], [14]⟩ 11 = some dc11 := by kernel_rfl
def db59_0 : DC := (.seq (.ops false [⟨(some 25), (.bin .lss (.tmp 24) (.tmp 23)), none, []⟩]) (.seq (.cond (.tmp 25) .skip (.exit 0)) (.seq (.block 1 none (.seq (.ops false [⟨(some 26), (.mov (.tmp 24)), none, []⟩, ⟨(some 27), (.iaddr 2 (.tmp 22) (.tmp 24)), none, []⟩, ⟨(some 28), (.load (some 2) (.tmp 27)), none, [1]⟩, ⟨(some 6), (.alloc (.agg [(.int .i64 0), (.int .i64 0)]) 2), none, []⟩, ⟨(some 5), (.mov (.tmp 26)), none, [0, 1, 2, 3]⟩, ⟨none, (.store 2 (.tmp 6) (.tmp 28)), none, [3, 2, 1, 4, 0]⟩]) (.seq (.seq (.ops true [⟨(some 29), (.faddr 0 1 false (.tmp 6)), none, []⟩, ⟨(some 30), (.load none (.tmp 29)), none, [0]⟩, ⟨(some 31), (.call (.func 51) [(.tmp 30), (.const (.int .i64 0)), (.const (.int .i64 100))]), none, [1, 0]⟩, ⟨(some 32), (.faddr 1 1 false (.tmp 6)), none, []⟩, ⟨(some 33), (.load none (.tmp 32)), none, [3]⟩, ⟨(some 34), (.call (.func 51) [(.tmp 33), (.const (.int .i64 0)), (.const (.int .i64 200))]), none, [4, 3, 2, 1, 0]⟩, ⟨(some 35), (.mov (.tmp 5)), none, []⟩, ⟨(some 36), (.bin .eql (.tmp 35) (.const (.int .i64 0))), none, [6]⟩, ⟨(some 37), (.mov (.tmp 36)), none, [7, 6, 5, 4, 3, 2, 1, 0]⟩, ⟨(some 38), (.load (some 2) (.tmp 6)), (some (37, true)), [8, 7, 6, 5, 4, 3, 2, 1, 0]⟩, ⟨(some 39), (.faddr 1 1 false (.tmp 6)), (some (37, true)), [8, 7, 6, 5, 4, 3, 2, 1, 0]⟩, ⟨(some 40), (.load none (.tmp 39)), (some (37, true)), [10, 8, 7, 6, 5, 4, 3, 2, 1, 0]⟩, ⟨(some 41), (.build [(.int .i64 0), (.int .i64 0)] [(1, (1, (.tmp 40)))]), (some (37, true)), [11, 10, 8, 7, 6, 5, 4, 3, 2, 1, 0]⟩, ⟨(some 42), (.eqA true [1, 1] (.tmp 38) (.tmp 41)), (some (37, true)), [9, 8, 7, 6, 5, 4, 3, 2, 1, 0, 12, 11, 10]⟩, ⟨(some 43), (.pick (.tmp 37) (.tmp 42) (.const (.bool false))), none, [8, 7, 6, 5, 4, 3, 2, 1, 0, 13, 9, 12, 11, 10]⟩, ⟨(some 44), (.mov (.tmp 43)), none, [14, 8, 7, 6, 5, 4, 3, 2, 1, 0, 13, 9, 12, 11, 10]⟩, ⟨(some 45), (.faddr 0 1 false (.tmp 6)), (some (44, false)), [15, 14, 8, 7, 6, 5, 4, 3, 2, 1, 0, 13, 9, 12, 11, 10]⟩, ⟨(some 46), (.load none (.tmp 45)), (some (44, false)), [16, 15, 14, 8, 7, 6, 5, 4, 3, 2, 1, 0, 13, 9, 12, 11, 10]⟩, ⟨(some 47), (.faddr 0 1 false (.tmp 4)), (some (44, false)), [15, 14, 8, 7, 6, 5, 4, 3, 2, 1, 0, 13, 9, 12, 11, 10]⟩, ⟨(some 48), (.load none (.tmp 47)), (some (44, false)), [18, 15, 14, 8, 7, 6, 5, 4, 3, 2, 1, 0, 13, 9, 12, 11, 10]⟩, ⟨(some 49), (.bin .leq (.tmp 46) (.tmp 48)), (some (44, false)), [17, 16, 15, 14, 8, 7, 6, 5, 4, 3, 2, 1, 0, 13, 9, 12, 11, 10, 19, 18]⟩, ⟨(some 50), (.pick (.tmp 44) (.const (.bool true)) (.tmp 49)), none, [15, 14, 8, 7, 6, 5, 4, 3, 2, 1, 0, 13, 9, 12, 11, 10, 20, 17, 16, 19, 18]⟩, ⟨(some 51), (.mov (.tmp 50)), none, [21, 15, 14, 8, 7, 6, 5, 4, 3, 2, 1, 0, 13, 9, 12, 11, 10, 20, 17, 16, 19, 18]⟩, ⟨(some 52), (.faddr 1 1 false (.tmp 6)), (some (51, false)), [22, 21, 15, 14, 8, 7, 6, 5, 4, 3, 2, 1, 0, 13, 9, 12, 11, 10, 20, 17, 16, 19, 18]⟩, ⟨(some 53), (.load none (.tmp 52)), (some (51, false)), [23, 22, 21, 15, 14, 8, 7, 6, 5, 4, 3, 2, 1, 0, 13, 9, 12, 11, 10, 20, 17, 16, 19, 18]⟩, ⟨(some 54), (.faddr 1 1 false (.tmp 4)), (some (51, false)), [22, 21, 15, 14, 8, 7, 6, 5, 4, 3, 2, 1, 0, 13, 9, 12, 11, 10, 20, 17, 16, 19, 18]⟩, ⟨(some 55), (.load none (.tmp 54)), (some (51, false)), [25, 22, 21, 15, 14, 8, 7, 6, 5, 4, 3, 2, 1, 0, 13, 9, 12, 11, 10, 20, 17, 16, 19, 18]⟩, ⟨(some 56), (.bin .gtr (.tmp 53) (.tmp 55)), (some (51, false)), [24, 23, 22, 21, 15, 14, 8, 7, 6, 5, 4, 3, 2, 1, 0, 13, 9, 12, 11, 10, 20, 17, 16, 19, 18, 26, 25]⟩, ⟨(some 57), (.pick (.tmp 51) (.const (.bool true)) (.tmp 56)), none, [22, 21, 15, 14, 8, 7, 6, 5, 4, 3, 2, 1, 0, 13, 9, 12, 11, 10, 20, 17, 16, 19, 18, 27, 24, 23, 26, 25]⟩, ⟨(some 58), (.call (.func 30) [(.tmp 57), (.const (.int .i64 11))]), none, [28, 22, 21, 15, 14, 8, 7, 6, 5, 4, 3, 2, 1, 0, 13, 9, 12, 11, 10, 20, 17, 16, 19, 18, 27, 24, 23, 26, 25]⟩, ⟨(some 59), (.lit true 1 3 (.int .i64 0) [(0, (.tmp 31)), (1, (.tmp 34)), (2, (.tmp 58))]), none, [2, 1, 0, 5, 4, 3, 29, 28, 22, 21, 15, 14, 8, 7, 6, 13, 9, 12, 11, 10, 20, 17, 16, 19, 18, 27, 24, 23, 26, 25]⟩, ⟨(some 60), (.call (.func 27) [(.tmp 59)]), none, [30, 2, 1, 0, 5, 4, 3, 29, 28, 22, 21, 15, 14, 8, 7, 6, 13, 9, 12, 11, 10, 20, 17, 16, 19, 18, 27, 24, 23, 26, 25]⟩, ⟨(some 7), (.mov (.tmp 60)), none, [31, 30, 2, 1, 0, 5, 4, 3, 29, 28, 22, 21, 15, 14, 8, 7, 6, 13, 9, 12, 11, 10, 20, 17, 16, 19, 18, 27, 24, 23, 26, 25]⟩]) (.seq (.ops false [⟨(some 61), (.mov (.tmp 7)), none, []⟩, ⟨(some 62), (.bin .neq (.tmp 61) (.const (.int .i64 0))), none, [0]⟩]) (.cond (.tmp 62) (.seq (.ops false [⟨(some 63), (.mov (.tmp 7)), none, []⟩, ⟨(some 2), (.mov (.tmp 63)), none, [0]⟩]) .ret) .skip))) (.ops false [⟨(some 64), (.load (some 2) (.tmp 6)), none, []⟩, ⟨none, (.store 2 (.tmp 4) (.tmp 64)), none, [0]⟩])))) (.ops false [⟨(some 65), (.bin .add (.tmp 24) (.const (.int .i64 1))), none, []⟩, ⟨(some 24), (.mov (.tmp 65)), none, [0]⟩]))))
def dk59_0 : Keep := ⟨[], [4, 22, 23, 24], [4, 16]⟩
def dc59 : DFunc := ⟨70, 1, [(.tmp 2)], (.seq (.ops false [⟨(some 2), (.mov (.const (.int .i64 0))), none, []⟩]) (.seq (.seq (.ops false [⟨(some 8), (.mov (.tmp 0)), none, []⟩, ⟨(some 9), (.len (.tmp 8)), none, [0]⟩, ⟨(some 10), (.bin .lss (.tmp 9) (.const (.int .i64 2))), none, [1, 0]⟩, ⟨(some 11), (.call (.func 30) [(.tmp 10), (.const (.int .i64 16))]), none, [2, 1, 0]⟩, ⟨(some 12), (.mov (.tmp 0)), none, []⟩, ⟨(some 13), (.len (.tmp 12)), none, [4]⟩, ⟨(some 14), (.bin .gtr (.tmp 13) (.const (.int .i64 8))), none, [5, 4]⟩, ⟨(some 15), (.call (.func 30) [(.tmp 14), (.const (.int .i64 5))]), none, [6, 5, 4, 3, 2, 1, 0]⟩, ⟨(some 16), (.lit true 1 2 (.int .i64 0) [(0, (.tmp 11)), (1, (.tmp 15))]), none, [3, 2, 1, 0, 7, 6, 5, 4]⟩, ⟨(some 17), (.call (.func 27) [(.tmp 16)]), none, [8, 3, 2, 1, 0, 7, 6, 5, 4]⟩, ⟨(some 3), (.mov (.tmp 17)), none, [9, 8, 3, 2, 1, 0, 7, 6, 5, 4]⟩]) (.seq (.ops false [⟨(some 18), (.mov (.tmp 3)), none, []⟩, ⟨(some 19), (.bin .neq (.tmp 18) (.const (.int .i64 0))), none, [0]⟩]) (.cond (.tmp 19) (.seq (.ops false [⟨(some 20), (.mov (.tmp 3)), none, []⟩, ⟨(some 2), (.mov (.tmp 20)), none, [0]⟩]) .ret) .skip))) (.seq (.ops false [⟨(some 21), (.build [(.int .i64 0), (.int .i64 0)] [(0, (1, (.const (.int .i64 (-1))))), (1, (1, (.const (.int .i64 200))))]), none, []⟩, ⟨(some 4), (.alloc (.agg [(.int .i64 0), (.int .i64 0)]) 2), none, []⟩, ⟨none, (.store 2 (.tmp 4) (.tmp 21)), none, [1, 0]⟩]) (.seq (.seq (.ops false [⟨(some 22), (.mov (.tmp 0)), none, []⟩, ⟨(some 23), (.len (.tmp 22)), none, [0]⟩, ⟨(some 24), (.mov (.const (.int .i64 0))), none, []⟩]) (.block 0 (some ⟨[], [4], [4, 16]⟩) (.loop dk59_0 db59_0))) (.seq (.ops false [⟨(some 66), (.faddr 1 1 false (.tmp 4)), none, []⟩, ⟨(some 67), (.load none (.tmp 66)), none, [0]⟩, ⟨(some 68), (.bin .neq (.tmp 67) (.const (.int .i64 0))), none, [1, 0]⟩, ⟨(some 69), (.call (.func 30) [(.tmp 68), (.const (.int .i64 32))]), none, [2, 1, 0]⟩, ⟨(some 2), (.mov (.tmp 69)), none, [3, 2, 1, 0]⟩]) .ret)))))⟩
theorem dh59 : cProg Go.Proofs.Tryd.prog ⟨[(0, ⟨[], [4, 22, 23, 24], [4, 16]⟩)], [(0, ⟨[], [4], [4, 16]⟩)], [16, 59]⟩ 59 = some dc59 := by kernel_rfl
def dc36 : DFunc := ⟨14, 1, [(.tmp 2)], (.seq (.ops false [⟨(some 1), (.box 3 (.tmp 0)), none, []⟩, ⟨(some 2), (.mov (.const (.int .i64 0))), none, []⟩]) (.seq (.ops true [⟨(some 3), (.faddr 0 1 false (.tmp 1)), none, []⟩, ⟨(some 4), (.load none (.tmp 3)), none, [0]⟩, ⟨(some 5), (.call (.func 59) [(.tmp 4)]), none, [1, 0]⟩, ⟨(some 6), (.faddr 1 1 false (.tmp 1)), none, []⟩, ⟨(some 7), (.load none (.tmp 6)), none, [3]⟩, ⟨(some 8), (.call (.func 51) [(.tmp 7), (.const (.int .i64 0)), (.const (.int .i64 1000))]), none, [4, 3, 2, 1, 0]⟩, ⟨(some 9), (.faddr 2 1 false (.tmp 1)), none, []⟩, ⟨(some 10), (.load none (.tmp 9)), none, [6]⟩, ⟨(some 11), (.call (.func 51) [(.tmp 10), (.const (.int .i64 0)), (.const (.int .i64 10))]), none, [7, 6, 5, 4, 3, 2, 1, 0]⟩, ⟨(some 12), (.lit true 1 3 (.int .i64 0) [(0, (.tmp 5)), (1, (.tmp 8)), (2, (.tmp 11))]), none, [2, 1, 0, 5, 4, 3, 8, 7, 6]⟩, ⟨(some 13), (.call (.func 27) [(.tmp 12)]), none, [9, 2, 1, 0, 5, 4, 3, 8, 7, 6]⟩, ⟨(some 2), (.mov (.tmp 13)), none, [10, 9, 2, 1, 0, 5, 4, 3, 8, 7, 6]⟩]) .ret))⟩
theorem dh36 : cProg Go.Proofs.Tryd.prog ⟨[], [], [12]⟩ 36 = some dc36 := by kernel_rfl
def dc12 : DFunc := ⟨19, 2, [(.tmp 4), (.tmp 5)], (.seq (.ops false [⟨(some 4), (.mov (.const (.int .i64 0))), none, []⟩, ⟨(some 5), (.mov (.const (.int .i64 0))), none, [0]⟩]) (.seq (.seq (.ops false [⟨(some 7), (.mov (.tmp 0)), none, []⟩, ⟨(some 8), (.call (.func 42) [(.tmp 7)]), none, [0]⟩, ⟨(some 9), (.mov (.tmp 1)), none, []⟩, ⟨(some 10), (.call (.func 40) [(.tmp 9)]), none, [2, 1, 0]⟩, ⟨(some 11), (.lit true 1 2 (.int .i64 0) [(0, (.tmp 8)), (1, (.tmp 10))]), none, [1, 0, 3, 2]⟩, ⟨(some 12), (.call (.func 27) [(.tmp 11)]), none, [4, 1, 0, 3, 2]⟩, ⟨(some 6), (.mov (.tmp 12)), none, [5, 4, 1, 0, 3, 2]⟩]) (.seq (.ops false [⟨(some 13), (.mov (.tmp 6)), none, []⟩, ⟨(some 14), (.bin .neq (.tmp 13) (.const (.int .i64 0))), none, [0]⟩]) (.cond (.tmp 14) (.seq (.ops false [⟨(some 15), (.mov (.tmp 6)), none, []⟩, ⟨(some 4), (.mov (.const (.int .i64 0))), none, []⟩, ⟨(some 5), (.mov (.tmp 15)), none, [0, 1]⟩]) .ret) .skip))) (.seq (.ops false [⟨(some 16), (.mov (.tmp 0)), none, []⟩, ⟨(some 17), (.mov (.tmp 1)), none, []⟩, ⟨(some 18), (.call (.func 43) [(.tmp 16), (.tmp 17)]), none, [0, 1]⟩, ⟨(some 4), (.mov (.tmp 18)), none, [2, 0, 1]⟩, ⟨(some 5), (.mov (.const (.int .i64 0))), none, [3, 2, 0, 1]⟩]) .ret)))⟩
theorem dh12 : cProg Go.Proofs.Tryd.prog ⟨[], [], [11]⟩ 12 = some dc12 := by kernel_rfl
def dc13 : DFunc := ⟨22, 2, [(.tmp 4), (.tmp 5)], (.seq (.ops false [⟨(some 4), (.mov (.const (.int .i64 0))), none, []⟩, ⟨(some 5), (.mov (.const (.int .i64 0))), none, [0]⟩]) (.seq (.seq (.ops false [⟨(some 7), (.mov (.tmp 0)), none, []⟩, ⟨(some 8), (.call (.func 42) [(.tmp 7)]), none, [0]⟩, ⟨(some 9), (.mov (.tmp 1)), none, []⟩, ⟨(some 10), (.call (.func 37) [(.tmp 9)]), none, [2, 1, 0]⟩, ⟨(some 11), (.lit true 1 2 (.int .i64 0) [(0, (.tmp 8)), (1, (.tmp 10))]), none, [1, 0, 3, 2]⟩, ⟨(some 12), (.call (.func 27) [(.tmp 11)]), none, [4, 1, 0, 3, 2]⟩, ⟨(some 6), (.mov (.tmp 12)), none, [5, 4, 1, 0, 3, 2]⟩]) (.seq (.ops false [⟨(some 13), (.mov (.tmp 6)), none, []⟩, ⟨(some 14), (.bin .neq (.tmp 13) (.const (.int .i64 0))), none, [0]⟩]) (.cond (.tmp 14) (.seq (.ops false [⟨(some 15), (.mov (.tmp 6)), none, []⟩, ⟨(some 4), (.mov (.const (.int .i64 0))), none, []⟩, ⟨(some 5), (.mov (.tmp 15)), none, [0, 1]⟩]) .ret) .skip))) (.seq (.ops false [⟨(some 16), (.mov (.tmp 0)), none, []⟩, ⟨(some 17), (.mov (.tmp 1)), none, []⟩, ⟨(some 18), (.call (.func 44) [(.tmp 16), (.tmp 17)]), none, [0, 1]⟩, ⟨(some 19), (.mov (.tmp 1)), none, []⟩, ⟨(some 20), (.iaddr 1 (.tmp 18) (.tmp 19)), none, [2, 0, 1, 3]⟩, ⟨(some 21), (.load none (.tmp 20)), none, [4, 2, 0, 1, 3]⟩, ⟨(some 4), (.mov (.tmp 21)), none, [5, 4, 2, 0, 1, 3]⟩, ⟨(some 5), (.mov (.const (.int .i64 0))), none, [6, 5, 4, 2, 0, 1, 3]⟩]) .ret)))⟩
theorem dh13 : cProg Go.Proofs.Tryd.prog ⟨[], [], [11]⟩ 13 = some dc13 := by kernel_rfl
def db14_0 : DC := (.seq (.ops false [⟨(some 24), (.bin .lss (.tmp 23) (.tmp 22)), none, []⟩]) (.seq (.cond (.tmp 24) .skip (.exit 0)) (.seq (.block 1 none (.seq (.ops false [⟨(some 25), (.mov (.tmp 23)), none, []⟩, ⟨(some 26), (.iaddr 3 (.tmp 21) (.tmp 23)), none, []⟩, ⟨(some 27), (.load (some 3) (.tmp 26)), none, [1]⟩, ⟨(some 9), (.alloc (.agg [(.full []), (.int .i64 0), (.int .i64 0)]) 3), none, []⟩, ⟨(some 8), (.mov (.tmp 25)), none, [0, 1, 2, 3]⟩, ⟨none, (.store 3 (.tmp 9) (.tmp 27)), none, [3, 2, 1, 4, 0]⟩]) (.seq (.ops false [⟨(some 29), (.load (some 3) (.tmp 9)), none, []⟩, ⟨(some 30), (.mov (.tmp 1)), none, []⟩, ⟨(some 31), (.call (.func 41) [(.tmp 29), (.tmp 30)]), none, [0, 1]⟩, ⟨(some 28), (.mov (.tmp 31)), none, [2, 0, 1]⟩, ⟨(some 32), (.extract (.tmp 28) 0), none, [3, 2, 0, 1]⟩, ⟨(some 33), (.extract (.tmp 28) 1), none, [3, 2, 0, 1]⟩, ⟨(some 10), (.mov (.tmp 32)), none, [4, 3, 2, 0, 1]⟩, ⟨(some 11), (.mov (.tmp 33)), none, [5, 3, 2, 0, 1, 6, 4]⟩]) (.seq (.ops false [⟨(some 34), (.mov (.tmp 11)), none, []⟩, ⟨(some 35), (.un .not (.tmp 34)), none, [0]⟩]) (.cond (.tmp 35) (.ops false [⟨(some 36), (.mov (.tmp 7)), none, []⟩, ⟨(some 37), (.mov (.tmp 8)), none, []⟩, ⟨(some 38), (.lit true 1 1 (.int .i64 0) [(0, (.tmp 37))]), none, [1]⟩, ⟨(some 39), (.append false 1 (.tmp 36) (.tmp 38)), none, [0, 2, 1]⟩, ⟨(some 7), (.mov (.tmp 39)), none, [3, 0, 2, 1]⟩]) .skip))))) (.ops false [⟨(some 40), (.bin .add (.tmp 23) (.const (.int .i64 1))), none, []⟩, ⟨(some 23), (.mov (.tmp 40)), none, [0]⟩]))))
def dk14_0 : Keep := ⟨[(7, 1)], [1, 7, 21, 22, 23], [7, 16]⟩
def dc14 : DFunc := ⟨42, 2, [(.tmp 4), (.tmp 5)], (.seq (.ops false [⟨(some 4), (.mov (.const (.slice none 0 0))), none, []⟩, ⟨(some 5), (.mov (.const (.int .i64 0))), none, [0]⟩]) (.seq (.seq (.ops false [⟨(some 12), (.mov (.tmp 0)), none, []⟩, ⟨(some 13), (.call (.func 42) [(.tmp 12)]), none, [0]⟩, ⟨(some 14), (.mov (.tmp 1)), none, []⟩, ⟨(some 15), (.call (.func 40) [(.tmp 14)]), none, [2, 1, 0]⟩, ⟨(some 16), (.lit true 1 2 (.int .i64 0) [(0, (.tmp 13)), (1, (.tmp 15))]), none, [1, 0, 3, 2]⟩, ⟨(some 17), (.call (.func 27) [(.tmp 16)]), none, [4, 1, 0, 3, 2]⟩, ⟨(some 6), (.mov (.tmp 17)), none, [5, 4, 1, 0, 3, 2]⟩]) (.seq (.ops false [⟨(some 18), (.mov (.tmp 6)), none, []⟩, ⟨(some 19), (.bin .neq (.tmp 18) (.const (.int .i64 0))), none, [0]⟩]) (.cond (.tmp 19) (.seq (.ops false [⟨(some 20), (.mov (.tmp 6)), none, []⟩, ⟨(some 4), (.mov (.const (.slice none 0 0))), none, []⟩, ⟨(some 5), (.mov (.tmp 20)), none, [0, 1]⟩]) .ret) .skip))) (.seq (.ops false [⟨(some 7), (.mov (.const (.slice none 0 0))), none, []⟩]) (.seq (.seq (.ops false [⟨(some 21), (.mov (.tmp 0)), none, []⟩, ⟨(some 22), (.len (.tmp 21)), none, [0]⟩, ⟨(some 23), (.mov (.const (.int .i64 0))), none, []⟩]) (.block 0 (some ⟨[], [7], [7, 16]⟩) (.loop dk14_0 db14_0))) (.seq (.ops false [⟨(some 41), (.mov (.tmp 7)), none, []⟩, ⟨(some 4), (.mov (.tmp 41)), none, [0]⟩, ⟨(some 5), (.mov (.const (.int .i64 0))), none, [1, 0]⟩]) .ret)))))⟩
theorem dh14 : cProg Go.Proofs.Tryd.prog ⟨[(0, ⟨[(7, 1)], [1, 7, 21, 22, 23], [7, 16]⟩)], [(0, ⟨[], [7], [7, 16]⟩)], [16, 38]⟩ 14 = some dc14 := by kernel_rfl
def dc42 : DFunc := ⟨13, 1, [(.tmp 2)], (.seq (.ops false [⟨(some 2), (.mov (.const (.int .i64 0))), none, []⟩]) (.seq (.seq (.ops false [⟨(some 4), (.mov (.tmp 0)), none, []⟩, ⟨(some 5), (.len (.tmp 4)), none, [0]⟩, ⟨(some 6), (.call (.func 28) [(.tmp 5), (.const (.int .i64 8))]), none, [1, 0]⟩, ⟨(some 3), (.mov (.tmp 6)), none, [2, 1, 0]⟩]) (.seq (.ops false [⟨(some 7), (.mov (.tmp 3)), none, []⟩, ⟨(some 8), (.bin .neq (.tmp 7) (.const (.int .i64 0))), none, [0]⟩]) (.cond (.tmp 8) (.seq (.ops false [⟨(some 9), (.mov (.tmp 3)), none, []⟩, ⟨(some 2), (.mov (.tmp 9)), none, [0]⟩]) .ret) .skip))) (.seq (.ops false [⟨(some 10), (.mov (.tmp 0)), none, []⟩, ⟨(some 11), (.call (.func 62) [(.tmp 10), (.func 36)]), none, [0]⟩, ⟨(some 12), (.call (.func 27) [(.tmp 11)]), none, [1, 0]⟩, ⟨(some 2), (.mov (.tmp 12)), none, [2, 1, 0]⟩]) .ret)))⟩
theorem dh42 : cProg Go.Proofs.Tryd.prog ⟨[], [], []⟩ 42 = some dc42 := by kernel_rfl
def dc15 : DFunc := ⟨12, 1, [(.tmp 2), (.tmp 3)], (.seq (.ops false [⟨(some 2), (.mov (.const (.int .i64 0))), none, []⟩, ⟨(some 3), (.mov (.const (.int .i64 0))), none, [0]⟩]) (.seq (.seq (.ops false [⟨(some 5), (.mov (.tmp 0)), none, []⟩, ⟨(some 6), (.call (.func 45) [(.tmp 5)]), none, [0]⟩, ⟨(some 4), (.mov (.tmp 6)), none, [1, 0]⟩]) (.seq (.ops false [⟨(some 7), (.mov (.tmp 4)), none, []⟩, ⟨(some 8), (.bin .neq (.tmp 7) (.const (.int .i64 0))), none, [0]⟩]) (.cond (.tmp 8) (.seq (.ops false [⟨(some 9), (.mov (.tmp 4)), none, []⟩, ⟨(some 2), (.mov (.const (.int .i64 0))), none, []⟩, ⟨(some 3), (.mov (.tmp 9)), none, [0, 1]⟩]) .ret) .skip))) (.seq (.ops false [⟨(some 10), (.mov (.tmp 0)), none, []⟩, ⟨(some 11), (.call (.func 46) [(.tmp 10)]), none, [0]⟩, ⟨(some 2), (.mov (.tmp 11)), none, [1, 0]⟩, ⟨(some 3), (.mov (.const (.int .i64 0))), none, [2, 1, 0]⟩]) .ret)))⟩
theorem dh15 : cProg Go.Proofs.Tryd.prog ⟨[], [], []⟩ 15 = some dc15 := by kernel_rfl
def dc21 : DFunc := ⟨22, 2, [(.tmp 4), (.tmp 5)], (.seq (.ops false [⟨(some 4), (.mov (.const (.int .i64 0))), none, []⟩, ⟨(some 5), (.mov (.const (.int .i64 0))), none, [0]⟩]) (.seq (.seq (.ops false [⟨(some 7), (.mov (.tmp 0)), none, []⟩, ⟨(some 8), (.call (.func 45) [(.tmp 7)]), none, [0]⟩, ⟨(some 9), (.mov (.tmp 1)), none, []⟩, ⟨(some 10), (.call (.func 37) [(.tmp 9)]), none, [2, 1, 0]⟩, ⟨(some 11), (.lit true 1 2 (.int .i64 0) [(0, (.tmp 8)), (1, (.tmp 10))]), none, [1, 0, 3, 2]⟩, ⟨(some 12), (.call (.func 27) [(.tmp 11)]), none, [4, 1, 0, 3, 2]⟩, ⟨(some 6), (.mov (.tmp 12)), none, [5, 4, 1, 0, 3, 2]⟩]) (.seq (.ops false [⟨(some 13), (.mov (.tmp 6)), none, []⟩, ⟨(some 14), (.bin .neq (.tmp 13) (.const (.int .i64 0))), none, [0]⟩]) (.cond (.tmp 14) (.seq (.ops false [⟨(some 15), (.mov (.tmp 6)), none, []⟩, ⟨(some 4), (.mov (.const (.int .i64 0))), none, []⟩, ⟨(some 5), (.mov (.tmp 15)), none, [0, 1]⟩]) .ret) .skip))) (.seq (.ops false [⟨(some 16), (.mov (.tmp 0)), none, []⟩, ⟨(some 17), (.mov (.tmp 1)), none, []⟩, ⟨(some 18), (.call (.func 47) [(.tmp 16), (.tmp 17)]), none, [0, 1]⟩, ⟨(some 19), (.mov (.tmp 1)), none, []⟩, ⟨(some 20), (.iaddr 1 (.tmp 18) (.tmp 19)), none, [2, 0, 1, 3]⟩, ⟨(some 21), (.load none (.tmp 20)), none, [4, 2, 0, 1, 3]⟩, ⟨(some 4), (.mov (.tmp 21)), none, [5, 4, 2, 0, 1, 3]⟩, ⟨(some 5), (.mov (.const (.int .i64 0))), none, [6, 5, 4, 2, 0, 1, 3]⟩]) .ret)))⟩
theorem dh21 : cProg Go.Proofs.Tryd.prog ⟨[], [], [11]⟩ 21 = some dc21 := by kernel_rfl
def dc22 : DFunc := ⟨20, 2, [(.tmp 4), (.tmp 5)], (.seq (.ops false [⟨(some 4), (.mov (.const (.int .i64 0))), none, []⟩, ⟨(some 5), (.mov (.const (.int .i64 0))), none, [0]⟩]) (.seq (.ops false [⟨(some 9), (.mov (.tmp 0)), none, []⟩, ⟨(some 10), (.mov (.tmp 1)), none, []⟩, ⟨(some 11), (.call (.func 21) [(.tmp 9), (.tmp 10)]), none, [0, 1]⟩, ⟨(some 8), (.mov (.tmp 11)), none, [2, 0, 1]⟩, ⟨(some 12), (.extract (.tmp 8) 0), none, [3, 2, 0, 1]⟩, ⟨(some 13), (.extract (.tmp 8) 1), none, [3, 2, 0, 1]⟩, ⟨(some 6), (.mov (.tmp 12)), none, [4, 3, 2, 0, 1]⟩, ⟨(some 7), (.mov (.tmp 13)), none, [5, 3, 2, 0, 1, 6, 4]⟩]) (.seq (.seq (.ops false [⟨(some 14), (.mov (.tmp 7)), none, []⟩, ⟨(some 15), (.bin .neq (.tmp 14) (.const (.int .i64 0))), none, [0]⟩]) (.cond (.tmp 15) (.seq (.ops false [⟨(some 16), (.mov (.tmp 7)), none, []⟩, ⟨(some 4), (.mov (.const (.int .i64 0))), none, []⟩, ⟨(some 5), (.mov (.tmp 16)), none, [0, 1]⟩]) .ret) .skip)) (.seq (.ops false [⟨(some 17), (.mov (.tmp 1)), none, []⟩, ⟨(some 18), (.mov (.tmp 6)), none, []⟩, ⟨(some 19), (.bin .mul (.tmp 17) (.tmp 18)), none, [0, 1]⟩, ⟨(some 4), (.mov (.tmp 19)), none, [2, 0, 1]⟩, ⟨(some 5), (.mov (.const (.int .i64 0))), none, [3, 2, 0, 1]⟩]) .ret))))⟩
theorem dh22 : cProg Go.Proofs.Tryd.prog ⟨[], [], []⟩ 22 = some dc22 := by kernel_rfl
def dc16 : DFunc := ⟨14, 1, [(.tmp 2), (.tmp 3)], (.seq (.ops false [⟨(some 2), (.mov (.const (.slice none 0 0))), none, []⟩, ⟨(some 3), (.mov (.const (.int .i64 0))), none, [0]⟩]) (.seq (.seq (.ops false [⟨(some 5), (.mov (.tmp 0)), none, []⟩, ⟨(some 6), (.call (.func 45) [(.tmp 5)]), none, [0]⟩, ⟨(some 4), (.mov (.tmp 6)), none, [1, 0]⟩]) (.seq (.ops false [⟨(some 7), (.mov (.tmp 4)), none, []⟩, ⟨(some 8), (.bin .neq (.tmp 7) (.const (.int .i64 0))), none, [0]⟩]) (.cond (.tmp 8) (.seq (.ops false [⟨(some 9), (.mov (.tmp 4)), none, []⟩, ⟨(some 2), (.mov (.const (.slice none 0 0))), none, []⟩, ⟨(some 3), (.mov (.tmp 9)), none, [0, 1]⟩]) .ret) .skip))) (.seq (.ops false [⟨(some 10), (.mov (.tmp 0)), none, []⟩, ⟨(some 11), (.mov (.tmp 0)), none, []⟩, ⟨(some 12), (.call (.func 46) [(.tmp 11)]), none, [1]⟩, ⟨(some 13), (.call (.func 47) [(.tmp 10), (.tmp 12)]), none, [0, 2, 1]⟩, ⟨(some 2), (.mov (.tmp 13)), none, [3, 0, 2, 1]⟩, ⟨(some 3), (.mov (.const (.int .i64 0))), none, [4, 3, 0, 2, 1]⟩]) .ret)))⟩
theorem dh16 : cProg Go.Proofs.Tryd.prog ⟨[], [], []⟩ 16 = some dc16 := by kernel_rfl
def db23_0 : DC := (.seq (.ops false [⟨(some 26), (.bin .lss (.tmp 25) (.tmp 24)), none, []⟩]) (.seq (.cond (.tmp 26) .skip (.exit 0)) (.seq (.block 1 none (.seq (.ops false [⟨(some 27), (.mov (.tmp 25)), none, []⟩, ⟨(some 8), (.mov (.tmp 27)), none, [0]⟩]) (.seq (.ops false [⟨(some 29), (.mov (.tmp 0)), none, []⟩, ⟨(some 30), (.mov (.tmp 8)), none, []⟩, ⟨(some 31), (.mov (.tmp 8)), none, []⟩, ⟨(some 32), (.bin .add (.tmp 31) (.const (.int .i64 1))), none, [2]⟩, ⟨(some 33), (.slice 1 (.tmp 29) (some (.tmp 30)) (some (.tmp 32)) none), none, [0, 1, 3, 2]⟩, ⟨(some 34), (.call (.func 18) [(.tmp 33)]), none, [4, 0, 1, 3, 2]⟩, ⟨(some 28), (.mov (.tmp 34)), none, [5, 4, 0, 1, 3, 2]⟩, ⟨(some 35), (.extract (.tmp 28) 0), none, [6, 5, 4, 0, 1, 3, 2]⟩, ⟨(some 36), (.extract (.tmp 28) 1), none, [6, 5, 4, 0, 1, 3, 2]⟩, ⟨(some 37), (.extract (.tmp 28) 2), none, [6, 5, 4, 0, 1, 3, 2]⟩, ⟨(some 9), (.mov (.tmp 35)), none, [7, 6, 5, 4, 0, 1, 3, 2]⟩, ⟨(some 10), (.mov (.tmp 36)), none, [8, 6, 5, 4, 0, 1, 3, 2, 10, 7]⟩, ⟨(some 11), (.mov (.tmp 37)), none, [9, 6, 5, 4, 0, 1, 3, 2, 11, 8, 10, 7]⟩]) (.ops false [⟨(some 38), (.mov (.tmp 7)), none, []⟩, ⟨(some 39), (.mov (.tmp 10)), none, []⟩, ⟨(some 40), (.bin .add (.tmp 38) (.tmp 39)), none, [0, 1]⟩, ⟨(some 7), (.mov (.tmp 40)), none, [2, 0, 1]⟩])))) (.ops false [⟨(some 41), (.bin .add (.tmp 25) (.const (.int .i64 1))), none, []⟩, ⟨(some 25), (.mov (.tmp 41)), none, [0]⟩]))))
def dk23_0 : Keep := ⟨[], [0, 7, 24, 25], []⟩
def dc23 : DFunc := ⟨43, 1, [(.tmp 2), (.tmp 3)], (.seq (.ops false [⟨(some 2), (.mov (.const (.int .i64 0))), none, []⟩, ⟨(some 3), (.mov (.const (.int .i64 0))), none, [0]⟩]) (.seq (.ops false [⟨(some 13), (.mov (.tmp 0)), none, []⟩, ⟨(some 14), (.call (.func 18) [(.tmp 13)]), none, [0]⟩, ⟨(some 12), (.mov (.tmp 14)), none, [1, 0]⟩, ⟨(some 15), (.extract (.tmp 12) 0), none, [2, 1, 0]⟩, ⟨(some 16), (.extract (.tmp 12) 1), none, [2, 1, 0]⟩, ⟨(some 17), (.extract (.tmp 12) 2), none, [2, 1, 0]⟩, ⟨(some 4), (.mov (.tmp 15)), none, [3, 2, 1, 0]⟩, ⟨(some 5), (.mov (.tmp 16)), none, [4, 2, 1, 0, 6, 3]⟩, ⟨(some 6), (.mov (.tmp 17)), none, [5, 2, 1, 0, 7, 4, 6, 3]⟩]) (.seq (.seq (.ops false [⟨(some 18), (.mov (.tmp 6)), none, []⟩, ⟨(some 19), (.bin .neq (.tmp 18) (.const (.int .i64 0))), none, [0]⟩]) (.cond (.tmp 19) (.seq (.ops false [⟨(some 20), (.mov (.tmp 6)), none, []⟩, ⟨(some 2), (.mov (.const (.int .i64 0))), none, []⟩, ⟨(some 3), (.mov (.tmp 20)), none, [0, 1]⟩]) .ret) .skip)) (.seq (.ops false [⟨(some 21), (.mov (.tmp 5)), none, []⟩, ⟨(some 22), (.un .neg (.tmp 21)), none, [0]⟩, ⟨(some 7), (.mov (.tmp 22)), none, [1, 0]⟩]) (.seq (.seq (.ops false [⟨(some 23), (.mov (.tmp 0)), none, []⟩, ⟨(some 24), (.len (.tmp 23)), none, [0]⟩, ⟨(some 25), (.mov (.const (.int .i64 0))), none, []⟩]) (.block 0 (some ⟨[], [7], []⟩) (.loop dk23_0 db23_0))) (.seq (.ops false [⟨(some 42), (.mov (.tmp 7)), none, []⟩, ⟨(some 2), (.mov (.tmp 42)), none, [0]⟩, ⟨(some 3), (.mov (.const (.int .i64 0))), none, [1, 0]⟩]) .ret))))))⟩
theorem dh23 : cProg Go.Proofs.Tryd.prog ⟨[(0, ⟨[], [0, 7, 24, 25], []⟩)], [(0, ⟨[], [7], []⟩)], []⟩ 23 = some dc23 := by kernel_rfl
def dc45 : DFunc := ⟨13, 1, [(.tmp 2)], (.seq (.ops false [⟨(some 2), (.mov (.const (.int .i64 0))), none, []⟩]) (.seq (.seq (.ops false [⟨(some 4), (.mov (.tmp 0)), none, []⟩, ⟨(some 5), (.len (.tmp 4)), none, [0]⟩, ⟨(some 6), (.call (.func 28) [(.tmp 5), (.const (.int .i64 6))]), none, [1, 0]⟩, ⟨(some 3), (.mov (.tmp 6)), none, [2, 1, 0]⟩]) (.seq (.ops false [⟨(some 7), (.mov (.tmp 3)), none, []⟩, ⟨(some 8), (.bin .neq (.tmp 7) (.const (.int .i64 0))), none, [0]⟩]) (.cond (.tmp 8) (.seq (.ops false [⟨(some 9), (.mov (.tmp 3)), none, []⟩, ⟨(some 2), (.mov (.tmp 9)), none, [0]⟩]) .ret) .skip))) (.seq (.ops false [⟨(some 10), (.mov (.tmp 0)), none, []⟩, ⟨(some 11), (.call (.func 64) [(.tmp 10), (.func 42)]), none, [0]⟩, ⟨(some 12), (.call (.func 27) [(.tmp 11)]), none, [1, 0]⟩, ⟨(some 2), (.mov (.tmp 12)), none, [2, 1, 0]⟩]) .ret)))⟩
theorem dh45 : cProg Go.Proofs.Tryd.prog ⟨[], [], []⟩ 45 = some dc45 := by kernel_rfl
def dc24 : DFunc := ⟨39, 3, [(.cell 6 (some 2)), (.tmp 7)], (.seq (.ops false [⟨(some 6), (.alloc (.agg [(.int .i64 0), (.int .i64 0)]) 2), none, []⟩, ⟨(some 7), (.mov (.const (.int .i64 0))), none, []⟩]) (.seq (.seq (.ops false [⟨(some 9), (.mov (.tmp 0)), none, []⟩, ⟨(some 10), (.call (.func 45) [(.tmp 9)]), none, [0]⟩, ⟨(some 11), (.mov (.tmp 1)), none, []⟩, ⟨(some 12), (.call (.func 37) [(.tmp 11)]), none, [2, 1, 0]⟩, ⟨(some 13), (.mov (.tmp 2)), none, []⟩, ⟨(some 14), (.call (.func 51) [(.tmp 13), (.const (.int .i64 0)), (.const (.int .i64 1000))]), none, [4, 3, 2, 1, 0]⟩, ⟨(some 15), (.lit true 1 3 (.int .i64 0) [(0, (.tmp 10)), (1, (.tmp 12)), (2, (.tmp 14))]), none, [1, 0, 3, 2, 5, 4]⟩, ⟨(some 16), (.call (.func 27) [(.tmp 15)]), none, [6, 1, 0, 3, 2, 5, 4]⟩, ⟨(some 8), (.mov (.tmp 16)), none, [7, 6, 1, 0, 3, 2, 5, 4]⟩]) (.seq (.ops false [⟨(some 17), (.mov (.tmp 8)), none, []⟩, ⟨(some 18), (.bin .neq (.tmp 17) (.const (.int .i64 0))), none, [0]⟩]) (.cond (.tmp 18) (.seq (.ops false [⟨(some 19), (.build [(.int .i64 0), (.int .i64 0)] []), none, []⟩, ⟨(some 20), (.mov (.tmp 8)), none, []⟩, ⟨none, (.store 2 (.tmp 6) (.tmp 19)), none, [0]⟩, ⟨(some 7), (.mov (.tmp 20)), none, [1, 2, 0]⟩]) .ret) .skip))) (.seq (.ops true [⟨(some 21), (.mov (.tmp 0)), none, []⟩, ⟨(some 22), (.mov (.tmp 2)), none, []⟩, ⟨(some 23), (.un .neg (.tmp 22)), none, [1]⟩, ⟨(some 24), (.call (.func 52) [(.tmp 21), (.tmp 23)]), none, [0, 2, 1]⟩, ⟨(some 25), (.mov (.tmp 1)), none, []⟩, ⟨(some 26), (.call (.func 47) [(.tmp 24), (.tmp 25)]), none, [3, 0, 2, 1, 4]⟩, ⟨(some 27), (.mov (.tmp 1)), none, []⟩, ⟨(some 28), (.iaddr 1 (.tmp 26) (.tmp 27)), none, [5, 3, 0, 2, 1, 4, 6]⟩, ⟨(some 29), (.load none (.tmp 28)), none, [7, 5, 3, 0, 2, 1, 4, 6]⟩, ⟨(some 30), (.mov (.tmp 0)), none, []⟩, ⟨(some 31), (.mov (.tmp 2)), none, []⟩, ⟨(some 32), (.call (.func 52) [(.tmp 30), (.tmp 31)]), none, [9, 10, 5, 3, 0, 2, 1, 4]⟩, ⟨(some 33), (.mov (.tmp 1)), none, []⟩, ⟨(some 34), (.call (.func 47) [(.tmp 32), (.tmp 33)]), none, [11, 9, 10, 5, 3, 0, 2, 1, 4, 12]⟩, ⟨(some 35), (.mov (.tmp 1)), none, []⟩, ⟨(some 36), (.iaddr 1 (.tmp 34) (.tmp 35)), none, [13, 11, 9, 10, 5, 3, 0, 2, 1, 4, 12, 14]⟩, ⟨(some 37), (.load none (.tmp 36)), none, [15, 13, 11, 9, 10, 5, 3, 0, 2, 1, 4, 12, 14]⟩, ⟨(some 38), (.build [(.int .i64 0), (.int .i64 0)] [(0, (1, (.tmp 29))), (1, (1, (.tmp 37)))]), none, [8, 7, 5, 3, 0, 2, 1, 4, 6, 16, 15, 13, 11, 9, 10, 12, 14]⟩, ⟨none, (.store 2 (.tmp 6) (.tmp 38)), none, [17, 8, 7, 5, 3, 0, 2, 1, 4, 6, 16, 15, 13, 11, 9, 10, 12, 14]⟩, ⟨(some 7), (.mov (.const (.int .i64 0))), none, [18, 17, 8, 7, 5, 3, 0, 2, 1, 4, 6, 16, 15, 13, 11, 9, 10, 12, 14]⟩]) .ret)))⟩
theorem dh24 : cProg Go.Proofs.Tryd.prog ⟨[], [], [15]⟩ 24 = some dc24 := by kernel_rfl
def dc58 : DFunc := ⟨16, 3, [(.tmp 6)], (.seq (.ops false [⟨(some 6), (.mov (.const (.int .i64 0))), none, []⟩]) (.seq (.ops false [⟨(some 7), (.mov (.tmp 0)), none, []⟩, ⟨(some 8), (.mov (.tmp 1)), none, []⟩, ⟨(some 9), (.bin .lss (.tmp 7) (.tmp 8)), none, [0, 1]⟩, ⟨(some 10), (.mov (.tmp 9)), none, [2, 0, 1]⟩, ⟨(some 11), (.mov (.tmp 0)), (some (10, false)), [3, 2, 0, 1]⟩, ⟨(some 12), (.mov (.tmp 2)), (some (10, false)), [3, 2, 0, 1]⟩, ⟨(some 13), (.bin .gtr (.tmp 11) (.tmp 12)), (some (10, false)), [4, 3, 2, 0, 1, 5]⟩, ⟨(some 14), (.pick (.tmp 10) (.const (.bool true)) (.tmp 13)), none, [3, 2, 0, 1, 6, 4, 5]⟩, ⟨(some 15), (.call (.func 34) [(.tmp 14), (.const (.int .i64 3))]), none, [7, 3, 2, 0, 1, 6, 4, 5]⟩, ⟨(some 6), (.mov (.tmp 15)), none, [8, 7, 3, 2, 0, 1, 6, 4, 5]⟩]) .ret))⟩
theorem dh58 : cProg Go.Proofs.Tryd.prog ⟨[], [], []⟩ 58 = some dc58 := by kernel_rfl
def db17_0 : DC := (.seq (.seq (.ops true [⟨(some 47), (.mov (.tmp 9)), none, []⟩, ⟨(some 48), (.bin .add (.tmp 47) (.const (.int .i64 1))), none, [0]⟩, ⟨(some 49), (.mov (.tmp 5)), none, []⟩, ⟨(some 50), (.len (.tmp 49)), none, [2]⟩, ⟨(some 51), (.bin .lss (.tmp 48) (.tmp 50)), none, [1, 0, 3, 2]⟩, ⟨(some 52), (.mov (.tmp 51)), none, [4, 1, 0, 3, 2]⟩, ⟨(some 53), (.mov (.tmp 5)), (some (52, true)), [5, 4, 1, 0, 3, 2]⟩, ⟨(some 54), (.mov (.tmp 9)), (some (52, true)), [5, 4, 1, 0, 3, 2]⟩, ⟨(some 55), (.bin .add (.tmp 54) (.const (.int .i64 1))), (some (52, true)), [7, 5, 4, 1, 0, 3, 2]⟩, ⟨(some 56), (.iaddr 2 (.tmp 53) (.tmp 55)), (some (52, true)), [6, 5, 4, 1, 0, 3, 2, 8, 7]⟩, ⟨(some 57), (.faddr 1 1 false (.tmp 56)), (some (52, true)), [9, 6, 5, 4, 1, 0, 3, 2, 8, 7]⟩, ⟨(some 58), (.load none (.tmp 57)), (some (52, true)), [10, 9, 6, 5, 4, 1, 0, 3, 2, 8, 7]⟩, ⟨(some 59), (.faddr 1 1 false (.tmp 8)), (some (52, true)), [5, 4, 1, 0, 3, 2]⟩, ⟨(some 60), (.load none (.tmp 59)), (some (52, true)), [12, 5, 4, 1, 0, 3, 2]⟩, ⟨(some 61), (.bin .eql (.tmp 58) (.tmp 60)), (some (52, true)), [11, 10, 9, 6, 5, 4, 1, 0, 3, 2, 8, 7, 13, 12]⟩, ⟨(some 62), (.pick (.tmp 52) (.tmp 61) (.const (.bool false))), none, [5, 4, 1, 0, 3, 2, 14, 11, 10, 9, 6, 8, 7, 13, 12]⟩]) (.cond (.tmp 62) .skip (.exit 2))) (.block 3 none (.ops false [⟨(some 63), (.mov (.tmp 9)), none, []⟩, ⟨(some 64), (.bin .add (.tmp 63) (.const (.int .i64 1))), none, [0]⟩, ⟨(some 9), (.mov (.tmp 64)), none, [1, 0]⟩])))
def dk17_0 : Keep := ⟨[], [5, 6, 8, 9, 21, 22, 23], [6, 8, 85, 86]⟩
def db17_1 : DC := (.seq (.ops false [⟨(some 24), (.bin .lss (.tmp 23) (.tmp 22)), none, []⟩]) (.seq (.cond (.tmp 24) .skip (.exit 0)) (.seq (.block 1 (some ⟨[], [5, 6, 21, 22, 23], [6]⟩) (.seq (.ops false [⟨(some 25), (.mov (.tmp 23)), none, []⟩, ⟨(some 26), (.iaddr 2 (.tmp 21) (.tmp 23)), none, []⟩, ⟨(some 27), (.load (some 2) (.tmp 26)), none, [1]⟩, ⟨(some 8), (.alloc (.agg [(.int .i64 0), (.int .i64 0)]) 2), none, []⟩, ⟨(some 7), (.mov (.tmp 25)), none, [0, 1, 2, 3]⟩, ⟨none, (.store 2 (.tmp 8) (.tmp 27)), none, [3, 2, 1, 4, 0]⟩]) (.seq (.seq (.ops true [⟨(some 28), (.faddr 1 1 false (.tmp 8)), none, []⟩, ⟨(some 29), (.load none (.tmp 28)), none, [0]⟩, ⟨(some 30), (.bin .eql (.tmp 29) (.const (.int .i64 0))), none, [1, 0]⟩, ⟨(some 31), (.mov (.tmp 30)), none, [2, 1, 0]⟩, ⟨(some 32), (.mov (.tmp 7)), (some (31, false)), [3, 2, 1, 0]⟩, ⟨(some 33), (.bin .gtr (.tmp 32) (.const (.int .i64 0))), (some (31, false)), [4, 3, 2, 1, 0]⟩, ⟨(some 34), (.mov (.tmp 33)), (some (31, false)), [5, 4, 3, 2, 1, 0]⟩, ⟨(some 35), (.mov (.tmp 5)), (some (34, true)), [6, 5, 4, 3, 2, 1, 0]⟩, ⟨(some 36), (.mov (.tmp 7)), (some (34, true)), [6, 5, 4, 3, 2, 1, 0]⟩, ⟨(some 37), (.bin .sub (.tmp 36) (.const (.int .i64 1))), (some (34, true)), [8, 6, 5, 4, 3, 2, 1, 0]⟩, ⟨(some 38), (.iaddr 2 (.tmp 35) (.tmp 37)), (some (34, true)), [7, 6, 5, 4, 3, 2, 1, 0, 9, 8]⟩, ⟨(some 39), (.faddr 1 1 false (.tmp 38)), (some (34, true)), [10, 7, 6, 5, 4, 3, 2, 1, 0, 9, 8]⟩, ⟨(some 40), (.load none (.tmp 39)), (some (34, true)), [11, 10, 7, 6, 5, 4, 3, 2, 1, 0, 9, 8]⟩, ⟨(some 41), (.faddr 1 1 false (.tmp 8)), (some (34, true)), [6, 5, 4, 3, 2, 1, 0]⟩, ⟨(some 42), (.load none (.tmp 41)), (some (34, true)), [13, 6, 5, 4, 3, 2, 1, 0]⟩, ⟨(some 43), (.bin .geq (.tmp 40) (.tmp 42)), (some (34, true)), [12, 11, 10, 7, 6, 5, 4, 3, 2, 1, 0, 9, 8, 14, 13]⟩, ⟨(some 44), (.pick (.tmp 34) (.tmp 43) (.const (.bool false))), (some (31, false)), [6, 5, 4, 3, 2, 1, 0, 15, 12, 11, 10, 7, 9, 8, 14, 13]⟩, ⟨(some 45), (.pick (.tmp 31) (.const (.bool true)) (.tmp 44)), none, [3, 2, 1, 0, 16, 6, 5, 4, 15, 12, 11, 10, 7, 9, 8, 14, 13]⟩]) (.cond (.tmp 45) (.exit 1) .skip)) (.seq (.ops false [⟨(some 46), (.mov (.tmp 7)), none, []⟩, ⟨(some 9), (.mov (.tmp 46)), none, [0]⟩]) (.seq (.block 2 (some ⟨[], [5, 6, 8, 9, 21, 22, 23], [6, 8, 85, 86]⟩) (.loop dk17_0 db17_0)) (.seq (.ops true [⟨(some 65), (.mov (.tmp 9)), none, []⟩, ⟨(some 66), (.bin .add (.tmp 65) (.const (.int .i64 1))), none, [0]⟩, ⟨(some 67), (.mov (.tmp 5)), none, []⟩, ⟨(some 68), (.len (.tmp 67)), none, [2]⟩, ⟨(some 69), (.bin .eql (.tmp 66) (.tmp 68)), none, [1, 0, 3, 2]⟩, ⟨(some 70), (.mov (.tmp 69)), none, [4, 1, 0, 3, 2]⟩, ⟨(some 71), (.mov (.tmp 5)), (some (70, false)), [5, 4, 1, 0, 3, 2]⟩, ⟨(some 72), (.mov (.tmp 9)), (some (70, false)), [5, 4, 1, 0, 3, 2]⟩, ⟨(some 73), (.bin .add (.tmp 72) (.const (.int .i64 1))), (some (70, false)), [7, 5, 4, 1, 0, 3, 2]⟩, ⟨(some 74), (.iaddr 2 (.tmp 71) (.tmp 73)), (some (70, false)), [6, 5, 4, 1, 0, 3, 2, 8, 7]⟩, ⟨(some 75), (.faddr 1 1 false (.tmp 74)), (some (70, false)), [9, 6, 5, 4, 1, 0, 3, 2, 8, 7]⟩, ⟨(some 76), (.load none (.tmp 75)), (some (70, false)), [10, 9, 6, 5, 4, 1, 0, 3, 2, 8, 7]⟩, ⟨(some 77), (.faddr 1 1 false (.tmp 8)), (some (70, false)), [5, 4, 1, 0, 3, 2]⟩, ⟨(some 78), (.load none (.tmp 77)), (some (70, false)), [12, 5, 4, 1, 0, 3, 2]⟩, ⟨(some 79), (.bin .lss (.tmp 76) (.tmp 78)), (some (70, false)), [11, 10, 9, 6, 5, 4, 1, 0, 3, 2, 8, 7, 13, 12]⟩, ⟨(some 80), (.pick (.tmp 70) (.const (.bool true)) (.tmp 79)), none, [5, 4, 1, 0, 3, 2, 14, 11, 10, 9, 6, 8, 7, 13, 12]⟩]) (.cond (.tmp 80) (.ops false [⟨(some 81), (.mov (.tmp 6)), none, []⟩, ⟨(some 82), (.faddr 0 1 true (.tmp 8)), none, []⟩, ⟨(some 83), (.faddr 0 1 false (.tmp 82)), none, [1]⟩, ⟨(some 84), (.load none (.tmp 83)), none, [2, 1]⟩, ⟨(some 85), (.lit true 1 1 (.int .i64 0) [(0, (.tmp 84))]), none, [3, 2, 1]⟩, ⟨(some 86), (.append false 1 (.tmp 81) (.tmp 85)), none, [0, 4, 3, 2, 1]⟩, ⟨(some 6), (.mov (.tmp 86)), none, [5, 0, 4, 3, 2, 1]⟩]) .skip))))))) (.ops false [⟨(some 87), (.bin .add (.tmp 23) (.const (.int .i64 1))), none, []⟩, ⟨(some 23), (.mov (.tmp 87)), none, [0]⟩]))))
def dk17_1 : Keep := ⟨[(6, 1)], [5, 6, 21, 22, 23], [6]⟩
def dc17 : DFunc := ⟨89, 1, [(.tmp 2), (.tmp 3)], (.seq (.ops false [⟨(some 2), (.mov (.const (.slice none 0 0))), none, []⟩, ⟨(some 3), (.mov (.const (.int .i64 0))), none, [0]⟩]) (.seq (.seq (.ops false [⟨(some 10), (.mov (.tmp 0)), none, []⟩, ⟨(some 11), (.call (.func 45) [(.tmp 10)]), none, [0]⟩, ⟨(some 4), (.mov (.tmp 11)), none, [1, 0]⟩]) (.seq (.ops false [⟨(some 12), (.mov (.tmp 4)), none, []⟩, ⟨(some 13), (.bin .neq (.tmp 12) (.const (.int .i64 0))), none, [0]⟩]) (.cond (.tmp 13) (.seq (.ops false [⟨(some 14), (.mov (.tmp 4)), none, []⟩, ⟨(some 2), (.mov (.const (.slice none 0 0))), none, []⟩, ⟨(some 3), (.mov (.tmp 14)), none, [0, 1]⟩]) .ret) .skip))) (.seq (.ops false [⟨(some 15), (.mov (.tmp 0)), none, []⟩, ⟨(some 16), (.mov (.tmp 0)), none, []⟩, ⟨(some 17), (.call (.func 46) [(.tmp 16)]), none, [1]⟩, ⟨(some 18), (.call (.func 47) [(.tmp 15), (.tmp 17)]), none, [0, 2, 1]⟩, ⟨(some 19), (.call (.func 49) [(.tmp 18)]), none, [3, 0, 2, 1]⟩, ⟨(some 20), (.call (.func 48) [(.tmp 19)]), none, [4, 3, 0, 2, 1]⟩, ⟨(some 5), (.mov (.tmp 20)), none, [5, 4, 3, 0, 2, 1]⟩]) (.seq (.ops false [⟨(some 6), (.mov (.const (.slice none 0 0))), none, []⟩]) (.seq (.seq (.ops false [⟨(some 21), (.mov (.tmp 5)), none, []⟩, ⟨(some 22), (.len (.tmp 21)), none, [0]⟩, ⟨(some 23), (.mov (.const (.int .i64 0))), none, []⟩]) (.block 0 (some ⟨[], [6], [6]⟩) (.loop dk17_1 db17_1))) (.seq (.ops false [⟨(some 88), (.mov (.tmp 6)), none, []⟩, ⟨(some 2), (.mov (.tmp 88)), none, [0]⟩, ⟨(some 3), (.mov (.const (.int .i64 0))), none, [1, 0]⟩]) .ret))))))⟩
theorem dh17 : cProg Go.Proofs.Tryd.prog ⟨[(0, ⟨[(6, 1)], [5, 6, 21, 22, 23], [6]⟩), (2, ⟨[], [5, 6, 8, 9, 21, 22, 23], [6, 8, 85, 86]⟩)], [(2, ⟨[], [5, 6, 8, 9, 21, 22, 23], [6, 8, 85, 86]⟩), (1, ⟨[], [5, 6, 21, 22, 23], [6]⟩), (0, ⟨[], [6], [6]⟩)], [85]⟩ 17 = some dc17 := by kernel_rfl
def dc18 : DFunc := ⟨23, 1, [(.tmp 2), (.tmp 3), (.tmp 4)], (.seq (.ops false [⟨(some 2), (.mov (.const (.int .i64 0))), none, []⟩, ⟨(some 3), (.mov (.const (.int .i64 0))), none, [0]⟩, ⟨(some 4), (.mov (.const (.int .i64 0))), none, [1, 0]⟩]) (.seq (.ops false [⟨(some 9), (.mov (.tmp 0)), none, []⟩, ⟨(some 10), (.call (.func 16) [(.tmp 9)]), none, [0]⟩, ⟨(some 8), (.mov (.tmp 10)), none, [1, 0]⟩, ⟨(some 11), (.extract (.tmp 8) 0), none, [2, 1, 0]⟩, ⟨(some 12), (.extract (.tmp 8) 1), none, [2, 1, 0]⟩, ⟨(some 5), (.mov (.tmp 11)), none, [3, 2, 1, 0]⟩, ⟨(some 6), (.mov (.tmp 12)), none, [4, 2, 1, 0, 5, 3]⟩]) (.seq (.seq (.ops false [⟨(some 13), (.mov (.tmp 6)), none, []⟩, ⟨(some 14), (.bin .neq (.tmp 13) (.const (.int .i64 0))), none, [0]⟩]) (.cond (.tmp 14) (.seq (.ops false [⟨(some 15), (.mov (.tmp 6)), none, []⟩, ⟨(some 2), (.mov (.const (.int .i64 0))), none, []⟩, ⟨(some 3), (.mov (.const (.int .i64 0))), none, [1]⟩, ⟨(some 4), (.mov (.tmp 15)), none, [0, 2, 1]⟩]) .ret) .skip)) (.seq (.ops false [⟨(some 16), (.mov (.tmp 5)), none, []⟩, ⟨(some 17), (.call (.func 50) [(.tmp 16)]), none, [0]⟩, ⟨(some 7), (.alloc (.agg [(.int .i64 0), (.int .i64 0)]) 2), none, []⟩, ⟨none, (.store 2 (.tmp 7) (.tmp 17)), none, [2, 1, 0]⟩]) (.seq (.ops true [⟨(some 18), (.faddr 0 1 true (.tmp 7)), none, []⟩, ⟨(some 19), (.faddr 0 1 false (.tmp 18)), none, [0]⟩, ⟨(some 20), (.load none (.tmp 19)), none, [1, 0]⟩, ⟨(some 21), (.faddr 1 1 false (.tmp 7)), none, []⟩, ⟨(some 22), (.load none (.tmp 21)), none, [3]⟩, ⟨(some 2), (.mov (.tmp 20)), none, [2, 1, 0]⟩, ⟨(some 3), (.mov (.tmp 22)), none, [4, 3, 5, 2, 1, 0]⟩, ⟨(some 4), (.mov (.const (.int .i64 0))), none, [6, 4, 3, 5, 2, 1, 0]⟩]) .ret)))))⟩
theorem dh18 : cProg Go.Proofs.Tryd.prog ⟨[], [], []⟩ 18 = some dc18 := by kernel_rfl
def db20_0 : DC := (.block 1 none (.seq (.ops false [⟨(some 21), (.mov (.tmp 4)), none, []⟩, ⟨(some 22), (.mov (.tmp 7)), none, []⟩, ⟨(some 23), (.mov (.tmp 7)), none, []⟩, ⟨(some 24), (.len (.tmp 23)), none, [2]⟩, ⟨(some 25), (.bin .sub (.tmp 24) (.const (.int .i64 1))), none, [3, 2]⟩, ⟨(some 26), (.iaddr 1 (.tmp 22) (.tmp 25)), none, [1, 4, 3, 2]⟩, ⟨(some 27), (.load none (.tmp 26)), none, [5, 1, 4, 3, 2]⟩, ⟨(some 28), (.iaddr 1 (.tmp 21) (.tmp 27)), none, [0, 6, 5, 1, 4, 3, 2]⟩, ⟨(some 29), (.load none (.tmp 28)), none, [7, 0, 6, 5, 1, 4, 3, 2]⟩, ⟨(some 8), (.mov (.tmp 29)), none, [8, 7, 0, 6, 5, 1, 4, 3, 2]⟩]) (.seq (.seq (.ops false [⟨(some 30), (.mov (.tmp 8)), none, []⟩, ⟨(some 31), (.mov (.tmp 4)), none, []⟩, ⟨(some 32), (.len (.tmp 31)), none, [1]⟩, ⟨(some 33), (.bin .sub (.tmp 32) (.const (.int .i64 1))), none, [2, 1]⟩, ⟨(some 34), (.bin .mul (.tmp 30) (.tmp 33)), none, [0, 3, 2, 1]⟩, ⟨(some 35), (.mov (.tmp 6)), none, []⟩, ⟨(some 36), (.bin .leq (.tmp 34) (.tmp 35)), none, [4, 0, 3, 2, 1, 5]⟩]) (.cond (.tmp 36) (.exit 0) .skip)) (.ops false [⟨(some 37), (.mov (.tmp 7)), none, []⟩, ⟨(some 38), (.mov (.tmp 6)), none, []⟩, ⟨(some 39), (.mov (.tmp 8)), none, []⟩, ⟨(some 40), (.bin .quo (.tmp 38) (.tmp 39)), none, [1, 2]⟩, ⟨(some 41), (.bin .add (.tmp 40) (.const (.int .i64 1))), none, [3, 1, 2]⟩, ⟨(some 42), (.lit true 1 1 (.int .i64 0) [(0, (.tmp 41))]), none, [4, 3, 1, 2]⟩, ⟨(some 43), (.append false 1 (.tmp 37) (.tmp 42)), none, [0, 5, 4, 3, 1, 2]⟩, ⟨(some 7), (.mov (.tmp 43)), none, [6, 0, 5, 4, 3, 1, 2]⟩]))))
def dk20_0 : Keep := ⟨[(7, 1)], [4, 6, 7], [7, 20]⟩
def dc20 : DFunc := ⟨45, 1, [(.tmp 2), (.tmp 3)], (.seq (.ops false [⟨(some 2), (.mov (.const (.slice none 0 0))), none, []⟩, ⟨(some 3), (.mov (.const (.int .i64 0))), none, [0]⟩]) (.seq (.ops false [⟨(some 10), (.mov (.tmp 0)), none, []⟩, ⟨(some 11), (.call (.func 16) [(.tmp 10)]), none, [0]⟩, ⟨(some 9), (.mov (.tmp 11)), none, [1, 0]⟩, ⟨(some 12), (.extract (.tmp 9) 0), none, [2, 1, 0]⟩, ⟨(some 13), (.extract (.tmp 9) 1), none, [2, 1, 0]⟩, ⟨(some 4), (.mov (.tmp 12)), none, [3, 2, 1, 0]⟩, ⟨(some 5), (.mov (.tmp 13)), none, [4, 2, 1, 0, 5, 3]⟩]) (.seq (.seq (.ops false [⟨(some 14), (.mov (.tmp 5)), none, []⟩, ⟨(some 15), (.bin .neq (.tmp 14) (.const (.int .i64 0))), none, [0]⟩]) (.cond (.tmp 15) (.seq (.ops false [⟨(some 16), (.mov (.tmp 5)), none, []⟩, ⟨(some 2), (.mov (.const (.slice none 0 0))), none, []⟩, ⟨(some 3), (.mov (.tmp 16)), none, [0, 1]⟩]) .ret) .skip)) (.seq (.ops false [⟨(some 17), (.mov (.tmp 4)), none, []⟩, ⟨(some 18), (.call (.func 50) [(.tmp 17)]), none, [0]⟩, ⟨(some 19), (.field 1 1 false (.tmp 18)), none, [1, 0]⟩, ⟨(some 6), (.mov (.tmp 19)), none, [2, 1, 0]⟩]) (.seq (.ops false [⟨(some 20), (.lit false 1 1 (.int .i64 0) [(0, (.const (.int .i64 0)))]), none, []⟩, ⟨(some 7), (.mov (.tmp 20)), none, [0]⟩]) (.seq .skip (.seq (.block 0 (some ⟨[], [7], [7, 20]⟩) (.loop dk20_0 db20_0)) (.seq (.ops false [⟨(some 44), (.mov (.tmp 7)), none, []⟩, ⟨(some 2), (.mov (.tmp 44)), none, [0]⟩, ⟨(some 3), (.mov (.const (.int .i64 0))), none, [1, 0]⟩]) .ret))))))))⟩
theorem dh20 : cProg Go.Proofs.Tryd.prog ⟨[(0, ⟨[(7, 1)], [4, 6, 7], [7, 20]⟩)], [(0, ⟨[], [7], [7, 20]⟩)], [42]⟩ 20 = some dc20 := by kernel_rfl
def db26_0 : DC := (.seq (.ops false [⟨(some 35), (.bin .lss (.tmp 34) (.tmp 33)), none, []⟩]) (.seq (.cond (.tmp 35) .skip (.exit 0)) (.seq (.block 1 none (.seq (.ops false [⟨(some 36), (.mov (.tmp 34)), none, []⟩, ⟨(some 37), (.iaddr 1 (.tmp 32) (.tmp 34)), none, []⟩, ⟨(some 38), (.load none (.tmp 37)), none, [1]⟩, ⟨(some 10), (.mov (.tmp 36)), none, [0, 1, 2]⟩, ⟨(some 11), (.mov (.tmp 38)), none, [2, 1, 3, 0]⟩]) (.seq (.seq (.ops false [⟨(some 39), (.mov (.tmp 11)), none, []⟩, ⟨(some 40), (.mov (.tmp 7)), none, []⟩, ⟨(some 41), (.len (.tmp 40)), none, [1]⟩, ⟨(some 42), (.bin .sub (.tmp 41) (.const (.int .i64 1))), none, [2, 1]⟩, ⟨(some 43), (.call (.func 51) [(.tmp 39), (.const (.int .i64 0)), (.tmp 42)]), none, [0, 3, 2, 1]⟩, ⟨(some 44), (.mov (.tmp 10)), none, []⟩, ⟨(some 45), (.bin .eql (.tmp 44) (.const (.int .i64 0))), none, [5]⟩, ⟨(some 46), (.mov (.tmp 45)), none, [6, 5, 4, 0, 3, 2, 1]⟩, ⟨(some 47), (.mov (.tmp 11)), (some (46, true)), [7, 6, 5, 4, 0, 3, 2, 1]⟩, ⟨(some 48), (.bin .neq (.tmp 47) (.const (.int .i64 0))), (some (46, true)), [8, 7, 6, 5, 4, 0, 3, 2, 1]⟩, ⟨(some 49), (.pick (.tmp 46) (.tmp 48) (.const (.bool false))), none, [7, 6, 5, 4, 0, 3, 2, 1, 9, 8]⟩, ⟨(some 50), (.mov (.tmp 49)), none, [10, 7, 6, 5, 4, 0, 3, 2, 1, 9, 8]⟩, ⟨(some 51), (.mov (.tmp 11)), (some (50, false)), [11, 10, 7, 6, 5, 4, 0, 3, 2, 1, 9, 8]⟩, ⟨(some 52), (.mov (.tmp 9)), (some (50, false)), [11, 10, 7, 6, 5, 4, 0, 3, 2, 1, 9, 8]⟩, ⟨(some 53), (.bin .leq (.tmp 51) (.tmp 52)), (some (50, false)), [12, 11, 10, 7, 6, 5, 4, 0, 3, 2, 1, 9, 8, 13]⟩, ⟨(some 54), (.pick (.tmp 50) (.const (.bool true)) (.tmp 53)), none, [11, 10, 7, 6, 5, 4, 0, 3, 2, 1, 9, 8, 14, 12, 13]⟩, ⟨(some 55), (.call (.func 30) [(.tmp 54), (.const (.int .i64 11))]), none, [15, 11, 10, 7, 6, 5, 4, 0, 3, 2, 1, 9, 8, 14, 12, 13]⟩, ⟨(some 56), (.lit true 1 2 (.int .i64 0) [(0, (.tmp 43)), (1, (.tmp 55))]), none, [4, 0, 3, 2, 1, 16, 15, 11, 10, 7, 6, 5, 9, 8, 14, 12, 13]⟩, ⟨(some 57), (.call (.func 27) [(.tmp 56)]), none, [17, 4, 0, 3, 2, 1, 16, 15, 11, 10, 7, 6, 5, 9, 8, 14, 12, 13]⟩, ⟨(some 12), (.mov (.tmp 57)), none, [18, 17, 4, 0, 3, 2, 1, 16, 15, 11, 10, 7, 6, 5, 9, 8, 14, 12, 13]⟩]) (.seq (.ops false [⟨(some 58), (.mov (.tmp 12)), none, []⟩, ⟨(some 59), (.bin .neq (.tmp 58) (.const (.int .i64 0))), none, [0]⟩]) (.cond (.tmp 59) (.seq (.ops false [⟨(some 60), (.mov (.tmp 12)), none, []⟩, ⟨(some 6), (.mov (.tmp 60)), none, [0]⟩]) .ret) .skip))) (.ops false [⟨(some 61), (.mov (.tmp 11)), none, []⟩, ⟨(some 9), (.mov (.tmp 61)), none, [0]⟩])))) (.ops false [⟨(some 62), (.bin .add (.tmp 34) (.const (.int .i64 1))), none, []⟩, ⟨(some 34), (.mov (.tmp 62)), none, [0]⟩]))))
def dk26_0 : Keep := ⟨[], [1, 2, 7, 9, 32, 33, 34], [27]⟩
def db26_1 : DC := (.seq (.ops false [⟨(some 66), (.bin .lss (.tmp 65) (.tmp 64)), none, []⟩]) (.seq (.cond (.tmp 66) .skip (.exit 2)) (.seq (.block 3 none (.seq (.ops false [⟨(some 67), (.mov (.tmp 65)), none, []⟩, ⟨(some 68), (.iaddr 1 (.tmp 63) (.tmp 65)), none, []⟩, ⟨(some 69), (.load none (.tmp 68)), none, [1]⟩, ⟨(some 13), (.mov (.tmp 67)), none, [0, 1, 2]⟩, ⟨(some 14), (.mov (.tmp 69)), none, [2, 1, 3, 0]⟩]) (.seq (.ops false [⟨(some 70), (.mov (.tmp 7)), none, []⟩, ⟨(some 71), (.len (.tmp 70)), none, [0]⟩, ⟨(some 72), (.bin .sub (.tmp 71) (.const (.int .i64 1))), none, [1, 0]⟩, ⟨(some 15), (.mov (.tmp 72)), none, [2, 1, 0]⟩]) (.seq (.seq (.ops false [⟨(some 73), (.mov (.tmp 13)), none, []⟩, ⟨(some 74), (.bin .add (.tmp 73) (.const (.int .i64 1))), none, [0]⟩, ⟨(some 75), (.mov (.tmp 2)), none, []⟩, ⟨(some 76), (.len (.tmp 75)), none, [2]⟩, ⟨(some 77), (.bin .lss (.tmp 74) (.tmp 76)), none, [1, 0, 3, 2]⟩]) (.cond (.tmp 77) (.ops false [⟨(some 78), (.mov (.tmp 2)), none, []⟩, ⟨(some 79), (.mov (.tmp 13)), none, []⟩, ⟨(some 80), (.bin .add (.tmp 79) (.const (.int .i64 1))), none, [1]⟩, ⟨(some 81), (.iaddr 1 (.tmp 78) (.tmp 80)), none, [0, 2, 1]⟩, ⟨(some 82), (.load none (.tmp 81)), none, [3, 0, 2, 1]⟩, ⟨(some 83), (.bin .sub (.tmp 82) (.const (.int .i64 1))), none, [4, 3, 0, 2, 1]⟩, ⟨(some 15), (.mov (.tmp 83)), none, [5, 4, 3, 0, 2, 1]⟩]) .skip)) (.seq (.ops false [⟨(some 84), (.mov (.tmp 7)), none, []⟩, ⟨(some 85), (.mov (.tmp 14)), none, []⟩, ⟨(some 86), (.iaddr 1 (.tmp 84) (.tmp 85)), none, [0, 1]⟩, ⟨(some 87), (.load none (.tmp 86)), none, [2, 0, 1]⟩, ⟨(some 88), (.mov (.tmp 15)), none, []⟩, ⟨(some 89), (.bin .mul (.tmp 87) (.tmp 88)), none, [3, 2, 0, 1, 4]⟩, ⟨(some 90), (.mov (.tmp 1)), none, []⟩, ⟨(some 91), (.bin .gtr (.tmp 89) (.tmp 90)), none, [5, 3, 2, 0, 1, 4, 6]⟩]) (.cond (.tmp 91) (.seq (.ops false [⟨(some 6), (.mov (.const (.int .i64 19))), none, []⟩]) .ret) .skip)))))) (.ops false [⟨(some 92), (.bin .add (.tmp 65) (.const (.int .i64 1))), none, []⟩, ⟨(some 65), (.mov (.tmp 92)), none, [0]⟩]))))
def dk26_1 : Keep := ⟨[], [1, 2, 7, 63, 64, 65], [27, 56]⟩
def dc26 : DFunc := ⟨93, 3, [(.tmp 6)], (.seq (.ops false [⟨(some 6), (.mov (.const (.int .i64 0))), none, []⟩]) (.seq (.ops false [⟨(some 17), (.mov (.tmp 0)), none, []⟩, ⟨(some 18), (.call (.func 16) [(.tmp 17)]), none, [0]⟩, ⟨(some 16), (.mov (.tmp 18)), none, [1, 0]⟩, ⟨(some 19), (.extract (.tmp 16) 0), none, [2, 1, 0]⟩, ⟨(some 20), (.extract (.tmp 16) 1), none, [2, 1, 0]⟩, ⟨(some 7), (.mov (.tmp 19)), none, [3, 2, 1, 0]⟩, ⟨(some 8), (.mov (.tmp 20)), none, [4, 2, 1, 0, 5, 3]⟩]) (.seq (.seq (.ops false [⟨(some 21), (.mov (.tmp 8)), none, []⟩, ⟨(some 22), (.mov (.tmp 1)), none, []⟩, ⟨(some 23), (.call (.func 51) [(.tmp 22), (.const (.int .i64 0)), (.const (.int .i64 960000))]), none, [1]⟩, ⟨(some 24), (.mov (.tmp 2)), none, []⟩, ⟨(some 25), (.len (.tmp 24)), none, [3]⟩, ⟨(some 26), (.call (.func 28) [(.tmp 25), (.const (.int .i64 801))]), none, [4, 3, 2, 1]⟩, ⟨(some 27), (.lit true 1 3 (.int .i64 0) [(0, (.tmp 21)), (1, (.tmp 23)), (2, (.tmp 26))]), none, [0, 2, 1, 5, 4, 3]⟩, ⟨(some 28), (.call (.func 27) [(.tmp 27)]), none, [6, 0, 2, 1, 5, 4, 3]⟩, ⟨(some 8), (.mov (.tmp 28)), none, [7, 6, 0, 2, 1, 5, 4, 3]⟩]) (.seq (.ops false [⟨(some 29), (.mov (.tmp 8)), none, []⟩, ⟨(some 30), (.bin .neq (.tmp 29) (.const (.int .i64 0))), none, [0]⟩]) (.cond (.tmp 30) (.seq (.ops false [⟨(some 31), (.mov (.tmp 8)), none, []⟩, ⟨(some 6), (.mov (.tmp 31)), none, [0]⟩]) .ret) .skip))) (.seq (.ops false [⟨(some 9), (.mov (.const (.int .i64 (-1)))), none, []⟩]) (.seq (.seq (.ops false [⟨(some 32), (.mov (.tmp 2)), none, []⟩, ⟨(some 33), (.len (.tmp 32)), none, [0]⟩, ⟨(some 34), (.mov (.const (.int .i64 0))), none, []⟩]) (.block 0 (some ⟨[], [1, 2, 7], [27]⟩) (.loop dk26_0 db26_0))) (.seq (.seq (.ops false [⟨(some 63), (.mov (.tmp 2)), none, []⟩, ⟨(some 64), (.len (.tmp 63)), none, [0]⟩, ⟨(some 65), (.mov (.const (.int .i64 0))), none, []⟩]) (.block 2 (some ⟨[], [], [27, 56]⟩) (.loop dk26_1 db26_1))) (.seq (.ops false [⟨(some 6), (.mov (.const (.int .i64 0))), none, []⟩]) .ret)))))))⟩
theorem dh26 : cProg Go.Proofs.Tryd.prog ⟨[(0, ⟨[], [1, 2, 7, 9, 32, 33, 34], [27]⟩), (2, ⟨[], [1, 2, 7, 63, 64, 65], [27, 56]⟩)], [(0, ⟨[], [1, 2, 7], [27]⟩), (2, ⟨[], [], [27, 56]⟩)], [27, 56]⟩ 26 = some dc26 := by kernel_rfl
def dc34 : DFunc := ⟨7, 2, [(.tmp 4)], (.seq (.ops false [⟨(some 4), (.mov (.const (.int .i64 0))), none, []⟩]) (.seq (.seq (.ops false [⟨(some 5), (.mov (.tmp 0)), none, []⟩]) (.cond (.tmp 5) (.seq (.ops false [⟨(some 6), (.mov (.tmp 1)), none, []⟩, ⟨(some 4), (.mov (.tmp 6)), none, [0]⟩]) .ret) .skip)) (.seq (.ops false [⟨(some 4), (.mov (.const (.int .i64 0))), none, []⟩]) .ret)))⟩
theorem dh34 : cProg Go.Proofs.Tryd.prog ⟨[], [], []⟩ 34 = some dc34 := by kernel_rfl
end Sh

set_option maxRecDepth 100000
namespace Sh
open Go
def db25_0 : DC := (.seq (.ops false [⟨(some 31), (.bin .lss (.tmp 30) (.tmp 29)), none, []⟩]) (.seq (.cond (.tmp 31) .skip (.exit 2)) (.seq (.block 3 none (.seq (.ops false [⟨(some 32), (.iaddr 2 (.tmp 28) (.tmp 30)), none, []⟩, ⟨(some 33), (.load (some 2) (.tmp 32)), none, [0]⟩, ⟨(some 10), (.alloc (.agg [(.int .i64 0), (.int .i64 0)]) 2), none, []⟩, ⟨none, (.store 2 (.tmp 10) (.tmp 33)), none, [2, 1, 0]⟩]) (.ops false [⟨(some 34), (.mov (.tmp 8)), none, []⟩, ⟨(some 35), (.faddr 0 1 false (.tmp 10)), none, []⟩, ⟨(some 36), (.load none (.tmp 35)), none, [1]⟩, ⟨(some 37), (.faddr 1 1 false (.tmp 10)), none, []⟩, ⟨(some 38), (.load none (.tmp 37)), none, [3]⟩, ⟨(some 39), (.lit true 1 2 (.int .i64 0) [(0, (.tmp 36)), (1, (.tmp 38))]), none, [2, 1, 4, 3]⟩, ⟨(some 40), (.append false 1 (.tmp 34) (.tmp 39)), none, [0, 5, 2, 1, 4, 3]⟩, ⟨(some 8), (.mov (.tmp 40)), none, [6, 0, 5, 2, 1, 4, 3]⟩]))) (.ops false [⟨(some 41), (.bin .add (.tmp 30) (.const (.int .i64 1))), none, []⟩, ⟨(some 30), (.mov (.tmp 41)), none, [0]⟩]))))
def dk25_0 : Keep := ⟨[(8, 1)], [5, 8, 16, 17, 18, 28, 29, 30], [7, 8, 26, 43, 46]⟩
def db25_1 : DC := (.seq (.ops false [⟨(some 19), (.bin .lss (.tmp 18) (.tmp 17)), none, []⟩]) (.seq (.cond (.tmp 19) .skip (.exit 0)) (.seq (.block 1 (some ⟨[], [5, 16, 17, 18], []⟩) (.seq (.ops false [⟨(some 20), (.iaddr 3 (.tmp 16) (.tmp 18)), none, []⟩, ⟨(some 21), (.load (some 3) (.tmp 20)), none, [0]⟩, ⟨(some 7), (.alloc (.agg [(.full []), (.int .i64 0), (.int .i64 0)]) 3), none, []⟩, ⟨none, (.store 3 (.tmp 7) (.tmp 21)), none, [2, 1, 0]⟩]) (.seq (.ops false [⟨(some 22), (.faddr 1 1 false (.tmp 7)), none, []⟩, ⟨(some 23), (.load none (.tmp 22)), none, [0]⟩, ⟨(some 24), (.faddr 2 1 false (.tmp 7)), none, []⟩, ⟨(some 25), (.load none (.tmp 24)), none, [2]⟩, ⟨(some 26), (.lit false 1 2 (.int .i64 0) [(0, (.tmp 23)), (1, (.tmp 25))]), none, [1, 0, 3, 2]⟩, ⟨(some 8), (.mov (.tmp 26)), none, [4, 1, 0, 3, 2]⟩]) (.seq (.seq (.ops false [⟨(some 27), (.faddr 0 1 false (.tmp 7)), none, []⟩, ⟨(some 28), (.load none (.tmp 27)), none, [0]⟩, ⟨(some 29), (.len (.tmp 28)), none, [1, 0]⟩, ⟨(some 30), (.mov (.const (.int .i64 0))), none, []⟩]) (.block 2 (some ⟨[], [5, 8, 16, 17, 18], [7, 8, 26, 43, 46]⟩) (.loop dk25_0 db25_0))) (.ops false [⟨(some 42), (.mov (.tmp 5)), none, []⟩, ⟨(some 43), (.lit true 1 1 (.str []) [(0, (.const (.string ⟨#[99, 101, 108, 108]⟩)))]), none, []⟩, ⟨(some 44), (.mov (.tmp 8)), none, []⟩, ⟨(some 45), (.call (.func 54) [(.tmp 44), (.func 55)]), none, [2]⟩, ⟨(some 46), (.append true 1 (.tmp 43) (.tmp 45)), none, [1, 3, 2]⟩, ⟨(some 47), (.call (.func 53) [(.tmp 46), (.const (.string ⟨#[32]⟩))]), none, [4, 1, 3, 2]⟩, ⟨(some 48), (.bin .add (.tmp 47) (.const (.string ⟨#[10]⟩))), none, [5, 4, 1, 3, 2]⟩, ⟨(some 49), (.bin .add (.tmp 42) (.tmp 48)), none, [0, 6, 5, 4, 1, 3, 2]⟩, ⟨(some 5), (.mov (.tmp 49)), none, [7, 0, 6, 5, 4, 1, 3, 2]⟩]))))) (.ops false [⟨(some 50), (.bin .add (.tmp 18) (.const (.int .i64 1))), none, []⟩, ⟨(some 18), (.mov (.tmp 50)), none, [0]⟩]))))
def dk25_1 : Keep := ⟨[], [5, 16, 17, 18], []⟩
def dc25 : DFunc := ⟨52, 1, [(.tmp 2), (.tmp 3)], (.seq (.ops false [⟨(some 2), (.mov (.const (.string ⟨#[]⟩))), none, []⟩, ⟨(some 3), (.mov (.const (.int .i64 0))), none, [0]⟩]) (.seq (.seq (.ops false [⟨(some 11), (.mov (.tmp 0)), none, []⟩, ⟨(some 12), (.call (.func 42) [(.tmp 11)]), none, [0]⟩, ⟨(some 4), (.mov (.tmp 12)), none, [1, 0]⟩]) (.seq (.ops false [⟨(some 13), (.mov (.tmp 4)), none, []⟩, ⟨(some 14), (.bin .neq (.tmp 13) (.const (.int .i64 0))), none, [0]⟩]) (.cond (.tmp 14) (.seq (.ops false [⟨(some 15), (.mov (.tmp 4)), none, []⟩, ⟨(some 2), (.mov (.const (.string ⟨#[]⟩))), none, []⟩, ⟨(some 3), (.mov (.tmp 15)), none, [0, 1]⟩]) .ret) .skip))) (.seq (.ops false [⟨(some 5), (.mov (.const (.string ⟨#[]⟩))), none, []⟩]) (.seq (.seq (.ops false [⟨(some 16), (.mov (.tmp 0)), none, []⟩, ⟨(some 17), (.len (.tmp 16)), none, [0]⟩, ⟨(some 18), (.mov (.const (.int .i64 0))), none, []⟩]) (.block 0 (some ⟨[], [5], []⟩) (.loop dk25_1 db25_1))) (.seq (.ops false [⟨(some 51), (.mov (.tmp 5)), none, []⟩, ⟨(some 2), (.mov (.tmp 51)), none, [0]⟩, ⟨(some 3), (.mov (.const (.int .i64 0))), none, [1, 0]⟩]) .ret)))))⟩
theorem dh25 : cProg Go.Proofs.Tryd.prog ⟨[(0, ⟨[], [5, 16, 17, 18], []⟩), (2, ⟨[(8, 1)], [5, 8, 16, 17, 18, 28, 29, 30], [7, 8, 26, 43, 46]⟩)], [(2, ⟨[], [5, 8, 16, 17, 18], [7, 8, 26, 43, 46]⟩), (1, ⟨[], [5, 16, 17, 18], []⟩), (0, ⟨[], [5], []⟩)], [39, 43, 46]⟩ 25 = some dc25 := by kernel_rfl
-- F 68 none
def dc9 : DFunc := ⟨3, 0, [(.cell 0 (some 3))], (.seq (.ops false [⟨(some 0), (.alloc (.agg [(.full []), (.int .i64 0), (.int .i64 0)]) 3), none, []⟩]) (.seq (.ops false [⟨(some 1), (.call (.func 39) []), none, []⟩, ⟨(some 2), (.build [(.full []), (.int .i64 0), (.int .i64 0)] [(0, (1, (.tmp 1))), (1, (1, (.const (.int .i64 1000)))), (2, (1, (.const (.int .i64 1))))]), none, [0]⟩, ⟨none, (.store 3 (.tmp 0) (.tmp 2)), none, [1, 0]⟩]) .ret))⟩
theorem dh9 : cProg Go.Proofs.Tryd.prog ⟨[], [], []⟩ 9 = some dc9 := by kernel_rfl
def dc10 : DFunc := ⟨5, 0, [(.tmp 0)], (.seq (.ops false [⟨(some 0), (.mov (.const (.slice none 0 0))), none, []⟩]) (.seq (.ops false [⟨(some 1), (.call (.func 9) []), none, []⟩, ⟨(some 2), (.call (.func 39) []), none, [0]⟩, ⟨(some 3), (.build [(.full []), (.int .i64 0), (.int .i64 0)] [(0, (1, (.tmp 2))), (1, (1, (.const (.int .i64 500)))), (2, (1, (.const (.int .i64 1))))]), none, [1, 0]⟩, ⟨(some 4), (.lit true 3 2 (.agg [(.full []), (.int .i64 0), (.int .i64 0)]) [(0, (.tmp 1)), (1, (.tmp 3))]), none, [0, 2, 1]⟩, ⟨(some 0), (.mov (.tmp 4)), none, [3, 0, 2, 1]⟩]) .ret))⟩
theorem dh10 : cProg Go.Proofs.Tryd.prog ⟨[], [], [4]⟩ 10 = some dc10 := by kernel_rfl
def db19_0 : DC := (.seq (.seq (.ops false [⟨(some 11), (.mov (.tmp 5)), none, []⟩, ⟨(some 12), (.mov (.tmp 0)), none, []⟩, ⟨(some 13), (.len (.tmp 12)), none, [1]⟩, ⟨(some 14), (.bin .lss (.tmp 11) (.tmp 13)), none, [0, 2, 1]⟩]) (.cond (.tmp 14) .skip (.exit 0))) (.seq (.block 1 none (.seq (.ops true [⟨(some 17), (.mov (.tmp 0)), none, []⟩, ⟨(some 18), (.mov (.tmp 5)), none, []⟩, ⟨(some 19), (.iaddr 1 (.tmp 17) (.tmp 18)), none, [0, 1]⟩, ⟨(some 20), (.load none (.tmp 19)), none, [2, 0, 1]⟩, ⟨(some 21), (.mov (.tmp 1)), none, []⟩, ⟨(some 22), (.mov (.tmp 5)), none, []⟩, ⟨(some 23), (.iaddr 1 (.tmp 21) (.tmp 22)), none, [4, 5]⟩, ⟨(some 24), (.load none (.tmp 23)), none, [6, 4, 5]⟩, ⟨(some 25), (.bin .neq (.tmp 20) (.tmp 24)), none, [3, 2, 0, 1, 7, 6, 4, 5]⟩]) (.cond (.tmp 25) (.seq (.ops false [⟨(some 4), (.mov (.const (.bool false))), none, []⟩]) .ret) .skip))) (.ops false [⟨(some 15), (.mov (.tmp 5)), none, []⟩, ⟨(some 16), (.bin .add (.tmp 15) (.const (.int .i64 1))), none, [0]⟩, ⟨(some 5), (.mov (.tmp 16)), none, [1, 0]⟩])))
def dk19_0 : Keep := ⟨[], [0, 1, 5], []⟩
def dc19 : DFunc := ⟨26, 2, [(.tmp 4)], (.seq (.ops false [⟨(some 4), (.mov (.const (.bool false))), none, []⟩]) (.seq (.seq (.ops false [⟨(some 6), (.mov (.tmp 0)), none, []⟩, ⟨(some 7), (.len (.tmp 6)), none, [0]⟩, ⟨(some 8), (.mov (.tmp 1)), none, []⟩, ⟨(some 9), (.len (.tmp 8)), none, [2]⟩, ⟨(some 10), (.bin .neq (.tmp 7) (.tmp 9)), none, [1, 0, 3, 2]⟩]) (.cond (.tmp 10) (.seq (.ops false [⟨(some 4), (.mov (.const (.bool false))), none, []⟩]) .ret) .skip)) (.seq (.seq (.ops false [⟨(some 5), (.mov (.const (.int .i64 0))), none, []⟩]) (.block 0 (some ⟨[], [], []⟩) (.loop dk19_0 db19_0))) (.seq (.ops false [⟨(some 4), (.mov (.const (.bool true))), none, []⟩]) .ret))))⟩
theorem dh19 : cProg Go.Proofs.Tryd.prog ⟨[(0, ⟨[], [0, 1, 5], []⟩)], [(0, ⟨[], [], []⟩)], []⟩ 19 = some dc19 := by kernel_rfl
def dc5 : DFunc := ⟨33, 2, [(.tmp 4), (.tmp 5)], (.seq (.ops false [⟨(some 2), (.box 1 (.tmp 0)), none, []⟩, ⟨(some 3), (.box 1 (.tmp 1)), none, []⟩, ⟨(some 4), (.mov (.const (.string ⟨#[]⟩))), none, []⟩, ⟨(some 5), (.mov (.const (.int .i64 0))), none, [2]⟩]) (.seq (.seq (.ops true [⟨(some 8), (.load none (.tmp 2)), none, []⟩, ⟨(some 9), (.len (.tmp 8)), none, [0]⟩, ⟨(some 10), (.call (.func 28) [(.tmp 9), (.const (.int .i64 801))]), none, [1, 0]⟩, ⟨(some 11), (.load none (.tmp 2)), none, []⟩, ⟨(some 12), (.call (.func 29) [(.tmp 11)]), none, [3, 2, 1, 0]⟩, ⟨(some 13), (.load none (.tmp 3)), none, []⟩, ⟨(some 14), (.len (.tmp 13)), none, [5]⟩, ⟨(some 15), (.load none (.tmp 2)), none, []⟩, ⟨(some 16), (.len (.tmp 15)), none, [7]⟩, ⟨(some 17), (.bin .neq (.tmp 14) (.tmp 16)), none, [6, 5, 8, 7]⟩, ⟨(some 18), (.call (.func 30) [(.tmp 17), (.const (.int .i64 2))]), none, [9, 6, 5, 8, 7, 4, 3, 2, 1, 0]⟩, ⟨(some 19), (.load none (.tmp 3)), none, []⟩, ⟨(some 20), (.call (.func 29) [(.tmp 19)]), none, [11, 10, 9, 6, 5, 8, 7, 4, 3, 2, 1, 0]⟩, ⟨(some 21), (.lit true 1 4 (.int .i64 0) [(0, (.tmp 10)), (1, (.tmp 12)), (2, (.tmp 18)), (3, (.tmp 20))]), none, [2, 1, 0, 4, 3, 10, 9, 6, 5, 8, 7, 12, 11]⟩, ⟨(some 22), (.call (.func 27) [(.tmp 21)]), none, [13, 2, 1, 0, 4, 3, 10, 9, 6, 5, 8, 7, 12, 11]⟩, ⟨(some 6), (.mov (.tmp 22)), none, [14, 13, 2, 1, 0, 4, 3, 10, 9, 6, 5, 8, 7, 12, 11]⟩]) (.seq (.ops false [⟨(some 23), (.mov (.tmp 6)), none, []⟩, ⟨(some 24), (.bin .neq (.tmp 23) (.const (.int .i64 0))), none, [0]⟩]) (.cond (.tmp 24) (.seq (.ops false [⟨(some 25), (.mov (.tmp 6)), none, []⟩, ⟨(some 4), (.mov (.const (.string ⟨#[]⟩))), none, []⟩, ⟨(some 5), (.mov (.tmp 25)), none, [0, 1]⟩]) .ret) .skip))) (.seq (.ops false [⟨(some 26), (.sliceA 5 2 true (.global 0)), none, []⟩, ⟨(some 27), (.mkfunc 32 [(.tmp 2), (.tmp 3)]), none, []⟩, ⟨(some 28), (.call (.func 31) [(.tmp 26), (.tmp 27)]), none, [0, 1]⟩, ⟨(some 7), (.mov (.tmp 28)), none, [2, 0, 1]⟩]) (.seq (.ops false [⟨(some 29), (.mov (.tmp 7)), none, []⟩, ⟨(some 30), (.iaddrA 5 2 true (.global 0) (.tmp 29)), none, [0]⟩, ⟨(some 31), (.faddr 0 1 false (.tmp 30)), none, [1, 0]⟩, ⟨(some 32), (.load none (.tmp 31)), none, [2, 1, 0]⟩, ⟨(some 4), (.mov (.tmp 32)), none, [3, 2, 1, 0]⟩, ⟨(some 5), (.mov (.const (.int .i64 0))), none, [4, 3, 2, 1, 0]⟩]) .ret))))⟩
theorem dh5 : cProg Go.Proofs.Tryd.prog ⟨[], [], [21]⟩ 5 = some dc5 := by kernel_rfl
def db27_0 : DC := (.seq (.ops false [⟨(some 8), (.bin .lss (.tmp 7) (.tmp 6)), none, []⟩]) (.seq (.cond (.tmp 8) .skip (.exit 0)) (.seq (.block 1 none (.seq (.ops false [⟨(some 9), (.iaddr 1 (.tmp 5) (.tmp 7)), none, []⟩, ⟨(some 10), (.load none (.tmp 9)), none, [0]⟩, ⟨(some 4), (.mov (.tmp 10)), none, [1, 0]⟩]) (.seq (.ops false [⟨(some 11), (.mov (.tmp 4)), none, []⟩, ⟨(some 12), (.bin .neq (.tmp 11) (.const (.int .i64 0))), none, [0]⟩]) (.cond (.tmp 12) (.seq (.ops false [⟨(some 13), (.mov (.tmp 4)), none, []⟩, ⟨(some 2), (.mov (.tmp 13)), none, [0]⟩]) .ret) .skip)))) (.ops false [⟨(some 14), (.bin .add (.tmp 7) (.const (.int .i64 1))), none, []⟩, ⟨(some 7), (.mov (.tmp 14)), none, [0]⟩]))))
def dk27_0 : Keep := ⟨[], [5, 6, 7], []⟩
def dc27 : DFunc := ⟨15, 1, [(.tmp 2)], (.seq (.ops false [⟨(some 2), (.mov (.const (.int .i64 0))), none, []⟩]) (.seq (.seq (.ops false [⟨(some 5), (.mov (.tmp 0)), none, []⟩, ⟨(some 6), (.len (.tmp 5)), none, [0]⟩, ⟨(some 7), (.mov (.const (.int .i64 0))), none, []⟩]) (.block 0 (some ⟨[], [], []⟩) (.loop dk27_0 db27_0))) (.seq (.ops false [⟨(some 2), (.mov (.const (.int .i64 0))), none, []⟩]) .ret)))⟩
theorem dh27 : cProg Go.Proofs.Tryd.prog ⟨[(0, ⟨[], [5, 6, 7], []⟩)], [(0, ⟨[], [], []⟩)], []⟩ 27 = some dc27 := by kernel_rfl
def dc37 : DFunc := ⟨5, 1, [(.tmp 2)], (.seq (.ops false [⟨(some 2), (.mov (.const (.int .i64 0))), none, []⟩]) (.seq (.ops false [⟨(some 3), (.mov (.tmp 0)), none, []⟩, ⟨(some 4), (.call (.func 51) [(.tmp 3), (.const (.int .i64 0)), (.const (.int .i64 800))]), none, [0]⟩, ⟨(some 2), (.mov (.tmp 4)), none, [1, 0]⟩]) .ret))⟩
theorem dh37 : cProg Go.Proofs.Tryd.prog ⟨[], [], []⟩ 37 = some dc37 := by kernel_rfl
def dc38 : DFunc := ⟨13, 2, [(.tmp 4)], (.seq (.ops false [⟨(some 2), (.box 3 (.tmp 0)), none, []⟩, ⟨(some 4), (.mov (.const (.int .i64 0))), none, []⟩]) (.seq (.ops true [⟨(some 5), (.faddr 0 1 false (.tmp 2)), none, []⟩, ⟨(some 6), (.load none (.tmp 5)), none, [0]⟩, ⟨(some 7), (.mov (.tmp 1)), none, []⟩, ⟨(some 8), (.call (.func 60) [(.tmp 6), (.tmp 7)]), none, [1, 0, 2]⟩, ⟨(some 9), (.faddr 1 1 false (.tmp 2)), none, []⟩, ⟨(some 10), (.load none (.tmp 9)), none, [4]⟩, ⟨(some 11), (.bin .mul (.tmp 8) (.tmp 10)), none, [3, 1, 0, 2, 5, 4]⟩, ⟨(some 12), (.bin .quo (.tmp 11) (.const (.int .i64 1000))), none, [6, 3, 1, 0, 2, 5, 4]⟩, ⟨(some 4), (.mov (.tmp 12)), none, [7, 6, 3, 1, 0, 2, 5, 4]⟩]) .ret))⟩
theorem dh38 : cProg Go.Proofs.Tryd.prog ⟨[], [], []⟩ 38 = some dc38 := by kernel_rfl
def dc40 : DFunc := ⟨5, 1, [(.tmp 2)], (.seq (.ops false [⟨(some 2), (.mov (.const (.int .i64 0))), none, []⟩]) (.seq (.ops false [⟨(some 3), (.mov (.tmp 0)), none, []⟩, ⟨(some 4), (.call (.func 51) [(.tmp 3), (.const (.int .i64 0)), (.const (.int .i64 200))]), none, [0]⟩, ⟨(some 2), (.mov (.tmp 4)), none, [1, 0]⟩]) .ret))⟩
theorem dh40 : cProg Go.Proofs.Tryd.prog ⟨[], [], []⟩ 40 = some dc40 := by kernel_rfl
def db41_0 : DC := (.seq (.seq (.ops false [⟨(some 10), (.mov (.tmp 6)), none, []⟩, ⟨(some 11), (.bin .geq (.tmp 10) (.const (.int .i64 0))), none, [0]⟩]) (.cond (.tmp 11) .skip (.exit 0))) (.seq (.block 1 none (.seq (.ops false [⟨(some 14), (.load (some 3) (.tmp 2)), none, []⟩, ⟨(some 15), (.mov (.tmp 6)), none, []⟩, ⟨(some 16), (.call (.func 38) [(.tmp 14), (.tmp 15)]), none, [0, 1]⟩, ⟨(some 17), (.mov (.tmp 1)), none, []⟩, ⟨(some 18), (.bin .geq (.tmp 16) (.tmp 17)), none, [2, 0, 1, 3]⟩]) (.cond (.tmp 18) (.seq (.ops false [⟨(some 19), (.mov (.tmp 6)), none, []⟩, ⟨(some 4), (.mov (.tmp 19)), none, [0]⟩, ⟨(some 5), (.mov (.const (.bool true))), none, [1, 0]⟩]) .ret) .skip))) (.ops false [⟨(some 12), (.mov (.tmp 6)), none, []⟩, ⟨(some 13), (.bin .sub (.tmp 12) (.const (.int .i64 1))), none, [0]⟩, ⟨(some 6), (.mov (.tmp 13)), none, [1, 0]⟩])))
def dk41_0 : Keep := ⟨[], [1, 2, 6], [2]⟩
def dc41 : DFunc := ⟨23, 2, [(.tmp 4), (.tmp 5)], (.seq (.ops false [⟨(some 2), (.box 3 (.tmp 0)), none, []⟩, ⟨(some 4), (.mov (.const (.int .i64 0))), none, []⟩, ⟨(some 5), (.mov (.const (.bool false))), none, [1]⟩]) (.seq (.seq (.ops false [⟨(some 7), (.faddr 0 1 false (.tmp 2)), none, []⟩, ⟨(some 8), (.load none (.tmp 7)), none, [0]⟩, ⟨(some 9), (.call (.func 61) [(.tmp 8)]), none, [1, 0]⟩, ⟨(some 6), (.mov (.tmp 9)), none, [2, 1, 0]⟩]) (.block 0 (some ⟨[], [2], [2]⟩) (.loop dk41_0 db41_0))) (.seq (.ops false [⟨(some 20), (.faddr 2 1 false (.tmp 2)), none, []⟩, ⟨(some 21), (.load none (.tmp 20)), none, [0]⟩, ⟨(some 22), (.un .neg (.tmp 21)), none, [1, 0]⟩, ⟨(some 4), (.mov (.tmp 22)), none, [2, 1, 0]⟩, ⟨(some 5), (.mov (.const (.bool false))), none, [3, 2, 1, 0]⟩]) .ret)))⟩
theorem dh41 : cProg Go.Proofs.Tryd.prog ⟨[(0, ⟨[], [1, 2, 6], [2]⟩)], [(0, ⟨[], [2], [2]⟩)], []⟩ 41 = some dc41 := by kernel_rfl
def db33_0 : DC := (.seq (.seq (.ops false [⟨(some 4), (.mov (.tmp 3)), none, []⟩, ⟨(some 5), (.mov (.tmp 0)), none, []⟩, ⟨(some 6), (.len (.tmp 5)), none, [1]⟩, ⟨(some 7), (.bin .lss (.tmp 4) (.tmp 6)), none, [0, 2, 1]⟩]) (.cond (.tmp 7) .skip (.exit 0))) (.seq (.block 1 none (.seq (.ops false [⟨(some 10), (.mov (.tmp 0)), none, []⟩, ⟨(some 11), (.mov (.tmp 3)), none, []⟩, ⟨(some 12), (.iaddr 1 (.tmp 10) (.tmp 11)), none, [0, 1]⟩, ⟨(some 13), (.load none (.tmp 12)), none, [2, 0, 1]⟩, ⟨(some 14), (.bin .neq (.tmp 13) (.const (.int .i64 0))), none, [3, 2, 0, 1]⟩]) (.cond (.tmp 14) (.seq (.ops false [⟨(some 15), (.mov (.tmp 0)), none, []⟩, ⟨(some 16), (.mov (.tmp 3)), none, []⟩, ⟨(some 17), (.iaddr 1 (.tmp 15) (.tmp 16)), none, [0, 1]⟩, ⟨(some 18), (.load none (.tmp 17)), none, [2, 0, 1]⟩, ⟨(some 2), (.mov (.tmp 18)), none, [3, 2, 0, 1]⟩]) .ret) .skip))) (.ops false [⟨(some 8), (.mov (.tmp 3)), none, []⟩, ⟨(some 9), (.bin .add (.tmp 8) (.const (.int .i64 1))), none, [0]⟩, ⟨(some 3), (.mov (.tmp 9)), none, [1, 0]⟩])))
def dk33_0 : Keep := ⟨[], [0, 3], []⟩
def dc33 : DFunc := ⟨19, 1, [(.tmp 2)], (.seq (.ops false [⟨(some 2), (.mov (.const (.int .i64 0))), none, []⟩]) (.seq (.seq (.ops false [⟨(some 3), (.mov (.const (.int .i64 0))), none, []⟩]) (.block 0 (some ⟨[], [], []⟩) (.loop dk33_0 db33_0))) (.seq (.ops false [⟨(some 2), (.mov (.const (.int .i64 0))), none, []⟩]) .ret)))⟩
theorem dh33 : cProg Go.Proofs.Tryd.prog ⟨[(0, ⟨[], [0, 3], []⟩)], [(0, ⟨[], [], []⟩)], []⟩ 33 = some dc33 := by kernel_rfl
def dc30 : DFunc := ⟨7, 2, [(.tmp 4)], (.seq (.ops false [⟨(some 4), (.mov (.const (.int .i64 0))), none, []⟩]) (.seq (.seq (.ops false [⟨(some 5), (.mov (.tmp 0)), none, []⟩]) (.cond (.tmp 5) (.seq (.ops false [⟨(some 6), (.mov (.tmp 1)), none, []⟩, ⟨(some 4), (.mov (.tmp 6)), none, [0]⟩]) .ret) .skip)) (.seq (.ops false [⟨(some 4), (.mov (.const (.int .i64 0))), none, []⟩]) .ret)))⟩
theorem dh30 : cProg Go.Proofs.Tryd.prog ⟨[], [], []⟩ 30 = some dc30 := by kernel_rfl
def dc51 : DFunc := ⟨16, 3, [(.tmp 6)], (.seq (.ops false [⟨(some 6), (.mov (.const (.int .i64 0))), none, []⟩]) (.seq (.ops false [⟨(some 7), (.mov (.tmp 0)), none, []⟩, ⟨(some 8), (.mov (.tmp 1)), none, []⟩, ⟨(some 9), (.bin .lss (.tmp 7) (.tmp 8)), none, [0, 1]⟩, ⟨(some 10), (.mov (.tmp 9)), none, [2, 0, 1]⟩, ⟨(some 11), (.mov (.tmp 0)), (some (10, false)), [3, 2, 0, 1]⟩, ⟨(some 12), (.mov (.tmp 2)), (some (10, false)), [3, 2, 0, 1]⟩, ⟨(some 13), (.bin .gtr (.tmp 11) (.tmp 12)), (some (10, false)), [4, 3, 2, 0, 1, 5]⟩, ⟨(some 14), (.pick (.tmp 10) (.const (.bool true)) (.tmp 13)), none, [3, 2, 0, 1, 6, 4, 5]⟩, ⟨(some 15), (.call (.func 30) [(.tmp 14), (.const (.int .i64 3))]), none, [7, 3, 2, 0, 1, 6, 4, 5]⟩, ⟨(some 6), (.mov (.tmp 15)), none, [8, 7, 3, 2, 0, 1, 6, 4, 5]⟩]) .ret))⟩
theorem dh51 : cProg Go.Proofs.Tryd.prog ⟨[], [], []⟩ 51 = some dc51 := by kernel_rfl
def db43_0 : DC := (.seq (.ops false [⟨(some 13), (.bin .lss (.tmp 12) (.tmp 11)), none, []⟩]) (.seq (.cond (.tmp 13) .skip (.exit 0)) (.seq (.block 1 none (.seq (.ops false [⟨(some 14), (.iaddr 3 (.tmp 10) (.tmp 12)), none, []⟩, ⟨(some 15), (.load (some 3) (.tmp 14)), none, [0]⟩, ⟨(some 7), (.alloc (.agg [(.full []), (.int .i64 0), (.int .i64 0)]) 3), none, []⟩, ⟨none, (.store 3 (.tmp 7) (.tmp 15)), none, [2, 1, 0]⟩]) (.seq (.ops false [⟨(some 17), (.load (some 3) (.tmp 7)), none, []⟩, ⟨(some 18), (.mov (.tmp 1)), none, []⟩, ⟨(some 19), (.call (.func 41) [(.tmp 17), (.tmp 18)]), none, [0, 1]⟩, ⟨(some 16), (.mov (.tmp 19)), none, [2, 0, 1]⟩, ⟨(some 20), (.extract (.tmp 16) 0), none, [3, 2, 0, 1]⟩, ⟨(some 21), (.extract (.tmp 16) 1), none, [3, 2, 0, 1]⟩, ⟨(some 8), (.mov (.tmp 20)), none, [4, 3, 2, 0, 1]⟩, ⟨(some 9), (.mov (.tmp 21)), none, [5, 3, 2, 0, 1, 6, 4]⟩]) (.ops false [⟨(some 22), (.mov (.tmp 5)), none, []⟩, ⟨(some 23), (.mov (.tmp 8)), none, []⟩, ⟨(some 24), (.bin .add (.tmp 22) (.tmp 23)), none, [0, 1]⟩, ⟨(some 5), (.mov (.tmp 24)), none, [2, 0, 1]⟩])))) (.ops false [⟨(some 25), (.bin .add (.tmp 12) (.const (.int .i64 1))), none, []⟩, ⟨(some 12), (.mov (.tmp 25)), none, [0]⟩]))))
def dk43_0 : Keep := ⟨[], [1, 5, 10, 11, 12], []⟩
def dc43 : DFunc := ⟨27, 2, [(.tmp 4)], (.seq (.ops false [⟨(some 4), (.mov (.const (.int .i64 0))), none, []⟩]) (.seq (.ops false [⟨(some 5), (.mov (.const (.int .i64 0))), none, []⟩]) (.seq (.seq (.ops false [⟨(some 10), (.mov (.tmp 0)), none, []⟩, ⟨(some 11), (.len (.tmp 10)), none, [0]⟩, ⟨(some 12), (.mov (.const (.int .i64 0))), none, []⟩]) (.block 0 (some ⟨[], [5], []⟩) (.loop dk43_0 db43_0))) (.seq (.ops false [⟨(some 26), (.mov (.tmp 5)), none, []⟩, ⟨(some 4), (.mov (.tmp 26)), none, [0]⟩]) .ret))))⟩
theorem dh43 : cProg Go.Proofs.Tryd.prog ⟨[(0, ⟨[], [1, 5, 10, 11, 12], []⟩)], [(0, ⟨[], [5], []⟩)], []⟩ 43 = some dc43 := by kernel_rfl
def db44_0 : DC := (.seq (.seq (.ops false [⟨(some 19), (.mov (.tmp 7)), none, []⟩, ⟨(some 20), (.bin .geq (.tmp 19) (.const (.int .i64 0))), none, [0]⟩, ⟨(some 21), (.mov (.tmp 20)), none, [1, 0]⟩, ⟨(some 22), (.mov (.tmp 5)), (some (21, true)), [2, 1, 0]⟩, ⟨(some 23), (.mov (.tmp 7)), (some (21, true)), [2, 1, 0]⟩, ⟨(some 24), (.lookup 1 [] false (.int .i64 0) (.tmp 22) (.tmp 23)), (some (21, true)), [3, 2, 1, 0, 4]⟩, ⟨(some 25), (.mov (.tmp 8)), (some (21, true)), [2, 1, 0]⟩, ⟨(some 26), (.bin .lss (.tmp 24) (.tmp 25)), (some (21, true)), [5, 3, 2, 1, 0, 4, 6]⟩, ⟨(some 27), (.pick (.tmp 21) (.tmp 26) (.const (.bool false))), none, [2, 1, 0, 7, 5, 3, 4, 6]⟩]) (.cond (.tmp 27) .skip (.exit 2))) (.block 3 none (.ops false [⟨(some 28), (.mov (.tmp 7)), none, []⟩, ⟨(some 29), (.bin .sub (.tmp 28) (.const (.int .i64 1))), none, [0]⟩, ⟨(some 7), (.mov (.tmp 29)), none, [1, 0]⟩])))
def dk44_0 : Keep := ⟨[], [5, 6, 7, 8, 15, 16], [10, 13]⟩
def db44_1 : DC := (.seq (.ops false [⟨(some 17), (.bin .lss (.tmp 16) (.tmp 15)), none, []⟩]) (.seq (.cond (.tmp 17) .skip (.exit 0)) (.seq (.block 1 (some ⟨[], [5, 6, 7, 15, 16], [10, 13]⟩) (.seq (.ops false [⟨(some 18), (.mov (.tmp 16)), none, []⟩, ⟨(some 8), (.mov (.tmp 18)), none, [0]⟩]) (.seq (.block 2 (some ⟨[], [5, 6, 7, 8, 15, 16], [10, 13]⟩) (.loop dk44_0 db44_0)) (.ops false [⟨(some 30), (.mov (.tmp 6)), none, []⟩, ⟨(some 31), (.mov (.tmp 8)), none, []⟩, ⟨(some 32), (.mov (.tmp 7)), none, []⟩, ⟨(some 33), (.minmax true (.const (.int .i64 0)) [(.tmp 32)]), none, [2]⟩, ⟨(some 34), (.iaddr 1 (.tmp 30) (.tmp 31)), none, [0, 1, 2, 3]⟩, ⟨none, (.store 1 (.tmp 34) (.tmp 33)), none, [4, 0, 1, 2, 3]⟩])))) (.ops false [⟨(some 35), (.bin .add (.tmp 16) (.const (.int .i64 1))), none, []⟩, ⟨(some 16), (.mov (.tmp 35)), none, [0]⟩]))))
def dk44_1 : Keep := ⟨[], [5, 6, 7, 15, 16], [10, 13]⟩
def dc44 : DFunc := ⟨37, 2, [(.tmp 4)], (.seq (.ops false [⟨(some 4), (.mov (.const (.slice none 0 0))), none, []⟩]) (.seq (.ops false [⟨(some 9), (.mov (.tmp 0)), none, []⟩, ⟨(some 10), (.call (.func 63) [(.tmp 9)]), none, [0]⟩, ⟨(some 5), (.mov (.tmp 10)), none, [1, 0]⟩]) (.seq (.ops false [⟨(some 11), (.mov (.tmp 1)), none, []⟩, ⟨(some 12), (.bin .add (.tmp 11) (.const (.int .i64 1))), none, [0]⟩, ⟨(some 13), (.mkslice 1 (.int .i64 0) (.tmp 12) (.tmp 12)), none, [1, 0]⟩, ⟨(some 6), (.mov (.tmp 13)), none, [2, 1, 0]⟩]) (.seq (.ops false [⟨(some 7), (.mov (.const (.int .i64 200))), none, []⟩]) (.seq (.seq (.ops false [⟨(some 14), (.mov (.tmp 6)), none, []⟩, ⟨(some 15), (.len (.tmp 14)), none, [0]⟩, ⟨(some 16), (.mov (.const (.int .i64 0))), none, []⟩]) (.block 0 (some ⟨[], [6], [10, 13]⟩) (.loop dk44_1 db44_1))) (.seq (.ops false [⟨(some 36), (.mov (.tmp 6)), none, []⟩, ⟨(some 4), (.mov (.tmp 36)), none, [0]⟩]) .ret))))))⟩
theorem dh44 : cProg Go.Proofs.Tryd.prog ⟨[(0, ⟨[], [5, 6, 7, 15, 16], [10, 13]⟩), (2, ⟨[], [5, 6, 7, 8, 15, 16], [10, 13]⟩)], [(2, ⟨[], [5, 6, 7, 8, 15, 16], [10, 13]⟩), (1, ⟨[], [5, 6, 7, 15, 16], [10, 13]⟩), (0, ⟨[], [6], [10, 13]⟩)], []⟩ 44 = some dc44 := by kernel_rfl
def dc28 : DFunc := ⟨14, 2, [(.tmp 4)], (.seq (.ops false [⟨(some 4), (.mov (.const (.int .i64 0))), none, []⟩]) (.seq (.ops false [⟨(some 5), (.mov (.tmp 0)), none, []⟩, ⟨(some 6), (.bin .eql (.tmp 5) (.const (.int .i64 0))), none, [0]⟩, ⟨(some 7), (.call (.func 30) [(.tmp 6), (.const (.int .i64 12))]), none, [1, 0]⟩, ⟨(some 8), (.mov (.tmp 0)), none, []⟩, ⟨(some 9), (.mov (.tmp 1)), none, []⟩, ⟨(some 10), (.bin .gtr (.tmp 8) (.tmp 9)), none, [3, 4]⟩, ⟨(some 11), (.call (.func 30) [(.tmp 10), (.const (.int .i64 5))]), none, [5, 3, 4, 2, 1, 0]⟩, ⟨(some 12), (.lit true 1 2 (.int .i64 0) [(0, (.tmp 7)), (1, (.tmp 11))]), none, [2, 1, 0, 6, 5, 3, 4]⟩, ⟨(some 13), (.call (.func 27) [(.tmp 12)]), none, [7, 2, 1, 0, 6, 5, 3, 4]⟩, ⟨(some 4), (.mov (.tmp 13)), none, [8, 7, 2, 1, 0, 6, 5, 3, 4]⟩]) .ret))⟩
theorem dh28 : cProg Go.Proofs.Tryd.prog ⟨[], [], [12]⟩ 28 = some dc28 := by kernel_rfl
def db62_0 : DC := (.seq (.ops false [⟨(some 11), (.bin .lss (.tmp 10) (.tmp 9)), none, []⟩]) (.seq (.cond (.tmp 11) .skip (.exit 0)) (.seq (.block 1 none (.seq (.ops false [⟨(some 12), (.iaddr 3 (.tmp 8) (.tmp 10)), none, []⟩, ⟨(some 13), (.load (some 3) (.tmp 12)), none, [0]⟩, ⟨(some 7), (.alloc (.agg [(.full []), (.int .i64 0), (.int .i64 0)]) 3), none, []⟩, ⟨none, (.store 3 (.tmp 7) (.tmp 13)), none, [2, 1, 0]⟩]) (.ops false [⟨(some 14), (.mov (.tmp 5)), none, []⟩, ⟨(some 15), (.mov (.tmp 1)), none, []⟩, ⟨(some 16), (.load (some 3) (.tmp 7)), none, []⟩, ⟨(some 17), (.call (.tmp 15) [(.tmp 16)]), none, [1, 2]⟩, ⟨(some 18), (.lit true 1 1 (.int .i64 0) [(0, (.tmp 17))]), none, [3, 1, 2]⟩, ⟨(some 19), (.append false 1 (.tmp 14) (.tmp 18)), none, [0, 4, 3, 1, 2]⟩, ⟨(some 5), (.mov (.tmp 19)), none, [5, 0, 4, 3, 1, 2]⟩]))) (.ops false [⟨(some 20), (.bin .add (.tmp 10) (.const (.int .i64 1))), none, []⟩, ⟨(some 10), (.mov (.tmp 20)), none, [0]⟩]))))
def dk62_0 : Keep := ⟨[(5, 1)], [1, 5, 8, 9, 10], [5]⟩
def dc62 : DFunc := ⟨22, 2, [(.tmp 4)], (.seq (.ops false [⟨(some 4), (.mov (.const (.slice none 0 0))), none, []⟩]) (.seq (.ops false [⟨(some 5), (.mov (.const (.slice none 0 0))), none, []⟩]) (.seq (.seq (.ops false [⟨(some 8), (.mov (.tmp 0)), none, []⟩, ⟨(some 9), (.len (.tmp 8)), none, [0]⟩, ⟨(some 10), (.mov (.const (.int .i64 0))), none, []⟩]) (.block 0 (some ⟨[], [5], [5]⟩) (.loop dk62_0 db62_0))) (.seq (.ops false [⟨(some 21), (.mov (.tmp 5)), none, []⟩, ⟨(some 4), (.mov (.tmp 21)), none, [0]⟩]) .ret))))⟩
theorem dh62 : cProg Go.Proofs.Tryd.prog ⟨[(0, ⟨[(5, 1)], [1, 5, 8, 9, 10], [5]⟩)], [(0, ⟨[], [5], [5]⟩)], [18]⟩ 62 = some dc62 := by kernel_rfl
def dc46 : DFunc := ⟨6, 1, [(.tmp 2)], (.seq (.ops false [⟨(some 2), (.mov (.const (.int .i64 0))), none, []⟩]) (.seq (.ops false [⟨(some 3), (.mov (.tmp 0)), none, []⟩, ⟨(some 4), (.call (.func 66) [(.tmp 3), (.func 67)]), none, [0]⟩, ⟨(some 5), (.call (.func 65) [(.tmp 4)]), none, [1, 0]⟩, ⟨(some 2), (.mov (.tmp 5)), none, [2, 1, 0]⟩]) .ret))⟩
theorem dh46 : cProg Go.Proofs.Tryd.prog ⟨[], [], []⟩ 46 = some dc46 := by kernel_rfl
def db47_0 : DC := (.seq (.ops false [⟨(some 24), (.bin .lss (.tmp 23) (.tmp 22)), none, []⟩]) (.seq (.cond (.tmp 24) .skip (.exit 2)) (.seq (.block 3 none (.seq (.ops false [⟨(some 25), (.mov (.tmp 23)), none, []⟩, ⟨(some 26), (.iaddr 1 (.tmp 21) (.tmp 23)), none, []⟩, ⟨(some 27), (.load none (.tmp 26)), none, [1]⟩, ⟨(some 8), (.mov (.tmp 25)), none, [0, 1, 2]⟩, ⟨(some 9), (.mov (.tmp 27)), none, [2, 1, 3, 0]⟩]) (.ops false [⟨(some 28), (.mov (.tmp 5)), none, []⟩, ⟨(some 29), (.mov (.tmp 8)), none, []⟩, ⟨(some 30), (.iaddr 1 (.tmp 28) (.tmp 29)), none, [0, 1]⟩, ⟨(some 31), (.load none (.tmp 30)), none, [2, 0, 1]⟩, ⟨(some 32), (.mov (.tmp 9)), none, []⟩, ⟨(some 33), (.bin .add (.tmp 31) (.tmp 32)), none, [3, 2, 0, 1, 4]⟩, ⟨(some 34), (.iaddr 1 (.tmp 28) (.tmp 29)), none, [0, 1, 2, 3, 4, 5]⟩, ⟨none, (.store 1 (.tmp 34) (.tmp 33)), none, [6, 0, 1, 2, 3, 4, 5]⟩]))) (.ops false [⟨(some 35), (.bin .add (.tmp 23) (.const (.int .i64 1))), none, []⟩, ⟨(some 23), (.mov (.tmp 35)), none, [0]⟩]))))
def dk47_0 : Keep := ⟨[], [1, 5, 13, 14, 15, 21, 22, 23], [12]⟩
def db47_1 : DC := (.seq (.ops false [⟨(some 16), (.bin .lss (.tmp 15) (.tmp 14)), none, []⟩]) (.seq (.cond (.tmp 16) .skip (.exit 0)) (.seq (.block 1 (some ⟨[], [1, 5, 13, 14, 15], [12]⟩) (.seq (.ops false [⟨(some 17), (.iaddr 1 (.tmp 13) (.tmp 15)), none, []⟩, ⟨(some 18), (.load none (.tmp 17)), none, [0]⟩, ⟨(some 7), (.mov (.tmp 18)), none, [1, 0]⟩]) (.seq (.ops false [⟨(some 19), (.mov (.tmp 7)), none, []⟩, ⟨(some 20), (.mov (.tmp 1)), none, []⟩, ⟨(some 21), (.call (.func 44) [(.tmp 19), (.tmp 20)]), none, [0, 1]⟩, ⟨(some 22), (.len (.tmp 21)), none, [2, 0, 1]⟩, ⟨(some 23), (.mov (.const (.int .i64 0))), none, []⟩]) (.block 2 (some ⟨[], [1, 5, 13, 14, 15], [12]⟩) (.loop dk47_0 db47_0))))) (.ops false [⟨(some 36), (.bin .add (.tmp 15) (.const (.int .i64 1))), none, []⟩, ⟨(some 15), (.mov (.tmp 36)), none, [0]⟩]))))
def dk47_1 : Keep := ⟨[], [1, 5, 13, 14, 15], [12]⟩
def dc47 : DFunc := ⟨38, 2, [(.tmp 4)], (.seq (.ops false [⟨(some 4), (.mov (.const (.slice none 0 0))), none, []⟩]) (.seq (.ops false [⟨(some 10), (.mov (.tmp 1)), none, []⟩, ⟨(some 11), (.bin .add (.tmp 10) (.const (.int .i64 1))), none, [0]⟩, ⟨(some 12), (.mkslice 1 (.int .i64 0) (.tmp 11) (.tmp 11)), none, [1, 0]⟩, ⟨(some 5), (.mov (.tmp 12)), none, [2, 1, 0]⟩]) (.seq (.seq (.ops false [⟨(some 13), (.mov (.tmp 0)), none, []⟩, ⟨(some 14), (.len (.tmp 13)), none, [0]⟩, ⟨(some 15), (.mov (.const (.int .i64 0))), none, []⟩]) (.block 0 (some ⟨[], [5], [12]⟩) (.loop dk47_1 db47_1))) (.seq (.ops false [⟨(some 37), (.mov (.tmp 5)), none, []⟩, ⟨(some 4), (.mov (.tmp 37)), none, [0]⟩]) .ret))))⟩
theorem dh47 : cProg Go.Proofs.Tryd.prog ⟨[(0, ⟨[], [1, 5, 13, 14, 15], [12]⟩), (2, ⟨[], [1, 5, 13, 14, 15, 21, 22, 23], [12]⟩)], [(2, ⟨[], [1, 5, 13, 14, 15], [12]⟩), (1, ⟨[], [1, 5, 13, 14, 15], [12]⟩), (0, ⟨[], [5], [12]⟩)], []⟩ 47 = some dc47 := by kernel_rfl
def db64_0 : DC := (.seq (.ops false [⟨(some 11), (.bin .lss (.tmp 10) (.tmp 9)), none, []⟩]) (.seq (.cond (.tmp 11) .skip (.exit 0)) (.seq (.block 1 none (.seq (.ops false [⟨(some 12), (.iaddr 1 (.tmp 8) (.tmp 10)), none, []⟩, ⟨(some 13), (.load none (.tmp 12)), none, [0]⟩, ⟨(some 7), (.mov (.tmp 13)), none, [1, 0]⟩]) (.ops false [⟨(some 14), (.mov (.tmp 5)), none, []⟩, ⟨(some 15), (.mov (.tmp 1)), none, []⟩, ⟨(some 16), (.mov (.tmp 7)), none, []⟩, ⟨(some 17), (.call (.tmp 15) [(.tmp 16)]), none, [1, 2]⟩, ⟨(some 18), (.lit true 1 1 (.int .i64 0) [(0, (.tmp 17))]), none, [3, 1, 2]⟩, ⟨(some 19), (.append false 1 (.tmp 14) (.tmp 18)), none, [0, 4, 3, 1, 2]⟩, ⟨(some 5), (.mov (.tmp 19)), none, [5, 0, 4, 3, 1, 2]⟩]))) (.ops false [⟨(some 20), (.bin .add (.tmp 10) (.const (.int .i64 1))), none, []⟩, ⟨(some 10), (.mov (.tmp 20)), none, [0]⟩]))))
def dk64_0 : Keep := ⟨[(5, 1)], [1, 5, 8, 9, 10], [5]⟩
def dc64 : DFunc := ⟨22, 2, [(.tmp 4)], (.seq (.ops false [⟨(some 4), (.mov (.const (.slice none 0 0))), none, []⟩]) (.seq (.ops false [⟨(some 5), (.mov (.const (.slice none 0 0))), none, []⟩]) (.seq (.seq (.ops false [⟨(some 8), (.mov (.tmp 0)), none, []⟩, ⟨(some 9), (.len (.tmp 8)), none, [0]⟩, ⟨(some 10), (.mov (.const (.int .i64 0))), none, []⟩]) (.block 0 (some ⟨[], [5], [5]⟩) (.loop dk64_0 db64_0))) (.seq (.ops false [⟨(some 21), (.mov (.tmp 5)), none, []⟩, ⟨(some 4), (.mov (.tmp 21)), none, [0]⟩]) .ret))))⟩
theorem dh64 : cProg Go.Proofs.Tryd.prog ⟨[(0, ⟨[(5, 1)], [1, 5, 8, 9, 10], [5]⟩)], [(0, ⟨[], [5], [5]⟩)], [18]⟩ 64 = some dc64 := by kernel_rfl
def dc52 : DFunc := ⟨8, 2, [(.tmp 4)], (.seq (.ops false [⟨(some 3), (.box 1 (.tmp 1)), none, []⟩, ⟨(some 4), (.mov (.const (.slice none 0 0))), none, []⟩]) (.seq (.ops false [⟨(some 5), (.mov (.tmp 0)), none, []⟩, ⟨(some 6), (.mkfunc 72 [(.tmp 3)]), none, []⟩, ⟨(some 7), (.call (.func 71) [(.tmp 5), (.tmp 6)]), none, [0, 1]⟩, ⟨(some 4), (.mov (.tmp 7)), none, [2, 0, 1]⟩]) .ret))⟩
theorem dh52 : cProg Go.Proofs.Tryd.prog ⟨[], [], []⟩ 52 = some dc52 := by kernel_rfl
def dc48 : DFunc := ⟨5, 1, [(.tmp 2)], (.seq (.ops false [⟨(some 2), (.mov (.const (.slice none 0 0))), none, []⟩]) (.seq (.ops false [⟨(some 3), (.mov (.tmp 0)), none, []⟩, ⟨(some 4), (.call (.func 68) [(.const (.slice none 0 0)), (.tmp 3)]), none, [0]⟩, ⟨(some 2), (.mov (.tmp 4)), none, [1, 0]⟩]) .ret))⟩
theorem dh48 : cProg Go.Proofs.Tryd.prog ⟨[], [], []⟩ 48 = some dc48 := by kernel_rfl
def dc49 : DFunc := ⟨4, 1, [(.tmp 2)], (.seq (.ops false [⟨(some 1), (.box 1 (.tmp 0)), none, []⟩, ⟨(some 2), (.mov (.const .nilFunc)), none, []⟩]) (.seq (.ops false [⟨(some 3), (.mkfunc 69 [(.tmp 1)]), none, []⟩, ⟨(some 2), (.mov (.tmp 3)), none, [0]⟩]) .ret))⟩
theorem dh49 : cProg Go.Proofs.Tryd.prog ⟨[], [], []⟩ 49 = some dc49 := by kernel_rfl
def db50_0x : DC := (.ops false [⟨(some 5), (.alloc (.agg [(.int .i64 0), (.int .i64 0)]) 2), none, []⟩, ⟨none, (.store 2 (.tmp 5) (.tmp 8)), none, [0]⟩])
def db50_0 : DC := (.block 1 none (.seq (.ops false [⟨(some 9), (.load none (.tmp 3)), none, []⟩, ⟨(some 10), (.load (some 2) (.tmp 5)), none, []⟩, ⟨(some 11), (.load (some 2) (.tmp 4)), none, []⟩, ⟨(some 12), (.call (.tmp 9) [(.tmp 10), (.tmp 11)]), none, [0, 1, 2]⟩, ⟨(some 13), (.bin .lss (.tmp 12) (.const (.int .i64 0))), none, [3, 0, 1, 2]⟩]) (.cond (.tmp 13) (.ops false [⟨(some 14), (.load (some 2) (.tmp 5)), none, []⟩, ⟨none, (.store 2 (.tmp 4) (.tmp 14)), none, [0]⟩]) .skip)))
def dk50_0 : Keep := ⟨[], [2, 3, 4], [2, 3, 4]⟩
def dc50 : DFunc := ⟨16, 1, [(.cell 2 (some 2))], (.seq (.ops false [⟨(some 2), (.alloc (.agg [(.int .i64 0), (.int .i64 0)]) 2), none, []⟩]) (.seq (.ops false [⟨(some 3), (.alloc .nilfunc 1), none, []⟩, ⟨none, (.store 1 (.tmp 3) (.func 70)), none, [0]⟩]) (.seq (.ops false [⟨(some 4), (.alloc (.agg [(.int .i64 0), (.int .i64 0)]) 2), none, []⟩]) (.seq (.seq (.ops false [⟨(some 6), (.mov (.tmp 0)), none, []⟩, ⟨(some 7), (.call (.func 49) [(.tmp 6)]), none, [0]⟩]) (.block 0 (some ⟨[], [2, 4], [2, 3, 4]⟩) (.rangeF dk50_0 (.tmp 7) [8] db50_0x db50_0))) (.seq (.ops false [⟨(some 15), (.load (some 2) (.tmp 4)), none, []⟩, ⟨none, (.store 2 (.tmp 2) (.tmp 15)), none, [0]⟩]) .ret)))))⟩
theorem dh50 : cProg Go.Proofs.Tryd.prog ⟨[(0, ⟨[], [2, 3, 4], [2, 3, 4]⟩)], [(0, ⟨[], [2, 4], [2, 3, 4]⟩)], []⟩ 50 = some dc50 := by kernel_rfl
def db54_0 : DC := (.seq (.ops false [⟨(some 11), (.bin .lss (.tmp 10) (.tmp 9)), none, []⟩]) (.seq (.cond (.tmp 11) .skip (.exit 0)) (.seq (.block 1 none (.seq (.ops false [⟨(some 12), (.iaddr 1 (.tmp 8) (.tmp 10)), none, []⟩, ⟨(some 13), (.load none (.tmp 12)), none, [0]⟩, ⟨(some 7), (.mov (.tmp 13)), none, [1, 0]⟩]) (.ops false [⟨(some 14), (.mov (.tmp 5)), none, []⟩, ⟨(some 15), (.mov (.tmp 1)), none, []⟩, ⟨(some 16), (.mov (.tmp 7)), none, []⟩, ⟨(some 17), (.call (.tmp 15) [(.tmp 16)]), none, [1, 2]⟩, ⟨(some 18), (.lit true 1 1 (.str []) [(0, (.tmp 17))]), none, [3, 1, 2]⟩, ⟨(some 19), (.append false 1 (.tmp 14) (.tmp 18)), none, [0, 4, 3, 1, 2]⟩, ⟨(some 5), (.mov (.tmp 19)), none, [5, 0, 4, 3, 1, 2]⟩]))) (.ops false [⟨(some 20), (.bin .add (.tmp 10) (.const (.int .i64 1))), none, []⟩, ⟨(some 10), (.mov (.tmp 20)), none, [0]⟩]))))
def dk54_0 : Keep := ⟨[(5, 1)], [1, 5, 8, 9, 10], [5]⟩
def dc54 : DFunc := ⟨22, 2, [(.tmp 4)], (.seq (.ops false [⟨(some 4), (.mov (.const (.slice none 0 0))), none, []⟩]) (.seq (.ops false [⟨(some 5), (.mov (.const (.slice none 0 0))), none, []⟩]) (.seq (.seq (.ops false [⟨(some 8), (.mov (.tmp 0)), none, []⟩, ⟨(some 9), (.len (.tmp 8)), none, [0]⟩, ⟨(some 10), (.mov (.const (.int .i64 0))), none, []⟩]) (.block 0 (some ⟨[], [5], [5]⟩) (.loop dk54_0 db54_0))) (.seq (.ops false [⟨(some 21), (.mov (.tmp 5)), none, []⟩, ⟨(some 4), (.mov (.tmp 21)), none, [0]⟩]) .ret))))⟩
theorem dh54 : cProg Go.Proofs.Tryd.prog ⟨[(0, ⟨[(5, 1)], [1, 5, 8, 9, 10], [5]⟩)], [(0, ⟨[], [5], [5]⟩)], [18]⟩ 54 = some dc54 := by kernel_rfl
def dc39 : DFunc := ⟨5, 0, [(.tmp 0)], (.seq (.ops false [⟨(some 0), (.mov (.const (.slice none 0 0))), none, []⟩]) (.seq (.ops false [⟨(some 1), (.build [(.int .i64 0), (.int .i64 0)] [(1, (1, (.const (.int .i64 10))))]), none, []⟩, ⟨(some 2), (.build [(.int .i64 0), (.int .i64 0)] [(0, (1, (.const (.int .i64 4)))), (1, (1, (.const (.int .i64 8))))]), none, []⟩, ⟨(some 3), (.build [(.int .i64 0), (.int .i64 0)] [(0, (1, (.const (.int .i64 6))))]), none, []⟩, ⟨(some 4), (.lit true 2 3 (.agg [(.int .i64 0), (.int .i64 0)]) [(0, (.tmp 1)), (1, (.tmp 2)), (2, (.tmp 3))]), none, [0, 1, 2]⟩, ⟨(some 0), (.mov (.tmp 4)), none, [3, 0, 1, 2]⟩]) .ret))⟩
theorem dh39 : cProg Go.Proofs.Tryd.prog ⟨[], [], [4]⟩ 39 = some dc39 := by kernel_rfl
def dc29 : DFunc := ⟨6, 1, [(.tmp 2)], (.seq (.ops false [⟨(some 2), (.mov (.const (.int .i64 0))), none, []⟩]) (.seq (.ops false [⟨(some 3), (.mov (.tmp 0)), none, []⟩, ⟨(some 4), (.call (.func 56) [(.tmp 3), (.func 57)]), none, [0]⟩, ⟨(some 5), (.call (.func 27) [(.tmp 4)]), none, [1, 0]⟩, ⟨(some 2), (.mov (.tmp 5)), none, [2, 1, 0]⟩]) .ret))⟩
theorem dh29 : cProg Go.Proofs.Tryd.prog ⟨[], [], []⟩ 29 = some dc29 := by kernel_rfl
def db31_0 : DC := (.seq (.ops false [⟨(some 9), (.bin .lss (.tmp 8) (.tmp 7)), none, []⟩]) (.seq (.cond (.tmp 9) .skip (.exit 0)) (.seq (.block 1 none (.seq (.ops false [⟨(some 10), (.mov (.tmp 8)), none, []⟩, ⟨(some 5), (.mov (.tmp 10)), none, [0]⟩]) (.seq (.ops false [⟨(some 11), (.mov (.tmp 1)), none, []⟩, ⟨(some 12), (.mov (.tmp 0)), none, []⟩, ⟨(some 13), (.mov (.tmp 5)), none, []⟩, ⟨(some 14), (.iaddr 2 (.tmp 12) (.tmp 13)), none, [1, 2]⟩, ⟨(some 15), (.load (some 2) (.tmp 14)), none, [3, 1, 2]⟩, ⟨(some 16), (.call (.tmp 11) [(.tmp 15)]), none, [0, 4, 3, 1, 2]⟩]) (.cond (.tmp 16) (.seq (.ops false [⟨(some 17), (.mov (.tmp 5)), none, []⟩, ⟨(some 4), (.mov (.tmp 17)), none, [0]⟩]) .ret) .skip)))) (.ops false [⟨(some 18), (.bin .add (.tmp 8) (.const (.int .i64 1))), none, []⟩, ⟨(some 8), (.mov (.tmp 18)), none, [0]⟩]))))
def dk31_0 : Keep := ⟨[], [0, 1, 7, 8], []⟩
def dc31 : DFunc := ⟨19, 2, [(.tmp 4)], (.seq (.ops false [⟨(some 4), (.mov (.const (.int .i64 0))), none, []⟩]) (.seq (.seq (.ops false [⟨(some 6), (.mov (.tmp 0)), none, []⟩, ⟨(some 7), (.len (.tmp 6)), none, [0]⟩, ⟨(some 8), (.mov (.const (.int .i64 0))), none, []⟩]) (.block 0 (some ⟨[], [], []⟩) (.loop dk31_0 db31_0))) (.seq (.ops false [⟨(some 4), (.mov (.const (.int .i64 (-1)))), none, []⟩]) .ret)))⟩
theorem dh31 : cProg Go.Proofs.Tryd.prog ⟨[(0, ⟨[], [0, 1, 7, 8], []⟩)], [(0, ⟨[], [], []⟩)], []⟩ 31 = some dc31 := by kernel_rfl
def dc32 : DFunc := ⟨10, 3, [(.tmp 4)], (.seq (.ops false [⟨(some 3), (.box 2 (.tmp 0)), none, []⟩, ⟨(some 4), (.mov (.const (.bool false))), none, []⟩]) (.seq (.ops false [⟨(some 5), (.faddr 1 1 false (.tmp 3)), none, []⟩, ⟨(some 6), (.load none (.tmp 5)), none, [0]⟩, ⟨(some 7), (.load none (.tmp 1)), none, []⟩, ⟨(some 8), (.load none (.tmp 2)), none, []⟩, ⟨(some 9), (.call (.tmp 6) [(.tmp 7), (.tmp 8)]), none, [1, 0, 2, 3]⟩, ⟨(some 4), (.mov (.tmp 9)), none, [4, 1, 0, 2, 3]⟩]) .ret))⟩
theorem dh32 : cProg Go.Proofs.Tryd.prog ⟨[], [], []⟩ 32 = some dc32 := by kernel_rfl
def db60_0 : DC := (.seq (.seq (.ops false [⟨(some 9), (.mov (.tmp 5)), none, []⟩, ⟨(some 10), (.mov (.tmp 0)), none, []⟩, ⟨(some 11), (.len (.tmp 10)), none, [1]⟩, ⟨(some 12), (.bin .lss (.tmp 9) (.tmp 11)), none, [0, 2, 1]⟩]) (.cond (.tmp 12) .skip (.exit 0))) (.seq (.block 1 none (.seq (.ops true [⟨(some 15), (.mov (.tmp 0)), none, []⟩, ⟨(some 16), (.mov (.tmp 5)), none, []⟩, ⟨(some 17), (.bin .sub (.tmp 16) (.const (.int .i64 1))), none, [1]⟩, ⟨(some 18), (.iaddr 2 (.tmp 15) (.tmp 17)), none, [0, 2, 1]⟩, ⟨(some 19), (.load (some 2) (.tmp 18)), none, [3, 0, 2, 1]⟩, ⟨(some 20), (.mov (.tmp 0)), none, []⟩, ⟨(some 21), (.mov (.tmp 5)), none, []⟩, ⟨(some 22), (.iaddr 2 (.tmp 20) (.tmp 21)), none, [5, 6]⟩, ⟨(some 23), (.load (some 2) (.tmp 22)), none, [7, 5, 6]⟩, ⟨(some 6), (.alloc (.agg [(.int .i64 0), (.int .i64 0)]) 2), none, []⟩, ⟨(some 7), (.alloc (.agg [(.int .i64 0), (.int .i64 0)]) 2), none, []⟩, ⟨none, (.store 2 (.tmp 6) (.tmp 19)), none, [9, 4, 3, 0, 2, 1, 10]⟩, ⟨none, (.store 2 (.tmp 7) (.tmp 23)), none, [10, 8, 7, 5, 6, 11, 9, 4, 3, 0, 2, 1]⟩]) (.seq (.seq (.ops false [⟨(some 24), (.faddr 1 1 false (.tmp 6)), none, []⟩, ⟨(some 25), (.load none (.tmp 24)), none, [0]⟩, ⟨(some 26), (.faddr 1 1 false (.tmp 7)), none, []⟩, ⟨(some 27), (.load none (.tmp 26)), none, [2]⟩, ⟨(some 28), (.build [(.int .i64 0), (.int .i64 0)] [(0, (1, (.tmp 25))), (1, (1, (.tmp 27)))]), none, [1, 0, 3, 2]⟩, ⟨(some 8), (.alloc (.agg [(.int .i64 0), (.int .i64 0)]) 2), none, []⟩, ⟨none, (.store 2 (.tmp 8) (.tmp 28)), none, [5, 4, 1, 0, 3, 2]⟩]) (.seq (.ops false [⟨(some 29), (.load (some 2) (.tmp 8)), none, []⟩, ⟨(some 30), (.build [(.int .i64 0), (.int .i64 0)] []), none, []⟩, ⟨(some 31), (.eqA false [1, 1] (.tmp 29) (.tmp 30)), none, [0, 1]⟩]) (.cond (.tmp 31) (.seq (.ops false [⟨(some 4), (.mov (.const (.int .i64 0))), none, []⟩]) .ret) .skip))) (.seq (.ops false [⟨(some 32), (.mov (.tmp 1)), none, []⟩, ⟨(some 33), (.faddr 0 1 false (.tmp 7)), none, []⟩, ⟨(some 34), (.load none (.tmp 33)), none, [1]⟩, ⟨(some 35), (.bin .lss (.tmp 32) (.tmp 34)), none, [0, 2, 1]⟩]) (.cond (.tmp 35) (.seq (.ops true [⟨(some 36), (.faddr 1 1 false (.tmp 6)), none, []⟩, ⟨(some 37), (.load none (.tmp 36)), none, [0]⟩, ⟨(some 38), (.faddr 1 1 false (.tmp 7)), none, []⟩, ⟨(some 39), (.load none (.tmp 38)), none, [2]⟩, ⟨(some 40), (.faddr 1 1 false (.tmp 6)), none, []⟩, ⟨(some 41), (.load none (.tmp 40)), none, [4]⟩, ⟨(some 42), (.bin .sub (.tmp 39) (.tmp 41)), none, [3, 2, 5, 4]⟩, ⟨(some 43), (.mov (.tmp 1)), none, []⟩, ⟨(some 44), (.faddr 0 1 false (.tmp 6)), none, []⟩, ⟨(some 45), (.load none (.tmp 44)), none, [8]⟩, ⟨(some 46), (.bin .sub (.tmp 43) (.tmp 45)), none, [7, 9, 8]⟩, ⟨(some 47), (.bin .mul (.tmp 42) (.tmp 46)), none, [6, 3, 2, 5, 4, 10, 7, 9, 8]⟩, ⟨(some 48), (.faddr 0 1 false (.tmp 7)), none, []⟩, ⟨(some 49), (.load none (.tmp 48)), none, [12]⟩, ⟨(some 50), (.faddr 0 1 false (.tmp 6)), none, []⟩, ⟨(some 51), (.load none (.tmp 50)), none, [14]⟩, ⟨(some 52), (.bin .sub (.tmp 49) (.tmp 51)), none, [13, 12, 15, 14]⟩, ⟨(some 53), (.call (.func 77) [(.tmp 47), (.tmp 52)]), none, [11, 6, 3, 2, 5, 4, 10, 7, 9, 8, 16, 13, 12, 15, 14]⟩, ⟨(some 54), (.bin .add (.tmp 37) (.tmp 53)), none, [1, 0, 17, 11, 6, 3, 2, 5, 4, 10, 7, 9, 8, 16, 13, 12, 15, 14]⟩, ⟨(some 4), (.mov (.tmp 54)), none, [18, 1, 0, 17, 11, 6, 3, 2, 5, 4, 10, 7, 9, 8, 16, 13, 12, 15, 14]⟩]) .ret) .skip))))) (.ops false [⟨(some 13), (.mov (.tmp 5)), none, []⟩, ⟨(some 14), (.bin .add (.tmp 13) (.const (.int .i64 1))), none, [0]⟩, ⟨(some 5), (.mov (.tmp 14)), none, [1, 0]⟩])))
def dk60_0 : Keep := ⟨[], [0, 1, 5], []⟩
def dc60 : DFunc := ⟨55, 2, [(.tmp 4)], (.seq (.ops false [⟨(some 4), (.mov (.const (.int .i64 0))), none, []⟩]) (.seq (.seq (.ops false [⟨(some 5), (.mov (.const (.int .i64 1))), none, []⟩]) (.block 0 (some ⟨[], [], []⟩) (.loop dk60_0 db60_0))) (.seq (.ops false [⟨(some 4), (.mov (.const (.int .i64 0))), none, []⟩]) .ret)))⟩
theorem dh60 : cProg Go.Proofs.Tryd.prog ⟨[(0, ⟨[], [0, 1, 5], []⟩)], [(0, ⟨[], [], []⟩)], []⟩ 60 = some dc60 := by kernel_rfl
def dc61 : DFunc := ⟨10, 1, [(.tmp 2)], (.seq (.ops false [⟨(some 2), (.mov (.const (.int .i64 0))), none, []⟩]) (.seq (.ops false [⟨(some 3), (.mov (.tmp 0)), none, []⟩, ⟨(some 4), (.mov (.tmp 0)), none, []⟩, ⟨(some 5), (.len (.tmp 4)), none, [1]⟩, ⟨(some 6), (.bin .sub (.tmp 5) (.const (.int .i64 1))), none, [2, 1]⟩, ⟨(some 7), (.iaddr 2 (.tmp 3) (.tmp 6)), none, [0, 3, 2, 1]⟩, ⟨(some 8), (.faddr 0 1 false (.tmp 7)), none, [4, 0, 3, 2, 1]⟩, ⟨(some 9), (.load none (.tmp 8)), none, [5, 4, 0, 3, 2, 1]⟩, ⟨(some 2), (.mov (.tmp 9)), none, [6, 5, 4, 0, 3, 2, 1]⟩]) .ret))⟩
theorem dh61 : cProg Go.Proofs.Tryd.prog ⟨[], [], []⟩ 61 = some dc61 := by kernel_rfl
def db63_0 : DC := (.seq (.ops false [⟨(some 25), (.bin .lss (.tmp 24) (.tmp 23)), none, []⟩]) (.seq (.cond (.tmp 25) .skip (.exit 2)) (.seq (.block 3 none (.seq (.ops false [⟨(some 26), (.mov (.tmp 24)), none, []⟩, ⟨(some 7), (.mov (.tmp 26)), none, [0]⟩]) (.ops false [⟨(some 27), (.mov (.tmp 6)), none, []⟩, ⟨(some 28), (.mov (.tmp 7)), none, []⟩, ⟨(some 29), (.load (some 3) (.tmp 5)), none, []⟩, ⟨(some 30), (.mov (.tmp 7)), none, []⟩, ⟨(some 31), (.call (.func 38) [(.tmp 29), (.tmp 30)]), none, [2, 3]⟩, ⟨(some 32), (.iaddr 1 (.tmp 27) (.tmp 28)), none, [0, 1, 2, 3, 4]⟩, ⟨none, (.store 1 (.tmp 32) (.tmp 31)), none, [5, 0, 1, 2, 3, 4]⟩]))) (.ops false [⟨(some 33), (.bin .add (.tmp 24) (.const (.int .i64 1))), none, []⟩, ⟨(some 24), (.mov (.tmp 33)), none, [0]⟩]))))
def dk63_0 : Keep := ⟨[], [3, 5, 6, 11, 12, 13, 23, 24], [5, 10, 21]⟩
def db63_1 : DC := (.seq (.seq (.ops false [⟨(some 40), (.mov (.tmp 8)), none, []⟩, ⟨(some 41), (.bin .geq (.tmp 40) (.const (.int .i64 0))), none, [0]⟩, ⟨(some 42), (.mov (.tmp 41)), none, [1, 0]⟩, ⟨(some 43), (.mov (.tmp 6)), (some (42, true)), [2, 1, 0]⟩, ⟨(some 44), (.mov (.tmp 8)), (some (42, true)), [2, 1, 0]⟩, ⟨(some 45), (.iaddr 1 (.tmp 43) (.tmp 44)), (some (42, true)), [3, 2, 1, 0, 4]⟩, ⟨(some 46), (.load none (.tmp 45)), (some (42, true)), [5, 3, 2, 1, 0, 4]⟩, ⟨(some 47), (.mov (.tmp 9)), (some (42, true)), [2, 1, 0]⟩, ⟨(some 48), (.bin .lss (.tmp 46) (.tmp 47)), (some (42, true)), [6, 5, 3, 2, 1, 0, 4, 7]⟩, ⟨(some 49), (.pick (.tmp 42) (.tmp 48) (.const (.bool false))), none, [2, 1, 0, 8, 6, 5, 3, 4, 7]⟩]) (.cond (.tmp 49) .skip (.exit 6))) (.block 7 none (.ops false [⟨(some 50), (.mov (.tmp 8)), none, []⟩, ⟨(some 51), (.bin .sub (.tmp 50) (.const (.int .i64 1))), none, [0]⟩, ⟨(some 8), (.mov (.tmp 51)), none, [1, 0]⟩])))
def dk63_1 : Keep := ⟨[], [3, 5, 6, 8, 9, 11, 12, 13, 37], [5, 10, 21]⟩
def db63_2 : DC := (.seq (.ops false [⟨(some 38), (.bin .lss (.tmp 37) (.const (.int .i64 201))), none, []⟩]) (.seq (.cond (.tmp 38) .skip (.exit 4)) (.seq (.block 5 (some ⟨[], [3, 5, 6, 8, 11, 12, 13, 37], [5, 10, 21]⟩) (.seq (.ops false [⟨(some 39), (.mov (.tmp 37)), none, []⟩, ⟨(some 9), (.mov (.tmp 39)), none, [0]⟩]) (.seq (.block 6 (some ⟨[], [3, 5, 6, 8, 9, 11, 12, 13, 37], [5, 10, 21]⟩) (.loop dk63_1 db63_1)) (.seq (.seq (.ops false [⟨(some 52), (.mov (.tmp 8)), none, []⟩, ⟨(some 53), (.bin .lss (.tmp 52) (.const (.int .i64 0))), none, [0]⟩]) (.cond (.tmp 53) (.seq (.ops false [⟨(some 54), (.mov (.tmp 3)), none, []⟩, ⟨(some 55), (.mov (.tmp 9)), none, []⟩, ⟨(some 56), (.lookup 1 [] false (.int .i64 0) (.tmp 54) (.tmp 55)), none, [0, 1]⟩, ⟨(some 57), (.faddr 2 1 false (.tmp 5)), none, []⟩, ⟨(some 58), (.load none (.tmp 57)), none, [3]⟩, ⟨(some 59), (.bin .sub (.tmp 56) (.tmp 58)), none, [2, 0, 1, 4, 3]⟩, ⟨none, (.mapset 1 [] (.tmp 54) (.tmp 55) (.tmp 59)), none, [0, 1, 5, 2, 4, 3]⟩]) (.exit 5)) .skip)) (.ops false [⟨(some 60), (.mov (.tmp 3)), none, []⟩, ⟨(some 61), (.mov (.tmp 9)), none, []⟩, ⟨(some 62), (.lookup 1 [] false (.int .i64 0) (.tmp 60) (.tmp 61)), none, [0, 1]⟩, ⟨(some 63), (.mov (.tmp 8)), none, []⟩, ⟨(some 64), (.bin .add (.tmp 62) (.tmp 63)), none, [2, 0, 1, 3]⟩, ⟨none, (.mapset 1 [] (.tmp 60) (.tmp 61) (.tmp 64)), none, [0, 1, 4, 2, 3]⟩]))))) (.ops false [⟨(some 65), (.bin .add (.tmp 37) (.const (.int .i64 1))), none, []⟩, ⟨(some 37), (.mov (.tmp 65)), none, [0]⟩]))))
def dk63_2 : Keep := ⟨[], [3, 5, 6, 8, 11, 12, 13, 37], [5, 10, 21]⟩
def db63_3 : DC := (.seq (.ops false [⟨(some 14), (.bin .lss (.tmp 13) (.tmp 12)), none, []⟩]) (.seq (.cond (.tmp 14) .skip (.exit 0)) (.seq (.block 1 (some ⟨[], [3, 11, 12, 13], [10]⟩) (.seq (.ops false [⟨(some 15), (.iaddr 3 (.tmp 11) (.tmp 13)), none, []⟩, ⟨(some 16), (.load (some 3) (.tmp 15)), none, [0]⟩, ⟨(some 5), (.alloc (.agg [(.full []), (.int .i64 0), (.int .i64 0)]) 3), none, []⟩, ⟨none, (.store 3 (.tmp 5) (.tmp 16)), none, [2, 1, 0]⟩]) (.seq (.ops false [⟨(some 17), (.faddr 0 1 false (.tmp 5)), none, []⟩, ⟨(some 18), (.load none (.tmp 17)), none, [0]⟩, ⟨(some 19), (.call (.func 61) [(.tmp 18)]), none, [1, 0]⟩, ⟨(some 20), (.bin .add (.tmp 19) (.const (.int .i64 1))), none, [2, 1, 0]⟩, ⟨(some 21), (.mkslice 1 (.int .i64 0) (.tmp 20) (.tmp 20)), none, [3, 2, 1, 0]⟩, ⟨(some 6), (.mov (.tmp 21)), none, [4, 3, 2, 1, 0]⟩]) (.seq (.seq (.ops false [⟨(some 22), (.mov (.tmp 6)), none, []⟩, ⟨(some 23), (.len (.tmp 22)), none, [0]⟩, ⟨(some 24), (.mov (.const (.int .i64 0))), none, []⟩]) (.block 2 (some ⟨[], [3, 5, 6, 11, 12, 13], [5, 10, 21]⟩) (.loop dk63_0 db63_0))) (.seq (.ops false [⟨(some 34), (.mov (.tmp 6)), none, []⟩, ⟨(some 35), (.len (.tmp 34)), none, [0]⟩, ⟨(some 36), (.bin .sub (.tmp 35) (.const (.int .i64 1))), none, [1, 0]⟩, ⟨(some 8), (.mov (.tmp 36)), none, [2, 1, 0]⟩]) (.seq (.ops false [⟨(some 37), (.mov (.const (.int .i64 0))), none, []⟩]) (.block 4 (some ⟨[], [3, 11, 12, 13], [5, 10, 21]⟩) (.loop dk63_2 db63_2)))))))) (.ops false [⟨(some 66), (.bin .add (.tmp 13) (.const (.int .i64 1))), none, []⟩, ⟨(some 13), (.mov (.tmp 66)), none, [0]⟩]))))
def dk63_3 : Keep := ⟨[], [3, 11, 12, 13], [10]⟩
def dc63 : DFunc := ⟨68, 1, [(.tmp 2)], (.seq (.ops false [⟨(some 2), (.mov (.const (.map none))), none, []⟩]) (.seq (.ops false [⟨(some 10), .makemap, none, []⟩, ⟨(some 3), (.mov (.tmp 10)), none, [0]⟩]) (.seq (.seq (.ops false [⟨(some 11), (.mov (.tmp 0)), none, []⟩, ⟨(some 12), (.len (.tmp 11)), none, [0]⟩, ⟨(some 13), (.mov (.const (.int .i64 0))), none, []⟩]) (.block 0 (some ⟨[], [3], [10]⟩) (.loop dk63_3 db63_3))) (.seq (.ops false [⟨(some 67), (.mov (.tmp 3)), none, []⟩, ⟨(some 2), (.mov (.tmp 67)), none, [0]⟩]) .ret))))⟩
theorem dh63 : cProg Go.Proofs.Tryd.prog ⟨[(0, ⟨[], [3, 11, 12, 13], [10]⟩), (2, ⟨[], [3, 5, 6, 11, 12, 13, 23, 24], [5, 10, 21]⟩), (4, ⟨[], [3, 5, 6, 8, 11, 12, 13, 37], [5, 10, 21]⟩), (6, ⟨[], [3, 5, 6, 8, 9, 11, 12, 13, 37], [5, 10, 21]⟩)], [(2, ⟨[], [3, 5, 6, 11, 12, 13], [5, 10, 21]⟩), (6, ⟨[], [3, 5, 6, 8, 9, 11, 12, 13, 37], [5, 10, 21]⟩), (5, ⟨[], [3, 5, 6, 8, 11, 12, 13, 37], [5, 10, 21]⟩), (4, ⟨[], [3, 11, 12, 13], [5, 10, 21]⟩), (1, ⟨[], [3, 11, 12, 13], [10]⟩), (0, ⟨[], [3], [10]⟩)], []⟩ 63 = some dc63 := by kernel_rfl
def db65_0 : DC := (.seq (.seq (.ops false [⟨(some 12), (.mov (.tmp 4)), none, []⟩, ⟨(some 13), (.mov (.tmp 0)), none, []⟩, ⟨(some 14), (.len (.tmp 13)), none, [1]⟩, ⟨(some 15), (.bin .lss (.tmp 12) (.tmp 14)), none, [0, 2, 1]⟩]) (.cond (.tmp 15) .skip (.exit 0))) (.seq (.block 1 none (.ops false [⟨(some 18), (.mov (.tmp 3)), none, []⟩, ⟨(some 19), (.mov (.tmp 0)), none, []⟩, ⟨(some 20), (.mov (.tmp 4)), none, []⟩, ⟨(some 21), (.iaddr 1 (.tmp 19) (.tmp 20)), none, [1, 2]⟩, ⟨(some 22), (.load none (.tmp 21)), none, [3, 1, 2]⟩, ⟨(some 23), (.minmax true (.tmp 18) [(.tmp 22)]), none, [0, 4, 3, 1, 2]⟩, ⟨(some 3), (.mov (.tmp 23)), none, [5, 0, 4, 3, 1, 2]⟩])) (.ops false [⟨(some 16), (.mov (.tmp 4)), none, []⟩, ⟨(some 17), (.bin .add (.tmp 16) (.const (.int .i64 1))), none, [0]⟩, ⟨(some 4), (.mov (.tmp 17)), none, [1, 0]⟩])))
def dk65_0 : Keep := ⟨[], [0, 3, 4], []⟩
def dc65 : DFunc := ⟨25, 1, [(.tmp 2)], (.seq (.ops false [⟨(some 2), (.mov (.const (.int .i64 0))), none, []⟩]) (.seq (.seq (.ops false [⟨(some 5), (.mov (.tmp 0)), none, []⟩, ⟨(some 6), (.len (.tmp 5)), none, [0]⟩, ⟨(some 7), (.bin .lss (.tmp 6) (.const (.int .i64 1))), none, [1, 0]⟩]) (.cond (.tmp 7) (.ops false [⟨(some 8), .bad, none, []⟩, ⟨none, .bad, none, [0]⟩]) .skip)) (.seq (.ops false [⟨(some 9), (.mov (.tmp 0)), none, []⟩, ⟨(some 10), (.iaddr 1 (.tmp 9) (.const (.int .i64 0))), none, [0]⟩, ⟨(some 11), (.load none (.tmp 10)), none, [1, 0]⟩, ⟨(some 3), (.mov (.tmp 11)), none, [2, 1, 0]⟩]) (.seq (.seq (.ops false [⟨(some 4), (.mov (.const (.int .i64 1))), none, []⟩]) (.block 0 (some ⟨[], [3], []⟩) (.loop dk65_0 db65_0))) (.seq (.ops false [⟨(some 24), (.mov (.tmp 3)), none, []⟩, ⟨(some 2), (.mov (.tmp 24)), none, [0]⟩]) .ret)))))⟩
theorem dh65 : cProg Go.Proofs.Tryd.prog ⟨[(0, ⟨[], [0, 3, 4], []⟩)], [(0, ⟨[], [3], []⟩)], []⟩ 65 = some dc65 := by kernel_rfl
def db66_0 : DC := (.seq (.ops false [⟨(some 11), (.bin .lss (.tmp 10) (.tmp 9)), none, []⟩]) (.seq (.cond (.tmp 11) .skip (.exit 0)) (.seq (.block 1 none (.seq (.ops false [⟨(some 12), (.iaddr 1 (.tmp 8) (.tmp 10)), none, []⟩, ⟨(some 13), (.load none (.tmp 12)), none, [0]⟩, ⟨(some 7), (.mov (.tmp 13)), none, [1, 0]⟩]) (.ops false [⟨(some 14), (.mov (.tmp 5)), none, []⟩, ⟨(some 15), (.mov (.tmp 1)), none, []⟩, ⟨(some 16), (.mov (.tmp 7)), none, []⟩, ⟨(some 17), (.call (.tmp 15) [(.tmp 16)]), none, [1, 2]⟩, ⟨(some 18), (.lit true 1 1 (.int .i64 0) [(0, (.tmp 17))]), none, [3, 1, 2]⟩, ⟨(some 19), (.append false 1 (.tmp 14) (.tmp 18)), none, [0, 4, 3, 1, 2]⟩, ⟨(some 5), (.mov (.tmp 19)), none, [5, 0, 4, 3, 1, 2]⟩]))) (.ops false [⟨(some 20), (.bin .add (.tmp 10) (.const (.int .i64 1))), none, []⟩, ⟨(some 10), (.mov (.tmp 20)), none, [0]⟩]))))
def dk66_0 : Keep := ⟨[(5, 1)], [1, 5, 8, 9, 10], [5]⟩
def dc66 : DFunc := ⟨22, 2, [(.tmp 4)], (.seq (.ops false [⟨(some 4), (.mov (.const (.slice none 0 0))), none, []⟩]) (.seq (.ops false [⟨(some 5), (.mov (.const (.slice none 0 0))), none, []⟩]) (.seq (.seq (.ops false [⟨(some 8), (.mov (.tmp 0)), none, []⟩, ⟨(some 9), (.len (.tmp 8)), none, [0]⟩, ⟨(some 10), (.mov (.const (.int .i64 0))), none, []⟩]) (.block 0 (some ⟨[], [5], [5]⟩) (.loop dk66_0 db66_0))) (.seq (.ops false [⟨(some 21), (.mov (.tmp 5)), none, []⟩, ⟨(some 4), (.mov (.tmp 21)), none, [0]⟩]) .ret))))⟩
theorem dh66 : cProg Go.Proofs.Tryd.prog ⟨[(0, ⟨[(5, 1)], [1, 5, 8, 9, 10], [5]⟩)], [(0, ⟨[], [5], [5]⟩)], [18]⟩ 66 = some dc66 := by kernel_rfl
def dc67 : DFunc := ⟨5, 1, [(.tmp 2)], (.seq (.ops false [⟨(some 2), (.mov (.const (.int .i64 0))), none, []⟩]) (.seq (.ops false [⟨(some 3), (.mov (.tmp 0)), none, []⟩, ⟨(some 4), (.call (.func 43) [(.tmp 3), (.const (.int .i64 0))]), none, [0]⟩, ⟨(some 2), (.mov (.tmp 4)), none, [1, 0]⟩]) .ret))⟩
theorem dh67 : cProg Go.Proofs.Tryd.prog ⟨[], [], []⟩ 67 = some dc67 := by kernel_rfl
def db71_0 : DC := (.seq (.ops false [⟨(some 11), (.bin .lss (.tmp 10) (.tmp 9)), none, []⟩]) (.seq (.cond (.tmp 11) .skip (.exit 0)) (.seq (.block 1 none (.seq (.ops false [⟨(some 12), (.iaddr 1 (.tmp 8) (.tmp 10)), none, []⟩, ⟨(some 13), (.load none (.tmp 12)), none, [0]⟩, ⟨(some 7), (.mov (.tmp 13)), none, [1, 0]⟩]) (.ops false [⟨(some 14), (.mov (.tmp 5)), none, []⟩, ⟨(some 15), (.mov (.tmp 1)), none, []⟩, ⟨(some 16), (.mov (.tmp 7)), none, []⟩, ⟨(some 17), (.call (.tmp 15) [(.tmp 16)]), none, [1, 2]⟩, ⟨(some 18), (.lit true 1 1 (.full []) [(0, (.tmp 17))]), none, [3, 1, 2]⟩, ⟨(some 19), (.append false 1 (.tmp 14) (.tmp 18)), none, [0, 4, 3, 1, 2]⟩, ⟨(some 5), (.mov (.tmp 19)), none, [5, 0, 4, 3, 1, 2]⟩]))) (.ops false [⟨(some 20), (.bin .add (.tmp 10) (.const (.int .i64 1))), none, []⟩, ⟨(some 10), (.mov (.tmp 20)), none, [0]⟩]))))
def dk71_0 : Keep := ⟨[(5, 1)], [1, 5, 8, 9, 10], [5]⟩
def dc71 : DFunc := ⟨22, 2, [(.tmp 4)], (.seq (.ops false [⟨(some 4), (.mov (.const (.slice none 0 0))), none, []⟩]) (.seq (.ops false [⟨(some 5), (.mov (.const (.slice none 0 0))), none, []⟩]) (.seq (.seq (.ops false [⟨(some 8), (.mov (.tmp 0)), none, []⟩, ⟨(some 9), (.len (.tmp 8)), none, [0]⟩, ⟨(some 10), (.mov (.const (.int .i64 0))), none, []⟩]) (.block 0 (some ⟨[], [5], [5]⟩) (.loop dk71_0 db71_0))) (.seq (.ops false [⟨(some 21), (.mov (.tmp 5)), none, []⟩, ⟨(some 4), (.mov (.tmp 21)), none, [0]⟩]) .ret))))⟩
theorem dh71 : cProg Go.Proofs.Tryd.prog ⟨[(0, ⟨[(5, 1)], [1, 5, 8, 9, 10], [5]⟩)], [(0, ⟨[], [5], [5]⟩)], [18]⟩ 71 = some dc71 := by kernel_rfl
def db72_0 : DC := (.seq (.ops false [⟨(some 15), (.bin .lss (.tmp 14) (.tmp 13)), none, []⟩]) (.seq (.cond (.tmp 15) .skip (.exit 0)) (.seq (.block 1 none (.seq (.ops false [⟨(some 16), (.mov (.tmp 14)), none, []⟩, ⟨(some 5), (.mov (.tmp 16)), none, [0]⟩]) (.ops true [⟨(some 17), (.mov (.tmp 4)), none, []⟩, ⟨(some 18), (.mov (.tmp 5)), none, []⟩, ⟨(some 19), (.mov (.tmp 4)), none, []⟩, ⟨(some 20), (.mov (.tmp 5)), none, []⟩, ⟨(some 21), (.iaddr 3 (.tmp 19) (.tmp 20)), none, [2, 3]⟩, ⟨(some 22), (.faddr 1 1 false (.tmp 21)), none, [4, 2, 3]⟩, ⟨(some 23), (.load none (.tmp 22)), none, [5, 4, 2, 3]⟩, ⟨(some 24), (.load none (.tmp 1)), none, []⟩, ⟨(some 25), (.bin .add (.tmp 23) (.tmp 24)), none, [6, 5, 4, 2, 3, 7]⟩, ⟨(some 26), (.minmax true (.const (.int .i64 0)) [(.tmp 25)]), none, [8, 6, 5, 4, 2, 3, 7]⟩, ⟨(some 27), (.minmax false (.const (.int .i64 1000)) [(.tmp 26)]), none, [9, 8, 6, 5, 4, 2, 3, 7]⟩, ⟨(some 28), (.iaddr 3 (.tmp 17) (.tmp 18)), none, [0, 1, 2, 3, 4, 5, 6, 7, 8, 9, 10]⟩, ⟨(some 29), (.faddr 1 1 false (.tmp 28)), none, [11, 0, 1, 2, 3, 4, 5, 6, 7, 8, 9, 10]⟩, ⟨none, (.store 1 (.tmp 29) (.tmp 27)), none, [12, 11, 0, 1, 2, 3, 4, 5, 6, 7, 8, 9, 10]⟩]))) (.ops false [⟨(some 30), (.bin .add (.tmp 14) (.const (.int .i64 1))), none, []⟩, ⟨(some 14), (.mov (.tmp 30)), none, [0]⟩]))))
def dk72_0 : Keep := ⟨[], [1, 4, 13, 14], [8]⟩
def dc72 : DFunc := ⟨32, 2, [(.tmp 3)], (.seq (.ops false [⟨(some 3), (.mov (.const (.slice none 0 0))), none, []⟩]) (.seq (.ops false [⟨(some 6), (.mov (.tmp 0)), none, []⟩, ⟨(some 7), (.len (.tmp 6)), none, [0]⟩, ⟨(some 8), (.mkslice 3 (.agg [(.full []), (.int .i64 0), (.int .i64 0)]) (.tmp 7) (.tmp 7)), none, [1, 0]⟩, ⟨(some 4), (.mov (.tmp 8)), none, [2, 1, 0]⟩]) (.seq (.ops false [⟨(some 9), (.mov (.tmp 4)), none, []⟩, ⟨(some 10), (.mov (.tmp 0)), none, []⟩, ⟨(some 11), (.copy 3 (.tmp 9) (.tmp 10)), none, [0, 1]⟩]) (.seq (.seq (.ops false [⟨(some 12), (.mov (.tmp 4)), none, []⟩, ⟨(some 13), (.len (.tmp 12)), none, [0]⟩, ⟨(some 14), (.mov (.const (.int .i64 0))), none, []⟩]) (.block 0 (some ⟨[], [4], [8]⟩) (.loop dk72_0 db72_0))) (.seq (.ops false [⟨(some 31), (.mov (.tmp 4)), none, []⟩, ⟨(some 3), (.mov (.tmp 31)), none, [0]⟩]) .ret)))))⟩
theorem dh72 : cProg Go.Proofs.Tryd.prog ⟨[(0, ⟨[], [1, 4, 13, 14], [8]⟩)], [(0, ⟨[], [4], [8]⟩)], []⟩ 72 = some dc72 := by kernel_rfl
def db68_0x : DC := (.ops false [⟨(some 5), (.alloc (.agg [(.int .i64 0), (.int .i64 0)]) 2), none, []⟩, ⟨none, (.store 2 (.tmp 5) (.tmp 7)), none, [0]⟩])
def db68_0 : DC := (.block 1 none (.ops false [⟨(some 8), (.load none (.tmp 2)), none, []⟩, ⟨(some 9), (.load (some 2) (.tmp 5)), none, []⟩, ⟨(some 10), (.lit true 2 1 (.agg [(.int .i64 0), (.int .i64 0)]) [(0, (.tmp 9))]), none, [1]⟩, ⟨(some 11), (.append false 2 (.tmp 8) (.tmp 10)), none, [0, 2, 1]⟩, ⟨none, (.store 1 (.tmp 2) (.tmp 11)), none, [3, 0, 2, 1]⟩]))
def dk68_0 : Keep := ⟨[], [2, 4], [2, 11]⟩
def dc68 : DFunc := ⟨13, 2, [(.tmp 4)], (.seq (.ops false [⟨(some 2), (.box 1 (.tmp 0)), none, []⟩, ⟨(some 4), (.mov (.const (.slice none 0 0))), none, []⟩]) (.seq (.seq (.ops false [⟨(some 6), (.mov (.tmp 1)), none, []⟩]) (.block 0 (some ⟨[], [2], [2, 11]⟩) (.rangeF dk68_0 (.tmp 6) [7] db68_0x db68_0))) (.seq (.ops false [⟨(some 12), (.load none (.tmp 2)), none, []⟩, ⟨(some 4), (.mov (.tmp 12)), none, [0]⟩]) .ret)))⟩
theorem dh68 : cProg Go.Proofs.Tryd.prog ⟨[(0, ⟨[], [2, 4], [2, 11]⟩)], [(0, ⟨[], [2], [2, 11]⟩)], [10]⟩ 68 = some dc68 := by kernel_rfl
def db69_0 : DC := (.seq (.ops false [⟨(some 8), (.bin .lss (.tmp 7) (.tmp 6)), none, []⟩]) (.seq (.cond (.tmp 8) .skip (.exit 0)) (.seq (.block 1 none (.seq (.ops false [⟨(some 9), (.mov (.tmp 7)), none, []⟩, ⟨(some 10), (.iaddr 1 (.tmp 5) (.tmp 7)), none, []⟩, ⟨(some 11), (.load none (.tmp 10)), none, [1]⟩, ⟨(some 3), (.mov (.tmp 9)), none, [0, 1, 2]⟩, ⟨(some 4), (.mov (.tmp 11)), none, [2, 1, 3, 0]⟩]) (.seq (.ops false [⟨(some 12), (.mov (.tmp 0)), none, []⟩, ⟨(some 13), (.mov (.tmp 3)), none, []⟩, ⟨(some 14), (.build [(.int .i64 0)] [(0, (1, (.tmp 13)))]), none, [1]⟩, ⟨(some 15), (.mov (.tmp 3)), none, []⟩, ⟨(some 16), (.mov (.tmp 4)), none, []⟩, ⟨(some 17), (.bin .mul (.tmp 15) (.tmp 16)), none, [3, 4]⟩, ⟨(some 18), (.build [(.int .i64 0), (.int .i64 0)] [(0, (1, (.tmp 14))), (1, (1, (.tmp 17)))]), none, [2, 1, 5, 3, 4]⟩, ⟨(some 19), (.call (.tmp 12) [(.tmp 18)]), none, [0, 6, 2, 1, 5, 3, 4]⟩, ⟨(some 20), (.un .not (.tmp 19)), none, [7, 0, 6, 2, 1, 5, 3, 4]⟩]) (.cond (.tmp 20) .ret .skip)))) (.ops false [⟨(some 21), (.bin .add (.tmp 7) (.const (.int .i64 1))), none, []⟩, ⟨(some 7), (.mov (.tmp 21)), none, [0]⟩]))))
def dk69_0 : Keep := ⟨[], [0, 5, 6, 7], [0]⟩
def dc69 : DFunc := ⟨22, 2, [], (.seq (.ops false [⟨(some 5), (.load none (.tmp 1)), none, []⟩, ⟨(some 6), (.len (.tmp 5)), none, [0]⟩, ⟨(some 7), (.mov (.const (.int .i64 0))), none, []⟩]) (.block 0 (some ⟨[], [], [0]⟩) (.loop dk69_0 db69_0)))⟩
theorem dh69 : cProg Go.Proofs.Tryd.prog ⟨[(0, ⟨[], [0, 5, 6, 7], [0]⟩)], [(0, ⟨[], [], [0]⟩)], []⟩ 69 = some dc69 := by kernel_rfl
def dc70 : DFunc := ⟨19, 2, [(.tmp 4)], (.seq (.ops false [⟨(some 2), (.box 2 (.tmp 0)), none, []⟩, ⟨(some 3), (.box 2 (.tmp 1)), none, []⟩, ⟨(some 4), (.mov (.const (.int .i64 0))), none, []⟩]) (.seq (.ops true [⟨(some 5), (.faddr 1 1 false (.tmp 3)), none, []⟩, ⟨(some 6), (.load none (.tmp 5)), none, [0]⟩, ⟨(some 7), (.faddr 1 1 false (.tmp 2)), none, []⟩, ⟨(some 8), (.load none (.tmp 7)), none, [2]⟩, ⟨(some 9), (.call (.func 79) [(.tmp 6), (.tmp 8)]), none, [1, 0, 3, 2]⟩, ⟨(some 10), (.faddr 0 1 true (.tmp 2)), none, []⟩, ⟨(some 11), (.faddr 0 1 false (.tmp 10)), none, [5]⟩, ⟨(some 12), (.load none (.tmp 11)), none, [6, 5]⟩, ⟨(some 13), (.faddr 0 1 true (.tmp 3)), none, []⟩, ⟨(some 14), (.faddr 0 1 false (.tmp 13)), none, [8]⟩, ⟨(some 15), (.load none (.tmp 14)), none, [9, 8]⟩, ⟨(some 16), (.call (.func 79) [(.tmp 12), (.tmp 15)]), none, [7, 6, 5, 10, 9, 8, 4, 1, 0, 3, 2]⟩, ⟨(some 17), (.lit true 1 2 (.int .i64 0) [(0, (.tmp 9)), (1, (.tmp 16))]), none, [4, 1, 0, 3, 2, 11, 7, 6, 5, 10, 9, 8]⟩, ⟨(some 18), (.call (.func 78) [(.tmp 17)]), none, [12, 4, 1, 0, 3, 2, 11, 7, 6, 5, 10, 9, 8]⟩, ⟨(some 4), (.mov (.tmp 18)), none, [13, 12, 4, 1, 0, 3, 2, 11, 7, 6, 5, 10, 9, 8]⟩]) .ret))⟩
theorem dh70 : cProg Go.Proofs.Tryd.prog ⟨[], [], [17]⟩ 70 = some dc70 := by kernel_rfl
def db56_0 : DC := (.seq (.ops false [⟨(some 11), (.bin .lss (.tmp 10) (.tmp 9)), none, []⟩]) (.seq (.cond (.tmp 11) .skip (.exit 0)) (.seq (.block 1 none (.seq (.ops false [⟨(some 12), (.iaddr 1 (.tmp 8) (.tmp 10)), none, []⟩, ⟨(some 13), (.load none (.tmp 12)), none, [0]⟩, ⟨(some 7), (.mov (.tmp 13)), none, [1, 0]⟩]) (.ops false [⟨(some 14), (.mov (.tmp 5)), none, []⟩, ⟨(some 15), (.mov (.tmp 1)), none, []⟩, ⟨(some 16), (.mov (.tmp 7)), none, []⟩, ⟨(some 17), (.call (.tmp 15) [(.tmp 16)]), none, [1, 2]⟩, ⟨(some 18), (.lit true 1 1 (.int .i64 0) [(0, (.tmp 17))]), none, [3, 1, 2]⟩, ⟨(some 19), (.append false 1 (.tmp 14) (.tmp 18)), none, [0, 4, 3, 1, 2]⟩, ⟨(some 5), (.mov (.tmp 19)), none, [5, 0, 4, 3, 1, 2]⟩]))) (.ops false [⟨(some 20), (.bin .add (.tmp 10) (.const (.int .i64 1))), none, []⟩, ⟨(some 10), (.mov (.tmp 20)), none, [0]⟩]))))
def dk56_0 : Keep := ⟨[(5, 1)], [1, 5, 8, 9, 10], [5]⟩
def dc56 : DFunc := ⟨22, 2, [(.tmp 4)], (.seq (.ops false [⟨(some 4), (.mov (.const (.slice none 0 0))), none, []⟩]) (.seq (.ops false [⟨(some 5), (.mov (.const (.slice none 0 0))), none, []⟩]) (.seq (.seq (.ops false [⟨(some 8), (.mov (.tmp 0)), none, []⟩, ⟨(some 9), (.len (.tmp 8)), none, [0]⟩, ⟨(some 10), (.mov (.const (.int .i64 0))), none, []⟩]) (.block 0 (some ⟨[], [5], [5]⟩) (.loop dk56_0 db56_0))) (.seq (.ops false [⟨(some 21), (.mov (.tmp 5)), none, []⟩, ⟨(some 4), (.mov (.tmp 21)), none, [0]⟩]) .ret))))⟩
theorem dh56 : cProg Go.Proofs.Tryd.prog ⟨[(0, ⟨[(5, 1)], [1, 5, 8, 9, 10], [5]⟩)], [(0, ⟨[], [5], [5]⟩)], [18]⟩ 56 = some dc56 := by kernel_rfl
def dc57 : DFunc := ⟨5, 1, [(.tmp 2)], (.seq (.ops false [⟨(some 2), (.mov (.const (.int .i64 0))), none, []⟩]) (.seq (.ops false [⟨(some 3), (.mov (.tmp 0)), none, []⟩, ⟨(some 4), (.call (.func 51) [(.tmp 3), (.const (.int .i64 0)), (.const (.int .i64 1200))]), none, [0]⟩, ⟨(some 2), (.mov (.tmp 4)), none, [1, 0]⟩]) .ret))⟩
theorem dh57 : cProg Go.Proofs.Tryd.prog ⟨[], [], []⟩ 57 = some dc57 := by kernel_rfl
def dc77 : DFunc := ⟨17, 2, [(.tmp 4)], (.seq (.ops false [⟨(some 4), (.mov (.const (.int .i64 0))), none, []⟩]) (.seq (.ops false [⟨(some 6), (.mov (.tmp 0)), none, []⟩, ⟨(some 7), (.mov (.tmp 1)), none, []⟩, ⟨(some 8), (.bin .quo (.tmp 6) (.tmp 7)), none, [0, 1]⟩, ⟨(some 5), (.mov (.tmp 8)), none, [2, 0, 1]⟩]) (.seq (.seq (.ops false [⟨(some 9), (.mov (.tmp 5)), none, []⟩, ⟨(some 10), (.mov (.tmp 1)), none, []⟩, ⟨(some 11), (.bin .mul (.tmp 9) (.tmp 10)), none, [0, 1]⟩, ⟨(some 12), (.mov (.tmp 0)), none, []⟩, ⟨(some 13), (.bin .gtr (.tmp 11) (.tmp 12)), none, [2, 0, 1, 3]⟩]) (.cond (.tmp 13) (.ops false [⟨(some 14), (.mov (.tmp 5)), none, []⟩, ⟨(some 15), (.bin .sub (.tmp 14) (.const (.int .i64 1))), none, [0]⟩, ⟨(some 5), (.mov (.tmp 15)), none, [1, 0]⟩]) .skip)) (.seq (.ops false [⟨(some 16), (.mov (.tmp 5)), none, []⟩, ⟨(some 4), (.mov (.tmp 16)), none, [0]⟩]) .ret))))⟩
theorem dh77 : cProg Go.Proofs.Tryd.prog ⟨[], [], []⟩ 77 = some dc77 := by kernel_rfl
def db78_0 : DC := (.seq (.ops false [⟨(some 9), (.bin .lss (.tmp 8) (.tmp 7)), none, []⟩]) (.seq (.cond (.tmp 9) .skip (.exit 0)) (.seq (.block 1 none (.seq (.ops false [⟨(some 10), (.iaddr 1 (.tmp 6) (.tmp 8)), none, []⟩, ⟨(some 11), (.load none (.tmp 10)), none, [0]⟩, ⟨(some 5), (.mov (.tmp 11)), none, [1, 0]⟩]) (.seq (.ops false [⟨(some 12), (.mov (.tmp 5)), none, []⟩, ⟨(some 13), (.mov (.tmp 3)), none, []⟩, ⟨(some 14), (.bin .neq (.tmp 12) (.tmp 13)), none, [0, 1]⟩]) (.cond (.tmp 14) (.seq (.ops false [⟨(some 15), (.mov (.tmp 5)), none, []⟩, ⟨(some 2), (.mov (.tmp 15)), none, [0]⟩]) .ret) .skip)))) (.ops false [⟨(some 16), (.bin .add (.tmp 8) (.const (.int .i64 1))), none, []⟩, ⟨(some 8), (.mov (.tmp 16)), none, [0]⟩]))))
def dk78_0 : Keep := ⟨[], [3, 6, 7, 8], []⟩
def dc78 : DFunc := ⟨18, 1, [(.tmp 2)], (.seq (.ops false [⟨(some 2), (.mov (.const (.int .i64 0))), none, []⟩]) (.seq (.ops false [⟨(some 3), (.mov (.const (.int .i64 0))), none, []⟩]) (.seq (.seq (.ops false [⟨(some 6), (.mov (.tmp 0)), none, []⟩, ⟨(some 7), (.len (.tmp 6)), none, [0]⟩, ⟨(some 8), (.mov (.const (.int .i64 0))), none, []⟩]) (.block 0 (some ⟨[], [3], []⟩) (.loop dk78_0 db78_0))) (.seq (.ops false [⟨(some 17), (.mov (.tmp 3)), none, []⟩, ⟨(some 2), (.mov (.tmp 17)), none, [0]⟩]) .ret))))⟩
theorem dh78 : cProg Go.Proofs.Tryd.prog ⟨[(0, ⟨[], [3, 6, 7, 8], []⟩)], [(0, ⟨[], [3], []⟩)], []⟩ 78 = some dc78 := by kernel_rfl
def dc79 : DFunc := ⟨20, 2, [(.tmp 4)], (.seq (.ops false [⟨(some 4), (.mov (.const (.int .i64 0))), none, []⟩]) (.seq (.ops false [⟨(some 7), (.mov (.tmp 0)), none, []⟩, ⟨(some 8), (.call (.func 83) [(.tmp 7)]), none, [0]⟩, ⟨(some 5), (.mov (.tmp 8)), none, [1, 0]⟩]) (.seq (.ops false [⟨(some 9), (.mov (.tmp 1)), none, []⟩, ⟨(some 10), (.call (.func 83) [(.tmp 9)]), none, [0]⟩, ⟨(some 6), (.mov (.tmp 10)), none, [1, 0]⟩]) (.seq (.seq (.ops false [⟨(some 11), (.mov (.tmp 5)), none, []⟩]) (.cond (.tmp 11) (.seq (.seq (.ops false [⟨(some 12), (.mov (.tmp 6)), none, []⟩]) (.cond (.tmp 12) (.seq (.ops false [⟨(some 4), (.mov (.const (.int .i64 0))), none, []⟩]) .ret) .skip)) (.seq (.ops false [⟨(some 4), (.mov (.const (.int .i64 (-1)))), none, []⟩]) .ret)) .skip)) (.seq (.seq (.ops false [⟨(some 13), (.mov (.tmp 6)), none, []⟩]) (.cond (.tmp 13) (.seq (.ops false [⟨(some 4), (.mov (.const (.int .i64 1))), none, []⟩]) .ret) .skip)) (.seq (.seq (.ops false [⟨(some 14), (.mov (.tmp 0)), none, []⟩, ⟨(some 15), (.mov (.tmp 1)), none, []⟩, ⟨(some 16), (.bin .lss (.tmp 14) (.tmp 15)), none, [0, 1]⟩]) (.cond (.tmp 16) (.seq (.ops false [⟨(some 4), (.mov (.const (.int .i64 (-1)))), none, []⟩]) .ret) .skip)) (.seq (.seq (.ops false [⟨(some 17), (.mov (.tmp 0)), none, []⟩, ⟨(some 18), (.mov (.tmp 1)), none, []⟩, ⟨(some 19), (.bin .gtr (.tmp 17) (.tmp 18)), none, [0, 1]⟩]) (.cond (.tmp 19) (.seq (.ops false [⟨(some 4), (.mov (.const (.int .i64 1))), none, []⟩]) .ret) .skip)) (.seq (.ops false [⟨(some 4), (.mov (.const (.int .i64 0))), none, []⟩]) .ret))))))))⟩
theorem dh79 : cProg Go.Proofs.Tryd.prog ⟨[], [], []⟩ 79 = some dc79 := by kernel_rfl
def dc83 : DFunc := ⟨6, 1, [(.tmp 2)], (.seq (.ops false [⟨(some 2), (.mov (.const (.bool false))), none, []⟩]) (.seq (.ops false [⟨(some 3), (.mov (.tmp 0)), none, []⟩, ⟨(some 4), (.mov (.tmp 0)), none, []⟩, ⟨(some 5), (.bin .neq (.tmp 3) (.tmp 4)), none, [0, 1]⟩, ⟨(some 2), (.mov (.tmp 5)), none, [2, 0, 1]⟩]) .ret))⟩
theorem dh83 : cProg Go.Proofs.Tryd.prog ⟨[], [], []⟩ 83 = some dc83 := by kernel_rfl
def dc114 : DFunc := ⟨8, 2, [(.tmp 4)], (.seq (.ops false [⟨(some 4), (.mov (.const (.bool false))), none, []⟩]) (.seq (.ops false [⟨(some 5), (.mov (.tmp 0)), none, []⟩, ⟨(some 6), (.mov (.tmp 1)), none, []⟩, ⟨(some 7), (.call (.func 115) [(.tmp 5), (.tmp 6)]), none, [0, 1]⟩, ⟨(some 4), (.mov (.tmp 7)), none, [2, 0, 1]⟩]) .ret))⟩
theorem dh114 : cProg Go.Proofs.Tryd.prog ⟨[], [], []⟩ 114 = some dc114 := by kernel_rfl
def db115_0 : DC := (.seq (.ops false [⟨(some 14), (.bin .lss (.tmp 13) (.tmp 12)), none, []⟩]) (.seq (.cond (.tmp 14) .skip (.exit 0)) (.seq (.block 1 none (.seq (.ops false [⟨(some 15), (.mov (.tmp 13)), none, []⟩, ⟨(some 5), (.mov (.tmp 15)), none, [0]⟩]) (.seq (.ops true [⟨(some 16), (.mov (.tmp 0)), none, []⟩, ⟨(some 17), (.mov (.tmp 5)), none, []⟩, ⟨(some 18), (.iaddr 1 (.tmp 16) (.tmp 17)), none, [0, 1]⟩, ⟨(some 19), (.load none (.tmp 18)), none, [2, 0, 1]⟩, ⟨(some 20), (.mov (.tmp 1)), none, []⟩, ⟨(some 21), (.mov (.tmp 5)), none, []⟩, ⟨(some 22), (.iaddr 1 (.tmp 20) (.tmp 21)), none, [4, 5]⟩, ⟨(some 23), (.load none (.tmp 22)), none, [6, 4, 5]⟩, ⟨(some 24), (.bin .neq (.tmp 19) (.tmp 23)), none, [3, 2, 0, 1, 7, 6, 4, 5]⟩]) (.cond (.tmp 24) (.seq (.ops false [⟨(some 4), (.mov (.const (.bool false))), none, []⟩]) .ret) .skip)))) (.ops false [⟨(some 25), (.bin .add (.tmp 13) (.const (.int .i64 1))), none, []⟩, ⟨(some 13), (.mov (.tmp 25)), none, [0]⟩]))))
def dk115_0 : Keep := ⟨[], [0, 1, 12, 13], []⟩
def dc115 : DFunc := ⟨26, 2, [(.tmp 4)], (.seq (.ops false [⟨(some 4), (.mov (.const (.bool false))), none, []⟩]) (.seq (.seq (.ops false [⟨(some 6), (.mov (.tmp 0)), none, []⟩, ⟨(some 7), (.len (.tmp 6)), none, [0]⟩, ⟨(some 8), (.mov (.tmp 1)), none, []⟩, ⟨(some 9), (.len (.tmp 8)), none, [2]⟩, ⟨(some 10), (.bin .neq (.tmp 7) (.tmp 9)), none, [1, 0, 3, 2]⟩]) (.cond (.tmp 10) (.seq (.ops false [⟨(some 4), (.mov (.const (.bool false))), none, []⟩]) .ret) .skip)) (.seq (.seq (.ops false [⟨(some 11), (.mov (.tmp 0)), none, []⟩, ⟨(some 12), (.len (.tmp 11)), none, [0]⟩, ⟨(some 13), (.mov (.const (.int .i64 0))), none, []⟩]) (.block 0 (some ⟨[], [], []⟩) (.loop dk115_0 db115_0))) (.seq (.ops false [⟨(some 4), (.mov (.const (.bool true))), none, []⟩]) .ret))))⟩
theorem dh115 : cProg Go.Proofs.Tryd.prog ⟨[(0, ⟨[], [0, 1, 12, 13], []⟩)], [(0, ⟨[], [], []⟩)], []⟩ 115 = some dc115 := by kernel_rfl
def db116_0 : DC := (.seq (.ops false [⟨(some 10), (.bin .lss (.tmp 9) (.tmp 8)), none, []⟩]) (.seq (.cond (.tmp 10) .skip (.exit 0)) (.seq (.block 1 none (.seq (.ops false [⟨(some 11), (.mov (.tmp 9)), none, []⟩, ⟨(some 12), (.iaddr 1 (.tmp 7) (.tmp 9)), none, []⟩, ⟨(some 13), (.load none (.tmp 12)), none, [1]⟩, ⟨(some 5), (.mov (.tmp 11)), none, [0, 1, 2]⟩, ⟨(some 6), (.mov (.tmp 13)), none, [2, 1, 3, 0]⟩]) (.seq (.ops false [⟨(some 14), (.mov (.tmp 6)), none, []⟩, ⟨(some 15), (.mov (.tmp 0)), none, []⟩, ⟨(some 16), (.mov (.tmp 5)), none, []⟩, ⟨(some 17), (.iaddr 1 (.tmp 15) (.tmp 16)), none, [1, 2]⟩, ⟨(some 18), (.load none (.tmp 17)), none, [3, 1, 2]⟩, ⟨(some 19), (.bin .gtr (.tmp 14) (.tmp 18)), none, [0, 4, 3, 1, 2]⟩]) (.cond (.tmp 19) (.seq (.ops false [⟨(some 4), (.mov (.const (.bool true))), none, []⟩]) .ret) .skip)))) (.ops false [⟨(some 20), (.bin .add (.tmp 9) (.const (.int .i64 1))), none, []⟩, ⟨(some 9), (.mov (.tmp 20)), none, [0]⟩]))))
def dk116_0 : Keep := ⟨[], [0, 7, 8, 9], []⟩
def dc116 : DFunc := ⟨21, 2, [(.tmp 4)], (.seq (.ops false [⟨(some 4), (.mov (.const (.bool false))), none, []⟩]) (.seq (.seq (.ops false [⟨(some 7), (.mov (.tmp 1)), none, []⟩, ⟨(some 8), (.len (.tmp 7)), none, [0]⟩, ⟨(some 9), (.mov (.const (.int .i64 0))), none, []⟩]) (.block 0 (some ⟨[], [], []⟩) (.loop dk116_0 db116_0))) (.seq (.ops false [⟨(some 4), (.mov (.const (.bool false))), none, []⟩]) .ret)))⟩
theorem dh116 : cProg Go.Proofs.Tryd.prog ⟨[(0, ⟨[], [0, 7, 8, 9], []⟩)], [(0, ⟨[], [], []⟩)], []⟩ 116 = some dc116 := by kernel_rfl
def dc117 : DFunc := ⟨8, 2, [(.tmp 4)], (.seq (.ops false [⟨(some 4), (.mov (.const (.bool false))), none, []⟩]) (.seq (.ops false [⟨(some 5), (.mov (.tmp 1)), none, []⟩, ⟨(some 6), (.call (.func 65) [(.tmp 5)]), none, [0]⟩, ⟨(some 7), (.bin .eql (.tmp 6) (.const (.int .i64 0))), none, [1, 0]⟩, ⟨(some 4), (.mov (.tmp 7)), none, [2, 1, 0]⟩]) .ret))⟩
theorem dh117 : cProg Go.Proofs.Tryd.prog ⟨[], [], []⟩ 117 = some dc117 := by kernel_rfl
def dc118 : DFunc := ⟨12, 2, [(.tmp 4)], (.seq (.ops false [⟨(some 4), (.mov (.const (.bool false))), none, []⟩]) (.seq (.ops true [⟨(some 5), (.mov (.tmp 1)), none, []⟩, ⟨(some 6), (.iaddr 1 (.tmp 5) (.const (.int .i64 0))), none, [0]⟩, ⟨(some 7), (.load none (.tmp 6)), none, [1, 0]⟩, ⟨(some 8), (.mov (.tmp 0)), none, []⟩, ⟨(some 9), (.iaddr 1 (.tmp 8) (.const (.int .i64 0))), none, [3]⟩, ⟨(some 10), (.load none (.tmp 9)), none, [4, 3]⟩, ⟨(some 11), (.bin .lss (.tmp 7) (.tmp 10)), none, [2, 1, 0, 5, 4, 3]⟩, ⟨(some 4), (.mov (.tmp 11)), none, [6, 2, 1, 0, 5, 4, 3]⟩]) .ret))⟩
theorem dh118 : cProg Go.Proofs.Tryd.prog ⟨[], [], []⟩ 118 = some dc118 := by kernel_rfl
def dc119 : DFunc := ⟨5, 2, [(.tmp 4)], (.seq (.ops false [⟨(some 4), (.mov (.const (.bool false))), none, []⟩]) (.seq (.ops false [⟨(some 4), (.mov (.const (.bool true))), none, []⟩]) .ret))⟩
theorem dh119 : cProg Go.Proofs.Tryd.prog ⟨[], [], []⟩ 119 = some dc119 := by kernel_rfl
end Sh

/-! Plain data and functions of chapter 4. -/
namespace Sh
open Go
structure Pt where
  x : Int
  y : Int
structure Cel where
  tb : List Pt
  li : Int
  dr : Int
def P0 : Pt := ⟨0, 0⟩
def C0 : Cel := ⟨[], 0, 0⟩
def firstE : List Int → Int
  | [] => 0
  | a :: r => if a ≠ 0 then a else firstE r
theorem firstE_drop (l : List Int) (i : Nat) (h : i < l.length) : firstE (l.drop i) = if l.getD i 0 ≠ 0 then l.getD i 0 else firstE (l.drop (i + 1)) := by
  rw [List.drop_eq_getElem_cons h]; simp [firstE, List.getD_eq_getElem?_getD, h]
def withE (n l h : Int) : Int := if n < l ∨ h < n then 3 else 0
def whenE (b : Bool) (e : Int) : Int := if b then e else 0
def floorW (n d : Int) : Int := if n < W (W (n.tdiv d) * d) then W (W (n.tdiv d) - 1) else W (n.tdiv d)
def chkStep (f : Bool) (b p : Pt) : Int := firstE [withE p.x 0 100, withE p.y 0 200, whenE ((f && !decide (p.x = 0)) || (decide (p.x ≤ b.x) || decide (b.y < p.y))) 11]
def chkL : Bool → Pt → List Pt → Int
  | _, b, [] => whenE (decide (b.y ≠ 0)) 32
  | f, b, p :: r => if chkStep f b p ≠ 0 then chkStep f b p else chkL false p r
def sizeE (n : Int) : Int := firstE [whenE (decide (n < 2)) 16, whenE (decide (8 < n)) 5]
def chkTab (t : List Pt) : Int := if sizeE t.length ≠ 0 then sizeE t.length else chkL true ⟨-1, 200⟩ t
def chkCell (c : Cel) : Int := firstE [chkTab c.tb, withE c.li 0 1000, withE c.dr 0 10]
def countE (n m : Int) : Int := firstE [whenE (decide (n = 0)) 12, whenE (decide (m < n)) 5]
def chkChain (l : List Cel) : Int := if countE l.length 8 ≠ 0 then countE l.length 8 else firstE (l.map chkCell)
def chkField (f : List (List Cel)) : Int := if countE f.length 6 ≠ 0 then countE f.length 6 else firstE (f.map chkChain)
def befP (t : List Pt) : Nat → Pt
  | 0 => ⟨-1, 200⟩
  | i + 1 => t.getD i P0
theorem befP_zero (t : List Pt) : befP t 0 = ⟨-1, 200⟩ := rfl
theorem befP_pos (t : List Pt) (i : Nat) (h : 0 < i) : befP t i = t.getD (i - 1) P0 := by cases i with
  | zero => omega
  | succ i => rfl
theorem befP_succ (t : List Pt) (i : Nat) : befP t (i + 1) = t.getD i P0 := rfl
theorem drop_getD {α : Type} (l : List α) (i : Nat) (d : α) (h : i < l.length) : l.drop i = l.getD i d :: l.drop (i + 1) := by
  rw [List.drop_eq_getElem_cons h]; simp [List.getD_eq_getElem?_getD, h]
theorem take_snoc {α : Type} (l : List α) (i : Nat) (d : α) (h : i < l.length) : l.take (i + 1) = l.take i ++ [l.getD i d] := by
  rw [List.take_add_one]; simp [List.getD_eq_getElem?_getD, h]
theorem getD_in {α : Type} {l : List α} {i : Nat} (d : α) (h : i < l.length) : l.getD i d ∈ l := by
  have : l.getD i d = l[i] := by simp [List.getD_eq_getElem?_getD, h]
  rw [this]; exact List.getElem_mem h
theorem take_map_succ {α β : Type} (f : α → β) (l : List α) (i : Nat) (d : α) (h : i < l.length) : (l.take (i + 1)).map f = (l.take i).map f ++ [f (l.getD i d)] := by
  rw [take_snoc l i d h, List.map_append]; rfl
theorem window_full {α : Type} (l : List α) : window l 0 l.length = l := by simp [window]
theorem len_take {α β : Type} (f : α → β) (l : List α) (i : Nat) (h : i ≤ l.length) : ((l.take i).map f).length = i := by simp; omega
theorem int_eq {a b : Int} (h : a = b) : DV.int .i64 a = .int .i64 b := by rw [h]
theorem bool_eq {a b : Bool} (h : a = b) : DV.bool a = .bool b := by rw [h]
theorem idxA {α : Type} {enc : α → DV} {l : List α} {i n : Nat} {x : DV} (h : i < l.length) (hx : x.cells.length = n) : 0 ≤ (i : Int) ∧ (i : Int) < ((l.map enc).length : Nat) ∧ x.cells.length = n := ⟨by omega, by simpa using h, hx⟩
theorem idxB {α : Type} {enc : α → DV} {l : List α} {i : Int} {n : Nat} {x : DV} (h0 : 0 ≤ i) (h : i < l.length) (hx : x.cells.length = n) : 0 ≤ i ∧ i < ((l.map enc).length : Nat) ∧ x.cells.length = n := ⟨h0, by simpa using h, hx⟩
theorem wrap_succ (i : Nat) (h : i < 4611686018427387904) : IntKind.i64.wrap ((i : Int) + 1) = ((i + 1 : Nat) : Int) := by
  rw [wrap_W, W_in (by omega) (by omega)]; omega
theorem wrap_pred (i : Nat) (h0 : 0 < i) (h : i < 4611686018427387904) : IntKind.i64.wrap ((i : Int) - 1) = ((i - 1 : Nat) : Int) := by
  rw [wrap_W, W_in (by omega) (by omega)]; omega
theorem wrap_in {n : Int} (h1 : -9223372036854775808 ≤ n) (h2 : n ≤ 9223372036854775807) : IntKind.i64.wrap n = n := W_in h1 h2
end Sh

/-! Tables and cells: what a valid one is, its currents and voltages. -/
namespace Sh
open Go
theorem mul_bd {a b A B : Int} (h1 : -A ≤ a) (h2 : a ≤ A) (h3 : -B ≤ b) (h4 : b ≤ B) : -(A * B) ≤ a * b ∧ a * b ≤ A * B := by
  have hA : 0 ≤ A := by omega
  have hB : 0 ≤ B := by omega
  have ha : a.natAbs ≤ A.natAbs := by omega
  have hb : b.natAbs ≤ B.natAbs := by omega
  have h := Nat.mul_le_mul ha hb
  rw [← Int.natAbs_mul, ← Int.natAbs_mul] at h
  have hAB : 0 ≤ A * B := Int.mul_nonneg hA hB
  omega

def okStep (b p : Pt) : Prop := (0 ≤ p.x ∧ p.x ≤ 100 ∧ 0 ≤ p.y ∧ p.y ≤ 200) ∧ b.x < p.x ∧ p.y ≤ b.y
def okL : Pt → List Pt → Prop
  | b, [] => b.y = 0
  | b, p :: r => okStep b p ∧ okL p r
def OkT (t : List Pt) : Prop := 2 ≤ t.length ∧ t.length ≤ 8 ∧ ∃ p r, t = p :: r ∧ p.x = 0 ∧ 0 ≤ p.y ∧ p.y ≤ 200 ∧ okL p r
def OkC (c : Cel) : Prop := OkT c.tb ∧ 0 ≤ c.li ∧ c.li ≤ 1000 ∧ 0 ≤ c.dr ∧ c.dr ≤ 10

theorem firstE_cons {a : Int} {l : List Int} (h : firstE (a :: l) = 0) : a = 0 ∧ firstE l = 0 := by
  unfold firstE at h
  split at h
  · exact absurd h ‹_›
  · rename_i h1; exact ⟨Classical.not_not.1 h1, h⟩
theorem withE_zero {n l h : Int} (e : withE n l h = 0) : l ≤ n ∧ n ≤ h := by
  unfold withE at e; split at e
  · cases e
  · omega
theorem whenE_zero {b : Bool} {e : Int} (h : whenE b e = 0) (he : e ≠ 0) : b = false := by
  cases b
  · rfl
  · exact absurd h he

theorem chkStep_zero {f : Bool} {b p : Pt} (h : chkStep f b p = 0) : okStep b p ∧ (f = true → p.x = 0) := by
  unfold chkStep at h
  obtain ⟨h1, h⟩ := firstE_cons h
  obtain ⟨h2, h⟩ := firstE_cons h
  obtain ⟨h3, h⟩ := firstE_cons h
  have h1 := withE_zero h1
  have h2 := withE_zero h2
  have h3 := whenE_zero h3 (by decide)
  simp only [Bool.or_eq_false_iff, Bool.and_eq_false_iff, decide_eq_false_iff_not, Bool.not_eq_false', decide_eq_true_eq] at h3
  obtain ⟨h3, h4, h5⟩ := h3
  refine ⟨⟨⟨h1.1, h1.2, h2.1, h2.2⟩, by omega, by omega⟩, fun hf => ?_⟩
  rcases h3 with h3 | h3
  · rw [hf] at h3; cases h3
  · exact h3

theorem chkL_zero : ∀ {f : Bool} {b : Pt} {l : List Pt}, chkL f b l = 0 → okL b l
  | f, b, [], h => by
    have := whenE_zero h (by decide)
    simpa [okL] using this
  | f, b, p :: r, h => by
    unfold chkL at h
    split at h
    · exact absurd h ‹_›
    · rename_i h1
      exact ⟨(chkStep_zero (Classical.not_not.1 h1)).1, chkL_zero h⟩

theorem sizeE_zero {n : Int} (h : sizeE n = 0) : 2 ≤ n ∧ n ≤ 8 := by
  unfold sizeE at h
  obtain ⟨h1, h⟩ := firstE_cons h
  obtain ⟨h2, h⟩ := firstE_cons h
  have h1 := whenE_zero h1 (by decide)
  have h2 := whenE_zero h2 (by decide)
  simp at h1 h2
  omega

theorem chkTab_zero {t : List Pt} (h : chkTab t = 0) : OkT t := by
  unfold chkTab at h
  split at h
  · exact absurd h ‹_›
  · rename_i h1
    have h1 := sizeE_zero (Classical.not_not.1 h1)
    refine ⟨by omega, by omega, ?_⟩
    cases t with
    | nil => simp at h1
    | cons p r =>
      unfold chkL at h
      split at h
      · exact absurd h ‹_›
      · rename_i h2
        obtain ⟨h3, h4⟩ := chkStep_zero (Classical.not_not.1 h2)
        exact ⟨p, r, rfl, h4 rfl, h3.1.2.2.1, h3.1.2.2.2, chkL_zero h⟩

theorem chkCell_zero {c : Cel} (h : chkCell c = 0) : OkC c := by
  unfold chkCell at h
  obtain ⟨h1, h⟩ := firstE_cons h
  obtain ⟨h2, h⟩ := firstE_cons h
  obtain ⟨h3, h⟩ := firstE_cons h
  have h2 := withE_zero h2
  have h3 := withE_zero h3
  exact ⟨chkTab_zero h1, h2.1, h2.2, h3.1, h3.2⟩

theorem firstE_mem {l : List Int} (h : firstE l = 0) : ∀ e ∈ l, e = 0 := by
  induction l with
  | nil => simp
  | cons a r ih =>
    obtain ⟨h1, h2⟩ := firstE_cons h
    intro e he
    rcases List.mem_cons.1 he with rfl | he
    · exact h1
    · exact ih h2 e he

def OkH (l : List Cel) : Prop := 1 ≤ l.length ∧ l.length ≤ 8 ∧ ∀ c ∈ l, OkC c
theorem countE_zero {n m : Int} (h : countE n m = 0) : n ≠ 0 ∧ n ≤ m := by
  unfold countE at h
  obtain ⟨h1, h⟩ := firstE_cons h
  obtain ⟨h2, h⟩ := firstE_cons h
  have h1 := whenE_zero h1 (by decide)
  have h2 := whenE_zero h2 (by decide)
  simp at h1 h2
  omega
theorem chkChain_zero {l : List Cel} (h : chkChain l = 0) : OkH l := by
  unfold chkChain at h
  split at h
  · exact absurd h ‹_›
  · rename_i h1
    have h1 := countE_zero (Classical.not_not.1 h1)
    exact ⟨by omega, by omega, fun c hc => chkCell_zero (firstE_mem h _ (List.mem_map_of_mem hc))⟩
def OkF (f : List (List Cel)) : Prop := 1 ≤ f.length ∧ f.length ≤ 6 ∧ ∀ l ∈ f, OkH l
theorem chkField_zero {f : List (List Cel)} (h : chkField f = 0) : OkF f := by
  unfold chkField at h
  split at h
  · exact absurd h ‹_›
  · rename_i h1
    have h1 := countE_zero (Classical.not_not.1 h1)
    exact ⟨by omega, by omega, fun c hc => chkChain_zero (firstE_mem h _ (List.mem_map_of_mem hc))⟩

/-! Currents. -/
def segI (a b : Pt) (v : Int) : Int := a.y + (b.y - a.y) * (v - a.x) / (b.x - a.x)
def curT : List Pt → Int → Int
  | a :: b :: r, v => if v < b.x then segI a b v else curT (b :: r) v
  | _, _ => 0
def curC (c : Cel) (v : Int) : Int := curT c.tb v * c.li / 1000
def lastX : List Pt → Int
  | [] => 0
  | [p] => p.x
  | _ :: r => lastX r

theorem segI_bd {a b : Pt} {v : Int} (h : okStep a b) (h1 : a.x ≤ v) (h2 : v ≤ b.x) : b.y ≤ segI a b v ∧ segI a b v ≤ a.y := by
  obtain ⟨_, hx, hy⟩ := h
  unfold segI
  have hd : 0 < b.x - a.x := by omega
  have e1 : (b.y - a.y) * (v - a.x) ≤ 0 := Int.mul_nonpos_of_nonpos_of_nonneg (by omega) (by omega)
  have e2 : (b.y - a.y) * (b.x - a.x) ≤ (b.y - a.y) * (v - a.x) := Int.mul_le_mul_of_nonpos_left (by omega) (by omega)
  have e3 : (b.y - a.y) * (v - a.x) / (b.x - a.x) ≤ 0 := by
    have := Int.ediv_le_ediv hd e1
    simpa using this
  have e4 : b.y - a.y ≤ (b.y - a.y) * (v - a.x) / (b.x - a.x) := by
    have := Int.ediv_le_ediv hd e2
    rwa [Int.mul_ediv_cancel _ (by omega)] at this
  omega
theorem segI_mono {a b : Pt} {v w : Int} (h : okStep a b) (h1 : v ≤ w) : segI a b w ≤ segI a b v := by
  obtain ⟨_, hx, hy⟩ := h
  unfold segI
  have hd : 0 < b.x - a.x := by omega
  have e2 : (b.y - a.y) * (w - a.x) ≤ (b.y - a.y) * (v - a.x) := Int.mul_le_mul_of_nonpos_left (by omega) (by omega)
  have := Int.ediv_le_ediv hd e2
  omega

theorem curT_bd : ∀ {r : List Pt} {b : Pt} {v : Int}, okL b r → 0 ≤ b.y → b.x ≤ v → 0 ≤ curT (b :: r) v ∧ curT (b :: r) v ≤ b.y
  | [], b, v, h, h0, _ => by simp [curT]; exact h0
  | p :: r, b, v, h, h0, hv => by
    unfold curT
    obtain ⟨h1, h2⟩ := h
    split
    · have := segI_bd h1 hv (by omega)
      have := h1.1.2.2.1
      omega
    · have := curT_bd h2 h1.1.2.2.1 (by omega : p.x ≤ v)
      have := h1.2.2
      omega
theorem curT_mono : ∀ {r : List Pt} {b : Pt} {v w : Int}, okL b r → 0 ≤ b.y → b.x ≤ v → v ≤ w → curT (b :: r) w ≤ curT (b :: r) v
  | [], b, v, w, h, h0, _, _ => by simp [curT]
  | p :: r, b, v, w, h, h0, hv, hw => by
    unfold curT
    obtain ⟨h1, h2⟩ := h
    by_cases c1 : v < p.x
    · rw [if_pos c1]
      by_cases c2 : w < p.x
      · rw [if_pos c2]; exact segI_mono h1 hw
      · rw [if_neg c2]
        have := segI_bd h1 hv (by omega)
        have := curT_bd h2 h1.1.2.2.1 (by omega : p.x ≤ w)
        omega
    · rw [if_neg c1, if_neg (by omega)]
      exact curT_mono h2 h1.1.2.2.1 (by omega) hw
theorem curT_last : ∀ {r : List Pt} {b : Pt} {v : Int}, lastX (b :: r) ≤ v → okL b r → curT (b :: r) v = 0
  | [], b, v, _, _ => rfl
  | p :: r, b, v, h, hl => by
    have h' : lastX (p :: r) ≤ v := h
    have hp : ∀ {r : List Pt} {p : Pt}, okL p r → p.x ≤ lastX (p :: r) := by
      intro r
      induction r with
      | nil => intro p _; exact Int.le_refl _
      | cons q r ih =>
        intro p hq
        have h1 := ih hq.2
        have h2 := hq.1.2.1
        have h3 : lastX (p :: q :: r) = lastX (q :: r) := rfl
        omega
    have := hp hl.2
    unfold curT
    rw [if_neg (by omega)]
    exact curT_last h' hl.2
theorem okL_zero : ∀ {r : List Pt} {b : Pt} {v : Int}, okL b r → b.y = 0 → b.x ≤ v → curT (b :: r) v = 0 := fun h h0 hv => by
  have := curT_bd h (by omega) hv
  omega
theorem OkT.cur_bd {t : List Pt} (h : OkT t) {v : Int} (hv : 0 ≤ v) : 0 ≤ curT t v ∧ curT t v ≤ 200 := by
  obtain ⟨_, _, p, r, rfl, h1, h2, h3, h4⟩ := h
  have := curT_bd h4 h2 (by omega : p.x ≤ v)
  omega
theorem OkT.cur_mono {t : List Pt} (h : OkT t) {v w : Int} (hv : 0 ≤ v) (hw : v ≤ w) : curT t w ≤ curT t v := by
  obtain ⟨_, _, p, r, rfl, h1, h2, h3, h4⟩ := h
  exact curT_mono h4 h2 (by omega) hw
theorem OkT.cur_last {t : List Pt} (h : OkT t) {v : Int} (hv : lastX t ≤ v) : curT t v = 0 := by
  obtain ⟨_, _, p, r, rfl, h1, h2, h3, h4⟩ := h
  exact curT_last hv h4
theorem lastX_bd : ∀ {r : List Pt} {p : Pt}, okL p r → p.x ≤ 100 → p.x ≤ lastX (p :: r) ∧ lastX (p :: r) ≤ 100
  | [], p, _, h => ⟨Int.le_refl _, h⟩
  | q :: r, p, hq, h => by
    have h1 := lastX_bd hq.2 hq.1.1.2.1
    have h2 := hq.1.2.1
    have h3 : lastX (p :: q :: r) = lastX (q :: r) := rfl
    omega
theorem OkT.last_bd {t : List Pt} (h : OkT t) : 1 ≤ lastX t ∧ lastX t ≤ 100 := by
  obtain ⟨h0, _, p, r, rfl, h1, h2, h3, h4⟩ := h
  cases r with
  | nil => simp at h0
  | cons q r =>
    have := lastX_bd h4.2 h4.1.1.2.1
    have h5 := h4.1.2.1
    have h6 : lastX (p :: q :: r) = lastX (q :: r) := rfl
    omega
theorem lastX_getD : ∀ (t : List Pt), t ≠ [] → lastX t = (t.getD (t.length - 1) P0).x
  | [], h => absurd rfl h
  | [p], _ => rfl
  | p :: q :: r, _ => by
    have := lastX_getD (q :: r) (by simp)
    show lastX (q :: r) = _
    rw [this]; simp

theorem OkC.cur_bd {c : Cel} (h : OkC c) {v : Int} (hv : 0 ≤ v) : 0 ≤ curC c v ∧ curC c v ≤ 200 := by
  obtain ⟨h1, h2, h3, h4, h5⟩ := h
  have hb := h1.cur_bd hv
  unfold curC
  have e1 : 0 ≤ curT c.tb v * c.li := Int.mul_nonneg hb.1 h2
  have e2 : curT c.tb v * c.li ≤ 200 * 1000 := Int.mul_le_mul hb.2 h3 h2 (by omega)
  generalize curT c.tb v * c.li = z at *
  omega
theorem OkC.cur_mono {c : Cel} (h : OkC c) {v w : Int} (hv : 0 ≤ v) (hw : v ≤ w) : curC c w ≤ curC c v := by
  obtain ⟨h1, h2, h3, h4, h5⟩ := h
  have hb := h1.cur_mono hv hw
  unfold curC
  have := Int.mul_le_mul_of_nonneg_right hb h2
  exact Int.ediv_le_ediv (by omega) this
theorem OkC.cur_last {c : Cel} (h : OkC c) {v : Int} (hv : lastX c.tb ≤ v) : curC c v = 0 := by
  unfold curC; rw [h.1.cur_last hv]; simp

/-- The voltage at a current, searched below so many volts. -/
def vDown (c : Cel) (n : Int) : Nat → Int × Bool
  | 0 => (-c.dr, false)
  | j + 1 => if n ≤ curC c (j : Int) then ((j : Int), true) else vDown c n j
def voltC (c : Cel) (n : Int) : Int × Bool := vDown c n ((lastX c.tb).toNat + 1)
theorem vDown_bd (c : Cel) (n : Int) : ∀ j, (0 ≤ (vDown c n j).1 ∧ (vDown c n j).1 < j) ∨ (vDown c n j).1 = -c.dr
  | 0 => .inr rfl
  | j + 1 => by
    unfold vDown
    split
    · left; simp; omega
    · rcases vDown_bd c n j with h | h
      · left; omega
      · exact .inr h
theorem OkC.volt_bd {c : Cel} (h : OkC c) (n : Int) : -10 ≤ (voltC c n).1 ∧ (voltC c n).1 ≤ 100 := by
  have h1 := h.1.last_bd
  have h2 := h.2.2.2
  have := vDown_bd c n ((lastX c.tb).toNat + 1)
  unfold voltC
  omega
def sumI (l : List Int) : Int := l.foldr (· + ·) 0
theorem sumI_append (a b : List Int) : sumI (a ++ b) = sumI a + sumI b := by
  induction a with
  | nil => simp [sumI]
  | cons x r ih => simp only [sumI, List.cons_append, List.foldr_cons] at ih ⊢; omega
theorem sumI_one (a : Int) : sumI [a] = a := by simp [sumI]
theorem sumI_bd {l : List Int} {A B : Int} (h : ∀ x ∈ l, A ≤ x ∧ x ≤ B) : l.length * A ≤ sumI l ∧ sumI l ≤ l.length * B := by
  induction l with
  | nil => simp [sumI]
  | cons x r ih =>
    have h1 := ih (fun y hy => h y (List.mem_cons_of_mem _ hy))
    have h2 := h x (List.mem_cons_self ..)
    have e : sumI (x :: r) = x + sumI r := rfl
    simp only [List.length_cons, Int.natCast_add, Int.add_mul]
    omega
def chV (l : List Cel) (n : Int) : Int := sumI (l.map fun c => (voltC c n).1)
def chVi (l : List Cel) (n : Int) (i : Nat) : Int := sumI ((l.take i).map fun c => (voltC c n).1)
theorem chVi_succ (l : List Cel) (n : Int) (i : Nat) (h : i < l.length) : chVi l n (i + 1) = chVi l n i + (voltC (l.getD i C0) n).1 := by
  unfold chVi; rw [take_map_succ _ l i C0 h, sumI_append, sumI_one]
theorem chVi_all (l : List Cel) (n : Int) : chVi l n l.length = chV l n := by unfold chVi chV; rw [List.take_length]
theorem chVi_bd {l : List Cel} (h : OkH l) (n : Int) (i : Nat) : -80 ≤ chVi l n i ∧ chVi l n i ≤ 800 := by
  have h1 := sumI_bd (l := (l.take i).map fun c => (voltC c n).1) (A := -10) (B := 100) (fun x hx => by
    obtain ⟨c, hc, rfl⟩ := List.mem_map.1 hx
    exact (h.2.2 c (List.mem_of_mem_take hc)).volt_bd n)
  have h2 : ((l.take i).map fun c => (voltC c n).1).length ≤ 8 := by have := h.2.1; simp; omega
  unfold chVi
  omega
theorem chV_bd {l : List Cel} (h : OkH l) (n : Int) : -80 ≤ chV l n ∧ chV l n ≤ 800 := by rw [← chVi_all]; exact chVi_bd h n _
def byp (l : List Cel) (n : Int) (k : Nat) : List Int := ((List.range k).filter fun i => !(voltC (l.getD i C0) n).2).map fun i : Nat => (i : Int)
theorem byp_succ (l : List Cel) (n : Int) (k : Nat) : byp l n (k + 1) = byp l n k ++ if (voltC (l.getD k C0) n).2 then [] else [(k : Int)] := by
  unfold byp
  rw [List.range_succ, List.filter_append, List.map_append]
  simp only [List.filter_cons, List.filter_nil]
  cases (voltC (l.getD k C0) n).2 <;> rfl
theorem byp_len (l : List Cel) (n : Int) (k : Nat) : (byp l n k).length ≤ k := by
  unfold byp; rw [List.length_map]
  have := List.length_filter_le (fun i => !(voltC (l.getD i C0) n).2) (List.range k)
  rwa [List.length_range] at this
theorem floor_div {n d : Int} (hd : 0 < d) (h1 : -1000000000 ≤ n) (h2 : n ≤ 1000000000) (h3 : d ≤ 1000000000) : floorW n d = n / d := by
  have e0 := Int.mul_tdiv_add_tmod n d
  have hq : -1000000000 ≤ n.tdiv d ∧ n.tdiv d ≤ 1000000000 := by
    have := Int.natAbs_tdiv_le_natAbs n d
    omega
  have w1 : W (n.tdiv d) = n.tdiv d := W_in (by omega) (by omega)
  have hm : n.tdiv d * d = n - n.tmod d := by rw [Int.mul_comm]; omega
  have hr : -d < n.tmod d ∧ n.tmod d < d := by
    rcases Int.le_total 0 n with h | h
    · have := Int.tmod_nonneg d h; have := Int.tmod_lt_of_pos n hd; omega
    · have e := Int.neg_tmod (-n) d
      rw [Int.neg_neg] at e
      have := Int.tmod_nonneg d (by omega : 0 ≤ -n); have := Int.tmod_lt_of_pos (-n) hd; omega
  have w2 : W (W (n.tdiv d) * d) = n.tdiv d * d := by rw [w1]; exact W_in (by omega) (by omega)
  unfold floorW
  rw [w2, w1, hm]
  split
  · have hn : n.tmod d < 0 := by omega
    rw [W_in (by omega) (by omega)]
    have e2 : n / d = (n.tdiv d - 1) := by
      rw [Int.ediv_eq_iff_of_pos hd, Int.sub_mul]
      omega
    omega
  · have hn : 0 ≤ n.tmod d := by omega
    have e2 : n / d = n.tdiv d := by
      rw [Int.ediv_eq_iff_of_pos hd]
      omega
    omega
end Sh

/-! Small functions. -/
namespace Sh
open Go Go.Proofs
def GC : Nat → Option DV := fun g => if g = 0 then some (.agg [.str [115, 97, 109, 101], .func 114 [], .str [109, 111, 114, 101], .func 116 [], .str [111, 112, 101, 110], .func 117 [], .str [100, 97, 114, 107], .func 118 [], .str [98, 121, 112, 97, 115, 115, 101, 100], .func 119 []]) else if g = 2 then some (.agg (Lib.pow10Tab.map (DV.int .u64))) else none
abbrev PC := PureCall Tryd.prog GC
def iL (l : List Int) : DV := .list (l.map (DV.int .i64))
def encPt (p : Pt) : DV := .agg [DV.int .i64 (p.x), DV.int .i64 (p.y)]
def tbl (t : List Pt) : DV := .list (t.map encPt)
def encC (c : Cel) : DV := .agg [tbl c.tb, DV.int .i64 (c.li), DV.int .i64 (c.dr)]
def chn (l : List Cel) : DV := .list (l.map encC)
def fld (f : List (List Cel)) : DV := .list (f.map chn)
theorem c_when (b : Bool) (e : Int) : PC 30 [.bool b, DV.int .i64 (e)] (DV.int .i64 (whenE b e)) := by
  refine pureCall_ofR dh30 rfl ?_
  conv => whnf
  refine ⟨fun hb => ?_, fun hb => ?_⟩ <;> try (exact absurd hb (by decide))
  all_goals conv => whnf
  all_goals subst hb; rfl
theorem q_When (b : Bool) (e : Int) : PC 34 [.bool b, DV.int .i64 (e)] (DV.int .i64 (whenE b e)) := by
  refine pureCall_ofR dh34 rfl ?_
  conv => whnf
  refine ⟨fun hb => ?_, fun hb => ?_⟩ <;> try (exact absurd hb (by decide))
  all_goals conv => whnf
  all_goals subst hb; rfl
theorem c_within (n l h : Int) : PC 51 [DV.int .i64 (n), DV.int .i64 (l), DV.int .i64 (h)] (DV.int .i64 (withE n l h)) := by
  refine pureCall_ofR dh51 rfl ?_
  conv => whnf
  refine ⟨fun hb => ?_, fun hb => ?_⟩ <;> try (exact absurd hb (by decide))
  all_goals conv => whnf
  · refine .inl ?_
    conv => whnf
    refine ⟨_, c_when .., ?_⟩
    conv => whnf
    exact int_eq (by simp_all [withE, whenE]; split <;> split <;> omega)
  · refine .inl ?_
    conv => whnf
    refine ⟨_, c_when .., ?_⟩
    conv => whnf
    exact int_eq (by simp_all [withE, whenE])
theorem q_CheckRange (n l h : Int) : PC 58 [DV.int .i64 (n), DV.int .i64 (l), DV.int .i64 (h)] (DV.int .i64 (withE n l h)) := by
  refine pureCall_ofR dh58 rfl ?_
  conv => whnf
  refine ⟨fun hb => ?_, fun hb => ?_⟩ <;> try (exact absurd hb (by decide))
  all_goals conv => whnf
  · refine .inl ?_
    conv => whnf
    refine ⟨_, q_When .., ?_⟩
    conv => whnf
    exact int_eq (by simp_all [withE, whenE]; split <;> split <;> omega)
  · refine .inl ?_
    conv => whnf
    refine ⟨_, q_When .., ?_⟩
    conv => whnf
    exact int_eq (by simp_all [withE, whenE])
theorem c_first (l : List Int) (hl : l.length < 4611686018427387904) : PC 27 [iL l] (DV.int .i64 (firstE l)) := by
  refine pureCall_ofR dh27 rfl ?_
  conv => whnf
  refine dwp_loopR (P := Tryd.prog) (G := GC) (k := dk27_0) (b := db27_0) (α := Nat) (fun i => [(5, iL l), (6, .int .i64 (l.map (DV.int .i64)).length), (7, .int .i64 i)]) (fun _ => []) (fun i => i ≤ l.length ∧ firstE l = firstE (l.drop i)) (fun i => l.length - i) 0 ⟨rfl, rfl, rfl⟩ ⟨Nat.zero_le _, rfl⟩ ?_
  intro i ⟨h1, h2⟩
  conv => whnf
  refine ⟨fun hb => ?_, fun hb => ?_⟩ <;> try (exact absurd hb (by decide))
  · have hi : i < l.length := by simpa using hb
    have hd := firstE_drop l i hi
    conv => whnf
    rw [getD_enc _ _ (i) 0 hi]
    refine ⟨idxA hi rfl, ?_⟩
    conv => whnf
    refine ⟨fun hb => ?_, fun hb => ?_⟩ <;> try (exact absurd hb (by decide))
    · conv => whnf
      exact int_eq (by simp_all)
    · conv => whnf
      rw [wrap_succ i (by omega)]
      exact ⟨i + 1, rfl, rfl, rfl, ⟨hi, by simp_all⟩, by omega⟩
  · conv => whnf
    have : i = l.length := by simp at hb; omega
    subst this
    exact int_eq (by rw [h2]; simp [firstE])
theorem q_First (l : List Int) (hl : l.length < 4611686018427387904) : PC 33 [iL l] (DV.int .i64 (firstE l)) := by
  refine pureCall_ofR dh33 rfl ?_
  conv => whnf
  refine dwp_loopR (P := Tryd.prog) (G := GC) (k := dk33_0) (b := db33_0) (α := Nat) (fun i => [(0, iL l), (3, DV.int .i64 (i))]) (fun _ => []) (fun i => i ≤ l.length ∧ firstE l = firstE (l.drop i)) (fun i => l.length - i) 0 ⟨rfl, rfl, rfl⟩ ⟨Nat.zero_le _, rfl⟩ ?_
  intro i ⟨h1, h2⟩
  conv => whnf
  refine ⟨fun hb => ?_, fun hb => ?_⟩ <;> try (exact absurd hb (by decide))
  · have hi : i < l.length := by simpa using hb
    have hd := firstE_drop l i hi
    conv => whnf
    rw [getD_enc _ _ (i) 0 hi]
    refine ⟨idxA hi rfl, ?_⟩
    conv => whnf
    refine ⟨fun hb => ?_, fun hb => ?_⟩ <;> try (exact absurd hb (by decide))
    · conv => whnf
      rw [getD_enc _ _ (i) 0 hi]
      refine ⟨idxA hi rfl, ?_⟩
      conv => whnf
      exact int_eq (by simp_all)
    · conv => whnf
      rw [wrap_succ i (by omega)]
      exact ⟨i + 1, rfl, rfl, rfl, ⟨hi, by simp_all⟩, by omega⟩
  · conv => whnf
    have : i = l.length := by simp at hb; omega
    subst this
    exact int_eq (by rw [h2]; simp [firstE])
theorem c_counted (n m : Int) : PC 28 [DV.int .i64 (n), DV.int .i64 (m)] (DV.int .i64 (countE n m)) := by
  refine pureCall_ofR dh28 rfl ?_
  conv => whnf
  refine .inl ?_
  conv => whnf
  refine ⟨_, c_when .., ?_⟩
  conv => whnf
  refine .inl ?_
  conv => whnf
  refine ⟨_, c_when .., ?_⟩
  conv => whnf
  refine .inl ?_
  conv => whnf
  refine ⟨_, c_first [_, _] (by simp), ?_⟩
  conv => whnf
  rfl
theorem c_floor (n d : Int) (h : d ≠ 0) : PC 77 [DV.int .i64 (n), DV.int .i64 (d)] (DV.int .i64 (floorW n d)) := by
  refine pureCall_ofR dh77 rfl ?_
  conv => whnf
  refine ⟨h, ?_⟩
  conv => whnf
  refine ⟨fun hb => ?_, fun hb => ?_⟩ <;> try (exact absurd hb (by decide))
  · conv => whnf
    have hb := of_decide_eq_true hb
    exact int_eq (by simp only [wrap_W] at hb ⊢; rw [floorW, if_pos hb])
  · conv => whnf
    have hb := of_decide_eq_false hb
    exact int_eq (by simp only [wrap_W] at hb ⊢; rw [floorW, if_neg hb])
theorem c_checkVolt (n : Int) : PC 37 [DV.int .i64 (n)] (DV.int .i64 (withE n 0 800)) := by
  refine pureCall_ofR dh37 rfl ?_
  conv => whnf
  refine .inl ?_
  conv => whnf
  refine ⟨_, c_within .., ?_⟩
  conv => whnf
  rfl
theorem c_checkAmp (n : Int) : PC 40 [DV.int .i64 (n)] (DV.int .i64 (withE n 0 200)) := by
  refine pureCall_ofR dh40 rfl ?_
  conv => whnf
  refine .inl ?_
  conv => whnf
  refine ⟨_, c_within .., ?_⟩
  conv => whnf
  rfl
end Sh

/-! Tables and cells: the checks. -/
set_option maxRecDepth 100000
set_option linter.unusedSimpArgs false
set_option linter.unusedVariables false
namespace Sh
open Go Go.Proofs
theorem c_CheckTable (t : List Pt) (hl : t.length < 1073741824) : PC 59 [tbl t] (DV.int .i64 (chkTab t)) := by
  have e0 : ((t.map encPt).length : Int) = t.length := by simp
  refine pureCall_ofR dh59 rfl ?_
  conv => whnf
  refine .inl ?_
  conv => whnf
  refine ⟨_, c_when .., ?_⟩
  conv => whnf
  refine .inl ?_
  conv => whnf
  refine ⟨_, c_when .., ?_⟩
  conv => whnf
  refine .inl ?_
  conv => whnf
  refine ⟨_, c_first [_, _] (by simp), ?_⟩
  conv => whnf
  refine ⟨fun hb => ?_, fun hb => ?_⟩ <;> try (exact absurd hb (by decide))
  · have hb := of_decide_eq_true hb
    conv => whnf
    exact int_eq (by rw [e0] at hb ⊢; unfold chkTab sizeE; rw [if_pos hb])
  · have hb0 := of_decide_eq_false hb
    clear hb
    conv => whnf
    refine dwp_loopR (P := Tryd.prog) (G := GC) (k := dk59_0) (b := db59_0) (α := Nat) (fun i => [(4, .bptr 4 0), (22, tbl t), (23, .int .i64 (t.map encPt).length), (24, .int .i64 i)]) (fun i => [(4, .box 2 (encPt (befP t i)))]) (fun i => i ≤ t.length ∧ chkL true ⟨-1, 200⟩ t = chkL (decide (i = 0)) (befP t i) (t.drop i)) (fun i => t.length - i) 0 ⟨rfl, rfl, rfl⟩ ⟨Nat.zero_le _, rfl⟩ ?_
    intro i ⟨h1, h2⟩
    conv => whnf
    refine ⟨fun hb => ?_, fun hb => ?_⟩
    · have hi : i < t.length := by simpa using hb
      conv => whnf
      rw [getD_enc _ _ (i) P0 hi]
      refine ⟨idxA hi rfl, ?_⟩
      conv => whnf
      repeat' (first
        | (refine ⟨fun hg => ?_, fun hg => ?_⟩ <;> first | contradiction | (conv => whnf))
        | (refine Or.inl ?_; conv => whnf)
        | (refine ⟨_, c_within .., ?_⟩; conv => whnf)
        | (refine ⟨_, c_when .., ?_⟩; conv => whnf)
        | (refine ⟨_, c_first [_, _, _] (by simp), ?_⟩; conv => whnf)
        | (refine And.intro ?_ ?_; kernel_rfl; conv => whnf))
      all_goals have hs : chkL true ⟨-1, 200⟩ t = if chkStep (decide (i = 0)) (befP t i) (t.getD i P0) ≠ 0 then chkStep (decide (i = 0)) (befP t i) (t.getD i P0) else chkL false (t.getD i P0) (t.drop (i + 1)) := by rw [h2, drop_getD t i P0 hi]; rfl
      all_goals have hk : chkTab t = chkL true ⟨-1, 200⟩ t := by unfold chkTab sizeE; rw [e0] at hb0; rw [if_neg hb0]
      all_goals (try rw [wrap_succ i (by omega)])
      all_goals first
        | (refine ⟨i + 1, rfl, rfl, rfl, ⟨hi, ?_⟩, Nat.sub_lt_sub_left hi (Nat.lt_succ_self i)⟩; rw [hs]; clear hk hs h2 hb0 e0 hb h1 hl; simp only [Bool.cond_true, Bool.cond_false, Bool.not_false, Bool.not_true, decide_true, Bool.and_true, Int.natCast_eq_zero] at *; grind [chkStep, befP])
        | (refine int_eq ?_; rw [hk, hs]; clear hk hs h2 hb0 e0 hb h1 hl; simp only [Bool.cond_true, Bool.cond_false, Bool.not_false, Bool.not_true, decide_true, Bool.and_true, Int.natCast_eq_zero] at *; grind [chkStep])
    · have hi : i = t.length := by have := of_decide_eq_false hb; rw [e0] at this; omega
      have hk : chkTab t = chkL true ⟨-1, 200⟩ t := by unfold chkTab sizeE; rw [e0] at hb0; rw [if_neg hb0]
      rw [hk, h2, hi, List.drop_length]
      conv => whnf
      refine .inl ?_
      conv => whnf
      refine ⟨_, c_when .., ?_⟩
      conv => whnf
      rfl
theorem curT_drop (t : List Pt) (i : Nat) (v : Int) (h : i + 1 < t.length) : curT (t.drop i) v = if v < (t.getD (i + 1) P0).x then segI (t.getD i P0) (t.getD (i + 1) P0) v else curT (t.drop (i + 1)) v := by
  rw [drop_getD t i P0 (by omega), drop_getD t (i + 1) P0 h]; rfl
theorem okL_drop : ∀ {t : List Pt} {i : Nat}, (∃ p r, t = p :: r ∧ 0 ≤ p.x ∧ p.x ≤ 100 ∧ 0 ≤ p.y ∧ p.y ≤ 200 ∧ okL p r) → i < t.length → ∃ p r, t.drop i = p :: r ∧ 0 ≤ p.x ∧ p.x ≤ 100 ∧ 0 ≤ p.y ∧ p.y ≤ 200 ∧ okL p r
  | t, 0, h, _ => h
  | t, i + 1, h, hi => by
    obtain ⟨p, r, rfl, h1, h2, h3, h4, h5⟩ := h
    cases r with
    | nil => simp at hi
    | cons q r =>
      have := h5.1.1
      exact okL_drop (t := q :: r) (i := i) ⟨q, r, rfl, this.1, this.2.1, this.2.2.1, this.2.2.2, h5.2⟩ (by simpa using hi)
theorem OkT.at {t : List Pt} (h : OkT t) {i : Nat} (hi : i < t.length) : 0 ≤ (t.getD i P0).x ∧ (t.getD i P0).x ≤ 100 ∧ 0 ≤ (t.getD i P0).y ∧ (t.getD i P0).y ≤ 200 ∧ okL (t.getD i P0) (t.drop (i + 1)) := by
  obtain ⟨_, _, p, r, e, h1, h2, h3, h4⟩ := h
  obtain ⟨q, s, e2, g1, g2, g3, g4, g5⟩ := okL_drop (t := t) (i := i) ⟨p, r, e, by omega, by omega, h2, h3, h4⟩ hi
  rw [drop_getD t i P0 hi] at e2
  cases e2
  exact ⟨g1, g2, g3, g4, g5⟩
theorem OkT.step {t : List Pt} (h : OkT t) {i : Nat} (hi : i + 1 < t.length) : okStep (t.getD i P0) (t.getD (i + 1) P0) := by
  have := (h.at (i := i) (by omega)).2.2.2.2
  rw [drop_getD t (i + 1) P0 hi] at this
  exact this.1
theorem seg_floor {a b : Pt} {v : Int} (ha : 0 ≤ a.x ∧ a.x ≤ 100 ∧ 0 ≤ a.y ∧ a.y ≤ 200) (hs : okStep a b) (h0 : 0 ≤ v) (h1 : v ≤ 1000) :
    W (a.y + floorW (W (W (b.y - a.y) * W (v - a.x))) (W (b.x - a.x))) = segI a b v := by
  have hb := hs.1
  have hs2 := hs.2
  have m := mul_bd (a := b.y - a.y) (b := v - a.x) (A := 200) (B := 1000) (by omega) (by omega) (by omega) (by omega)
  have e1 : W (b.y - a.y) = b.y - a.y := W_in (by omega) (by omega)
  have e2 : W (v - a.x) = v - a.x := W_in (by omega) (by omega)
  have e3 : W (b.x - a.x) = b.x - a.x := W_in (by omega) (by omega)
  have e4 : W ((b.y - a.y) * (v - a.x)) = (b.y - a.y) * (v - a.x) := W_in (by omega) (by omega)
  rw [e1, e2, e3, e4, floor_div (by omega) (by omega) (by omega) (by omega)]
  have d1 : (b.y - a.y) * (v - a.x) / (b.x - a.x) ≤ 200000 := by
    have := Int.ediv_le_ediv (c := b.x - a.x) (by omega) (show (b.y - a.y) * (v - a.x) ≤ 200000 * (b.x - a.x) by omega)
    rwa [Int.mul_ediv_cancel _ (by omega)] at this
  have d2 : -200000 ≤ (b.y - a.y) * (v - a.x) / (b.x - a.x) := by
    have := Int.ediv_le_ediv (c := b.x - a.x) (by omega) (show -200000 * (b.x - a.x) ≤ (b.y - a.y) * (v - a.x) by omega)
    rwa [Int.mul_ediv_cancel _ (by omega)] at this
  rw [W_in (by omega) (by omega)]; rfl
theorem c_Table_current (t : List Pt) (v : Int) (h : OkT t) (h0 : 0 ≤ v) (h1 : v ≤ 1000) : PC 60 [tbl t, DV.int .i64 (v)] (DV.int .i64 (curT t v)) := by
  have e0 : ((t.map encPt).length : Int) = t.length := by simp
  have hlen := h.2.1
  have hlen2 := h.1
  refine pureCall_ofR dh60 rfl ?_
  conv => whnf
  refine dwp_loopR (P := Tryd.prog) (G := GC) (k := dk60_0) (b := db60_0) (α := Nat) (fun i => [(0, tbl t), (1, DV.int .i64 (v)), (5, .int .i64 ((i + 1 : Nat) : Int))]) (fun _ => []) (fun i => i + 1 ≤ t.length ∧ (t.getD i P0).x ≤ v ∧ curT t v = curT (t.drop i) v) (fun i => t.length - i) 0 ⟨rfl, rfl, rfl⟩ ⟨by omega, ?_, rfl⟩ ?_
  · obtain ⟨p, r, rfl, q1, _⟩ := h.2.2
    show p.x ≤ v
    omega
  intro i ⟨h2, h3, h4⟩
  conv => whnf
  refine ⟨fun hb => ?_, fun hb => ?_⟩
  · have hi : i + 1 < t.length := by have := of_decide_eq_true hb; rw [e0] at this; omega
    have hst := h.step hi
    have hat := h.at (i := i) (by omega)
    have hat2 := h.at hi
    have hcd := curT_drop t i v hi
    conv => whnf
    rw [show IntKind.i64.wrap (((i + 1 : Nat) : Int) - 1) = (i : Int) by rw [wrap_W, W_in (by omega) (by omega)]; omega]
    rw [getD_enc _ _ (i) P0 (by omega : i < t.length)]
    refine ⟨idxA (by omega : i < t.length) rfl, ?_⟩
    conv => whnf
    rw [getD_enc _ _ (i + 1) P0 hi]
    refine ⟨idxA hi rfl, ?_⟩
    conv => whnf
    refine ⟨by kernel_rfl, ?_⟩
    conv => whnf
    refine ⟨fun hg => ?_, fun hg => ?_⟩
    · have hz : (t.getD i P0).y = 0 := by simp at hg; exact hg.1
      conv => whnf
      exact int_eq (by rw [h4, drop_getD t i P0 (by omega)]; exact (okL_zero hat.2.2.2.2 hz h3).symm)
    · clear hg
      conv => whnf
      refine ⟨fun hg => ?_, fun hg => ?_⟩
      · have hv := of_decide_eq_true hg
        have hd : W ((t.getD (i + 1) P0).x - (t.getD i P0).x) ≠ 0 := by have := hst.2.1; rw [W_in (by omega) (by omega)]; omega
        conv => whnf
        refine .inl ?_
        conv => whnf
        refine ⟨_, c_floor _ _ hd, ?_⟩
        conv => whnf
        repeat' (first
          | (refine ⟨fun hg => ?_, fun hg => ?_⟩ <;> first | contradiction | (conv => whnf))
          | (refine Or.inl ?_; conv => whnf)
          | (refine And.intro ?_ ?_; kernel_rfl; conv => whnf))
        exact int_eq (by rw [h4, hcd, if_pos hv]; exact seg_floor ⟨hat.1, hat.2.1, hat.2.2.1, hat.2.2.2.1⟩ hst h0 h1)
      · have hv := of_decide_eq_false hg
        conv => whnf
        rw [show ((i + 1 : Nat) : Int) = (((i + 1) : Nat) : Int) from rfl, wrap_succ (i + 1) (by omega)]
        exact ⟨i + 1, rfl, rfl, rfl, ⟨hi, by omega, by rw [h4, hcd, if_neg hv]⟩, by omega⟩
  · have hi : i + 1 = t.length := by have := of_decide_eq_false hb; rw [e0] at this; omega
    conv => whnf
    exact int_eq (by rw [h4, drop_getD t i P0 (by omega), hi, List.drop_length]; rfl)
end Sh

/-! Cells. -/
set_option maxRecDepth 100000
set_option linter.unusedSimpArgs false
set_option linter.unusedVariables false
namespace Sh
open Go Go.Proofs
theorem c_Table_last (t : List Pt) (h : OkT t) : PC 61 [tbl t] (DV.int .i64 (lastX t)) := by
  have e0 : ((t.map encPt).length : Int) = t.length := by simp
  have hlen := h.2.1
  have hlen2 := h.1
  refine pureCall_ofR dh61 rfl ?_
  conv => whnf
  rw [e0, wrap_pred t.length (by omega) (by omega), getD_enc _ _ (t.length - 1) P0 (by omega)]
  refine ⟨⟨by omega, by omega, rfl⟩, ?_⟩
  conv => whnf
  exact int_eq (lastX_getD t (by intro e; rw [e] at hlen2; simp at hlen2)).symm
theorem OkC.prod {c : Cel} (h : OkC c) {v : Int} (h0 : 0 ≤ v) : 0 ≤ curT c.tb v * c.li ∧ curT c.tb v * c.li ≤ 200000 := by
  have hb := h.1.cur_bd h0
  exact ⟨Int.mul_nonneg hb.1 h.2.1, Int.mul_le_mul hb.2 h.2.2.1 h.2.1 (by omega)⟩
theorem c_Cell_current (c : Cel) (v : Int) (h : OkC c) (h0 : 0 ≤ v) (h1 : v ≤ 1000) : PC 38 [encC c, DV.int .i64 (v)] (DV.int .i64 (curC c v)) := by
  have hp := h.prod h0
  refine pureCall_ofR dh38 rfl ?_
  conv => whnf
  repeat' (first
    | (refine ⟨fun hg => ?_, fun hg => ?_⟩ <;> first | contradiction | (conv => whnf))
    | (refine Or.inl ?_; conv => whnf)
    | (refine ⟨_, c_Table_current _ _ h.1 h0 h1, ?_⟩; conv => whnf)
    | (refine And.intro ?_ ?_; kernel_rfl; conv => whnf))
  refine ⟨by decide, ?_⟩
  conv => whnf
  repeat' (first
    | (refine ⟨fun hg => ?_, fun hg => ?_⟩ <;> first | contradiction | (conv => whnf))
    | (refine Or.inl ?_; conv => whnf)
    | (refine And.intro ?_ ?_; kernel_rfl; conv => whnf))
  have e1 : IntKind.i64.wrap (curT c.tb v * c.li) = curT c.tb v * c.li := W_in (by omega) (by omega)
  have e2 : (curT c.tb v * c.li).tdiv 1000 = curT c.tb v * c.li / 1000 := Int.tdiv_eq_ediv_of_nonneg hp.1
  exact int_eq (by rw [e1, e2, wrap_W, W_in (by omega) (by omega)]; rfl)
theorem OkC.len {c : Cel} (h : OkC c) : c.tb.length ≤ 8 := h.1.2.1
theorem c_CheckCell (c : Cel) (hl : c.tb.length < 1073741824) : PC 36 [encC c] (DV.int .i64 (chkCell c)) := by
  refine pureCall_ofR dh36 rfl ?_
  conv => whnf
  repeat' (first
    | (refine ⟨fun hg => ?_, fun hg => ?_⟩ <;> first | contradiction | (conv => whnf))
    | (refine Or.inl ?_; conv => whnf)
    | (refine ⟨_, c_CheckTable _ hl, ?_⟩; conv => whnf)
    | (refine ⟨_, c_within .., ?_⟩; conv => whnf)
    | (refine ⟨_, c_first [_, _, _] (by simp), ?_⟩; conv => whnf)
    | (refine And.intro ?_ ?_; kernel_rfl; conv => whnf))
  rfl
def encVB (p : Int × Bool) : DV := .tuple [DV.int .i64 (p.1), .bool p.2]
theorem c_Cell_volt (c : Cel) (n : Int) (h : OkC c) : PC 41 [encC c, DV.int .i64 (n)] (encVB (voltC c n)) := by
  have hb := h.1.last_bd
  refine pureCall_ofR dh41 rfl ?_
  conv => whnf
  repeat' (first
    | (refine ⟨fun hg => ?_, fun hg => ?_⟩ <;> first | contradiction | (conv => whnf))
    | (refine Or.inl ?_; conv => whnf)
    | (refine ⟨_, c_Table_last _ h.1, ?_⟩; conv => whnf)
    | (refine And.intro ?_ ?_; kernel_rfl; conv => whnf))
  refine dwp_loopR (P := Tryd.prog) (G := GC) (k := dk41_0) (b := db41_0) (α := Nat) (fun j => [(1, DV.int .i64 (n)), (2, .bptr 2 0), (6, DV.int .i64 ((j : Int) - 1))]) (fun _ => [(2, .box 3 (encC c))]) (fun j => j ≤ 101 ∧ voltC c n = vDown c n j) (fun j => j) ((lastX c.tb).toNat + 1) ⟨rfl, ?_, rfl⟩ ⟨by omega, rfl⟩ ?_
  · show [(1, DV.int .i64 n), (2, DV.bptr 2 0), (6, DV.int .i64 (lastX c.tb))] = _
    rw [show (((lastX c.tb).toNat + 1 : Nat) : Int) - 1 = lastX c.tb by omega]
  intro j ⟨h1, h2⟩
  conv => whnf
  refine ⟨fun hb => ?_, fun hb => ?_⟩
  · have hj := of_decide_eq_true hb
    obtain ⟨k, rfl⟩ : ∃ k, j = k + 1 := ⟨j - 1, by omega⟩
    have e1 : ((k + 1 : Nat) : Int) - 1 = k := by omega
    rw [e1]
    conv => whnf
    repeat' (first
      | (refine ⟨fun hg => ?_, fun hg => ?_⟩ <;> first | contradiction | (conv => whnf))
      | (refine Or.inl ?_; conv => whnf)
      | (refine ⟨_, c_Cell_current _ _ h (by omega) (by omega), ?_⟩; conv => whnf)
      | (refine And.intro ?_ ?_; kernel_rfl; conv => whnf))
    · have hg := of_decide_eq_true hg
      show DV.tuple [DV.int .i64 (k), .bool true] = encVB (voltC c n)
      rw [h2, vDown, if_pos hg]; rfl
    · have hg := of_decide_eq_false hg
      rw [show IntKind.i64.wrap ((k : Int) - 1) = (k : Int) - 1 from W_in (by omega) (by omega)]
      exact ⟨k, rfl, rfl, rfl, ⟨by omega, by rw [h2, vDown, if_neg hg]⟩, by omega⟩
  · have hj := of_decide_eq_false hb
    have : j = 0 := by omega
    subst this
    conv => whnf
    have := h.2.2.2
    show DV.tuple [DV.int .i64 (IntKind.i64.wrap (-c.dr)), .bool false] = encVB (voltC c n)
    rw [h2, show IntKind.i64.wrap (-c.dr) = -c.dr from W_in (by omega) (by omega)]; rfl
def encE2 (p : Int × Int) : DV := .tuple [DV.int .i64 (p.1), DV.int .i64 (p.2)]
def encE3 (p : Int × Bool × Int) : DV := .tuple [DV.int .i64 (p.1), .bool p.2.1, DV.int .i64 (p.2.2)]
def currentS (c : Cel) (v : Int) : Int × Int := if firstE [chkCell c, withE v 0 800] ≠ 0 then (0, firstE [chkCell c, withE v 0 800]) else (curC c v, 0)
def voltS (c : Cel) (n : Int) : Int × Bool × Int := if firstE [chkCell c, withE n 0 200] ≠ 0 then (0, false, firstE [chkCell c, withE n 0 200]) else ((voltC c n).1, (voltC c n).2, 0)
theorem two_zero {a b : Int} (h : ¬ firstE [a, b] ≠ 0) : a = 0 ∧ b = 0 := by
  have h := firstE_cons (Classical.not_not.1 h)
  exact ⟨h.1, (firstE_cons h.2).1⟩
theorem c_Current (c : Cel) (v : Int) (hl : c.tb.length < 1073741824) : PC 8 [encC c, DV.int .i64 (v)] (encE2 (currentS c v)) := by
  refine pureCall_ofR dh8 rfl ?_
  conv => whnf
  repeat' (first
    | (refine ⟨fun hg => ?_, fun hg => ?_⟩ <;> first | contradiction | (conv => whnf))
    | (refine Or.inl ?_; conv => whnf)
    | (refine ⟨_, c_CheckCell _ hl, ?_⟩; conv => whnf)
    | (refine ⟨_, c_checkVolt .., ?_⟩; conv => whnf)
    | (refine ⟨_, c_first [_, _] (by simp), ?_⟩; conv => whnf)
    | (refine And.intro ?_ ?_; kernel_rfl; conv => whnf))
  · have hg := of_decide_eq_true hg
    show DV.tuple [_, _] = _
    rw [currentS, if_pos hg]; rfl
  · have hg := of_decide_eq_false hg
    have hz := two_zero hg
    have hv := withE_zero hz.2
    repeat' (first
      | (refine ⟨fun hg => ?_, fun hg => ?_⟩ <;> first | contradiction | (conv => whnf))
      | (refine Or.inl ?_; conv => whnf)
      | (refine ⟨_, c_Cell_current _ _ (chkCell_zero hz.1) (by omega) (by omega), ?_⟩; conv => whnf)
      | (refine And.intro ?_ ?_; kernel_rfl; conv => whnf))
    show DV.tuple [_, _] = _
    rw [currentS, if_neg hg]; rfl
theorem c_Volt (c : Cel) (n : Int) (hl : c.tb.length < 1073741824) : PC 11 [encC c, DV.int .i64 (n)] (encE3 (voltS c n)) := by
  refine pureCall_ofR dh11 rfl ?_
  conv => whnf
  repeat' (first
    | (refine ⟨fun hg => ?_, fun hg => ?_⟩ <;> first | contradiction | (conv => whnf))
    | (refine Or.inl ?_; conv => whnf)
    | (refine ⟨_, c_CheckCell _ hl, ?_⟩; conv => whnf)
    | (refine ⟨_, c_checkAmp .., ?_⟩; conv => whnf)
    | (refine ⟨_, c_first [_, _] (by simp), ?_⟩; conv => whnf)
    | (refine And.intro ?_ ?_; kernel_rfl; conv => whnf))
  · have hg := of_decide_eq_true hg
    show DV.tuple [_, _, _] = _
    rw [voltS, if_pos hg]; rfl
  · have hg := of_decide_eq_false hg
    have hz := two_zero hg
    repeat' (first
      | (refine ⟨fun hg => ?_, fun hg => ?_⟩ <;> first | contradiction | (conv => whnf))
      | (refine Or.inl ?_; conv => whnf)
      | (refine ⟨_, c_Cell_volt _ _ (chkCell_zero hz.1), ?_⟩; conv => whnf)
      | (refine And.intro ?_ ?_; kernel_rfl; conv => whnf))
    show DV.tuple [_, _, _] = _
    rw [voltS, if_neg hg]; rfl
end Sh

/-! Chains. -/
set_option maxRecDepth 100000
set_option linter.unusedSimpArgs false
set_option linter.unusedVariables false
namespace Sh
open Go Go.Proofs

def oI {α : Type} (g : α → Int) (l : List α) (i : Nat) : List DV := (l.take i).map fun c => DV.int .i64 (g c)
theorem oI_len {α : Type} (g : α → Int) (l : List α) (i : Nat) (h : i ≤ l.length) : (oI g l i).length = i := by simp [oI]; omega
theorem oI_succ {α : Type} (g : α → Int) (l : List α) (i : Nat) (d : α) (h : i < l.length) : oI g l (i + 1) = oI g l i ++ [DV.int .i64 (g (l.getD i d))] := take_map_succ _ l i d h
theorem oI_all {α : Type} (g : α → Int) (l : List α) : oI g l l.length = (l.map g).map (DV.int .i64) := by simp [oI]
theorem c_mappedE (l : List Cel) (f : FuncId) (g : Cel → Int) (hl : l.length < 1073741824) (hf : ∀ c ∈ l, PC f [encC c] (DV.int .i64 (g c))) : PC 62 [chn l, .func f []] (iL (l.map g)) := by
  refine pureCall_ofR dh62 rfl ?_
  conv => whnf
  refine dwp_loopR (P := Tryd.prog) (G := GC) (k := dk62_0) (b := db62_0) (α := Nat) (fun i => [(1, .func f []), (5, .own 5 0 (oI g l i).length (oI g l i).length), (8, chn l), (9, .int .i64 (l.map encC).length), (10, DV.int .i64 (i))]) (fun i => [(5, .row 1 (oI g l i) false)]) (fun i => i ≤ l.length) (fun i => l.length - i) 0 ⟨rfl, rfl, rfl⟩ (Nat.zero_le _) ?_
  intro i h1
  conv => whnf
  refine ⟨fun hb => ?_, fun hb => ?_⟩
  · have hi : i < l.length := by simpa using hb
    conv => whnf
    rw [getD_enc _ _ (i) C0 hi]
    refine ⟨idxA hi rfl, ?_⟩
    conv => whnf
    refine .inl ?_
    conv => whnf
    refine ⟨_, hf _ (getD_in C0 hi), ?_⟩
    conv => whnf
    refine ⟨⟨rfl, rfl, rfl, by rw [oI_len g l i h1]; simp; omega, fun e he => by simp at he; subst he; rfl⟩, ?_⟩
    conv => whnf
    rw [wrap_succ i (by omega)]
    refine ⟨i + 1, rfl, ?_, ?_, hi, by omega⟩
    · rw [oI_succ g l i C0 hi]; rfl
    · rw [oI_succ g l i C0 hi]; rfl
  · have hi : i = l.length := by have := of_decide_eq_false hb; simp at this; omega
    conv => whnf
    exact ⟨rfl, by rw [window_full, hi, oI_all]; rfl⟩
theorem short_list {l : List Cel} (h : ∀ c ∈ l, c.tb.length ≤ 9) : ∀ c ∈ l, c.tb.length < 1073741824 := fun c hc => by have := h c hc; omega
theorem c_CheckChain (l : List Cel) (hl : l.length < 1073741824) (hc : ∀ c ∈ l, c.tb.length < 1073741824) : PC 42 [chn l] (DV.int .i64 (chkChain l)) := by
  have e0 : ((l.map encC).length : Int) = l.length := by simp
  refine pureCall_ofR dh42 rfl ?_
  conv => whnf
  repeat' (first
    | (refine ⟨fun hg => ?_, fun hg => ?_⟩ <;> first | contradiction | (conv => whnf))
    | (refine Or.inl ?_; conv => whnf)
    | (refine ⟨_, c_counted .., ?_⟩; conv => whnf)
    | (refine And.intro ?_ ?_; kernel_rfl; conv => whnf))
  · have hg := of_decide_eq_true hg
    exact int_eq (by rw [e0] at hg ⊢; unfold chkChain; rw [if_pos hg])
  · have hg := of_decide_eq_false hg
    repeat' (first
      | (refine ⟨fun hg => ?_, fun hg => ?_⟩ <;> first | contradiction | (conv => whnf))
      | (refine Or.inl ?_; conv => whnf)
      | (refine ⟨_, c_mappedE l 36 chkCell hl (fun c h => c_CheckCell c (hc c h)), ?_⟩; conv => whnf)
      | (refine ⟨_, c_first _ (by simp; omega), ?_⟩; conv => whnf)
      | (refine And.intro ?_ ?_; kernel_rfl; conv => whnf))
    exact int_eq (by rw [e0] at hg; unfold chkChain; rw [if_neg hg])
theorem c_chainVolt (l : List Cel) (n : Int) (h : OkH l) : PC 43 [chn l, DV.int .i64 (n)] (DV.int .i64 (chV l n)) := by
  have e0 : ((l.map encC).length : Int) = l.length := by simp
  have hl := h.2.1
  refine pureCall_ofR dh43 rfl ?_
  conv => whnf
  refine dwp_loopR (P := Tryd.prog) (G := GC) (k := dk43_0) (b := db43_0) (α := Nat) (fun i => [(1, DV.int .i64 (n)), (5, DV.int .i64 (chVi l n i)), (10, chn l), (11, .int .i64 (l.map encC).length), (12, DV.int .i64 (i))]) (fun _ => []) (fun i => i ≤ l.length) (fun i => l.length - i) 0 ⟨rfl, rfl, rfl⟩ (Nat.zero_le _) ?_
  intro i h1
  conv => whnf
  refine ⟨fun hb => ?_, fun hb => ?_⟩
  · have hi : i < l.length := by simpa using hb
    have hc := h.2.2 _ (getD_in C0 hi)
    have b1 := chVi_bd h n i
    have b2 := hc.volt_bd n
    conv => whnf
    rw [getD_enc _ _ (i) C0 hi]
    refine ⟨idxA hi rfl, ?_⟩
    conv => whnf
    repeat' (first
      | (refine ⟨fun hg => ?_, fun hg => ?_⟩ <;> first | contradiction | (conv => whnf))
      | (refine Or.inl ?_; conv => whnf)
      | (refine ⟨_, c_Cell_volt _ _ hc, ?_⟩; conv => whnf)
      | (refine And.intro ?_ ?_; kernel_rfl; conv => whnf))
    rw [wrap_succ i (by omega), show IntKind.i64.wrap (chVi l n i + (voltC (l.getD i C0) n).1) = chVi l n (i + 1) by rw [wrap_W, W_in (by omega) (by omega), chVi_succ l n i hi]]
    exact ⟨i + 1, rfl, rfl, rfl, hi, by omega⟩
  · have hi : i = l.length := by have := of_decide_eq_false hb; rw [e0] at this; omega
    conv => whnf
    exact int_eq (by rw [hi, chVi_all])
def chainVoltS (l : List Cel) (n : Int) : Int × Int := if firstE [chkChain l, withE n 0 200] ≠ 0 then (0, firstE [chkChain l, withE n 0 200]) else (chV l n, 0)
theorem c_ChainVolt (l : List Cel) (n : Int) (hl : l.length < 1073741824) (hc : ∀ c ∈ l, c.tb.length < 1073741824) : PC 12 [chn l, DV.int .i64 (n)] (encE2 (chainVoltS l n)) := by
  refine pureCall_ofR dh12 rfl ?_
  conv => whnf
  repeat' (first
    | (refine ⟨fun hg => ?_, fun hg => ?_⟩ <;> first | contradiction | (conv => whnf))
    | (refine Or.inl ?_; conv => whnf)
    | (refine ⟨_, c_CheckChain _ hl hc, ?_⟩; conv => whnf)
    | (refine ⟨_, c_checkAmp .., ?_⟩; conv => whnf)
    | (refine ⟨_, c_first [_, _] (by simp), ?_⟩; conv => whnf)
    | (refine And.intro ?_ ?_; kernel_rfl; conv => whnf))
  · have hg := of_decide_eq_true hg
    show DV.tuple [_, _] = _
    rw [chainVoltS, if_pos hg]; rfl
  · have hg := of_decide_eq_false hg
    have hz := two_zero hg
    repeat' (first
      | (refine ⟨fun hg => ?_, fun hg => ?_⟩ <;> first | contradiction | (conv => whnf))
      | (refine Or.inl ?_; conv => whnf)
      | (refine ⟨_, c_chainVolt _ _ (chkChain_zero hz.1), ?_⟩; conv => whnf)
      | (refine And.intro ?_ ?_; kernel_rfl; conv => whnf))
    show DV.tuple [_, _] = _
    rw [chainVoltS, if_neg hg]; rfl
end Sh

/-! A chain's voltages by its currents; lists by their indices. -/
set_option linter.unusedSimpArgs false
namespace Sh
open Go
theorem vDown_skip (c : Cel) (n : Int) : ∀ (L p : Nat), p ≤ L → (∀ j : Nat, p ≤ j → j < L → curC c j < n) → vDown c n L = vDown c n p
  | 0, p, h, _ => by have : p = 0 := by omega
                     subst this; rfl
  | L + 1, p, h, hj => by
    by_cases e : p = L + 1
    · subst e; rfl
    · have h1 := hj L (by omega) (by omega)
      rw [vDown, if_neg (by omega)]
      exact vDown_skip c n L p (by omega) (fun j h1 h2 => hj j h1 (by omega))
/-- A list by its indices. -/
def rng {α : Type} (m : Nat) (f : Nat → α) : List α := (List.range m).map f
theorem rng_len {α : Type} (m : Nat) (f : Nat → α) : (rng m f).length = m := by simp [rng]
theorem rng_getD {α : Type} {m i : Nat} (f : Nat → α) (d : α) (h : i < m) : (rng m f).getD i d = f i := by
  simp [rng, List.getD_eq_getElem?_getD, h]
theorem rng_set {α : Type} (m j : Nat) (f : Nat → α) (v : α) : (rng m f).set j v = rng m (fun k => if k = j then v else f k) := by
  apply List.ext_getElem
  · simp [rng]
  · intro i h1 h2
    simp only [rng, List.getElem_set, List.getElem_map, List.getElem_range]
    by_cases e : j = i
    · subst e; simp
    · rw [if_neg e, if_neg (Ne.symm e)]
theorem rng_congr {α : Type} {m : Nat} {f g : Nat → α} (h : ∀ k, k < m → f k = g k) : rng m f = rng m g := by
  unfold rng; exact List.map_congr_left (fun k hk => h k (List.mem_range.1 hk))
theorem rng_succ {α : Type} (m : Nat) (f : Nat → α) : rng (m + 1) f = rng m f ++ [f m] := by
  simp [rng, List.range_succ]
theorem rng_const {α : Type} (m : Nat) (v : α) : List.replicate m v = rng m (fun _ => v) := by
  apply List.ext_getElem <;> simp [rng]
theorem rng_map {α β : Type} (m : Nat) (f : Nat → α) (g : α → β) : (rng m f).map g = rng m (fun k => g (f k)) := by simp [rng]
/-- Entries of a map whose keys are the first numbers. -/
def ents (m : Nat) (f : Nat → Int) : List (DV × DV) := rng m (fun k => (DV.int .i64 (k : Int), DV.int .i64 (f k)))
theorem dfind_from (f : Nat → Int) (n : Nat) : ∀ (m s i : Nat), s ≤ n → dfind (keyEq 1 []) (DV.int .i64 (n : Int)) ((List.range' s m).map fun k : Nat => (DV.int .i64 (k : Int), DV.int .i64 (f k))) i = if n < s + m then some (some (i + (n - s), DV.int .i64 (f n))) else some none
  | 0, s, i, h => by rw [if_neg (by omega)]; rfl
  | m + 1, s, i, h => by
    rw [List.range'_succ, List.map_cons]
    unfold dfind
    by_cases e : n = s
    · subst e
      simp only [keyEq, kindEq, kindNo]
      rw [if_pos (by omega)]
      simp
    · have hd : keyEq 1 [] (DV.int .i64 (n : Int)) (DV.int .i64 (s : Int)) = some false := by
        simp only [keyEq, kindEq, kindNo]
        rw [decide_eq_false (by omega)]; rfl
      rw [hd]
      simp only
      rw [dfind_from f n m (s + 1) (i + 1) (by omega)]
      by_cases e2 : n < s + (m + 1)
      · rw [if_pos (by omega), if_pos e2]
        congr 3; omega
      · rw [if_neg (by omega), if_neg e2]
theorem dfind_ents (f : Nat → Int) (n m : Nat) : dfind (keyEq 1 []) (DV.int .i64 (n : Int)) (ents m f) 0 = if n < m then some (some (n, DV.int .i64 (f n))) else some none := by
  have := dfind_from f n m 0 0 (Nat.zero_le _)
  unfold ents rng
  rw [List.range_eq_range', this]
  simp
def ES (l : List Cel) (i n : Nat) : List (DV × DV) := ents (if i = 0 then n else 201) (fun k => chVi l k (if k < n then i + 1 else i))
theorem ES_find {l : List Cel} {i n : Nat} (hn : n < 201) : dfind (keyEq 1 []) (DV.int .i64 (n : Int)) (ES l i n) 0 = if i = 0 then some none else some (some (n, DV.int .i64 (chVi l n i))) := by
  unfold ES
  rw [dfind_ents]
  by_cases e : i = 0
  · rw [if_pos e, if_pos e, if_neg (by omega)]
  · rw [if_neg e, if_neg e, if_pos hn]; simp
theorem ES_find' {l : List Cel} {i n : Nat} (hn : n < 201) {k : DV} (hk : k = DV.int .i64 (n : Int)) : dfind (keyEq 1 []) k (ES l i n) 0 = if i = 0 then some none else some (some (n, DV.int .i64 (chVi l n i))) := by rw [hk, ES_find hn]
theorem ES_set {l : List Cel} {i n : Nat} (hi : i ≠ 0) : (ES l i n).set n (DV.int .i64 (n : Int), DV.int .i64 (chVi l n (i + 1))) = ES l i (n + 1) := by
  unfold ES ents
  rw [rng_set, if_neg hi, if_neg hi]
  refine rng_congr (fun k hk => ?_)
  (try dsimp only)
  by_cases e : k = n
  · subst e; simp
  · rw [if_neg e]
    by_cases e2 : k < n
    · rw [if_pos e2, if_pos (by omega)]
    · rw [if_neg e2, if_neg (by omega)]
theorem ES_app {l : List Cel} {n : Nat} : ES l 0 n ++ [(DV.int .i64 (n : Int), DV.int .i64 (chVi l n (0 + 1)))] = ES l 0 (n + 1) := by
  unfold ES ents
  simp only [if_true]
  rw [rng_succ]
  congr 1
  · exact rng_congr (fun k hk => by (try dsimp only); rw [if_pos hk, if_pos (by omega)])
  · simp
theorem ES_next (l : List Cel) (i : Nat) : ES l i 201 = ES l (i + 1) 0 := by
  unfold ES ents
  by_cases e : i = 0
  · subst e
    simp only [if_true]
    exact rng_congr (fun k hk => by (try dsimp only); rw [if_pos hk, if_neg (by omega)])
  · rw [if_neg e, if_neg (by omega)]
    exact rng_congr (fun k hk => by (try dsimp only); rw [if_pos hk, if_neg (by omega)])
theorem ES_all {l : List Cel} (h : l ≠ []) : ES l l.length 0 = ents 201 (fun k => chV l k) := by
  unfold ES
  rw [if_neg (by intro e; exact h (List.eq_nil_of_length_eq_zero e))]
  unfold ents
  exact rng_congr (fun k hk => by (try dsimp only); rw [if_neg (by omega), chVi_all])
def atS (c : Cel) (L j : Nat) : List DV := rng L (fun k => DV.int .i64 (if k < j then curC c k else 0))
theorem atS_len (c : Cel) (L j : Nat) : (atS c L j).length = L := rng_len _ _
theorem atS_set (c : Cel) (L j : Nat) : (atS c L j).set j (DV.int .i64 (curC c j)) = atS c L (j + 1) := by
  unfold atS
  rw [rng_set]
  refine rng_congr (fun k hk => ?_)
  (try dsimp only)
  by_cases e : k = j
  · subst e; simp
  · rw [if_neg e]
    by_cases e2 : k < j
    · rw [if_pos e2, if_pos (by omega)]
    · rw [if_neg e2, if_neg (by omega)]
theorem atS_zero (c : Cel) (L : Nat) : List.replicate L (DV.int .i64 0) = atS c L 0 := by rw [rng_const]; rfl
theorem atS_get {c : Cel} {L j : Nat} (h : j < L) : (atS c L L).getD j .undef = DV.int .i64 (curC c j) := by
  unfold atS; rw [rng_getD _ _ h, if_pos h]
/-- The greatest current whose voltage is at least one, below so many; or -1. -/
def hD (l : List Cel) (v : Int) : Nat → Int
  | 0 => -1
  | k + 1 => if v ≤ chV l (k : Int) then (k : Int) else hD l v k
def curH (l : List Cel) (v : Int) : Int := if 0 < hD l v 201 then hD l v 201 else 0
theorem hD_skip (l : List Cel) (v : Int) : ∀ (L p : Nat), p ≤ L → (∀ j : Nat, p ≤ j → j < L → chV l j < v) → hD l v L = hD l v p
  | 0, p, h, _ => by have : p = 0 := by omega
                     subst this; rfl
  | L + 1, p, h, hj => by
    by_cases e : p = L + 1
    · subst e; rfl
    · have h1 := hj L (by omega) (by omega)
      rw [hD, if_neg (by omega)]
      exact hD_skip l v L p (by omega) (fun j h1 h2 => hj j h1 (by omega))
theorem hD_bd (l : List Cel) (v : Int) : ∀ k : Nat, -1 ≤ hD l v k ∧ hD l v k < k
  | 0 => by simp [hD]
  | k + 1 => by
    unfold hD
    have := hD_bd l v k
    split <;> omega
theorem curH_bd (l : List Cel) (v : Int) : 0 ≤ curH l v ∧ curH l v ≤ 200 := by
  have := hD_bd l v 201
  unfold curH
  split <;> omega
def outS (f : Nat → Int) (E v : Nat) : List DV := rng E (fun k => DV.int .i64 (if k < v then f k else 0))
theorem outS_len (f : Nat → Int) (E v : Nat) : (outS f E v).length = E := rng_len _ _
theorem outS_set (f : Nat → Int) (E v : Nat) : (outS f E v).set v (DV.int .i64 (f v)) = outS f E (v + 1) := by
  unfold outS
  rw [rng_set]
  refine rng_congr (fun k hk => ?_)
  (try dsimp only)
  by_cases e : k = v
  · subst e; simp
  · rw [if_neg e]
    by_cases e2 : k < v
    · rw [if_pos e2, if_pos (by omega)]
    · rw [if_neg e2, if_neg (by omega)]
theorem outS_zero (f : Nat → Int) (E : Nat) : List.replicate E (DV.int .i64 0) = outS f E 0 := by rw [rng_const]; rfl
theorem outS_all (f : Nat → Int) (E : Nat) : outS f E E = (rng E f).map (DV.int .i64) := by
  rw [rng_map]; exact rng_congr (fun k hk => by (try dsimp only); rw [if_pos hk])
def vsS (l : List Cel) (i n : Nat) : List DV := rng 201 (fun k => DV.int .i64 (chVi l k (if k < n then i + 1 else i)))
theorem vsS_len (l : List Cel) (i n : Nat) : (vsS l i n).length = 201 := rng_len _ _
theorem vsS_get {l : List Cel} {i n : Nat} (h : n < 201) : (vsS l i n).getD n .undef = DV.int .i64 (chVi l n i) := by
  unfold vsS; rw [rng_getD _ _ h, if_neg (by omega)]
theorem vsS_set (l : List Cel) (i n : Nat) : (vsS l i n).set n (DV.int .i64 (chVi l n (i + 1))) = vsS l i (n + 1) := by
  unfold vsS
  rw [rng_set]
  refine rng_congr (fun k hk => ?_)
  (try dsimp only)
  by_cases e : k = n
  · subst e; simp
  · rw [if_neg e]
    by_cases e2 : k < n
    · rw [if_pos e2, if_pos (by omega)]
    · rw [if_neg e2, if_neg (by omega)]
theorem vsS_next (l : List Cel) (i : Nat) : vsS l i 201 = vsS l (i + 1) 0 := by
  unfold vsS
  exact rng_congr (fun k hk => by (try dsimp only); rw [if_pos hk, if_neg (by omega)])
theorem vsS_zero (l : List Cel) : List.replicate 201 (DV.int .i64 0) = vsS l 0 0 := by
  rw [rng_const]; unfold vsS
  exact rng_congr (fun k hk => by (try dsimp only); rw [if_neg (by omega)]; rfl)
theorem vsS_all (l : List Cel) : vsS l l.length 0 = (rng 201 fun k => chV l k).map (DV.int .i64) := by
  rw [rng_map]; unfold vsS
  exact rng_congr (fun k hk => by (try dsimp only); rw [if_neg (by omega), chVi_all])
def cuS (c : Cel) (j : Nat) : List DV := rng j (fun k => DV.int .i64 (curC c k))
theorem cuS_len (c : Cel) (j : Nat) : (cuS c j).length = j := rng_len _ _
theorem cuS_succ (c : Cel) (j : Nat) : cuS c (j + 1) = cuS c j ++ [DV.int .i64 (curC c j)] := rng_succ _ _
theorem cuS_get {c : Cel} {L j : Nat} (h : j < L) : (cuS c L).getD j .undef = DV.int .i64 (curC c j) := by unfold cuS; rw [rng_getD _ _ h]
section
variable {ev : Operand → DV} {lk : Nat → Option DObj} {o kk q i : Nat} {ks : List Nat} {z v : DV} {m k x : Operand} {es : List (DV × DV)}
theorem ev_lookup_some (hm : ev m = .dict q) (hl : lk q = some (.dict es)) (hp : pureB (ev k) = true) (hd : dfind (keyEq kk ks) (ev k) es 0 = some (some (i, v))) : evalOp ev lk o (.lookup kk ks false z m k) = .ok none v [] := by
  simp [evalOp, hm, hl, hp, hd]
theorem ev_lookup_none (hm : ev m = .dict q) (hl : lk q = some (.dict es)) (hp : pureB (ev k) = true) (hd : dfind (keyEq kk ks) (ev k) es 0 = some none) : evalOp ev lk o (.lookup kk ks false z m k) = .ok none z [] := by
  simp [evalOp, hm, hl, hp, hd]
theorem ev_mapset_some {kv vv : DV} (hm : ev m = .dict q) (hl : lk q = some (.dict es)) (hk : ev k = kv) (hv : ev x = vv) (hp : (pureB kv && pureB vv) = true) (hd : dfind (keyEq kk ks) kv es 0 = some (some (i, v))) : evalOp ev lk o (.mapset kk ks m k x) = .ok none (.tuple []) [(q, .dict (es.set i (kv, vv)))] := by
  simp only [evalOp, hm, hl, hk, hv, hp, hd, cond_true]
theorem ev_mapset_none {kv vv : DV} (hm : ev m = .dict q) (hl : lk q = some (.dict es)) (hk : ev k = kv) (hv : ev x = vv) (hp : (pureB kv && pureB vv) = true) (hd : dfind (keyEq kk ks) kv es 0 = some none) : evalOp ev lk o (.mapset kk ks m k x) = .ok none (.tuple []) [(q, .dict (es ++ [(kv, vv)]))] := by
  simp only [evalOp, hm, hl, hk, hv, hp, hd, cond_true]
end
end Sh

/-! The voltages of a chain by its currents. -/
set_option maxRecDepth 100000
set_option linter.unusedSimpArgs false
set_option linter.unusedVariables false
namespace Sh
open Go Go.Proofs
theorem c_volts (l : List Cel) (h : OkH l) : HCall Tryd.prog GC 63 [chn l] [] (.dict 10) [(10, .dict (ents 201 fun k => chV l k))] := by
  have e0 : ((l.map encC).length : Int) = l.length := by simp
  have hl := h.2.1
  refine hCall_ofR dh63 rfl (by kernel_rfl) (by kernel_rfl) ?_
  conv => whnf
  refine dwp_loopR (P := Tryd.prog) (G := GC) (k := dk63_3) (b := db63_3) (α := Nat) (fun i => [(3, .dict 10), (11, chn l), (12, .int .i64 (l.map encC).length), (13, DV.int .i64 (i))]) (fun i => [(10, .dict (ES l i 0))]) (fun i => i ≤ l.length) (fun i => l.length - i) 0 ⟨rfl, rfl, rfl⟩ (Nat.zero_le _) ?_
  intro i h1
  conv => whnf
  refine ⟨fun hb => ?_, fun hb => ?_⟩
  · have hi : i < l.length := by simpa using hb
    have hc := h.2.2 _ (getD_in C0 hi)
    have hx := hc.1.last_bd
    obtain ⟨L, hL⟩ : ∃ L : Nat, (L : Int) = lastX (l.getD i C0).tb + 1 := ⟨(lastX (l.getD i C0).tb + 1).toNat, by omega⟩
    conv => whnf
    rw [getD_enc _ _ (i) C0 hi]
    refine ⟨idxA hi rfl, ?_⟩
    conv => whnf
    repeat' (first
      | (refine ⟨fun hg => ?_, fun hg => ?_⟩ <;> first | contradiction | (conv => whnf))
      | (refine Or.inl ?_; conv => whnf)
      | (refine ⟨_, c_Table_last _ hc.1, ?_⟩; conv => whnf)
      | (refine And.intro ?_ ?_; kernel_rfl; conv => whnf))
    rw [show IntKind.i64.wrap (lastX (l.getD i C0).tb + 1) = (L : Int) by rw [wrap_W, W_in (by omega) (by omega)]; omega]
    simp only [Int.toNat_natCast]
    rw [atS_zero (l.getD i C0)]
    refine ⟨⟨by omega, by omega, by omega, rfl, rfl⟩, ?_⟩
    generalize hcd : l.getD i C0 = c at *
    conv => whnf
    refine ⟨(atS_len c L 0).symm, ?_⟩
    conv => whnf
    refine dwp_loopR (P := Tryd.prog) (G := GC) (k := dk63_0) (b := db63_0) (α := Nat) (fun j => [(3, .dict 10), (5, .bptr 5 0), (6, .own 21 0 L L), (11, chn l), (12, .int .i64 (l.map encC).length), (13, DV.int .i64 (i)), (23, DV.int .i64 (L)), (24, DV.int .i64 (j))]) (fun j => [(5, .box 3 (encC c)), (10, .dict (ES l i 0)), (21, .row 1 (atS c L j) false)]) (fun j => j ≤ L) (fun j => L - j) 0 ⟨rfl, rfl, rfl⟩ (Nat.zero_le _) ?_
    intro j hj
    conv => whnf
    refine ⟨fun hb => ?_, fun hb => ?_⟩
    · have hj := of_decide_eq_true hb
      conv => whnf
      repeat' (first
        | (refine ⟨fun hg => ?_, fun hg => ?_⟩ <;> first | contradiction | (conv => whnf))
        | (refine Or.inl ?_; conv => whnf)
        | (refine ⟨_, c_Cell_current _ _ hc (by omega) (by omega), ?_⟩; conv => whnf)
        | (refine And.intro ?_ ?_; kernel_rfl; conv => whnf))
      refine ⟨⟨(atS_len c L j).symm, by omega, by omega⟩, ?_⟩
      conv => whnf
      refine ⟨⟨(atS_len c L j).symm, by decide, rfl⟩, ?_⟩
      conv => whnf
      rw [wrap_succ j (by omega)]
      refine ⟨j + 1, rfl, rfl, ?_, by omega, by omega⟩
      show [(5, DObj.box 3 (encC c)), (10, DObj.dict (ES l i 0)), (21, DObj.row 1 ((atS c L j).set (0 + j) (DV.int .i64 (curC c j))) false)] = _
      rw [Nat.zero_add, atS_set]
    · have hj := of_decide_eq_false hb
      have hj : j = L := by omega
      subst hj
      conv => whnf
      refine ⟨(atS_len c j j).symm, ?_⟩
      conv => whnf
      refine dwp_loopR (P := Tryd.prog) (G := GC) (k := dk63_2) (b := db63_2) (α := Nat × Nat) (fun s => [(3, .dict 10), (5, .bptr 5 0), (6, .own 21 0 j j), (8, DV.int .i64 ((s.2 : Int) - 1)), (11, chn l), (12, .int .i64 (l.map encC).length), (13, DV.int .i64 (i)), (37, DV.int .i64 (s.1))]) (fun s => [(5, .box 3 (encC c)), (10, .dict (ES l i s.1)), (21, .row 1 (atS c j j) false)])
        (fun s => s.1 ≤ 201 ∧ s.2 ≤ j ∧ ∀ k : Nat, s.2 ≤ k → k < j → curC c k < s.1) (fun s => 201 - s.1) (0, j) ⟨rfl, ?_, rfl⟩ ⟨by omega, Nat.le_refl _, fun k h1 h2 => by simp at h1; omega⟩ ?_
      · rw [show IntKind.i64.wrap ((j : Int) - 1) = (j : Int) - 1 from W_in (by omega) (by omega)]; rfl
      rintro ⟨n, p⟩ ⟨hn, hp, hall⟩
      dsimp only at hn hp hall ⊢
      conv => whnf
      refine ⟨fun hb => ?_, fun hb => ?_⟩
      · have hn2 := of_decide_eq_true hb
        have hn3 : n < 201 := by omega
        conv => whnf
        refine dwp_loopR (P := Tryd.prog) (G := GC) (k := dk63_1) (b := db63_1) (α := Nat) (fun p => [(3, .dict 10), (5, .bptr 5 0), (6, .own 21 0 j j), (8, DV.int .i64 ((p : Int) - 1)), (9, DV.int .i64 (n)), (11, chn l), (12, .int .i64 (l.map encC).length), (13, DV.int .i64 (i)), (37, DV.int .i64 (n))]) (fun _ => [(5, .box 3 (encC c)), (10, .dict (ES l i n)), (21, .row 1 (atS c j j) false)])
          (fun p => p ≤ j ∧ ∀ k : Nat, p ≤ k → k < j → curC c k < n) (fun p => p) p ⟨rfl, rfl, rfl⟩ ⟨hp, hall⟩ ?_
        clear hp hall p
        intro p ⟨hp, hall⟩
        conv => whnf
        refine ⟨fun hg => ?_, fun hg => ?_⟩
        · have hg := of_decide_eq_true hg
          obtain ⟨k, rfl⟩ : ∃ k, p = k + 1 := ⟨p - 1, by omega⟩
          have e1 : ((k + 1 : Nat) : Int) - 1 = k := by omega
          rw [e1]
          conv => whnf
          refine ⟨⟨(atS_len c j j).symm, by omega, by omega⟩, ?_⟩
          conv => whnf
          rw [Int.toNat_natCast, Nat.zero_add, atS_get (by omega : k < j)]
          refine ⟨⟨(atS_len c j j).symm, by decide⟩, ?_⟩
          conv => whnf
          refine ⟨fun hg => ?_, fun hg => ?_⟩
          · have hg : curC c k < n := of_decide_eq_true hg
            conv => whnf
            rw [show IntKind.i64.wrap ((k : Int) - 1) = (k : Int) - 1 from W_in (by omega) (by omega)]
            refine ⟨k, rfl, rfl, rfl, ⟨by omega, fun q h1 h2 => ?_⟩, by omega⟩
            by_cases e : q = k
            · subst e; exact hg
            · exact hall q (by omega) h2
          · have hg : ¬ curC c k < n := of_decide_eq_false hg
            have hv : voltC c n = ((k : Int), true) := by
              unfold voltC
              rw [show (lastX c.tb).toNat + 1 = j by omega, vDown_skip c n j (k + 1) hp hall, vDown, if_pos (by omega)]
            conv => whnf
            refine ⟨fun hg => absurd (of_decide_eq_true hg) (by omega), fun hg => ?_⟩
            conv => whnf
            have b1 := chVi_bd h n i
            have b2 := hc.volt_bd n
            have hs : IntKind.i64.wrap (chVi l n i + (k : Int)) = chVi l n (i + 1) := by
              rw [wrap_W, chVi_succ l n i hi, hcd, hv, W_in (by rw [hv] at b2; omega) (by rw [hv] at b2; omega)]
            by_cases hi0 : i = 0
            · subst hi0
              rw [ev_lookup_none (q := 10) (es := ES l 0 n) ?_ ?_ ?_ ?_]
              · conv => whnf
                rw [show IntKind.i64.wrap (0 + (k : Int)) = chVi l n (0 + 1) from hs]
                rw [ev_mapset_none (q := 10) (es := ES l 0 n) (kv := DV.int .i64 (n)) (vv := DV.int .i64 (chVi l n (0 + 1))) ?_ ?_ ?_ ?_ ?_ ?_]
                · rw [ES_app]
                  conv => whnf
                  rw [wrap_succ n (by omega)]
                  refine ⟨(n + 1, k + 1), rfl, ?_, rfl, ⟨by simp; omega, hp, fun q h1 h2 => by have := hall q h1 h2; simp; omega⟩, by simp; omega⟩
                  dsimp only; rw [e1]; rfl
                · rfl
                · rfl
                · rfl
                · rfl
                · rfl
                · exact (ES_find hn3).trans (if_pos rfl)
              · rfl
              · rfl
              · rfl
              · exact (ES_find hn3).trans (if_pos rfl)
            · rw [ev_lookup_some (q := 10) (es := ES l i n) (i := n) (v := DV.int .i64 (chVi l n i)) ?_ ?_ ?_ ?_]
              · conv => whnf
                rw [hs]
                rw [ev_mapset_some (q := 10) (es := ES l i n) (i := n) (v := DV.int .i64 (chVi l n i)) (kv := DV.int .i64 (n)) (vv := DV.int .i64 (chVi l n (i + 1))) ?_ ?_ ?_ ?_ ?_ ?_]
                · rw [ES_set hi0]
                  conv => whnf
                  rw [wrap_succ n (by omega)]
                  refine ⟨(n + 1, k + 1), rfl, ?_, rfl, ⟨by simp; omega, hp, fun q h1 h2 => by have := hall q h1 h2; simp; omega⟩, by simp; omega⟩
                  dsimp only; rw [e1]; rfl
                · rfl
                · rfl
                · rfl
                · rfl
                · rfl
                · exact (ES_find hn3).trans (if_neg hi0)
              · rfl
              · rfl
              · rfl
              · exact (ES_find hn3).trans (if_neg hi0)
        · have hg := of_decide_eq_false hg
          have : p = 0 := by omega
          subst this
          have hv : voltC c n = (-c.dr, false) := by
            unfold voltC
            rw [show (lastX c.tb).toNat + 1 = j by omega, vDown_skip c n j 0 hp hall]; rfl
          conv => whnf
          have b1 := chVi_bd h n i
          have b2 := hc.volt_bd n
          have hs : IntKind.i64.wrap (chVi l n i - c.dr) = chVi l n (i + 1) := by
            rw [hv] at b2; simp only at b2
            rw [wrap_W, chVi_succ l n i hi, hcd, hv, W_in (by omega) (by omega)]; simp only; omega
          refine ⟨fun hg => Bool.noConfusion hg, fun _ => ?_⟩
          conv => whnf
          refine ⟨fun hg => ?_, fun hg => absurd (of_decide_eq_false hg) (by omega)⟩
          conv => whnf
          by_cases hi0 : i = 0
          · subst hi0
            rw [ev_lookup_none (q := 10) (es := ES l 0 n) ?_ ?_ ?_ ?_]
            · conv => whnf
              rw [show IntKind.i64.wrap (0 - c.dr) = chVi l n (0 + 1) from hs]
              rw [ev_mapset_none (q := 10) (es := ES l 0 n) (kv := DV.int .i64 (n)) (vv := DV.int .i64 (chVi l n (0 + 1))) ?_ ?_ ?_ ?_ ?_ ?_]
              · rw [ES_app]
                conv => whnf
                rw [wrap_succ n (by omega)]
                refine ⟨(n + 1, 0), rfl, ?_, rfl, ⟨by simp; omega, Nat.zero_le _, fun q h1 h2 => by have := hall q h1 h2; simp; omega⟩, by simp; omega⟩
                rfl
              · rfl
              · rfl
              · rfl
              · rfl
              · rfl
              · exact (ES_find hn3).trans (if_pos rfl)
            · rfl
            · rfl
            · rfl
            · exact (ES_find hn3).trans (if_pos rfl)
          · rw [ev_lookup_some (q := 10) (es := ES l i n) (i := n) (v := DV.int .i64 (chVi l n i)) ?_ ?_ ?_ ?_]
            · conv => whnf
              rw [hs]
              rw [ev_mapset_some (q := 10) (es := ES l i n) (i := n) (v := DV.int .i64 (chVi l n i)) (kv := DV.int .i64 (n)) (vv := DV.int .i64 (chVi l n (i + 1))) ?_ ?_ ?_ ?_ ?_ ?_]
              · rw [ES_set hi0]
                conv => whnf
                rw [wrap_succ n (by omega)]
                refine ⟨(n + 1, 0), rfl, ?_, rfl, ⟨by simp; omega, Nat.zero_le _, fun q h1 h2 => by have := hall q h1 h2; simp; omega⟩, by simp; omega⟩
                rfl
              · rfl
              · rfl
              · rfl
              · rfl
              · rfl
              · exact (ES_find hn3).trans (if_neg hi0)
            · rfl
            · rfl
            · rfl
            · exact (ES_find hn3).trans (if_neg hi0)
      · have hn2 := of_decide_eq_false hb
        have : n = 201 := by omega
        subst this
        conv => whnf
        rw [wrap_succ i (by omega)]
        refine ⟨i + 1, rfl, rfl, ?_, hi, by omega⟩
        show [(10, DObj.dict (ES l i 201))] = _
        rw [ES_next]
  · have hi : i = l.length := by have := of_decide_eq_false hb; rw [e0] at this; omega
    conv => whnf
    have hne : l ≠ [] := by intro e; have := h.1; rw [e] at this; simp at this
    refine ⟨?_, rfl⟩
    show [(10, DObj.dict (ES l i 0))] = _
    rw [hi, ES_all hne]
end Sh

/-! The currents of a chain. -/
set_option maxRecDepth 100000
set_option linter.unusedSimpArgs false
set_option linter.unusedVariables false
namespace Sh
open Go Go.Proofs
theorem c_currents (l : List Cel) (h : OkH l) (E : Nat) (hE : E ≤ 1000) (hE1 : 1 ≤ E) : PC 44 [chn l, DV.int .i64 ((E : Int) - 1)] (iL (rng E fun v => curH l v)) := by
  have hl := h.2.1
  refine pureCall_ofR dh44 rfl ?_
  conv => whnf
  refine .inr ⟨[(10, 10)], _, _, _, _, c_volts l h, ⟨rfl, rfl, ?_, ?_⟩, ?_⟩
  · trivial
  · exact ⟨.inr rfl, trivial⟩
  conv => whnf
  rw [show IntKind.i64.wrap ((E : Int) - 1 + 1) = (E : Int) by rw [wrap_W, W_in (by omega) (by omega)]; omega]
  refine ⟨⟨by omega, by omega, by omega, rfl, rfl⟩, ?_⟩
  rw [Int.toNat_natCast, outS_zero (fun v => curH l v)]
  conv => whnf
  refine ⟨(outS_len _ E 0).symm, ?_⟩
  conv => whnf
  refine dwp_loopR (P := Tryd.prog) (G := GC) (k := dk44_1) (b := db44_1) (α := Nat × Nat) (fun s => [(5, .dict 10), (6, .own 13 0 E E), (7, DV.int .i64 ((s.2 : Int) - 1)), (15, DV.int .i64 (E)), (16, DV.int .i64 (s.1))]) (fun s => [(10, .dict (ents 201 fun k => chV l k)), (13, .row 1 (outS (fun v => curH l v) E s.1) false)])
    (fun s => s.1 ≤ E ∧ s.2 ≤ 201 ∧ ∀ k : Nat, s.2 ≤ k → k < 201 → chV l k < s.1) (fun s => E - s.1) (0, 201) ⟨rfl, rfl, rfl⟩ ⟨by omega, Nat.le_refl _, fun k h1 h2 => by simp at h1; omega⟩ ?_
  rintro ⟨v, p⟩ ⟨hn, hp, hall⟩
  dsimp only at hn hp hall ⊢
  conv => whnf
  refine ⟨fun hb => ?_, fun hb => ?_⟩
  · have hv := of_decide_eq_true hb
    conv => whnf
    refine dwp_loopR (P := Tryd.prog) (G := GC) (k := dk44_0) (b := db44_0) (α := Nat) (fun p => [(5, .dict 10), (6, .own 13 0 E E), (7, DV.int .i64 ((p : Int) - 1)), (8, DV.int .i64 (v)), (15, DV.int .i64 (E)), (16, DV.int .i64 (v))]) (fun _ => [(10, .dict (ents 201 fun k => chV l k)), (13, .row 1 (outS (fun v => curH l v) E v) false)])
      (fun p => p ≤ 201 ∧ ∀ k : Nat, p ≤ k → k < 201 → chV l k < v) (fun p => p) p ⟨rfl, rfl, rfl⟩ ⟨hp, hall⟩ ?_
    clear hp hall p
    intro p ⟨hp, hall⟩
    conv => whnf
    refine ⟨fun hg => ?_, fun hg => ?_⟩
    · have hg := of_decide_eq_true hg
      obtain ⟨k, rfl⟩ : ∃ k, p = k + 1 := ⟨p - 1, by omega⟩
      have e1 : ((k + 1 : Nat) : Int) - 1 = k := by omega
      rw [e1]
      conv => whnf
      rw [ev_lookup_some (q := 10) (es := ents 201 fun k => chV l k) (i := k) (v := DV.int .i64 (chV l k)) ?_ ?_ ?_ ?_]
      · conv => whnf
        refine ⟨fun hg => ?_, fun hg => ?_⟩
        · have hg : chV l k < v := of_decide_eq_true hg
          conv => whnf
          rw [show IntKind.i64.wrap ((k : Int) - 1) = (k : Int) - 1 from W_in (by omega) (by omega)]
          refine ⟨k, rfl, rfl, rfl, ⟨by omega, fun q h1 h2 => ?_⟩, by omega⟩
          by_cases e : q = k
          · subst e; exact hg
          · exact hall q (by omega) h2
        · have hg : ¬ chV l k < v := of_decide_eq_false hg
          have hc : curH l v = if 0 < (k : Int) then (k : Int) else 0 := by
            have e : hD l v 201 = (k : Int) := by rw [hD_skip l v 201 (k + 1) hp hall, hD, if_pos (by omega)]
            rw [curH, e]
          conv => whnf
          refine ⟨⟨(outS_len _ E v).symm, by omega, by omega⟩, ?_⟩
          conv => whnf
          refine ⟨⟨(outS_len _ E v).symm, by decide, rfl⟩, ?_⟩
          conv => whnf
          rw [wrap_succ v (by omega)]
          refine ⟨(v + 1, k + 1), rfl, ?_, ?_, ⟨by simp; omega, hp, fun q h1 h2 => by have := hall q h1 h2; simp; omega⟩, by simp; omega⟩
          · dsimp only; rw [e1]; rfl
          · show [(10, DObj.dict _), (13, DObj.row 1 ((outS (fun v => curH l v) E v).set (0 + v) (DV.int .i64 (if 0 < (k : Int) then (k : Int) else 0))) false)] = _
            rw [← hc, Nat.zero_add, outS_set (fun v => curH l v)]
      · rfl
      · rfl
      · rfl
      · exact (dfind_ents _ _ _).trans (if_pos (by omega))
    · have hg := of_decide_eq_false hg
      have : p = 0 := by omega
      subst this
      have hc : curH l v = 0 := by
        have e : hD l v 201 = -1 := by rw [hD_skip l v 201 0 hp hall]; rfl
        rw [curH, e]; rfl
      conv => whnf
      refine ⟨fun hg => Bool.noConfusion hg, fun _ => ?_⟩
      conv => whnf
      refine ⟨⟨(outS_len _ E v).symm, by omega, by omega⟩, ?_⟩
      conv => whnf
      refine ⟨⟨(outS_len _ E v).symm, by decide, rfl⟩, ?_⟩
      conv => whnf
      rw [wrap_succ v (by omega)]
      refine ⟨(v + 1, 0), rfl, rfl, ?_, ⟨by simp; omega, hp, fun q h1 h2 => by have := hall q h1 h2; simp; omega⟩, by simp; omega⟩
      show [(10, DObj.dict _), (13, DObj.row 1 ((outS (fun v => curH l v) E v).set (0 + v) (DV.int .i64 (0))) false)] = _
      rw [← hc, Nat.zero_add, outS_set (fun v => curH l v)]
  · have hv := of_decide_eq_false hb
    have : v = E := by omega
    subst this
    conv => whnf
    refine ⟨(outS_len _ v v).symm, ?_⟩
    show DV.list (window (outS (fun v => curH l v) v v) 0 v) = _
    have := window_full (outS (fun w => curH l w) v v)
    rw [outS_len] at this
    rw [this, outS_all]; rfl
def fieldE (a n m : Int) (lo hi : Int) : Int := firstE [a, withE n lo hi]
def chainCurrentS (l : List Cel) (v : Int) : Int × Int := if firstE [chkChain l, withE v 0 800] ≠ 0 then (0, firstE [chkChain l, withE v 0 800]) else (curH l v, 0)
theorem rng_int {m i : Nat} (f : Nat → Int) (h : i < m) : ((rng m f).map (DV.int .i64)).getD i .undef = DV.int .i64 (f i) := by
  rw [rng_map, rng_getD _ _ h]
theorem c_ChainCurrent (l : List Cel) (v : Int) (hl : l.length < 1073741824) (hc : ∀ c ∈ l, c.tb.length < 1073741824) : PC 13 [chn l, DV.int .i64 (v)] (encE2 (chainCurrentS l v)) := by
  refine pureCall_ofR dh13 rfl ?_
  conv => whnf
  repeat' (first
    | (refine ⟨fun hg => ?_, fun hg => ?_⟩ <;> first | contradiction | (conv => whnf))
    | (refine Or.inl ?_; conv => whnf)
    | (refine ⟨_, c_CheckChain _ hl hc, ?_⟩; conv => whnf)
    | (refine ⟨_, c_checkVolt .., ?_⟩; conv => whnf)
    | (refine ⟨_, c_first [_, _] (by simp), ?_⟩; conv => whnf)
    | (refine And.intro ?_ ?_; kernel_rfl; conv => whnf))
  · have hg := of_decide_eq_true hg
    show DV.tuple [_, _] = _
    rw [chainCurrentS, if_pos hg]; rfl
  · have hg := of_decide_eq_false hg
    have hz := two_zero hg
    have hv := withE_zero hz.2
    obtain ⟨u, rfl⟩ : ∃ u : Nat, (u : Int) = v := ⟨v.toNat, by omega⟩
    have hcur := c_currents l (chkChain_zero hz.1) (u + 1) (by omega) (by omega)
    rw [show ((u + 1 : Nat) : Int) - 1 = u by omega] at hcur
    have hu : u < (rng (u + 1) fun v => curH l v).length := by rw [rng_len]; omega
    repeat' (first
      | (refine ⟨fun hg => ?_, fun hg => ?_⟩ <;> first | contradiction | (conv => whnf))
      | (refine Or.inl ?_; conv => whnf)
      | (refine ⟨_, hcur .., ?_⟩; conv => whnf)
      | (refine And.intro ?_ ?_; kernel_rfl; conv => whnf))
    rw [getD_enc _ _ (u) 0 hu]
    refine ⟨idxA hu rfl, ?_⟩
    conv => whnf
    repeat' (first
      | (refine ⟨fun hg => ?_, fun hg => ?_⟩ <;> first | contradiction | (conv => whnf))
      | (refine Or.inl ?_; conv => whnf)
      | (refine And.intro ?_ ?_; kernel_rfl; conv => whnf))
    show DV.tuple [_, _] = _
    rw [chainCurrentS, if_neg hg, rng_getD _ _ (by omega : u < u + 1)]; rfl
end Sh

/-! The voltages of a chain by its currents: the reference. -/
set_option maxRecDepth 100000
set_option linter.unusedSimpArgs false
set_option linter.unusedVariables false
namespace Sh
open Go Go.Proofs
end Sh

/-! Cells that are bypassed; what the laws use. -/
set_option maxRecDepth 100000
set_option linter.unusedSimpArgs false
set_option linter.unusedVariables false
namespace Sh
open Go Go.Proofs
def bypD (l : List Cel) (n : Int) (i : Nat) : List DV := (byp l n i).map (DV.int .i64)
theorem bypD_len (l : List Cel) (n : Int) (i : Nat) : (bypD l n i).length ≤ i := by unfold bypD; rw [List.length_map]; exact byp_len l n i
theorem bypD_false {l : List Cel} {n : Int} {i : Nat} (h : (voltC (l.getD i C0) n).2 = false) : bypD l n (i + 1) = bypD l n i ++ [DV.int .i64 (i)] := by
  unfold bypD; rw [byp_succ, h, List.map_append]; rfl
theorem bypD_true {l : List Cel} {n : Int} {i : Nat} (h : (voltC (l.getD i C0) n).2 = true) : bypD l n (i + 1) = bypD l n i := by
  unfold bypD; rw [byp_succ, h]; simp
def encL2 (p : List Int × Int) : DV := .tuple [iL p.1, DV.int .i64 (p.2)]
def bypS (l : List Cel) (n : Int) : List Int × Int := if firstE [chkChain l, withE n 0 200] ≠ 0 then ([], firstE [chkChain l, withE n 0 200]) else (byp l n l.length, 0)
theorem c_Bypassed (l : List Cel) (n : Int) (hl : l.length < 1073741824) (hcs : ∀ c ∈ l, c.tb.length < 1073741824) : PC 14 [chn l, DV.int .i64 (n)] (encL2 (bypS l n)) := by
  have e0 : ((l.map encC).length : Int) = l.length := by simp
  refine pureCall_ofR dh14 rfl ?_
  conv => whnf
  repeat' (first
    | (refine ⟨fun hg => ?_, fun hg => ?_⟩ <;> first | contradiction | (conv => whnf))
    | (refine Or.inl ?_; conv => whnf)
    | (refine ⟨_, c_CheckChain _ hl hcs, ?_⟩; conv => whnf)
    | (refine ⟨_, c_checkAmp .., ?_⟩; conv => whnf)
    | (refine ⟨_, c_first [_, _] (by simp), ?_⟩; conv => whnf)
    | (refine And.intro ?_ ?_; kernel_rfl; conv => whnf))
  · have hg := of_decide_eq_true hg
    show DV.tuple [_, _] = _
    rw [bypS, if_pos hg]; rfl
  · have hg := of_decide_eq_false hg
    have hz := two_zero hg
    have h := chkChain_zero hz.1
    refine dwp_loopR (P := Tryd.prog) (G := GC) (k := dk14_0) (b := db14_0) (α := Nat) (fun i => [(1, DV.int .i64 (n)), (7, .own 7 0 (bypD l n i).length (bypD l n i).length), (21, chn l), (22, .int .i64 (l.map encC).length), (23, DV.int .i64 (i))]) (fun i => [(7, .row 1 (bypD l n i) false)]) (fun i => i ≤ l.length) (fun i => l.length - i) 0 ⟨rfl, rfl, rfl⟩ (Nat.zero_le _) ?_
    intro i h1
    conv => whnf
    refine ⟨fun hb => ?_, fun hb => ?_⟩
    · have hi : i < l.length := by simpa using hb
      have hc := h.2.2 _ (getD_in C0 hi)
      have hbl := bypD_len l n i
      conv => whnf
      rw [getD_enc _ _ (i) C0 hi]
      refine ⟨idxA hi rfl, ?_⟩
      conv => whnf
      repeat' (first
        | (refine ⟨fun hg => ?_, fun hg => ?_⟩ <;> first | contradiction | (conv => whnf))
        | (refine Or.inl ?_; conv => whnf)
        | (refine ⟨_, c_Cell_volt _ _ hc, ?_⟩; conv => whnf)
        | (refine And.intro ?_ ?_; kernel_rfl; conv => whnf))
      · have hg : (voltC (l.getD i C0) n).2 = false := by simpa using hg
        refine ⟨⟨rfl, rfl, rfl, by simp; omega, fun e he => by simp at he; subst he; rfl⟩, ?_⟩
        conv => whnf
        rw [wrap_succ i (by omega)]
        refine ⟨i + 1, rfl, ?_, ?_, hi, by omega⟩
        · rw [bypD_false hg]; rfl
        · rw [bypD_false hg]; rfl
      · have hg : (voltC (l.getD i C0) n).2 = true := by simpa using hg
        rw [wrap_succ i (by omega)]
        refine ⟨i + 1, rfl, ?_, ?_, hi, by omega⟩
        · rw [bypD_true hg]; rfl
        · rw [bypD_true hg]; rfl
    · have hi : i = l.length := by have := of_decide_eq_false hb; rw [e0] at this; omega
      conv => whnf
      refine ⟨rfl, ?_⟩
      rw [window_full, hi]
      show DV.tuple [_, _] = _
      rw [bypS, if_neg hg]; rfl
theorem q_SameInts (a b : List Int) (hl : a.length < 4611686018427387904) : PC 19 [iL a, iL b] (.bool (decide (a = b))) := by
  have e0 : ((a.map (DV.int .i64)).length : Int) = a.length := by simp
  have e1 : ((b.map (DV.int .i64)).length : Int) = b.length := by simp
  refine pureCall_ofR dh19 rfl ?_
  conv => whnf
  repeat' (first
    | (refine ⟨fun hg => ?_, fun hg => ?_⟩ <;> first | contradiction | (conv => whnf))
    | (refine Or.inl ?_; conv => whnf)
    | (refine And.intro ?_ ?_; kernel_rfl; conv => whnf))
  · have hg := of_decide_eq_true hg
    rw [e0, e1] at hg
    exact bool_eq (by symm; rw [decide_eq_false_iff_not]; intro e; rw [e] at hg; exact hg rfl)
  · have hg := of_decide_eq_false hg
    rw [e0, e1] at hg
    have hab : a.length = b.length := by omega
    refine dwp_loopR (P := Tryd.prog) (G := GC) (k := dk19_0) (b := db19_0) (α := Nat) (fun i => [(0, iL a), (1, iL b), (5, DV.int .i64 (i))]) (fun _ => []) (fun i => i ≤ a.length ∧ a.take i = b.take i) (fun i => a.length - i) 0 ⟨rfl, rfl, rfl⟩ ⟨Nat.zero_le _, rfl⟩ ?_
    intro i ⟨h1, h2⟩
    conv => whnf
    refine ⟨fun hb => ?_, fun hb => ?_⟩
    · have hi : i < a.length := by simpa using hb
      conv => whnf
      rw [getD_enc _ _ (i) 0 hi]
      refine ⟨idxA hi rfl, ?_⟩
      conv => whnf
      rw [getD_enc _ _ (i) 0 (by omega : i < b.length)]
      refine ⟨idxA (by omega : i < b.length) rfl, ?_⟩
      conv => whnf
      repeat' (first
        | (refine ⟨fun hg => ?_, fun hg => ?_⟩ <;> first | contradiction | (conv => whnf))
        | (refine Or.inl ?_; conv => whnf)
        | (refine And.intro ?_ ?_; kernel_rfl; conv => whnf))
      · have hg := of_decide_eq_true hg
        exact bool_eq (by symm; rw [decide_eq_false_iff_not]; intro e; rw [e] at hg; exact hg rfl)
      · have hg := Classical.not_not.1 (of_decide_eq_false hg)
        rw [wrap_succ i (by omega)]
        exact ⟨i + 1, rfl, rfl, rfl, ⟨hi, by rw [take_snoc a i 0 hi, take_snoc b i 0 (by omega), h2, hg]⟩, by omega⟩
    · have hi : i = a.length := by have := of_decide_eq_false hb; rw [e0] at this; omega
      conv => whnf
      refine bool_eq ?_
      symm
      rw [decide_eq_true_eq]
      rw [hi, List.take_length, hab, List.take_length] at h2
      exact h2
def oC (l : List Cel) (i : Nat) : List DV := (l.take i).map encC
theorem oC_len (l : List Cel) (i : Nat) (h : i ≤ l.length) : (oC l i).length = i := by simp [oC]; omega
theorem oC_succ (l : List Cel) (i : Nat) (h : i < l.length) : oC l (i + 1) = oC l i ++ [encC (l.getD i C0)] := take_map_succ _ l i C0 h
def shortN (n : Nat) : Bool := !(decide (6 < n) && !decide (n = 9))
def shortC (l : List Cel) : Bool := shortN l.length && l.all fun c => decide (c.tb.length ≤ 9)
theorem all_take {α : Type} (p : α → Bool) (l : List α) (i : Nat) (d : α) (hi : i < l.length) (h : (l.take i).all p = true) (h2 : p (l.getD i d) = true) : (l.take (i + 1)).all p = true := by
  rw [take_snoc l i d hi, List.all_append, h, List.all_cons, h2]; rfl
theorem all_not {α : Type} (p : α → Bool) (l : List α) (i : Nat) (d : α) (hi : i < l.length) (h2 : p (l.getD i d) = false) : l.all p = false := by
  rw [List.all_eq_false]
  exact ⟨_, getD_in d hi, by rw [h2]; simp⟩
theorem shortC_spec {l : List Cel} (h : shortC l = true) : l.length ≤ 9 ∧ ∀ c ∈ l, c.tb.length ≤ 9 := by
  unfold shortC at h
  rw [Bool.and_eq_true] at h
  refine ⟨?_, fun c hc => by simpa using List.all_eq_true.1 h.2 c hc⟩
  have := h.1
  simp only [shortN] at this
  simp at this
  omega
end Sh

/-! Fields. -/
set_option linter.unusedSimpArgs false
namespace Sh
open Go
def mx (a b : Int) : Int := if a < b then b else a
theorem mx_ge (a b : Int) : a ≤ mx a b ∧ b ≤ mx a b := by unfold mx; split <;> omega
def mxL (l : List Int) : Int := l.foldl mx 0
theorem mxL_succ (l : List Int) (i : Nat) (h : i < l.length) : mxL (l.take (i + 1)) = mx (mxL (l.take i)) (l.getD i 0) := by
  unfold mxL; rw [take_snoc l i 0 h, List.foldl_append]; rfl
theorem mxL_bd {l : List Int} {B : Int} (hB : 0 ≤ B) (h : ∀ x ∈ l, x ≤ B) : 0 ≤ mxL l ∧ mxL l ≤ B := by
  have key : ∀ (l : List Int) (a : Int), 0 ≤ a → a ≤ B → (∀ x ∈ l, x ≤ B) → 0 ≤ l.foldl mx a ∧ l.foldl mx a ≤ B := by
    intro l
    induction l with
    | nil => intro a h1 h2 _; exact ⟨h1, h2⟩
    | cons x r ih =>
      intro a h1 h2 h3
      have h4 := h3 x (List.mem_cons_self ..)
      have := mx_ge a x
      refine ih (mx a x) (by omega) (by unfold mx; split <;> omega) (fun y hy => h3 y (List.mem_cons_of_mem _ hy))
  exact key l 0 (Int.le_refl _) hB h
def endF (f : List (List Cel)) : Int := mxL (f.map fun l => chV l 0)
theorem OkC.volt0 {c : Cel} (h : OkC c) : voltC c 0 = (lastX c.tb, true) := by
  have h1 := h.1.last_bd
  have h2 := h.cur_bd (v := ((lastX c.tb).toNat : Int)) (by omega)
  unfold voltC vDown
  rw [if_pos h2.1]
  congr 1; omega
theorem chV0_pos {l : List Cel} (h : OkH l) : 0 ≤ chV l 0 := by
  have := sumI_bd (l := l.map fun c => (voltC c 0).1) (A := 0) (B := 100) (fun x hx => by
    obtain ⟨c, hc, rfl⟩ := List.mem_map.1 hx
    have hk := h.2.2 c hc
    rw [hk.volt0]
    have := hk.1.last_bd
    exact ⟨by simp only; omega, by simp only; omega⟩)
  unfold chV
  omega
theorem endF_bd {f : List (List Cel)} (h : OkF f) : 0 ≤ endF f ∧ endF f ≤ 800 := by
  refine mxL_bd (by decide) (fun x hx => ?_)
  obtain ⟨l, hl, rfl⟩ := List.mem_map.1 hx
  exact (chV_bd (h.2.2 l hl) 0).2
def curF (f : List (List Cel)) (v : Int) : Int := sumI (f.map fun l => curH l v)
def curFi (f : List (List Cel)) (v : Int) (i : Nat) : Int := sumI ((f.take i).map fun l => curH l v)
theorem curFi_succ (f : List (List Cel)) (v : Int) (i : Nat) (h : i < f.length) : curFi f v (i + 1) = curFi f v i + curH (f.getD i []) v := by
  unfold curFi; rw [take_map_succ _ f i [] h, sumI_append, sumI_one]
theorem curFi_all (f : List (List Cel)) (v : Int) : curFi f v f.length = curF f v := by unfold curFi curF; rw [List.take_length]
theorem curFi_bd (f : List (List Cel)) (hf : f.length ≤ 6) (v : Int) (i : Nat) : 0 ≤ curFi f v i ∧ curFi f v i ≤ 1200 := by
  have h1 := sumI_bd (l := (f.take i).map fun l => curH l v) (A := 0) (B := 200) (fun x hx => by
    obtain ⟨l, _, rfl⟩ := List.mem_map.1 hx
    exact curH_bd l v)
  have h2 : ((f.take i).map fun l => curH l v).length ≤ 6 := by simp; omega
  unfold curFi
  omega
theorem curF_bd (f : List (List Cel)) (hf : f.length ≤ 6) (v : Int) : 0 ≤ curF f v ∧ curF f v ≤ 1200 := by rw [← curFi_all]; exact curFi_bd f hf v _
def fsS (f : List (List Cel)) (E i n : Nat) : List DV := rng E (fun k => DV.int .i64 (curFi f k (if k < n then i + 1 else i)))
theorem fsS_len (f : List (List Cel)) (E i n : Nat) : (fsS f E i n).length = E := rng_len _ _
theorem fsS_get {f : List (List Cel)} {E i n : Nat} (h : n < E) : (fsS f E i n).getD n .undef = DV.int .i64 (curFi f n i) := by
  unfold fsS; rw [rng_getD _ _ h, if_neg (by omega)]
theorem fsS_set (f : List (List Cel)) (E i n : Nat) : (fsS f E i n).set n (DV.int .i64 (curFi f n (i + 1))) = fsS f E i (n + 1) := by
  unfold fsS
  rw [rng_set]
  refine rng_congr (fun k hk => ?_)
  (try dsimp only)
  by_cases e : k = n
  · subst e; simp
  · rw [if_neg e]
    by_cases e2 : k < n
    · rw [if_pos e2, if_pos (by omega)]
    · rw [if_neg e2, if_neg (by omega)]
theorem fsS_next (f : List (List Cel)) (E i : Nat) : fsS f E i E = fsS f E (i + 1) 0 := by
  unfold fsS
  exact rng_congr (fun k hk => by (try dsimp only); rw [if_pos hk, if_neg (by omega)])
theorem fsS_zero (f : List (List Cel)) (E : Nat) : List.replicate E (DV.int .i64 0) = fsS f E 0 0 := by
  rw [rng_const]; unfold fsS
  exact rng_congr (fun k hk => by (try dsimp only); rw [if_neg (by omega)]; rfl)
theorem fsS_all (f : List (List Cel)) (E : Nat) : fsS f E f.length 0 = (rng E fun k => curF f k).map (DV.int .i64) := by
  rw [rng_map]; unfold fsS
  exact rng_congr (fun k hk => by (try dsimp only); rw [if_neg (by omega), curFi_all])
end Sh

/-! Fields. -/
set_option maxRecDepth 100000
set_option linter.unusedSimpArgs false
set_option linter.unusedVariables false
namespace Sh
open Go Go.Proofs
theorem c_mappedF (l : List (List Cel)) (f : FuncId) (g : List Cel → Int) (hl : l.length < 1073741824) (hf : ∀ c ∈ l, PC f [chn c] (DV.int .i64 (g c))) : PC 64 [fld l, .func f []] (iL (l.map g)) := by
  refine pureCall_ofR dh64 rfl ?_
  conv => whnf
  refine dwp_loopR (P := Tryd.prog) (G := GC) (k := dk64_0) (b := db64_0) (α := Nat) (fun i => [(1, .func f []), (5, .own 5 0 (oI g l i).length (oI g l i).length), (8, fld l), (9, .int .i64 (l.map chn).length), (10, DV.int .i64 (i))]) (fun i => [(5, .row 1 (oI g l i) false)]) (fun i => i ≤ l.length) (fun i => l.length - i) 0 ⟨rfl, rfl, rfl⟩ (Nat.zero_le _) ?_
  intro i h1
  conv => whnf
  refine ⟨fun hb => ?_, fun hb => ?_⟩
  · have hi : i < l.length := by simpa using hb
    conv => whnf
    rw [getD_enc _ _ (i) [] hi]
    refine ⟨idxA hi rfl, ?_⟩
    conv => whnf
    refine .inl ?_
    conv => whnf
    refine ⟨_, hf _ (getD_in [] hi), ?_⟩
    conv => whnf
    refine ⟨⟨rfl, rfl, rfl, by rw [oI_len g l i h1]; simp; omega, fun e he => by simp at he; subst he; rfl⟩, ?_⟩
    conv => whnf
    rw [wrap_succ i (by omega)]
    refine ⟨i + 1, rfl, ?_, ?_, hi, by omega⟩
    · rw [oI_succ g l i [] hi]; rfl
    · rw [oI_succ g l i [] hi]; rfl
  · have hi : i = l.length := by have := of_decide_eq_false hb; simp at this; omega
    conv => whnf
    exact ⟨rfl, by rw [window_full, hi, oI_all]; rfl⟩
theorem c_mappedFi (l : List (List Cel)) (f : FuncId) (g : List Cel → Int) (hl : l.length < 1073741824) (hf : ∀ c ∈ l, PC f [chn c] (DV.int .i64 (g c))) : PC 66 [fld l, .func f []] (iL (l.map g)) := by
  refine pureCall_ofR dh66 rfl ?_
  conv => whnf
  refine dwp_loopR (P := Tryd.prog) (G := GC) (k := dk66_0) (b := db66_0) (α := Nat) (fun i => [(1, .func f []), (5, .own 5 0 (oI g l i).length (oI g l i).length), (8, fld l), (9, .int .i64 (l.map chn).length), (10, DV.int .i64 (i))]) (fun i => [(5, .row 1 (oI g l i) false)]) (fun i => i ≤ l.length) (fun i => l.length - i) 0 ⟨rfl, rfl, rfl⟩ (Nat.zero_le _) ?_
  intro i h1
  conv => whnf
  refine ⟨fun hb => ?_, fun hb => ?_⟩
  · have hi : i < l.length := by simpa using hb
    conv => whnf
    rw [getD_enc _ _ (i) [] hi]
    refine ⟨idxA hi rfl, ?_⟩
    conv => whnf
    refine .inl ?_
    conv => whnf
    refine ⟨_, hf _ (getD_in [] hi), ?_⟩
    conv => whnf
    refine ⟨⟨rfl, rfl, rfl, by rw [oI_len g l i h1]; simp; omega, fun e he => by simp at he; subst he; rfl⟩, ?_⟩
    conv => whnf
    rw [wrap_succ i (by omega)]
    refine ⟨i + 1, rfl, ?_, ?_, hi, by omega⟩
    · rw [oI_succ g l i [] hi]; rfl
    · rw [oI_succ g l i [] hi]; rfl
  · have hi : i = l.length := by have := of_decide_eq_false hb; simp at this; omega
    conv => whnf
    exact ⟨rfl, by rw [window_full, hi, oI_all]; rfl⟩
theorem c_CheckField (f : List (List Cel)) (hl : f.length < 1073741824) (hc : ∀ l ∈ f, l.length < 1073741824 ∧ ∀ c ∈ l, c.tb.length < 1073741824) : PC 45 [fld f] (DV.int .i64 (chkField f)) := by
  have e0 : ((f.map chn).length : Int) = f.length := by simp
  refine pureCall_ofR dh45 rfl ?_
  conv => whnf
  repeat' (first
    | (refine ⟨fun hg => ?_, fun hg => ?_⟩ <;> first | contradiction | (conv => whnf))
    | (refine Or.inl ?_; conv => whnf)
    | (refine ⟨_, c_counted .., ?_⟩; conv => whnf)
    | (refine And.intro ?_ ?_; kernel_rfl; conv => whnf))
  · have hg := of_decide_eq_true hg
    exact int_eq (by rw [e0] at hg ⊢; unfold chkField; rw [if_pos hg])
  · have hg := of_decide_eq_false hg
    repeat' (first
      | (refine ⟨fun hg => ?_, fun hg => ?_⟩ <;> first | contradiction | (conv => whnf))
      | (refine Or.inl ?_; conv => whnf)
      | (refine ⟨_, c_mappedF f 42 chkChain hl (fun l h => c_CheckChain l (hc l h).1 (hc l h).2), ?_⟩; conv => whnf)
      | (refine ⟨_, c_first _ (by simp; omega), ?_⟩; conv => whnf)
      | (refine And.intro ?_ ?_; kernel_rfl; conv => whnf))
    exact int_eq (by rw [e0] at hg; unfold chkField; rw [if_neg hg])
theorem slices_Max (l : List Int) (h0 : l ≠ []) (hp : 0 ≤ l.getD 0 0) (hl : l.length < 1073741824) : PC 65 [iL l] (DV.int .i64 (mxL l)) := by
  have e0 : ((l.map (DV.int .i64)).length : Int) = l.length := by simp
  have hlen : 0 < l.length := List.length_pos_iff.2 h0
  refine pureCall_ofR dh65 rfl ?_
  conv => whnf
  refine ⟨fun hg => ?_, fun hg => ?_⟩
  · exact absurd (of_decide_eq_true hg) (by omega)
  · clear hg
    conv => whnf
    rw [getD_enc' _ _ (0) 0 (by decide) (by omega : (0 : Int) < l.length)]
    refine ⟨idxB (by decide) (by omega : (0 : Int) < l.length) rfl, ?_⟩
    conv => whnf
    refine dwp_loopR (P := Tryd.prog) (G := GC) (k := dk65_0) (b := db65_0) (α := Nat) (fun i => [(0, iL l), (3, DV.int .i64 (mxL (l.take (i + 1)))), (4, .int .i64 ((i + 1 : Nat) : Int))]) (fun _ => []) (fun i => i + 1 ≤ l.length) (fun i => l.length - i) 0 ⟨rfl, ?_, rfl⟩ hlen ?_
    · have e : mxL (l.take (0 + 1)) = l.getD (Int.toNat 0) 0 := by rw [mxL_succ l 0 hlen]; show mx 0 (l.getD 0 0) = l.getD 0 0; unfold mx; split <;> omega
      rw [e]; rfl
    intro i h1
    conv => whnf
    refine ⟨fun hb => ?_, fun hb => ?_⟩
    · have hi : i + 1 < l.length := by have := of_decide_eq_true hb; rw [e0] at this; omega
      conv => whnf
      rw [getD_enc _ _ (i + 1) 0 hi]
      refine ⟨idxA hi rfl, ?_⟩
      conv => whnf
      rw [wrap_succ (i + 1) (by omega)]
      refine ⟨i + 1, rfl, ?_, rfl, by omega, by omega⟩
      rw [mxL_succ l (i + 1) hi]; rfl
    · have hi : i + 1 = l.length := by have := of_decide_eq_false hb; rw [e0] at this; omega
      conv => whnf
      exact int_eq (by rw [hi, List.take_length])
theorem c_end1 (l : List Cel) (h : OkH l) : PC 67 [chn l] (DV.int .i64 (chV l 0)) := by
  refine pureCall_ofR dh67 rfl ?_
  conv => whnf
  repeat' (first
    | (refine ⟨fun hg => ?_, fun hg => ?_⟩ <;> first | contradiction | (conv => whnf))
    | (refine Or.inl ?_; conv => whnf)
    | (refine ⟨_, c_chainVolt _ _ h, ?_⟩; conv => whnf)
    | (refine And.intro ?_ ?_; kernel_rfl; conv => whnf))
  rfl
theorem c_end (f : List (List Cel)) (h : OkF f) : PC 46 [fld f] (DV.int .i64 (endF f)) := by
  have hl := h.1
  have hl2 := h.2.1
  have hne : f ≠ [] := by intro e; rw [e] at hl; simp at hl
  refine pureCall_ofR dh46 rfl ?_
  conv => whnf
  repeat' (first
    | (refine ⟨fun hg => ?_, fun hg => ?_⟩ <;> first | contradiction | (conv => whnf))
    | (refine Or.inl ?_; conv => whnf)
    | (refine ⟨_, c_mappedFi f 67 (fun l => chV l 0) (by omega) (fun l hm => c_end1 l (h.2.2 l hm)), ?_⟩; conv => whnf)
    | (refine And.intro ?_ ?_; kernel_rfl; conv => whnf))
  have h0 : 0 ≤ (f.map fun l => chV l 0).getD 0 0 := by
    have e : (f.map fun l => chV l 0).getD 0 0 = chV (f.getD 0 []) 0 := by simp [List.getD_eq_getElem?_getD, (by omega : 0 < f.length)]
    rw [e]; exact chV0_pos (h.2.2 _ (getD_in [] (by omega)))
  repeat' (first
    | (refine ⟨fun hg => ?_, fun hg => ?_⟩ <;> first | contradiction | (conv => whnf))
    | (refine Or.inl ?_; conv => whnf)
    | (refine ⟨_, slices_Max (f.map fun l => chV l 0) (by simpa using hne) h0 (by simp; omega), ?_⟩; conv => whnf)
    | (refine And.intro ?_ ?_; kernel_rfl; conv => whnf))
  rfl
end Sh

/-! Curves of fields. -/
set_option maxRecDepth 100000
set_option linter.unusedSimpArgs false
set_option linter.unusedVariables false
namespace Sh
open Go Go.Proofs
theorem c_curve (f : List (List Cel)) (h : OkF f) (E : Nat) (hE : E ≤ 1000) (hE1 : 1 ≤ E) : PC 47 [fld f, DV.int .i64 ((E : Int) - 1)] (iL (rng E fun v => curF f v)) := by
  have e0 : ((f.map chn).length : Int) = f.length := by simp
  have hl := h.2.1
  refine pureCall_ofR dh47 rfl ?_
  conv => whnf
  rw [show IntKind.i64.wrap ((E : Int) - 1 + 1) = (E : Int) by rw [wrap_W, W_in (by omega) (by omega)]; omega]
  refine ⟨⟨by omega, by omega, by omega, rfl, rfl⟩, ?_⟩
  rw [Int.toNat_natCast, fsS_zero f]
  conv => whnf
  refine dwp_loopR (P := Tryd.prog) (G := GC) (k := dk47_1) (b := db47_1) (α := Nat) (fun i => [(1, DV.int .i64 ((E : Int) - 1)), (5, .own 12 0 E E), (13, fld f), (14, .int .i64 (f.map chn).length), (15, DV.int .i64 (i))]) (fun i => [(12, .row 1 (fsS f E i 0) false)]) (fun i => i ≤ f.length) (fun i => f.length - i) 0 ⟨rfl, rfl, rfl⟩ (Nat.zero_le _) ?_
  intro i h1
  conv => whnf
  refine ⟨fun hb => ?_, fun hb => ?_⟩
  · have hi : i < f.length := by simpa using hb
    have hc := h.2.2 _ (getD_in [] hi)
    conv => whnf
    rw [getD_enc _ _ (i) [] hi]
    refine ⟨idxA hi rfl, ?_⟩
    conv => whnf
    repeat' (first
      | (refine ⟨fun hg => ?_, fun hg => ?_⟩ <;> first | contradiction | (conv => whnf))
      | (refine Or.inl ?_; conv => whnf)
      | (refine ⟨_, c_currents _ hc E hE hE1, ?_⟩; conv => whnf)
      | (refine And.intro ?_ ?_; kernel_rfl; conv => whnf))
    have hcl : (rng E fun v => curH (f.getD i []) v).length = E := rng_len _ _
    have hcl2 : (((rng E fun v => curH (f.getD i []) v).map (DV.int .i64)).length : Int) = (E : Int) := by rw [List.length_map, hcl]
    refine dwp_loopR (P := Tryd.prog) (G := GC) (k := dk47_0) (b := db47_0) (α := Nat) (fun v => [(1, DV.int .i64 ((E : Int) - 1)), (5, .own 12 0 E E), (13, fld f), (14, .int .i64 (f.map chn).length), (15, DV.int .i64 (i)), (21, iL (rng E fun v => curH (f.getD i []) v)), (22, .int .i64 ((rng E fun v => curH (f.getD i []) v).map (DV.int .i64)).length), (23, DV.int .i64 (v))]) (fun v => [(12, .row 1 (fsS f E i v) false)]) (fun v => v ≤ E) (fun v => E - v) 0 ⟨rfl, rfl, rfl⟩ (Nat.zero_le _) ?_
    intro v hv
    conv => whnf
    refine ⟨fun hb => ?_, fun hb => ?_⟩
    · have hv2 : v < E := by have := of_decide_eq_true hb; rw [hcl2] at this; omega
      have b1 := curFi_bd f hl v i
      have b2 := curH_bd (f.getD i []) v
      have hs : IntKind.i64.wrap (curFi f v i + curH (f.getD i []) v) = curFi f v (i + 1) := by rw [wrap_W, W_in (by omega) (by omega), curFi_succ f v i hi]
      conv => whnf
      rw [getD_enc _ _ (v) 0 (by omega : v < (rng E fun v => curH (f.getD i []) v).length)]
      refine ⟨idxA (by omega : v < (rng E fun v => curH (f.getD i []) v).length) rfl, ?_⟩
      conv => whnf
      rw [rng_getD _ _ hv2]
      refine ⟨⟨(fsS_len _ _ _ _).symm, by omega, by omega⟩, ?_⟩
      conv => whnf
      rw [Int.toNat_natCast, Nat.zero_add, fsS_get hv2]
      refine ⟨⟨(fsS_len _ _ _ _).symm, by decide⟩, ?_⟩
      conv => whnf
      rw [hs]
      refine ⟨⟨(fsS_len _ _ _ _).symm, by omega, by omega⟩, ?_⟩
      conv => whnf
      refine ⟨⟨(fsS_len _ _ _ _).symm, by decide, rfl⟩, ?_⟩
      conv => whnf
      rw [wrap_succ v (by omega)]
      refine ⟨v + 1, rfl, rfl, ?_, by omega, by omega⟩
      show [(12, DObj.row 1 ((fsS f E i v).set (0 + v) (DV.int .i64 (curFi f v (i + 1)))) false)] = _
      rw [Nat.zero_add, fsS_set]
    · have hv2 : v = E := by have := of_decide_eq_false hb; rw [hcl2] at this; omega
      subst hv2
      conv => whnf
      rw [wrap_succ i (by omega)]
      refine ⟨i + 1, rfl, rfl, ?_, hi, by omega⟩
      show [(12, DObj.row 1 (fsS f v i v) false)] = _
      rw [fsS_next]
  · have hi : i = f.length := by have := of_decide_eq_false hb; rw [e0] at this; omega
    conv => whnf
    refine ⟨(fsS_len _ _ _ _).symm, ?_⟩
    show DV.list (window (fsS f E i 0) 0 E) = _
    have := window_full (fsS f E i 0)
    rw [fsS_len] at this
    rw [this, hi, fsS_all]; rfl
end Sh
