/-
  Chapter 3's functions, walked over pure data: the library of the walk, the functions' code over data, and what each computes. (part 7)
-/
import Derived.Test.YtkaglomkahhjcaaGreatDoorP6
import Derived.Test.YtkaglomkahhjcaaGreatDoorProg
set_option linter.unusedVariables false
set_option linter.unusedSimpArgs false
set_option maxRecDepth 100000
namespace Sh
open Go
def db51_0 : DC := (.seq (.seq (.ops false [⟨(some 8), (.mov (.tmp 7)), none, []⟩, ⟨(some 9), (.mov (.tmp 0)), none, []⟩, ⟨(some 10), (.len (.tmp 9)), none, []⟩, ⟨(some 11), (.bin .lss (.tmp 8) (.tmp 10)), none, []⟩]) (.cond (.tmp 11) .skip (.exit 0))) (.seq (.block 1 none (.ops true [⟨(some 14), (.mov (.tmp 6)), none, []⟩, ⟨(some 15), (.mov (.tmp 0)), none, []⟩, ⟨(some 16), (.mov (.tmp 7)), none, []⟩, ⟨(some 17), (.iaddr 3 (.tmp 15) (.tmp 16)), none, [1, 2]⟩, ⟨(some 18), (.faddr 0 1 false (.tmp 17)), none, [3, 1, 2]⟩, ⟨(some 19), (.load none (.tmp 18)), none, [4, 3, 1, 2]⟩, ⟨(some 20), (.faddr 0 1 false (.tmp 3)), none, []⟩, ⟨(some 21), (.load none (.tmp 20)), none, [6]⟩, ⟨(some 22), (.bin .add (.tmp 19) (.tmp 21)), none, [5, 4, 3, 1, 2, 7, 6]⟩, ⟨(some 23), (.mov (.tmp 0)), none, []⟩, ⟨(some 24), (.mov (.tmp 7)), none, []⟩, ⟨(some 25), (.iaddr 3 (.tmp 23) (.tmp 24)), none, [9, 10]⟩, ⟨(some 26), (.faddr 1 1 false (.tmp 25)), none, [11, 9, 10]⟩, ⟨(some 27), (.load none (.tmp 26)), none, [12, 11, 9, 10]⟩, ⟨(some 28), (.faddr 1 1 false (.tmp 3)), none, []⟩, ⟨(some 29), (.load none (.tmp 28)), none, [14]⟩, ⟨(some 30), (.bin .add (.tmp 27) (.tmp 29)), none, [13, 12, 11, 9, 10, 15, 14]⟩, ⟨(some 31), (.mov (.tmp 0)), none, []⟩, ⟨(some 32), (.mov (.tmp 7)), none, []⟩, ⟨(some 33), (.iaddr 3 (.tmp 31) (.tmp 32)), none, [17, 18]⟩, ⟨(some 34), (.faddr 2 1 false (.tmp 33)), none, [19, 17, 18]⟩, ⟨(some 35), (.load none (.tmp 34)), none, [20, 19, 17, 18]⟩, ⟨(some 36), (.faddr 2 1 false (.tmp 3)), none, []⟩, ⟨(some 37), (.load none (.tmp 36)), none, [22]⟩, ⟨(some 38), (.bin .add (.tmp 35) (.tmp 37)), none, [21, 20, 19, 17, 18, 23, 22]⟩, ⟨(some 39), (.build [(.int .i64 0), (.int .i64 0), (.int .i64 0)] [(0, (1, (.tmp 22))), (1, (1, (.tmp 30))), (2, (1, (.tmp 38)))]), none, [8, 5, 4, 3, 1, 2, 7, 6, 16, 13, 12, 11, 9, 10, 15, 14, 24, 21, 20, 19, 17, 18, 23, 22]⟩, ⟨(some 40), (.lit true 3 1 (.agg [(.int .i64 0), (.int .i64 0), (.int .i64 0)]) [(0, (.tmp 39))]), none, [25, 8, 5, 4, 3, 1, 2, 7, 6, 16, 13, 12, 11, 9, 10, 15, 14, 24, 21, 20, 19, 17, 18, 23, 22]⟩, ⟨(some 41), (.append false 3 (.tmp 14) (.tmp 40)), none, [0, 26, 25, 8, 5, 4, 3, 1, 2, 7, 6, 16, 13, 12, 11, 9, 10, 15, 14, 24, 21, 20, 19, 17, 18, 23, 22]⟩, ⟨(some 6), (.mov (.tmp 41)), none, [27, 0, 26, 25, 8, 5, 4, 3, 1, 2, 7, 6, 16, 13, 12, 11, 9, 10, 15, 14, 24, 21, 20, 19, 17, 18, 23, 22]⟩])) (.ops false [⟨(some 12), (.mov (.tmp 7)), none, []⟩, ⟨(some 13), (.bin .add (.tmp 12) (.const (.int .i64 1))), none, []⟩, ⟨(some 7), (.mov (.tmp 13)), none, []⟩])))
def dk51_0 : Keep := ⟨[(6, 3)], [0, 3, 6, 7], [3, 6]⟩
def dc51 : DFunc := ⟨46, 2, [(.tmp 4), (.tmp 5)], (.seq (.ops false [⟨(some 3), (.box 3 (.tmp 1)), none, []⟩, ⟨(some 4), (.mov (.const (.slice none 0 0))), none, []⟩, ⟨(some 5), (.mov (.const (.int .i64 0))), none, []⟩]) (.seq (.ops false [⟨(some 6), (.mov (.const (.slice none 0 0))), none, []⟩]) (.seq (.seq (.ops false [⟨(some 7), (.mov (.const (.int .i64 0))), none, []⟩]) (.block 0 (some ⟨[], [6], [3, 6]⟩) (.loop dk51_0 db51_0))) (.seq (.seq (.ops false [⟨(some 42), (.mov (.tmp 6)), none, []⟩, ⟨(some 43), (.call (.func 21) [(.tmp 42)]), none, []⟩, ⟨(some 44), (.bin .neq (.tmp 43) (.const (.int .i64 0))), none, []⟩]) (.cond (.tmp 44) (.seq (.ops false [⟨(some 4), (.mov (.const (.slice none 0 0))), none, []⟩, ⟨(some 5), (.mov (.const (.int .i64 4))), none, []⟩]) .ret) .skip)) (.seq (.ops false [⟨(some 45), (.mov (.tmp 6)), none, []⟩, ⟨(some 4), (.mov (.tmp 45)), none, []⟩, ⟨(some 5), (.mov (.const (.int .i64 0))), none, []⟩]) .ret)))))⟩
theorem dh51 : cProg Go.Proofs.Tryz.prog ⟨[(0, ⟨[(6, 3)], [0, 3, 6, 7], [3, 6]⟩)], [(0, ⟨[], [6], [3, 6]⟩)], [40]⟩ 51 = some dc51 := by kernel_rfl
def db52_0 : DC := (.seq (.seq (.ops false [⟨(some 11), (.mov (.tmp 5)), none, []⟩, ⟨(some 12), (.mov (.tmp 0)), none, []⟩, ⟨(some 13), (.len (.tmp 12)), none, []⟩, ⟨(some 14), (.bin .lss (.tmp 11) (.tmp 13)), none, []⟩]) (.cond (.tmp 14) .skip (.exit 0))) (.seq (.block 1 none (.seq (.ops true [⟨(some 17), (.mov (.tmp 0)), none, []⟩, ⟨(some 18), (.mov (.tmp 5)), none, []⟩, ⟨(some 19), (.iaddr 4 (.tmp 17) (.tmp 18)), none, [0, 1]⟩, ⟨(some 20), (.load (some 4) (.tmp 19)), none, [2, 0, 1]⟩, ⟨(some 21), (.mov (.tmp 1)), none, []⟩, ⟨(some 22), (.mov (.tmp 5)), none, []⟩, ⟨(some 23), (.iaddr 4 (.tmp 21) (.tmp 22)), none, [4, 5]⟩, ⟨(some 24), (.load (some 4) (.tmp 23)), none, [6, 4, 5]⟩, ⟨(some 25), (.eqA true [1, 1, 1, 1] (.tmp 20) (.tmp 24)), none, [3, 2, 0, 1, 7, 6, 4, 5]⟩]) (.cond (.tmp 25) (.seq (.ops false [⟨(some 4), (.mov (.const (.bool false))), none, []⟩]) .ret) .skip))) (.ops false [⟨(some 15), (.mov (.tmp 5)), none, []⟩, ⟨(some 16), (.bin .add (.tmp 15) (.const (.int .i64 1))), none, []⟩, ⟨(some 5), (.mov (.tmp 16)), none, []⟩])))
def dk52_0 : Keep := ⟨[], [0, 1, 5], []⟩
def dc52 : DFunc := ⟨26, 2, [(.tmp 4)], (.seq (.ops false [⟨(some 4), (.mov (.const (.bool false))), none, []⟩]) (.seq (.seq (.ops false [⟨(some 6), (.mov (.tmp 0)), none, []⟩, ⟨(some 7), (.len (.tmp 6)), none, []⟩, ⟨(some 8), (.mov (.tmp 1)), none, []⟩, ⟨(some 9), (.len (.tmp 8)), none, []⟩, ⟨(some 10), (.bin .neq (.tmp 7) (.tmp 9)), none, []⟩]) (.cond (.tmp 10) (.seq (.ops false [⟨(some 4), (.mov (.const (.bool false))), none, []⟩]) .ret) .skip)) (.seq (.seq (.ops false [⟨(some 5), (.mov (.const (.int .i64 0))), none, []⟩]) (.block 0 (some ⟨[], [], []⟩) (.loop dk52_0 db52_0))) (.seq (.ops false [⟨(some 4), (.mov (.const (.bool true))), none, []⟩]) .ret))))⟩
theorem dh52 : cProg Go.Proofs.Tryz.prog ⟨[(0, ⟨[], [0, 1, 5], []⟩)], [(0, ⟨[], [], []⟩)], []⟩ 52 = some dc52 := by kernel_rfl
def db53_0 : DC := (.seq (.ops false [⟨(some 9), (.bin .lss (.tmp 8) (.tmp 7)), none, []⟩]) (.seq (.cond (.tmp 9) .skip (.exit 0)) (.seq (.block 1 none (.seq (.ops false [⟨(some 10), (.iaddr 4 (.tmp 6) (.tmp 8)), none, []⟩, ⟨(some 11), (.load (some 4) (.tmp 10)), none, []⟩, ⟨(some 5), (.alloc (.agg [(.int .i64 0), (.int .i64 0), (.int .i64 0), (.int .i64 0)]) 4), none, []⟩, ⟨none, (.store 4 (.tmp 5) (.tmp 11)), none, []⟩]) (.ops false [⟨(some 12), (.mov (.tmp 3)), none, []⟩, ⟨(some 13), (.load (some 4) (.tmp 5)), none, []⟩, ⟨(some 14), (.lit true 4 1 (.agg [(.int .i64 0), (.int .i64 0), (.int .i64 0), (.int .i64 0)]) [(0, (.tmp 13))]), none, []⟩, ⟨(some 15), (.append false 4 (.tmp 12) (.tmp 14)), none, []⟩, ⟨(some 3), (.mov (.tmp 15)), none, []⟩]))) (.ops false [⟨(some 16), (.bin .add (.tmp 8) (.const (.int .i64 1))), none, []⟩, ⟨(some 8), (.mov (.tmp 16)), none, []⟩]))))
def dk53_0 : Keep := ⟨[(3, 4)], [3, 6, 7, 8], [3]⟩
def dc53 : DFunc := ⟨18, 1, [(.tmp 2)], (.seq (.ops false [⟨(some 2), (.mov (.const (.slice none 0 0))), none, []⟩]) (.seq (.ops false [⟨(some 3), (.mov (.const (.slice none 0 0))), none, []⟩]) (.seq (.seq (.ops false [⟨(some 6), (.mov (.tmp 0)), none, []⟩, ⟨(some 7), (.len (.tmp 6)), none, []⟩, ⟨(some 8), (.mov (.const (.int .i64 0))), none, []⟩]) (.block 0 (some ⟨[], [3], [3]⟩) (.loop dk53_0 db53_0))) (.seq (.ops false [⟨(some 17), (.mov (.tmp 3)), none, []⟩, ⟨(some 2), (.mov (.tmp 17)), none, []⟩]) .ret))))⟩
theorem dh53 : cProg Go.Proofs.Tryz.prog ⟨[(0, ⟨[(3, 4)], [3, 6, 7, 8], [3]⟩)], [(0, ⟨[], [3], [3]⟩)], [14]⟩ 53 = some dc53 := by kernel_rfl
def dc80 : DFunc := ⟨22, 2, [(.cell 4 (some 2))], (.seq (.ops false [⟨(some 4), (.alloc (.agg [(.int .i64 0), (.int .i64 0)]) 2), none, []⟩]) (.seq (.seq (.ops false [⟨(some 6), (.mov (.tmp 1)), none, []⟩, ⟨(some 7), (.bin .lss (.tmp 6) (.const (.int .i64 0))), none, []⟩]) (.cond (.tmp 7) (.ops false [⟨(some 8), (.mov (.tmp 0)), none, []⟩, ⟨(some 9), (.bin .sub (.const (.int .i64 0)) (.tmp 8)), none, []⟩, ⟨(some 10), (.mov (.tmp 1)), none, []⟩, ⟨(some 11), (.bin .sub (.const (.int .i64 0)) (.tmp 10)), none, []⟩, ⟨(some 0), (.mov (.tmp 9)), none, []⟩, ⟨(some 1), (.mov (.tmp 11)), none, []⟩]) .skip)) (.seq (.ops false [⟨(some 12), (.mov (.tmp 0)), none, []⟩, ⟨(some 13), (.mov (.tmp 1)), none, []⟩, ⟨(some 14), (.call (.func 143) [(.tmp 12), (.tmp 13)]), none, []⟩, ⟨(some 5), (.mov (.tmp 14)), none, []⟩]) (.seq (.ops true [⟨(some 15), (.mov (.tmp 0)), none, []⟩, ⟨(some 16), (.mov (.tmp 5)), none, []⟩, ⟨(some 17), (.bin .quo (.tmp 15) (.tmp 16)), none, [0, 1]⟩, ⟨(some 18), (.mov (.tmp 1)), none, []⟩, ⟨(some 19), (.mov (.tmp 5)), none, []⟩, ⟨(some 20), (.bin .quo (.tmp 18) (.tmp 19)), none, [3, 4]⟩, ⟨(some 21), (.build [(.int .i64 0), (.int .i64 0)] [(0, (1, (.tmp 17))), (1, (1, (.tmp 20)))]), none, [2, 0, 1, 5, 3, 4]⟩, ⟨none, (.store 2 (.tmp 4) (.tmp 21)), none, [6, 2, 0, 1, 5, 3, 4]⟩]) .ret))))⟩
theorem dh80 : cProg Go.Proofs.Tryz.prog ⟨[], [], []⟩ 80 = some dc80 := by kernel_rfl
end Sh


set_option maxRecDepth 100000
namespace Sh
open Go
def db94_0 : DC := (.seq (.seq (.ops false [⟨(some 4), (.mov (.tmp 3)), none, []⟩, ⟨(some 5), (.mov (.tmp 0)), none, []⟩, ⟨(some 6), (.len (.tmp 5)), none, []⟩, ⟨(some 7), (.bin .lss (.tmp 4) (.tmp 6)), none, []⟩]) (.cond (.tmp 7) .skip (.exit 0))) (.seq (.block 1 none (.seq (.ops false [⟨(some 10), (.mov (.tmp 0)), none, []⟩, ⟨(some 11), (.mov (.tmp 3)), none, []⟩, ⟨(some 12), (.iaddr 1 (.tmp 10) (.tmp 11)), none, []⟩, ⟨(some 13), (.load none (.tmp 12)), none, []⟩, ⟨(some 14), (.bin .neq (.tmp 13) (.const (.int .i64 0))), none, []⟩]) (.cond (.tmp 14) (.seq (.ops false [⟨(some 15), (.mov (.tmp 0)), none, []⟩, ⟨(some 16), (.mov (.tmp 3)), none, []⟩, ⟨(some 17), (.iaddr 1 (.tmp 15) (.tmp 16)), none, []⟩, ⟨(some 18), (.load none (.tmp 17)), none, []⟩, ⟨(some 2), (.mov (.tmp 18)), none, []⟩]) .ret) .skip))) (.ops false [⟨(some 8), (.mov (.tmp 3)), none, []⟩, ⟨(some 9), (.bin .add (.tmp 8) (.const (.int .i64 1))), none, []⟩, ⟨(some 3), (.mov (.tmp 9)), none, []⟩])))
def dk94_0 : Keep := ⟨[], [0, 3], []⟩
def dc94 : DFunc := ⟨19, 1, [(.tmp 2)], (.seq (.ops false [⟨(some 2), (.mov (.const (.int .i64 0))), none, []⟩]) (.seq (.seq (.ops false [⟨(some 3), (.mov (.const (.int .i64 0))), none, []⟩]) (.block 0 (some ⟨[], [], []⟩) (.loop dk94_0 db94_0))) (.seq (.ops false [⟨(some 2), (.mov (.const (.int .i64 0))), none, []⟩]) .ret)))⟩
theorem dh94 : cProg Go.Proofs.Tryz.prog ⟨[(0, ⟨[], [0, 3], []⟩)], [(0, ⟨[], [], []⟩)], []⟩ 94 = some dc94 := by kernel_rfl
def dc95 : DFunc := ⟨7, 2, [(.tmp 4)], (.seq (.ops false [⟨(some 4), (.mov (.const (.int .i64 0))), none, []⟩]) (.seq (.seq (.ops false [⟨(some 5), (.mov (.tmp 0)), none, []⟩]) (.cond (.tmp 5) (.seq (.ops false [⟨(some 6), (.mov (.tmp 1)), none, []⟩, ⟨(some 4), (.mov (.tmp 6)), none, []⟩]) .ret) .skip)) (.seq (.ops false [⟨(some 4), (.mov (.const (.int .i64 0))), none, []⟩]) .ret)))⟩
theorem dh95 : cProg Go.Proofs.Tryz.prog ⟨[], [], []⟩ 95 = some dc95 := by kernel_rfl
def dc96 : DFunc := ⟨16, 3, [(.tmp 6)], (.seq (.ops false [⟨(some 6), (.mov (.const (.int .i64 0))), none, []⟩]) (.seq (.ops false [⟨(some 7), (.mov (.tmp 0)), none, []⟩, ⟨(some 8), (.mov (.tmp 1)), none, []⟩, ⟨(some 9), (.bin .lss (.tmp 7) (.tmp 8)), none, []⟩, ⟨(some 10), (.mov (.tmp 9)), none, []⟩, ⟨(some 11), (.mov (.tmp 0)), (some (10, false)), []⟩, ⟨(some 12), (.mov (.tmp 2)), (some (10, false)), []⟩, ⟨(some 13), (.bin .gtr (.tmp 11) (.tmp 12)), (some (10, false)), []⟩, ⟨(some 14), (.pick (.tmp 10) (.const (.bool true)) (.tmp 13)), none, []⟩, ⟨(some 15), (.call (.func 95) [(.tmp 14), (.const (.int .i64 3))]), none, []⟩, ⟨(some 6), (.mov (.tmp 15)), none, []⟩]) .ret))⟩
theorem dh96 : cProg Go.Proofs.Tryz.prog ⟨[], [], []⟩ 96 = some dc96 := by kernel_rfl
def db97_0 : DC := (.seq (.seq (.ops false [⟨(some 57), (.mov (.tmp 8)), none, []⟩, ⟨(some 58), (.mov (.tmp 0)), none, []⟩, ⟨(some 59), (.len (.tmp 58)), none, []⟩, ⟨(some 60), (.bin .lss (.tmp 57) (.tmp 59)), none, []⟩]) (.cond (.tmp 60) .skip (.exit 2))) (.seq (.block 3 none (.seq (.ops true [⟨(some 63), (.load (some 3) (.tmp 3)), none, []⟩, ⟨(some 64), (.load (some 3) (.tmp 6)), none, []⟩, ⟨(some 65), (.load (some 3) (.tmp 5)), none, []⟩, ⟨(some 66), (.call (.func 101) [(.tmp 64), (.tmp 65)]), none, [1, 2]⟩, ⟨(some 67), (.mov (.tmp 0)), none, []⟩, ⟨(some 68), (.mov (.tmp 8)), none, []⟩, ⟨(some 69), (.iaddr 3 (.tmp 67) (.tmp 68)), none, [4, 5]⟩, ⟨(some 70), (.load (some 3) (.tmp 69)), none, [6, 4, 5]⟩, ⟨(some 71), (.load (some 3) (.tmp 5)), none, []⟩, ⟨(some 72), (.call (.func 101) [(.tmp 70), (.tmp 71)]), none, [7, 6, 4, 5, 8, 3, 1, 2]⟩, ⟨(some 73), (.call (.func 102) [(.tmp 66), (.tmp 72)]), none, [3, 1, 2, 9, 7, 6, 4, 5, 8]⟩, ⟨(some 74), (.call (.func 99) [(.tmp 63), (.tmp 73)]), none, [0, 10, 3, 1, 2, 9, 7, 6, 4, 5, 8]⟩, ⟨(some 75), (.bin .lss (.tmp 74) (.const (.int .i64 0))), none, [11, 0, 10, 3, 1, 2, 9, 7, 6, 4, 5, 8]⟩]) (.cond (.tmp 75) (.seq (.ops false [⟨(some 2), (.mov (.const (.bool false))), none, []⟩]) .ret) .skip))) (.ops false [⟨(some 61), (.mov (.tmp 8)), none, []⟩, ⟨(some 62), (.bin .add (.tmp 61) (.const (.int .i64 1))), none, []⟩, ⟨(some 8), (.mov (.tmp 62)), none, []⟩])))
def dk97_0 : Keep := ⟨[], [0, 3, 4, 5, 6, 8], [3, 5, 6, 7]⟩
def db97_1 : DC := (.seq (.seq (.ops false [⟨(some 11), (.mov (.tmp 4)), none, []⟩, ⟨(some 12), (.mov (.tmp 0)), none, []⟩, ⟨(some 13), (.len (.tmp 12)), none, []⟩, ⟨(some 14), (.bin .lss (.tmp 11) (.tmp 13)), none, []⟩]) (.cond (.tmp 14) .skip (.exit 0))) (.seq (.block 1 (some ⟨[], [0, 3, 4], [3]⟩) (.seq (.ops true [⟨(some 17), (.mov (.tmp 0)), none, []⟩, ⟨(some 18), (.mov (.tmp 4)), none, []⟩, ⟨(some 19), (.iaddr 3 (.tmp 17) (.tmp 18)), none, [0, 1]⟩, ⟨(some 20), (.load (some 3) (.tmp 19)), none, [2, 0, 1]⟩, ⟨(some 21), (.mov (.tmp 0)), none, []⟩, ⟨(some 22), (.mov (.tmp 4)), none, []⟩, ⟨(some 23), (.bin .add (.tmp 22) (.const (.int .i64 1))), none, [5]⟩, ⟨(some 24), (.mov (.tmp 0)), none, []⟩, ⟨(some 25), (.len (.tmp 24)), none, [7]⟩, ⟨(some 26), (.bin .rem (.tmp 23) (.tmp 25)), none, [6, 5, 8, 7]⟩, ⟨(some 27), (.iaddr 3 (.tmp 21) (.tmp 26)), none, [4, 9, 6, 5, 8, 7]⟩, ⟨(some 28), (.load (some 3) (.tmp 27)), none, [10, 4, 9, 6, 5, 8, 7]⟩, ⟨(some 29), (.mov (.tmp 0)), none, []⟩, ⟨(some 30), (.mov (.tmp 4)), none, []⟩, ⟨(some 31), (.bin .add (.tmp 30) (.const (.int .i64 2))), none, [13]⟩, ⟨(some 32), (.mov (.tmp 0)), none, []⟩, ⟨(some 33), (.len (.tmp 32)), none, [15]⟩, ⟨(some 34), (.bin .rem (.tmp 31) (.tmp 33)), none, [14, 13, 16, 15]⟩, ⟨(some 35), (.iaddr 3 (.tmp 29) (.tmp 34)), none, [12, 17, 14, 13, 16, 15]⟩, ⟨(some 36), (.load (some 3) (.tmp 35)), none, [18, 12, 17, 14, 13, 16, 15]⟩, ⟨(some 5), (.alloc (.agg [(.int .i64 0), (.int .i64 0), (.int .i64 0)]) 3), none, []⟩, ⟨(some 6), (.alloc (.agg [(.int .i64 0), (.int .i64 0), (.int .i64 0)]) 3), none, []⟩, ⟨(some 7), (.alloc (.agg [(.int .i64 0), (.int .i64 0), (.int .i64 0)]) 3), none, []⟩, ⟨none, (.store 3 (.tmp 5) (.tmp 20)), none, [20, 3, 2, 0, 1, 21, 22]⟩, ⟨none, (.store 3 (.tmp 6) (.tmp 28)), none, [21, 11, 10, 4, 9, 6, 5, 8, 7, 23, 20, 3, 2, 0, 1, 22]⟩, ⟨none, (.store 3 (.tmp 7) (.tmp 36)), none, [22, 19, 18, 12, 17, 14, 13, 16, 15, 24, 21, 11, 10, 4, 9, 6, 5, 8, 7, 23, 20, 3, 2, 0, 1]⟩]) (.seq (.seq (.ops true [⟨(some 37), (.load (some 3) (.tmp 3)), none, []⟩, ⟨(some 38), (.load (some 3) (.tmp 5)), none, []⟩, ⟨(some 39), (.mov (.tmp 0)), none, []⟩, ⟨(some 40), (.iaddr 3 (.tmp 39) (.const (.int .i64 0))), none, [2]⟩, ⟨(some 41), (.load (some 3) (.tmp 40)), none, [3, 2]⟩, ⟨(some 42), (.call (.func 101) [(.tmp 38), (.tmp 41)]), none, [1, 4, 3, 2]⟩, ⟨(some 43), (.call (.func 99) [(.tmp 37), (.tmp 42)]), none, [0, 5, 1, 4, 3, 2]⟩, ⟨(some 44), (.bin .neq (.tmp 43) (.const (.int .i64 0))), none, [6, 0, 5, 1, 4, 3, 2]⟩, ⟨(some 45), (.mov (.tmp 44)), none, [7, 6, 0, 5, 1, 4, 3, 2]⟩, ⟨(some 46), (.load (some 3) (.tmp 3)), (some (45, false)), [8, 7, 6, 0, 5, 1, 4, 3, 2]⟩, ⟨(some 47), (.load (some 3) (.tmp 6)), (some (45, false)), [8, 7, 6, 0, 5, 1, 4, 3, 2]⟩, ⟨(some 48), (.load (some 3) (.tmp 5)), (some (45, false)), [8, 7, 6, 0, 5, 1, 4, 3, 2]⟩, ⟨(some 49), (.call (.func 101) [(.tmp 47), (.tmp 48)]), (some (45, false)), [10, 8, 7, 6, 0, 5, 1, 4, 3, 2, 11]⟩, ⟨(some 50), (.load (some 3) (.tmp 7)), (some (45, false)), [8, 7, 6, 0, 5, 1, 4, 3, 2]⟩, ⟨(some 51), (.load (some 3) (.tmp 6)), (some (45, false)), [8, 7, 6, 0, 5, 1, 4, 3, 2]⟩, ⟨(some 52), (.call (.func 101) [(.tmp 50), (.tmp 51)]), (some (45, false)), [13, 8, 7, 6, 0, 5, 1, 4, 3, 2, 14, 12, 10, 11]⟩, ⟨(some 53), (.call (.func 102) [(.tmp 49), (.tmp 52)]), (some (45, false)), [12, 10, 8, 7, 6, 0, 5, 1, 4, 3, 2, 11, 15, 13, 14]⟩, ⟨(some 54), (.call (.func 99) [(.tmp 46), (.tmp 53)]), (some (45, false)), [9, 8, 7, 6, 0, 5, 1, 4, 3, 2, 16, 12, 10, 11, 15, 13, 14]⟩, ⟨(some 55), (.bin .leq (.tmp 54) (.const (.int .i64 0))), (some (45, false)), [17, 9, 8, 7, 6, 0, 5, 1, 4, 3, 2, 16, 12, 10, 11, 15, 13, 14]⟩, ⟨(some 56), (.pick (.tmp 45) (.const (.bool true)) (.tmp 55)), none, [8, 7, 6, 0, 5, 1, 4, 3, 2, 18, 17, 9, 16, 12, 10, 11, 15, 13, 14]⟩]) (.cond (.tmp 56) (.seq (.ops false [⟨(some 2), (.mov (.const (.bool false))), none, []⟩]) .ret) .skip)) (.seq (.ops false [⟨(some 8), (.mov (.const (.int .i64 0))), none, []⟩]) (.block 2 (some ⟨[], [0, 3, 4], [3, 5, 6, 7]⟩) (.loop dk97_0 db97_0)))))) (.ops false [⟨(some 15), (.mov (.tmp 4)), none, []⟩, ⟨(some 16), (.bin .add (.tmp 15) (.const (.int .i64 1))), none, []⟩, ⟨(some 4), (.mov (.tmp 16)), none, []⟩])))
def dk97_1 : Keep := ⟨[], [0, 3, 4], [3]⟩
def dc97 : DFunc := ⟨76, 1, [(.tmp 2)], (.seq (.ops false [⟨(some 2), (.mov (.const (.bool false))), none, []⟩]) (.seq (.ops false [⟨(some 9), (.mov (.tmp 0)), none, []⟩, ⟨(some 10), (.call (.func 98) [(.tmp 9)]), none, []⟩, ⟨(some 3), (.alloc (.agg [(.int .i64 0), (.int .i64 0), (.int .i64 0)]) 3), none, []⟩, ⟨none, (.store 3 (.tmp 3) (.tmp 10)), none, []⟩]) (.seq (.seq (.ops false [⟨(some 4), (.mov (.const (.int .i64 0))), none, []⟩]) (.block 0 (some ⟨[], [], [3]⟩) (.loop dk97_1 db97_1))) (.seq (.ops false [⟨(some 2), (.mov (.const (.bool true))), none, []⟩]) .ret))))⟩
theorem dh97 : cProg Go.Proofs.Tryz.prog ⟨[(0, ⟨[], [0, 3, 4], [3]⟩), (2, ⟨[], [0, 3, 4, 5, 6, 8], [3, 5, 6, 7]⟩)], [(2, ⟨[], [0, 3, 4], [3, 5, 6, 7]⟩), (1, ⟨[], [0, 3, 4], [3]⟩), (0, ⟨[], [], [3]⟩)], []⟩ 97 = some dc97 := by kernel_rfl
def dc98 : DFunc := ⟨18, 1, [(.cell 2 (some 3))], (.seq (.ops false [⟨(some 2), (.alloc (.agg [(.int .i64 0), (.int .i64 0), (.int .i64 0)]) 3), none, []⟩]) (.seq (.ops true [⟨(some 3), (.mov (.tmp 0)), none, []⟩, ⟨(some 4), (.iaddr 3 (.tmp 3) (.const (.int .i64 1))), none, [0]⟩, ⟨(some 5), (.load (some 3) (.tmp 4)), none, [1, 0]⟩, ⟨(some 6), (.mov (.tmp 0)), none, []⟩, ⟨(some 7), (.iaddr 3 (.tmp 6) (.const (.int .i64 0))), none, [3]⟩, ⟨(some 8), (.load (some 3) (.tmp 7)), none, [4, 3]⟩, ⟨(some 9), (.call (.func 101) [(.tmp 5), (.tmp 8)]), none, [2, 1, 0, 5, 4, 3]⟩, ⟨(some 10), (.mov (.tmp 0)), none, []⟩, ⟨(some 11), (.iaddr 3 (.tmp 10) (.const (.int .i64 2))), none, [7]⟩, ⟨(some 12), (.load (some 3) (.tmp 11)), none, [8, 7]⟩, ⟨(some 13), (.mov (.tmp 0)), none, []⟩, ⟨(some 14), (.iaddr 3 (.tmp 13) (.const (.int .i64 0))), none, [10]⟩, ⟨(some 15), (.load (some 3) (.tmp 14)), none, [11, 10]⟩, ⟨(some 16), (.call (.func 101) [(.tmp 12), (.tmp 15)]), none, [9, 8, 7, 12, 11, 10, 6, 2, 1, 0, 5, 4, 3]⟩, ⟨(some 17), (.call (.func 102) [(.tmp 9), (.tmp 16)]), none, [6, 2, 1, 0, 5, 4, 3, 13, 9, 8, 7, 12, 11, 10]⟩, ⟨none, (.store 3 (.tmp 2) (.tmp 17)), none, [14, 6, 2, 1, 0, 5, 4, 3, 13, 9, 8, 7, 12, 11, 10]⟩]) .ret))⟩
theorem dh98 : cProg Go.Proofs.Tryz.prog ⟨[], [], []⟩ 98 = some dc98 := by kernel_rfl
def dc99 : DFunc := ⟨22, 2, [(.tmp 4)], (.seq (.ops false [⟨(some 2), (.box 3 (.tmp 0)), none, []⟩, ⟨(some 3), (.box 3 (.tmp 1)), none, []⟩, ⟨(some 4), (.mov (.const (.int .i64 0))), none, []⟩]) (.seq (.ops false [⟨(some 5), (.faddr 0 1 false (.tmp 2)), none, []⟩, ⟨(some 6), (.load none (.tmp 5)), none, []⟩, ⟨(some 7), (.faddr 0 1 false (.tmp 3)), none, []⟩, ⟨(some 8), (.load none (.tmp 7)), none, []⟩, ⟨(some 9), (.bin .mul (.tmp 6) (.tmp 8)), none, []⟩, ⟨(some 10), (.faddr 1 1 false (.tmp 2)), none, []⟩, ⟨(some 11), (.load none (.tmp 10)), none, []⟩, ⟨(some 12), (.faddr 1 1 false (.tmp 3)), none, []⟩, ⟨(some 13), (.load none (.tmp 12)), none, []⟩, ⟨(some 14), (.bin .mul (.tmp 11) (.tmp 13)), none, []⟩, ⟨(some 15), (.bin .add (.tmp 9) (.tmp 14)), none, []⟩, ⟨(some 16), (.faddr 2 1 false (.tmp 2)), none, []⟩, ⟨(some 17), (.load none (.tmp 16)), none, []⟩, ⟨(some 18), (.faddr 2 1 false (.tmp 3)), none, []⟩, ⟨(some 19), (.load none (.tmp 18)), none, []⟩, ⟨(some 20), (.bin .mul (.tmp 17) (.tmp 19)), none, []⟩, ⟨(some 21), (.bin .add (.tmp 15) (.tmp 20)), none, []⟩, ⟨(some 4), (.mov (.tmp 21)), none, []⟩]) .ret))⟩
theorem dh99 : cProg Go.Proofs.Tryz.prog ⟨[], [], []⟩ 99 = some dc99 := by kernel_rfl
def dc101 : DFunc := ⟨21, 2, [(.cell 4 (some 3))], (.seq (.ops false [⟨(some 2), (.box 3 (.tmp 0)), none, []⟩, ⟨(some 3), (.box 3 (.tmp 1)), none, []⟩, ⟨(some 4), (.alloc (.agg [(.int .i64 0), (.int .i64 0), (.int .i64 0)]) 3), none, []⟩]) (.seq (.ops false [⟨(some 5), (.faddr 0 1 false (.tmp 2)), none, []⟩, ⟨(some 6), (.load none (.tmp 5)), none, []⟩, ⟨(some 7), (.faddr 0 1 false (.tmp 3)), none, []⟩, ⟨(some 8), (.load none (.tmp 7)), none, []⟩, ⟨(some 9), (.bin .sub (.tmp 6) (.tmp 8)), none, []⟩, ⟨(some 10), (.faddr 1 1 false (.tmp 2)), none, []⟩, ⟨(some 11), (.load none (.tmp 10)), none, []⟩, ⟨(some 12), (.faddr 1 1 false (.tmp 3)), none, []⟩, ⟨(some 13), (.load none (.tmp 12)), none, []⟩, ⟨(some 14), (.bin .sub (.tmp 11) (.tmp 13)), none, []⟩, ⟨(some 15), (.faddr 2 1 false (.tmp 2)), none, []⟩, ⟨(some 16), (.load none (.tmp 15)), none, []⟩, ⟨(some 17), (.faddr 2 1 false (.tmp 3)), none, []⟩, ⟨(some 18), (.load none (.tmp 17)), none, []⟩, ⟨(some 19), (.bin .sub (.tmp 16) (.tmp 18)), none, []⟩, ⟨(some 20), (.build [(.int .i64 0), (.int .i64 0), (.int .i64 0)] [(0, (1, (.tmp 9))), (1, (1, (.tmp 14))), (2, (1, (.tmp 19)))]), none, []⟩, ⟨none, (.store 3 (.tmp 4) (.tmp 20)), none, []⟩]) .ret))⟩
theorem dh101 : cProg Go.Proofs.Tryz.prog ⟨[], [], []⟩ 101 = some dc101 := by kernel_rfl
def dc102 : DFunc := ⟨39, 2, [(.cell 4 (some 3))], (.seq (.ops false [⟨(some 2), (.box 3 (.tmp 0)), none, []⟩, ⟨(some 3), (.box 3 (.tmp 1)), none, []⟩, ⟨(some 4), (.alloc (.agg [(.int .i64 0), (.int .i64 0), (.int .i64 0)]) 3), none, []⟩]) (.seq (.ops false [⟨(some 5), (.faddr 1 1 false (.tmp 2)), none, []⟩, ⟨(some 6), (.load none (.tmp 5)), none, []⟩, ⟨(some 7), (.faddr 2 1 false (.tmp 3)), none, []⟩, ⟨(some 8), (.load none (.tmp 7)), none, []⟩, ⟨(some 9), (.bin .mul (.tmp 6) (.tmp 8)), none, []⟩, ⟨(some 10), (.faddr 2 1 false (.tmp 2)), none, []⟩, ⟨(some 11), (.load none (.tmp 10)), none, []⟩, ⟨(some 12), (.faddr 1 1 false (.tmp 3)), none, []⟩, ⟨(some 13), (.load none (.tmp 12)), none, []⟩, ⟨(some 14), (.bin .mul (.tmp 11) (.tmp 13)), none, []⟩, ⟨(some 15), (.bin .sub (.tmp 9) (.tmp 14)), none, []⟩, ⟨(some 16), (.faddr 2 1 false (.tmp 2)), none, []⟩, ⟨(some 17), (.load none (.tmp 16)), none, []⟩, ⟨(some 18), (.faddr 0 1 false (.tmp 3)), none, []⟩, ⟨(some 19), (.load none (.tmp 18)), none, []⟩, ⟨(some 20), (.bin .mul (.tmp 17) (.tmp 19)), none, []⟩, ⟨(some 21), (.faddr 0 1 false (.tmp 2)), none, []⟩, ⟨(some 22), (.load none (.tmp 21)), none, []⟩, ⟨(some 23), (.faddr 2 1 false (.tmp 3)), none, []⟩, ⟨(some 24), (.load none (.tmp 23)), none, []⟩, ⟨(some 25), (.bin .mul (.tmp 22) (.tmp 24)), none, []⟩, ⟨(some 26), (.bin .sub (.tmp 20) (.tmp 25)), none, []⟩, ⟨(some 27), (.faddr 0 1 false (.tmp 2)), none, []⟩, ⟨(some 28), (.load none (.tmp 27)), none, []⟩, ⟨(some 29), (.faddr 1 1 false (.tmp 3)), none, []⟩, ⟨(some 30), (.load none (.tmp 29)), none, []⟩, ⟨(some 31), (.bin .mul (.tmp 28) (.tmp 30)), none, []⟩, ⟨(some 32), (.faddr 1 1 false (.tmp 2)), none, []⟩, ⟨(some 33), (.load none (.tmp 32)), none, []⟩, ⟨(some 34), (.faddr 0 1 false (.tmp 3)), none, []⟩, ⟨(some 35), (.load none (.tmp 34)), none, []⟩, ⟨(some 36), (.bin .mul (.tmp 33) (.tmp 35)), none, []⟩, ⟨(some 37), (.bin .sub (.tmp 31) (.tmp 36)), none, []⟩, ⟨(some 38), (.build [(.int .i64 0), (.int .i64 0), (.int .i64 0)] [(0, (1, (.tmp 15))), (1, (1, (.tmp 26))), (2, (1, (.tmp 37)))]), none, []⟩, ⟨none, (.store 3 (.tmp 4) (.tmp 38)), none, []⟩]) .ret))⟩
theorem dh102 : cProg Go.Proofs.Tryz.prog ⟨[], [], []⟩ 102 = some dc102 := by kernel_rfl
end Sh


set_option maxRecDepth 100000
namespace Sh
open Go
def db143_0 : DC := (.seq (.seq (.ops false [⟨(some 13), (.mov (.tmp 1)), none, []⟩, ⟨(some 14), (.bin .neq (.tmp 13) (.const (.int .i64 0))), none, []⟩]) (.cond (.tmp 14) .skip (.exit 0))) (.block 1 none (.ops true [⟨(some 15), (.mov (.tmp 1)), none, []⟩, ⟨(some 16), (.mov (.tmp 0)), none, []⟩, ⟨(some 17), (.mov (.tmp 1)), none, []⟩, ⟨(some 18), (.bin .rem (.tmp 16) (.tmp 17)), none, [1, 2]⟩, ⟨(some 0), (.mov (.tmp 15)), none, [0, 1]⟩, ⟨(some 1), (.mov (.tmp 18)), none, [3, 1, 2, 4, 0]⟩])))
def dk143_0 : Keep := ⟨[], [0, 1], []⟩
def dc143 : DFunc := ⟨20, 2, [(.tmp 4)], (.seq (.ops false [⟨(some 4), (.mov (.const (.int .i64 0))), none, []⟩]) (.seq (.ops false [⟨(some 5), (.mov (.tmp 0)), none, []⟩, ⟨(some 6), (.mov (.tmp 0)), none, []⟩, ⟨(some 7), (.bin .sub (.const (.int .i64 0)) (.tmp 6)), none, []⟩, ⟨(some 8), (.minmax true (.tmp 5) [(.tmp 7)]), none, []⟩, ⟨(some 9), (.mov (.tmp 1)), none, []⟩, ⟨(some 10), (.mov (.tmp 1)), none, []⟩, ⟨(some 11), (.bin .sub (.const (.int .i64 0)) (.tmp 10)), none, []⟩, ⟨(some 12), (.minmax true (.tmp 9) [(.tmp 11)]), none, []⟩, ⟨(some 0), (.mov (.tmp 8)), none, []⟩, ⟨(some 1), (.mov (.tmp 12)), none, []⟩]) (.seq (.block 0 (some ⟨[], [0], []⟩) (.loop dk143_0 db143_0)) (.seq (.ops false [⟨(some 19), (.mov (.tmp 0)), none, []⟩, ⟨(some 4), (.mov (.tmp 19)), none, []⟩]) .ret))))⟩
theorem dh143 : cProg Go.Proofs.Tryz.prog ⟨[(0, ⟨[], [0, 1], []⟩)], [(0, ⟨[], [0], []⟩)], []⟩ 143 = some dc143 := by kernel_rfl
end Sh


set_option maxRecDepth 100000
namespace Sh
open Go
def dc16 : DFunc := ⟨6, 1, [(.tmp 2)], (.seq (.ops false [⟨(some 2), (.mov (.const (.slice none 0 0))), none, []⟩]) (.seq (.ops false [⟨(some 3), (.lit true 3 0 (.agg [(.int .i64 0), (.int .i64 0), (.int .i64 0)]) []), none, []⟩, ⟨(some 4), (.mov (.tmp 0)), none, []⟩, ⟨(some 5), (.append true 3 (.tmp 3) (.tmp 4)), none, []⟩, ⟨(some 2), (.mov (.tmp 5)), none, []⟩]) .ret))⟩
theorem dh16 : cProg Go.Proofs.Tryz.prog ⟨[], [], [3, 5]⟩ 16 = some dc16 := by kernel_rfl
def dc20 : DFunc := ⟨5, 1, [(.tmp 2)], (.seq (.ops false [⟨(some 2), (.mov (.const (.int .i64 0))), none, []⟩]) (.seq (.ops false [⟨(some 3), (.mov (.tmp 0)), none, []⟩, ⟨(some 4), (.call (.func 94) [(.tmp 3)]), none, []⟩, ⟨(some 2), (.mov (.tmp 4)), none, []⟩]) .ret))⟩
theorem dh20 : cProg Go.Proofs.Tryz.prog ⟨[], [], []⟩ 20 = some dc20 := by kernel_rfl
def db21_0 : DC := (.seq (.seq (.ops false [⟨(some 19), (.mov (.tmp 4)), none, []⟩, ⟨(some 20), (.mov (.tmp 0)), none, []⟩, ⟨(some 21), (.len (.tmp 20)), none, []⟩, ⟨(some 22), (.bin .lss (.tmp 19) (.tmp 21)), none, []⟩]) (.cond (.tmp 22) .skip (.exit 0))) (.seq (.block 1 none (.seq (.ops true [⟨(some 25), (.mov (.tmp 0)), none, []⟩, ⟨(some 26), (.mov (.tmp 4)), none, []⟩, ⟨(some 27), (.iaddr 3 (.tmp 25) (.tmp 26)), none, [0, 1]⟩, ⟨(some 28), (.faddr 0 1 false (.tmp 27)), none, [2, 0, 1]⟩, ⟨(some 29), (.load none (.tmp 28)), none, [3, 2, 0, 1]⟩, ⟨(some 30), (.call (.func 96) [(.tmp 29), (.const (.int .i64 (-1000))), (.const (.int .i64 1000))]), none, [4, 3, 2, 0, 1]⟩, ⟨(some 31), (.mov (.tmp 0)), none, []⟩, ⟨(some 32), (.mov (.tmp 4)), none, []⟩, ⟨(some 33), (.iaddr 3 (.tmp 31) (.tmp 32)), none, [6, 7]⟩, ⟨(some 34), (.faddr 1 1 false (.tmp 33)), none, [8, 6, 7]⟩, ⟨(some 35), (.load none (.tmp 34)), none, [9, 8, 6, 7]⟩, ⟨(some 36), (.call (.func 96) [(.tmp 35), (.const (.int .i64 (-1000))), (.const (.int .i64 1000))]), none, [10, 9, 8, 6, 7, 5, 4, 3, 2, 0, 1]⟩, ⟨(some 37), (.mov (.tmp 0)), none, []⟩, ⟨(some 38), (.mov (.tmp 4)), none, []⟩, ⟨(some 39), (.iaddr 3 (.tmp 37) (.tmp 38)), none, [12, 13]⟩, ⟨(some 40), (.faddr 2 1 false (.tmp 39)), none, [14, 12, 13]⟩, ⟨(some 41), (.load none (.tmp 40)), none, [15, 14, 12, 13]⟩, ⟨(some 42), (.call (.func 96) [(.tmp 41), (.const (.int .i64 0)), (.const (.int .i64 1000))]), none, [16, 15, 14, 12, 13, 11, 10, 9, 8, 6, 7, 5, 4, 3, 2, 0, 1]⟩, ⟨(some 43), (.lit true 1 3 (.int .i64 0) [(0, (.tmp 30)), (1, (.tmp 36)), (2, (.tmp 42))]), none, [5, 4, 3, 2, 0, 1, 11, 10, 9, 8, 6, 7, 17, 16, 15, 14, 12, 13]⟩, ⟨(some 44), (.call (.func 94) [(.tmp 43)]), none, [18, 5, 4, 3, 2, 0, 1, 11, 10, 9, 8, 6, 7, 17, 16, 15, 14, 12, 13]⟩, ⟨(some 5), (.mov (.tmp 44)), none, [19, 18, 5, 4, 3, 2, 0, 1, 11, 10, 9, 8, 6, 7, 17, 16, 15, 14, 12, 13]⟩]) (.seq (.ops false [⟨(some 45), (.mov (.tmp 5)), none, []⟩, ⟨(some 46), (.bin .neq (.tmp 45) (.const (.int .i64 0))), none, []⟩]) (.cond (.tmp 46) (.seq (.ops false [⟨(some 47), (.mov (.tmp 5)), none, []⟩, ⟨(some 2), (.mov (.tmp 47)), none, []⟩]) .ret) .skip)))) (.ops false [⟨(some 23), (.mov (.tmp 4)), none, []⟩, ⟨(some 24), (.bin .add (.tmp 23) (.const (.int .i64 1))), none, []⟩, ⟨(some 4), (.mov (.tmp 24)), none, []⟩])))
def dk21_0 : Keep := ⟨[], [0, 4], [14]⟩
def dc21 : DFunc := ⟨52, 1, [(.tmp 2)], (.seq (.ops false [⟨(some 2), (.mov (.const (.int .i64 0))), none, []⟩]) (.seq (.seq (.ops false [⟨(some 6), (.mov (.tmp 0)), none, []⟩, ⟨(some 7), (.len (.tmp 6)), none, []⟩, ⟨(some 8), (.bin .lss (.tmp 7) (.const (.int .i64 3))), none, []⟩, ⟨(some 9), (.call (.func 95) [(.tmp 8), (.const (.int .i64 16))]), none, []⟩, ⟨(some 10), (.mov (.tmp 0)), none, []⟩, ⟨(some 11), (.len (.tmp 10)), none, []⟩, ⟨(some 12), (.bin .gtr (.tmp 11) (.const (.int .i64 6))), none, []⟩, ⟨(some 13), (.call (.func 95) [(.tmp 12), (.const (.int .i64 5))]), none, []⟩, ⟨(some 14), (.lit true 1 2 (.int .i64 0) [(0, (.tmp 9)), (1, (.tmp 13))]), none, []⟩, ⟨(some 15), (.call (.func 94) [(.tmp 14)]), none, []⟩, ⟨(some 3), (.mov (.tmp 15)), none, []⟩]) (.seq (.ops false [⟨(some 16), (.mov (.tmp 3)), none, []⟩, ⟨(some 17), (.bin .neq (.tmp 16) (.const (.int .i64 0))), none, []⟩]) (.cond (.tmp 17) (.seq (.ops false [⟨(some 18), (.mov (.tmp 3)), none, []⟩, ⟨(some 2), (.mov (.tmp 18)), none, []⟩]) .ret) .skip))) (.seq (.seq (.ops false [⟨(some 4), (.mov (.const (.int .i64 0))), none, []⟩]) (.block 0 (some ⟨[], [0], [14]⟩) (.loop dk21_0 db21_0))) (.seq (.ops false [⟨(some 48), (.mov (.tmp 0)), none, []⟩, ⟨(some 49), (.call (.func 97) [(.tmp 48)]), none, []⟩, ⟨(some 50), (.un .not (.tmp 49)), none, []⟩, ⟨(some 51), (.call (.func 95) [(.tmp 50), (.const (.int .i64 1))]), none, []⟩, ⟨(some 2), (.mov (.tmp 51)), none, []⟩]) .ret))))⟩
theorem dh21 : cProg Go.Proofs.Tryz.prog ⟨[(0, ⟨[], [0, 4], [14]⟩)], [(0, ⟨[], [0], [14]⟩)], [14, 43]⟩ 21 = some dc21 := by kernel_rfl
def dc22 : DFunc := ⟨14, 1, [(.tmp 2)], (.seq (.ops false [⟨(some 1), (.box 3 (.tmp 0)), none, []⟩, ⟨(some 2), (.mov (.const (.int .i64 0))), none, []⟩]) (.seq (.ops true [⟨(some 3), (.faddr 0 1 false (.tmp 1)), none, []⟩, ⟨(some 4), (.load none (.tmp 3)), none, [0]⟩, ⟨(some 5), (.call (.func 96) [(.tmp 4), (.const (.int .i64 (-1000))), (.const (.int .i64 1000))]), none, [1, 0]⟩, ⟨(some 6), (.faddr 1 1 false (.tmp 1)), none, []⟩, ⟨(some 7), (.load none (.tmp 6)), none, [3]⟩, ⟨(some 8), (.call (.func 96) [(.tmp 7), (.const (.int .i64 (-1000))), (.const (.int .i64 1000))]), none, [4, 3, 2, 1, 0]⟩, ⟨(some 9), (.faddr 2 1 false (.tmp 1)), none, []⟩, ⟨(some 10), (.load none (.tmp 9)), none, [6]⟩, ⟨(some 11), (.call (.func 96) [(.tmp 10), (.const (.int .i64 1)), (.const (.int .i64 1000))]), none, [7, 6, 5, 4, 3, 2, 1, 0]⟩, ⟨(some 12), (.lit true 1 3 (.int .i64 0) [(0, (.tmp 5)), (1, (.tmp 8)), (2, (.tmp 11))]), none, [2, 1, 0, 5, 4, 3, 8, 7, 6]⟩, ⟨(some 13), (.call (.func 94) [(.tmp 12)]), none, [9, 2, 1, 0, 5, 4, 3, 8, 7, 6]⟩, ⟨(some 2), (.mov (.tmp 13)), none, [10, 9, 2, 1, 0, 5, 4, 3, 8, 7, 6]⟩]) .ret))⟩
theorem dh22 : cProg Go.Proofs.Tryz.prog ⟨[], [], [12]⟩ 22 = some dc22 := by kernel_rfl
def dc48 : DFunc := ⟨14, 1, [(.tmp 2)], (.seq (.ops false [⟨(some 1), (.box 3 (.tmp 0)), none, []⟩, ⟨(some 2), (.mov (.const (.int .i64 0))), none, []⟩]) (.seq (.ops true [⟨(some 3), (.faddr 0 1 false (.tmp 1)), none, []⟩, ⟨(some 4), (.load none (.tmp 3)), none, [0]⟩, ⟨(some 5), (.call (.func 96) [(.tmp 4), (.const (.int .i64 (-2000))), (.const (.int .i64 2000))]), none, [1, 0]⟩, ⟨(some 6), (.faddr 1 1 false (.tmp 1)), none, []⟩, ⟨(some 7), (.load none (.tmp 6)), none, [3]⟩, ⟨(some 8), (.call (.func 96) [(.tmp 7), (.const (.int .i64 (-2000))), (.const (.int .i64 2000))]), none, [4, 3, 2, 1, 0]⟩, ⟨(some 9), (.faddr 2 1 false (.tmp 1)), none, []⟩, ⟨(some 10), (.load none (.tmp 9)), none, [6]⟩, ⟨(some 11), (.call (.func 96) [(.tmp 10), (.const (.int .i64 (-2000))), (.const (.int .i64 2000))]), none, [7, 6, 5, 4, 3, 2, 1, 0]⟩, ⟨(some 12), (.lit true 1 3 (.int .i64 0) [(0, (.tmp 5)), (1, (.tmp 8)), (2, (.tmp 11))]), none, [2, 1, 0, 5, 4, 3, 8, 7, 6]⟩, ⟨(some 13), (.call (.func 94) [(.tmp 12)]), none, [9, 2, 1, 0, 5, 4, 3, 8, 7, 6]⟩, ⟨(some 2), (.mov (.tmp 13)), none, [10, 9, 2, 1, 0, 5, 4, 3, 8, 7, 6]⟩]) .ret))⟩
theorem dh48 : cProg Go.Proofs.Tryz.prog ⟨[], [], [12]⟩ 48 = some dc48 := by kernel_rfl
def db49_0 : DC := (.seq (.seq (.ops false [⟨(some 7), (.mov (.tmp 6)), none, []⟩, ⟨(some 8), (.mov (.tmp 0)), none, []⟩, ⟨(some 9), (.len (.tmp 8)), none, []⟩, ⟨(some 10), (.bin .lss (.tmp 7) (.tmp 9)), none, []⟩]) (.cond (.tmp 10) .skip (.exit 0))) (.seq (.block 1 none (.ops true [⟨(some 13), (.mov (.tmp 5)), none, []⟩, ⟨(some 14), (.mov (.tmp 0)), none, []⟩, ⟨(some 15), (.mov (.tmp 6)), none, []⟩, ⟨(some 16), (.iaddr 3 (.tmp 14) (.tmp 15)), none, [1, 2]⟩, ⟨(some 17), (.faddr 0 1 false (.tmp 16)), none, [3, 1, 2]⟩, ⟨(some 18), (.load none (.tmp 17)), none, [4, 3, 1, 2]⟩, ⟨(some 19), (.faddr 2 1 false (.tmp 3)), none, []⟩, ⟨(some 20), (.load none (.tmp 19)), none, [6]⟩, ⟨(some 21), (.bin .mul (.tmp 18) (.tmp 20)), none, [5, 4, 3, 1, 2, 7, 6]⟩, ⟨(some 22), (.mov (.tmp 0)), none, []⟩, ⟨(some 23), (.mov (.tmp 6)), none, []⟩, ⟨(some 24), (.iaddr 3 (.tmp 22) (.tmp 23)), none, [9, 10]⟩, ⟨(some 25), (.faddr 2 1 false (.tmp 24)), none, [11, 9, 10]⟩, ⟨(some 26), (.load none (.tmp 25)), none, [12, 11, 9, 10]⟩, ⟨(some 27), (.faddr 0 1 false (.tmp 3)), none, []⟩, ⟨(some 28), (.load none (.tmp 27)), none, [14]⟩, ⟨(some 29), (.bin .mul (.tmp 26) (.tmp 28)), none, [13, 12, 11, 9, 10, 15, 14]⟩, ⟨(some 30), (.bin .sub (.tmp 21) (.tmp 29)), none, [8, 5, 4, 3, 1, 2, 7, 6, 16, 13, 12, 11, 9, 10, 15, 14]⟩, ⟨(some 31), (.faddr 2 1 false (.tmp 3)), none, []⟩, ⟨(some 32), (.load none (.tmp 31)), none, [18]⟩, ⟨(some 33), (.call (.func 80) [(.tmp 30), (.tmp 32)]), none, [17, 8, 5, 4, 3, 1, 2, 7, 6, 16, 13, 12, 11, 9, 10, 15, 14, 19, 18]⟩, ⟨(some 34), (.mov (.tmp 0)), none, []⟩, ⟨(some 35), (.mov (.tmp 6)), none, []⟩, ⟨(some 36), (.iaddr 3 (.tmp 34) (.tmp 35)), none, [21, 22]⟩, ⟨(some 37), (.faddr 1 1 false (.tmp 36)), none, [23, 21, 22]⟩, ⟨(some 38), (.load none (.tmp 37)), none, [24, 23, 21, 22]⟩, ⟨(some 39), (.faddr 2 1 false (.tmp 3)), none, []⟩, ⟨(some 40), (.load none (.tmp 39)), none, [26]⟩, ⟨(some 41), (.bin .mul (.tmp 38) (.tmp 40)), none, [25, 24, 23, 21, 22, 27, 26]⟩, ⟨(some 42), (.mov (.tmp 0)), none, []⟩, ⟨(some 43), (.mov (.tmp 6)), none, []⟩, ⟨(some 44), (.iaddr 3 (.tmp 42) (.tmp 43)), none, [29, 30]⟩, ⟨(some 45), (.faddr 2 1 false (.tmp 44)), none, [31, 29, 30]⟩, ⟨(some 46), (.load none (.tmp 45)), none, [32, 31, 29, 30]⟩, ⟨(some 47), (.faddr 1 1 false (.tmp 3)), none, []⟩, ⟨(some 48), (.load none (.tmp 47)), none, [34]⟩, ⟨(some 49), (.bin .mul (.tmp 46) (.tmp 48)), none, [33, 32, 31, 29, 30, 35, 34]⟩, ⟨(some 50), (.bin .sub (.tmp 41) (.tmp 49)), none, [28, 25, 24, 23, 21, 22, 27, 26, 36, 33, 32, 31, 29, 30, 35, 34]⟩, ⟨(some 51), (.faddr 2 1 false (.tmp 3)), none, []⟩, ⟨(some 52), (.load none (.tmp 51)), none, [38]⟩, ⟨(some 53), (.call (.func 80) [(.tmp 50), (.tmp 52)]), none, [37, 28, 25, 24, 23, 21, 22, 27, 26, 36, 33, 32, 31, 29, 30, 35, 34, 39, 38, 20, 17, 8, 5, 4, 3, 1, 2, 7, 6, 16, 13, 12, 11, 9, 10, 15, 14, 19, 18]⟩, ⟨(some 54), (.build [(.int .i64 0), (.int .i64 0), (.int .i64 0), (.int .i64 0)] [(0, (2, (.tmp 33))), (2, (2, (.tmp 53)))]), none, [20, 17, 8, 5, 4, 3, 1, 2, 7, 6, 16, 13, 12, 11, 9, 10, 15, 14, 19, 18, 40, 37, 28, 25, 24, 23, 21, 22, 27, 26, 36, 33, 32, 31, 29, 30, 35, 34, 39, 38]⟩, ⟨(some 55), (.lit true 4 1 (.agg [(.int .i64 0), (.int .i64 0), (.int .i64 0), (.int .i64 0)]) [(0, (.tmp 54))]), none, [41, 20, 17, 8, 5, 4, 3, 1, 2, 7, 6, 16, 13, 12, 11, 9, 10, 15, 14, 19, 18, 40, 37, 28, 25, 24, 23, 21, 22, 27, 26, 36, 33, 32, 31, 29, 30, 35, 34, 39, 38]⟩, ⟨(some 56), (.append false 4 (.tmp 13) (.tmp 55)), none, [0, 42, 41, 20, 17, 8, 5, 4, 3, 1, 2, 7, 6, 16, 13, 12, 11, 9, 10, 15, 14, 19, 18, 40, 37, 28, 25, 24, 23, 21, 22, 27, 26, 36, 33, 32, 31, 29, 30, 35, 34, 39, 38]⟩, ⟨(some 5), (.mov (.tmp 56)), none, [43, 0, 42, 41, 20, 17, 8, 5, 4, 3, 1, 2, 7, 6, 16, 13, 12, 11, 9, 10, 15, 14, 19, 18, 40, 37, 28, 25, 24, 23, 21, 22, 27, 26, 36, 33, 32, 31, 29, 30, 35, 34, 39, 38]⟩])) (.ops false [⟨(some 11), (.mov (.tmp 6)), none, []⟩, ⟨(some 12), (.bin .add (.tmp 11) (.const (.int .i64 1))), none, []⟩, ⟨(some 6), (.mov (.tmp 12)), none, []⟩])))
def dk49_0 : Keep := ⟨[(5, 4)], [0, 3, 5, 6], [3, 5]⟩
def dc49 : DFunc := ⟨58, 2, [(.tmp 4)], (.seq (.ops false [⟨(some 3), (.box 3 (.tmp 1)), none, []⟩, ⟨(some 4), (.mov (.const (.slice none 0 0))), none, []⟩]) (.seq (.ops false [⟨(some 5), (.mov (.const (.slice none 0 0))), none, []⟩]) (.seq (.seq (.ops false [⟨(some 6), (.mov (.const (.int .i64 0))), none, []⟩]) (.block 0 (some ⟨[], [5], [3, 5]⟩) (.loop dk49_0 db49_0))) (.seq (.ops false [⟨(some 57), (.mov (.tmp 5)), none, []⟩, ⟨(some 4), (.mov (.tmp 57)), none, []⟩]) .ret))))⟩
theorem dh49 : cProg Go.Proofs.Tryz.prog ⟨[(0, ⟨[(5, 4)], [0, 3, 5, 6], [3, 5]⟩)], [(0, ⟨[], [5], [3, 5]⟩)], [55]⟩ 49 = some dc49 := by kernel_rfl
def db50_0 : DC := (.seq (.seq (.ops false [⟨(some 9), (.mov (.tmp 6)), none, []⟩, ⟨(some 10), (.mov (.tmp 0)), none, []⟩, ⟨(some 11), (.len (.tmp 10)), none, []⟩, ⟨(some 12), (.bin .lss (.tmp 9) (.tmp 11)), none, []⟩]) (.cond (.tmp 12) .skip (.exit 0))) (.seq (.block 1 none (.seq (.ops true [⟨(some 15), (.mov (.tmp 0)), none, []⟩, ⟨(some 16), (.mov (.tmp 6)), none, []⟩, ⟨(some 17), (.iaddr 3 (.tmp 15) (.tmp 16)), none, [0, 1]⟩, ⟨(some 18), (.load (some 3) (.tmp 17)), none, [2, 0, 1]⟩, ⟨(some 19), (.mov (.tmp 0)), none, []⟩, ⟨(some 20), (.mov (.tmp 6)), none, []⟩, ⟨(some 21), (.bin .add (.tmp 20) (.const (.int .i64 1))), none, [5]⟩, ⟨(some 22), (.mov (.tmp 0)), none, []⟩, ⟨(some 23), (.len (.tmp 22)), none, [7]⟩, ⟨(some 24), (.bin .rem (.tmp 21) (.tmp 23)), none, [6, 5, 8, 7]⟩, ⟨(some 25), (.iaddr 3 (.tmp 19) (.tmp 24)), none, [4, 9, 6, 5, 8, 7]⟩, ⟨(some 26), (.load (some 3) (.tmp 25)), none, [10, 4, 9, 6, 5, 8, 7]⟩, ⟨(some 7), (.alloc (.agg [(.int .i64 0), (.int .i64 0), (.int .i64 0)]) 3), none, []⟩, ⟨(some 8), (.alloc (.agg [(.int .i64 0), (.int .i64 0), (.int .i64 0)]) 3), none, []⟩, ⟨none, (.store 3 (.tmp 7) (.tmp 18)), none, [12, 3, 2, 0, 1, 13]⟩, ⟨none, (.store 3 (.tmp 8) (.tmp 26)), none, [13, 11, 10, 4, 9, 6, 5, 8, 7, 14, 12, 3, 2, 0, 1]⟩]) (.ops false [⟨(some 27), (.mov (.tmp 5)), none, []⟩, ⟨(some 28), (.faddr 0 1 false (.tmp 7)), none, []⟩, ⟨(some 29), (.load none (.tmp 28)), none, []⟩, ⟨(some 30), (.faddr 2 1 false (.tmp 3)), none, []⟩, ⟨(some 31), (.load none (.tmp 30)), none, []⟩, ⟨(some 32), (.bin .mul (.tmp 29) (.tmp 31)), none, []⟩, ⟨(some 33), (.faddr 2 1 false (.tmp 7)), none, []⟩, ⟨(some 34), (.load none (.tmp 33)), none, []⟩, ⟨(some 35), (.faddr 0 1 false (.tmp 3)), none, []⟩, ⟨(some 36), (.load none (.tmp 35)), none, []⟩, ⟨(some 37), (.bin .mul (.tmp 34) (.tmp 36)), none, []⟩, ⟨(some 38), (.bin .sub (.tmp 32) (.tmp 37)), none, []⟩, ⟨(some 39), (.faddr 1 1 false (.tmp 8)), none, []⟩, ⟨(some 40), (.load none (.tmp 39)), none, []⟩, ⟨(some 41), (.faddr 2 1 false (.tmp 3)), none, []⟩, ⟨(some 42), (.load none (.tmp 41)), none, []⟩, ⟨(some 43), (.bin .mul (.tmp 40) (.tmp 42)), none, []⟩, ⟨(some 44), (.faddr 2 1 false (.tmp 8)), none, []⟩, ⟨(some 45), (.load none (.tmp 44)), none, []⟩, ⟨(some 46), (.faddr 1 1 false (.tmp 3)), none, []⟩, ⟨(some 47), (.load none (.tmp 46)), none, []⟩, ⟨(some 48), (.bin .mul (.tmp 45) (.tmp 47)), none, []⟩, ⟨(some 49), (.bin .sub (.tmp 43) (.tmp 48)), none, []⟩, ⟨(some 50), (.bin .mul (.tmp 38) (.tmp 49)), none, []⟩, ⟨(some 51), (.bin .add (.tmp 27) (.tmp 50)), none, []⟩, ⟨(some 52), (.faddr 0 1 false (.tmp 8)), none, []⟩, ⟨(some 53), (.load none (.tmp 52)), none, []⟩, ⟨(some 54), (.faddr 2 1 false (.tmp 3)), none, []⟩, ⟨(some 55), (.load none (.tmp 54)), none, []⟩, ⟨(some 56), (.bin .mul (.tmp 53) (.tmp 55)), none, []⟩, ⟨(some 57), (.faddr 2 1 false (.tmp 8)), none, []⟩, ⟨(some 58), (.load none (.tmp 57)), none, []⟩, ⟨(some 59), (.faddr 0 1 false (.tmp 3)), none, []⟩, ⟨(some 60), (.load none (.tmp 59)), none, []⟩, ⟨(some 61), (.bin .mul (.tmp 58) (.tmp 60)), none, []⟩, ⟨(some 62), (.bin .sub (.tmp 56) (.tmp 61)), none, []⟩, ⟨(some 63), (.faddr 1 1 false (.tmp 7)), none, []⟩, ⟨(some 64), (.load none (.tmp 63)), none, []⟩, ⟨(some 65), (.faddr 2 1 false (.tmp 3)), none, []⟩, ⟨(some 66), (.load none (.tmp 65)), none, []⟩, ⟨(some 67), (.bin .mul (.tmp 64) (.tmp 66)), none, []⟩, ⟨(some 68), (.faddr 2 1 false (.tmp 7)), none, []⟩, ⟨(some 69), (.load none (.tmp 68)), none, []⟩, ⟨(some 70), (.faddr 1 1 false (.tmp 3)), none, []⟩, ⟨(some 71), (.load none (.tmp 70)), none, []⟩, ⟨(some 72), (.bin .mul (.tmp 69) (.tmp 71)), none, []⟩, ⟨(some 73), (.bin .sub (.tmp 67) (.tmp 72)), none, []⟩, ⟨(some 74), (.bin .mul (.tmp 62) (.tmp 73)), none, []⟩, ⟨(some 75), (.bin .sub (.tmp 51) (.tmp 74)), none, []⟩, ⟨(some 5), (.mov (.tmp 75)), none, []⟩]))) (.ops false [⟨(some 13), (.mov (.tmp 6)), none, []⟩, ⟨(some 14), (.bin .add (.tmp 13) (.const (.int .i64 1))), none, []⟩, ⟨(some 6), (.mov (.tmp 14)), none, []⟩])))
def dk50_0 : Keep := ⟨[], [0, 3, 4, 5, 6], [3, 4]⟩
def dc50 : DFunc := ⟨87, 2, [(.cell 4 (some 2))], (.seq (.ops false [⟨(some 3), (.box 3 (.tmp 1)), none, []⟩, ⟨(some 4), (.alloc (.agg [(.int .i64 0), (.int .i64 0)]) 2), none, []⟩]) (.seq (.ops false [⟨(some 5), (.mov (.const (.int .i64 0))), none, []⟩]) (.seq (.seq (.ops false [⟨(some 6), (.mov (.const (.int .i64 0))), none, []⟩]) (.block 0 (some ⟨[], [3, 4, 5], [3, 4]⟩) (.loop dk50_0 db50_0))) (.seq (.ops false [⟨(some 76), (.mov (.tmp 5)), none, []⟩, ⟨(some 77), (.mov (.tmp 5)), none, []⟩, ⟨(some 78), (.bin .sub (.const (.int .i64 0)) (.tmp 77)), none, []⟩, ⟨(some 79), (.minmax true (.tmp 76) [(.tmp 78)]), none, []⟩, ⟨(some 80), (.faddr 2 1 false (.tmp 3)), none, []⟩, ⟨(some 81), (.load none (.tmp 80)), none, []⟩, ⟨(some 82), (.bin .mul (.const (.int .i64 2)) (.tmp 81)), none, []⟩, ⟨(some 83), (.faddr 2 1 false (.tmp 3)), none, []⟩, ⟨(some 84), (.load none (.tmp 83)), none, []⟩, ⟨(some 85), (.bin .mul (.tmp 82) (.tmp 84)), none, []⟩, ⟨(some 86), (.call (.func 80) [(.tmp 79), (.tmp 85)]), none, []⟩, ⟨none, (.store 2 (.tmp 4) (.tmp 86)), none, []⟩]) .ret))))⟩
theorem dh50 : cProg Go.Proofs.Tryz.prog ⟨[(0, ⟨[], [0, 3, 4, 5, 6], [3, 4]⟩)], [(0, ⟨[], [3, 4, 5], [3, 4]⟩)], []⟩ 50 = some dc50 := by kernel_rfl
end Sh


set_option maxRecDepth 100000
set_option linter.unusedSimpArgs false
set_option linter.unusedVariables false
namespace Sh
open Go Go.Proofs
theorem q_When (b : Bool) (e : Int) : PC 95 [.bool b, DV.int .i64 (e)] (DV.int .i64 (whenE b e)) := by
  refine pureCall_ofR dh95 rfl ?_
  conv => whnf
  refine ⟨fun hb => ?_, fun hb => ?_⟩ <;> try (exact absurd hb (by decide))
  all_goals conv => whnf
  all_goals subst hb; rfl
theorem q_CheckRange (n l h : Int) : PC 96 [DV.int .i64 (n), DV.int .i64 (l), DV.int .i64 (h)] (DV.int .i64 (withE n l h)) := by
  refine pureCall_ofR dh96 rfl ?_
  conv => whnf
  refine ⟨fun hb => ?_, fun hb => ?_⟩ <;> try (exact absurd hb (by decide))
  all_goals conv => whnf
  · refine .inl ?_
    conv => whnf
    refine ⟨_, q_When .., ?_⟩
    conv => whnf
    exact int_eq (by simp_all [withE, whenE]; split <;> split <;> omega)
  · refine .inl ?_
    conv => whnf
    refine ⟨_, q_When .., ?_⟩
    conv => whnf
    exact int_eq (by simp_all [withE, whenE])
theorem q_First (l : List Int) (hl : l.length < 4611686018427387904) : PC 94 [iL l] (DV.int .i64 (firstE l)) := by
  refine pureCall_ofR dh94 rfl ?_
  conv => whnf
  refine dwp_loopR (P := Tryz.prog) (G := GC) (k := dk94_0) (b := db94_0) (α := Nat) (fun i => [(0, iL l), (3, DV.int .i64 (i))]) (fun _ => []) (fun i => i ≤ l.length ∧ firstE l = firstE (l.drop i)) (fun i => l.length - i) 0 ⟨rfl, rfl, rfl⟩ ⟨Nat.zero_le _, rfl⟩ ?_
  intro i ⟨h1, h2⟩
  conv => whnf
  refine ⟨fun hb => ?_, fun hb => ?_⟩ <;> try (exact absurd hb (by decide))
  · have hi : i < l.length := by simpa using hb
    have hd := firstE_drop l i hi
    conv => whnf
    rw [getD_enc _ _ (i) 0 hi]
    refine ⟨idxA hi rfl, ?_⟩
    conv => whnf
    refine ⟨fun hb => ?_, fun hb => ?_⟩ <;> try (exact absurd hb (by decide))
    · conv => whnf
      rw [getD_enc _ _ (i) 0 hi]
      refine ⟨idxA hi rfl, ?_⟩
      conv => whnf
      exact int_eq (by simp_all)
    · conv => whnf
      rw [wrap_succ i (by omega)]
      exact ⟨i + 1, rfl, rfl, rfl, ⟨hi, by simp_all⟩, by omega⟩
  · conv => whnf
    have : i = l.length := by simp at hb; omega
    subst this
    exact int_eq (by rw [h2]; simp [firstE])
end Sh


set_option linter.unusedSimpArgs false
set_option linter.unusedVariables false
namespace Sh
open Go
theorem nrmV_ref (s : List V3) : crsV (subV (s.getD 1 V0) (s.getD 0 V0)) (subV (s.getD 2 V0) (s.getD 0 V0)) = nrmV s := by
  unfold nrmV crsV subV
  simp only [V3.mk.injEq]
  refine ⟨?_, ?_, ?_⟩ <;> grind
end Sh


set_option maxRecDepth 100000
set_option linter.unusedSimpArgs false
set_option linter.unusedVariables false
namespace Sh
open Go Go.Proofs
theorem r_less (a b : V3) (ha : bdV G9 a) (hb : bdV G9 b) : PC 101 [encV a, encV b] (encV (subV a b)) := by
  have e1 := sub_w ha.1 hb.1
  have e2 := sub_w ha.2.1 hb.2.1
  have e3 := sub_w ha.2.2 hb.2.2
  refine pureCall_ofR dh101 rfl ?_
  conv => whnf
  repeat' (first
    | (refine ⟨fun hg => ?_, fun hg => ?_⟩ <;> first | contradiction | (conv => whnf))
    | (refine Or.inl ?_; conv => whnf)
    | (refine And.intro ?_ ?_; kernel_rfl; conv => whnf))
  exact int3_eq e1 e2 e3
theorem r_dot (a b : V3) (ha : bdV G9 a) (hb : bdV G9 b) : PC 99 [encV a, encV b] (DV.int .i64 (dotV a b)) := by
  refine pureCall_ofR dh99 rfl ?_
  conv => whnf
  repeat' (first
    | (refine ⟨fun hg => ?_, fun hg => ?_⟩ <;> first | contradiction | (conv => whnf))
    | (refine Or.inl ?_; conv => whnf)
    | (refine And.intro ?_ ?_; kernel_rfl; conv => whnf))
  exact int_eq (dot_w ha hb)
theorem r_cross (a b : V3) (ha : bdV G9 a) (hb : bdV G9 b) : PC 102 [encV a, encV b] (encV (crsV a b)) := by
  refine pureCall_ofR dh102 rfl ?_
  conv => whnf
  repeat' (first
    | (refine ⟨fun hg => ?_, fun hg => ?_⟩ <;> first | contradiction | (conv => whnf))
    | (refine Or.inl ?_; conv => whnf)
    | (refine And.intro ?_ ?_; kernel_rfl; conv => whnf))
  exact int3_eq (crs_w ha.2.1 hb.2.2 ha.2.2 hb.2.1) (crs_w ha.2.2 hb.1 ha.1 hb.2.2) (crs_w ha.1 hb.2.1 ha.2.1 hb.1)
theorem r_CheckSun (v : V3) : PC 22 [encV v] (DV.int .i64 (chkSun v)) := by
  refine pureCall_ofR dh22 rfl ?_
  conv => whnf
  repeat' (first
    | (refine ⟨fun hg => ?_, fun hg => ?_⟩ <;> first | contradiction | (conv => whnf))
    | (refine Or.inl ?_; conv => whnf)
    | (refine ⟨_, q_CheckRange .., ?_⟩; conv => whnf)
    | (refine ⟨_, q_First [_, _, _] (by simp), ?_⟩; conv => whnf)
    | (refine And.intro ?_ ?_; kernel_rfl; conv => whnf))
  rfl
end Sh


set_option maxRecDepth 100000
set_option linter.unusedSimpArgs false
set_option linter.unusedVariables false
namespace Sh
open Go Go.Proofs
theorem r_normal (s : List V3) (h : OkS s) : PC 98 [shp s] (encV (nrmV s)) := by
  have h3 := h.1
  have b0 := h.at (i := 0) (by omega)
  have b1 := h.at (i := 1) (by omega)
  have b2 := h.at (i := 2) (by omega)
  have k1 := r_less (s.getD 1 V0) (s.getD 0 V0) (bd9 b1 (by decide)) (bd9 b0 (by decide))
  have k2 := r_less (s.getD 2 V0) (s.getD 0 V0) (bd9 b2 (by decide)) (bd9 b0 (by decide))
  have k3 := r_cross _ _ (bd9 (subV_bd b1 b0) (by decide)) (bd9 (subV_bd b2 b0) (by decide))
  refine pureCall_ofR dh98 rfl ?_
  conv => whnf
  repeat' (first
    | (refine ⟨fun hg => ?_, fun hg => ?_⟩ <;> first | contradiction | (conv => whnf))
    | (refine Or.inl ?_; conv => whnf)
    | (rw [getD_enc' _ _ 0 V0 (by decide) (by omega)]; refine ⟨idxB (by decide) (by omega) rfl, ?_⟩; conv => whnf)
    | (rw [getD_enc' _ _ 1 V0 (by decide) (by omega)]; refine ⟨idxB (by decide) (by omega) rfl, ?_⟩; conv => whnf)
    | (rw [getD_enc' _ _ 2 V0 (by decide) (by omega)]; refine ⟨idxB (by decide) (by omega) rfl, ?_⟩; conv => whnf)
    | (refine ⟨_, k1, ?_⟩; conv => whnf)
    | (refine ⟨_, k2, ?_⟩; conv => whnf)
    | (refine ⟨_, k3, ?_⟩; conv => whnf)
    | (refine And.intro ?_ ?_; kernel_rfl; conv => whnf))
  rw [nrmV_ref]; rfl
theorem mod_w2 (i n : Nat) (hn : 0 < n) (hi : i < 1000000000) : (IntKind.i64.wrap ((i : Int) + 2)).tmod (n : Int) = (((i + 2) % n : Nat) : Int) := mod_w i 2 n hn (by omega)
theorem r_convex (s : List V3) (h : OkS s) : PC 97 [shp s] (.bool (flat_ s)) := by
  have e0 : ((s.map encV).length : Int) = s.length := by simp
  have h3 := h.1
  have h6 := h.2.1
  have b0 := h.at (i := 0) (by omega)
  have hn := h.nrm
  refine pureCall_ofR dh97 rfl ?_
  conv => whnf
  repeat' (first
    | (refine ⟨fun hg => ?_, fun hg => ?_⟩ <;> first | contradiction | (conv => whnf))
    | (refine Or.inl ?_; conv => whnf)
    | (refine ⟨_, r_normal _ h, ?_⟩; conv => whnf)
    | (refine And.intro ?_ ?_; kernel_rfl; conv => whnf))
  refine dwp_loopU (P := Tryz.prog) (G := GC) (k := dk97_1) (b := db97_1) (α := Nat) (fun i => [(4, DV.int .i64 (i))]) (fun _ => [(3, .box 3 (encV (nrmV s)))]) (fun i => i ≤ s.length ∧ (List.range i).all (flatI s) = true) (fun i => s.length - i) 0 ⟨Nat.zero_le _, rfl⟩ ?_
  conv => whnf
  refine ⟨rfl, rfl, ?_⟩
  conv => whnf
  refine ⟨rfl, ?_⟩
  intro i ⟨h1, h2⟩
  conv => whnf
  refine ⟨fun hb => ?_, fun hb => ?_⟩
  · have hi : i < s.length := by simpa using hb
    have bi := h.at hi
    have bs := h.side hi
    have bx := subV_bd (h.aft (i + 1)) (h.aft i)
    have e2 : s.getD ((i + 2) % s.length) V0 = aft s (i + 1) := rfl
    have e1 : s.getD ((i + 1) % s.length) V0 = aft s i := rfl
    have k3 := r_less (aft s i) (s.getD i V0) (bd9 (h.aft i) (by decide)) (bd9 bi (by decide))
    have k4 := r_less (aft s (i + 1)) (aft s i) (bd9 (h.aft (i + 1)) (by decide)) (bd9 (h.aft i) (by decide))
    have k5 := r_less (s.getD i V0) (s.getD 0 V0) (bd9 bi (by decide)) (bd9 b0 (by decide))
    have k6 := r_dot _ _ (bd9 hn (by decide)) (bd9 (subV_bd bi b0) (by decide))
    have k7 := r_cross _ _ (bd9 bs (by decide)) (bd9 bx (by decide))
    have k8 := r_dot _ _ (bd9 hn (by decide)) (bd9 (crsV_bd bs bx) (by decide))
    have hm1 := Nat.mod_lt (i + 1) (show 0 < s.length by omega)
    have hm2 := Nat.mod_lt (i + 2) (show 0 < s.length by omega)
    have hw1 := mod_w1 i s.length (by omega) (by omega)
    have hw2 := mod_w2 i s.length (by omega) (by omega)
    have hI : (List.range (i + 1)).all (flatI s) = flatI s i := by rw [List.range_succ, List.all_append, h2]; simp
    have hF : flatI s i = false → flat_ s = false := fun e => by
      unfold flat_
      rw [List.all_eq_false]
      exact ⟨i, List.mem_range.2 hi, by rw [e]; simp⟩
    clear hb
    conv => whnf
    rw [getD_enc _ _ (i) V0 hi]
    refine ⟨idxA hi rfl, ?_⟩
    conv => whnf
    rw [e0]
    refine ⟨by omega, ?_⟩
    conv => whnf
    rw [hw1]
    rw [getD_enc _ _ ((i + 1) % s.length) V0 hm1]
    refine ⟨idxA hm1 rfl, ?_⟩
    conv => whnf
    rw [e0]
    refine ⟨by omega, ?_⟩
    conv => whnf
    rw [hw2]
    rw [getD_enc _ _ ((i + 2) % s.length) V0 hm2]
    refine ⟨idxA hm2 rfl, ?_⟩
    conv => whnf
    rw [e1, e2]
    repeat' (first
      | (refine ⟨fun hg => ?_, fun hg => ?_⟩ <;> first | contradiction | (conv => whnf))
      | (refine Or.inl ?_; conv => whnf)
      | (refine ⟨_, k3, ?_⟩; conv => whnf)
      | (refine ⟨_, k4, ?_⟩; conv => whnf)
      | (rw [getD_enc' _ _ 0 V0 (by decide) (by omega)]; refine ⟨idxB (by decide) (by omega) rfl, ?_⟩; conv => whnf)
      | (refine ⟨_, k5, ?_⟩; conv => whnf)
      | (refine ⟨_, k6, ?_⟩; conv => whnf)
      | (refine ⟨_, k7, ?_⟩; conv => whnf)
      | (refine ⟨_, k8, ?_⟩; conv => whnf)
      | (refine And.intro ?_ ?_; kernel_rfl; conv => whnf))
    · have hg := of_decide_eq_true (show decide (dotV (nrmV s) (crsV (sideV s i) (subV (aft s (i + 1)) (aft s i))) ≤ 0) = true from hg)
      show DV.bool false = DV.bool (flat_ s)
      rw [hF (by unfold flatI flatA; rw [decide_eq_false (by omega : ¬ 0 < dotV (nrmV s) (crsV (sideV s i) (subV (aft s (i + 1)) (aft s i)))), Bool.and_false, Bool.false_and])]
    · have hg2 := of_decide_eq_false (show decide (dotV (nrmV s) (crsV (sideV s i) (subV (aft s (i + 1)) (aft s i))) ≤ 0) = false from hg)
      have hg1 := of_decide_eq_false ‹decide (dotV (nrmV s) (subV (s.getD i V0) (s.getD 0 V0)) ≠ 0) = false›
      have hA : flatA s i = true := by
        unfold flatA
        rw [decide_eq_true (Classical.not_not.1 hg1), decide_eq_true (by omega)]; rfl
      clear hg hg1 hg2
      refine dwp_loopU (P := Tryz.prog) (G := GC) (k := dk97_0) (b := db97_0) (α := Nat) (fun j => [(8, DV.int .i64 (j))]) (fun _ => [(3, .box 3 (encV (nrmV s))), (5, .box 3 (encV (s.getD i V0))), (6, .box 3 (encV (aft s i))), (7, .box 3 (encV (aft s (i + 1))))]) (fun j => j ≤ s.length ∧ (s.take j).all (flatK s i) = true) (fun j => s.length - j) 0 ⟨Nat.zero_le _, rfl⟩ ?_
      conv => whnf
      refine ⟨rfl, rfl, ?_⟩
      conv => whnf
      refine ⟨rfl, ?_⟩
      intro j ⟨j1, j2⟩
      conv => whnf
      refine ⟨fun hb => ?_, fun hb => ?_⟩
      · have hj : j < s.length := by simpa using hb
        have bj := h.at hj
        have k9 := r_less (s.getD j V0) (s.getD i V0) (bd9 bj (by decide)) (bd9 bi (by decide))
        have k10 := r_cross _ _ (bd9 bs (by decide)) (bd9 (subV_bd bj bi) (by decide))
        have k11 := r_dot _ _ (bd9 hn (by decide)) (bd9 (crsV_bd bs (subV_bd bj bi)) (by decide))
        have hJ : (s.take (j + 1)).all (flatK s i) = flatK s i (s.getD j V0) := by rw [take_snoc s j V0 hj, List.all_append, j2]; simp
        clear hb
        conv => whnf
        repeat' (first
          | (refine ⟨fun hg => ?_, fun hg => ?_⟩ <;> first | contradiction | (conv => whnf))
          | (refine Or.inl ?_; conv => whnf)
          | (refine ⟨_, k3, ?_⟩; conv => whnf)
          | (rw [getD_enc _ _ j V0 hj]; refine ⟨idxA hj rfl, ?_⟩; conv => whnf)
          | (refine ⟨_, k9, ?_⟩; conv => whnf)
          | (refine ⟨_, k10, ?_⟩; conv => whnf)
          | (refine ⟨_, k11, ?_⟩; conv => whnf)
          | (refine And.intro ?_ ?_; kernel_rfl; conv => whnf))
        · have hg := of_decide_eq_true hg
          show DV.bool false = DV.bool (flat_ s)
          rw [hF (by
            unfold flatI
            have : s.all (flatK s i) = false := by
              rw [List.all_eq_false]
              exact ⟨_, getD_in V0 hj, by unfold flatK; rw [decide_eq_false (by omega)]; simp⟩
            rw [this, Bool.and_false])]
        · have hg := of_decide_eq_false hg
          rw [wrap_succ j (by omega)]
          exact ⟨j + 1, rfl, rfl, rfl, ⟨hj, by rw [hJ]; exact decide_eq_true (by omega)⟩, by omega⟩
      · have hj : j = s.length := by have := of_decide_eq_false hb; rw [e0] at this; omega
        rw [hj, List.take_length] at j2
        clear hb
        conv => whnf
        rw [wrap_succ i (by omega)]
        exact ⟨i + 1, rfl, rfl, rfl, ⟨hi, by rw [hI]; unfold flatI; rw [hA, j2]; rfl⟩, by omega⟩
    · have hg := of_decide_eq_true (show decide (dotV (nrmV s) (subV (s.getD i V0) (s.getD 0 V0)) ≠ 0) = true from ‹decide (dotV (nrmV s) (subV (s.getD i V0) (s.getD 0 V0)) ≠ 0) = !false›)
      show DV.bool false = DV.bool (flat_ s)
      rw [hF (by unfold flatI flatA; rw [decide_eq_false hg, Bool.false_and, Bool.false_and])]
  · have hi : i = s.length := by have := of_decide_eq_false hb; rw [e0] at this; omega
    rw [hi] at h2
    clear hb
    conv => whnf
    show DV.bool true = DV.bool (flat_ s)
    rw [show flat_ s = true from h2]
end Sh


set_option maxRecDepth 100000
set_option linter.unusedSimpArgs false
set_option linter.unusedVariables false
namespace Sh
open Go Go.Proofs
theorem firstE_skip {a b : Int} (x : Int) (h : ¬ firstE [a, b] ≠ 0) : firstE [a, b, x] = x := by
  obtain ⟨h1, h⟩ := firstE_cons (Classical.not_not.1 h)
  obtain ⟨h2, _⟩ := firstE_cons h
  simp [firstE, h1, h2]
  intro h; exact h.symm
theorem firstE_keep {a b : Int} (x : Int) (h : firstE [a, b] ≠ 0) : firstE [a, b, x] = firstE [a, b] := by
  simp only [firstE] at *
  split
  · rfl
  · rename_i ha
    rw [if_neg ha] at h
    split
    · rfl
    · rename_i hb; rw [if_neg hb] at h; exact absurd rfl h
theorem map_getD {α : Type} (g : α → Int) (l : List α) (i : Nat) (d : α) (h : i < l.length) : (l.map g).getD i 0 = g (l.getD i d) := by simp [List.getD_eq_getElem?_getD, h]
theorem r_CheckShape (s : List V3) (hl : s.length < 1073741824) : PC 21 [shp s] (DV.int .i64 (chkShp s)) := by
  have e0 : ((s.map encV).length : Int) = s.length := by simp
  refine pureCall_ofR dh21 rfl ?_
  conv => whnf
  repeat' (first
    | (refine ⟨fun hg => ?_, fun hg => ?_⟩ <;> first | contradiction | (conv => whnf))
    | (refine Or.inl ?_; conv => whnf)
    | (refine ⟨_, q_When .., ?_⟩; conv => whnf)
    | (refine ⟨_, q_First [_, _] (by simp), ?_⟩; conv => whnf)
    | (refine And.intro ?_ ?_; kernel_rfl; conv => whnf))
  · have hg := of_decide_eq_true hg
    rw [e0] at hg
    exact int_eq (by rw [e0]; unfold chkShp sizeS; rw [firstE_keep _ hg, if_pos hg])
  · have hg := of_decide_eq_false hg
    rw [e0] at hg
    have hsz : sizeS s = firstE (s.map chkCor) := by unfold sizeS; rw [firstE_skip _ hg]
    refine dwp_loopU (P := Tryz.prog) (G := GC) (k := dk21_0) (b := db21_0) (α := Nat) (fun i => [(4, DV.int .i64 (i))]) (fun _ => []) (fun i => i ≤ s.length ∧ firstE (s.map chkCor) = firstE ((s.map chkCor).drop i)) (fun i => s.length - i) 0 ⟨Nat.zero_le _, rfl⟩ ?_
    conv => whnf
    refine ⟨rfl, rfl, ?_⟩
    conv => whnf
    refine ⟨rfl, ?_⟩
    intro i ⟨h1, h2⟩
    conv => whnf
    refine ⟨fun hb => ?_, fun hb => ?_⟩
    · have hi : i < s.length := by simpa using hb
      have hd := firstE_drop (s.map chkCor) i (by rw [List.length_map]; exact hi)
      rw [map_getD chkCor s i V0 hi] at hd
      clear hb
      conv => whnf
      repeat' (first
        | (refine ⟨fun hg => ?_, fun hg => ?_⟩ <;> first | contradiction | (conv => whnf))
        | (refine Or.inl ?_; conv => whnf)
        | (rw [getD_enc _ _ i V0 hi]; refine ⟨idxA hi rfl, ?_⟩; conv => whnf)
        | (refine ⟨_, q_CheckRange .., ?_⟩; conv => whnf)
        | (refine ⟨_, q_First [_, _, _] (by simp), ?_⟩; conv => whnf)
        | (refine And.intro ?_ ?_; kernel_rfl; conv => whnf))
      · have hg := of_decide_eq_true (show decide (chkCor (s.getD i V0) ≠ 0) = true from hg)
        rw [if_pos hg] at hd
        exact int_eq (by unfold chkShp; rw [hsz, h2, hd, if_pos hg]; rfl)
      · have hg := of_decide_eq_false (show decide (chkCor (s.getD i V0) ≠ 0) = false from hg)
        rw [if_neg hg] at hd
        rw [wrap_succ i (by omega)]
        exact ⟨i + 1, rfl, rfl, rfl, ⟨hi, h2.trans hd⟩, by omega⟩
    · have hi : i = s.length := by have := of_decide_eq_false hb; rw [e0] at this; omega
      rw [hi, List.drop_of_length_le (by rw [List.length_map]; exact Nat.le_refl _)] at h2
      have hz : sizeS s = 0 := hsz.trans h2
      clear hb
      conv => whnf
      repeat' (first
        | (refine ⟨fun hg => ?_, fun hg => ?_⟩ <;> first | contradiction | (conv => whnf))
        | (refine Or.inl ?_; conv => whnf)
        | (refine ⟨_, r_convex s (sizeS_zero hz), ?_⟩; conv => whnf)
        | (refine ⟨_, q_When .., ?_⟩; conv => whnf)
        | (refine And.intro ?_ ?_; kernel_rfl; conv => whnf))
      exact int_eq (by unfold chkShp; rw [if_neg (by omega)])
end Sh


set_option maxRecDepth 100000
set_option linter.unusedSimpArgs false
set_option linter.unusedVariables false
namespace Sh
open Go Go.Proofs
theorem absG0 {n : Int} (h : -GB ≤ n ∧ n ≤ GB) : minmaxI true n (IntKind.i64.wrap (0 - n)) = (n.natAbs : Int) := by
  rw [Int.zero_sub, absG h]
theorem q_Divisor (n d : Int) (hn : -GB ≤ n ∧ n ≤ GB) (hd : -GB ≤ d ∧ d ≤ GB) : PC 143 [DV.int .i64 (n), DV.int .i64 (d)] (DV.int .i64 (gcdI n d)) := by
  have w1 := absG0 hn
  have w2 := absG0 hd
  refine pureCall_ofR dh143 rfl ?_
  conv => whnf
  rw [w1, w2]
  refine dwp_loopU (P := Tryz.prog) (G := GC) (k := dk143_0) (b := db143_0) (α := Nat × Nat) (fun a => [(0, DV.int .i64 (a.1)), (1, DV.int .i64 (a.2))]) (fun _ => []) (fun a => Nat.gcd a.1 a.2 = Int.gcd n d) (fun a => a.2) (n.natAbs, d.natAbs) rfl ?_
  conv => whnf
  refine ⟨rfl, rfl, ?_⟩
  conv => whnf
  refine ⟨rfl, ?_⟩
  intro ⟨a, b⟩ h
  conv => whnf
  refine ⟨fun hb => ?_, fun hb => ?_⟩
  · have hb0 : b ≠ 0 := by have := of_decide_eq_true hb; dsimp only at this; omega
    clear hb
    conv => whnf
    refine ⟨by show (b : Int) ≠ 0; omega, ?_⟩
    conv => whnf
    refine ⟨by kernel_rfl, ?_⟩
    conv => whnf
    have hm : ((a : Int)).tmod (b : Int) = ((a % b : Nat) : Int) := rfl
    exact ⟨(b, a % b), rfl, rfl, rfl, (gcd_step hb0).trans h, Nat.mod_lt _ (by omega)⟩
  · have hb0 : b = 0 := by have := of_decide_eq_false hb; dsimp only at this; omega
    clear hb
    conv => whnf
    subst hb0
    refine int_eq ?_
    unfold gcdI
    rw [← h]; simp
theorem q_Lowest (n d : Int) (hn : -GB ≤ n ∧ n ≤ GB) (hd : 0 < d ∧ d ≤ GB) : PC 80 [DV.int .i64 (n), DV.int .i64 (d)] (encR (lowR n d)) := by
  have k1 := q_Divisor n d hn ⟨by omega, hd.2⟩
  have hp := gcdI_pos (n := n) hd.1
  refine pureCall_ofR dh80 rfl ?_
  conv => whnf
  refine ⟨fun hg => absurd (of_decide_eq_true hg) (by omega), fun hg => ?_⟩
  clear hg
  conv => whnf
  refine .inl ?_
  conv => whnf
  refine ⟨_, k1, ?_⟩
  conv => whnf
  refine ⟨by omega, ?_⟩
  conv => whnf
  refine ⟨by omega, ?_⟩
  conv => whnf
  rw [div_wI hn, div_wI ⟨by omega, hd.2⟩]
  repeat' (first
    | (refine ⟨fun hg => ?_, fun hg => ?_⟩ <;> first | contradiction | (conv => whnf))
    | (refine Or.inl ?_; conv => whnf)
    | (refine And.intro ?_ ?_; kernel_rfl; conv => whnf))
  rfl
end Sh


set_option maxRecDepth 100000
set_option linter.unusedSimpArgs false
set_option linter.unusedVariables false
namespace Sh
open Go Go.Proofs
theorem r_Outline (s : List V3) (sun : V3) (h1 : OkS s) (h2 : bdV 1000 sun) (h3 : 1 ≤ sun.z) : PC 49 [shp s, encV sun] (crns (outL s sun)) := by
  have e0 : ((s.map encV).length : Int) = s.length := by simp
  have h6 := h1.2.1
  have hz2 := h2.2.2.2
  refine pureCall_ofR dh49 rfl ?_
  conv => whnf
  refine dwp_loopU (P := Tryz.prog) (G := GC) (k := dk49_0) (b := db49_0) (α := Nat) (fun i => [(5, .own 5 0 (oC (fun v => cornR v sun) s i).length (oC (fun v => cornR v sun) s i).length), (6, DV.int .i64 (i))]) (fun i => [(3, .box 3 (encV sun)), (5, .row 4 (oC (fun v => cornR v sun) s i) false)]) (fun i => i ≤ s.length) (fun i => s.length - i) 0 (Nat.zero_le _) ?_
  conv => whnf
  refine ⟨rfl, rfl, ?_⟩
  conv => whnf
  refine ⟨rfl, ?_⟩
  intro i j1
  conv => whnf
  refine ⟨fun hb => ?_, fun hb => ?_⟩
  · have hi : i < s.length := by simpa using hb
    have bv := h1.at hi
    have hln := oC_len (fun v => cornR v sun) s i j1
    have b1 := castX_bd bv h2
    have b2 := castY_bd bv h2
    have w1 := cast_w bv.1 h2.2.2 bv.2.2 h2.1
    have w2 := cast_w bv.2.1 h2.2.2 bv.2.2 h2.2.1
    have k3 := q_Lowest (castX (s.getD i V0) sun) sun.z (by unfold GB; omega) (by unfold GB; omega)
    have k4 := q_Lowest (castY (s.getD i V0) sun) sun.z (by unfold GB; omega) (by unfold GB; omega)
    clear hb
    conv => whnf
    rw [getD_enc _ _ (i) V0 hi]
    refine ⟨idxA hi rfl, ?_⟩
    conv => whnf
    repeat' (first
      | (refine ⟨fun hg => ?_, fun hg => ?_⟩ <;> first | contradiction | (conv => whnf))
      | (refine Or.inl ?_; conv => whnf)
      | (rw [getD_enc _ _ i V0 hi]; refine ⟨idxA hi rfl, ?_⟩; conv => whnf)
      | (rw [w1]; refine ⟨_, k3, ?_⟩; conv => whnf)
      | (rw [w2]; refine ⟨_, k4, ?_⟩; conv => whnf)
      | (refine ⟨⟨rfl, rfl, rfl, by rw [hln]; simp; omega, fun e he => by simp at he; subst he; rfl⟩, ?_⟩; conv => whnf)
      | (refine And.intro ?_ ?_; kernel_rfl; conv => whnf))
    rw [wrap_succ i (by omega)]
    refine ⟨i + 1, rfl, ?_, ?_, hi, by omega⟩
    · rw [oC_succ _ s i hi]; rfl
    · rw [oC_succ _ s i hi]; rfl
  · have hi : i = s.length := by have := of_decide_eq_false hb; rw [e0] at this; omega
    clear hb
    conv => whnf
    exact ⟨rfl, by rw [window_full, hi]; unfold oC; rw [List.take_length]; show DV.list _ = DV.list _; unfold outL; rw [List.map_map]; rfl⟩
end Sh


set_option maxRecDepth 100000
set_option linter.unusedSimpArgs false
set_option linter.unusedVariables false
namespace Sh
open Go Go.Proofs
theorem r_Area (s : List V3) (sun : V3) (h1 : OkS s) (h2 : bdV 1000 sun) (h3 : 1 ≤ sun.z) : PC 50 [shp s, encV sun] (encR (areaR s sun)) := by
  have e0 : ((s.map encV).length : Int) = s.length := by simp
  have h6 := h1.2.1
  refine pureCall_ofR dh50 rfl ?_
  conv => whnf
  refine dwp_loopU (P := Tryz.prog) (G := GC) (k := dk50_0) (b := db50_0) (α := Nat) (fun i => [(5, DV.int .i64 (areaI s sun i)), (6, DV.int .i64 (i))]) (fun i => [(3, .box 3 (encV sun)), (4, .box 2 (.agg [DV.int .i64 (0), DV.int .i64 (0)]))]) (fun i => i ≤ s.length) (fun i => s.length - i) 0 (Nat.zero_le _) ?_
  conv => whnf
  refine ⟨rfl, rfl, ?_⟩
  conv => whnf
  refine ⟨rfl, ?_⟩
  intro i j1
  conv => whnf
  refine ⟨fun hb => ?_, fun hb => ?_⟩
  · have hi : i < s.length := by simpa using hb
    have bv := h1.at hi
    have ba := h1.aft i
    have hm1 := Nat.mod_lt (i + 1) (show 0 < s.length by omega)
    have hw1 := mod_w1 i s.length (by omega) (by omega)
    have e1 : s.getD ((i + 1) % s.length) V0 = aft s i := rfl
    have w1 : IntKind.i64.wrap (IntKind.i64.wrap ((s.getD i V0).x * sun.z) - IntKind.i64.wrap ((s.getD i V0).z * sun.x)) = castX (s.getD i V0) sun := cast_w bv.1 h2.2.2 bv.2.2 h2.1
    have w2 : IntKind.i64.wrap (IntKind.i64.wrap ((s.getD i V0).y * sun.z) - IntKind.i64.wrap ((s.getD i V0).z * sun.y)) = castY (s.getD i V0) sun := cast_w bv.2.1 h2.2.2 bv.2.2 h2.2.1
    have w3 : IntKind.i64.wrap (IntKind.i64.wrap ((aft s i).x * sun.z) - IntKind.i64.wrap ((aft s i).z * sun.x)) = castX (aft s i) sun := cast_w ba.1 h2.2.2 ba.2.2 h2.1
    have w4 : IntKind.i64.wrap (IntKind.i64.wrap ((aft s i).y * sun.z) - IntKind.i64.wrap ((aft s i).z * sun.y)) = castY (aft s i) sun := cast_w ba.2.1 h2.2.2 ba.2.2 h2.2.1
    have a1 := castX_bd bv h2
    have a2 := castY_bd ba h2
    have a3 := castX_bd ba h2
    have a4 := castY_bd bv h2
    have p1 := mul_bd a1.1 a1.2 a2.1 a2.2
    have p2 := mul_bd a3.1 a3.2 a4.1 a4.2
    have b1 := areaT_bd h1 h2 hi
    have b2 := areaI_bd h1 h2 (k := i) (by omega)
    have hT : areaT s sun i = castX (s.getD i V0) sun * castY (aft s i) sun - castX (aft s i) sun * castY (s.getD i V0) sun := rfl
    clear hb
    conv => whnf
    rw [getD_enc _ _ (i) V0 hi]
    refine ⟨idxA hi rfl, ?_⟩
    conv => whnf
    rw [e0]
    refine ⟨by omega, ?_⟩
    conv => whnf
    rw [hw1]
    rw [getD_enc _ _ ((i + 1) % s.length) V0 hm1]
    refine ⟨idxA hm1 rfl, ?_⟩
    conv => whnf
    rw [e1]
    repeat' (first
      | (refine ⟨fun hg => ?_, fun hg => ?_⟩ <;> first | contradiction | (conv => whnf))
      | (refine Or.inl ?_; conv => whnf)
      | (refine And.intro ?_ ?_; kernel_rfl; conv => whnf))
    rw [w1, w2, w3, w4]
    generalize hP : castX (s.getD i V0) sun * castY (aft s i) sun = P at *
    generalize hR : castX (aft s i) sun * castY (s.getD i V0) sun = R at *
    rw [wrap_in (n := P) (by omega) (by omega), wrap_in (n := R) (by omega) (by omega), wrap_in (n := areaI s sun i + P) (by omega) (by omega), wrap_in (n := areaI s sun i + P - R) (by omega) (by omega), wrap_succ i (by omega)]
    have hN : areaI s sun i + P - R = areaI s sun (i + 1) := by rw [areaI_succ]; omega
    rw [hN]
    exact ⟨i + 1, rfl, rfl, rfl, hi, by omega⟩
  · have hi : i = s.length := by have := of_decide_eq_false hb; rw [e0] at this; omega
    have b2 := areaI_bd h1 h2 (k := s.length) (Nat.le_refl _)
    have hab := absI_eq (areaI s sun s.length)
    have hz := zz_w h2 h3
    have k9 := q_Lowest (absI (areaI s sun s.length)) (2 * sun.z * sun.z) (by unfold GB; omega) hz.2
    have hm : minmaxI true (areaI s sun s.length) (IntKind.i64.wrap (0 - areaI s sun s.length)) = absI (areaI s sun s.length) := by
      rw [Int.zero_sub, wrap_in (by omega) (by omega)]; rfl
    clear hb
    conv => whnf
    rw [hi, hm, hz.1]
    repeat' (first
      | (refine ⟨fun hg => ?_, fun hg => ?_⟩ <;> first | contradiction | (conv => whnf))
      | (refine Or.inl ?_; conv => whnf)
      | (refine ⟨_, k9, ?_⟩; conv => whnf)
      | (refine And.intro ?_ ?_; kernel_rfl; conv => whnf))
    rfl
end Sh


set_option maxRecDepth 100000
set_option linter.unusedSimpArgs false
set_option linter.unusedVariables false
namespace Sh
open Go Go.Proofs
theorem r_CheckBy (v : V3) : PC 48 [encV v] (DV.int .i64 (chkBy v)) := by
  refine pureCall_ofR dh48 rfl ?_
  conv => whnf
  repeat' (first
    | (refine ⟨fun hg => ?_, fun hg => ?_⟩ <;> first | contradiction | (conv => whnf))
    | (refine Or.inl ?_; conv => whnf)
    | (refine ⟨_, q_CheckRange .., ?_⟩; conv => whnf)
    | (refine ⟨_, q_First [_, _, _] (by simp), ?_⟩; conv => whnf)
    | (refine And.intro ?_ ?_; kernel_rfl; conv => whnf))
  rfl
def mvR (s : List V3) (d : V3) (i : Nat) : List DV := (s.take i).map fun v => encV (addV v d)
theorem mvR_len (s : List V3) (d : V3) (i : Nat) (h : i ≤ s.length) : (mvR s d i).length = i := by simp [mvR]; omega
theorem mvR_succ (s : List V3) (d : V3) (i : Nat) (h : i < s.length) : mvR s d (i + 1) = mvR s d i ++ [encV (addV (s.getD i V0) d)] := take_map_succ _ s i V0 h
theorem mvR_all (s : List V3) (d : V3) : mvR s d s.length = (movS s d).map encV := by unfold mvR movS; rw [List.take_length, List.map_map]; rfl
theorem r_Moved (s : List V3) (d : V3) (h0 : chkShp s = 0) (h2 : bdV 2000 d) : PC 51 [shp s, encV d] (.tuple [shp (movR s d).1, DV.int .i64 ((movR s d).2)]) := by
  have h1 := chkShp_zero h0
  have e0 : ((s.map encV).length : Int) = s.length := by simp
  have h6 := h1.2.1
  refine pureCall_ofR dh51 rfl ?_
  conv => whnf
  refine dwp_loopU (P := Tryz.prog) (G := GC) (k := dk51_0) (b := db51_0) (α := Nat) (fun i => [(6, .own 6 0 (mvR s d i).length (mvR s d i).length), (7, DV.int .i64 (i))]) (fun i => [(3, .box 3 (encV d)), (6, .row 3 (mvR s d i) false)]) (fun i => i ≤ s.length) (fun i => s.length - i) 0 (Nat.zero_le _) ?_
  conv => whnf
  refine ⟨rfl, rfl, ?_⟩
  conv => whnf
  refine ⟨rfl, ?_⟩
  intro i j1
  conv => whnf
  refine ⟨fun hb => ?_, fun hb => ?_⟩
  · have hi : i < s.length := by simpa using hb
    have bv := h1.at hi
    have hln := mvR_len s d i j1
    have w1 := add_w bv.1 h2.1
    have w2 := add_w bv.2.1 h2.2.1
    have w3 := add_w bv.2.2 h2.2.2
    clear hb
    conv => whnf
    rw [getD_enc _ _ (i) V0 hi]
    refine ⟨idxA hi rfl, ?_⟩
    conv => whnf
    repeat' (first
      | (refine ⟨fun hg => ?_, fun hg => ?_⟩ <;> first | contradiction | (conv => whnf))
      | (refine Or.inl ?_; conv => whnf)
      | (rw [getD_enc _ _ i V0 hi]; refine ⟨idxA hi rfl, ?_⟩; conv => whnf)
      | (refine ⟨⟨rfl, rfl, rfl, by rw [hln]; simp; omega, fun e he => by simp at he; subst he; rfl⟩, ?_⟩; conv => whnf)
      | (refine And.intro ?_ ?_; kernel_rfl; conv => whnf))
    rw [wrap_succ i (by omega), w1, w2, w3]
    refine ⟨i + 1, rfl, ?_, ?_, hi, by omega⟩
    · rw [mvR_succ s d i hi]; rfl
    · rw [mvR_succ s d i hi]; rfl
  · have hi : i = s.length := by have := of_decide_eq_false hb; rw [e0] at this; omega
    have k1 := r_CheckShape (movS s d) (by rw [movS_len]; omega)
    have hm := mov_chk h0 (d := d)
    clear hb
    conv => whnf
    refine .inl ?_
    conv => whnf
    refine ⟨rfl, ?_⟩
    rw [window_full, hi, mvR_all]
    refine ⟨_, k1, ?_⟩
    conv => whnf
    repeat' (first
      | (refine ⟨fun hg => ?_, fun hg => ?_⟩ <;> first | contradiction | (conv => whnf))
      | (refine Or.inl ?_; conv => whnf)
      | (refine And.intro ?_ ?_; kernel_rfl; conv => whnf))
    · have hg : chkShp (movS s d) ≠ 0 := of_decide_eq_true hg
      have e : movR s d = ([], 4) := if_neg (fun h => hg (hm.2 h))
      rw [e]; rfl
    · have hg := Classical.not_not.1 (of_decide_eq_false hg)
      have e : movR s d = (movS s d, 0) := if_pos (hm.1 hg)
      rw [e, window_full]; rfl
end Sh


set_option maxRecDepth 100000
set_option linter.unusedSimpArgs false
set_option linter.unusedVariables false
namespace Sh
open Go Go.Proofs
theorem r_SameCorners (l : List ((Int × Int) × (Int × Int))) (hl : l.length < 1073741824) : PC 52 [.list (l.map encCn), .list (l.map encCn)] (.bool true) := by
  have e0 : ((l.map encCn).length : Int) = l.length := by simp
  refine pureCall_ofR dh52 rfl ?_
  conv => whnf
  refine ⟨fun hg => absurd rfl (of_decide_eq_true hg), fun hg => ?_⟩
  clear hg
  conv => whnf
  refine dwp_loopU (P := Tryz.prog) (G := GC) (k := dk52_0) (b := db52_0) (α := Nat) (fun i => [(5, DV.int .i64 (i))]) (fun _ => []) (fun i => i ≤ l.length) (fun i => l.length - i) 0 (Nat.zero_le _) ?_
  conv => whnf
  refine ⟨rfl, rfl, ?_⟩
  conv => whnf
  refine ⟨rfl, ?_⟩
  intro i h1
  conv => whnf
  refine ⟨fun hb => ?_, fun hb => ?_⟩
  · have hi : i < l.length := by simpa using hb
    clear hb
    conv => whnf
    rw [getD_enc _ _ (i) ((0, 0), (0, 0)) hi]
    refine ⟨idxA hi rfl, ?_⟩
    conv => whnf
    repeat' (first
      | (refine ⟨fun hg => ?_, fun hg => ?_⟩ <;> first | contradiction | (conv => whnf))
      | (refine Or.inl ?_; conv => whnf)
      | (rw [getD_enc _ _ i (((0, 0), (0, 0))) hi]; refine ⟨idxA hi rfl, ?_⟩; conv => whnf)
      | (refine And.intro ?_ ?_; kernel_rfl; conv => whnf))
    · exfalso
      revert hg
      simp
    · rw [wrap_succ i (by omega)]
      exact ⟨i + 1, rfl, rfl, rfl, hi, by omega⟩
  · clear hb
    conv => whnf
    rfl
end Sh


set_option maxRecDepth 100000
set_option linter.unusedSimpArgs false
set_option linter.unusedVariables false
namespace Sh
open Go Go.Proofs
def cpR {α : Type} (enc : α → DV) (l : List α) (i : Nat) : List DV := (l.take i).map enc
theorem cpR_len {α : Type} (enc : α → DV) (l : List α) (i : Nat) (h : i ≤ l.length) : (cpR enc l i).length = i := by simp [cpR]; omega
theorem cpR_succ {α : Type} (enc : α → DV) (l : List α) (i : Nat) (d : α) (h : i < l.length) : cpR enc l (i + 1) = cpR enc l i ++ [enc (l.getD i d)] := take_map_succ _ l i d h
theorem cpR_all {α : Type} (enc : α → DV) (l : List α) : cpR enc l l.length = l.map enc := by unfold cpR; rw [List.take_length]
theorem l_corners (l : List ((Int × Int) × (Int × Int))) (hl : l.length < 1073741824) : PC 53 [.list (l.map encCn)] (.list (l.map encCn)) := by
  have e0 : ((l.map encCn).length : Int) = l.length := by simp
  refine pureCall_ofR dh53 rfl ?_
  conv => whnf
  refine dwp_loopU (P := Tryz.prog) (G := GC) (k := dk53_0) (b := db53_0) (α := Nat) (fun i => [(3, .own 3 0 (cpR encCn l i).length (cpR encCn l i).length), (8, DV.int .i64 (i))]) (fun i => [(3, .row 4 (cpR encCn l i) false)]) (fun i => i ≤ l.length) (fun i => l.length - i) 0 (Nat.zero_le _) ?_
  conv => whnf
  refine ⟨rfl, rfl, ?_⟩
  conv => whnf
  refine ⟨rfl, ?_⟩
  intro i h1
  conv => whnf
  refine ⟨fun hb => ?_, fun hb => ?_⟩
  · have hi : i < l.length := by simpa using hb
    have hln := cpR_len encCn l i h1
    clear hb
    conv => whnf
    rw [getD_enc _ _ (i) ((0, 0), (0, 0)) hi]
    refine ⟨idxA hi rfl, ?_⟩
    conv => whnf
    repeat' (first
      | (refine ⟨fun hg => ?_, fun hg => ?_⟩ <;> first | contradiction | (conv => whnf))
      | (refine Or.inl ?_; conv => whnf)
      | (refine ⟨⟨rfl, rfl, rfl, by rw [hln]; simp; omega, fun e he => by simp at he; subst he; rfl⟩, ?_⟩; conv => whnf)
      | (refine And.intro ?_ ?_; kernel_rfl; conv => whnf))
    rw [wrap_succ i (by omega)]
    refine ⟨i + 1, rfl, ?_, ?_, hi, by omega⟩
    · rw [cpR_succ encCn l i (((0, 0), (0, 0))) hi]; rfl
    · rw [cpR_succ encCn l i (((0, 0), (0, 0))) hi]; rfl
  · have hi : i = l.length := by have := of_decide_eq_false hb; rw [e0] at this; omega
    clear hb
    conv => whnf
    exact ⟨rfl, by rw [window_full, hi, cpR_all]; rfl⟩
end Sh


set_option maxRecDepth 100000
set_option linter.unusedSimpArgs false
set_option linter.unusedVariables false
namespace Sh
open Go Go.Proofs
theorem l_own (s : List V3) (hl : s.length < 1073741824) : PC 16 [shp s] (shp s) := by
  refine pureCall_ofR dh16 rfl ?_
  conv => whnf
  refine ⟨⟨by simp; omega, fun e he => by obtain ⟨v, _, rfl⟩ := List.mem_map.1 he; rfl, fun e he => absurd he List.not_mem_nil⟩, ?_⟩
  conv => whnf
  rfl
end Sh


set_option maxRecDepth 100000
set_option linter.unusedSimpArgs false
set_option linter.unusedVariables false
namespace Sh
open Go Go.Proofs
theorem l_first (l : List Int) (hl : l.length < 4611686018427387904) : PC 20 [iL l] (DV.int .i64 (firstE l)) := by
  refine pureCall_ofR dh20 rfl ?_
  conv => whnf
  refine .inl ?_
  conv => whnf
  refine ⟨_, q_First _ hl, ?_⟩
  conv => whnf
  rfl
end Sh


set_option maxRecDepth 100000
namespace Sh
open Go
def dc5 : DFunc := ⟨103, 3, [(.tmp 6)], (.seq (.ops false [⟨(some 4), (.box 3 (.tmp 1)), none, []⟩, ⟨(some 5), (.box 3 (.tmp 2)), none, []⟩, ⟨(some 6), (.mov (.const (.bool false))), none, []⟩]) (.seq (.seq (.ops false [⟨(some 18), (.mov (.tmp 0)), none, []⟩, ⟨(some 19), (.len (.tmp 18)), none, []⟩, ⟨(some 20), (.bin .gtr (.tmp 19) (.const (.int .i64 7))), none, []⟩]) (.cond (.tmp 20) (.seq (.ops false [⟨(some 21), (.call (.func 14) []), none, []⟩, ⟨(some 6), (.mov (.tmp 21)), none, []⟩]) .ret) .skip)) (.seq (.ops true [⟨(some 23), (.mov (.tmp 0)), none, []⟩, ⟨(some 24), (.call (.func 16) [(.tmp 23)]), none, [0]⟩, ⟨(some 25), (.load (some 3) (.tmp 4)), none, []⟩, ⟨(some 26), (.call (.func 45) [(.tmp 24), (.tmp 25)]), none, [1, 0, 2]⟩, ⟨(some 22), (.mov (.tmp 26)), none, [3, 1, 0, 2]⟩, ⟨(some 27), (.extract (.tmp 22) 0), none, [4, 3, 1, 0, 2]⟩, ⟨(some 28), (.extract (.tmp 22) 1), none, [4, 3, 1, 0, 2]⟩, ⟨(some 7), (.mov (.tmp 27)), none, [5, 4, 3, 1, 0, 2]⟩, ⟨(some 8), (.mov (.tmp 28)), none, [6, 4, 3, 1, 0, 2, 7, 5]⟩]) (.seq (.ops true [⟨(some 30), (.mov (.tmp 0)), none, []⟩, ⟨(some 31), (.call (.func 16) [(.tmp 30)]), none, [0]⟩, ⟨(some 32), (.load (some 3) (.tmp 4)), none, []⟩, ⟨(some 33), (.call (.func 46) [(.tmp 31), (.tmp 32)]), none, [1, 0, 2]⟩, ⟨(some 29), (.mov (.tmp 33)), none, [3, 1, 0, 2]⟩, ⟨(some 34), (.extract (.tmp 29) 0), none, [4, 3, 1, 0, 2]⟩, ⟨(some 35), (.extract (.tmp 29) 1), none, [4, 3, 1, 0, 2]⟩, ⟨(some 9), (.alloc (.agg [(.int .i64 0), (.int .i64 0)]) 2), none, []⟩, ⟨none, (.store 2 (.tmp 9) (.tmp 34)), none, [7, 5, 4, 3, 1, 0, 2]⟩, ⟨(some 10), (.mov (.tmp 35)), none, [6, 4, 3, 1, 0, 2, 8, 7, 5]⟩]) (.seq (.ops true [⟨(some 37), (.mov (.tmp 0)), none, []⟩, ⟨(some 38), (.call (.func 16) [(.tmp 37)]), none, [0]⟩, ⟨(some 39), (.load (some 3) (.tmp 5)), none, []⟩, ⟨(some 40), (.call (.func 47) [(.tmp 38), (.tmp 39)]), none, [1, 0, 2]⟩, ⟨(some 36), (.mov (.tmp 40)), none, [3, 1, 0, 2]⟩, ⟨(some 41), (.extract (.tmp 36) 0), none, [4, 3, 1, 0, 2]⟩, ⟨(some 42), (.extract (.tmp 36) 1), none, [4, 3, 1, 0, 2]⟩, ⟨(some 11), (.mov (.tmp 41)), none, [5, 4, 3, 1, 0, 2]⟩, ⟨(some 12), (.mov (.tmp 42)), none, [6, 4, 3, 1, 0, 2, 7, 5]⟩]) (.seq (.ops true [⟨(some 43), (.mov (.tmp 0)), none, []⟩, ⟨(some 44), (.call (.func 21) [(.tmp 43)]), none, [0]⟩, ⟨(some 45), (.load (some 3) (.tmp 4)), none, []⟩, ⟨(some 46), (.call (.func 22) [(.tmp 45)]), none, [2, 1, 0]⟩, ⟨(some 47), (.lit true 1 2 (.int .i64 0) [(0, (.tmp 44)), (1, (.tmp 46))]), none, [1, 0, 3, 2]⟩, ⟨(some 48), (.call (.func 20) [(.tmp 47)]), none, [4, 1, 0, 3, 2]⟩, ⟨(some 49), (.mov (.tmp 0)), none, []⟩, ⟨(some 50), (.call (.func 21) [(.tmp 49)]), none, [6, 5, 4, 1, 0, 3, 2]⟩, ⟨(some 51), (.load (some 3) (.tmp 5)), none, []⟩, ⟨(some 52), (.call (.func 48) [(.tmp 51)]), none, [8, 7, 6, 5, 4, 1, 0, 3, 2]⟩, ⟨(some 53), (.lit true 1 2 (.int .i64 0) [(0, (.tmp 50)), (1, (.tmp 52))]), none, [7, 6, 5, 4, 1, 0, 3, 2, 9, 8]⟩, ⟨(some 54), (.call (.func 20) [(.tmp 53)]), none, [10, 7, 6, 5, 4, 1, 0, 3, 2, 9, 8]⟩, ⟨(some 13), (.mov (.tmp 48)), none, [5, 4, 1, 0, 3, 2, 11, 10, 7, 6, 9, 8]⟩, ⟨(some 14), (.mov (.tmp 54)), none, [11, 10, 7, 6, 5, 4, 1, 0, 3, 2, 9, 8, 12]⟩]) (.seq (.ops false [⟨(some 15), (.mov (.const (.slice none 0 0))), none, []⟩]) (.seq (.ops false [⟨(some 16), (.alloc (.agg [(.int .i64 0), (.int .i64 0)]) 2), none, []⟩]) (.seq (.ops false [⟨(some 17), (.mov (.const (.slice none 0 0))), none, []⟩]) (.seq (.seq (.ops false [⟨(some 55), (.mov (.tmp 13)), none, []⟩, ⟨(some 56), (.bin .eql (.tmp 55) (.const (.int .i64 0))), none, []⟩]) (.cond (.tmp 56) (.ops true [⟨(some 57), (.mov (.tmp 0)), none, []⟩, ⟨(some 58), (.load (some 3) (.tmp 4)), none, []⟩, ⟨(some 59), (.call (.func 49) [(.tmp 57), (.tmp 58)]), none, [0, 1]⟩, ⟨(some 60), (.mov (.tmp 0)), none, []⟩, ⟨(some 61), (.load (some 3) (.tmp 4)), none, []⟩, ⟨(some 62), (.call (.func 50) [(.tmp 60), (.tmp 61)]), none, [3, 4, 2, 0, 1]⟩, ⟨(some 15), (.mov (.tmp 59)), none, [2, 0, 1, 5, 3, 4]⟩, ⟨none, (.store 2 (.tmp 16) (.tmp 62)), none, [5, 3, 4, 2, 0, 1, 6]⟩]) .skip)) (.seq (.seq (.ops false [⟨(some 63), (.mov (.tmp 14)), none, []⟩, ⟨(some 64), (.bin .eql (.tmp 63) (.const (.int .i64 0))), none, []⟩]) (.cond (.tmp 64) (.ops false [⟨(some 66), (.mov (.tmp 0)), none, []⟩, ⟨(some 67), (.load (some 3) (.tmp 5)), none, []⟩, ⟨(some 68), (.call (.func 51) [(.tmp 66), (.tmp 67)]), none, []⟩, ⟨(some 65), (.mov (.tmp 68)), none, []⟩, ⟨(some 69), (.extract (.tmp 65) 0), none, []⟩, ⟨(some 70), (.extract (.tmp 65) 1), none, []⟩, ⟨(some 17), (.mov (.tmp 69)), none, []⟩, ⟨(some 14), (.mov (.tmp 70)), none, []⟩]) .skip)) (.seq (.ops false [⟨(some 71), (.mov (.tmp 7)), none, []⟩, ⟨(some 72), (.call (.func 53) [(.tmp 71)]), none, []⟩, ⟨(some 73), (.mov (.tmp 15)), none, []⟩, ⟨(some 74), (.call (.func 52) [(.tmp 72), (.tmp 73)]), none, []⟩, ⟨(some 75), (.mov (.tmp 74)), none, []⟩, ⟨(some 76), (.mov (.tmp 8)), (some (75, true)), []⟩, ⟨(some 77), (.mov (.tmp 13)), (some (75, true)), []⟩, ⟨(some 78), (.bin .eql (.tmp 76) (.tmp 77)), (some (75, true)), []⟩, ⟨(some 79), (.pick (.tmp 75) (.tmp 78) (.const (.bool false))), none, []⟩, ⟨(some 80), (.mov (.tmp 79)), none, []⟩, ⟨(some 81), (.load (some 2) (.tmp 9)), (some (80, true)), []⟩, ⟨(some 82), (.load (some 2) (.tmp 16)), (some (80, true)), []⟩, ⟨(some 83), (.eqA false [1, 1] (.tmp 81) (.tmp 82)), (some (80, true)), []⟩, ⟨(some 84), (.pick (.tmp 80) (.tmp 83) (.const (.bool false))), none, []⟩, ⟨(some 85), (.mov (.tmp 84)), none, []⟩, ⟨(some 86), (.mov (.tmp 10)), (some (85, true)), []⟩, ⟨(some 87), (.mov (.tmp 13)), (some (85, true)), []⟩, ⟨(some 88), (.bin .eql (.tmp 86) (.tmp 87)), (some (85, true)), []⟩, ⟨(some 89), (.pick (.tmp 85) (.tmp 88) (.const (.bool false))), none, []⟩, ⟨(some 90), (.mov (.tmp 89)), none, []⟩, ⟨(some 91), (.mov (.tmp 11)), (some (90, true)), []⟩, ⟨(some 92), (.mov (.tmp 17)), (some (90, true)), []⟩, ⟨(some 93), (.call (.func 54) [(.tmp 91), (.tmp 92)]), (some (90, true)), []⟩, ⟨(some 94), (.pick (.tmp 90) (.tmp 93) (.const (.bool false))), none, []⟩, ⟨(some 95), (.mov (.tmp 94)), none, []⟩, ⟨(some 96), (.mov (.tmp 12)), (some (95, true)), []⟩, ⟨(some 97), (.mov (.tmp 14)), (some (95, true)), []⟩, ⟨(some 98), (.bin .eql (.tmp 96) (.tmp 97)), (some (95, true)), []⟩, ⟨(some 99), (.pick (.tmp 95) (.tmp 98) (.const (.bool false))), none, []⟩, ⟨(some 100), (.mov (.tmp 99)), none, []⟩, ⟨(some 101), (.call (.func 14) []), (some (100, true)), []⟩, ⟨(some 102), (.pick (.tmp 100) (.tmp 101) (.const (.bool false))), none, []⟩, ⟨(some 6), (.mov (.tmp 102)), none, []⟩]) .ret))))))))))))⟩
theorem dh5 : cProg Go.Proofs.Tryz.prog ⟨[], [], [47, 53]⟩ 5 = some dc5 := by kernel_rfl
end Sh


set_option maxRecDepth 100000
set_option maxHeartbeats 2000000
set_option linter.unusedSimpArgs false
set_option linter.unusedVariables false
namespace Sh
open Go Go.Proofs
theorem l_ShadeOutlines (aw : PC 14 [] (.bool true)) (s : List V3) (sun d : V3) : PC 5 [shp s, encV sun, encV d] (.bool true) := by
  have e0 : ((s.map encV).length : Int) = s.length := by simp
  refine pureCall_ofR dh5 rfl ?_
  conv => whnf
  refine ⟨fun hg => ?_, fun hg => ?_⟩
  · conv => whnf
    repeat' (first
      | (refine ⟨fun hg => ?_, fun hg => ?_⟩ <;> first | contradiction | (conv => whnf))
      | (refine Or.inl ?_; conv => whnf)
      | (refine ⟨_, aw .., ?_⟩; conv => whnf)
      | (refine And.intro ?_ ?_; kernel_rfl; conv => whnf))
    rfl
  · have hl7 : s.length ≤ 7 := by have := of_decide_eq_false hg; rw [e0] at this; omega
    have hl : s.length < 1073741824 := by omega
    clear hg e0
    have a1 := l_own s hl
    have a2 := r_CheckShape s hl
    have a3 := r_CheckSun sun
    have a4 := r_CheckBy d
    have b1 := c_Outline s sun hl
    have b2 := c_Area s sun hl
    have b3 := c_Moved s d hl
    have f1 : PC 20 [iL [chkShp s, chkSun sun]] (DV.int .i64 (olE s sun)) := l_first [chkShp s, chkSun sun] (by simp)
    have f2 : PC 20 [iL [chkShp s, chkBy d]] (DV.int .i64 (mvE s d)) := l_first [chkShp s, chkBy d] (by simp)
    have hmv : mvE s d = 0 → PC 51 [shp s, encV d] (.tuple [shp (mvS s d).1, DV.int .i64 ((mvS s d).2)]) ∧ (mvS s d).1.length ≤ 7 := by
      intro h
      rw [show mvS s d = movR s d from if_neg (fun h2 => h2 h)]
      obtain ⟨z1, h3⟩ := firstE_cons h
      obtain ⟨z2, h3⟩ := firstE_cons h3
      refine ⟨r_Moved s d z1 (chkBy_zero z2), ?_⟩
      unfold movR
      split
      · show (movS s d).length ≤ 7
        rw [movS_len]; exact hl7
      · exact Nat.zero_le _
    have hmn : mvE s d ≠ 0 → mvS s d = ([], mvE s d) := fun h => if_pos h
    have hln : (outL s sun).length < 1073741824 := by unfold outL; rw [List.length_map]; exact hl
    have cN : PC 53 [.list []] (.list []) := l_corners [] (by decide)
    have dN : PC 52 [.list [], .list []] (.bool true) := r_SameCorners [] (by decide)
    have sN : PC 54 [.list [], .list []] (.bool true) := r_SameShape [] (by decide)
    by_cases h1 : olE s sun = 0
    all_goals by_cases h2 : mvE s d = 0
    all_goals first
      | rw [show olS s sun = (outL s sun, 0) from if_neg (fun h => h h1)] at b1
        rw [show arS s sun = (areaR s sun, 0) from if_neg (fun h => h h1)] at b2
        rw [h1] at f1
        have c1 := r_Outline s sun (olE_zero h1).1 (olE_zero h1).2.1 (olE_zero h1).2.2
        have c2 := r_Area s sun (olE_zero h1).1 (olE_zero h1).2.1 (olE_zero h1).2.2
        have c3 := l_corners (outL s sun) hln
        have c4 := r_SameCorners (outL s sun) hln
      | rw [show olS s sun = ([], olE s sun) from if_pos h1] at b1
        rw [show arS s sun = ((0, 0), olE s sun) from if_pos h1] at b2
        have c1 := aw
        have c2 := aw
        have c3 := cN
        have c4 := dN
        generalize olE s sun = E1 at *
    all_goals first
      | rw [h2] at f2
        obtain ⟨g1, g2⟩ := hmv h2
        have c5 := r_SameShape (mvS s d).1 (by omega)
        clear hmv hmn
        generalize mvS s d = R at *
      | rw [hmn h2] at b3
        have g1 := aw
        have c5 := sN
        clear hmv hmn
        generalize mvE s d = E2 at *
    all_goals
      conv => whnf
      repeat' (first
        | (refine ⟨fun hg => ?_, fun hg => ?_⟩ <;> first | contradiction | (exfalso; revert hg; simp; done) | (exfalso; exact absurd (of_decide_eq_true hg) (by assumption)) | (exfalso; exact absurd (by assumption) (of_decide_eq_false hg)) | (conv => whnf))
        | (refine Or.inl ?_; conv => whnf)
        | (refine ⟨_, a1, ?_⟩; conv => whnf)
        | (refine ⟨_, a2, ?_⟩; conv => whnf)
        | (refine ⟨_, a3, ?_⟩; conv => whnf)
        | (refine ⟨_, a4, ?_⟩; conv => whnf)
        | (refine ⟨_, b1, ?_⟩; conv => whnf)
        | (refine ⟨_, b2, ?_⟩; conv => whnf)
        | (refine ⟨_, b3, ?_⟩; conv => whnf)
        | (refine ⟨_, f1, ?_⟩; conv => whnf)
        | (refine ⟨_, f2, ?_⟩; conv => whnf)
        | (refine ⟨_, c1, ?_⟩; conv => whnf)
        | (refine ⟨_, c2, ?_⟩; conv => whnf)
        | (refine ⟨_, c3, ?_⟩; conv => whnf)
        | (refine ⟨_, c4, ?_⟩; conv => whnf)
        | (refine ⟨_, g1, ?_⟩; conv => whnf)
        | (refine ⟨_, c5, ?_⟩; conv => whnf)
        | (refine ⟨_, aw, ?_⟩; conv => whnf)
        | (refine And.intro ?_ ?_; kernel_rfl; conv => whnf))
      try rfl
end Sh

