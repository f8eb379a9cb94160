/-
  Chapter 3's functions, walked over pure data: the library of the walk, the functions' code over data, and what each computes. (part 7)
-/
import Derived.Test.YtkaglomkahhjcaaGreatDoorP6
import Derived.Test.YtkaglomkahhjcaaGreatDoorProg
set_option linter.unusedVariables false
set_option linter.unusedSimpArgs false
set_option maxRecDepth 100000
namespace Sh
open Go
def dc59 : DFunc := ⟨11, 1, [(.tmp 2)], (.seq (.ops false [⟨(some 1), (.box 2 (.tmp 0)), none, []⟩, ⟨(some 2), (.mov (.const (.int .i64 0))), none, []⟩]) (.seq (.ops true [⟨(some 3), (.faddr 0 1 false (.tmp 1)), none, []⟩, ⟨(some 4), (.load none (.tmp 3)), none, [0]⟩, ⟨(some 5), (.call (.func 96) [(.tmp 4), (.const (.int .i64 1)), (.const (.int .i64 100))]), none, [1, 0]⟩, ⟨(some 6), (.faddr 1 1 false (.tmp 1)), none, []⟩, ⟨(some 7), (.load none (.tmp 6)), none, [3]⟩, ⟨(some 8), (.call (.func 96) [(.tmp 7), (.const (.int .i64 (-100))), (.const (.int .i64 100))]), none, [4, 3, 2, 1, 0]⟩, ⟨(some 9), (.lit true 1 2 (.int .i64 0) [(0, (.tmp 5)), (1, (.tmp 8))]), none, [2, 1, 0, 5, 4, 3]⟩, ⟨(some 10), (.call (.func 94) [(.tmp 9)]), none, [6, 2, 1, 0, 5, 4, 3]⟩, ⟨(some 2), (.mov (.tmp 10)), none, [7, 6, 2, 1, 0, 5, 4, 3]⟩]) .ret))⟩
theorem dh59 : cProg Go.Proofs.Tryz.prog ⟨[], [], [9]⟩ 59 = some dc59 := by kernel_rfl
def dc60 : DFunc := ⟨11, 1, [(.tmp 2)], (.seq (.ops false [⟨(some 1), (.box 2 (.tmp 0)), none, []⟩, ⟨(some 2), (.mov (.const (.int .i64 0))), none, []⟩]) (.seq (.ops true [⟨(some 3), (.faddr 0 1 false (.tmp 1)), none, []⟩, ⟨(some 4), (.load none (.tmp 3)), none, [0]⟩, ⟨(some 5), (.call (.func 96) [(.tmp 4), (.const (.int .i64 1)), (.const (.int .i64 1000))]), none, [1, 0]⟩, ⟨(some 6), (.faddr 1 1 false (.tmp 1)), none, []⟩, ⟨(some 7), (.load none (.tmp 6)), none, [3]⟩, ⟨(some 8), (.call (.func 96) [(.tmp 7), (.const (.int .i64 (-1000))), (.const (.int .i64 1000))]), none, [4, 3, 2, 1, 0]⟩, ⟨(some 9), (.lit true 1 2 (.int .i64 0) [(0, (.tmp 5)), (1, (.tmp 8))]), none, [2, 1, 0, 5, 4, 3]⟩, ⟨(some 10), (.call (.func 94) [(.tmp 9)]), none, [6, 2, 1, 0, 5, 4, 3]⟩, ⟨(some 2), (.mov (.tmp 10)), none, [7, 6, 2, 1, 0, 5, 4, 3]⟩]) .ret))⟩
theorem dh60 : cProg Go.Proofs.Tryz.prog ⟨[], [], [9]⟩ 60 = some dc60 := by kernel_rfl
def dc61 : DFunc := ⟨16, 2, [(.tmp 4)], (.seq (.ops false [⟨(some 2), (.box 2 (.tmp 0)), none, []⟩, ⟨(some 3), (.box 3 (.tmp 1)), none, []⟩, ⟨(some 4), (.mov (.const (.int .i64 0))), none, []⟩]) (.seq (.ops false [⟨(some 5), (.faddr 0 1 false (.tmp 2)), none, []⟩, ⟨(some 6), (.load none (.tmp 5)), none, []⟩, ⟨(some 7), (.faddr 2 1 false (.tmp 3)), none, []⟩, ⟨(some 8), (.load none (.tmp 7)), none, []⟩, ⟨(some 9), (.bin .mul (.tmp 6) (.tmp 8)), none, []⟩, ⟨(some 10), (.faddr 1 1 false (.tmp 2)), none, []⟩, ⟨(some 11), (.load none (.tmp 10)), none, []⟩, ⟨(some 12), (.faddr 1 1 false (.tmp 3)), none, []⟩, ⟨(some 13), (.load none (.tmp 12)), none, []⟩, ⟨(some 14), (.bin .mul (.tmp 11) (.tmp 13)), none, []⟩, ⟨(some 15), (.bin .sub (.tmp 9) (.tmp 14)), none, []⟩, ⟨(some 4), (.mov (.tmp 15)), none, []⟩]) .ret))⟩
theorem dh61 : cProg Go.Proofs.Tryz.prog ⟨[], [], []⟩ 61 = some dc61 := by kernel_rfl
def dc62 : DFunc := ⟨21, 2, [(.tmp 4)], (.seq (.ops false [⟨(some 2), (.box 2 (.tmp 0)), none, []⟩, ⟨(some 3), (.box 3 (.tmp 1)), none, []⟩, ⟨(some 4), (.mov (.const (.int .i64 0))), none, []⟩]) (.seq (.ops false [⟨(some 6), (.faddr 0 1 false (.tmp 2)), none, []⟩, ⟨(some 7), (.load none (.tmp 6)), none, []⟩, ⟨(some 8), (.faddr 2 1 false (.tmp 3)), none, []⟩, ⟨(some 9), (.load none (.tmp 8)), none, []⟩, ⟨(some 10), (.bin .mul (.tmp 7) (.tmp 9)), none, []⟩, ⟨(some 11), (.faddr 1 1 false (.tmp 2)), none, []⟩, ⟨(some 12), (.load none (.tmp 11)), none, []⟩, ⟨(some 13), (.faddr 1 1 false (.tmp 3)), none, []⟩, ⟨(some 14), (.load none (.tmp 13)), none, []⟩, ⟨(some 15), (.bin .mul (.tmp 12) (.tmp 14)), none, []⟩, ⟨(some 16), (.bin .sub (.tmp 10) (.tmp 15)), none, []⟩, ⟨(some 5), (.mov (.tmp 16)), none, []⟩]) (.seq (.ops false [⟨(some 17), (.mov (.tmp 5)), none, []⟩, ⟨(some 18), (.mov (.tmp 5)), none, []⟩, ⟨(some 19), (.bin .sub (.const (.int .i64 0)) (.tmp 18)), none, []⟩, ⟨(some 20), (.minmax true (.tmp 17) [(.tmp 19)]), none, []⟩, ⟨(some 4), (.mov (.tmp 20)), none, []⟩]) .ret)))⟩
theorem dh62 : cProg Go.Proofs.Tryz.prog ⟨[], [], []⟩ 62 = some dc62 := by kernel_rfl
def dc63 : DFunc := ⟨14, 3, [(.tmp 6)], (.seq (.ops false [⟨(some 3), (.box 2 (.tmp 0)), none, []⟩, ⟨(some 4), (.box 2 (.tmp 1)), none, []⟩, ⟨(some 5), (.box 3 (.tmp 2)), none, []⟩, ⟨(some 6), (.mov (.const (.bool false))), none, []⟩]) (.seq (.ops true [⟨(some 7), (.load (some 2) (.tmp 3)), none, []⟩, ⟨(some 8), (.load (some 3) (.tmp 5)), none, []⟩, ⟨(some 9), (.call (.func 128) [(.tmp 7), (.tmp 8)]), none, [0, 1]⟩, ⟨(some 10), (.load (some 2) (.tmp 4)), none, []⟩, ⟨(some 11), (.load (some 3) (.tmp 5)), none, []⟩, ⟨(some 12), (.call (.func 62) [(.tmp 10), (.tmp 11)]), none, [3, 4, 2, 0, 1]⟩, ⟨(some 13), (.bin .leq (.tmp 9) (.tmp 12)), none, [2, 0, 1, 5, 3, 4]⟩, ⟨(some 6), (.mov (.tmp 13)), none, [6, 2, 0, 1, 5, 3, 4]⟩]) .ret))⟩
theorem dh63 : cProg Go.Proofs.Tryz.prog ⟨[], [], []⟩ 63 = some dc63 := by kernel_rfl
def dc64 : DFunc := ⟨23, 3, [(.cell 6 (some 2))], (.seq (.ops false [⟨(some 3), (.box 2 (.tmp 0)), none, []⟩, ⟨(some 4), (.box 2 (.tmp 1)), none, []⟩, ⟨(some 5), (.box 3 (.tmp 2)), none, []⟩, ⟨(some 6), (.alloc (.agg [(.int .i64 0), (.int .i64 0)]) 2), none, []⟩]) (.seq (.seq (.ops false [⟨(some 7), (.load (some 2) (.tmp 3)), none, []⟩, ⟨(some 8), (.load (some 2) (.tmp 4)), none, []⟩, ⟨(some 9), (.load (some 3) (.tmp 5)), none, []⟩, ⟨(some 10), (.call (.func 63) [(.tmp 7), (.tmp 8), (.tmp 9)]), none, []⟩]) (.cond (.tmp 10) (.seq (.ops false [⟨(some 11), (.build [(.int .i64 0), (.int .i64 0)] [(1, (1, (.const (.int .i64 1))))]), none, []⟩, ⟨none, (.store 2 (.tmp 6) (.tmp 11)), none, []⟩]) .ret) .skip)) (.seq (.ops true [⟨(some 12), (.load (some 2) (.tmp 3)), none, []⟩, ⟨(some 13), (.load (some 3) (.tmp 5)), none, []⟩, ⟨(some 14), (.call (.func 128) [(.tmp 12), (.tmp 13)]), none, [0, 1]⟩, ⟨(some 15), (.load (some 2) (.tmp 4)), none, []⟩, ⟨(some 16), (.load (some 3) (.tmp 5)), none, []⟩, ⟨(some 17), (.call (.func 62) [(.tmp 15), (.tmp 16)]), none, [3, 4, 2, 0, 1]⟩, ⟨(some 18), (.bin .sub (.tmp 14) (.tmp 17)), none, [2, 0, 1, 5, 3, 4]⟩, ⟨(some 19), (.load (some 2) (.tmp 3)), none, []⟩, ⟨(some 20), (.load (some 3) (.tmp 5)), none, []⟩, ⟨(some 21), (.call (.func 128) [(.tmp 19), (.tmp 20)]), none, [7, 8, 5, 3, 4, 2, 0, 1]⟩, ⟨(some 22), (.call (.func 80) [(.tmp 18), (.tmp 21)]), none, [6, 2, 0, 1, 5, 3, 4, 9, 7, 8]⟩, ⟨none, (.store 2 (.tmp 6) (.tmp 22)), none, [10, 6, 2, 0, 1, 5, 3, 4, 9, 7, 8]⟩]) .ret)))⟩
theorem dh64 : cProg Go.Proofs.Tryz.prog ⟨[], [], []⟩ 64 = some dc64 := by kernel_rfl
def dc80 : DFunc := ⟨22, 2, [(.cell 4 (some 2))], (.seq (.ops false [⟨(some 4), (.alloc (.agg [(.int .i64 0), (.int .i64 0)]) 2), none, []⟩]) (.seq (.seq (.ops false [⟨(some 6), (.mov (.tmp 1)), none, []⟩, ⟨(some 7), (.bin .lss (.tmp 6) (.const (.int .i64 0))), none, []⟩]) (.cond (.tmp 7) (.ops false [⟨(some 8), (.mov (.tmp 0)), none, []⟩, ⟨(some 9), (.bin .sub (.const (.int .i64 0)) (.tmp 8)), none, []⟩, ⟨(some 10), (.mov (.tmp 1)), none, []⟩, ⟨(some 11), (.bin .sub (.const (.int .i64 0)) (.tmp 10)), none, []⟩, ⟨(some 0), (.mov (.tmp 9)), none, []⟩, ⟨(some 1), (.mov (.tmp 11)), none, []⟩]) .skip)) (.seq (.ops false [⟨(some 12), (.mov (.tmp 0)), none, []⟩, ⟨(some 13), (.mov (.tmp 1)), none, []⟩, ⟨(some 14), (.call (.func 143) [(.tmp 12), (.tmp 13)]), none, []⟩, ⟨(some 5), (.mov (.tmp 14)), none, []⟩]) (.seq (.ops true [⟨(some 15), (.mov (.tmp 0)), none, []⟩, ⟨(some 16), (.mov (.tmp 5)), none, []⟩, ⟨(some 17), (.bin .quo (.tmp 15) (.tmp 16)), none, [0, 1]⟩, ⟨(some 18), (.mov (.tmp 1)), none, []⟩, ⟨(some 19), (.mov (.tmp 5)), none, []⟩, ⟨(some 20), (.bin .quo (.tmp 18) (.tmp 19)), none, [3, 4]⟩, ⟨(some 21), (.build [(.int .i64 0), (.int .i64 0)] [(0, (1, (.tmp 17))), (1, (1, (.tmp 20)))]), none, [2, 0, 1, 5, 3, 4]⟩, ⟨none, (.store 2 (.tmp 4) (.tmp 21)), none, [6, 2, 0, 1, 5, 3, 4]⟩]) .ret))))⟩
theorem dh80 : cProg Go.Proofs.Tryz.prog ⟨[], [], []⟩ 80 = some dc80 := by kernel_rfl
end Sh


set_option maxRecDepth 100000
namespace Sh
open Go
def db94_0 : DC := (.seq (.seq (.ops false [⟨(some 4), (.mov (.tmp 3)), none, []⟩, ⟨(some 5), (.mov (.tmp 0)), none, []⟩, ⟨(some 6), (.len (.tmp 5)), none, []⟩, ⟨(some 7), (.bin .lss (.tmp 4) (.tmp 6)), none, []⟩]) (.cond (.tmp 7) .skip (.exit 0))) (.seq (.block 1 none (.seq (.ops false [⟨(some 10), (.mov (.tmp 0)), none, []⟩, ⟨(some 11), (.mov (.tmp 3)), none, []⟩, ⟨(some 12), (.iaddr 1 (.tmp 10) (.tmp 11)), none, []⟩, ⟨(some 13), (.load none (.tmp 12)), none, []⟩, ⟨(some 14), (.bin .neq (.tmp 13) (.const (.int .i64 0))), none, []⟩]) (.cond (.tmp 14) (.seq (.ops false [⟨(some 15), (.mov (.tmp 0)), none, []⟩, ⟨(some 16), (.mov (.tmp 3)), none, []⟩, ⟨(some 17), (.iaddr 1 (.tmp 15) (.tmp 16)), none, []⟩, ⟨(some 18), (.load none (.tmp 17)), none, []⟩, ⟨(some 2), (.mov (.tmp 18)), none, []⟩]) .ret) .skip))) (.ops false [⟨(some 8), (.mov (.tmp 3)), none, []⟩, ⟨(some 9), (.bin .add (.tmp 8) (.const (.int .i64 1))), none, []⟩, ⟨(some 3), (.mov (.tmp 9)), none, []⟩])))
def dk94_0 : Keep := ⟨[], [0, 3], []⟩
def dc94 : DFunc := ⟨19, 1, [(.tmp 2)], (.seq (.ops false [⟨(some 2), (.mov (.const (.int .i64 0))), none, []⟩]) (.seq (.seq (.ops false [⟨(some 3), (.mov (.const (.int .i64 0))), none, []⟩]) (.block 0 (some ⟨[], [], []⟩) (.loop dk94_0 db94_0))) (.seq (.ops false [⟨(some 2), (.mov (.const (.int .i64 0))), none, []⟩]) .ret)))⟩
theorem dh94 : cProg Go.Proofs.Tryz.prog ⟨[(0, ⟨[], [0, 3], []⟩)], [(0, ⟨[], [], []⟩)], []⟩ 94 = some dc94 := by kernel_rfl
def dc95 : DFunc := ⟨7, 2, [(.tmp 4)], (.seq (.ops false [⟨(some 4), (.mov (.const (.int .i64 0))), none, []⟩]) (.seq (.seq (.ops false [⟨(some 5), (.mov (.tmp 0)), none, []⟩]) (.cond (.tmp 5) (.seq (.ops false [⟨(some 6), (.mov (.tmp 1)), none, []⟩, ⟨(some 4), (.mov (.tmp 6)), none, []⟩]) .ret) .skip)) (.seq (.ops false [⟨(some 4), (.mov (.const (.int .i64 0))), none, []⟩]) .ret)))⟩
theorem dh95 : cProg Go.Proofs.Tryz.prog ⟨[], [], []⟩ 95 = some dc95 := by kernel_rfl
def dc96 : DFunc := ⟨16, 3, [(.tmp 6)], (.seq (.ops false [⟨(some 6), (.mov (.const (.int .i64 0))), none, []⟩]) (.seq (.ops false [⟨(some 7), (.mov (.tmp 0)), none, []⟩, ⟨(some 8), (.mov (.tmp 1)), none, []⟩, ⟨(some 9), (.bin .lss (.tmp 7) (.tmp 8)), none, []⟩, ⟨(some 10), (.mov (.tmp 9)), none, []⟩, ⟨(some 11), (.mov (.tmp 0)), (some (10, false)), []⟩, ⟨(some 12), (.mov (.tmp 2)), (some (10, false)), []⟩, ⟨(some 13), (.bin .gtr (.tmp 11) (.tmp 12)), (some (10, false)), []⟩, ⟨(some 14), (.pick (.tmp 10) (.const (.bool true)) (.tmp 13)), none, []⟩, ⟨(some 15), (.call (.func 95) [(.tmp 14), (.const (.int .i64 3))]), none, []⟩, ⟨(some 6), (.mov (.tmp 15)), none, []⟩]) .ret))⟩
theorem dh96 : cProg Go.Proofs.Tryz.prog ⟨[], [], []⟩ 96 = some dc96 := by kernel_rfl
end Sh


set_option maxRecDepth 100000
namespace Sh
open Go
def dc128 : DFunc := ⟨14, 2, [(.tmp 4)], (.seq (.ops false [⟨(some 2), (.box 2 (.tmp 0)), none, []⟩, ⟨(some 3), (.box 3 (.tmp 1)), none, []⟩, ⟨(some 4), (.mov (.const (.int .i64 0))), none, []⟩]) (.seq (.ops false [⟨(some 6), (.load (some 2) (.tmp 2)), none, []⟩, ⟨(some 7), (.load (some 3) (.tmp 3)), none, []⟩, ⟨(some 8), (.call (.func 61) [(.tmp 6), (.tmp 7)]), none, []⟩, ⟨(some 9), (.bin .mul (.const (.int .i64 2)) (.tmp 8)), none, []⟩, ⟨(some 5), (.mov (.tmp 9)), none, []⟩]) (.seq (.ops false [⟨(some 10), (.mov (.tmp 5)), none, []⟩, ⟨(some 11), (.mov (.tmp 5)), none, []⟩, ⟨(some 12), (.bin .sub (.const (.int .i64 0)) (.tmp 11)), none, []⟩, ⟨(some 13), (.minmax true (.tmp 10) [(.tmp 12)]), none, []⟩, ⟨(some 4), (.mov (.tmp 13)), none, []⟩]) .ret)))⟩
theorem dh128 : cProg Go.Proofs.Tryz.prog ⟨[], [], []⟩ 128 = some dc128 := by kernel_rfl
def db143_0 : DC := (.seq (.seq (.ops false [⟨(some 13), (.mov (.tmp 1)), none, []⟩, ⟨(some 14), (.bin .neq (.tmp 13) (.const (.int .i64 0))), none, []⟩]) (.cond (.tmp 14) .skip (.exit 0))) (.block 1 none (.ops true [⟨(some 15), (.mov (.tmp 1)), none, []⟩, ⟨(some 16), (.mov (.tmp 0)), none, []⟩, ⟨(some 17), (.mov (.tmp 1)), none, []⟩, ⟨(some 18), (.bin .rem (.tmp 16) (.tmp 17)), none, [1, 2]⟩, ⟨(some 0), (.mov (.tmp 15)), none, [0, 1]⟩, ⟨(some 1), (.mov (.tmp 18)), none, [3, 1, 2, 4, 0]⟩])))
def dk143_0 : Keep := ⟨[], [0, 1], []⟩
def dc143 : DFunc := ⟨20, 2, [(.tmp 4)], (.seq (.ops false [⟨(some 4), (.mov (.const (.int .i64 0))), none, []⟩]) (.seq (.ops false [⟨(some 5), (.mov (.tmp 0)), none, []⟩, ⟨(some 6), (.mov (.tmp 0)), none, []⟩, ⟨(some 7), (.bin .sub (.const (.int .i64 0)) (.tmp 6)), none, []⟩, ⟨(some 8), (.minmax true (.tmp 5) [(.tmp 7)]), none, []⟩, ⟨(some 9), (.mov (.tmp 1)), none, []⟩, ⟨(some 10), (.mov (.tmp 1)), none, []⟩, ⟨(some 11), (.bin .sub (.const (.int .i64 0)) (.tmp 10)), none, []⟩, ⟨(some 12), (.minmax true (.tmp 9) [(.tmp 11)]), none, []⟩, ⟨(some 0), (.mov (.tmp 8)), none, []⟩, ⟨(some 1), (.mov (.tmp 12)), none, []⟩]) (.seq (.block 0 (some ⟨[], [0], []⟩) (.loop dk143_0 db143_0)) (.seq (.ops false [⟨(some 19), (.mov (.tmp 0)), none, []⟩, ⟨(some 4), (.mov (.tmp 19)), none, []⟩]) .ret))))⟩
theorem dh143 : cProg Go.Proofs.Tryz.prog ⟨[(0, ⟨[], [0, 1], []⟩)], [(0, ⟨[], [0], []⟩)], []⟩ 143 = some dc143 := by kernel_rfl
end Sh


set_option maxRecDepth 100000
namespace Sh
open Go
def dc20 : DFunc := ⟨5, 1, [(.tmp 2)], (.seq (.ops false [⟨(some 2), (.mov (.const (.int .i64 0))), none, []⟩]) (.seq (.ops false [⟨(some 3), (.mov (.tmp 0)), none, []⟩, ⟨(some 4), (.call (.func 94) [(.tmp 3)]), none, []⟩, ⟨(some 2), (.mov (.tmp 4)), none, []⟩]) .ret))⟩
theorem dh20 : cProg Go.Proofs.Tryz.prog ⟨[], [], []⟩ 20 = some dc20 := by kernel_rfl
def dc22 : DFunc := ⟨14, 1, [(.tmp 2)], (.seq (.ops false [⟨(some 1), (.box 3 (.tmp 0)), none, []⟩, ⟨(some 2), (.mov (.const (.int .i64 0))), none, []⟩]) (.seq (.ops true [⟨(some 3), (.faddr 0 1 false (.tmp 1)), none, []⟩, ⟨(some 4), (.load none (.tmp 3)), none, [0]⟩, ⟨(some 5), (.call (.func 96) [(.tmp 4), (.const (.int .i64 (-1000))), (.const (.int .i64 1000))]), none, [1, 0]⟩, ⟨(some 6), (.faddr 1 1 false (.tmp 1)), none, []⟩, ⟨(some 7), (.load none (.tmp 6)), none, [3]⟩, ⟨(some 8), (.call (.func 96) [(.tmp 7), (.const (.int .i64 (-1000))), (.const (.int .i64 1000))]), none, [4, 3, 2, 1, 0]⟩, ⟨(some 9), (.faddr 2 1 false (.tmp 1)), none, []⟩, ⟨(some 10), (.load none (.tmp 9)), none, [6]⟩, ⟨(some 11), (.call (.func 96) [(.tmp 10), (.const (.int .i64 1)), (.const (.int .i64 1000))]), none, [7, 6, 5, 4, 3, 2, 1, 0]⟩, ⟨(some 12), (.lit true 1 3 (.int .i64 0) [(0, (.tmp 5)), (1, (.tmp 8)), (2, (.tmp 11))]), none, [2, 1, 0, 5, 4, 3, 8, 7, 6]⟩, ⟨(some 13), (.call (.func 94) [(.tmp 12)]), none, [9, 2, 1, 0, 5, 4, 3, 8, 7, 6]⟩, ⟨(some 2), (.mov (.tmp 13)), none, [10, 9, 2, 1, 0, 5, 4, 3, 8, 7, 6]⟩]) .ret))⟩
theorem dh22 : cProg Go.Proofs.Tryz.prog ⟨[], [], [12]⟩ 22 = some dc22 := by kernel_rfl
end Sh


set_option maxRecDepth 100000
set_option linter.unusedSimpArgs false
set_option linter.unusedVariables false
namespace Sh
open Go Go.Proofs
theorem q_When (b : Bool) (e : Int) : PC 95 [.bool b, DV.int .i64 (e)] (DV.int .i64 (whenE b e)) := by
  refine pureCall_ofR dh95 rfl ?_
  conv => whnf
  refine ⟨fun hb => ?_, fun hb => ?_⟩ <;> try (exact absurd hb (by decide))
  all_goals conv => whnf
  all_goals subst hb; rfl
theorem q_CheckRange (n l h : Int) : PC 96 [DV.int .i64 (n), DV.int .i64 (l), DV.int .i64 (h)] (DV.int .i64 (withE n l h)) := by
  refine pureCall_ofR dh96 rfl ?_
  conv => whnf
  refine ⟨fun hb => ?_, fun hb => ?_⟩ <;> try (exact absurd hb (by decide))
  all_goals conv => whnf
  · refine .inl ?_
    conv => whnf
    refine ⟨_, q_When .., ?_⟩
    conv => whnf
    exact int_eq (by simp_all [withE, whenE]; split <;> split <;> omega)
  · refine .inl ?_
    conv => whnf
    refine ⟨_, q_When .., ?_⟩
    conv => whnf
    exact int_eq (by simp_all [withE, whenE])
theorem q_First (l : List Int) (hl : l.length < 4611686018427387904) : PC 94 [iL l] (DV.int .i64 (firstE l)) := by
  refine pureCall_ofR dh94 rfl ?_
  conv => whnf
  refine dwp_loopR (P := Tryz.prog) (G := GC) (k := dk94_0) (b := db94_0) (α := Nat) (fun i => [(0, iL l), (3, DV.int .i64 (i))]) (fun _ => []) (fun i => i ≤ l.length ∧ firstE l = firstE (l.drop i)) (fun i => l.length - i) 0 ⟨rfl, rfl, rfl⟩ ⟨Nat.zero_le _, rfl⟩ ?_
  intro i ⟨h1, h2⟩
  conv => whnf
  refine ⟨fun hb => ?_, fun hb => ?_⟩ <;> try (exact absurd hb (by decide))
  · have hi : i < l.length := by simpa using hb
    have hd := firstE_drop l i hi
    conv => whnf
    rw [getD_enc _ _ (i) 0 hi]
    refine ⟨idxA hi rfl, ?_⟩
    conv => whnf
    refine ⟨fun hb => ?_, fun hb => ?_⟩ <;> try (exact absurd hb (by decide))
    · conv => whnf
      rw [getD_enc _ _ (i) 0 hi]
      refine ⟨idxA hi rfl, ?_⟩
      conv => whnf
      exact int_eq (by simp_all)
    · conv => whnf
      rw [wrap_succ i (by omega)]
      exact ⟨i + 1, rfl, rfl, rfl, ⟨hi, by simp_all⟩, by omega⟩
  · conv => whnf
    have : i = l.length := by simp at hb; omega
    subst this
    exact int_eq (by rw [h2]; simp [firstE])
end Sh


set_option maxRecDepth 100000
set_option linter.unusedSimpArgs false
set_option linter.unusedVariables false
namespace Sh
open Go Go.Proofs
theorem r_CheckSun (v : V3) : PC 22 [encV v] (DV.int .i64 (chkSun v)) := by
  refine pureCall_ofR dh22 rfl ?_
  conv => whnf
  repeat' (first
    | (refine ⟨fun hg => ?_, fun hg => ?_⟩ <;> first | contradiction | (conv => whnf))
    | (refine Or.inl ?_; conv => whnf)
    | (refine ⟨_, q_CheckRange .., ?_⟩; conv => whnf)
    | (refine ⟨_, q_First [_, _, _] (by simp), ?_⟩; conv => whnf)
    | (refine And.intro ?_ ?_; kernel_rfl; conv => whnf))
  rfl
theorem r_CheckTilt (p : Pt) : PC 59 [encPt p] (DV.int .i64 (chkTilt p)) := by
  refine pureCall_ofR dh59 rfl ?_
  conv => whnf
  repeat' (first
    | (refine ⟨fun hg => ?_, fun hg => ?_⟩ <;> first | contradiction | (conv => whnf))
    | (refine Or.inl ?_; conv => whnf)
    | (refine ⟨_, q_CheckRange .., ?_⟩; conv => whnf)
    | (refine ⟨_, q_First [_, _] (by simp), ?_⟩; conv => whnf)
    | (refine And.intro ?_ ?_; kernel_rfl; conv => whnf))
  rfl
theorem r_CheckPitch (p : Pt) : PC 60 [encPt p] (DV.int .i64 (chkPitch p)) := by
  refine pureCall_ofR dh60 rfl ?_
  conv => whnf
  repeat' (first
    | (refine ⟨fun hg => ?_, fun hg => ?_⟩ <;> first | contradiction | (conv => whnf))
    | (refine Or.inl ?_; conv => whnf)
    | (refine ⟨_, q_CheckRange .., ?_⟩; conv => whnf)
    | (refine ⟨_, q_First [_, _] (by simp), ?_⟩; conv => whnf)
    | (refine And.intro ?_ ?_; kernel_rfl; conv => whnf))
  rfl
end Sh


set_option maxRecDepth 100000
set_option linter.unusedSimpArgs false
set_option linter.unusedVariables false
namespace Sh
open Go Go.Proofs
theorem r_Gain (p : Pt) (sun : V3) (hp : OkP p) (hs : bdV 1000 sun) : PC 61 [encPt p, encV sun] (DV.int .i64 (acr p sun)) := by
  refine pureCall_ofR dh61 rfl ?_
  conv => whnf
  exact int_eq (acr_w hp hs)
theorem abs_w0 {n : Int} (h : -2000000 ≤ n ∧ n ≤ 2000000) : (if IntKind.i64.wrap (0 - n) > n then IntKind.i64.wrap (0 - n) else n) = absI n := by
  rw [Int.zero_sub, abs_w h]
theorem r_Room (p : Pt) (sun : V3) (hp : OkP p) (hs : bdV 1000 sun) : PC 62 [encPt p, encV sun] (DV.int .i64 (roomI p sun)) := by
  have hb := acr_bd hp.1 hp.2 hs
  have hw := acr_w hp hs
  refine pureCall_ofR dh62 rfl ?_
  conv => whnf
  rw [hw]
  exact int_eq (abs_w0 hb)
theorem r_twice (p : Pt) (sun : V3) (hp : OkP p) (hs : bdV 1000 sun) : PC 128 [encPt p, encV sun] (DV.int .i64 (widI p sun)) := by
  have k1 := r_Gain p sun hp hs
  have hb := acr_bd hp.1 hp.2 hs
  have h2 : IntKind.i64.wrap (2 * acr p sun) = 2 * acr p sun := wrap_in (by omega) (by omega)
  have h3 : IntKind.i64.wrap (0 - 2 * acr p sun) = -(2 * acr p sun) := by rw [wrap_in (by omega) (by omega)]; omega
  refine pureCall_ofR dh128 rfl ?_
  conv => whnf
  repeat' (first
    | (refine ⟨fun hg => ?_, fun hg => ?_⟩ <;> first | contradiction | (conv => whnf))
    | (refine Or.inl ?_; conv => whnf)
    | (refine ⟨_, k1, ?_⟩; conv => whnf)
    | (refine And.intro ?_ ?_; kernel_rfl; conv => whnf))
  rw [h2, h3]
  exact int_eq (by show (if -(2 * acr p sun) > 2 * acr p sun then -(2 * acr p sun) else 2 * acr p sun) = 2 * absI (acr p sun); unfold absI; split <;> split <;> omega)
theorem r_Free (t p : Pt) (sun : V3) (h1 : OkP t) (h2 : OkP p) (h3 : bdV 1000 sun) : PC 63 [encPt t, encPt p, encV sun] (.bool (freeB t p sun)) := by
  have k1 := r_twice t sun h1 h3
  have k2 := r_Room p sun h2 h3
  refine pureCall_ofR dh63 rfl ?_
  conv => whnf
  repeat' (first
    | (refine ⟨fun hg => ?_, fun hg => ?_⟩ <;> first | contradiction | (conv => whnf))
    | (refine Or.inl ?_; conv => whnf)
    | (refine ⟨_, k1, ?_⟩; conv => whnf)
    | (refine ⟨_, k2, ?_⟩; conv => whnf)
    | (refine And.intro ?_ ?_; kernel_rfl; conv => whnf))
  rfl
end Sh


set_option maxRecDepth 100000
set_option linter.unusedSimpArgs false
set_option linter.unusedVariables false
namespace Sh
open Go Go.Proofs
theorem absG0 {n : Int} (h : -GB ≤ n ∧ n ≤ GB) : minmaxI true n (IntKind.i64.wrap (0 - n)) = (n.natAbs : Int) := by
  rw [Int.zero_sub, absG h]
theorem q_Divisor (n d : Int) (hn : -GB ≤ n ∧ n ≤ GB) (hd : -GB ≤ d ∧ d ≤ GB) : PC 143 [DV.int .i64 (n), DV.int .i64 (d)] (DV.int .i64 (gcdI n d)) := by
  have w1 := absG0 hn
  have w2 := absG0 hd
  refine pureCall_ofR dh143 rfl ?_
  conv => whnf
  rw [w1, w2]
  refine dwp_loopU (P := Tryz.prog) (G := GC) (k := dk143_0) (b := db143_0) (α := Nat × Nat) (fun a => [(0, DV.int .i64 (a.1)), (1, DV.int .i64 (a.2))]) (fun _ => []) (fun a => Nat.gcd a.1 a.2 = Int.gcd n d) (fun a => a.2) (n.natAbs, d.natAbs) rfl ?_
  conv => whnf
  refine ⟨rfl, rfl, ?_⟩
  conv => whnf
  refine ⟨rfl, ?_⟩
  intro ⟨a, b⟩ h
  conv => whnf
  refine ⟨fun hb => ?_, fun hb => ?_⟩
  · have hb0 : b ≠ 0 := by have := of_decide_eq_true hb; dsimp only at this; omega
    clear hb
    conv => whnf
    refine ⟨by show (b : Int) ≠ 0; omega, ?_⟩
    conv => whnf
    refine ⟨by kernel_rfl, ?_⟩
    conv => whnf
    have hm : ((a : Int)).tmod (b : Int) = ((a % b : Nat) : Int) := rfl
    exact ⟨(b, a % b), rfl, rfl, rfl, (gcd_step hb0).trans h, Nat.mod_lt _ (by omega)⟩
  · have hb0 : b = 0 := by have := of_decide_eq_false hb; dsimp only at this; omega
    clear hb
    conv => whnf
    subst hb0
    refine int_eq ?_
    unfold gcdI
    rw [← h]; simp
theorem q_Lowest (n d : Int) (hn : -GB ≤ n ∧ n ≤ GB) (hd : 0 < d ∧ d ≤ GB) : PC 80 [DV.int .i64 (n), DV.int .i64 (d)] (encR (lowR n d)) := by
  have k1 := q_Divisor n d hn ⟨by omega, hd.2⟩
  have hp := gcdI_pos (n := n) hd.1
  refine pureCall_ofR dh80 rfl ?_
  conv => whnf
  refine ⟨fun hg => absurd (of_decide_eq_true hg) (by omega), fun hg => ?_⟩
  clear hg
  conv => whnf
  refine .inl ?_
  conv => whnf
  refine ⟨_, k1, ?_⟩
  conv => whnf
  refine ⟨by omega, ?_⟩
  conv => whnf
  refine ⟨by omega, ?_⟩
  conv => whnf
  rw [div_wI hn, div_wI ⟨by omega, hd.2⟩]
  repeat' (first
    | (refine ⟨fun hg => ?_, fun hg => ?_⟩ <;> first | contradiction | (conv => whnf))
    | (refine Or.inl ?_; conv => whnf)
    | (refine And.intro ?_ ?_; kernel_rfl; conv => whnf))
  rfl
theorem r_Shaded (t p : Pt) (sun : V3) (h1 : OkP t) (h2 : OkP p) (h3 : bdV 1000 sun) : PC 64 [encPt t, encPt p, encV sun] (encR (shdR t p sun)) := by
  have k0 := r_Free t p sun h1 h2 h3
  have k1 := r_twice t sun h1 h3
  have k2 := r_Room p sun h2 h3
  have hb := wid_bd h1 h2 h3
  have hf : shdR t p sun = if freeB t p sun then (0, 1) else lowR (widI t sun - roomI p sun) (widI t sun) := rfl
  refine pureCall_ofR dh64 rfl ?_
  conv => whnf
  repeat' (first
    | (refine ⟨fun hg => ?_, fun hg => ?_⟩ <;> first | contradiction | (conv => whnf))
    | (refine Or.inl ?_; conv => whnf)
    | (refine ⟨_, k0, ?_⟩; conv => whnf)
    | (refine ⟨_, k1, ?_⟩; conv => whnf)
    | (refine ⟨_, k2, ?_⟩; conv => whnf)
    | (refine And.intro ?_ ?_; kernel_rfl; conv => whnf))
  · rw [show freeB t p sun = true from hg] at hf
    rw [hf]; rfl
  · have hg : freeB t p sun = false := hg
    have hlt : ¬ widI t sun ≤ roomI p sun := of_decide_eq_false hg
    rw [hg] at hf
    have hw : IntKind.i64.wrap (widI t sun - roomI p sun) = widI t sun - roomI p sun := wrap_in (by omega) (by omega)
    have k8 := q_Lowest (widI t sun - roomI p sun) (widI t sun) (by unfold GB; omega) (by unfold GB; omega)
    rw [hw]
    repeat' (first
      | (refine ⟨fun hg => ?_, fun hg => ?_⟩ <;> first | contradiction | (conv => whnf))
      | (refine Or.inl ?_; conv => whnf)
      | (refine ⟨_, k1, ?_⟩; conv => whnf)
      | (refine ⟨_, k8, ?_⟩; conv => whnf)
      | (refine And.intro ?_ ?_; kernel_rfl; conv => whnf))
    rw [hf]; rfl
end Sh


set_option maxRecDepth 100000
set_option linter.unusedSimpArgs false
set_option linter.unusedVariables false
namespace Sh
open Go Go.Proofs
theorem l_first (l : List Int) (hl : l.length < 4611686018427387904) : PC 20 [iL l] (DV.int .i64 (firstE l)) := by
  refine pureCall_ofR dh20 rfl ?_
  conv => whnf
  refine .inl ?_
  conv => whnf
  refine ⟨_, q_First _ hl, ?_⟩
  conv => whnf
  rfl
end Sh


set_option maxRecDepth 100000
namespace Sh
open Go
def dc6 : DFunc := ⟨152, 1, [(.tmp 2)], (.seq (.ops false [⟨(some 1), (.box 8 (.tmp 0)), none, []⟩, ⟨(some 2), (.mov (.const (.bool false))), none, []⟩]) (.seq (.ops false [⟨(some 19), (.faddr 0 2 true (.tmp 1)), none, []⟩, ⟨(some 20), (.load (some 2) (.tmp 19)), none, []⟩, ⟨(some 21), (.faddr 4 3 true (.tmp 1)), none, []⟩, ⟨(some 22), (.load (some 3) (.tmp 21)), none, []⟩, ⟨(some 23), (.call (.func 55) [(.tmp 20), (.tmp 22)]), none, []⟩, ⟨(some 18), (.mov (.tmp 23)), none, []⟩, ⟨(some 24), (.extract (.tmp 18) 0), none, []⟩, ⟨(some 25), (.extract (.tmp 18) 1), none, []⟩, ⟨(some 3), (.mov (.tmp 24)), none, []⟩, ⟨(some 4), (.mov (.tmp 25)), none, []⟩]) (.seq (.ops false [⟨(some 27), (.faddr 2 2 true (.tmp 1)), none, []⟩, ⟨(some 28), (.load (some 2) (.tmp 27)), none, []⟩, ⟨(some 29), (.faddr 4 3 true (.tmp 1)), none, []⟩, ⟨(some 30), (.load (some 3) (.tmp 29)), none, []⟩, ⟨(some 31), (.call (.func 56) [(.tmp 28), (.tmp 30)]), none, []⟩, ⟨(some 26), (.mov (.tmp 31)), none, []⟩, ⟨(some 32), (.extract (.tmp 26) 0), none, []⟩, ⟨(some 33), (.extract (.tmp 26) 1), none, []⟩, ⟨(some 5), (.mov (.tmp 32)), none, []⟩, ⟨(some 6), (.mov (.tmp 33)), none, []⟩]) (.seq (.ops false [⟨(some 35), (.faddr 0 2 true (.tmp 1)), none, []⟩, ⟨(some 36), (.load (some 2) (.tmp 35)), none, []⟩, ⟨(some 37), (.faddr 2 2 true (.tmp 1)), none, []⟩, ⟨(some 38), (.load (some 2) (.tmp 37)), none, []⟩, ⟨(some 39), (.faddr 4 3 true (.tmp 1)), none, []⟩, ⟨(some 40), (.load (some 3) (.tmp 39)), none, []⟩, ⟨(some 41), (.call (.func 57) [(.tmp 36), (.tmp 38), (.tmp 40)]), none, []⟩, ⟨(some 34), (.mov (.tmp 41)), none, []⟩, ⟨(some 42), (.extract (.tmp 34) 0), none, []⟩, ⟨(some 43), (.extract (.tmp 34) 1), none, []⟩, ⟨(some 7), (.mov (.tmp 42)), none, []⟩, ⟨(some 8), (.mov (.tmp 43)), none, []⟩]) (.seq (.ops false [⟨(some 45), (.faddr 0 2 true (.tmp 1)), none, []⟩, ⟨(some 46), (.load (some 2) (.tmp 45)), none, []⟩, ⟨(some 47), (.faddr 2 2 true (.tmp 1)), none, []⟩, ⟨(some 48), (.load (some 2) (.tmp 47)), none, []⟩, ⟨(some 49), (.faddr 4 3 true (.tmp 1)), none, []⟩, ⟨(some 50), (.load (some 3) (.tmp 49)), none, []⟩, ⟨(some 51), (.call (.func 58) [(.tmp 46), (.tmp 48), (.tmp 50)]), none, []⟩, ⟨(some 44), (.mov (.tmp 51)), none, []⟩, ⟨(some 52), (.extract (.tmp 44) 0), none, []⟩, ⟨(some 53), (.extract (.tmp 44) 1), none, []⟩, ⟨(some 9), (.alloc (.agg [(.int .i64 0), (.int .i64 0)]) 2), none, []⟩, ⟨none, (.store 2 (.tmp 9) (.tmp 52)), none, []⟩, ⟨(some 10), (.mov (.tmp 53)), none, []⟩]) (.seq (.ops true [⟨(some 54), (.faddr 0 2 true (.tmp 1)), none, []⟩, ⟨(some 55), (.load (some 2) (.tmp 54)), none, [0]⟩, ⟨(some 56), (.call (.func 59) [(.tmp 55)]), none, [1, 0]⟩, ⟨(some 57), (.faddr 4 3 true (.tmp 1)), none, []⟩, ⟨(some 58), (.load (some 3) (.tmp 57)), none, [3]⟩, ⟨(some 59), (.call (.func 22) [(.tmp 58)]), none, [4, 3, 2, 1, 0]⟩, ⟨(some 60), (.lit true 1 2 (.int .i64 0) [(0, (.tmp 56)), (1, (.tmp 59))]), none, [2, 1, 0, 5, 4, 3]⟩, ⟨(some 61), (.call (.func 20) [(.tmp 60)]), none, [6, 2, 1, 0, 5, 4, 3]⟩, ⟨(some 62), (.faddr 2 2 true (.tmp 1)), none, []⟩, ⟨(some 63), (.load (some 2) (.tmp 62)), none, [8]⟩, ⟨(some 64), (.call (.func 60) [(.tmp 63)]), none, [9, 8, 7, 6, 2, 1, 0, 5, 4, 3]⟩, ⟨(some 65), (.faddr 4 3 true (.tmp 1)), none, []⟩, ⟨(some 66), (.load (some 3) (.tmp 65)), none, [11]⟩, ⟨(some 67), (.call (.func 22) [(.tmp 66)]), none, [12, 11, 10, 9, 8, 7, 6, 2, 1, 0, 5, 4, 3]⟩, ⟨(some 68), (.lit true 1 2 (.int .i64 0) [(0, (.tmp 64)), (1, (.tmp 67))]), none, [10, 9, 8, 7, 6, 2, 1, 0, 5, 4, 3, 13, 12, 11]⟩, ⟨(some 69), (.call (.func 20) [(.tmp 68)]), none, [14, 10, 9, 8, 7, 6, 2, 1, 0, 5, 4, 3, 13, 12, 11]⟩, ⟨(some 11), (.mov (.tmp 61)), none, [7, 6, 2, 1, 0, 5, 4, 3, 15, 14, 10, 9, 8, 13, 12, 11]⟩, ⟨(some 12), (.mov (.tmp 69)), none, [15, 14, 10, 9, 8, 7, 6, 2, 1, 0, 5, 4, 3, 13, 12, 11, 16]⟩]) (.seq (.ops true [⟨(some 70), (.faddr 0 2 true (.tmp 1)), none, []⟩, ⟨(some 71), (.load (some 2) (.tmp 70)), none, [0]⟩, ⟨(some 72), (.call (.func 59) [(.tmp 71)]), none, [1, 0]⟩, ⟨(some 73), (.faddr 2 2 true (.tmp 1)), none, []⟩, ⟨(some 74), (.load (some 2) (.tmp 73)), none, [3]⟩, ⟨(some 75), (.call (.func 60) [(.tmp 74)]), none, [4, 3, 2, 1, 0]⟩, ⟨(some 76), (.faddr 4 3 true (.tmp 1)), none, []⟩, ⟨(some 77), (.load (some 3) (.tmp 76)), none, [6]⟩, ⟨(some 78), (.call (.func 22) [(.tmp 77)]), none, [7, 6, 5, 4, 3, 2, 1, 0]⟩, ⟨(some 79), (.lit true 1 3 (.int .i64 0) [(0, (.tmp 72)), (1, (.tmp 75)), (2, (.tmp 78))]), none, [2, 1, 0, 5, 4, 3, 8, 7, 6]⟩, ⟨(some 80), (.call (.func 20) [(.tmp 79)]), none, [9, 2, 1, 0, 5, 4, 3, 8, 7, 6]⟩, ⟨(some 13), (.mov (.tmp 80)), none, [10, 9, 2, 1, 0, 5, 4, 3, 8, 7, 6]⟩]) (.seq (.ops false [⟨(some 14), (.mov (.const (.int .i64 0))), none, []⟩, ⟨(some 15), (.mov (.const (.int .i64 0))), none, []⟩, ⟨(some 16), (.mov (.const (.bool false))), none, []⟩]) (.seq (.ops false [⟨(some 17), (.alloc (.agg [(.int .i64 0), (.int .i64 0)]) 2), none, []⟩]) (.seq (.seq (.ops false [⟨(some 81), (.mov (.tmp 11)), none, []⟩, ⟨(some 82), (.bin .eql (.tmp 81) (.const (.int .i64 0))), none, []⟩]) (.cond (.tmp 82) (.ops false [⟨(some 83), (.faddr 0 2 true (.tmp 1)), none, []⟩, ⟨(some 84), (.load (some 2) (.tmp 83)), none, []⟩, ⟨(some 85), (.faddr 4 3 true (.tmp 1)), none, []⟩, ⟨(some 86), (.load (some 3) (.tmp 85)), none, []⟩, ⟨(some 87), (.call (.func 61) [(.tmp 84), (.tmp 86)]), none, []⟩, ⟨(some 14), (.mov (.tmp 87)), none, []⟩]) .skip)) (.seq (.seq (.ops false [⟨(some 88), (.mov (.tmp 12)), none, []⟩, ⟨(some 89), (.bin .eql (.tmp 88) (.const (.int .i64 0))), none, []⟩]) (.cond (.tmp 89) (.ops false [⟨(some 90), (.faddr 2 2 true (.tmp 1)), none, []⟩, ⟨(some 91), (.load (some 2) (.tmp 90)), none, []⟩, ⟨(some 92), (.faddr 4 3 true (.tmp 1)), none, []⟩, ⟨(some 93), (.load (some 3) (.tmp 92)), none, []⟩, ⟨(some 94), (.call (.func 62) [(.tmp 91), (.tmp 93)]), none, []⟩, ⟨(some 15), (.mov (.tmp 94)), none, []⟩]) .skip)) (.seq (.seq (.ops false [⟨(some 95), (.mov (.tmp 13)), none, []⟩, ⟨(some 96), (.bin .eql (.tmp 95) (.const (.int .i64 0))), none, []⟩]) (.cond (.tmp 96) (.ops true [⟨(some 97), (.faddr 0 2 true (.tmp 1)), none, []⟩, ⟨(some 98), (.load (some 2) (.tmp 97)), none, [0]⟩, ⟨(some 99), (.faddr 2 2 true (.tmp 1)), none, []⟩, ⟨(some 100), (.load (some 2) (.tmp 99)), none, [2]⟩, ⟨(some 101), (.faddr 4 3 true (.tmp 1)), none, []⟩, ⟨(some 102), (.load (some 3) (.tmp 101)), none, [4]⟩, ⟨(some 103), (.call (.func 63) [(.tmp 98), (.tmp 100), (.tmp 102)]), none, [1, 0, 3, 2, 5, 4]⟩, ⟨(some 104), (.faddr 0 2 true (.tmp 1)), none, []⟩, ⟨(some 105), (.load (some 2) (.tmp 104)), none, [7]⟩, ⟨(some 106), (.faddr 2 2 true (.tmp 1)), none, []⟩, ⟨(some 107), (.load (some 2) (.tmp 106)), none, [9]⟩, ⟨(some 108), (.faddr 4 3 true (.tmp 1)), none, []⟩, ⟨(some 109), (.load (some 3) (.tmp 108)), none, [11]⟩, ⟨(some 110), (.call (.func 64) [(.tmp 105), (.tmp 107), (.tmp 109)]), none, [8, 7, 10, 9, 12, 11, 6, 1, 0, 3, 2, 5, 4]⟩, ⟨(some 16), (.mov (.tmp 103)), none, [6, 1, 0, 3, 2, 5, 4, 13, 8, 7, 10, 9, 12, 11]⟩, ⟨none, (.store 2 (.tmp 17) (.tmp 110)), none, [13, 8, 7, 10, 9, 12, 11, 6, 1, 0, 3, 2, 5, 4, 14]⟩]) .skip)) (.seq (.ops false [⟨(some 111), (.mov (.tmp 3)), none, []⟩, ⟨(some 112), (.mov (.tmp 14)), none, []⟩, ⟨(some 113), (.bin .eql (.tmp 111) (.tmp 112)), none, []⟩, ⟨(some 114), (.mov (.tmp 113)), none, []⟩, ⟨(some 115), (.mov (.tmp 4)), (some (114, true)), []⟩, ⟨(some 116), (.mov (.tmp 11)), (some (114, true)), []⟩, ⟨(some 117), (.bin .eql (.tmp 115) (.tmp 116)), (some (114, true)), []⟩, ⟨(some 118), (.pick (.tmp 114) (.tmp 117) (.const (.bool false))), none, []⟩, ⟨(some 119), (.mov (.tmp 118)), none, []⟩, ⟨(some 120), (.mov (.tmp 5)), (some (119, true)), []⟩, ⟨(some 121), (.mov (.tmp 15)), (some (119, true)), []⟩, ⟨(some 122), (.bin .eql (.tmp 120) (.tmp 121)), (some (119, true)), []⟩, ⟨(some 123), (.pick (.tmp 119) (.tmp 122) (.const (.bool false))), none, []⟩, ⟨(some 124), (.mov (.tmp 123)), none, []⟩, ⟨(some 125), (.mov (.tmp 6)), (some (124, true)), []⟩, ⟨(some 126), (.mov (.tmp 12)), (some (124, true)), []⟩, ⟨(some 127), (.bin .eql (.tmp 125) (.tmp 126)), (some (124, true)), []⟩, ⟨(some 128), (.pick (.tmp 124) (.tmp 127) (.const (.bool false))), none, []⟩, ⟨(some 129), (.mov (.tmp 128)), none, []⟩, ⟨(some 130), (.mov (.tmp 7)), (some (129, true)), []⟩, ⟨(some 131), (.mov (.tmp 16)), (some (129, true)), []⟩, ⟨(some 132), (.eqB false (.tmp 130) (.tmp 131)), (some (129, true)), []⟩, ⟨(some 133), (.pick (.tmp 129) (.tmp 132) (.const (.bool false))), none, []⟩, ⟨(some 134), (.mov (.tmp 133)), none, []⟩, ⟨(some 135), (.mov (.tmp 8)), (some (134, true)), []⟩, ⟨(some 136), (.mov (.tmp 13)), (some (134, true)), []⟩, ⟨(some 137), (.bin .eql (.tmp 135) (.tmp 136)), (some (134, true)), []⟩, ⟨(some 138), (.pick (.tmp 134) (.tmp 137) (.const (.bool false))), none, []⟩, ⟨(some 139), (.mov (.tmp 138)), none, []⟩, ⟨(some 140), (.load (some 2) (.tmp 9)), (some (139, true)), []⟩, ⟨(some 141), (.load (some 2) (.tmp 17)), (some (139, true)), []⟩, ⟨(some 142), (.eqA false [1, 1] (.tmp 140) (.tmp 141)), (some (139, true)), []⟩, ⟨(some 143), (.pick (.tmp 139) (.tmp 142) (.const (.bool false))), none, []⟩, ⟨(some 144), (.mov (.tmp 143)), none, []⟩, ⟨(some 145), (.mov (.tmp 10)), (some (144, true)), []⟩, ⟨(some 146), (.mov (.tmp 13)), (some (144, true)), []⟩, ⟨(some 147), (.bin .eql (.tmp 145) (.tmp 146)), (some (144, true)), []⟩, ⟨(some 148), (.pick (.tmp 144) (.tmp 147) (.const (.bool false))), none, []⟩, ⟨(some 149), (.mov (.tmp 148)), none, []⟩, ⟨(some 150), (.call (.func 14) []), (some (149, true)), []⟩, ⟨(some 151), (.pick (.tmp 149) (.tmp 150) (.const (.bool false))), none, []⟩, ⟨(some 2), (.mov (.tmp 151)), none, []⟩]) .ret)))))))))))))⟩
theorem dh6 : cProg Go.Proofs.Tryz.prog ⟨[], [], [60, 68, 79]⟩ 6 = some dc6 := by kernel_rfl
end Sh


set_option maxRecDepth 100000
set_option maxHeartbeats 2000000
set_option linter.unusedSimpArgs false
set_option linter.unusedVariables false
namespace Sh
open Go Go.Proofs
theorem l_ShadeTilts (aw : PC 14 [] (.bool true)) (r : Rw) : PC 6 [encW r] (.bool true) := by
  obtain ⟨t, p, s, n⟩ := r
  have b1 := c_Gain t s
  have b2 := c_Room p s
  have b3 := c_Free t p s
  have b4 := c_Shaded t p s
  have a1 := r_CheckTilt t
  have a2 := r_CheckPitch p
  have a3 := r_CheckSun s
  have f1 := l_first [chkTilt t, chkSun s] (by simp)
  have f2 := l_first [chkPitch p, chkSun s] (by simp)
  have f3 : PC 20 [iL [chkTilt t, chkPitch p, chkSun s]] (DV.int .i64 (frE t p s)) := l_first [chkTilt t, chkPitch p, chkSun s] (by simp)
  by_cases h1 : firstE [chkTilt t, chkSun s] = 0
  all_goals by_cases h2 : firstE [chkPitch p, chkSun s] = 0
  all_goals by_cases h3 : frE t p s = 0
  all_goals first
    | rw [show gnS t s = (acr t s, 0) from if_neg (fun h => h h1)] at b1
      rw [h1] at f1
      have c1 : PC 61 [encPt t, encV s] (DV.int .i64 (acr t s)) := by
        obtain ⟨z1, h⟩ := firstE_cons h1
        obtain ⟨z2, h⟩ := firstE_cons h
        exact r_Gain t s (chkTilt_ok z1) (chkSun_zero z2).1
    | rw [show gnS t s = (0, firstE [chkTilt t, chkSun s]) from if_pos h1] at b1
      have c1 := aw
      generalize firstE [chkTilt t, chkSun s] = E1 at *
  all_goals first
    | rw [show rmS p s = (roomI p s, 0) from if_neg (fun h => h h2)] at b2
      rw [h2] at f2
      have c2 : PC 62 [encPt p, encV s] (DV.int .i64 (roomI p s)) := by
        obtain ⟨z1, h⟩ := firstE_cons h2
        obtain ⟨z2, h⟩ := firstE_cons h
        exact r_Room p s (chkPitch_ok z1) (chkSun_zero z2).1
    | rw [show rmS p s = (0, firstE [chkPitch p, chkSun s]) from if_pos h2] at b2
      have c2 := aw
      generalize firstE [chkPitch p, chkSun s] = E2 at *
  all_goals first
    | rw [show frS t p s = (freeB t p s, 0) from if_neg (fun h => h h3)] at b3
      rw [show sdS t p s = (shdR t p s, 0) from if_neg (fun h => h h3)] at b4
      rw [h3] at f3
      have c3 := r_Free t p s (frE_zero h3).1 (frE_zero h3).2.1 (frE_zero h3).2.2.1
      have c4 := r_Shaded t p s (frE_zero h3).1 (frE_zero h3).2.1 (frE_zero h3).2.2.1
    | rw [show frS t p s = (false, frE t p s) from if_pos h3] at b3
      rw [show sdS t p s = ((0, 0), frE t p s) from if_pos h3] at b4
      have c3 := aw
      have c4 := aw
      generalize frE t p s = E3 at *
  all_goals
    refine pureCall_ofR dh6 rfl ?_
    conv => whnf
    conv => whnf
    repeat' (first
      | (refine ⟨fun hg => ?_, fun hg => ?_⟩ <;> first | contradiction | (exfalso; revert hg; simp; done) | (exfalso; exact absurd (of_decide_eq_true hg) (by assumption)) | (exfalso; exact absurd (by assumption) (of_decide_eq_false hg)) | (conv => whnf))
      | (refine Or.inl ?_; conv => whnf)
      | (refine ⟨_, a1, ?_⟩; conv => whnf)
      | (refine ⟨_, a2, ?_⟩; conv => whnf)
      | (refine ⟨_, a3, ?_⟩; conv => whnf)
      | (refine ⟨_, b1, ?_⟩; conv => whnf)
      | (refine ⟨_, b2, ?_⟩; conv => whnf)
      | (refine ⟨_, b3, ?_⟩; conv => whnf)
      | (refine ⟨_, b4, ?_⟩; conv => whnf)
      | (refine ⟨_, f1, ?_⟩; conv => whnf)
      | (refine ⟨_, f2, ?_⟩; conv => whnf)
      | (refine ⟨_, f3, ?_⟩; conv => whnf)
      | (refine ⟨_, c1, ?_⟩; conv => whnf)
      | (refine ⟨_, c2, ?_⟩; conv => whnf)
      | (refine ⟨_, c3, ?_⟩; conv => whnf)
      | (refine ⟨_, c4, ?_⟩; conv => whnf)
      | (refine ⟨_, aw, ?_⟩; conv => whnf)
      | (refine And.intro ?_ ?_; kernel_rfl; conv => whnf))
    try rfl
end Sh

