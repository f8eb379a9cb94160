/-
  Chapter 3's functions, walked over pure data: the library of the walk, the functions' code over data, and what each computes. (part 7)
-/
import Derived.Test.YtkaglomkahhjcaaGreatDoorP6
import Derived.Test.YtkaglomkahhjcaaGreatDoorProg
set_option linter.unusedVariables false
set_option linter.unusedSimpArgs false
set_option maxRecDepth 100000
namespace Sh
open Go
def dc80 : DFunc := ⟨22,2,[.cell 4 (some 2)],.seq (.ops false [⟨some 4,.alloc (.agg [.int .i64 0,.int .i64 0]) 2,none,[]⟩]) (.seq (.seq (.ops false [⟨some 6,.mov (.tmp 1),none,[]⟩,⟨some 7,.bin .lss (.tmp 6) (.const (.int .i64 0)),none,[]⟩]) (.cond (.tmp 7) (.ops false [⟨some 8,.mov (.tmp 0),none,[]⟩,⟨some 9,.bin .sub (.const (.int .i64 0)) (.tmp 8),none,[]⟩,⟨some 10,.mov (.tmp 1),none,[]⟩,⟨some 11,.bin .sub (.const (.int .i64 0)) (.tmp 10),none,[]⟩,⟨some 0,.mov (.tmp 9),none,[]⟩,⟨some 1,.mov (.tmp 11),none,[]⟩]) .skip)) (.seq (.ops false [⟨some 12,.mov (.tmp 0),none,[]⟩,⟨some 13,.mov (.tmp 1),none,[]⟩,⟨some 14,.call (.func 143) [.tmp 12,.tmp 13],none,[]⟩,⟨some 5,.mov (.tmp 14),none,[]⟩]) (.seq (.ops true [⟨some 15,.mov (.tmp 0),none,[]⟩,⟨some 16,.mov (.tmp 5),none,[]⟩,⟨some 17,.bin .quo (.tmp 15) (.tmp 16),none,[0,1]⟩,⟨some 18,.mov (.tmp 1),none,[]⟩,⟨some 19,.mov (.tmp 5),none,[]⟩,⟨some 20,.bin .quo (.tmp 18) (.tmp 19),none,[3,4]⟩,⟨some 21,.build [.int .i64 0,.int .i64 0] [(0,(1,(.tmp 17))),(1,(1,(.tmp 20)))],none,[2,0,1,5,3,4]⟩,⟨none,.store 2 (.tmp 4) (.tmp 21),none,[6,2,0,1,5,3,4]⟩]) .ret)))⟩
theorem dh80 : cProg Go.Proofs.Tryz.prog ⟨[], [], []⟩ 80 = some dc80 := by kernel_rfl
end Sh

set_option maxRecDepth 100000
namespace Sh
open Go
def db93_0 : DC := (.seq (.seq (.ops false [⟨some 5,.mov (.tmp 4),none,[]⟩,⟨some 6,.mov (.tmp 0),none,[]⟩,⟨some 7,.len (.tmp 6),none,[]⟩,⟨some 8,.bin .lss (.tmp 5) (.tmp 7),none,[]⟩]) (.cond (.tmp 8) .skip (.exit 0))) (.seq (.block 1 none (.ops false [⟨some 11,.mov (.tmp 3),none,[]⟩,⟨some 12,.lit true 3 0 (.agg [.int .i64 0,.int .i64 0,.int .i64 0]) [],none,[]⟩,⟨some 13,.mov (.tmp 0),none,[]⟩,⟨some 14,.mov (.tmp 4),none,[]⟩,⟨some 15,.iaddr 1 (.tmp 13) (.tmp 14),none,[]⟩,⟨some 16,.load none (.tmp 15),none,[]⟩,⟨some 17,.append true 3 (.tmp 12) (.tmp 16),none,[]⟩,⟨some 18,.lit true 1 1 (.full []) [(0,(.tmp 17))],none,[]⟩,⟨some 19,.append false 1 (.tmp 11) (.tmp 18),none,[]⟩,⟨some 3,.mov (.tmp 19),none,[]⟩])) (.ops false [⟨some 9,.mov (.tmp 4),none,[]⟩,⟨some 10,.bin .add (.tmp 9) (.const (.int .i64 1)),none,[]⟩,⟨some 4,.mov (.tmp 10),none,[]⟩])))
def dk93_0 : Keep := ⟨[(3,1)],[0,3,4],[3]⟩
def dc93 : DFunc := ⟨21,1,[.tmp 2],.seq (.ops false [⟨some 2,.mov (.const (.slice none 0 0)),none,[]⟩]) (.seq (.ops false [⟨some 3,.mov (.const (.slice none 0 0)),none,[]⟩]) (.seq (.seq (.ops false [⟨some 4,.mov (.const (.int .i64 0)),none,[]⟩]) (.block 0 (some ⟨[],[3],[3]⟩) (.loop dk93_0 db93_0))) (.seq (.ops false [⟨some 20,.mov (.tmp 3),none,[]⟩,⟨some 2,.mov (.tmp 20),none,[]⟩]) .ret)))⟩
theorem dh93 : cProg Go.Proofs.Tryz.prog ⟨[(0, ⟨[(3, 1)], [0, 3, 4], [3]⟩)], [(0, ⟨[], [3], [3]⟩)], [12, 17, 18]⟩ 93 = some dc93 := by kernel_rfl
def db94_0 : DC := (.seq (.seq (.ops false [⟨some 4,.mov (.tmp 3),none,[]⟩,⟨some 5,.mov (.tmp 0),none,[]⟩,⟨some 6,.len (.tmp 5),none,[]⟩,⟨some 7,.bin .lss (.tmp 4) (.tmp 6),none,[]⟩]) (.cond (.tmp 7) .skip (.exit 0))) (.seq (.block 1 none (.seq (.ops false [⟨some 10,.mov (.tmp 0),none,[]⟩,⟨some 11,.mov (.tmp 3),none,[]⟩,⟨some 12,.iaddr 1 (.tmp 10) (.tmp 11),none,[]⟩,⟨some 13,.load none (.tmp 12),none,[]⟩,⟨some 14,.bin .neq (.tmp 13) (.const (.int .i64 0)),none,[]⟩]) (.cond (.tmp 14) (.seq (.ops false [⟨some 15,.mov (.tmp 0),none,[]⟩,⟨some 16,.mov (.tmp 3),none,[]⟩,⟨some 17,.iaddr 1 (.tmp 15) (.tmp 16),none,[]⟩,⟨some 18,.load none (.tmp 17),none,[]⟩,⟨some 2,.mov (.tmp 18),none,[]⟩]) .ret) .skip))) (.ops false [⟨some 8,.mov (.tmp 3),none,[]⟩,⟨some 9,.bin .add (.tmp 8) (.const (.int .i64 1)),none,[]⟩,⟨some 3,.mov (.tmp 9),none,[]⟩])))
def dk94_0 : Keep := ⟨[],[0,3],[]⟩
def dc94 : DFunc := ⟨19,1,[.tmp 2],.seq (.ops false [⟨some 2,.mov (.const (.int .i64 0)),none,[]⟩]) (.seq (.seq (.ops false [⟨some 3,.mov (.const (.int .i64 0)),none,[]⟩]) (.block 0 (some ⟨[],[],[]⟩) (.loop dk94_0 db94_0))) (.seq (.ops false [⟨some 2,.mov (.const (.int .i64 0)),none,[]⟩]) .ret))⟩
theorem dh94 : cProg Go.Proofs.Tryz.prog ⟨[(0, ⟨[], [0, 3], []⟩)], [(0, ⟨[], [], []⟩)], []⟩ 94 = some dc94 := by kernel_rfl
def dc95 : DFunc := ⟨7,2,[.tmp 4],.seq (.ops false [⟨some 4,.mov (.const (.int .i64 0)),none,[]⟩]) (.seq (.seq (.ops false [⟨some 5,.mov (.tmp 0),none,[]⟩]) (.cond (.tmp 5) (.seq (.ops false [⟨some 6,.mov (.tmp 1),none,[]⟩,⟨some 4,.mov (.tmp 6),none,[]⟩]) .ret) .skip)) (.seq (.ops false [⟨some 4,.mov (.const (.int .i64 0)),none,[]⟩]) .ret))⟩
theorem dh95 : cProg Go.Proofs.Tryz.prog ⟨[], [], []⟩ 95 = some dc95 := by kernel_rfl
def dc96 : DFunc := ⟨16,3,[.tmp 6],.seq (.ops false [⟨some 6,.mov (.const (.int .i64 0)),none,[]⟩]) (.seq (.ops false [⟨some 7,.mov (.tmp 0),none,[]⟩,⟨some 8,.mov (.tmp 1),none,[]⟩,⟨some 9,.bin .lss (.tmp 7) (.tmp 8),none,[]⟩,⟨some 10,.mov (.tmp 9),none,[]⟩,⟨some 11,.mov (.tmp 0),some (10,false),[]⟩,⟨some 12,.mov (.tmp 2),some (10,false),[]⟩,⟨some 13,.bin .gtr (.tmp 11) (.tmp 12),some (10,false),[]⟩,⟨some 14,.pick (.tmp 10) (.const (.bool true)) (.tmp 13),none,[]⟩,⟨some 15,.call (.func 95) [.tmp 14,.const (.int .i64 3)],none,[]⟩,⟨some 6,.mov (.tmp 15),none,[]⟩]) .ret)⟩
theorem dh96 : cProg Go.Proofs.Tryz.prog ⟨[], [], []⟩ 96 = some dc96 := by kernel_rfl
def db97_0 : DC := (.seq (.seq (.ops false [⟨some 57,.mov (.tmp 8),none,[]⟩,⟨some 58,.mov (.tmp 0),none,[]⟩,⟨some 59,.len (.tmp 58),none,[]⟩,⟨some 60,.bin .lss (.tmp 57) (.tmp 59),none,[]⟩]) (.cond (.tmp 60) .skip (.exit 2))) (.seq (.block 3 none (.seq (.ops true [⟨some 63,.load (some 3) (.tmp 3),none,[]⟩,⟨some 64,.load (some 3) (.tmp 6),none,[]⟩,⟨some 65,.load (some 3) (.tmp 5),none,[]⟩,⟨some 66,.call (.func 101) [.tmp 64,.tmp 65],none,[1,2]⟩,⟨some 67,.mov (.tmp 0),none,[]⟩,⟨some 68,.mov (.tmp 8),none,[]⟩,⟨some 69,.iaddr 3 (.tmp 67) (.tmp 68),none,[4,5]⟩,⟨some 70,.load (some 3) (.tmp 69),none,[6,4,5]⟩,⟨some 71,.load (some 3) (.tmp 5),none,[]⟩,⟨some 72,.call (.func 101) [.tmp 70,.tmp 71],none,[7,6,4,5,8,3,1,2]⟩,⟨some 73,.call (.func 102) [.tmp 66,.tmp 72],none,[3,1,2,9,7,6,4,5,8]⟩,⟨some 74,.call (.func 99) [.tmp 63,.tmp 73],none,[0,10,3,1,2,9,7,6,4,5,8]⟩,⟨some 75,.bin .lss (.tmp 74) (.const (.int .i64 0)),none,[11,0,10,3,1,2,9,7,6,4,5,8]⟩]) (.cond (.tmp 75) (.seq (.ops false [⟨some 2,.mov (.const (.bool false)),none,[]⟩]) .ret) .skip))) (.ops false [⟨some 61,.mov (.tmp 8),none,[]⟩,⟨some 62,.bin .add (.tmp 61) (.const (.int .i64 1)),none,[]⟩,⟨some 8,.mov (.tmp 62),none,[]⟩])))
def dk97_0 : Keep := ⟨[],[0,3,4,5,6,8],[3,5,6,7]⟩
def db97_1 : DC := (.seq (.seq (.ops false [⟨some 11,.mov (.tmp 4),none,[]⟩,⟨some 12,.mov (.tmp 0),none,[]⟩,⟨some 13,.len (.tmp 12),none,[]⟩,⟨some 14,.bin .lss (.tmp 11) (.tmp 13),none,[]⟩]) (.cond (.tmp 14) .skip (.exit 0))) (.seq (.block 1 (some ⟨[],[0,3,4],[3]⟩) (.seq (.ops true [⟨some 17,.mov (.tmp 0),none,[]⟩,⟨some 18,.mov (.tmp 4),none,[]⟩,⟨some 19,.iaddr 3 (.tmp 17) (.tmp 18),none,[0,1]⟩,⟨some 20,.load (some 3) (.tmp 19),none,[2,0,1]⟩,⟨some 21,.mov (.tmp 0),none,[]⟩,⟨some 22,.mov (.tmp 4),none,[]⟩,⟨some 23,.bin .add (.tmp 22) (.const (.int .i64 1)),none,[5]⟩,⟨some 24,.mov (.tmp 0),none,[]⟩,⟨some 25,.len (.tmp 24),none,[7]⟩,⟨some 26,.bin .rem (.tmp 23) (.tmp 25),none,[6,5,8,7]⟩,⟨some 27,.iaddr 3 (.tmp 21) (.tmp 26),none,[4,9,6,5,8,7]⟩,⟨some 28,.load (some 3) (.tmp 27),none,[10,4,9,6,5,8,7]⟩,⟨some 29,.mov (.tmp 0),none,[]⟩,⟨some 30,.mov (.tmp 4),none,[]⟩,⟨some 31,.bin .add (.tmp 30) (.const (.int .i64 2)),none,[13]⟩,⟨some 32,.mov (.tmp 0),none,[]⟩,⟨some 33,.len (.tmp 32),none,[15]⟩,⟨some 34,.bin .rem (.tmp 31) (.tmp 33),none,[14,13,16,15]⟩,⟨some 35,.iaddr 3 (.tmp 29) (.tmp 34),none,[12,17,14,13,16,15]⟩,⟨some 36,.load (some 3) (.tmp 35),none,[18,12,17,14,13,16,15]⟩,⟨some 5,.alloc (.agg [.int .i64 0,.int .i64 0,.int .i64 0]) 3,none,[]⟩,⟨some 6,.alloc (.agg [.int .i64 0,.int .i64 0,.int .i64 0]) 3,none,[]⟩,⟨some 7,.alloc (.agg [.int .i64 0,.int .i64 0,.int .i64 0]) 3,none,[]⟩,⟨none,.store 3 (.tmp 5) (.tmp 20),none,[20,3,2,0,1,21,22]⟩,⟨none,.store 3 (.tmp 6) (.tmp 28),none,[21,11,10,4,9,6,5,8,7,23,20,3,2,0,1,22]⟩,⟨none,.store 3 (.tmp 7) (.tmp 36),none,[22,19,18,12,17,14,13,16,15,24,21,11,10,4,9,6,5,8,7,23,20,3,2,0,1]⟩]) (.seq (.seq (.ops true [⟨some 37,.load (some 3) (.tmp 3),none,[]⟩,⟨some 38,.load (some 3) (.tmp 5),none,[]⟩,⟨some 39,.mov (.tmp 0),none,[]⟩,⟨some 40,.iaddr 3 (.tmp 39) (.const (.int .i64 0)),none,[2]⟩,⟨some 41,.load (some 3) (.tmp 40),none,[3,2]⟩,⟨some 42,.call (.func 101) [.tmp 38,.tmp 41],none,[1,4,3,2]⟩,⟨some 43,.call (.func 99) [.tmp 37,.tmp 42],none,[0,5,1,4,3,2]⟩,⟨some 44,.bin .neq (.tmp 43) (.const (.int .i64 0)),none,[6,0,5,1,4,3,2]⟩,⟨some 45,.mov (.tmp 44),none,[7,6,0,5,1,4,3,2]⟩,⟨some 46,.load (some 3) (.tmp 3),some (45,false),[8,7,6,0,5,1,4,3,2]⟩,⟨some 47,.load (some 3) (.tmp 6),some (45,false),[8,7,6,0,5,1,4,3,2]⟩,⟨some 48,.load (some 3) (.tmp 5),some (45,false),[8,7,6,0,5,1,4,3,2]⟩,⟨some 49,.call (.func 101) [.tmp 47,.tmp 48],some (45,false),[10,8,7,6,0,5,1,4,3,2,11]⟩,⟨some 50,.load (some 3) (.tmp 7),some (45,false),[8,7,6,0,5,1,4,3,2]⟩,⟨some 51,.load (some 3) (.tmp 6),some (45,false),[8,7,6,0,5,1,4,3,2]⟩,⟨some 52,.call (.func 101) [.tmp 50,.tmp 51],some (45,false),[13,8,7,6,0,5,1,4,3,2,14,12,10,11]⟩,⟨some 53,.call (.func 102) [.tmp 49,.tmp 52],some (45,false),[12,10,8,7,6,0,5,1,4,3,2,11,15,13,14]⟩,⟨some 54,.call (.func 99) [.tmp 46,.tmp 53],some (45,false),[9,8,7,6,0,5,1,4,3,2,16,12,10,11,15,13,14]⟩,⟨some 55,.bin .leq (.tmp 54) (.const (.int .i64 0)),some (45,false),[17,9,8,7,6,0,5,1,4,3,2,16,12,10,11,15,13,14]⟩,⟨some 56,.pick (.tmp 45) (.const (.bool true)) (.tmp 55),none,[8,7,6,0,5,1,4,3,2,18,17,9,16,12,10,11,15,13,14]⟩]) (.cond (.tmp 56) (.seq (.ops false [⟨some 2,.mov (.const (.bool false)),none,[]⟩]) .ret) .skip)) (.seq (.ops false [⟨some 8,.mov (.const (.int .i64 0)),none,[]⟩]) (.block 2 (some ⟨[],[0,3,4],[3,5,6,7]⟩) (.loop dk97_0 db97_0)))))) (.ops false [⟨some 15,.mov (.tmp 4),none,[]⟩,⟨some 16,.bin .add (.tmp 15) (.const (.int .i64 1)),none,[]⟩,⟨some 4,.mov (.tmp 16),none,[]⟩])))
def dk97_1 : Keep := ⟨[],[0,3,4],[3]⟩
def dc97 : DFunc := ⟨76,1,[.tmp 2],.seq (.ops false [⟨some 2,.mov (.const (.bool false)),none,[]⟩]) (.seq (.ops false [⟨some 9,.mov (.tmp 0),none,[]⟩,⟨some 10,.call (.func 98) [.tmp 9],none,[]⟩,⟨some 3,.alloc (.agg [.int .i64 0,.int .i64 0,.int .i64 0]) 3,none,[]⟩,⟨none,.store 3 (.tmp 3) (.tmp 10),none,[]⟩]) (.seq (.seq (.ops false [⟨some 4,.mov (.const (.int .i64 0)),none,[]⟩]) (.block 0 (some ⟨[],[],[3]⟩) (.loop dk97_1 db97_1))) (.seq (.ops false [⟨some 2,.mov (.const (.bool true)),none,[]⟩]) .ret)))⟩
theorem dh97 : cProg Go.Proofs.Tryz.prog ⟨[(0, ⟨[], [0, 3, 4], [3]⟩), (2, ⟨[], [0, 3, 4, 5, 6, 8], [3, 5, 6, 7]⟩)], [(2, ⟨[], [0, 3, 4], [3, 5, 6, 7]⟩), (1, ⟨[], [0, 3, 4], [3]⟩), (0, ⟨[], [], [3]⟩)], []⟩ 97 = some dc97 := by kernel_rfl
def dc98 : DFunc := ⟨18,1,[.cell 2 (some 3)],.seq (.ops false [⟨some 2,.alloc (.agg [.int .i64 0,.int .i64 0,.int .i64 0]) 3,none,[]⟩]) (.seq (.ops true [⟨some 3,.mov (.tmp 0),none,[]⟩,⟨some 4,.iaddr 3 (.tmp 3) (.const (.int .i64 1)),none,[0]⟩,⟨some 5,.load (some 3) (.tmp 4),none,[1,0]⟩,⟨some 6,.mov (.tmp 0),none,[]⟩,⟨some 7,.iaddr 3 (.tmp 6) (.const (.int .i64 0)),none,[3]⟩,⟨some 8,.load (some 3) (.tmp 7),none,[4,3]⟩,⟨some 9,.call (.func 101) [.tmp 5,.tmp 8],none,[2,1,0,5,4,3]⟩,⟨some 10,.mov (.tmp 0),none,[]⟩,⟨some 11,.iaddr 3 (.tmp 10) (.const (.int .i64 2)),none,[7]⟩,⟨some 12,.load (some 3) (.tmp 11),none,[8,7]⟩,⟨some 13,.mov (.tmp 0),none,[]⟩,⟨some 14,.iaddr 3 (.tmp 13) (.const (.int .i64 0)),none,[10]⟩,⟨some 15,.load (some 3) (.tmp 14),none,[11,10]⟩,⟨some 16,.call (.func 101) [.tmp 12,.tmp 15],none,[9,8,7,12,11,10,6,2,1,0,5,4,3]⟩,⟨some 17,.call (.func 102) [.tmp 9,.tmp 16],none,[6,2,1,0,5,4,3,13,9,8,7,12,11,10]⟩,⟨none,.store 3 (.tmp 2) (.tmp 17),none,[14,6,2,1,0,5,4,3,13,9,8,7,12,11,10]⟩]) .ret)⟩
theorem dh98 : cProg Go.Proofs.Tryz.prog ⟨[], [], []⟩ 98 = some dc98 := by kernel_rfl
def dc99 : DFunc := ⟨22,2,[.tmp 4],.seq (.ops false [⟨some 2,.box 3 (.tmp 0),none,[]⟩,⟨some 3,.box 3 (.tmp 1),none,[]⟩,⟨some 4,.mov (.const (.int .i64 0)),none,[]⟩]) (.seq (.ops false [⟨some 5,.faddr 0 1 false (.tmp 2),none,[]⟩,⟨some 6,.load none (.tmp 5),none,[]⟩,⟨some 7,.faddr 0 1 false (.tmp 3),none,[]⟩,⟨some 8,.load none (.tmp 7),none,[]⟩,⟨some 9,.bin .mul (.tmp 6) (.tmp 8),none,[]⟩,⟨some 10,.faddr 1 1 false (.tmp 2),none,[]⟩,⟨some 11,.load none (.tmp 10),none,[]⟩,⟨some 12,.faddr 1 1 false (.tmp 3),none,[]⟩,⟨some 13,.load none (.tmp 12),none,[]⟩,⟨some 14,.bin .mul (.tmp 11) (.tmp 13),none,[]⟩,⟨some 15,.bin .add (.tmp 9) (.tmp 14),none,[]⟩,⟨some 16,.faddr 2 1 false (.tmp 2),none,[]⟩,⟨some 17,.load none (.tmp 16),none,[]⟩,⟨some 18,.faddr 2 1 false (.tmp 3),none,[]⟩,⟨some 19,.load none (.tmp 18),none,[]⟩,⟨some 20,.bin .mul (.tmp 17) (.tmp 19),none,[]⟩,⟨some 21,.bin .add (.tmp 15) (.tmp 20),none,[]⟩,⟨some 4,.mov (.tmp 21),none,[]⟩]) .ret)⟩
theorem dh99 : cProg Go.Proofs.Tryz.prog ⟨[], [], []⟩ 99 = some dc99 := by kernel_rfl
def dc100 : DFunc := ⟨7,1,[.tmp 2],.seq (.ops false [⟨some 2,.mov (.const (.int .i64 0)),none,[]⟩]) (.seq (.seq (.ops false [⟨some 3,.mov (.tmp 0),none,[]⟩,⟨some 4,.bin .lss (.tmp 3) (.const (.int .i64 0)),none,[]⟩]) (.cond (.tmp 4) (.seq (.ops false [⟨some 2,.mov (.const (.int .i64 (-1))),none,[]⟩]) .ret) .skip)) (.seq (.ops false [⟨some 5,.mov (.tmp 0),none,[]⟩,⟨some 6,.minmax false (.tmp 5) [.const (.int .i64 1)],none,[]⟩,⟨some 2,.mov (.tmp 6),none,[]⟩]) .ret))⟩
theorem dh100 : cProg Go.Proofs.Tryz.prog ⟨[], [], []⟩ 100 = some dc100 := by kernel_rfl
def dc101 : DFunc := ⟨21,2,[.cell 4 (some 3)],.seq (.ops false [⟨some 2,.box 3 (.tmp 0),none,[]⟩,⟨some 3,.box 3 (.tmp 1),none,[]⟩,⟨some 4,.alloc (.agg [.int .i64 0,.int .i64 0,.int .i64 0]) 3,none,[]⟩]) (.seq (.ops false [⟨some 5,.faddr 0 1 false (.tmp 2),none,[]⟩,⟨some 6,.load none (.tmp 5),none,[]⟩,⟨some 7,.faddr 0 1 false (.tmp 3),none,[]⟩,⟨some 8,.load none (.tmp 7),none,[]⟩,⟨some 9,.bin .sub (.tmp 6) (.tmp 8),none,[]⟩,⟨some 10,.faddr 1 1 false (.tmp 2),none,[]⟩,⟨some 11,.load none (.tmp 10),none,[]⟩,⟨some 12,.faddr 1 1 false (.tmp 3),none,[]⟩,⟨some 13,.load none (.tmp 12),none,[]⟩,⟨some 14,.bin .sub (.tmp 11) (.tmp 13),none,[]⟩,⟨some 15,.faddr 2 1 false (.tmp 2),none,[]⟩,⟨some 16,.load none (.tmp 15),none,[]⟩,⟨some 17,.faddr 2 1 false (.tmp 3),none,[]⟩,⟨some 18,.load none (.tmp 17),none,[]⟩,⟨some 19,.bin .sub (.tmp 16) (.tmp 18),none,[]⟩,⟨some 20,.build [.int .i64 0,.int .i64 0,.int .i64 0] [(0,(1,(.tmp 9))),(1,(1,(.tmp 14))),(2,(1,(.tmp 19)))],none,[]⟩,⟨none,.store 3 (.tmp 4) (.tmp 20),none,[]⟩]) .ret)⟩
theorem dh101 : cProg Go.Proofs.Tryz.prog ⟨[], [], []⟩ 101 = some dc101 := by kernel_rfl
def dc102 : DFunc := ⟨39,2,[.cell 4 (some 3)],.seq (.ops false [⟨some 2,.box 3 (.tmp 0),none,[]⟩,⟨some 3,.box 3 (.tmp 1),none,[]⟩,⟨some 4,.alloc (.agg [.int .i64 0,.int .i64 0,.int .i64 0]) 3,none,[]⟩]) (.seq (.ops false [⟨some 5,.faddr 1 1 false (.tmp 2),none,[]⟩,⟨some 6,.load none (.tmp 5),none,[]⟩,⟨some 7,.faddr 2 1 false (.tmp 3),none,[]⟩,⟨some 8,.load none (.tmp 7),none,[]⟩,⟨some 9,.bin .mul (.tmp 6) (.tmp 8),none,[]⟩,⟨some 10,.faddr 2 1 false (.tmp 2),none,[]⟩,⟨some 11,.load none (.tmp 10),none,[]⟩,⟨some 12,.faddr 1 1 false (.tmp 3),none,[]⟩,⟨some 13,.load none (.tmp 12),none,[]⟩,⟨some 14,.bin .mul (.tmp 11) (.tmp 13),none,[]⟩,⟨some 15,.bin .sub (.tmp 9) (.tmp 14),none,[]⟩,⟨some 16,.faddr 2 1 false (.tmp 2),none,[]⟩,⟨some 17,.load none (.tmp 16),none,[]⟩,⟨some 18,.faddr 0 1 false (.tmp 3),none,[]⟩,⟨some 19,.load none (.tmp 18),none,[]⟩,⟨some 20,.bin .mul (.tmp 17) (.tmp 19),none,[]⟩,⟨some 21,.faddr 0 1 false (.tmp 2),none,[]⟩,⟨some 22,.load none (.tmp 21),none,[]⟩,⟨some 23,.faddr 2 1 false (.tmp 3),none,[]⟩,⟨some 24,.load none (.tmp 23),none,[]⟩,⟨some 25,.bin .mul (.tmp 22) (.tmp 24),none,[]⟩,⟨some 26,.bin .sub (.tmp 20) (.tmp 25),none,[]⟩,⟨some 27,.faddr 0 1 false (.tmp 2),none,[]⟩,⟨some 28,.load none (.tmp 27),none,[]⟩,⟨some 29,.faddr 1 1 false (.tmp 3),none,[]⟩,⟨some 30,.load none (.tmp 29),none,[]⟩,⟨some 31,.bin .mul (.tmp 28) (.tmp 30),none,[]⟩,⟨some 32,.faddr 1 1 false (.tmp 2),none,[]⟩,⟨some 33,.load none (.tmp 32),none,[]⟩,⟨some 34,.faddr 0 1 false (.tmp 3),none,[]⟩,⟨some 35,.load none (.tmp 34),none,[]⟩,⟨some 36,.bin .mul (.tmp 33) (.tmp 35),none,[]⟩,⟨some 37,.bin .sub (.tmp 31) (.tmp 36),none,[]⟩,⟨some 38,.build [.int .i64 0,.int .i64 0,.int .i64 0] [(0,(1,(.tmp 15))),(1,(1,(.tmp 26))),(2,(1,(.tmp 37)))],none,[]⟩,⟨none,.store 3 (.tmp 4) (.tmp 38),none,[]⟩]) .ret)⟩
theorem dh102 : cProg Go.Proofs.Tryz.prog ⟨[], [], []⟩ 102 = some dc102 := by kernel_rfl
def db116_0 : DC := (.seq (.seq (.ops false [⟨some 19,.mov (.tmp 5),none,[]⟩,⟨some 20,.faddr 2 2 true (.tmp 1),none,[]⟩,⟨some 21,.faddr 0 1 false (.tmp 20),none,[]⟩,⟨some 22,.load none (.tmp 21),none,[]⟩,⟨some 23,.bin .lss (.tmp 19) (.tmp 22),none,[]⟩]) (.cond (.tmp 23) .skip (.exit 2))) (.seq (.block 3 none (.ops false [⟨some 26,.mov (.tmp 3),none,[]⟩,⟨some 27,.mov (.tmp 5),none,[]⟩,⟨some 28,.mov (.tmp 4),none,[]⟩,⟨some 29,.build [.int .i64 0,.int .i64 0] [(0,(1,(.tmp 27))),(1,(1,(.tmp 28)))],none,[]⟩,⟨some 30,.lit true 2 1 (.agg [.int .i64 0,.int .i64 0]) [(0,(.tmp 29))],none,[]⟩,⟨some 31,.append false 2 (.tmp 26) (.tmp 30),none,[]⟩,⟨some 3,.mov (.tmp 31),none,[]⟩])) (.ops false [⟨some 24,.mov (.tmp 5),none,[]⟩,⟨some 25,.bin .add (.tmp 24) (.const (.int .i64 1)),none,[]⟩,⟨some 5,.mov (.tmp 25),none,[]⟩])))
def dk116_0 : Keep := ⟨[(3,2)],[1,3,4,5],[1,3]⟩
def db116_1 : DC := (.seq (.seq (.ops false [⟨some 9,.mov (.tmp 4),none,[]⟩,⟨some 10,.faddr 2 2 true (.tmp 1),none,[]⟩,⟨some 11,.faddr 1 1 false (.tmp 10),none,[]⟩,⟨some 12,.load none (.tmp 11),none,[]⟩,⟨some 13,.bin .lss (.tmp 9) (.tmp 12),none,[]⟩]) (.cond (.tmp 13) .skip (.exit 0))) (.seq (.block 1 (some ⟨[],[1,3,4],[1,3]⟩) (.seq (.ops false [⟨some 16,.faddr 0 2 true (.tmp 1),none,[]⟩,⟨some 17,.faddr 0 1 false (.tmp 16),none,[]⟩,⟨some 18,.load none (.tmp 17),none,[]⟩,⟨some 5,.mov (.tmp 18),none,[]⟩]) (.block 2 (some ⟨[],[1,3,4],[1,3]⟩) (.loop dk116_0 db116_0)))) (.ops false [⟨some 14,.mov (.tmp 4),none,[]⟩,⟨some 15,.bin .add (.tmp 14) (.const (.int .i64 1)),none,[]⟩,⟨some 4,.mov (.tmp 15),none,[]⟩])))
def dk116_1 : Keep := ⟨[(3,2)],[1,3,4],[1,3]⟩
def dc116 : DFunc := ⟨33,1,[.tmp 2],.seq (.ops false [⟨some 1,.box 4 (.tmp 0),none,[]⟩,⟨some 2,.mov (.const (.slice none 0 0)),none,[]⟩]) (.seq (.ops false [⟨some 3,.mov (.const (.slice none 0 0)),none,[]⟩]) (.seq (.seq (.ops false [⟨some 6,.faddr 0 2 true (.tmp 1),none,[]⟩,⟨some 7,.faddr 1 1 false (.tmp 6),none,[]⟩,⟨some 8,.load none (.tmp 7),none,[]⟩,⟨some 4,.mov (.tmp 8),none,[]⟩]) (.block 0 (some ⟨[],[3],[1,3]⟩) (.loop dk116_1 db116_1))) (.seq (.ops false [⟨some 32,.mov (.tmp 3),none,[]⟩,⟨some 2,.mov (.tmp 32),none,[]⟩]) .ret)))⟩
theorem dh116 : cProg Go.Proofs.Tryz.prog ⟨[(0, ⟨[(3, 2)], [1, 3, 4], [1, 3]⟩), (2, ⟨[(3, 2)], [1, 3, 4, 5], [1, 3]⟩)], [(2, ⟨[], [1, 3, 4], [1, 3]⟩), (1, ⟨[], [1, 3, 4], [1, 3]⟩), (0, ⟨[], [3], [1, 3]⟩)], [30]⟩ 116 = some dc116 := by kernel_rfl
end Sh

set_option maxRecDepth 100000
namespace Sh
open Go
def db143_0 : DC := (.seq (.seq (.ops false [⟨some 13,.mov (.tmp 1),none,[]⟩,⟨some 14,.bin .neq (.tmp 13) (.const (.int .i64 0)),none,[]⟩]) (.cond (.tmp 14) .skip (.exit 0))) (.block 1 none (.ops true [⟨some 15,.mov (.tmp 1),none,[]⟩,⟨some 16,.mov (.tmp 0),none,[]⟩,⟨some 17,.mov (.tmp 1),none,[]⟩,⟨some 18,.bin .rem (.tmp 16) (.tmp 17),none,[1,2]⟩,⟨some 0,.mov (.tmp 15),none,[0,1]⟩,⟨some 1,.mov (.tmp 18),none,[3,1,2,4,0]⟩])))
def dk143_0 : Keep := ⟨[],[0,1],[]⟩
def dc143 : DFunc := ⟨20,2,[.tmp 4],.seq (.ops false [⟨some 4,.mov (.const (.int .i64 0)),none,[]⟩]) (.seq (.ops false [⟨some 5,.mov (.tmp 0),none,[]⟩,⟨some 6,.mov (.tmp 0),none,[]⟩,⟨some 7,.bin .sub (.const (.int .i64 0)) (.tmp 6),none,[]⟩,⟨some 8,.minmax true (.tmp 5) [.tmp 7],none,[]⟩,⟨some 9,.mov (.tmp 1),none,[]⟩,⟨some 10,.mov (.tmp 1),none,[]⟩,⟨some 11,.bin .sub (.const (.int .i64 0)) (.tmp 10),none,[]⟩,⟨some 12,.minmax true (.tmp 9) [.tmp 11],none,[]⟩,⟨some 0,.mov (.tmp 8),none,[]⟩,⟨some 1,.mov (.tmp 12),none,[]⟩]) (.seq (.block 0 (some ⟨[],[0],[]⟩) (.loop dk143_0 db143_0)) (.seq (.ops false [⟨some 19,.mov (.tmp 0),none,[]⟩,⟨some 4,.mov (.tmp 19),none,[]⟩]) .ret)))⟩
theorem dh143 : cProg Go.Proofs.Tryz.prog ⟨[(0, ⟨[], [0, 1], []⟩)], [(0, ⟨[], [0], []⟩)], []⟩ 143 = some dc143 := by kernel_rfl
end Sh

set_option maxRecDepth 100000
namespace Sh
open Go
def dc16 : DFunc := ⟨6,1,[.tmp 2],.seq (.ops false [⟨some 2,.mov (.const (.slice none 0 0)),none,[]⟩]) (.seq (.ops false [⟨some 3,.lit true 3 0 (.agg [.int .i64 0,.int .i64 0,.int .i64 0]) [],none,[]⟩,⟨some 4,.mov (.tmp 0),none,[]⟩,⟨some 5,.append true 3 (.tmp 3) (.tmp 4),none,[]⟩,⟨some 2,.mov (.tmp 5),none,[]⟩]) .ret)⟩
theorem dh16 : cProg Go.Proofs.Tryz.prog ⟨[], [], [3, 5]⟩ 16 = some dc16 := by kernel_rfl
def dc17 : DFunc := ⟨9,1,[.tmp 2],.seq (.ops false [⟨some 2,.mov (.const (.slice none 0 0)),none,[]⟩]) (.seq (.seq (.ops false [⟨some 3,.mov (.tmp 0),none,[]⟩,⟨some 4,.len (.tmp 3),none,[]⟩,⟨some 5,.bin .eql (.tmp 4) (.const (.int .i64 0)),none,[]⟩]) (.cond (.tmp 5) (.seq (.ops false [⟨some 2,.mov (.const (.slice none 0 0)),none,[]⟩]) .ret) .skip)) (.seq (.ops false [⟨some 6,.mov (.tmp 0),none,[]⟩,⟨some 7,.iaddr 1 (.tmp 6) (.const (.int .i64 0)),none,[]⟩,⟨some 8,.load none (.tmp 7),none,[]⟩,⟨some 2,.mov (.tmp 8),none,[]⟩]) .ret))⟩
theorem dh17 : cProg Go.Proofs.Tryz.prog ⟨[], [], []⟩ 17 = some dc17 := by kernel_rfl
def dc19 : DFunc := ⟨5,1,[.tmp 2],.seq (.ops false [⟨some 2,.mov (.const (.slice none 0 0)),none,[]⟩]) (.seq (.ops false [⟨some 3,.mov (.tmp 0),none,[]⟩,⟨some 4,.call (.func 93) [.tmp 3],none,[]⟩,⟨some 2,.mov (.tmp 4),none,[]⟩]) .ret)⟩
theorem dh19 : cProg Go.Proofs.Tryz.prog ⟨[], [], []⟩ 19 = some dc19 := by kernel_rfl
def dc20 : DFunc := ⟨5,1,[.tmp 2],.seq (.ops false [⟨some 2,.mov (.const (.int .i64 0)),none,[]⟩]) (.seq (.ops false [⟨some 3,.mov (.tmp 0),none,[]⟩,⟨some 4,.call (.func 94) [.tmp 3],none,[]⟩,⟨some 2,.mov (.tmp 4),none,[]⟩]) .ret)⟩
theorem dh20 : cProg Go.Proofs.Tryz.prog ⟨[], [], []⟩ 20 = some dc20 := by kernel_rfl
def db21_0 : DC := (.seq (.seq (.ops false [⟨some 19,.mov (.tmp 4),none,[]⟩,⟨some 20,.mov (.tmp 0),none,[]⟩,⟨some 21,.len (.tmp 20),none,[]⟩,⟨some 22,.bin .lss (.tmp 19) (.tmp 21),none,[]⟩]) (.cond (.tmp 22) .skip (.exit 0))) (.seq (.block 1 none (.seq (.ops true [⟨some 25,.mov (.tmp 0),none,[]⟩,⟨some 26,.mov (.tmp 4),none,[]⟩,⟨some 27,.iaddr 3 (.tmp 25) (.tmp 26),none,[0,1]⟩,⟨some 28,.faddr 0 1 false (.tmp 27),none,[2,0,1]⟩,⟨some 29,.load none (.tmp 28),none,[3,2,0,1]⟩,⟨some 30,.call (.func 96) [.tmp 29,.const (.int .i64 (-1000)),.const (.int .i64 1000)],none,[4,3,2,0,1]⟩,⟨some 31,.mov (.tmp 0),none,[]⟩,⟨some 32,.mov (.tmp 4),none,[]⟩,⟨some 33,.iaddr 3 (.tmp 31) (.tmp 32),none,[6,7]⟩,⟨some 34,.faddr 1 1 false (.tmp 33),none,[8,6,7]⟩,⟨some 35,.load none (.tmp 34),none,[9,8,6,7]⟩,⟨some 36,.call (.func 96) [.tmp 35,.const (.int .i64 (-1000)),.const (.int .i64 1000)],none,[10,9,8,6,7,5,4,3,2,0,1]⟩,⟨some 37,.mov (.tmp 0),none,[]⟩,⟨some 38,.mov (.tmp 4),none,[]⟩,⟨some 39,.iaddr 3 (.tmp 37) (.tmp 38),none,[12,13]⟩,⟨some 40,.faddr 2 1 false (.tmp 39),none,[14,12,13]⟩,⟨some 41,.load none (.tmp 40),none,[15,14,12,13]⟩,⟨some 42,.call (.func 96) [.tmp 41,.const (.int .i64 0),.const (.int .i64 1000)],none,[16,15,14,12,13,11,10,9,8,6,7,5,4,3,2,0,1]⟩,⟨some 43,.lit true 1 3 (.int .i64 0) [(0,(.tmp 30)),(1,(.tmp 36)),(2,(.tmp 42))],none,[5,4,3,2,0,1,11,10,9,8,6,7,17,16,15,14,12,13]⟩,⟨some 44,.call (.func 94) [.tmp 43],none,[18,5,4,3,2,0,1,11,10,9,8,6,7,17,16,15,14,12,13]⟩,⟨some 5,.mov (.tmp 44),none,[19,18,5,4,3,2,0,1,11,10,9,8,6,7,17,16,15,14,12,13]⟩]) (.seq (.ops false [⟨some 45,.mov (.tmp 5),none,[]⟩,⟨some 46,.bin .neq (.tmp 45) (.const (.int .i64 0)),none,[]⟩]) (.cond (.tmp 46) (.seq (.ops false [⟨some 47,.mov (.tmp 5),none,[]⟩,⟨some 2,.mov (.tmp 47),none,[]⟩]) .ret) .skip)))) (.ops false [⟨some 23,.mov (.tmp 4),none,[]⟩,⟨some 24,.bin .add (.tmp 23) (.const (.int .i64 1)),none,[]⟩,⟨some 4,.mov (.tmp 24),none,[]⟩])))
def dk21_0 : Keep := ⟨[],[0,4],[14]⟩
def dc21 : DFunc := ⟨52,1,[.tmp 2],.seq (.ops false [⟨some 2,.mov (.const (.int .i64 0)),none,[]⟩]) (.seq (.seq (.ops false [⟨some 6,.mov (.tmp 0),none,[]⟩,⟨some 7,.len (.tmp 6),none,[]⟩,⟨some 8,.bin .lss (.tmp 7) (.const (.int .i64 3)),none,[]⟩,⟨some 9,.call (.func 95) [.tmp 8,.const (.int .i64 16)],none,[]⟩,⟨some 10,.mov (.tmp 0),none,[]⟩,⟨some 11,.len (.tmp 10),none,[]⟩,⟨some 12,.bin .gtr (.tmp 11) (.const (.int .i64 6)),none,[]⟩,⟨some 13,.call (.func 95) [.tmp 12,.const (.int .i64 5)],none,[]⟩,⟨some 14,.lit true 1 2 (.int .i64 0) [(0,(.tmp 9)),(1,(.tmp 13))],none,[]⟩,⟨some 15,.call (.func 94) [.tmp 14],none,[]⟩,⟨some 3,.mov (.tmp 15),none,[]⟩]) (.seq (.ops false [⟨some 16,.mov (.tmp 3),none,[]⟩,⟨some 17,.bin .neq (.tmp 16) (.const (.int .i64 0)),none,[]⟩]) (.cond (.tmp 17) (.seq (.ops false [⟨some 18,.mov (.tmp 3),none,[]⟩,⟨some 2,.mov (.tmp 18),none,[]⟩]) .ret) .skip))) (.seq (.seq (.ops false [⟨some 4,.mov (.const (.int .i64 0)),none,[]⟩]) (.block 0 (some ⟨[],[0],[14]⟩) (.loop dk21_0 db21_0))) (.seq (.ops false [⟨some 48,.mov (.tmp 0),none,[]⟩,⟨some 49,.call (.func 97) [.tmp 48],none,[]⟩,⟨some 50,.un .not (.tmp 49),none,[]⟩,⟨some 51,.call (.func 95) [.tmp 50,.const (.int .i64 1)],none,[]⟩,⟨some 2,.mov (.tmp 51),none,[]⟩]) .ret)))⟩
theorem dh21 : cProg Go.Proofs.Tryz.prog ⟨[(0, ⟨[], [0, 4], [14]⟩)], [(0, ⟨[], [0], [14]⟩)], [14, 43]⟩ 21 = some dc21 := by kernel_rfl
def dc22 : DFunc := ⟨14,1,[.tmp 2],.seq (.ops false [⟨some 1,.box 3 (.tmp 0),none,[]⟩,⟨some 2,.mov (.const (.int .i64 0)),none,[]⟩]) (.seq (.ops true [⟨some 3,.faddr 0 1 false (.tmp 1),none,[]⟩,⟨some 4,.load none (.tmp 3),none,[0]⟩,⟨some 5,.call (.func 96) [.tmp 4,.const (.int .i64 (-1000)),.const (.int .i64 1000)],none,[1,0]⟩,⟨some 6,.faddr 1 1 false (.tmp 1),none,[]⟩,⟨some 7,.load none (.tmp 6),none,[3]⟩,⟨some 8,.call (.func 96) [.tmp 7,.const (.int .i64 (-1000)),.const (.int .i64 1000)],none,[4,3,2,1,0]⟩,⟨some 9,.faddr 2 1 false (.tmp 1),none,[]⟩,⟨some 10,.load none (.tmp 9),none,[6]⟩,⟨some 11,.call (.func 96) [.tmp 10,.const (.int .i64 1),.const (.int .i64 1000)],none,[7,6,5,4,3,2,1,0]⟩,⟨some 12,.lit true 1 3 (.int .i64 0) [(0,(.tmp 5)),(1,(.tmp 8)),(2,(.tmp 11))],none,[2,1,0,5,4,3,8,7,6]⟩,⟨some 13,.call (.func 94) [.tmp 12],none,[9,2,1,0,5,4,3,8,7,6]⟩,⟨some 2,.mov (.tmp 13),none,[10,9,2,1,0,5,4,3,8,7,6]⟩]) .ret)⟩
theorem dh22 : cProg Go.Proofs.Tryz.prog ⟨[], [], [12]⟩ 22 = some dc22 := by kernel_rfl
def dc23 : DFunc := ⟨11,1,[.tmp 2],.seq (.ops false [⟨some 1,.box 2 (.tmp 0),none,[]⟩,⟨some 2,.mov (.const (.int .i64 0)),none,[]⟩]) (.seq (.ops true [⟨some 3,.faddr 0 1 false (.tmp 1),none,[]⟩,⟨some 4,.load none (.tmp 3),none,[0]⟩,⟨some 5,.call (.func 96) [.tmp 4,.const (.int .i64 (-1000)),.const (.int .i64 1000)],none,[1,0]⟩,⟨some 6,.faddr 1 1 false (.tmp 1),none,[]⟩,⟨some 7,.load none (.tmp 6),none,[3]⟩,⟨some 8,.call (.func 96) [.tmp 7,.const (.int .i64 (-1000)),.const (.int .i64 1000)],none,[4,3,2,1,0]⟩,⟨some 9,.lit true 1 2 (.int .i64 0) [(0,(.tmp 5)),(1,(.tmp 8))],none,[2,1,0,5,4,3]⟩,⟨some 10,.call (.func 94) [.tmp 9],none,[6,2,1,0,5,4,3]⟩,⟨some 2,.mov (.tmp 10),none,[7,6,2,1,0,5,4,3]⟩]) .ret)⟩
theorem dh23 : cProg Go.Proofs.Tryz.prog ⟨[], [], [9]⟩ 23 = some dc23 := by kernel_rfl
def db24_0 : DC := (.seq (.seq (.ops false [⟨some 8,.mov (.tmp 3),none,[]⟩,⟨some 9,.mov (.tmp 0),none,[]⟩,⟨some 10,.len (.tmp 9),none,[]⟩,⟨some 11,.bin .lss (.tmp 8) (.tmp 10),none,[]⟩]) (.cond (.tmp 11) .skip (.exit 0))) (.seq (.block 1 none (.seq (.ops false [⟨some 14,.mov (.tmp 0),none,[]⟩,⟨some 15,.mov (.tmp 3),none,[]⟩,⟨some 16,.iaddr 1 (.tmp 14) (.tmp 15),none,[]⟩,⟨some 17,.load none (.tmp 16),none,[]⟩,⟨some 18,.call (.func 21) [.tmp 17],none,[]⟩,⟨some 4,.mov (.tmp 18),none,[]⟩]) (.seq (.ops false [⟨some 19,.mov (.tmp 4),none,[]⟩,⟨some 20,.bin .neq (.tmp 19) (.const (.int .i64 0)),none,[]⟩]) (.cond (.tmp 20) (.seq (.ops false [⟨some 21,.mov (.tmp 4),none,[]⟩,⟨some 2,.mov (.tmp 21),none,[]⟩]) .ret) .skip)))) (.ops false [⟨some 12,.mov (.tmp 3),none,[]⟩,⟨some 13,.bin .add (.tmp 12) (.const (.int .i64 1)),none,[]⟩,⟨some 3,.mov (.tmp 13),none,[]⟩])))
def dk24_0 : Keep := ⟨[],[0,3],[]⟩
def dc24 : DFunc := ⟨22,1,[.tmp 2],.seq (.ops false [⟨some 2,.mov (.const (.int .i64 0)),none,[]⟩]) (.seq (.seq (.ops false [⟨some 5,.mov (.tmp 0),none,[]⟩,⟨some 6,.len (.tmp 5),none,[]⟩,⟨some 7,.bin .gtr (.tmp 6) (.const (.int .i64 8)),none,[]⟩]) (.cond (.tmp 7) (.seq (.ops false [⟨some 2,.mov (.const (.int .i64 5)),none,[]⟩]) .ret) .skip)) (.seq (.seq (.ops false [⟨some 3,.mov (.const (.int .i64 0)),none,[]⟩]) (.block 0 (some ⟨[],[],[]⟩) (.loop dk24_0 db24_0))) (.seq (.ops false [⟨some 2,.mov (.const (.int .i64 0)),none,[]⟩]) .ret)))⟩
theorem dh24 : cProg Go.Proofs.Tryz.prog ⟨[(0, ⟨[], [0, 3], []⟩)], [(0, ⟨[], [], []⟩)], []⟩ 24 = some dc24 := by kernel_rfl
def db25_0 : DC := (.seq (.seq (.ops false [⟨some 39,.mov (.tmp 11),none,[]⟩,⟨some 40,.mov (.tmp 0),none,[]⟩,⟨some 41,.len (.tmp 40),none,[]⟩,⟨some 42,.bin .lss (.tmp 39) (.tmp 41),none,[]⟩]) (.cond (.tmp 42) .skip (.exit 0))) (.seq (.block 1 none (.seq (.ops true [⟨some 45,.load (some 3) (.tmp 4),none,[]⟩,⟨some 46,.mov (.tmp 0),none,[]⟩,⟨some 47,.mov (.tmp 11),none,[]⟩,⟨some 48,.iaddr 3 (.tmp 46) (.tmp 47),none,[1,2]⟩,⟨some 49,.load (some 3) (.tmp 48),none,[3,1,2]⟩,⟨some 50,.load (some 3) (.tmp 7),none,[]⟩,⟨some 51,.call (.func 101) [.tmp 49,.tmp 50],none,[4,3,1,2,5]⟩,⟨some 52,.mov (.tmp 0),none,[]⟩,⟨some 53,.mov (.tmp 11),none,[]⟩,⟨some 54,.bin .add (.tmp 53) (.const (.int .i64 1)),none,[8]⟩,⟨some 55,.mov (.tmp 0),none,[]⟩,⟨some 56,.len (.tmp 55),none,[10]⟩,⟨some 57,.bin .rem (.tmp 54) (.tmp 56),none,[9,8,11,10]⟩,⟨some 58,.iaddr 3 (.tmp 52) (.tmp 57),none,[7,12,9,8,11,10]⟩,⟨some 59,.load (some 3) (.tmp 58),none,[13,7,12,9,8,11,10]⟩,⟨some 60,.load (some 3) (.tmp 7),none,[]⟩,⟨some 61,.call (.func 101) [.tmp 59,.tmp 60],none,[14,13,7,12,9,8,11,10,15,6,4,3,1,2,5]⟩,⟨some 62,.call (.func 102) [.tmp 51,.tmp 61],none,[6,4,3,1,2,5,16,14,13,7,12,9,8,11,10,15]⟩,⟨some 63,.call (.func 99) [.tmp 45,.tmp 62],none,[0,17,6,4,3,1,2,5,16,14,13,7,12,9,8,11,10,15]⟩,⟨some 12,.mov (.tmp 63),none,[18,0,17,6,4,3,1,2,5,16,14,13,7,12,9,8,11,10,15]⟩]) (.ops false [⟨some 64,.mov (.tmp 9),none,[]⟩,⟨some 65,.mov (.tmp 64),none,[]⟩,⟨some 66,.mov (.tmp 12),some (65,false),[]⟩,⟨some 67,.bin .gtr (.tmp 66) (.const (.int .i64 0)),some (65,false),[]⟩,⟨some 68,.pick (.tmp 65) (.const (.bool true)) (.tmp 67),none,[]⟩,⟨some 69,.mov (.tmp 10),none,[]⟩,⟨some 70,.mov (.tmp 69),none,[]⟩,⟨some 71,.mov (.tmp 12),some (70,false),[]⟩,⟨some 72,.bin .lss (.tmp 71) (.const (.int .i64 0)),some (70,false),[]⟩,⟨some 73,.pick (.tmp 70) (.const (.bool true)) (.tmp 72),none,[]⟩,⟨some 9,.mov (.tmp 68),none,[]⟩,⟨some 10,.mov (.tmp 73),none,[]⟩]))) (.ops false [⟨some 43,.mov (.tmp 11),none,[]⟩,⟨some 44,.bin .add (.tmp 43) (.const (.int .i64 1)),none,[]⟩,⟨some 11,.mov (.tmp 44),none,[]⟩])))
def dk25_0 : Keep := ⟨[],[0,4,7,9,10,11],[4,5,7,8]⟩
def dc25 : DFunc := ⟨80,3,[.tmp 6],.seq (.ops false [⟨some 4,.box 3 (.tmp 1),none,[]⟩,⟨some 5,.box 2 (.tmp 2),none,[]⟩,⟨some 6,.mov (.const (.bool false)),none,[]⟩]) (.seq (.ops false [⟨some 13,.faddr 0 1 false (.tmp 5),none,[]⟩,⟨some 14,.load none (.tmp 13),none,[]⟩,⟨some 15,.faddr 1 1 false (.tmp 5),none,[]⟩,⟨some 16,.load none (.tmp 15),none,[]⟩,⟨some 17,.build [.int .i64 0,.int .i64 0,.int .i64 0] [(0,(1,(.tmp 14))),(1,(1,(.tmp 16)))],none,[]⟩,⟨some 7,.alloc (.agg [.int .i64 0,.int .i64 0,.int .i64 0]) 3,none,[]⟩,⟨none,.store 3 (.tmp 7) (.tmp 17),none,[]⟩]) (.seq (.ops false [⟨some 18,.mov (.tmp 0),none,[]⟩,⟨some 19,.call (.func 98) [.tmp 18],none,[]⟩,⟨some 8,.alloc (.agg [.int .i64 0,.int .i64 0,.int .i64 0]) 3,none,[]⟩,⟨none,.store 3 (.tmp 8) (.tmp 19),none,[]⟩]) (.seq (.seq (.ops true [⟨some 20,.load (some 3) (.tmp 8),none,[]⟩,⟨some 21,.load (some 3) (.tmp 4),none,[]⟩,⟨some 22,.call (.func 99) [.tmp 20,.tmp 21],none,[0,1]⟩,⟨some 23,.bin .eql (.tmp 22) (.const (.int .i64 0)),none,[2,0,1]⟩,⟨some 24,.mov (.tmp 23),none,[3,2,0,1]⟩,⟨some 25,.load (some 3) (.tmp 8),some (24,false),[4,3,2,0,1]⟩,⟨some 26,.load (some 3) (.tmp 4),some (24,false),[4,3,2,0,1]⟩,⟨some 27,.call (.func 99) [.tmp 25,.tmp 26],some (24,false),[5,4,3,2,0,1,6]⟩,⟨some 28,.call (.func 100) [.tmp 27],some (24,false),[7,5,4,3,2,0,1,6]⟩,⟨some 29,.load (some 3) (.tmp 8),some (24,false),[4,3,2,0,1]⟩,⟨some 30,.mov (.tmp 0),some (24,false),[4,3,2,0,1]⟩,⟨some 31,.iaddr 3 (.tmp 30) (.const (.int .i64 0)),some (24,false),[10,4,3,2,0,1]⟩,⟨some 32,.load (some 3) (.tmp 31),some (24,false),[11,10,4,3,2,0,1]⟩,⟨some 33,.load (some 3) (.tmp 7),some (24,false),[4,3,2,0,1]⟩,⟨some 34,.call (.func 101) [.tmp 32,.tmp 33],some (24,false),[12,11,10,4,3,2,0,1,13,8,7,5,6]⟩,⟨some 35,.call (.func 99) [.tmp 29,.tmp 34],some (24,false),[9,4,3,2,0,1,14,12,11,10,13,8,7,5,6]⟩,⟨some 36,.call (.func 100) [.tmp 35],some (24,false),[15,9,4,3,2,0,1,14,12,11,10,13,8,7,5,6]⟩,⟨some 37,.bin .neq (.tmp 28) (.tmp 36),some (24,false),[8,7,5,4,3,2,0,1,6,16,15,9,14,12,11,10,13]⟩,⟨some 38,.pick (.tmp 24) (.const (.bool true)) (.tmp 37),none,[4,3,2,0,1,17,8,7,5,6,16,15,9,14,12,11,10,13]⟩]) (.cond (.tmp 38) (.seq (.ops false [⟨some 6,.mov (.const (.bool false)),none,[]⟩]) .ret) .skip)) (.seq (.ops false [⟨some 9,.mov (.const (.bool false)),none,[]⟩,⟨some 10,.mov (.const (.bool false)),none,[]⟩]) (.seq (.seq (.ops false [⟨some 11,.mov (.const (.int .i64 0)),none,[]⟩]) (.block 0 (some ⟨[],[9,10],[4,5,7,8]⟩) (.loop dk25_0 db25_0))) (.seq (.ops false [⟨some 74,.mov (.tmp 9),none,[]⟩,⟨some 75,.un .not (.tmp 74),none,[]⟩,⟨some 76,.mov (.tmp 75),none,[]⟩,⟨some 77,.mov (.tmp 10),some (76,false),[]⟩,⟨some 78,.un .not (.tmp 77),some (76,false),[]⟩,⟨some 79,.pick (.tmp 76) (.const (.bool true)) (.tmp 78),none,[]⟩,⟨some 6,.mov (.tmp 79),none,[]⟩]) .ret))))))⟩
theorem dh25 : cProg Go.Proofs.Tryz.prog ⟨[(0, ⟨[], [0, 4, 7, 9, 10, 11], [4, 5, 7, 8]⟩)], [(0, ⟨[], [9, 10], [4, 5, 7, 8]⟩)], []⟩ 25 = some dc25 := by kernel_rfl
def db26_0 : DC := (.seq (.seq (.ops false [⟨some 9,.mov (.tmp 8),none,[]⟩,⟨some 10,.mov (.tmp 0),none,[]⟩,⟨some 11,.len (.tmp 10),none,[]⟩,⟨some 12,.bin .lss (.tmp 9) (.tmp 11),none,[]⟩]) (.cond (.tmp 12) .skip (.exit 0))) (.seq (.block 1 none (.seq (.ops true [⟨some 15,.mov (.tmp 0),none,[]⟩,⟨some 16,.mov (.tmp 8),none,[]⟩,⟨some 17,.iaddr 1 (.tmp 15) (.tmp 16),none,[0,1]⟩,⟨some 18,.load none (.tmp 17),none,[2,0,1]⟩,⟨some 19,.load (some 3) (.tmp 4),none,[]⟩,⟨some 20,.load (some 2) (.tmp 5),none,[]⟩,⟨some 21,.call (.func 25) [.tmp 18,.tmp 19,.tmp 20],none,[3,2,0,1,4,5]⟩]) (.cond (.tmp 21) (.ops false [⟨some 22,.mov (.tmp 7),none,[]⟩,⟨some 23,.mov (.tmp 8),none,[]⟩,⟨some 24,.lit true 1 1 (.int .i64 0) [(0,(.tmp 23))],none,[]⟩,⟨some 25,.append false 1 (.tmp 22) (.tmp 24),none,[]⟩,⟨some 7,.mov (.tmp 25),none,[]⟩]) .skip))) (.ops false [⟨some 13,.mov (.tmp 8),none,[]⟩,⟨some 14,.bin .add (.tmp 13) (.const (.int .i64 1)),none,[]⟩,⟨some 8,.mov (.tmp 14),none,[]⟩])))
def dk26_0 : Keep := ⟨[(7,1)],[0,4,5,7,8],[4,5,7]⟩
def dc26 : DFunc := ⟨27,3,[.tmp 6],.seq (.ops false [⟨some 4,.box 3 (.tmp 1),none,[]⟩,⟨some 5,.box 2 (.tmp 2),none,[]⟩,⟨some 6,.mov (.const (.slice none 0 0)),none,[]⟩]) (.seq (.ops false [⟨some 7,.mov (.const (.slice none 0 0)),none,[]⟩]) (.seq (.seq (.ops false [⟨some 8,.mov (.const (.int .i64 0)),none,[]⟩]) (.block 0 (some ⟨[],[7],[4,5,7]⟩) (.loop dk26_0 db26_0))) (.seq (.ops false [⟨some 26,.mov (.tmp 7),none,[]⟩,⟨some 6,.mov (.tmp 26),none,[]⟩]) .ret)))⟩
theorem dh26 : cProg Go.Proofs.Tryz.prog ⟨[(0, ⟨[(7, 1)], [0, 4, 5, 7, 8], [4, 5, 7]⟩)], [(0, ⟨[], [7], [4, 5, 7]⟩)], [24]⟩ 26 = some dc26 := by kernel_rfl
def dc30 : DFunc := ⟨22,1,[.tmp 2],.seq (.ops false [⟨some 1,.box 4 (.tmp 0),none,[]⟩,⟨some 2,.mov (.const (.bool false)),none,[]⟩]) (.seq (.seq (.ops false [⟨some 3,.load (some 4) (.tmp 1),none,[]⟩,⟨some 4,.call (.func 36) [.tmp 3],none,[]⟩,⟨some 5,.bin .neq (.tmp 4) (.const (.int .i64 0)),none,[]⟩]) (.cond (.tmp 5) (.seq (.ops false [⟨some 2,.mov (.const (.bool true)),none,[]⟩]) .ret) .skip)) (.seq (.ops false [⟨some 6,.faddr 2 2 true (.tmp 1),none,[]⟩,⟨some 7,.faddr 0 1 false (.tmp 6),none,[]⟩,⟨some 8,.load none (.tmp 7),none,[]⟩,⟨some 9,.faddr 0 2 true (.tmp 1),none,[]⟩,⟨some 10,.faddr 0 1 false (.tmp 9),none,[]⟩,⟨some 11,.load none (.tmp 10),none,[]⟩,⟨some 12,.bin .sub (.tmp 8) (.tmp 11),none,[]⟩,⟨some 13,.faddr 2 2 true (.tmp 1),none,[]⟩,⟨some 14,.faddr 1 1 false (.tmp 13),none,[]⟩,⟨some 15,.load none (.tmp 14),none,[]⟩,⟨some 16,.faddr 0 2 true (.tmp 1),none,[]⟩,⟨some 17,.faddr 1 1 false (.tmp 16),none,[]⟩,⟨some 18,.load none (.tmp 17),none,[]⟩,⟨some 19,.bin .sub (.tmp 15) (.tmp 18),none,[]⟩,⟨some 20,.bin .mul (.tmp 12) (.tmp 19),none,[]⟩,⟨some 21,.bin .leq (.tmp 20) (.const (.int .i64 49)),none,[]⟩,⟨some 2,.mov (.tmp 21),none,[]⟩]) .ret))⟩
theorem dh30 : cProg Go.Proofs.Tryz.prog ⟨[], [], []⟩ 30 = some dc30 := by kernel_rfl
def db35_0 : DC := (.seq (.ops false [⟨some 9,.bin .lss (.tmp 8) (.tmp 7),none,[]⟩]) (.seq (.cond (.tmp 9) .skip (.exit 0)) (.seq (.block 1 none (.seq (.ops false [⟨some 10,.iaddr 4 (.tmp 6) (.tmp 8),none,[]⟩,⟨some 11,.load (some 4) (.tmp 10),none,[]⟩,⟨some 5,.alloc (.agg [.int .i64 0,.int .i64 0,.int .i64 0,.int .i64 0]) 4,none,[]⟩,⟨none,.store 4 (.tmp 5) (.tmp 11),none,[]⟩]) (.ops false [⟨some 12,.mov (.tmp 3),none,[]⟩,⟨some 13,.load (some 4) (.tmp 5),none,[]⟩,⟨some 14,.lit true 4 1 (.agg [.int .i64 0,.int .i64 0,.int .i64 0,.int .i64 0]) [(0,(.tmp 13))],none,[]⟩,⟨some 15,.append false 4 (.tmp 12) (.tmp 14),none,[]⟩,⟨some 3,.mov (.tmp 15),none,[]⟩]))) (.ops false [⟨some 16,.bin .add (.tmp 8) (.const (.int .i64 1)),none,[]⟩,⟨some 8,.mov (.tmp 16),none,[]⟩]))))
def dk35_0 : Keep := ⟨[(3,4)],[3,6,7,8],[3]⟩
def dc35 : DFunc := ⟨18,1,[.tmp 2],.seq (.ops false [⟨some 2,.mov (.const (.slice none 0 0)),none,[]⟩]) (.seq (.ops false [⟨some 3,.mov (.const (.slice none 0 0)),none,[]⟩]) (.seq (.seq (.ops false [⟨some 6,.mov (.tmp 0),none,[]⟩,⟨some 7,.len (.tmp 6),none,[]⟩,⟨some 8,.mov (.const (.int .i64 0)),none,[]⟩]) (.block 0 (some ⟨[],[3],[3]⟩) (.loop dk35_0 db35_0))) (.seq (.ops false [⟨some 17,.mov (.tmp 3),none,[]⟩,⟨some 2,.mov (.tmp 17),none,[]⟩]) .ret)))⟩
theorem dh35 : cProg Go.Proofs.Tryz.prog ⟨[(0, ⟨[(3, 4)], [3, 6, 7, 8], [3]⟩)], [(0, ⟨[], [3], [3]⟩)], [14]⟩ 35 = some dc35 := by kernel_rfl
def dc36 : DFunc := ⟨51,1,[.tmp 2],.seq (.ops false [⟨some 1,.box 4 (.tmp 0),none,[]⟩,⟨some 2,.mov (.const (.int .i64 0)),none,[]⟩]) (.seq (.seq (.ops true [⟨some 4,.faddr 0 2 true (.tmp 1),none,[]⟩,⟨some 5,.load (some 2) (.tmp 4),none,[0]⟩,⟨some 6,.call (.func 23) [.tmp 5],none,[1,0]⟩,⟨some 7,.faddr 2 2 true (.tmp 1),none,[]⟩,⟨some 8,.load (some 2) (.tmp 7),none,[3]⟩,⟨some 9,.call (.func 23) [.tmp 8],none,[4,3,2,1,0]⟩,⟨some 10,.lit true 1 2 (.int .i64 0) [(0,(.tmp 6)),(1,(.tmp 9))],none,[2,1,0,5,4,3]⟩,⟨some 11,.call (.func 94) [.tmp 10],none,[6,2,1,0,5,4,3]⟩,⟨some 3,.mov (.tmp 11),none,[7,6,2,1,0,5,4,3]⟩]) (.seq (.ops false [⟨some 12,.mov (.tmp 3),none,[]⟩,⟨some 13,.bin .neq (.tmp 12) (.const (.int .i64 0)),none,[]⟩]) (.cond (.tmp 13) (.seq (.ops false [⟨some 14,.mov (.tmp 3),none,[]⟩,⟨some 2,.mov (.tmp 14),none,[]⟩]) .ret) .skip))) (.seq (.ops true [⟨some 15,.faddr 2 2 true (.tmp 1),none,[]⟩,⟨some 16,.faddr 0 1 false (.tmp 15),none,[0]⟩,⟨some 17,.load none (.tmp 16),none,[1,0]⟩,⟨some 18,.faddr 0 2 true (.tmp 1),none,[]⟩,⟨some 19,.faddr 0 1 false (.tmp 18),none,[3]⟩,⟨some 20,.load none (.tmp 19),none,[4,3]⟩,⟨some 21,.bin .leq (.tmp 17) (.tmp 20),none,[2,1,0,5,4,3]⟩,⟨some 22,.mov (.tmp 21),none,[6,2,1,0,5,4,3]⟩,⟨some 23,.faddr 2 2 true (.tmp 1),some (22,false),[7,6,2,1,0,5,4,3]⟩,⟨some 24,.faddr 1 1 false (.tmp 23),some (22,false),[8,7,6,2,1,0,5,4,3]⟩,⟨some 25,.load none (.tmp 24),some (22,false),[9,8,7,6,2,1,0,5,4,3]⟩,⟨some 26,.faddr 0 2 true (.tmp 1),some (22,false),[7,6,2,1,0,5,4,3]⟩,⟨some 27,.faddr 1 1 false (.tmp 26),some (22,false),[11,7,6,2,1,0,5,4,3]⟩,⟨some 28,.load none (.tmp 27),some (22,false),[12,11,7,6,2,1,0,5,4,3]⟩,⟨some 29,.bin .leq (.tmp 25) (.tmp 28),some (22,false),[10,9,8,7,6,2,1,0,5,4,3,13,12,11]⟩,⟨some 30,.pick (.tmp 22) (.const (.bool true)) (.tmp 29),none,[7,6,2,1,0,5,4,3,14,10,9,8,13,12,11]⟩,⟨some 31,.call (.func 95) [.tmp 30,.const (.int .i64 14)],none,[15,7,6,2,1,0,5,4,3,14,10,9,8,13,12,11]⟩,⟨some 32,.faddr 2 2 true (.tmp 1),none,[]⟩,⟨some 33,.faddr 0 1 false (.tmp 32),none,[17]⟩,⟨some 34,.load none (.tmp 33),none,[18,17]⟩,⟨some 35,.faddr 0 2 true (.tmp 1),none,[]⟩,⟨some 36,.faddr 0 1 false (.tmp 35),none,[20]⟩,⟨some 37,.load none (.tmp 36),none,[21,20]⟩,⟨some 38,.bin .sub (.tmp 34) (.tmp 37),none,[19,18,17,22,21,20]⟩,⟨some 39,.faddr 2 2 true (.tmp 1),none,[]⟩,⟨some 40,.faddr 1 1 false (.tmp 39),none,[24]⟩,⟨some 41,.load none (.tmp 40),none,[25,24]⟩,⟨some 42,.faddr 0 2 true (.tmp 1),none,[]⟩,⟨some 43,.faddr 1 1 false (.tmp 42),none,[27]⟩,⟨some 44,.load none (.tmp 43),none,[28,27]⟩,⟨some 45,.bin .sub (.tmp 41) (.tmp 44),none,[26,25,24,29,28,27]⟩,⟨some 46,.bin .mul (.tmp 38) (.tmp 45),none,[23,19,18,17,22,21,20,30,26,25,24,29,28,27]⟩,⟨some 47,.bin .gtr (.tmp 46) (.const (.int .i64 256)),none,[31,23,19,18,17,22,21,20,30,26,25,24,29,28,27]⟩,⟨some 48,.call (.func 95) [.tmp 47,.const (.int .i64 5)],none,[32,31,23,19,18,17,22,21,20,30,26,25,24,29,28,27,16,15,7,6,2,1,0,5,4,3,14,10,9,8,13,12,11]⟩,⟨some 49,.lit true 1 2 (.int .i64 0) [(0,(.tmp 31)),(1,(.tmp 48))],none,[16,15,7,6,2,1,0,5,4,3,14,10,9,8,13,12,11,33,32,31,23,19,18,17,22,21,20,30,26,25,24,29,28,27]⟩,⟨some 50,.call (.func 94) [.tmp 49],none,[34,16,15,7,6,2,1,0,5,4,3,14,10,9,8,13,12,11,33,32,31,23,19,18,17,22,21,20,30,26,25,24,29,28,27]⟩,⟨some 2,.mov (.tmp 50),none,[35,34,16,15,7,6,2,1,0,5,4,3,14,10,9,8,13,12,11,33,32,31,23,19,18,17,22,21,20,30,26,25,24,29,28,27]⟩]) .ret))⟩
theorem dh36 : cProg Go.Proofs.Tryz.prog ⟨[], [], [10, 49]⟩ 36 = some dc36 := by kernel_rfl
def db37_0 : DC := (.seq (.seq (.ops false [⟨some 8,.mov (.tmp 3),none,[]⟩,⟨some 9,.mov (.tmp 0),none,[]⟩,⟨some 10,.len (.tmp 9),none,[]⟩,⟨some 11,.bin .lss (.tmp 8) (.tmp 10),none,[]⟩]) (.cond (.tmp 11) .skip (.exit 0))) (.seq (.block 1 none (.seq (.ops false [⟨some 14,.mov (.tmp 0),none,[]⟩,⟨some 15,.mov (.tmp 3),none,[]⟩,⟨some 16,.iaddr 4 (.tmp 14) (.tmp 15),none,[]⟩,⟨some 17,.load (some 4) (.tmp 16),none,[]⟩,⟨some 18,.call (.func 36) [.tmp 17],none,[]⟩,⟨some 4,.mov (.tmp 18),none,[]⟩]) (.seq (.ops false [⟨some 19,.mov (.tmp 4),none,[]⟩,⟨some 20,.bin .neq (.tmp 19) (.const (.int .i64 0)),none,[]⟩]) (.cond (.tmp 20) (.seq (.ops false [⟨some 21,.mov (.tmp 4),none,[]⟩,⟨some 2,.mov (.tmp 21),none,[]⟩]) .ret) .skip)))) (.ops false [⟨some 12,.mov (.tmp 3),none,[]⟩,⟨some 13,.bin .add (.tmp 12) (.const (.int .i64 1)),none,[]⟩,⟨some 3,.mov (.tmp 13),none,[]⟩])))
def dk37_0 : Keep := ⟨[],[0,3],[]⟩
def dc37 : DFunc := ⟨22,1,[.tmp 2],.seq (.ops false [⟨some 2,.mov (.const (.int .i64 0)),none,[]⟩]) (.seq (.seq (.ops false [⟨some 5,.mov (.tmp 0),none,[]⟩,⟨some 6,.len (.tmp 5),none,[]⟩,⟨some 7,.bin .gtr (.tmp 6) (.const (.int .i64 16)),none,[]⟩]) (.cond (.tmp 7) (.seq (.ops false [⟨some 2,.mov (.const (.int .i64 5)),none,[]⟩]) .ret) .skip)) (.seq (.seq (.ops false [⟨some 3,.mov (.const (.int .i64 0)),none,[]⟩]) (.block 0 (some ⟨[],[],[]⟩) (.loop dk37_0 db37_0))) (.seq (.ops false [⟨some 2,.mov (.const (.int .i64 0)),none,[]⟩]) .ret)))⟩
theorem dh37 : cProg Go.Proofs.Tryz.prog ⟨[(0, ⟨[], [0, 3], []⟩)], [(0, ⟨[], [], []⟩)], []⟩ 37 = some dc37 := by kernel_rfl
def db38_0 : DC := (.seq (.seq (.ops false [⟨some 12,.mov (.tmp 9),none,[]⟩,⟨some 13,.mov (.tmp 8),none,[]⟩,⟨some 14,.len (.tmp 13),none,[]⟩,⟨some 15,.bin .lss (.tmp 12) (.tmp 14),none,[]⟩]) (.cond (.tmp 15) .skip (.exit 0))) (.seq (.block 1 none (.seq (.ops true [⟨some 18,.mov (.tmp 0),none,[]⟩,⟨some 19,.load (some 3) (.tmp 4),none,[]⟩,⟨some 20,.mov (.tmp 8),none,[]⟩,⟨some 21,.mov (.tmp 9),none,[]⟩,⟨some 22,.iaddr 2 (.tmp 20) (.tmp 21),none,[2,3]⟩,⟨some 23,.load (some 2) (.tmp 22),none,[4,2,3]⟩,⟨some 24,.call (.func 25) [.tmp 18,.tmp 19,.tmp 23],none,[0,1,5,4,2,3]⟩]) (.cond (.tmp 24) (.ops false [⟨some 25,.mov (.tmp 7),none,[]⟩,⟨some 26,.mov (.tmp 8),none,[]⟩,⟨some 27,.mov (.tmp 9),none,[]⟩,⟨some 28,.iaddr 2 (.tmp 26) (.tmp 27),none,[]⟩,⟨some 29,.load (some 2) (.tmp 28),none,[]⟩,⟨some 30,.lit true 2 1 (.agg [.int .i64 0,.int .i64 0]) [(0,(.tmp 29))],none,[]⟩,⟨some 31,.append false 2 (.tmp 25) (.tmp 30),none,[]⟩,⟨some 7,.mov (.tmp 31),none,[]⟩]) .skip))) (.ops false [⟨some 16,.mov (.tmp 9),none,[]⟩,⟨some 17,.bin .add (.tmp 16) (.const (.int .i64 1)),none,[]⟩,⟨some 9,.mov (.tmp 17),none,[]⟩])))
def dk38_0 : Keep := ⟨[(7,2)],[0,4,7,8,9],[4,5,7]⟩
def dc38 : DFunc := ⟨33,3,[.tmp 6],.seq (.ops false [⟨some 4,.box 3 (.tmp 1),none,[]⟩,⟨some 5,.box 4 (.tmp 2),none,[]⟩,⟨some 6,.mov (.const (.slice none 0 0)),none,[]⟩]) (.seq (.ops false [⟨some 7,.mov (.const (.slice none 0 0)),none,[]⟩]) (.seq (.ops false [⟨some 10,.load (some 4) (.tmp 5),none,[]⟩,⟨some 11,.call (.func 116) [.tmp 10],none,[]⟩,⟨some 8,.mov (.tmp 11),none,[]⟩]) (.seq (.seq (.ops false [⟨some 9,.mov (.const (.int .i64 0)),none,[]⟩]) (.block 0 (some ⟨[],[7],[4,5,7]⟩) (.loop dk38_0 db38_0))) (.seq (.ops false [⟨some 32,.mov (.tmp 7),none,[]⟩,⟨some 6,.mov (.tmp 32),none,[]⟩]) .ret))))⟩
theorem dh38 : cProg Go.Proofs.Tryz.prog ⟨[(0, ⟨[(7, 2)], [0, 4, 7, 8, 9], [4, 5, 7]⟩)], [(0, ⟨[], [7], [4, 5, 7]⟩)], [30]⟩ 38 = some dc38 := by kernel_rfl
def db39_0 : DC := (.seq (.seq (.ops false [⟨some 21,.mov (.tmp 11),none,[]⟩,⟨some 22,.mov (.tmp 8),none,[]⟩,⟨some 23,.len (.tmp 22),none,[]⟩,⟨some 24,.bin .lss (.tmp 21) (.tmp 23),none,[]⟩]) (.cond (.tmp 24) .skip (.exit 2))) (.seq (.block 3 none (.seq (.ops true [⟨some 27,.mov (.tmp 0),none,[]⟩,⟨some 28,.load (some 3) (.tmp 4),none,[]⟩,⟨some 29,.mov (.tmp 8),none,[]⟩,⟨some 30,.mov (.tmp 11),none,[]⟩,⟨some 31,.iaddr 2 (.tmp 29) (.tmp 30),none,[2,3]⟩,⟨some 32,.load (some 2) (.tmp 31),none,[4,2,3]⟩,⟨some 33,.call (.func 26) [.tmp 27,.tmp 28,.tmp 32],none,[0,1,5,4,2,3]⟩,⟨some 12,.mov (.tmp 33),none,[6,0,1,5,4,2,3]⟩]) (.seq (.ops false [⟨some 34,.mov (.tmp 12),none,[]⟩,⟨some 35,.len (.tmp 34),none,[]⟩,⟨some 36,.bin .gtr (.tmp 35) (.const (.int .i64 0)),none,[]⟩,⟨some 37,.mov (.tmp 36),none,[]⟩,⟨some 38,.mov (.tmp 12),some (37,true),[]⟩,⟨some 39,.iaddr 1 (.tmp 38) (.const (.int .i64 0)),some (37,true),[]⟩,⟨some 40,.load none (.tmp 39),some (37,true),[]⟩,⟨some 41,.mov (.tmp 9),some (37,true),[]⟩,⟨some 42,.bin .eql (.tmp 40) (.tmp 41),some (37,true),[]⟩,⟨some 43,.pick (.tmp 37) (.tmp 42) (.const (.bool false)),none,[]⟩]) (.cond (.tmp 43) (.ops false [⟨some 44,.mov (.tmp 10),none,[]⟩,⟨some 45,.bin .add (.tmp 44) (.const (.int .i64 1)),none,[]⟩,⟨some 10,.mov (.tmp 45),none,[]⟩]) .skip)))) (.ops false [⟨some 25,.mov (.tmp 11),none,[]⟩,⟨some 26,.bin .add (.tmp 25) (.const (.int .i64 1)),none,[]⟩,⟨some 11,.mov (.tmp 26),none,[]⟩])))
def dk39_0 : Keep := ⟨[],[0,4,7,8,9,10,11],[4,5,7,48,49]⟩
def db39_1 : DC := (.seq (.seq (.ops false [⟨some 15,.mov (.tmp 9),none,[]⟩,⟨some 16,.mov (.tmp 0),none,[]⟩,⟨some 17,.len (.tmp 16),none,[]⟩,⟨some 18,.bin .lss (.tmp 15) (.tmp 17),none,[]⟩]) (.cond (.tmp 18) .skip (.exit 0))) (.seq (.block 1 (some ⟨[],[0,4,7,8,9],[4,5,7]⟩) (.seq (.ops false [⟨some 10,.mov (.const (.int .i64 0)),none,[]⟩]) (.seq (.seq (.ops false [⟨some 11,.mov (.const (.int .i64 0)),none,[]⟩]) (.block 2 (some ⟨[],[0,4,7,8,9,10],[4,5,7,48,49]⟩) (.loop dk39_0 db39_0))) (.ops false [⟨some 46,.mov (.tmp 7),none,[]⟩,⟨some 47,.mov (.tmp 10),none,[]⟩,⟨some 48,.lit true 1 1 (.int .i64 0) [(0,(.tmp 47))],none,[]⟩,⟨some 49,.append false 1 (.tmp 46) (.tmp 48),none,[]⟩,⟨some 7,.mov (.tmp 49),none,[]⟩])))) (.ops false [⟨some 19,.mov (.tmp 9),none,[]⟩,⟨some 20,.bin .add (.tmp 19) (.const (.int .i64 1)),none,[]⟩,⟨some 9,.mov (.tmp 20),none,[]⟩])))
def dk39_1 : Keep := ⟨[(7,1)],[0,4,7,8,9],[4,5,7]⟩
def dc39 : DFunc := ⟨51,3,[.tmp 6],.seq (.ops false [⟨some 4,.box 3 (.tmp 1),none,[]⟩,⟨some 5,.box 4 (.tmp 2),none,[]⟩,⟨some 6,.mov (.const (.slice none 0 0)),none,[]⟩]) (.seq (.ops false [⟨some 7,.mov (.const (.slice none 0 0)),none,[]⟩]) (.seq (.ops false [⟨some 13,.load (some 4) (.tmp 5),none,[]⟩,⟨some 14,.call (.func 116) [.tmp 13],none,[]⟩,⟨some 8,.mov (.tmp 14),none,[]⟩]) (.seq (.seq (.ops false [⟨some 9,.mov (.const (.int .i64 0)),none,[]⟩]) (.block 0 (some ⟨[],[7],[4,5,7]⟩) (.loop dk39_1 db39_1))) (.seq (.ops false [⟨some 50,.mov (.tmp 7),none,[]⟩,⟨some 6,.mov (.tmp 50),none,[]⟩]) .ret))))⟩
theorem dh39 : cProg Go.Proofs.Tryz.prog ⟨[(0, ⟨[(7, 1)], [0, 4, 7, 8, 9], [4, 5, 7]⟩), (2, ⟨[], [0, 4, 7, 8, 9, 10, 11], [4, 5, 7, 48, 49]⟩)], [(2, ⟨[], [0, 4, 7, 8, 9, 10], [4, 5, 7, 48, 49]⟩), (1, ⟨[], [0, 4, 7, 8, 9], [4, 5, 7]⟩), (0, ⟨[], [7], [4, 5, 7]⟩)], [48]⟩ 39 = some dc39 := by kernel_rfl
def db40_0 : DC := (.seq (.seq (.ops false [⟨some 12,.mov (.tmp 9),none,[]⟩,⟨some 13,.mov (.tmp 8),none,[]⟩,⟨some 14,.len (.tmp 13),none,[]⟩,⟨some 15,.bin .lss (.tmp 12) (.tmp 14),none,[]⟩]) (.cond (.tmp 15) .skip (.exit 0))) (.seq (.block 1 none (.seq (.ops true [⟨some 18,.mov (.tmp 0),none,[]⟩,⟨some 19,.load (some 3) (.tmp 4),none,[]⟩,⟨some 20,.mov (.tmp 8),none,[]⟩,⟨some 21,.mov (.tmp 9),none,[]⟩,⟨some 22,.iaddr 2 (.tmp 20) (.tmp 21),none,[2,3]⟩,⟨some 23,.load (some 2) (.tmp 22),none,[4,2,3]⟩,⟨some 24,.call (.func 26) [.tmp 18,.tmp 19,.tmp 23],none,[0,1,5,4,2,3]⟩,⟨some 25,.len (.tmp 24),none,[6,0,1,5,4,2,3]⟩,⟨some 26,.bin .eql (.tmp 25) (.const (.int .i64 0)),none,[7,6,0,1,5,4,2,3]⟩]) (.cond (.tmp 26) (.ops false [⟨some 27,.mov (.tmp 7),none,[]⟩,⟨some 28,.bin .add (.tmp 27) (.const (.int .i64 1)),none,[]⟩,⟨some 7,.mov (.tmp 28),none,[]⟩]) .skip))) (.ops false [⟨some 16,.mov (.tmp 9),none,[]⟩,⟨some 17,.bin .add (.tmp 16) (.const (.int .i64 1)),none,[]⟩,⟨some 9,.mov (.tmp 17),none,[]⟩])))
def dk40_0 : Keep := ⟨[],[0,4,7,8,9],[4,5]⟩
def dc40 : DFunc := ⟨30,3,[.tmp 6],.seq (.ops false [⟨some 4,.box 3 (.tmp 1),none,[]⟩,⟨some 5,.box 4 (.tmp 2),none,[]⟩,⟨some 6,.mov (.const (.int .i64 0)),none,[]⟩]) (.seq (.ops false [⟨some 7,.mov (.const (.int .i64 0)),none,[]⟩]) (.seq (.ops false [⟨some 10,.load (some 4) (.tmp 5),none,[]⟩,⟨some 11,.call (.func 116) [.tmp 10],none,[]⟩,⟨some 8,.mov (.tmp 11),none,[]⟩]) (.seq (.seq (.ops false [⟨some 9,.mov (.const (.int .i64 0)),none,[]⟩]) (.block 0 (some ⟨[],[7],[4,5]⟩) (.loop dk40_0 db40_0))) (.seq (.ops false [⟨some 29,.mov (.tmp 7),none,[]⟩,⟨some 6,.mov (.tmp 29),none,[]⟩]) .ret))))⟩
theorem dh40 : cProg Go.Proofs.Tryz.prog ⟨[(0, ⟨[], [0, 4, 7, 8, 9], [4, 5]⟩)], [(0, ⟨[], [7], [4, 5]⟩)], []⟩ 40 = some dc40 := by kernel_rfl
def db41_0 : DC := (.seq (.seq (.ops false [⟨some 9,.mov (.tmp 8),none,[]⟩,⟨some 10,.mov (.tmp 2),none,[]⟩,⟨some 11,.len (.tmp 10),none,[]⟩,⟨some 12,.bin .lss (.tmp 9) (.tmp 11),none,[]⟩]) (.cond (.tmp 12) .skip (.exit 0))) (.seq (.block 1 none (.ops true [⟨some 15,.mov (.tmp 7),none,[]⟩,⟨some 16,.mov (.tmp 0),none,[]⟩,⟨some 17,.load (some 3) (.tmp 4),none,[]⟩,⟨some 18,.mov (.tmp 2),none,[]⟩,⟨some 19,.mov (.tmp 8),none,[]⟩,⟨some 20,.iaddr 4 (.tmp 18) (.tmp 19),none,[3,4]⟩,⟨some 21,.load (some 4) (.tmp 20),none,[5,3,4]⟩,⟨some 22,.call (.func 40) [.tmp 16,.tmp 17,.tmp 21],none,[1,2,6,5,3,4]⟩,⟨some 23,.mov (.tmp 2),none,[]⟩,⟨some 24,.mov (.tmp 8),none,[]⟩,⟨some 25,.iaddr 4 (.tmp 23) (.tmp 24),none,[8,9]⟩,⟨some 26,.load (some 4) (.tmp 25),none,[10,8,9]⟩,⟨some 27,.call (.func 116) [.tmp 26],none,[11,10,8,9,7,1,2,6,5,3,4]⟩,⟨some 28,.len (.tmp 27),none,[12,11,10,8,9,7,1,2,6,5,3,4]⟩,⟨some 29,.call (.func 80) [.tmp 22,.tmp 28],none,[7,1,2,6,5,3,4,13,12,11,10,8,9]⟩,⟨some 30,.lit true 2 1 (.agg [.int .i64 0,.int .i64 0]) [(0,(.tmp 29))],none,[14,7,1,2,6,5,3,4,13,12,11,10,8,9]⟩,⟨some 31,.append false 2 (.tmp 15) (.tmp 30),none,[0,15,14,7,1,2,6,5,3,4,13,12,11,10,8,9]⟩,⟨some 7,.mov (.tmp 31),none,[16,0,15,14,7,1,2,6,5,3,4,13,12,11,10,8,9]⟩])) (.ops false [⟨some 13,.mov (.tmp 8),none,[]⟩,⟨some 14,.bin .add (.tmp 13) (.const (.int .i64 1)),none,[]⟩,⟨some 8,.mov (.tmp 14),none,[]⟩])))
def dk41_0 : Keep := ⟨[(7,2)],[0,2,4,7,8],[4,7]⟩
def dc41 : DFunc := ⟨33,3,[.tmp 6],.seq (.ops false [⟨some 4,.box 3 (.tmp 1),none,[]⟩,⟨some 6,.mov (.const (.slice none 0 0)),none,[]⟩]) (.seq (.ops false [⟨some 7,.mov (.const (.slice none 0 0)),none,[]⟩]) (.seq (.seq (.ops false [⟨some 8,.mov (.const (.int .i64 0)),none,[]⟩]) (.block 0 (some ⟨[],[7],[4,7]⟩) (.loop dk41_0 db41_0))) (.seq (.ops false [⟨some 32,.mov (.tmp 7),none,[]⟩,⟨some 6,.mov (.tmp 32),none,[]⟩]) .ret)))⟩
theorem dh41 : cProg Go.Proofs.Tryz.prog ⟨[(0, ⟨[(7, 2)], [0, 2, 4, 7, 8], [4, 7]⟩)], [(0, ⟨[], [7], [4, 7]⟩)], [30]⟩ 41 = some dc41 := by kernel_rfl
def db43_0 : DC := (.seq (.seq (.ops false [⟨some 11,.mov (.tmp 5),none,[]⟩,⟨some 12,.mov (.tmp 0),none,[]⟩,⟨some 13,.len (.tmp 12),none,[]⟩,⟨some 14,.bin .lss (.tmp 11) (.tmp 13),none,[]⟩]) (.cond (.tmp 14) .skip (.exit 0))) (.seq (.block 1 none (.seq (.ops true [⟨some 17,.mov (.tmp 0),none,[]⟩,⟨some 18,.mov (.tmp 5),none,[]⟩,⟨some 19,.iaddr 2 (.tmp 17) (.tmp 18),none,[0,1]⟩,⟨some 20,.load (some 2) (.tmp 19),none,[2,0,1]⟩,⟨some 21,.mov (.tmp 1),none,[]⟩,⟨some 22,.mov (.tmp 5),none,[]⟩,⟨some 23,.iaddr 2 (.tmp 21) (.tmp 22),none,[4,5]⟩,⟨some 24,.load (some 2) (.tmp 23),none,[6,4,5]⟩,⟨some 25,.eqA true [1,1] (.tmp 20) (.tmp 24),none,[3,2,0,1,7,6,4,5]⟩]) (.cond (.tmp 25) (.seq (.ops false [⟨some 4,.mov (.const (.bool false)),none,[]⟩]) .ret) .skip))) (.ops false [⟨some 15,.mov (.tmp 5),none,[]⟩,⟨some 16,.bin .add (.tmp 15) (.const (.int .i64 1)),none,[]⟩,⟨some 5,.mov (.tmp 16),none,[]⟩])))
def dk43_0 : Keep := ⟨[],[0,1,5],[]⟩
def dc43 : DFunc := ⟨26,2,[.tmp 4],.seq (.ops false [⟨some 4,.mov (.const (.bool false)),none,[]⟩]) (.seq (.seq (.ops false [⟨some 6,.mov (.tmp 0),none,[]⟩,⟨some 7,.len (.tmp 6),none,[]⟩,⟨some 8,.mov (.tmp 1),none,[]⟩,⟨some 9,.len (.tmp 8),none,[]⟩,⟨some 10,.bin .neq (.tmp 7) (.tmp 9),none,[]⟩]) (.cond (.tmp 10) (.seq (.ops false [⟨some 4,.mov (.const (.bool false)),none,[]⟩]) .ret) .skip)) (.seq (.seq (.ops false [⟨some 5,.mov (.const (.int .i64 0)),none,[]⟩]) (.block 0 (some ⟨[],[],[]⟩) (.loop dk43_0 db43_0))) (.seq (.ops false [⟨some 4,.mov (.const (.bool true)),none,[]⟩]) .ret)))⟩
theorem dh43 : cProg Go.Proofs.Tryz.prog ⟨[(0, ⟨[], [0, 1, 5], []⟩)], [(0, ⟨[], [], []⟩)], []⟩ 43 = some dc43 := by kernel_rfl
end Sh

set_option maxRecDepth 100000
set_option linter.unusedSimpArgs false
set_option linter.unusedVariables false
namespace Sh
open Go Go.Proofs
theorem q_When (b : Bool) (e : Int) : PC 95 [.bool b, DV.int .i64 (e)] (DV.int .i64 (whenE b e)) := by
 refine pureCall_ofR dh95 rfl ?_
 conv => whnf
 refine ⟨fun hb => ?_, fun hb => ?_⟩ <;> try (exact absurd hb (by decide))
 all_goals conv => whnf
 all_goals subst hb; rfl
theorem q_CheckRange (n l h : Int) : PC 96 [DV.int .i64 (n), DV.int .i64 (l), DV.int .i64 (h)] (DV.int .i64 (withE n l h)) := by
 refine pureCall_ofR dh96 rfl ?_
 conv => whnf
 refine ⟨fun hb => ?_, fun hb => ?_⟩ <;> try (exact absurd hb (by decide))
 all_goals conv => whnf
 ·refine .inl ?_
  conv => whnf
  refine ⟨_, q_When .., ?_⟩
  conv => whnf
  exact int_eq (by simp_all [withE, whenE]; split <;> split <;> omega)
 ·refine .inl ?_
  conv => whnf
  refine ⟨_, q_When .., ?_⟩
  conv => whnf
  exact int_eq (by simp_all [withE, whenE])
theorem q_First (l : List Int) (hl : l.length < 4611686018427387904) : PC 94 [iL l] (DV.int .i64 (firstE l)) := by
 refine pureCall_ofR dh94 rfl ?_
 conv => whnf
 refine dwp_loopR (P := Tryz.prog) (G := GC) (k := dk94_0) (b := db94_0) (α := Nat) (fun i => [(0, iL l), (3, DV.int .i64 (i))]) (fun _ => []) (fun i => i ≤ l.length ∧ firstE l = firstE (l.drop i)) (fun i => l.length - i) 0 ⟨rfl, rfl, rfl⟩ ⟨Nat.zero_le _, rfl⟩ ?_
 intro i ⟨h1, h2⟩
 conv => whnf
 refine ⟨fun hb => ?_, fun hb => ?_⟩ <;> try (exact absurd hb (by decide))
 ·have hi : i < l.length := by simpa using hb
  have hd := firstE_drop l i hi
  conv => whnf
  rw [getD_enc _ _ (i) 0 hi]
  refine ⟨idxA hi rfl, ?_⟩
  conv => whnf
  refine ⟨fun hb => ?_, fun hb => ?_⟩ <;> try (exact absurd hb (by decide))
  ·conv => whnf
   rw [getD_enc _ _ (i) 0 hi]
   refine ⟨idxA hi rfl, ?_⟩
   conv => whnf
   exact int_eq (by simp_all)
  ·conv => whnf
   rw [wrap_succ i (by omega)]
   exact ⟨i + 1, rfl, rfl, rfl, ⟨hi, by simp_all⟩, by omega⟩
 ·conv => whnf
  have : i = l.length := by simp at hb; omega
  subst this
  exact int_eq (by rw [h2]; simp [firstE])
end Sh

set_option linter.unusedSimpArgs false
set_option linter.unusedVariables false
namespace Sh
open Go
theorem nrmV_ref (s : List V3) : crsV (subV (s.getD 1 V0) (s.getD 0 V0)) (subV (s.getD 2 V0) (s.getD 0 V0)) = nrmV s := by
 unfold nrmV crsV subV
 simp only [V3.mk.injEq]
 refine ⟨?_, ?_, ?_⟩ <;> grind
end Sh

set_option linter.unusedSimpArgs false
set_option linter.unusedVariables false
namespace Sh
open Go
theorem hidng_nil (l : List (List V3)) (sun : V3) (p : Pt) : decide (((hidng l sun p l.length).length : Int) = 0) = !anyHid l sun p := by
 have key : ∀ k, k ≤ l.length → (hidng l sun p k = [] ↔ anyHid (l.take k) sun p = false) := by
  intro k
  induction k with
  |zero => intro _; simp [hidng, anyHid]
  |succ k ih =>
   intro hk
   have ih := ih (by omega)
   rw [hidng_succ]
   unfold anyHid at *
   rw [take_snoc l k [] (by omega), List.any_append, Bool.or_eq_false_iff, ← ih]
   simp only [List.any_cons, List.any_nil, Bool.or_false]
   cases hidB (l.getD k []) sun p <;> simp
 have h := key l.length (Nat.le_refl _)
 rw [List.take_length] at h
 cases ha : anyHid l sun p with
 |false => exact decide_eq_true (by rw [h.2 ha]; rfl)
 |true =>
  refine decide_eq_false (fun e => ?_)
  have : hidng l sun p l.length = [] := List.length_eq_zero_iff.1 (by omega)
  rw [h.1 this] at ha; cases ha
theorem hidng_first (l : List (List V3)) (sun : V3) (p : Pt) : ∀ k, k ≤ l.length → ∀ i, i < k → (((hidng l sun p k).length ≠ 0 ∧ (hidng l sun p k).getD 0 0 = (i : Int)) ↔ (anyHid (l.take i) sun p = false ∧ hidB (l.getD i []) sun p = true))
 |0, _, i, hi => by omega
 |k + 1, hk, i, hi => by
  have hn := hidng_nil (l.take k) sun p
  have hkl : (l.take k).length = k := by simp; omega
  have hsame : hidng (l.take k) sun p (l.take k).length = hidng l sun p k := by
   unfold hidng
   rw [hkl]
   congr 1
   refine List.filter_congr fun j hj => ?_
   have : j < k := List.mem_range.1 hj
   rw [show (l.take k).getD j [] = l.getD j [] by simp [List.getD_eq_getElem?_getD, List.getElem?_take, this]]
  rw [hsame] at hn
  rw [hidng_succ]
  by_cases he : hidng l sun p k = []
  ·rw [he] at hn ⊢
   have ha : anyHid (l.take k) sun p = false := by
    have := hn; simp at this; simpa using this
   have hbef : ∀ j, j < k → hidB (l.getD j []) sun p = false := fun j hj => by
    unfold anyHid at ha
    rw [List.any_eq_false] at ha
    have := ha ((l.take k).getD j []) (getD_in [] (by omega))
    rw [show (l.take k).getD j [] = l.getD j [] by simp [List.getD_eq_getElem?_getD, List.getElem?_take, hj]] at this
    simpa using this
   by_cases hik : i = k
   ·subst hik
    cases hh : hidB (l.getD i []) sun p with
    |true => simp [ha]
    |false => simp
   ·have := hbef i (by omega)
    rw [this]
    cases hh : hidB (l.getD k []) sun p with
    |true => simp; omega
    |false => simp
  ·have hlen : (hidng l sun p k).length ≠ 0 := fun h => he (List.length_eq_zero_iff.1 h)
   have hg : ∀ x, (hidng l sun p k ++ x).getD 0 0 = (hidng l sun p k).getD 0 0 := fun x => by
    cases hc : hidng l sun p k with
    |nil => exact absurd hc he
    |cons a r => rfl
   rw [hg, List.length_append]
   by_cases hik : i = k
   ·subst hik
    have ha : anyHid (l.take i) sun p = true := by
     cases ha : anyHid (l.take i) sun p with
     |true => rfl
     |false => rw [ha] at hn; have := of_decide_eq_true hn; omega
    rw [ha]
    have hlt : ∀ x ∈ hidng l sun p i, x < (i : Int) := fun x hx => by
     unfold hidng at hx
     obtain ⟨j, hj, rfl⟩ := List.mem_map.1 hx
     have := List.mem_range.1 (List.mem_filter.1 hj).1
     omega
    have := hlt _ (getD_in 0 (by omega : 0 < (hidng l sun p i).length))
    simp only [Bool.true_eq_false, false_and, iff_false, not_and]
    intro _; omega
   ·have ih := hidng_first l sun p k (by omega) i (by omega)
    rw [← ih]
    constructor
    ·rintro ⟨_, h⟩; exact ⟨hlen, h⟩
    ·rintro ⟨_, h⟩; exact ⟨by omega, h⟩
end Sh

set_option maxRecDepth 100000
set_option linter.unusedSimpArgs false
set_option linter.unusedVariables false
namespace Sh
open Go Go.Proofs
theorem r_less (a b : V3) (ha : bdV G9 a) (hb : bdV G9 b) : PC 101 [encV a, encV b] (encV (subV a b)) := by
 have e1 := sub_w ha.1 hb.1
 have e2 := sub_w ha.2.1 hb.2.1
 have e3 := sub_w ha.2.2 hb.2.2
 refine pureCall_ofR dh101 rfl ?_
 conv => whnf
 repeat' (first
  |(refine ⟨fun hg => ?_, fun hg => ?_⟩ <;> first | contradiction | (conv => whnf))
  |(refine Or.inl ?_; conv => whnf)
  |(refine And.intro ?_ ?_; kernel_rfl; conv => whnf))
 exact int3_eq e1 e2 e3
theorem r_dot (a b : V3) (ha : bdV G9 a) (hb : bdV G9 b) : PC 99 [encV a, encV b] (DV.int .i64 (dotV a b)) := by
 refine pureCall_ofR dh99 rfl ?_
 conv => whnf
 repeat' (first
  |(refine ⟨fun hg => ?_, fun hg => ?_⟩ <;> first | contradiction | (conv => whnf))
  |(refine Or.inl ?_; conv => whnf)
  |(refine And.intro ?_ ?_; kernel_rfl; conv => whnf))
 exact int_eq (dot_w ha hb)
theorem r_cross (a b : V3) (ha : bdV G9 a) (hb : bdV G9 b) : PC 102 [encV a, encV b] (encV (crsV a b)) := by
 refine pureCall_ofR dh102 rfl ?_
 conv => whnf
 repeat' (first
  |(refine ⟨fun hg => ?_, fun hg => ?_⟩ <;> first | contradiction | (conv => whnf))
  |(refine Or.inl ?_; conv => whnf)
  |(refine And.intro ?_ ?_; kernel_rfl; conv => whnf))
 exact int3_eq (crs_w ha.2.1 hb.2.2 ha.2.2 hb.2.1) (crs_w ha.2.2 hb.1 ha.1 hb.2.2) (crs_w ha.1 hb.2.1 ha.2.1 hb.1)
theorem r_sign (n : Int) : PC 100 [DV.int .i64 (n)] (DV.int .i64 (sgn n)) := by
 refine pureCall_ofR dh100 rfl ?_
 conv => whnf
 repeat' (first
  |(refine ⟨fun hg => ?_, fun hg => ?_⟩ <;> first | contradiction | (conv => whnf))
  |(refine Or.inl ?_; conv => whnf)
  |(refine And.intro ?_ ?_; kernel_rfl; conv => whnf))
 all_goals (refine int_eq ?_; unfold sgn; simp only [decide_eq_true_eq, decide_eq_false_iff_not, Bool.not_true, Bool.not_false, minmaxI, cond_false] at *; grind)
theorem r_CheckSun (v : V3) : PC 22 [encV v] (DV.int .i64 (chkSun v)) := by
 refine pureCall_ofR dh22 rfl ?_
 conv => whnf
 repeat' (first
  |(refine ⟨fun hg => ?_, fun hg => ?_⟩ <;> first | contradiction | (conv => whnf))
  |(refine Or.inl ?_; conv => whnf)
  |(refine ⟨_, q_CheckRange .., ?_⟩; conv => whnf)
  |(refine ⟨_, q_First [_, _, _] (by simp), ?_⟩; conv => whnf)
  |(refine And.intro ?_ ?_; kernel_rfl; conv => whnf))
 rfl
theorem r_CheckSpot (p : Pt) : PC 23 [encPt p] (DV.int .i64 (chkSpot p)) := by
 refine pureCall_ofR dh23 rfl ?_
 conv => whnf
 repeat' (first
  |(refine ⟨fun hg => ?_, fun hg => ?_⟩ <;> first | contradiction | (conv => whnf))
  |(refine Or.inl ?_; conv => whnf)
  |(refine ⟨_, q_CheckRange .., ?_⟩; conv => whnf)
  |(refine ⟨_, q_First [_, _] (by simp), ?_⟩; conv => whnf)
  |(refine And.intro ?_ ?_; kernel_rfl; conv => whnf))
 rfl
end Sh

set_option maxRecDepth 100000
set_option linter.unusedSimpArgs false
set_option linter.unusedVariables false
namespace Sh
open Go Go.Proofs
theorem r_normal (s : List V3) (h : OkS s) : PC 98 [shp s] (encV (nrmV s)) := by
 have h3 := h.1
 have b0 := h.at (i := 0) (by omega)
 have b1 := h.at (i := 1) (by omega)
 have b2 := h.at (i := 2) (by omega)
 have k1 := r_less (s.getD 1 V0) (s.getD 0 V0) (bd9 b1 (by decide)) (bd9 b0 (by decide))
 have k2 := r_less (s.getD 2 V0) (s.getD 0 V0) (bd9 b2 (by decide)) (bd9 b0 (by decide))
 have k3 := r_cross _ _ (bd9 (subV_bd b1 b0) (by decide)) (bd9 (subV_bd b2 b0) (by decide))
 refine pureCall_ofR dh98 rfl ?_
 conv => whnf
 repeat' (first
  |(refine ⟨fun hg => ?_, fun hg => ?_⟩ <;> first | contradiction | (conv => whnf))
  |(refine Or.inl ?_; conv => whnf)
  |(rw [getD_enc' _ _ 0 V0 (by decide) (by omega)]; refine ⟨idxB (by decide) (by omega) rfl, ?_⟩; conv => whnf)
  |(rw [getD_enc' _ _ 1 V0 (by decide) (by omega)]; refine ⟨idxB (by decide) (by omega) rfl, ?_⟩; conv => whnf)
  |(rw [getD_enc' _ _ 2 V0 (by decide) (by omega)]; refine ⟨idxB (by decide) (by omega) rfl, ?_⟩; conv => whnf)
  |(refine ⟨_, k1, ?_⟩; conv => whnf)
  |(refine ⟨_, k2, ?_⟩; conv => whnf)
  |(refine ⟨_, k3, ?_⟩; conv => whnf)
  |(refine And.intro ?_ ?_; kernel_rfl; conv => whnf))
 rw [nrmV_ref]; rfl
theorem mod_w2 (i n : Nat) (hn : 0 < n) (hi : i < 1000000000) : (IntKind.i64.wrap ((i : Int) + 2)).tmod (n : Int) = (((i + 2) % n : Nat) : Int) := mod_w i 2 n hn (by omega)
theorem r_convex (s : List V3) (h : OkS s) : PC 97 [shp s] (.bool (flat_ s)) := by
 have e0 : ((s.map encV).length : Int) = s.length := by simp
 have h3 := h.1
 have h6 := h.2.1
 have b0 := h.at (i := 0) (by omega)
 have hn := h.nrm
 refine pureCall_ofR dh97 rfl ?_
 conv => whnf
 repeat' (first
  |(refine ⟨fun hg => ?_, fun hg => ?_⟩ <;> first | contradiction | (conv => whnf))
  |(refine Or.inl ?_; conv => whnf)
  |(refine ⟨_, r_normal _ h, ?_⟩; conv => whnf)
  |(refine And.intro ?_ ?_; kernel_rfl; conv => whnf))
 refine dwp_loopU (P := Tryz.prog) (G := GC) (k := dk97_1) (b := db97_1) (α := Nat) (fun i => [(4, DV.int .i64 (i))]) (fun _ => [(3, .box 3 (encV (nrmV s)))]) (fun i => i ≤ s.length ∧ (List.range i).all (flatI s) = true) (fun i => s.length - i) 0 ⟨Nat.zero_le _, rfl⟩ ?_
 conv => whnf
 refine ⟨rfl, rfl, ?_⟩
 conv => whnf
 refine ⟨rfl, ?_⟩
 intro i ⟨h1, h2⟩
 conv => whnf
 refine ⟨fun hb => ?_, fun hb => ?_⟩
 ·have hi : i < s.length := by simpa using hb
  have bi := h.at hi
  have bs := h.side hi
  have bx := subV_bd (h.aft (i + 1)) (h.aft i)
  have e2 : s.getD ((i + 2) % s.length) V0 = aft s (i + 1) := rfl
  have e1 : s.getD ((i + 1) % s.length) V0 = aft s i := rfl
  have k3 := r_less (aft s i) (s.getD i V0) (bd9 (h.aft i) (by decide)) (bd9 bi (by decide))
  have k4 := r_less (aft s (i + 1)) (aft s i) (bd9 (h.aft (i + 1)) (by decide)) (bd9 (h.aft i) (by decide))
  have k5 := r_less (s.getD i V0) (s.getD 0 V0) (bd9 bi (by decide)) (bd9 b0 (by decide))
  have k6 := r_dot _ _ (bd9 hn (by decide)) (bd9 (subV_bd bi b0) (by decide))
  have k7 := r_cross _ _ (bd9 bs (by decide)) (bd9 bx (by decide))
  have k8 := r_dot _ _ (bd9 hn (by decide)) (bd9 (crsV_bd bs bx) (by decide))
  have hm1 := Nat.mod_lt (i + 1) (show 0 < s.length by omega)
  have hm2 := Nat.mod_lt (i + 2) (show 0 < s.length by omega)
  have hw1 := mod_w1 i s.length (by omega) (by omega)
  have hw2 := mod_w2 i s.length (by omega) (by omega)
  have hI : (List.range (i + 1)).all (flatI s) = flatI s i := by rw [List.range_succ, List.all_append, h2]; simp
  have hF : flatI s i = false → flat_ s = false := fun e => by
   unfold flat_
   rw [List.all_eq_false]
   exact ⟨i, List.mem_range.2 hi, by rw [e]; simp⟩
  clear hb
  conv => whnf
  rw [getD_enc _ _ (i) V0 hi]
  refine ⟨idxA hi rfl, ?_⟩
  conv => whnf
  rw [e0]
  refine ⟨by omega, ?_⟩
  conv => whnf
  rw [hw1]
  rw [getD_enc _ _ ((i + 1) % s.length) V0 hm1]
  refine ⟨idxA hm1 rfl, ?_⟩
  conv => whnf
  rw [e0]
  refine ⟨by omega, ?_⟩
  conv => whnf
  rw [hw2]
  rw [getD_enc _ _ ((i + 2) % s.length) V0 hm2]
  refine ⟨idxA hm2 rfl, ?_⟩
  conv => whnf
  rw [e1, e2]
  repeat' (first
   |(refine ⟨fun hg => ?_, fun hg => ?_⟩ <;> first | contradiction | (conv => whnf))
   |(refine Or.inl ?_; conv => whnf)
   |(refine ⟨_, k3, ?_⟩; conv => whnf)
   |(refine ⟨_, k4, ?_⟩; conv => whnf)
   |(rw [getD_enc' _ _ 0 V0 (by decide) (by omega)]; refine ⟨idxB (by decide) (by omega) rfl, ?_⟩; conv => whnf)
   |(refine ⟨_, k5, ?_⟩; conv => whnf)
   |(refine ⟨_, k6, ?_⟩; conv => whnf)
   |(refine ⟨_, k7, ?_⟩; conv => whnf)
   |(refine ⟨_, k8, ?_⟩; conv => whnf)
   |(refine And.intro ?_ ?_; kernel_rfl; conv => whnf))
  ·have hg := of_decide_eq_true (show decide (dotV (nrmV s) (crsV (sideV s i) (subV (aft s (i + 1)) (aft s i))) ≤ 0) = true from hg)
   show DV.bool false = DV.bool (flat_ s)
   rw [hF (by unfold flatI flatA; rw [decide_eq_false (by omega : ¬ 0 < dotV (nrmV s) (crsV (sideV s i) (subV (aft s (i + 1)) (aft s i)))), Bool.and_false, Bool.false_and])]
  ·have hg2 := of_decide_eq_false (show decide (dotV (nrmV s) (crsV (sideV s i) (subV (aft s (i + 1)) (aft s i))) ≤ 0) = false from hg)
   have hg1 := of_decide_eq_false ‹decide (dotV (nrmV s) (subV (s.getD i V0) (s.getD 0 V0)) ≠ 0) = false›
   have hA : flatA s i = true := by
    unfold flatA
    rw [decide_eq_true (Classical.not_not.1 hg1), decide_eq_true (by omega)]; rfl
   clear hg hg1 hg2
   refine dwp_loopU (P := Tryz.prog) (G := GC) (k := dk97_0) (b := db97_0) (α := Nat) (fun j => [(8, DV.int .i64 (j))]) (fun _ => [(3, .box 3 (encV (nrmV s))), (5, .box 3 (encV (s.getD i V0))), (6, .box 3 (encV (aft s i))), (7, .box 3 (encV (aft s (i + 1))))]) (fun j => j ≤ s.length ∧ (s.take j).all (flatK s i) = true) (fun j => s.length - j) 0 ⟨Nat.zero_le _, rfl⟩ ?_
   conv => whnf
   refine ⟨rfl, rfl, ?_⟩
   conv => whnf
   refine ⟨rfl, ?_⟩
   intro j ⟨j1, j2⟩
   conv => whnf
   refine ⟨fun hb => ?_, fun hb => ?_⟩
   ·have hj : j < s.length := by simpa using hb
    have bj := h.at hj
    have k9 := r_less (s.getD j V0) (s.getD i V0) (bd9 bj (by decide)) (bd9 bi (by decide))
    have k10 := r_cross _ _ (bd9 bs (by decide)) (bd9 (subV_bd bj bi) (by decide))
    have k11 := r_dot _ _ (bd9 hn (by decide)) (bd9 (crsV_bd bs (subV_bd bj bi)) (by decide))
    have hJ : (s.take (j + 1)).all (flatK s i) = flatK s i (s.getD j V0) := by rw [take_snoc s j V0 hj, List.all_append, j2]; simp
    clear hb
    conv => whnf
    repeat' (first
     |(refine ⟨fun hg => ?_, fun hg => ?_⟩ <;> first | contradiction | (conv => whnf))
     |(refine Or.inl ?_; conv => whnf)
     |(refine ⟨_, k3, ?_⟩; conv => whnf)
     |(rw [getD_enc _ _ j V0 hj]; refine ⟨idxA hj rfl, ?_⟩; conv => whnf)
     |(refine ⟨_, k9, ?_⟩; conv => whnf)
     |(refine ⟨_, k10, ?_⟩; conv => whnf)
     |(refine ⟨_, k11, ?_⟩; conv => whnf)
     |(refine And.intro ?_ ?_; kernel_rfl; conv => whnf))
    ·have hg := of_decide_eq_true hg
     show DV.bool false = DV.bool (flat_ s)
     rw [hF (by
      unfold flatI
      have : s.all (flatK s i) = false := by
       rw [List.all_eq_false]
       exact ⟨_, getD_in V0 hj, by unfold flatK; rw [decide_eq_false (by omega)]; simp⟩
      rw [this, Bool.and_false])]
    ·have hg := of_decide_eq_false hg
     rw [wrap_succ j (by omega)]
     exact ⟨j + 1, rfl, rfl, rfl, ⟨hj, by rw [hJ]; exact decide_eq_true (by omega)⟩, by omega⟩
   ·have hj : j = s.length := by have := of_decide_eq_false hb; rw [e0] at this; omega
    rw [hj, List.take_length] at j2
    clear hb
    conv => whnf
    rw [wrap_succ i (by omega)]
    exact ⟨i + 1, rfl, rfl, rfl, ⟨hi, by rw [hI]; unfold flatI; rw [hA, j2]; rfl⟩, by omega⟩
  ·have hg := of_decide_eq_true (show decide (dotV (nrmV s) (subV (s.getD i V0) (s.getD 0 V0)) ≠ 0) = true from ‹decide (dotV (nrmV s) (subV (s.getD i V0) (s.getD 0 V0)) ≠ 0) = !false›)
   show DV.bool false = DV.bool (flat_ s)
   rw [hF (by unfold flatI flatA; rw [decide_eq_false hg, Bool.false_and, Bool.false_and])]
 ·have hi : i = s.length := by have := of_decide_eq_false hb; rw [e0] at this; omega
  rw [hi] at h2
  clear hb
  conv => whnf
  show DV.bool true = DV.bool (flat_ s)
  rw [show flat_ s = true from h2]
end Sh

set_option maxRecDepth 100000
set_option linter.unusedSimpArgs false
set_option linter.unusedVariables false
namespace Sh
open Go Go.Proofs
theorem firstE_skip {a b : Int} (x : Int) (h : ¬ firstE [a, b] ≠ 0) : firstE [a, b, x] = x := by
 obtain ⟨h1, h⟩ := firstE_cons (Classical.not_not.1 h)
 obtain ⟨h2, _⟩ := firstE_cons h
 simp [firstE, h1, h2]
 intro h; exact h.symm
theorem firstE_keep {a b : Int} (x : Int) (h : firstE [a, b] ≠ 0) : firstE [a, b, x] = firstE [a, b] := by
 simp only [firstE] at *
 split
 ·rfl
 ·rename_i ha
  rw [if_neg ha] at h
  split
  ·rfl
  ·rename_i hb; rw [if_neg hb] at h; exact absurd rfl h
theorem map_getD {α : Type} (g : α → Int) (l : List α) (i : Nat) (d : α) (h : i < l.length) : (l.map g).getD i 0 = g (l.getD i d) := by simp [List.getD_eq_getElem?_getD, h]
theorem r_CheckShape (s : List V3) (hl : s.length < 1073741824) : PC 21 [shp s] (DV.int .i64 (chkShp s)) := by
 have e0 : ((s.map encV).length : Int) = s.length := by simp
 refine pureCall_ofR dh21 rfl ?_
 conv => whnf
 repeat' (first
  |(refine ⟨fun hg => ?_, fun hg => ?_⟩ <;> first | contradiction | (conv => whnf))
  |(refine Or.inl ?_; conv => whnf)
  |(refine ⟨_, q_When .., ?_⟩; conv => whnf)
  |(refine ⟨_, q_First [_, _] (by simp), ?_⟩; conv => whnf)
  |(refine And.intro ?_ ?_; kernel_rfl; conv => whnf))
 ·have hg := of_decide_eq_true hg
  rw [e0] at hg
  exact int_eq (by rw [e0]; unfold chkShp sizeS; rw [firstE_keep _ hg, if_pos hg])
 ·have hg := of_decide_eq_false hg
  rw [e0] at hg
  have hsz : sizeS s = firstE (s.map chkCor) := by unfold sizeS; rw [firstE_skip _ hg]
  refine dwp_loopU (P := Tryz.prog) (G := GC) (k := dk21_0) (b := db21_0) (α := Nat) (fun i => [(4, DV.int .i64 (i))]) (fun _ => []) (fun i => i ≤ s.length ∧ firstE (s.map chkCor) = firstE ((s.map chkCor).drop i)) (fun i => s.length - i) 0 ⟨Nat.zero_le _, rfl⟩ ?_
  conv => whnf
  refine ⟨rfl, rfl, ?_⟩
  conv => whnf
  refine ⟨rfl, ?_⟩
  intro i ⟨h1, h2⟩
  conv => whnf
  refine ⟨fun hb => ?_, fun hb => ?_⟩
  ·have hi : i < s.length := by simpa using hb
   have hd := firstE_drop (s.map chkCor) i (by rw [List.length_map]; exact hi)
   rw [map_getD chkCor s i V0 hi] at hd
   clear hb
   conv => whnf
   repeat' (first
    |(refine ⟨fun hg => ?_, fun hg => ?_⟩ <;> first | contradiction | (conv => whnf))
    |(refine Or.inl ?_; conv => whnf)
    |(rw [getD_enc _ _ i V0 hi]; refine ⟨idxA hi rfl, ?_⟩; conv => whnf)
    |(refine ⟨_, q_CheckRange .., ?_⟩; conv => whnf)
    |(refine ⟨_, q_First [_, _, _] (by simp), ?_⟩; conv => whnf)
    |(refine And.intro ?_ ?_; kernel_rfl; conv => whnf))
   ·have hg := of_decide_eq_true (show decide (chkCor (s.getD i V0) ≠ 0) = true from hg)
    rw [if_pos hg] at hd
    exact int_eq (by unfold chkShp; rw [hsz, h2, hd, if_pos hg]; rfl)
   ·have hg := of_decide_eq_false (show decide (chkCor (s.getD i V0) ≠ 0) = false from hg)
    rw [if_neg hg] at hd
    rw [wrap_succ i (by omega)]
    exact ⟨i + 1, rfl, rfl, rfl, ⟨hi, h2.trans hd⟩, by omega⟩
  ·have hi : i = s.length := by have := of_decide_eq_false hb; rw [e0] at this; omega
   rw [hi, List.drop_of_length_le (by rw [List.length_map]; exact Nat.le_refl _)] at h2
   have hz : sizeS s = 0 := hsz.trans h2
   clear hb
   conv => whnf
   repeat' (first
    |(refine ⟨fun hg => ?_, fun hg => ?_⟩ <;> first | contradiction | (conv => whnf))
    |(refine Or.inl ?_; conv => whnf)
    |(refine ⟨_, r_convex s (sizeS_zero hz), ?_⟩; conv => whnf)
    |(refine ⟨_, q_When .., ?_⟩; conv => whnf)
    |(refine And.intro ?_ ?_; kernel_rfl; conv => whnf))
   exact int_eq (by unfold chkShp; rw [if_neg (by omega)])
theorem r_CheckShapes (l : List (List V3)) (hl : l.length < 1073741824) (hs : ∀ s ∈ l, s.length < 1073741824) : PC 24 [shps l] (DV.int .i64 (chkShps l)) := by
 have e0 : ((l.map shp).length : Int) = l.length := by simp
 refine pureCall_ofR dh24 rfl ?_
 conv => whnf
 repeat' (first
  |(refine ⟨fun hg => ?_, fun hg => ?_⟩ <;> first | contradiction | (conv => whnf))
  |(refine Or.inl ?_; conv => whnf)
  |(refine And.intro ?_ ?_; kernel_rfl; conv => whnf))
 ·have hg := of_decide_eq_true hg
  exact int_eq (by unfold chkShps; rw [← e0, if_pos hg])
 ·have hgl := of_decide_eq_false hg
  rw [e0] at hgl
  refine dwp_loopU (P := Tryz.prog) (G := GC) (k := dk24_0) (b := db24_0) (α := Nat) (fun i => [(3, DV.int .i64 (i))]) (fun _ => []) (fun i => i ≤ l.length ∧ firstE (l.map chkShp) = firstE ((l.map chkShp).drop i)) (fun i => l.length - i) 0 ⟨Nat.zero_le _, rfl⟩ ?_
  conv => whnf
  refine ⟨rfl, rfl, ?_⟩
  conv => whnf
  refine ⟨rfl, ?_⟩
  intro i ⟨h1, h2⟩
  conv => whnf
  refine ⟨fun hb => ?_, fun hb => ?_⟩
  ·have hi : i < l.length := by simpa using hb
   have hd := firstE_drop (l.map chkShp) i (by rw [List.length_map]; exact hi)
   rw [map_getD chkShp l i [] hi] at hd
   clear hb
   conv => whnf
   rw [getD_enc _ _ (i) [] hi]
   refine ⟨idxA hi rfl, ?_⟩
   conv => whnf
   repeat' (first
    |(refine ⟨fun hg => ?_, fun hg => ?_⟩ <;> first | contradiction | (conv => whnf))
    |(refine Or.inl ?_; conv => whnf)
    |(refine ⟨_, r_CheckShape _ (hs _ (getD_in [] hi)), ?_⟩; conv => whnf)
    |(refine And.intro ?_ ?_; kernel_rfl; conv => whnf))
   ·have hg2 := of_decide_eq_true ‹decide (chkShp (l.getD i []) ≠ 0) = true›
    rw [if_pos hg2] at hd
    exact int_eq (by unfold chkShps; rw [if_neg hgl, h2, hd])
   ·have hg2 := of_decide_eq_false ‹decide (chkShp (l.getD i []) ≠ 0) = false›
    rw [if_neg hg2] at hd
    rw [wrap_succ i (by omega)]
    exact ⟨i + 1, rfl, rfl, rfl, ⟨hi, h2.trans hd⟩, by omega⟩
  ·have hi : i = l.length := by have := of_decide_eq_false hb; rw [e0] at this; omega
   rw [hi, List.drop_of_length_le (by rw [List.length_map]; exact Nat.le_refl _)] at h2
   conv => whnf
   exact int_eq (by unfold chkShps; rw [if_neg hgl, h2]; rfl)
end Sh

set_option maxRecDepth 100000
set_option linter.unusedSimpArgs false
set_option linter.unusedVariables false
namespace Sh
open Go Go.Proofs
def abU (s : List V3) (sun : V3) (p : Pt) (i : Nat) : Bool := (rng i (turnV s sun p)).any fun n => decide (0 < n)
def blU (s : List V3) (sun : V3) (p : Pt) (i : Nat) : Bool := (rng i (turnV s sun p)).any fun n => decide (n < 0)
theorem abU_succ (s : List V3) (sun : V3) (p : Pt) (i : Nat) : abU s sun p (i + 1) = (abU s sun p i || decide (0 < turnV s sun p i)) := by unfold abU; rw [rng_succ, List.any_append]; simp
theorem blU_succ (s : List V3) (sun : V3) (p : Pt) (i : Nat) : blU s sun p (i + 1) = (blU s sun p i || decide (turnV s sun p i < 0)) := by unfold blU; rw [rng_succ, List.any_append]; simp
theorem abU_all (s : List V3) (sun : V3) (p : Pt) : (!abU s sun p s.length) = (turnsL s sun p).all fun n => decide (n ≤ 0) := by
 unfold abU turnsL
 rw [List.not_any_eq_all_not]
 congr 1; funext n
 rw [← decide_not]; exact decide_eq_decide.2 (by omega)
theorem blU_all (s : List V3) (sun : V3) (p : Pt) : (!blU s sun p s.length) = (turnsL s sun p).all fun n => decide (0 ≤ n) := by
 unfold blU turnsL
 rw [List.not_any_eq_all_not]
 congr 1; funext n
 rw [← decide_not]; exact decide_eq_decide.2 (by omega)
theorem r_Hides (s : List V3) (sun : V3) (p : Pt) (hs : OkS s) (hu : bdV 1000 sun) (hp : (-1000 ≤ p.x ∧ p.x ≤ 1000) ∧ (-1000 ≤ p.y ∧ p.y ≤ 1000)) : PC 25 [shp s, encV sun, encPt p] (.bool (hidB s sun p)) := by
 have e0 : ((s.map encV).length : Int) = s.length := by simp
 have h3 := hs.1
 have h6 := hs.2.1
 have hg9 := gnd_bd hp
 have b0 := hs.at (i := 0) (by omega)
 have hn := hs.nrm
 have k1 := r_dot _ _ (bd9 hn (by decide)) (bd9 hu (by decide))
 have k2 := r_less _ _ (bd9 b0 (by decide)) (bd9 hg9 (by decide))
 have k3 := r_dot _ _ (bd9 hn (by decide)) (bd9 (subV_bd b0 hg9) (by decide))
 have hX0 : sgn (dotV (nrmV s) sun) ≠ 0 ↔ dotV (nrmV s) sun ≠ 0 := by unfold sgn; split <;> (try split) <;> omega
 have hfr : frontB s sun p = (decide (sgn (dotV (nrmV s) sun) ≠ 0) && decide (sgn (dotV (nrmV s) sun) = sgn (dotV (nrmV s) (subV (s.getD 0 V0) (gndV p))))) := rfl
 have hhb : hidB s sun p = (frontB s sun p && ((turnsL s sun p).all (fun n => decide (n ≤ 0)) || (turnsL s sun p).all (fun n => decide (0 ≤ n)))) := rfl
 have k4 := r_sign (dotV (nrmV s) sun)
 have k5 := r_sign (dotV (nrmV s) (subV (s.getD 0 V0) (gndV p)))
 generalize sgn (dotV (nrmV s) sun) = X at *
 generalize sgn (dotV (nrmV s) (subV (s.getD 0 V0) (gndV p))) = Y at *
 generalize hD : dotV (nrmV s) sun = D at *
 refine pureCall_ofR dh25 rfl ?_
 conv => whnf
 repeat' (first
  |(refine ⟨fun hg => ?_, fun hg => ?_⟩ <;> first | contradiction | (conv => whnf))
  |(refine Or.inl ?_; conv => whnf)
  |(refine ⟨_, r_normal _ hs, ?_⟩; conv => whnf)
  |(refine ⟨_, k1, ?_⟩; conv => whnf)
  |(refine ⟨_, k4, ?_⟩; conv => whnf)
  |(rw [getD_enc' _ _ 0 V0 (by decide) (by omega)]; refine ⟨idxB (by decide) (by omega) rfl, ?_⟩; conv => whnf)
  |(refine ⟨_, k2, ?_⟩; conv => whnf)
  |(refine ⟨_, k3, ?_⟩; conv => whnf)
  |(refine ⟨_, k5, ?_⟩; conv => whnf)
  |(refine And.intro ?_ ?_; kernel_rfl; conv => whnf))
 ·show DV.bool false = _
  rw [hhb, hfr]
  have : X ≠ Y := by simpa using hg
  simp [this]
 ·have hf : frontB s sun p = true := by
   rw [hfr]
   have e1 : X = Y := by simpa using hg
   have e2 : D ≠ 0 := by simpa using ‹decide (D = 0) = false›
   simp [← e1, hX0.2 e2]
  rw [hf, Bool.true_and, ← abU_all, ← blU_all] at hhb
  clear hfr k1 k2 k3 k4 k5 hX0
  refine dwp_loopU (P := Tryz.prog) (G := GC) (k := dk25_0) (b := db25_0) (α := Nat) (fun i => [(9, .bool (abU s sun p i)), (10, .bool (blU s sun p i)), (11, DV.int .i64 (i))]) (fun _ => [(4, .box 3 (encV sun)), (5, .box 2 (encPt p)), (7, .box 3 (encV (gndV p))), (8, .box 3 (encV (nrmV s)))]) (fun i => i ≤ s.length) (fun i => s.length - i) 0 (Nat.zero_le _) ?_
  conv => whnf
  refine ⟨rfl, rfl, ?_⟩
  conv => whnf
  refine ⟨rfl, ?_⟩
  intro i h1
  conv => whnf
  refine ⟨fun hb => ?_, fun hb => ?_⟩
  ·have hi : i < s.length := by simpa using hb
   have bi := hs.at hi
   have ba := hs.aft i
   have hm1 := Nat.mod_lt (i + 1) (show 0 < s.length by omega)
   have hw1 := mod_w1 i s.length (by omega) (by omega)
   have e1 : s.getD ((i + 1) % s.length) V0 = aft s i := rfl
   have j1 := r_less _ _ (bd9 bi (by decide)) (bd9 hg9 (by decide))
   have j2 := r_less _ _ (bd9 ba (by decide)) (bd9 hg9 (by decide))
   have j3 := r_cross _ _ (bd9 (subV_bd bi hg9) (by decide)) (bd9 (subV_bd ba hg9) (by decide))
   have j4 := r_dot _ _ (bd9 hu (by decide)) (bd9 (crsV_bd (subV_bd bi hg9) (subV_bd ba hg9)) (by decide))
   clear hb
   conv => whnf
   rw [getD_enc _ _ (i) V0 hi]
   refine ⟨idxA hi rfl, ?_⟩
   conv => whnf
   repeat' (first
    |(refine ⟨fun hg => ?_, fun hg => ?_⟩ <;> first | contradiction | (conv => whnf))
    |(refine Or.inl ?_; conv => whnf)
    |(refine ⟨_, j1 .., ?_⟩; conv => whnf)
    |(refine And.intro ?_ ?_; kernel_rfl; conv => whnf))
   rw [e0]
   refine ⟨by omega, ?_⟩
   conv => whnf
   rw [hw1]
   rw [getD_enc _ _ ((i + 1) % s.length) V0 hm1]
   refine ⟨idxA hm1 rfl, ?_⟩
   conv => whnf
   rw [e1]
   repeat' (first
    |(refine ⟨fun hg => ?_, fun hg => ?_⟩ <;> first | contradiction | (conv => whnf))
    |(refine Or.inl ?_; conv => whnf)
    |(refine ⟨_, j2 .., ?_⟩; conv => whnf)
    |(refine ⟨_, j3 .., ?_⟩; conv => whnf)
    |(refine ⟨_, j4 .., ?_⟩; conv => whnf)
    |(refine And.intro ?_ ?_; kernel_rfl; conv => whnf))
   all_goals
    rw [wrap_succ i (by omega)]
    refine ⟨i + 1, rfl, ?_, rfl, hi, by omega⟩
    rw [abU_succ, blU_succ]
    first
     |rw [‹abU s sun p i = true›]
     |rw [‹abU s sun p i = false›]
    first
     |rw [‹blU s sun p i = true›]
     |rw [‹blU s sun p i = false›]
    rfl
  ·have hi : i = s.length := by have := of_decide_eq_false hb; rw [e0] at this; omega
   clear hb
   conv => whnf
   rw [hi]
   repeat' (first
    |(refine ⟨fun hg => ?_, fun hg => ?_⟩ <;> first | contradiction | (conv => whnf))
    |(refine Or.inl ?_; conv => whnf)
    |(refine And.intro ?_ ?_; kernel_rfl; conv => whnf))
   all_goals
    rw [hhb]
    first
     |rw [‹(!abU s sun p s.length) = true›]
     |rw [‹(!abU s sun p s.length) = false›]
    rfl
 ·show DV.bool false = _
  have hd : D = 0 := of_decide_eq_true ‹decide (D = 0) = true›
  have : X = 0 := Classical.byContradiction fun e => hX0.1 e hd
  rw [hhb, hfr]
  simp [this]
end Sh

set_option maxRecDepth 100000
set_option linter.unusedSimpArgs false
set_option linter.unusedVariables false
namespace Sh
open Go Go.Proofs
theorem r_Hiding (l : List (List V3)) (sun : V3) (p : Pt) (h8 : l.length ≤ 8) (h1 : ∀ s ∈ l, OkS s) (h2 : bdV 1000 sun) (h3 : (-1000 ≤ p.x ∧ p.x ≤ 1000) ∧ (-1000 ≤ p.y ∧ p.y ≤ 1000)) : PC 26 [shps l, encV sun, encPt p] (iL (hidng l sun p l.length)) := by
 have e0 : ((l.map shp).length : Int) = l.length := by simp
 refine pureCall_ofR dh26 rfl ?_
 conv => whnf
 refine dwp_loopU (P := Tryz.prog) (G := GC) (k := dk26_0) (b := db26_0) (α := Nat) (fun i => [(7, .own 7 0 (hdR l sun p i).length (hdR l sun p i).length), (8, DV.int .i64 (i))]) (fun i => [(4, .box 3 (encV sun)), (5, .box 2 (encPt p)), (7, .row 1 (hdR l sun p i) false)]) (fun i => i ≤ l.length) (fun i => l.length - i) 0 (Nat.zero_le _) ?_
 conv => whnf
 refine ⟨rfl, rfl, ?_⟩
 conv => whnf
 refine ⟨rfl, ?_⟩
 intro i j1
 conv => whnf
 refine ⟨fun hb => ?_, fun hb => ?_⟩
 ·have hi : i < l.length := by simpa using hb
  have k5 := r_Hides _ sun p (h1 _ (getD_in [] hi)) h2 h3
  have hln := hdR_len l sun p i
  clear hb
  conv => whnf
  rw [getD_enc _ _ (i) [] hi]
  refine ⟨idxA hi rfl, ?_⟩
  conv => whnf
  repeat' (first
   |(refine ⟨fun hg => ?_, fun hg => ?_⟩ <;> first | contradiction | (conv => whnf))
   |(refine Or.inl ?_; conv => whnf)
   |(refine ⟨_, k5, ?_⟩; conv => whnf)
   |(refine ⟨⟨rfl, rfl, rfl, by simp; omega, fun e he => by simp at he; subst he; rfl⟩, ?_⟩; conv => whnf)
   |(refine And.intro ?_ ?_; kernel_rfl; conv => whnf))
  ·rw [wrap_succ i (by omega)]
   refine ⟨i + 1, rfl, ?_, ?_, hi, by omega⟩
   ·rw [hdR_yes hg]; rfl
   ·rw [hdR_yes hg]; rfl
  ·rw [wrap_succ i (by omega)]
   refine ⟨i + 1, rfl, ?_, ?_, hi, by omega⟩
   ·rw [hdR_no hg]; rfl
   ·rw [hdR_no hg]; rfl
 ·have hi : i = l.length := by have := of_decide_eq_false hb; rw [e0] at this; omega
  clear hb
  conv => whnf
  exact ⟨rfl, by rw [window_full, hi]; rfl⟩
end Sh

set_option maxRecDepth 100000
set_option linter.unusedSimpArgs false
set_option linter.unusedVariables false
namespace Sh
open Go Go.Proofs
theorem firstE_two {a b x y : Int} (h : firstE [a, b] = 0) : firstE [a, b, x] = x ∧ firstE [x, y] = if x ≠ 0 then x else y := by
 obtain ⟨h1, h⟩ := firstE_cons h
 obtain ⟨h2, h⟩ := firstE_cons h
 subst h1 h2
 simp only [firstE]
 refine ⟨?_, ?_⟩
 ·by_cases e : x = 0 <;> simp [e]
 ·by_cases e : y = 0 <;> simp [e]
theorem r_CheckCell (c : Bx) : PC 36 [encB c] (DV.int .i64 (chkBx c)) := by
 have k1 := r_CheckSpot c.f
 have k2 := r_CheckSpot c.t
 have hs : spanE c = whenE (decide (c.t.x ≤ c.f.x) || decide (c.t.y ≤ c.f.y)) 14 := rfl
 refine pureCall_ofR dh36 rfl ?_
 conv => whnf
 repeat' (first
  |(refine ⟨fun hg => ?_, fun hg => ?_⟩ <;> first | contradiction | (conv => whnf))
  |(refine Or.inl ?_; conv => whnf)
  |(refine ⟨_, k1, ?_⟩; conv => whnf)
  |(refine ⟨_, k2, ?_⟩; conv => whnf)
  |(refine ⟨_, q_When .., ?_⟩; conv => whnf)
  |(refine ⟨_, q_First [_, _] (by simp), ?_⟩; conv => whnf)
  |(refine And.intro ?_ ?_; kernel_rfl; conv => whnf))
 ·have hg := of_decide_eq_true hg
  exact int_eq (by
   have h : frstB c = firstE [chkSpot c.f, chkSpot c.t] := firstE_keep _ hg
   unfold chkBx; rw [h, if_pos hg])
 all_goals
  first
   |rw [‹decide (c.t.x ≤ c.f.x) = false›, Bool.false_or] at hs
   |rw [show decide (c.t.x ≤ c.f.x) = true from ‹_›, Bool.true_or] at hs
  have hg := Classical.not_not.1 (of_decide_eq_false (show decide (firstE [chkSpot c.f, chkSpot c.t] ≠ 0) = false from ‹_›))
  obtain ⟨h1, h2⟩ := firstE_cons hg
  obtain ⟨h2, _⟩ := firstE_cons h2
  have hw := sz_w (chkSpot_zero h1) (chkSpot_zero h2)
  refine int_eq ?_
  rw [show chkBx c = if frstB c ≠ 0 then frstB c else whenE (decide (256 < sizeB c)) 5 from rfl, show frstB c = spanE c from (firstE_two (x := spanE c) (y := 0) hg).1, hs, ← hw]
  exact (firstE_two hg).2
end Sh

set_option maxRecDepth 100000
set_option linter.unusedSimpArgs false
set_option linter.unusedVariables false
namespace Sh
open Go Go.Proofs
def spL (c : Bx) (j i : Nat) : List Pt := ((List.range j).flatMap fun j => rowB c j 0) ++ (List.range i).map (spotB c j)
theorem spL_succ (c : Bx) (j i : Nat) : spL c j (i + 1) = spL c j i ++ [spotB c j i] := by unfold spL; rw [List.range_succ, List.map_append, List.append_assoc]; rfl
theorem spL_row (c : Bx) (j : Nat) : spL c j (wB c) = spL c (j + 1) 0 := by
 unfold spL
 rw [List.range_succ, List.flatMap_append]
 simp [rowB, List.range_eq_range']
theorem spL_all (c : Bx) : spL c (hB c) 0 = spotsL c := by
 unfold spL spotsL restB
 simp [List.range_eq_range']
theorem spL_len (c : Bx) (j i : Nat) : (spL c j i).length = j * wB c + i := by
 have : ∀ j, ((List.range j).flatMap fun j => rowB c j 0).length = j * wB c := fun j => by
  induction j with
  |zero => simp
  |succ j ih => rw [List.range_succ, List.flatMap_append, List.length_append, ih, Nat.succ_mul]; simp [rowB_len]
 unfold spL
 rw [List.length_append, this]; simp
def spR (c : Bx) (j i : Nat) : List DV := (spL c j i).map encPt
theorem spR_succ (c : Bx) (j i : Nat) : spR c j (i + 1) = spR c j i ++ [.agg [DV.int .i64 (c.f.x + i), DV.int .i64 (c.f.y + j)]] := by unfold spR; rw [spL_succ, List.map_append]; rfl
theorem r_spots (c : Bx) (h : OkB c) : PC 116 [encB c] (pts (spotsL c)) := by
 obtain ⟨ew, eh, lw, lh⟩ := h.hw
 have hx0 := h.x0; have hx1 := h.x1; have hy0 := h.y0; have hy1 := h.y1
 have zY : c.f.y + ((0 : Nat) : Int) = c.f.y := Int.add_zero _
 have zX : c.f.x + ((0 : Nat) : Int) = c.f.x := Int.add_zero _
 refine pureCall_ofR dh116 rfl ?_
 conv => whnf
 refine dwp_loopU (P := Tryz.prog) (G := GC) (k := dk116_1) (b := db116_1) (α := Nat) (fun j => [(3, .own 3 0 (spR c j 0).length (spR c j 0).length), (4, DV.int .i64 (c.f.y + j))]) (fun j => [(1, .box 4 (encB c)), (3, .row 2 (spR c j 0) false)]) (fun j => j ≤ hB c) (fun j => hB c - j) 0 (Nat.zero_le _) ?_
 conv => whnf
 refine ⟨rfl, rfl, ?_⟩
 conv => whnf
 refine ⟨by rw [zY]; rfl, ?_⟩
 intro j j1
 conv => whnf
 refine ⟨fun hb => ?_, fun hb => ?_⟩
 ·have hj : j < hB c := by have := of_decide_eq_true hb; omega
  clear hb
  conv => whnf
  refine dwp_loopU (P := Tryz.prog) (G := GC) (k := dk116_0) (b := db116_0) (α := Nat) (fun i => [(3, .own 3 0 (spR c j i).length (spR c j i).length), (5, DV.int .i64 (c.f.x + i))]) (fun i => [(1, .box 4 (encB c)), (3, .row 2 (spR c j i) false)]) (fun i => i ≤ wB c) (fun i => wB c - i) 0 (Nat.zero_le _) ?_
  conv => whnf
  refine ⟨rfl, rfl, ?_⟩
  conv => whnf
  refine ⟨by rw [zX]; rfl, ?_⟩
  intro i i1
  conv => whnf
  refine ⟨fun hb => ?_, fun hb => ?_⟩
  ·have hi : i < wB c := by have := of_decide_eq_true hb; omega
   have hln : (spR c j i).length ≤ 4004000 := by
    unfold spR; rw [List.length_map, spL_len]
    have := Nat.mul_le_mul (show j ≤ 2000 by omega) lw
    omega
   clear hb
   conv => whnf
   repeat' (first
    |(refine ⟨fun hg => ?_, fun hg => ?_⟩ <;> first | contradiction | (conv => whnf))
    |(refine Or.inl ?_; conv => whnf)
    |(refine ⟨⟨rfl, rfl, rfl, by simp; omega, fun e he => by simp at he; subst he; rfl⟩, ?_⟩; conv => whnf)
    |(refine And.intro ?_ ?_; kernel_rfl; conv => whnf))
   rw [wrap_off i (by omega) (by omega)]
   refine ⟨i + 1, rfl, ?_, ?_, hi, by omega⟩
   ·rw [spR_succ]; rfl
   ·rw [spR_succ]; rfl
  ·have hi : i = wB c := by have := of_decide_eq_false hb; omega
   clear hb
   conv => whnf
   rw [wrap_off j (by omega) (by omega), hi]
   have e : spR c j (wB c) = spR c (j + 1) 0 := by unfold spR; rw [spL_row]
   rw [e]
   exact ⟨j + 1, rfl, rfl, rfl, hj, by omega⟩
 ·have hj : j = hB c := by have := of_decide_eq_false hb; omega
  clear hb
  conv => whnf
  have e : spR c (hB c) 0 = (spotsL c).map encPt := by unfold spR; rw [spL_all]
  exact ⟨rfl, by rw [window_full, hj, e]; rfl⟩
theorem r_Shadow (s : List V3) (sun : V3) (c : Bx) (h1 : OkS s) (h2 : bdV 1000 sun) (h3 : OkB c) : PC 38 [shp s, encV sun, encB c] (pts (shdL s sun (spotsL c))) := by
 have k1 := r_spots c h3
 have hn := h3.spN
 have hsp : ∀ p ∈ spotsL c, (-1000 ≤ p.x ∧ p.x ≤ 1000) ∧ (-1000 ≤ p.y ∧ p.y ≤ 1000) := fun p hp => h3.spot hp
 generalize spotsL c = ps at *
 have e0 : ((ps.map encPt).length : Int) = ps.length := by simp
 refine pureCall_ofR dh38 rfl ?_
 conv => whnf
 repeat' (first
  |(refine ⟨fun hg => ?_, fun hg => ?_⟩ <;> first | contradiction | (conv => whnf))
  |(refine Or.inl ?_; conv => whnf)
  |(refine ⟨_, k1, ?_⟩; conv => whnf)
  |(refine And.intro ?_ ?_; kernel_rfl; conv => whnf))
 refine dwp_loopU (P := Tryz.prog) (G := GC) (k := dk38_0) (b := db38_0) (α := Nat) (fun i => [(7, .own 7 0 (shR s sun ps i).length (shR s sun ps i).length), (9, DV.int .i64 (i))]) (fun i => [(4, .box 3 (encV sun)), (5, .box 4 (encB c)), (7, .row 2 (shR s sun ps i) false)]) (fun i => i ≤ ps.length) (fun i => ps.length - i) 0 (Nat.zero_le _) ?_
 conv => whnf
 refine ⟨rfl, rfl, ?_⟩
 conv => whnf
 refine ⟨rfl, ?_⟩
 intro i j1
 conv => whnf
 refine ⟨fun hb => ?_, fun hb => ?_⟩
 ·have hi : i < ps.length := by simpa using hb
  have k5 := r_Hides s sun _ h1 h2 (hsp _ (getD_in P0 hi))
  have hln := shR_len s sun ps i
  clear hb
  conv => whnf
  rw [getD_enc _ _ (i) P0 hi]
  refine ⟨idxA hi rfl, ?_⟩
  conv => whnf
  repeat' (first
   |(refine ⟨fun hg => ?_, fun hg => ?_⟩ <;> first | contradiction | (conv => whnf))
   |(refine Or.inl ?_; conv => whnf)
   |(refine ⟨_, k5, ?_⟩; conv => whnf)
   |(rw [getD_enc _ _ i P0 hi]; refine ⟨idxA hi rfl, ?_⟩; conv => whnf)
   |(refine ⟨⟨rfl, rfl, rfl, by simp; omega, fun e he => by simp at he; subst he; rfl⟩, ?_⟩; conv => whnf)
   |(refine And.intro ?_ ?_; kernel_rfl; conv => whnf))
  ·rw [wrap_succ i (by omega)]
   refine ⟨i + 1, rfl, ?_, ?_, hi, by omega⟩
   ·rw [shR_yes hi hg]; rfl
   ·rw [shR_yes hi hg]; rfl
  ·rw [wrap_succ i (by omega)]
   refine ⟨i + 1, rfl, ?_, ?_, hi, by omega⟩
   ·rw [shR_no hi hg]; rfl
   ·rw [shR_no hi hg]; rfl
 ·have hi : i = ps.length := by have := of_decide_eq_false hb; rw [e0] at this; omega
  clear hb
  conv => whnf
  exact ⟨rfl, by rw [window_full, hi]; unfold shR; rw [List.take_length]; rfl⟩
end Sh

set_option maxRecDepth 100000
set_option linter.unusedSimpArgs false
set_option linter.unusedVariables false
namespace Sh
open Go Go.Proofs
theorem r_Light (l : List (List V3)) (sun : V3) (c : Bx) (h8 : l.length ≤ 8) (h1 : ∀ s ∈ l, OkS s) (h2 : bdV 1000 sun) (h3 : OkB c) : PC 40 [shps l, encV sun, encB c] (DV.int .i64 (lightS l sun c)) := by
 have k1 := r_spots c h3
 have hn := h3.spN
 have hsp : ∀ p ∈ spotsL c, (-1000 ≤ p.x ∧ p.x ≤ 1000) ∧ (-1000 ≤ p.y ∧ p.y ≤ 1000) := fun p hp => h3.spot hp
 unfold lightS
 generalize spotsL c = ps at *
 have e0 : ((ps.map encPt).length : Int) = ps.length := by simp
 refine pureCall_ofR dh40 rfl ?_
 conv => whnf
 repeat' (first
  |(refine ⟨fun hg => ?_, fun hg => ?_⟩ <;> first | contradiction | (conv => whnf))
  |(refine Or.inl ?_; conv => whnf)
  |(refine ⟨_, k1, ?_⟩; conv => whnf)
  |(refine And.intro ?_ ?_; kernel_rfl; conv => whnf))
 refine dwp_loopU (P := Tryz.prog) (G := GC) (k := dk40_0) (b := db40_0) (α := Nat) (fun i => [(7, DV.int .i64 (ltN l sun ps i)), (9, DV.int .i64 (i))]) (fun i => [(4, .box 3 (encV sun)), (5, .box 4 (encB c))]) (fun i => i ≤ ps.length) (fun i => ps.length - i) 0 (Nat.zero_le _) ?_
 conv => whnf
 refine ⟨rfl, rfl, ?_⟩
 conv => whnf
 refine ⟨rfl, ?_⟩
 intro i j1
 conv => whnf
 refine ⟨fun hb => ?_, fun hb => ?_⟩
 ·have hi : i < ps.length := by simpa using hb
  have k5 := r_Hiding l sun _ h8 h1 h2 (hsp _ (getD_in P0 hi))
  have hln := ltN_bd l sun ps i
  have hz := hidng_nil l sun (ps.getD i P0)
  have hs := ltN_succ (l := l) (sun := sun) hi
  have el : (((hidng l sun (ps.getD i P0) l.length).map (DV.int .i64)).length : Int) = (hidng l sun (ps.getD i P0) l.length).length := by rw [List.length_map]
  clear hb
  conv => whnf
  rw [getD_enc _ _ (i) P0 hi]
  refine ⟨idxA hi rfl, ?_⟩
  conv => whnf
  repeat' (first
   |(refine ⟨fun hg => ?_, fun hg => ?_⟩ <;> first | contradiction | (conv => whnf))
   |(refine Or.inl ?_; conv => whnf)
   |(refine ⟨_, k5, ?_⟩; conv => whnf)
   |(refine And.intro ?_ ?_; kernel_rfl; conv => whnf))
  all_goals
   rw [el] at hg
   have ha : anyHid l sun (ps.getD i P0) = !_ := (Bool.not_not _).symm.trans (congrArg not (hz.symm.trans hg))
   rw [ha] at hs
   rw [wrap_succ i (by omega)]
  ·rw [wrap_in (by omega) (by omega)]
   refine ⟨i + 1, rfl, ?_, rfl, hi, by omega⟩
   rw [hs]; rfl
  ·refine ⟨i + 1, rfl, ?_, rfl, hi, by omega⟩
   rw [hs, show (ltN l sun ps i + if (!false) = true then 0 else 1) = ltN l sun ps i from Int.add_zero _]; rfl
 ·have hi : i = ps.length := by have := of_decide_eq_false hb; rw [e0] at this; omega
  clear hb
  conv => whnf
  rw [hi]
  exact int_eq (by unfold ltN; rw [List.take_length])
theorem ctN_bd (l : List (List V3)) (sun : V3) (ps : List Pt) (i j : Nat) : 0 ≤ ctN l sun ps i j ∧ ctN l sun ps i j ≤ ps.length := by
 unfold ctN cutI
 have := List.length_filter_le (fun p => !anyHid (l.take i) sun p && hidB (l.getD i []) sun p) (ps.take j)
 have := List.length_take_le' j ps
 omega
def ctB (l : List (List V3)) (sun : V3) (i : Nat) (p : Pt) : Bool := decide ((hidng l sun p l.length).length ≠ 0) && decide ((hidng l sun p l.length).getD 0 0 = (i : Int))
theorem ctN_succ {l : List (List V3)} {sun : V3} {ps : List Pt} {i j : Nat} (hl : i < l.length) (hj : j < ps.length) : ctN l sun ps i (j + 1) = ctN l sun ps i j + if ctB l sun i (ps.getD j P0) then 1 else 0 := by
 have h := hidng_first l sun (ps.getD j P0) l.length (Nat.le_refl _) i hl
 have e : ctB l sun i (ps.getD j P0) = (!anyHid (l.take i) sun (ps.getD j P0) && hidB (l.getD i []) sun (ps.getD j P0)) := by
  unfold ctB
  rw [Bool.eq_iff_iff, Bool.and_eq_true, decide_eq_true_eq, decide_eq_true_eq, h, Bool.and_eq_true, Bool.not_eq_true']
 unfold ctN cutI
 rw [take_snoc ps j P0 hj, List.filter_append, List.length_append, List.filter_cons, e]
 cases (!anyHid (l.take i) sun (ps.getD j P0) && hidB (l.getD i []) sun (ps.getD j P0)) <;> simp
def ctR (l : List (List V3)) (sun : V3) (ps : List Pt) (i : Nat) : List DV := rng i fun i => DV.int .i64 ((cutI l sun i ps).length)
theorem ctR_len (l : List (List V3)) (sun : V3) (ps : List Pt) (i : Nat) : (ctR l sun ps i).length = i := rng_len _ _
theorem r_Cut (l : List (List V3)) (sun : V3) (c : Bx) (h8 : l.length ≤ 8) (h1 : ∀ s ∈ l, OkS s) (h2 : bdV 1000 sun) (h3 : OkB c) : PC 39 [shps l, encV sun, encB c] (iL (cutS l sun c)) := by
 have k1 := r_spots c h3
 have hn := h3.spN
 have hsp : ∀ p ∈ spotsL c, (-1000 ≤ p.x ∧ p.x ≤ 1000) ∧ (-1000 ≤ p.y ∧ p.y ≤ 1000) := fun p hp => h3.spot hp
 unfold cutS
 generalize spotsL c = ps at *
 have e0 : ((ps.map encPt).length : Int) = ps.length := by simp
 have e1 : ((l.map shp).length : Int) = l.length := by simp
 refine pureCall_ofR dh39 rfl ?_
 conv => whnf
 repeat' (first
  |(refine ⟨fun hg => ?_, fun hg => ?_⟩ <;> first | contradiction | (conv => whnf))
  |(refine Or.inl ?_; conv => whnf)
  |(refine ⟨_, k1, ?_⟩; conv => whnf)
  |(refine And.intro ?_ ?_; kernel_rfl; conv => whnf))
 refine dwp_loopU (P := Tryz.prog) (G := GC) (k := dk39_1) (b := db39_1) (α := Nat) (fun i => [(7, .own 7 0 (ctR l sun ps i).length (ctR l sun ps i).length), (9, DV.int .i64 (i))]) (fun i => [(4, .box 3 (encV sun)), (5, .box 4 (encB c)), (7, .row 1 (ctR l sun ps i) false)]) (fun i => i ≤ l.length) (fun i => l.length - i) 0 (Nat.zero_le _) ?_
 conv => whnf
 refine ⟨rfl, rfl, ?_⟩
 conv => whnf
 refine ⟨rfl, ?_⟩
 intro i j1
 conv => whnf
 refine ⟨fun hb => ?_, fun hb => ?_⟩
 ·have hi : i < l.length := by have := of_decide_eq_true hb; rw [e1] at this; omega
  clear hb
  conv => whnf
  refine dwp_loopU (P := Tryz.prog) (G := GC) (k := dk39_0) (b := db39_0) (α := Nat) (fun j => [(10, DV.int .i64 (ctN l sun ps i j)), (11, DV.int .i64 (j))]) (fun j => [(4, .box 3 (encV sun)), (5, .box 4 (encB c)), (7, .row 1 (ctR l sun ps i) false)]) (fun j => j ≤ ps.length) (fun j => ps.length - j) 0 (Nat.zero_le _) ?_
  conv => whnf
  refine ⟨rfl, rfl, ?_⟩
  conv => whnf
  refine ⟨rfl, ?_⟩
  intro j j2
  conv => whnf
  refine ⟨fun hb => ?_, fun hb => ?_⟩
  ·have hj : j < ps.length := by simpa using hb
   have k5 := r_Hiding l sun _ h8 h1 h2 (hsp _ (getD_in P0 hj))
   have hln := ctN_bd l sun ps i j
   have hs := ctN_succ (l := l) (sun := sun) hi hj
   have hB : ctB l sun i (ps.getD j P0) = (decide ((hidng l sun (ps.getD j P0) l.length).length ≠ 0) && decide ((hidng l sun (ps.getD j P0) l.length).getD 0 0 = (i : Int))) := rfl
   generalize hidng l sun (ps.getD j P0) l.length = hd at *
   have el : ((hd.map (DV.int .i64)).length : Int) = hd.length := by rw [List.length_map]
   clear hb
   conv => whnf
   rw [getD_enc _ _ (j) P0 hj]
   refine ⟨idxA hj rfl, ?_⟩
   conv => whnf
   repeat' (first
    |(refine ⟨fun hg => ?_, fun hg => ?_⟩ <;> first | contradiction | (conv => whnf))
    |(refine Or.inl ?_; conv => whnf)
    |(refine ⟨_, k5, ?_⟩; conv => whnf)
    |(refine And.intro ?_ ?_; kernel_rfl; conv => whnf))
   ·have hp : 0 < hd.length := by have := of_decide_eq_true hg; rw [el] at this; omega
    rw [getD_enc' _ _ 0 0 (by decide) (by omega)]
    refine ⟨idxB (by decide) (by omega) rfl, ?_⟩
    conv => whnf
    repeat' (first
     |(refine ⟨fun hg => ?_, fun hg => ?_⟩ <;> first | contradiction | (conv => whnf))
     |(refine Or.inl ?_; conv => whnf)
     |(refine And.intro ?_ ?_; kernel_rfl; conv => whnf))
    ·have hg : decide (hd.getD 0 0 = (i : Int)) = true := hg
     rw [wrap_succ j (by omega), wrap_in (by omega) (by omega)]
     refine ⟨j + 1, rfl, ?_, rfl, hj, by omega⟩
     rw [hs, hB, hg, decide_eq_true (show hd.length ≠ 0 by omega)]; rfl
    ·have hg : decide (hd.getD 0 0 = (i : Int)) = false := hg
     rw [wrap_succ j (by omega)]
     refine ⟨j + 1, rfl, ?_, rfl, hj, by omega⟩
     rw [hs, hB, hg, Bool.and_false, show (ctN l sun ps i j + if false = true then 1 else 0) = ctN l sun ps i j from Int.add_zero _]; rfl
   ·have hp : hd.length = 0 := by have := of_decide_eq_false ‹decide (0 < ((hd.map (DV.int .i64)).length : Int)) = !true›; rw [el] at this; omega
    rw [wrap_succ j (by omega)]
    refine ⟨j + 1, rfl, ?_, rfl, hj, by omega⟩
    rw [hs, hB, decide_eq_false (show ¬ hd.length ≠ 0 by omega), Bool.false_and, show (ctN l sun ps i j + if false = true then 1 else 0) = ctN l sun ps i j from Int.add_zero _]; rfl
  ·have hj : j = ps.length := by have := of_decide_eq_false hb; rw [e0] at this; omega
   clear hb
   conv => whnf
   repeat' (first
    |(refine ⟨fun hg => ?_, fun hg => ?_⟩ <;> first | contradiction | (conv => whnf))
    |(refine Or.inl ?_; conv => whnf)
    |(refine ⟨⟨rfl, rfl, rfl, by rw [ctR_len]; simp; omega, fun e he => by simp at he; subst he; rfl⟩, ?_⟩; conv => whnf)
    |(refine And.intro ?_ ?_; kernel_rfl; conv => whnf))
   rw [wrap_succ i (by omega), hj]
   have ec : ctN l sun ps i ps.length = ((cutI l sun i ps).length : Int) := by unfold ctN; rw [List.take_length]
   have er : ctR l sun ps (i + 1) = ctR l sun ps i ++ [DV.int .i64 (ctN l sun ps i ps.length)] := by rw [ec]; exact rng_succ _ _
   refine ⟨i + 1, rfl, ?_, ?_, hi, by omega⟩
   ·rw [er]; rfl
   ·rw [er]; rfl
 ·have hi : i = l.length := by have := of_decide_eq_false hb; rw [e1] at this; omega
  clear hb
  conv => whnf
  exact ⟨rfl, by rw [window_full, hi]; unfold ctR; show DV.list _ = DV.list _; rw [rng_map]⟩
end Sh

set_option maxRecDepth 100000
set_option linter.unusedSimpArgs false
set_option linter.unusedVariables false
namespace Sh
open Go Go.Proofs
theorem absG0 {n : Int} (h : -GB ≤ n ∧ n ≤ GB) : minmaxI true n (IntKind.i64.wrap (0 - n)) = (n.natAbs : Int) := by
 rw [Int.zero_sub, absG h]
theorem q_Divisor (n d : Int) (hn : -GB ≤ n ∧ n ≤ GB) (hd : -GB ≤ d ∧ d ≤ GB) : PC 143 [DV.int .i64 (n), DV.int .i64 (d)] (DV.int .i64 (gcdI n d)) := by
 have w1 := absG0 hn
 have w2 := absG0 hd
 refine pureCall_ofR dh143 rfl ?_
 conv => whnf
 rw [w1, w2]
 refine dwp_loopU (P := Tryz.prog) (G := GC) (k := dk143_0) (b := db143_0) (α := Nat × Nat) (fun a => [(0, DV.int .i64 (a.1)), (1, DV.int .i64 (a.2))]) (fun _ => []) (fun a => Nat.gcd a.1 a.2 = Int.gcd n d) (fun a => a.2) (n.natAbs, d.natAbs) rfl ?_
 conv => whnf
 refine ⟨rfl, rfl, ?_⟩
 conv => whnf
 refine ⟨rfl, ?_⟩
 intro ⟨a, b⟩ h
 conv => whnf
 refine ⟨fun hb => ?_, fun hb => ?_⟩
 ·have hb0 : b ≠ 0 := by have := of_decide_eq_true hb; dsimp only at this; omega
  clear hb
  conv => whnf
  refine ⟨by show (b : Int) ≠ 0; omega, ?_⟩
  conv => whnf
  refine ⟨by kernel_rfl, ?_⟩
  conv => whnf
  have hm : ((a : Int)).tmod (b : Int) = ((a % b : Nat) : Int) := rfl
  exact ⟨(b, a % b), rfl, rfl, rfl, (gcd_step hb0).trans h, Nat.mod_lt _ (by omega)⟩
 ·have hb0 : b = 0 := by have := of_decide_eq_false hb; dsimp only at this; omega
  clear hb
  conv => whnf
  subst hb0
  refine int_eq ?_
  unfold gcdI
  rw [← h]; simp
theorem q_Lowest (n d : Int) (hn : -GB ≤ n ∧ n ≤ GB) (hd : 0 < d ∧ d ≤ GB) : PC 80 [DV.int .i64 (n), DV.int .i64 (d)] (encR (lowR n d)) := by
 have k1 := q_Divisor n d hn ⟨by omega, hd.2⟩
 have hp := gcdI_pos (n := n) hd.1
 refine pureCall_ofR dh80 rfl ?_
 conv => whnf
 refine ⟨fun hg => absurd (of_decide_eq_true hg) (by omega), fun hg => ?_⟩
 clear hg
 conv => whnf
 refine .inl ?_
 conv => whnf
 refine ⟨_, k1, ?_⟩
 conv => whnf
 refine ⟨by omega, ?_⟩
 conv => whnf
 refine ⟨by omega, ?_⟩
 conv => whnf
 rw [div_wI hn, div_wI ⟨by omega, hd.2⟩]
 repeat' (first
  |(refine ⟨fun hg => ?_, fun hg => ?_⟩ <;> first | contradiction | (conv => whnf))
  |(refine Or.inl ?_; conv => whnf)
  |(refine And.intro ?_ ?_; kernel_rfl; conv => whnf))
 rfl
end Sh

set_option maxRecDepth 100000
set_option linter.unusedSimpArgs false
set_option linter.unusedVariables false
namespace Sh
open Go Go.Proofs
theorem r_SamePoints (l : List (Pt)) (hl : l.length < 1073741824) : PC 43 [.list (l.map encPt), .list (l.map encPt)] (.bool true) := by
 have e0 : ((l.map encPt).length : Int) = l.length := by simp
 refine pureCall_ofR dh43 rfl ?_
 conv => whnf
 refine ⟨fun hg => absurd rfl (of_decide_eq_true hg), fun hg => ?_⟩
 clear hg
 conv => whnf
 refine dwp_loopU (P := Tryz.prog) (G := GC) (k := dk43_0) (b := db43_0) (α := Nat) (fun i => [(5, DV.int .i64 (i))]) (fun _ => []) (fun i => i ≤ l.length) (fun i => l.length - i) 0 (Nat.zero_le _) ?_
 conv => whnf
 refine ⟨rfl, rfl, ?_⟩
 conv => whnf
 refine ⟨rfl, ?_⟩
 intro i h1
 conv => whnf
 refine ⟨fun hb => ?_, fun hb => ?_⟩
 ·have hi : i < l.length := by simpa using hb
  clear hb
  conv => whnf
  rw [getD_enc _ _ (i) P0 hi]
  refine ⟨idxA hi rfl, ?_⟩
  conv => whnf
  repeat' (first
   |(refine ⟨fun hg => ?_, fun hg => ?_⟩ <;> first | contradiction | (conv => whnf))
   |(refine Or.inl ?_; conv => whnf)
   |(rw [getD_enc _ _ i P0 hi]; refine ⟨idxA hi rfl, ?_⟩; conv => whnf)
   |(refine And.intro ?_ ?_; kernel_rfl; conv => whnf))
  ·exfalso
   revert hg
   simp
  ·rw [wrap_succ i (by omega)]
   exact ⟨i + 1, rfl, rfl, rfl, hi, by omega⟩
 ·clear hb
  conv => whnf
  rfl
end Sh

set_option maxRecDepth 100000
set_option linter.unusedSimpArgs false
set_option linter.unusedVariables false
namespace Sh
open Go Go.Proofs
def cpR {α : Type} (enc : α → DV) (l : List α) (i : Nat) : List DV := (l.take i).map enc
theorem cpR_len {α : Type} (enc : α → DV) (l : List α) (i : Nat) (h : i ≤ l.length) : (cpR enc l i).length = i := by simp [cpR]; omega
theorem cpR_succ {α : Type} (enc : α → DV) (l : List α) (i : Nat) (d : α) (h : i < l.length) : cpR enc l (i + 1) = cpR enc l i ++ [enc (l.getD i d)] := take_map_succ _ l i d h
theorem cpR_all {α : Type} (enc : α → DV) (l : List α) : cpR enc l l.length = l.map enc := by unfold cpR; rw [List.take_length]
theorem l_cells (l : List (Bx)) (hl : l.length < 1073741824) : PC 35 [.list (l.map encB)] (.list (l.map encB)) := by
 have e0 : ((l.map encB).length : Int) = l.length := by simp
 refine pureCall_ofR dh35 rfl ?_
 conv => whnf
 refine dwp_loopU (P := Tryz.prog) (G := GC) (k := dk35_0) (b := db35_0) (α := Nat) (fun i => [(3, .own 3 0 (cpR encB l i).length (cpR encB l i).length), (8, DV.int .i64 (i))]) (fun i => [(3, .row 4 (cpR encB l i) false)]) (fun i => i ≤ l.length) (fun i => l.length - i) 0 (Nat.zero_le _) ?_
 conv => whnf
 refine ⟨rfl, rfl, ?_⟩
 conv => whnf
 refine ⟨rfl, ?_⟩
 intro i h1
 conv => whnf
 refine ⟨fun hb => ?_, fun hb => ?_⟩
 ·have hi : i < l.length := by simpa using hb
  have hln := cpR_len encB l i h1
  clear hb
  conv => whnf
  rw [getD_enc _ _ (i) B0 hi]
  refine ⟨idxA hi rfl, ?_⟩
  conv => whnf
  repeat' (first
   |(refine ⟨fun hg => ?_, fun hg => ?_⟩ <;> first | contradiction | (conv => whnf))
   |(refine Or.inl ?_; conv => whnf)
   |(refine ⟨⟨rfl, rfl, rfl, by rw [hln]; simp; omega, fun e he => by simp at he; subst he; rfl⟩, ?_⟩; conv => whnf)
   |(refine And.intro ?_ ?_; kernel_rfl; conv => whnf))
  rw [wrap_succ i (by omega)]
  refine ⟨i + 1, rfl, ?_, ?_, hi, by omega⟩
  ·rw [cpR_succ encB l i B0 hi]; rfl
  ·rw [cpR_succ encB l i B0 hi]; rfl
 ·have hi : i = l.length := by have := of_decide_eq_false hb; rw [e0] at this; omega
  clear hb
  conv => whnf
  exact ⟨rfl, by rw [window_full, hi, cpR_all]; rfl⟩
theorem r_CheckCells (l : List Bx) (hl : l.length < 1073741824) : PC 37 [cels l] (DV.int .i64 (chkBxs l)) := by
 have e0 : ((l.map encB).length : Int) = l.length := by simp
 refine pureCall_ofR dh37 rfl ?_
 conv => whnf
 refine ⟨fun hg => ?_, fun hg => ?_⟩
 ·have hg := of_decide_eq_true hg
  rw [e0] at hg
  conv => whnf
  exact int_eq (by unfold chkBxs; rw [if_pos hg])
 ·have hg := of_decide_eq_false hg
  rw [e0] at hg
  have hc : chkBxs l = firstE (l.map chkBx) := if_neg hg
  conv => whnf
  refine dwp_loopU (P := Tryz.prog) (G := GC) (k := dk37_0) (b := db37_0) (α := Nat) (fun i => [(3, DV.int .i64 (i))]) (fun _ => []) (fun i => i ≤ l.length ∧ firstE (l.map chkBx) = firstE ((l.map chkBx).drop i)) (fun i => l.length - i) 0 ⟨Nat.zero_le _, rfl⟩ ?_
  conv => whnf
  refine ⟨rfl, rfl, ?_⟩
  conv => whnf
  refine ⟨rfl, ?_⟩
  intro i ⟨h1, h2⟩
  conv => whnf
  refine ⟨fun hb => ?_, fun hb => ?_⟩
  ·have hi : i < l.length := by simpa using hb
   have hd := firstE_drop (l.map chkBx) i (by rw [List.length_map]; exact hi)
   rw [map_getD chkBx l i B0 hi] at hd
   have k1 := r_CheckCell (l.getD i B0)
   clear hb
   conv => whnf
   rw [getD_enc _ _ (i) B0 hi]
   refine ⟨idxA hi rfl, ?_⟩
   conv => whnf
   repeat' (first
    |(refine ⟨fun hg => ?_, fun hg => ?_⟩ <;> first | contradiction | (conv => whnf))
    |(refine Or.inl ?_; conv => whnf)
    |(refine ⟨_, k1, ?_⟩; conv => whnf)
    |(refine And.intro ?_ ?_; kernel_rfl; conv => whnf))
   ·have hg := of_decide_eq_true hg
    rw [if_pos hg] at hd
    exact int_eq (by rw [hc, h2, hd])
   ·have hg := of_decide_eq_false hg
    rw [if_neg hg] at hd
    rw [wrap_succ i (by omega)]
    exact ⟨i + 1, rfl, rfl, rfl, ⟨hi, h2.trans hd⟩, by omega⟩
  ·have hi : i = l.length := by have := of_decide_eq_false hb; rw [e0] at this; omega
   rw [hi, List.drop_of_length_le (by rw [List.length_map]; exact Nat.le_refl _)] at h2
   clear hb
   conv => whnf
   exact int_eq (by rw [hc, h2]; rfl)
theorem l_one (l : List (List V3)) : PC 17 [shps l] (shp (l.getD 0 [])) := by
 have e0 : ((l.map shp).length : Int) = l.length := by simp
 refine pureCall_ofR dh17 rfl ?_
 conv => whnf
 refine ⟨fun hg => ?_, fun hg => ?_⟩
 ·have hg := of_decide_eq_true hg
  rw [e0] at hg
  conv => whnf
  have : l = [] := List.length_eq_zero_iff.1 (by omega)
  subst this
  rfl
 ·have hg := of_decide_eq_false hg
  rw [e0] at hg
  conv => whnf
  rw [getD_enc' _ _ 0 [] (by decide) (by omega)]
  refine ⟨idxB (by decide) (by omega) rfl, ?_⟩
  conv => whnf
  rfl
end Sh

set_option maxRecDepth 100000
set_option linter.unusedSimpArgs false
set_option linter.unusedVariables false
namespace Sh
open Go Go.Proofs
theorem l_own (s : List V3) (hl : s.length < 1073741824) : PC 16 [shp s] (shp s) := by
 refine pureCall_ofR dh16 rfl ?_
 conv => whnf
 refine ⟨⟨by simp; omega, fun e he => by obtain ⟨v, _, rfl⟩ := List.mem_map.1 he; rfl, fun e he => absurd he List.not_mem_nil⟩, ?_⟩
 conv => whnf
 rfl
theorem r_Owned (l : List (List V3)) (hl : l.length < 1073741824) (hs : ∀ s ∈ l, s.length < 1073741824) : PC 93 [shps l] (shps l) := by
 have e0 : ((l.map shp).length : Int) = l.length := by simp
 refine pureCall_ofR dh93 rfl ?_
 conv => whnf
 refine dwp_loopU (P := Tryz.prog) (G := GC) (k := dk93_0) (b := db93_0) (α := Nat) (fun i => [(3, .own 3 0 (cpR shp l i).length (cpR shp l i).length), (4, DV.int .i64 (i))]) (fun i => [(3, .row 1 (cpR shp l i) false)]) (fun i => i ≤ l.length) (fun i => l.length - i) 0 (Nat.zero_le _) ?_
 conv => whnf
 refine ⟨rfl, rfl, ?_⟩
 conv => whnf
 refine ⟨rfl, ?_⟩
 intro i h1
 conv => whnf
 refine ⟨fun hb => ?_, fun hb => ?_⟩
 ·have hi : i < l.length := by simpa using hb
  have hln := cpR_len shp l i h1
  have hsl := hs _ (getD_in [] hi)
  clear hb
  conv => whnf
  rw [getD_enc _ _ (i) [] hi]
  refine ⟨idxA hi rfl, ?_⟩
  conv => whnf
  refine ⟨⟨by rw [List.length_map, List.reverse_nil, List.length_nil]; omega, fun e he => by obtain ⟨v, _, rfl⟩ := List.mem_map.1 he; rfl, fun e he => absurd he List.not_mem_nil⟩, ?_⟩
  conv => whnf
  repeat' (first
   |(refine ⟨fun hg => ?_, fun hg => ?_⟩ <;> first | contradiction | (conv => whnf))
   |(refine Or.inl ?_; conv => whnf)
   |(refine ⟨⟨rfl, rfl, rfl, by rw [hln]; simp; omega, fun e he => by simp at he; subst he; rfl⟩, ?_⟩; conv => whnf)
   |(refine And.intro ?_ ?_; kernel_rfl; conv => whnf))
  rw [wrap_succ i (by omega)]
  refine ⟨i + 1, rfl, ?_, ?_, hi, by omega⟩
  ·rw [cpR_succ shp l i [] hi]; rfl
  ·rw [cpR_succ shp l i [] hi]; rfl
 ·have hi : i = l.length := by have := of_decide_eq_false hb; rw [e0] at this; omega
  clear hb
  conv => whnf
  exact ⟨rfl, by rw [window_full, hi, cpR_all]; rfl⟩
theorem l_all (l : List (List V3)) (hl : l.length < 1073741824) (hs : ∀ s ∈ l, s.length < 1073741824) : PC 19 [shps l] (shps l) := by
 have k1 := r_Owned l hl hs
 refine pureCall_ofR dh19 rfl ?_
 conv => whnf
 repeat' (first
  |(refine ⟨fun hg => ?_, fun hg => ?_⟩ <;> first | contradiction | (conv => whnf))
  |(refine Or.inl ?_; conv => whnf)
  |(refine ⟨_, k1, ?_⟩; conv => whnf)
  |(refine And.intro ?_ ?_; kernel_rfl; conv => whnf))
 rfl
end Sh

set_option maxRecDepth 100000
set_option linter.unusedSimpArgs false
set_option linter.unusedVariables false
namespace Sh
open Go Go.Proofs
theorem r_Shares (l : List (List V3)) (sun : V3) (cs : List Bx) (h8 : l.length ≤ 8) (h1 : ∀ s ∈ l, OkS s) (h2 : bdV 1000 sun) (h16 : cs.length ≤ 16) (h3 : ∀ c ∈ cs, OkB c) : PC 41 [shps l, encV sun, cels cs] (rats (cs.map (shrR l sun))) := by
 have e0 : ((cs.map encB).length : Int) = cs.length := by simp
 refine pureCall_ofR dh41 rfl ?_
 conv => whnf
 refine dwp_loopU (P := Tryz.prog) (G := GC) (k := dk41_0) (b := db41_0) (α := Nat) (fun i => [(7, .own 7 0 (oR (shrR l sun) cs i).length (oR (shrR l sun) cs i).length), (8, DV.int .i64 (i))]) (fun i => [(4, .box 3 (encV sun)), (7, .row 2 (oR (shrR l sun) cs i) false)]) (fun i => i ≤ cs.length) (fun i => cs.length - i) 0 (Nat.zero_le _) ?_
 conv => whnf
 refine ⟨rfl, rfl, ?_⟩
 conv => whnf
 refine ⟨rfl, ?_⟩
 intro i j1
 conv => whnf
 refine ⟨fun hb => ?_, fun hb => ?_⟩
 ·have hi : i < cs.length := by simpa using hb
  have hB := h3 _ (getD_in B0 hi)
  have k1 := r_Light l sun _ h8 h1 h2 hB
  have k2 := r_spots _ hB
  have hn := spotsL_len hB
  have hb' := light_bd (l := l) (sun := sun) hB
  have hs := hB.size
  have hln := oR_len (shrR l sun) cs i j1
  have k3 := q_Lowest (lightS l sun (cs.getD i B0)) (sizeB (cs.getD i B0)) (by unfold GB; omega) (by unfold GB; omega)
  have el : (((spotsL (cs.getD i B0)).map encPt).length : Int) = sizeB (cs.getD i B0) := by rw [List.length_map, hn]
  clear hb
  conv => whnf
  rw [getD_enc _ _ (i) B0 hi]
  refine ⟨idxA hi rfl, ?_⟩
  conv => whnf
  repeat' (first
   |(refine ⟨fun hg => ?_, fun hg => ?_⟩ <;> first | contradiction | (conv => whnf))
   |(refine Or.inl ?_; conv => whnf)
   |(refine ⟨_, k1, ?_⟩; conv => whnf)
   |(rw [getD_enc _ _ i B0 hi]; refine ⟨idxA hi rfl, ?_⟩; conv => whnf)
   |(refine ⟨_, k2, ?_⟩; conv => whnf)
   |(rw [el]; refine ⟨_, k3, ?_⟩; conv => whnf)
   |(refine ⟨⟨rfl, rfl, rfl, by rw [hln]; simp; omega, fun e he => by simp at he; subst he; rfl⟩, ?_⟩; conv => whnf)
   |(refine And.intro ?_ ?_; kernel_rfl; conv => whnf))
  rw [wrap_succ i (by omega)]
  refine ⟨i + 1, rfl, ?_, ?_, hi, by omega⟩
  ·rw [oR_succ _ cs i B0 hi]; rfl
  ·rw [oR_succ _ cs i B0 hi]; rfl
 ·have hi : i = cs.length := by have := of_decide_eq_false hb; rw [e0] at this; omega
  clear hb
  conv => whnf
  exact ⟨rfl, by rw [window_full, hi, oR_all]; rfl⟩
end Sh

set_option maxRecDepth 100000
set_option linter.unusedSimpArgs false
set_option linter.unusedVariables false
namespace Sh
open Go Go.Proofs
def smlB (c : Bx) : Bool := decide (chkBx c ≠ 0) || decide (sizeB c ≤ 49)
theorem r_Small (c : Bx) : PC 30 [encB c] (.bool (smlB c)) := by
 have k1 := r_CheckCell c
 refine pureCall_ofR dh30 rfl ?_
 conv => whnf
 repeat' (first
  |(refine ⟨fun hg => ?_, fun hg => ?_⟩ <;> first | contradiction | (conv => whnf))
  |(refine Or.inl ?_; conv => whnf)
  |(refine ⟨_, k1, ?_⟩; conv => whnf)
  |(refine And.intro ?_ ?_; kernel_rfl; conv => whnf))
 ·exact bool_eq (by unfold smlB; rw [show decide (chkBx c ≠ 0) = true from hg]; rfl)
 ·have h := of_decide_eq_false hg
  have hB := (chkBx_zero (Classical.not_not.1 h)).1
  have hw := sz_w hB.pts.1 hB.pts.2
  exact bool_eq (by unfold smlB; rw [show decide (chkBx c ≠ 0) = false from hg, hw]; rfl)
end Sh

set_option maxRecDepth 100000
set_option linter.unusedSimpArgs false
set_option linter.unusedVariables false
namespace Sh
open Go Go.Proofs
theorem l_first (l : List Int) (hl : l.length < 4611686018427387904) : PC 20 [iL l] (DV.int .i64 (firstE l)) := by
 refine pureCall_ofR dh20 rfl ?_
 conv => whnf
 refine .inl ?_
 conv => whnf
 refine ⟨_, q_First _ hl, ?_⟩
 conv => whnf
 rfl
end Sh

set_option maxRecDepth 100000
namespace Sh
open Go
def db4_0 : DC := (.seq (.ops false [⟨some 42,.bin .lss (.tmp 41) (.tmp 40),none,[]⟩]) (.seq (.cond (.tmp 42) .skip (.exit 0)) (.seq (.block 1 none (.seq (.ops false [⟨some 43,.iaddr 4 (.tmp 39) (.tmp 41),none,[]⟩,⟨some 44,.load (some 4) (.tmp 43),none,[]⟩,⟨some 8,.alloc (.agg [.int .i64 0,.int .i64 0,.int .i64 0,.int .i64 0]) 4,none,[]⟩,⟨none,.store 4 (.tmp 8) (.tmp 44),none,[]⟩]) (.seq (.ops false [⟨some 45,.load (some 4) (.tmp 8),none,[]⟩,⟨some 46,.call (.func 30) [.tmp 45],none,[]⟩,⟨some 47,.un .not (.tmp 46),none,[]⟩]) (.cond (.tmp 47) (.seq (.ops false [⟨some 48,.call (.func 14) [],none,[]⟩,⟨some 6,.mov (.tmp 48),none,[]⟩]) .ret) .skip)))) (.ops false [⟨some 49,.bin .add (.tmp 41) (.const (.int .i64 1)),none,[]⟩,⟨some 41,.mov (.tmp 49),none,[]⟩]))))
def dk4_0 : Keep := ⟨[],[0,2,4,39,40,41],[4,9,97,105,113]⟩
def dc4 : DFunc := ⟨186,3,[.tmp 6],.seq (.ops false [⟨some 4,.box 3 (.tmp 1),none,[]⟩,⟨some 6,.mov (.const (.bool false)),none,[]⟩]) (.seq (.seq (.ops false [⟨some 25,.mov (.tmp 0),none,[]⟩,⟨some 26,.call (.func 13) [.tmp 25],none,[]⟩,⟨some 27,.un .not (.tmp 26),none,[]⟩,⟨some 28,.mov (.tmp 27),none,[]⟩,⟨some 29,.mov (.tmp 2),some (28,false),[]⟩,⟨some 30,.len (.tmp 29),some (28,false),[]⟩,⟨some 31,.bin .gtr (.tmp 30) (.const (.int .i64 4)),some (28,false),[]⟩,⟨some 32,.mov (.tmp 31),some (28,false),[]⟩,⟨some 33,.mov (.tmp 2),some (32,true),[]⟩,⟨some 34,.len (.tmp 33),some (32,true),[]⟩,⟨some 35,.bin .neq (.tmp 34) (.const (.int .i64 17)),some (32,true),[]⟩,⟨some 36,.pick (.tmp 32) (.tmp 35) (.const (.bool false)),some (28,false),[]⟩,⟨some 37,.pick (.tmp 28) (.const (.bool true)) (.tmp 36),none,[]⟩]) (.cond (.tmp 37) (.seq (.ops false [⟨some 38,.call (.func 14) [],none,[]⟩,⟨some 6,.mov (.tmp 38),none,[]⟩]) .ret) .skip)) (.seq (.seq (.ops false [⟨some 39,.mov (.tmp 2),none,[]⟩,⟨some 40,.len (.tmp 39),none,[]⟩,⟨some 41,.mov (.const (.int .i64 0)),none,[]⟩]) (.block 0 (some ⟨[],[0,2,4],[4,9,97,105,113]⟩) (.loop dk4_0 db4_0))) (.seq (.ops false [⟨some 9,.alloc (.agg [.int .i64 0,.int .i64 0,.int .i64 0,.int .i64 0]) 4,none,[]⟩]) (.seq (.seq (.ops false [⟨some 50,.mov (.tmp 2),none,[]⟩,⟨some 51,.len (.tmp 50),none,[]⟩,⟨some 52,.bin .gtr (.tmp 51) (.const (.int .i64 0)),none,[]⟩]) (.cond (.tmp 52) (.ops false [⟨some 53,.mov (.tmp 2),none,[]⟩,⟨some 54,.iaddr 4 (.tmp 53) (.const (.int .i64 0)),none,[]⟩,⟨some 55,.load (some 4) (.tmp 54),none,[]⟩,⟨none,.store 4 (.tmp 9) (.tmp 55),none,[]⟩]) .skip)) (.seq (.ops true [⟨some 57,.mov (.tmp 0),none,[]⟩,⟨some 58,.call (.func 17) [.tmp 57],none,[0]⟩,⟨some 59,.call (.func 16) [.tmp 58],none,[1,0]⟩,⟨some 60,.load (some 3) (.tmp 4),none,[]⟩,⟨some 61,.load (some 4) (.tmp 9),none,[]⟩,⟨some 62,.call (.func 31) [.tmp 59,.tmp 60,.tmp 61],none,[2,1,0,3,4]⟩,⟨some 56,.mov (.tmp 62),none,[5,2,1,0,3,4]⟩,⟨some 63,.extract (.tmp 56) 0,none,[6,5,2,1,0,3,4]⟩,⟨some 64,.extract (.tmp 56) 1,none,[6,5,2,1,0,3,4]⟩,⟨some 10,.mov (.tmp 63),none,[7,6,5,2,1,0,3,4]⟩,⟨some 11,.mov (.tmp 64),none,[8,6,5,2,1,0,3,4,9,7]⟩]) (.seq (.ops true [⟨some 66,.mov (.tmp 0),none,[]⟩,⟨some 67,.call (.func 19) [.tmp 66],none,[0]⟩,⟨some 68,.load (some 3) (.tmp 4),none,[]⟩,⟨some 69,.load (some 4) (.tmp 9),none,[]⟩,⟨some 70,.call (.func 32) [.tmp 67,.tmp 68,.tmp 69],none,[1,0,2,3]⟩,⟨some 65,.mov (.tmp 70),none,[4,1,0,2,3]⟩,⟨some 71,.extract (.tmp 65) 0,none,[5,4,1,0,2,3]⟩,⟨some 72,.extract (.tmp 65) 1,none,[5,4,1,0,2,3]⟩,⟨some 12,.mov (.tmp 71),none,[6,5,4,1,0,2,3]⟩,⟨some 13,.mov (.tmp 72),none,[7,5,4,1,0,2,3,8,6]⟩]) (.seq (.ops true [⟨some 74,.mov (.tmp 0),none,[]⟩,⟨some 75,.call (.func 19) [.tmp 74],none,[0]⟩,⟨some 76,.load (some 3) (.tmp 4),none,[]⟩,⟨some 77,.load (some 4) (.tmp 9),none,[]⟩,⟨some 78,.call (.func 33) [.tmp 75,.tmp 76,.tmp 77],none,[1,0,2,3]⟩,⟨some 73,.mov (.tmp 78),none,[4,1,0,2,3]⟩,⟨some 79,.extract (.tmp 73) 0,none,[5,4,1,0,2,3]⟩,⟨some 80,.extract (.tmp 73) 1,none,[5,4,1,0,2,3]⟩,⟨some 14,.mov (.tmp 79),none,[6,5,4,1,0,2,3]⟩,⟨some 15,.mov (.tmp 80),none,[7,5,4,1,0,2,3,8,6]⟩]) (.seq (.ops true [⟨some 82,.mov (.tmp 0),none,[]⟩,⟨some 83,.call (.func 19) [.tmp 82],none,[0]⟩,⟨some 84,.load (some 3) (.tmp 4),none,[]⟩,⟨some 85,.mov (.tmp 2),none,[]⟩,⟨some 86,.call (.func 35) [.tmp 85],none,[3,1,0]⟩,⟨some 87,.call (.func 34) [.tmp 83,.tmp 84,.tmp 86],none,[1,0,2,4,3]⟩,⟨some 81,.mov (.tmp 87),none,[5,1,0,2,4,3]⟩,⟨some 88,.extract (.tmp 81) 0,none,[6,5,1,0,2,4,3]⟩,⟨some 89,.extract (.tmp 81) 1,none,[6,5,1,0,2,4,3]⟩,⟨some 16,.mov (.tmp 88),none,[7,6,5,1,0,2,4,3]⟩,⟨some 17,.mov (.tmp 89),none,[8,6,5,1,0,2,4,3,9,7]⟩]) (.seq (.ops true [⟨some 90,.mov (.tmp 0),none,[]⟩,⟨some 91,.call (.func 17) [.tmp 90],none,[0]⟩,⟨some 92,.call (.func 21) [.tmp 91],none,[1,0]⟩,⟨some 93,.load (some 3) (.tmp 4),none,[]⟩,⟨some 94,.call (.func 22) [.tmp 93],none,[3,2,1,0]⟩,⟨some 95,.load (some 4) (.tmp 9),none,[]⟩,⟨some 96,.call (.func 36) [.tmp 95],none,[5,4,3,2,1,0]⟩,⟨some 97,.lit true 1 3 (.int .i64 0) [(0,(.tmp 92)),(1,(.tmp 94)),(2,(.tmp 96))],none,[2,1,0,4,3,6,5]⟩,⟨some 98,.call (.func 20) [.tmp 97],none,[7,2,1,0,4,3,6,5]⟩,⟨some 99,.mov (.tmp 0),none,[]⟩,⟨some 100,.call (.func 24) [.tmp 99],none,[9,8,7,2,1,0,4,3,6,5]⟩,⟨some 101,.load (some 3) (.tmp 4),none,[]⟩,⟨some 102,.call (.func 22) [.tmp 101],none,[11,10,9,8,7,2,1,0,4,3,6,5]⟩,⟨some 103,.load (some 4) (.tmp 9),none,[]⟩,⟨some 104,.call (.func 36) [.tmp 103],none,[13,12,11,10,9,8,7,2,1,0,4,3,6,5]⟩,⟨some 105,.lit true 1 3 (.int .i64 0) [(0,(.tmp 100)),(1,(.tmp 102)),(2,(.tmp 104))],none,[10,9,8,7,2,1,0,4,3,6,5,12,11,14,13]⟩,⟨some 106,.call (.func 20) [.tmp 105],none,[15,10,9,8,7,2,1,0,4,3,6,5,12,11,14,13]⟩,⟨some 18,.mov (.tmp 98),none,[8,7,2,1,0,4,3,6,5,16,15,10,9,12,11,14,13]⟩,⟨some 19,.mov (.tmp 106),none,[16,15,10,9,8,7,2,1,0,4,3,6,5,12,11,14,13,17]⟩]) (.seq (.ops true [⟨some 107,.mov (.tmp 0),none,[]⟩,⟨some 108,.call (.func 24) [.tmp 107],none,[0]⟩,⟨some 109,.load (some 3) (.tmp 4),none,[]⟩,⟨some 110,.call (.func 22) [.tmp 109],none,[2,1,0]⟩,⟨some 111,.mov (.tmp 2),none,[]⟩,⟨some 112,.call (.func 37) [.tmp 111],none,[4,3,2,1,0]⟩,⟨some 113,.lit true 1 3 (.int .i64 0) [(0,(.tmp 108)),(1,(.tmp 110)),(2,(.tmp 112))],none,[1,0,3,2,5,4]⟩,⟨some 114,.call (.func 20) [.tmp 113],none,[6,1,0,3,2,5,4]⟩,⟨some 20,.mov (.tmp 114),none,[7,6,1,0,3,2,5,4]⟩]) (.seq (.ops false [⟨some 21,.mov (.const (.slice none 0 0)),none,[]⟩]) (.seq (.ops false [⟨some 22,.mov (.const (.slice none 0 0)),none,[]⟩]) (.seq (.ops false [⟨some 23,.mov (.const (.slice none 0 0)),none,[]⟩]) (.seq (.ops false [⟨some 24,.mov (.const (.int .i64 0)),none,[]⟩]) (.seq (.seq (.ops false [⟨some 115,.mov (.tmp 18),none,[]⟩,⟨some 116,.bin .eql (.tmp 115) (.const (.int .i64 0)),none,[]⟩]) (.cond (.tmp 116) (.ops true [⟨some 117,.mov (.tmp 0),none,[]⟩,⟨some 118,.call (.func 17) [.tmp 117],none,[0]⟩,⟨some 119,.load (some 3) (.tmp 4),none,[]⟩,⟨some 120,.load (some 4) (.tmp 9),none,[]⟩,⟨some 121,.call (.func 38) [.tmp 118,.tmp 119,.tmp 120],none,[1,0,2,3]⟩,⟨some 21,.mov (.tmp 121),none,[4,1,0,2,3]⟩]) .skip)) (.seq (.seq (.ops false [⟨some 122,.mov (.tmp 19),none,[]⟩,⟨some 123,.bin .eql (.tmp 122) (.const (.int .i64 0)),none,[]⟩]) (.cond (.tmp 123) (.ops true [⟨some 124,.mov (.tmp 0),none,[]⟩,⟨some 125,.load (some 3) (.tmp 4),none,[]⟩,⟨some 126,.load (some 4) (.tmp 9),none,[]⟩,⟨some 127,.call (.func 39) [.tmp 124,.tmp 125,.tmp 126],none,[0,1,2]⟩,⟨some 128,.mov (.tmp 0),none,[]⟩,⟨some 129,.load (some 3) (.tmp 4),none,[]⟩,⟨some 130,.load (some 4) (.tmp 9),none,[]⟩,⟨some 131,.call (.func 40) [.tmp 128,.tmp 129,.tmp 130],none,[4,5,6,3,0,1,2]⟩,⟨some 22,.mov (.tmp 127),none,[3,0,1,2,7,4,5,6]⟩,⟨some 24,.mov (.tmp 131),none,[7,4,5,6,3,0,1,2,8]⟩]) .skip)) (.seq (.seq (.ops false [⟨some 132,.mov (.tmp 20),none,[]⟩,⟨some 133,.bin .eql (.tmp 132) (.const (.int .i64 0)),none,[]⟩]) (.cond (.tmp 133) (.ops false [⟨some 134,.mov (.tmp 0),none,[]⟩,⟨some 135,.load (some 3) (.tmp 4),none,[]⟩,⟨some 136,.mov (.tmp 2),none,[]⟩,⟨some 137,.call (.func 41) [.tmp 134,.tmp 135,.tmp 136],none,[]⟩,⟨some 23,.mov (.tmp 137),none,[]⟩]) .skip)) (.seq (.ops true [⟨some 138,.load (some 4) (.tmp 9),none,[]⟩,⟨some 139,.call (.func 42) [.tmp 138],none,[0]⟩,⟨some 140,.load (some 4) (.tmp 9),none,[]⟩,⟨some 141,.call (.func 36) [.tmp 140],none,[2,1,0]⟩,⟨some 142,.bin .eql (.tmp 139) (.tmp 141),none,[1,0,3,2]⟩,⟨some 143,.mov (.tmp 142),none,[4,1,0,3,2]⟩,⟨some 144,.mov (.tmp 10),some (143,true),[5,4,1,0,3,2]⟩,⟨some 145,.mov (.tmp 21),some (143,true),[5,4,1,0,3,2]⟩,⟨some 146,.call (.func 43) [.tmp 144,.tmp 145],some (143,true),[6,5,4,1,0,3,2,7]⟩,⟨some 147,.pick (.tmp 143) (.tmp 146) (.const (.bool false)),none,[5,4,1,0,3,2,8,6,7]⟩,⟨some 148,.mov (.tmp 147),none,[9,5,4,1,0,3,2,8,6,7]⟩,⟨some 149,.mov (.tmp 11),some (148,true),[10,9,5,4,1,0,3,2,8,6,7]⟩,⟨some 150,.mov (.tmp 18),some (148,true),[10,9,5,4,1,0,3,2,8,6,7]⟩,⟨some 151,.bin .eql (.tmp 149) (.tmp 150),some (148,true),[11,10,9,5,4,1,0,3,2,8,6,7,12]⟩,⟨some 152,.pick (.tmp 148) (.tmp 151) (.const (.bool false)),none,[10,9,5,4,1,0,3,2,8,6,7,13,11,12]⟩,⟨some 153,.mov (.tmp 152),none,[14,10,9,5,4,1,0,3,2,8,6,7,13,11,12]⟩,⟨some 154,.mov (.tmp 12),some (153,true),[15,14,10,9,5,4,1,0,3,2,8,6,7,13,11,12]⟩,⟨some 155,.mov (.tmp 22),some (153,true),[15,14,10,9,5,4,1,0,3,2,8,6,7,13,11,12]⟩,⟨some 156,.call (.func 29) [.tmp 154,.tmp 155],some (153,true),[16,15,14,10,9,5,4,1,0,3,2,8,6,7,13,11,12,17]⟩,⟨some 157,.pick (.tmp 153) (.tmp 156) (.const (.bool false)),none,[15,14,10,9,5,4,1,0,3,2,8,6,7,13,11,12,18,16,17]⟩,⟨some 158,.mov (.tmp 157),none,[19,15,14,10,9,5,4,1,0,3,2,8,6,7,13,11,12,18,16,17]⟩,⟨some 159,.mov (.tmp 13),some (158,true),[20,19,15,14,10,9,5,4,1,0,3,2,8,6,7,13,11,12,18,16,17]⟩,⟨some 160,.mov (.tmp 19),some (158,true),[20,19,15,14,10,9,5,4,1,0,3,2,8,6,7,13,11,12,18,16,17]⟩,⟨some 161,.bin .eql (.tmp 159) (.tmp 160),some (158,true),[21,20,19,15,14,10,9,5,4,1,0,3,2,8,6,7,13,11,12,18,16,17,22]⟩,⟨some 162,.pick (.tmp 158) (.tmp 161) (.const (.bool false)),none,[20,19,15,14,10,9,5,4,1,0,3,2,8,6,7,13,11,12,18,16,17,23,21,22]⟩,⟨some 163,.mov (.tmp 162),none,[24,20,19,15,14,10,9,5,4,1,0,3,2,8,6,7,13,11,12,18,16,17,23,21,22]⟩,⟨some 164,.mov (.tmp 14),some (163,true),[25,24,20,19,15,14,10,9,5,4,1,0,3,2,8,6,7,13,11,12,18,16,17,23,21,22]⟩,⟨some 165,.mov (.tmp 24),some (163,true),[25,24,20,19,15,14,10,9,5,4,1,0,3,2,8,6,7,13,11,12,18,16,17,23,21,22]⟩,⟨some 166,.bin .eql (.tmp 164) (.tmp 165),some (163,true),[26,25,24,20,19,15,14,10,9,5,4,1,0,3,2,8,6,7,13,11,12,18,16,17,23,21,22,27]⟩,⟨some 167,.pick (.tmp 163) (.tmp 166) (.const (.bool false)),none,[25,24,20,19,15,14,10,9,5,4,1,0,3,2,8,6,7,13,11,12,18,16,17,23,21,22,28,26,27]⟩,⟨some 168,.mov (.tmp 167),none,[29,25,24,20,19,15,14,10,9,5,4,1,0,3,2,8,6,7,13,11,12,18,16,17,23,21,22,28,26,27]⟩,⟨some 169,.mov (.tmp 15),some (168,true),[30,29,25,24,20,19,15,14,10,9,5,4,1,0,3,2,8,6,7,13,11,12,18,16,17,23,21,22,28,26,27]⟩,⟨some 170,.mov (.tmp 19),some (168,true),[30,29,25,24,20,19,15,14,10,9,5,4,1,0,3,2,8,6,7,13,11,12,18,16,17,23,21,22,28,26,27]⟩,⟨some 171,.bin .eql (.tmp 169) (.tmp 170),some (168,true),[31,30,29,25,24,20,19,15,14,10,9,5,4,1,0,3,2,8,6,7,13,11,12,18,16,17,23,21,22,28,26,27,32]⟩,⟨some 172,.pick (.tmp 168) (.tmp 171) (.const (.bool false)),none,[30,29,25,24,20,19,15,14,10,9,5,4,1,0,3,2,8,6,7,13,11,12,18,16,17,23,21,22,28,26,27,33,31,32]⟩,⟨some 173,.mov (.tmp 172),none,[34,30,29,25,24,20,19,15,14,10,9,5,4,1,0,3,2,8,6,7,13,11,12,18,16,17,23,21,22,28,26,27,33,31,32]⟩,⟨some 174,.mov (.tmp 16),some (173,true),[35,34,30,29,25,24,20,19,15,14,10,9,5,4,1,0,3,2,8,6,7,13,11,12,18,16,17,23,21,22,28,26,27,33,31,32]⟩,⟨some 175,.mov (.tmp 23),some (173,true),[35,34,30,29,25,24,20,19,15,14,10,9,5,4,1,0,3,2,8,6,7,13,11,12,18,16,17,23,21,22,28,26,27,33,31,32]⟩,⟨some 176,.call (.func 44) [.tmp 174,.tmp 175],some (173,true),[36,35,34,30,29,25,24,20,19,15,14,10,9,5,4,1,0,3,2,8,6,7,13,11,12,18,16,17,23,21,22,28,26,27,33,31,32,37]⟩,⟨some 177,.pick (.tmp 173) (.tmp 176) (.const (.bool false)),none,[35,34,30,29,25,24,20,19,15,14,10,9,5,4,1,0,3,2,8,6,7,13,11,12,18,16,17,23,21,22,28,26,27,33,31,32,38,36,37]⟩,⟨some 178,.mov (.tmp 177),none,[39,35,34,30,29,25,24,20,19,15,14,10,9,5,4,1,0,3,2,8,6,7,13,11,12,18,16,17,23,21,22,28,26,27,33,31,32,38,36,37]⟩,⟨some 179,.mov (.tmp 17),some (178,true),[40,39,35,34,30,29,25,24,20,19,15,14,10,9,5,4,1,0,3,2,8,6,7,13,11,12,18,16,17,23,21,22,28,26,27,33,31,32,38,36,37]⟩,⟨some 180,.mov (.tmp 20),some (178,true),[40,39,35,34,30,29,25,24,20,19,15,14,10,9,5,4,1,0,3,2,8,6,7,13,11,12,18,16,17,23,21,22,28,26,27,33,31,32,38,36,37]⟩,⟨some 181,.bin .eql (.tmp 179) (.tmp 180),some (178,true),[41,40,39,35,34,30,29,25,24,20,19,15,14,10,9,5,4,1,0,3,2,8,6,7,13,11,12,18,16,17,23,21,22,28,26,27,33,31,32,38,36,37,42]⟩,⟨some 182,.pick (.tmp 178) (.tmp 181) (.const (.bool false)),none,[40,39,35,34,30,29,25,24,20,19,15,14,10,9,5,4,1,0,3,2,8,6,7,13,11,12,18,16,17,23,21,22,28,26,27,33,31,32,38,36,37,43,41,42]⟩,⟨some 183,.mov (.tmp 182),none,[44,40,39,35,34,30,29,25,24,20,19,15,14,10,9,5,4,1,0,3,2,8,6,7,13,11,12,18,16,17,23,21,22,28,26,27,33,31,32,38,36,37,43,41,42]⟩,⟨some 184,.call (.func 14) [],some (183,true),[45,44,40,39,35,34,30,29,25,24,20,19,15,14,10,9,5,4,1,0,3,2,8,6,7,13,11,12,18,16,17,23,21,22,28,26,27,33,31,32,38,36,37,43,41,42]⟩,⟨some 185,.pick (.tmp 183) (.tmp 184) (.const (.bool false)),none,[45,44,40,39,35,34,30,29,25,24,20,19,15,14,10,9,5,4,1,0,3,2,8,6,7,13,11,12,18,16,17,23,21,22,28,26,27,33,31,32,38,36,37,43,41,42,46]⟩,⟨some 6,.mov (.tmp 185),none,[47,45,44,40,39,35,34,30,29,25,24,20,19,15,14,10,9,5,4,1,0,3,2,8,6,7,13,11,12,18,16,17,23,21,22,28,26,27,33,31,32,38,36,37,43,41,42,46]⟩]) .ret))))))))))))))))))⟩
theorem dh4 : cProg Go.Proofs.Tryz.prog ⟨[(0, ⟨[], [0, 2, 4, 39, 40, 41], [4, 9, 97, 105, 113]⟩)], [(0, ⟨[], [0, 2, 4], [4, 9, 97, 105, 113]⟩)], [97, 105, 113]⟩ 4 = some dc4 := by kernel_rfl
end Sh

set_option maxRecDepth 100000
set_option maxHeartbeats 4000000
set_option linter.unusedSimpArgs false
set_option linter.unusedVariables false
namespace Sh
open Go Go.Proofs
theorem shd_len {s : List V3} {sun : V3} {c : Bx} (h : OkB c) : (shdL s sun (spotsL c)).length < 1073741824 :=
 Nat.lt_of_le_of_lt (Nat.le_trans (List.length_filter_le _ _) h.spN) (by decide)
theorem l_ShadeCells (aw : PC 14 [] (.bool true)) (l : List (List V3)) (hU : l.length ≤ 9223372036854775807) (sun : V3) (c : List Bx) : PC 4 [shps l, encV sun, cels c] (.bool true) := by
 have kS := r_ShortU l hU
 have e0 : ((c.map encB).length : Int) = c.length := by simp
 by_cases hsh : shortB l = true
 ·rw [hsh] at kS
  obtain ⟨hl, hls, hl0⟩ := short_len hsh
  clear hsh
  by_cases hlen : (¬ (4 : Int) < ((c.map encB).length : Int)) ∨ ((4 : Int) < ((c.map encB).length : Int) ∧ ¬ ((c.map encB).length : Int) ≠ 17)
  ·have hc : c.length < 1073741824 := by omega
   have a1 := l_one l
   have a2 := l_own (l.getD 0 []) hl0
   have a3 := l_all l hl hls
   have a4 := l_cells c hc
   have a5 := r_CheckShape (l.getD 0 []) hl0
   have a6 := r_CheckShapes l hl hls
   have a7 := r_CheckSun sun
   have d1 := r_CheckCells c hc
   generalize hs0 : l.getD 0 [] = s0 at *
   obtain ⟨X, hX⟩ : ∃ X, c.getD 0 B0 = X := ⟨_, rfl⟩
   have a8 := r_CheckCell X
   have a9 := c_CheckCell X
   have b1 := c_Shadow s0 sun X hl0
   have b2 := c_Cut l sun X hl hls
   have b3 := c_Light l sun X hl hls
   have b4 := c_Shares l sun c hl hls hc
   have f1 : PC 20 [iL [chkShp s0, chkSun sun, chkBx X]] (DV.int .i64 (shE s0 sun X)) := l_first [chkShp s0, chkSun sun, chkBx X] (by simp)
   have f2 : PC 20 [iL [chkShps l, chkSun sun, chkBx X]] (DV.int .i64 (lgE l sun X)) := l_first [chkShps l, chkSun sun, chkBx X] (by simp)
   have f3 : PC 20 [iL [chkShps l, chkSun sun, chkBxs c]] (DV.int .i64 (srE l sun c)) := l_first [chkShps l, chkSun sun, chkBxs c] (by simp)
   have pN : PC 43 [.list [], .list []] (.bool true) := r_SamePoints [] (by decide)
   have iN : PC 29 [.list [], .list []] (.bool true) := by have := q_SameInts [] [] (by decide); rwa [dec_same] at this
   have rN : PC 44 [.list [], .list []] (.bool true) := r_SameRatios [] (by decide)
   have g3 := q_SameInts (cutS l sun X) (cutS l sun X) (by unfold cutS; rw [rng_len]; omega)
   rw [dec_same] at g3
   have g5 := r_SameRatios (c.map (shrR l sun)) (by rw [List.length_map]; exact hc)
   have go : PC 4 [shps l, encV sun, cels c] (.bool true) := by
    by_cases h1 : shE s0 sun X = 0
    all_goals by_cases h2 : lgE l sun X = 0
    all_goals by_cases h3 : srE l sun c = 0
    all_goals first
     |rw [show shS s0 sun X = (shdL s0 sun (spotsL X), 0) from if_neg (fun h => h h1)] at b1
      have c1 := r_Shadow s0 sun X (shE_zero h1).1 (shE_zero h1).2.1 (shE_zero h1).2.2
      have g1 := r_SamePoints (shdL s0 sun (spotsL X)) (shd_len (shE_zero h1).2.2)
      rw [h1] at f1
     |rw [show shS s0 sun X = ([], shE s0 sun X) from if_pos h1] at b1
      have c1 := aw
      have g1 := pN
      generalize shE s0 sun X = E1 at *
    all_goals first
     |rw [show cuS l sun X = (cutS l sun X, 0) from if_neg (fun h => h h2)] at b2
      rw [show lgS l sun X = (lightS l sun X, 0) from if_neg (fun h => h h2)] at b3
      have c2 := r_Cut l sun X (lgE_zero h2).1.1 (lgE_zero h2).1.2 (lgE_zero h2).2.1 (lgE_zero h2).2.2
      have c3 := r_Light l sun X (lgE_zero h2).1.1 (lgE_zero h2).1.2 (lgE_zero h2).2.1 (lgE_zero h2).2.2
      rw [h2] at f2
     |rw [show cuS l sun X = ([], lgE l sun X) from if_pos h2] at b2
      rw [show lgS l sun X = (0, lgE l sun X) from if_pos h2] at b3
      have c2 := aw
      have c3 := aw
      replace g3 := iN
      generalize lgE l sun X = E2 at *
    all_goals first
     |rw [show srS l sun c = (c.map (shrR l sun), 0) from if_neg (fun h => h h3)] at b4
      have c4 := r_Shares l sun c (srE_zero h3).1.1 (srE_zero h3).1.2 (srE_zero h3).2.1 (srE_zero h3).2.2.1 (srE_zero h3).2.2.2
      rw [h3] at f3
     |rw [show srS l sun c = ([], srE l sun c) from if_pos h3] at b4
      have c4 := aw
      replace g5 := rN
      generalize srE l sun c = E3 at *
    all_goals rcases hlen with n1 | ⟨n1, n2⟩
    all_goals
     refine pureCall_ofR dh4 rfl ?_
     conv => whnf
     conv => whnf
     repeat' (first
      |(refine ⟨fun hg => ?_, fun hg => ?_⟩ <;> first | contradiction | (exfalso; revert hg; simp; done) | (exfalso; exact absurd (of_decide_eq_true hg) (by assumption)) | (exfalso; exact absurd (by assumption) (of_decide_eq_false hg)) | (conv => whnf))
      |(refine Or.inl ?_; conv => whnf)
      |(refine ⟨_, kS, ?_⟩; conv => whnf)
      |(refine And.intro ?_ ?_; kernel_rfl; conv => whnf))
     refine dwp_loopU (P := Tryz.prog) (G := GC) (k := dk4_0) (b := db4_0) (α := Nat) (fun i => [(41, DV.int .i64 (i))]) (fun _ => [(4, .box 3 (encV sun))]) (fun i => i ≤ c.length) (fun i => c.length - i) 0 (Nat.zero_le _) ?_
     conv => whnf
     refine ⟨rfl, rfl, ?_⟩
     conv => whnf
     refine ⟨rfl, ?_⟩
     intro i j1
     conv => whnf
     refine ⟨fun hb => ?_, fun hb => ?_⟩
     ·have hi : i < c.length := by simpa using hb
      clear hb
      have k9 := r_Small (c.getD i B0)
      conv => whnf
      rw [getD_enc _ _ (i) B0 hi]
      refine ⟨idxA hi rfl, ?_⟩
      conv => whnf
      repeat' (first
       |(refine ⟨fun hg => ?_, fun hg => ?_⟩ <;> first | contradiction | (conv => whnf))
       |(refine Or.inl ?_; conv => whnf)
       |(refine ⟨_, k9, ?_⟩; conv => whnf)
       |(refine ⟨_, aw .., ?_⟩; conv => whnf)
       |(refine And.intro ?_ ?_; kernel_rfl; conv => whnf))
      ·rfl
      ·rw [wrap_succ i (by omega)]
       exact ⟨i + 1, rfl, rfl, rfl, hi, by omega⟩
     ·clear hb
      conv => whnf
      refine ⟨fun hg => ?_, fun hg => ?_⟩
      ·have hi : 0 < c.length := by have : (0 : Int) < _ := of_decide_eq_true hg; rw [e0] at this; omega
       clear hg
       conv => whnf
       rw [getD_enc' _ _ 0 B0 (by decide) (by omega)]
       refine ⟨idxB (by decide) (by omega) rfl, ?_⟩
       rw [show c.getD (Int.toNat 0) B0 = X from hX]
       conv => whnf
       repeat' (first
        |(refine ⟨fun hg => ?_, fun hg => ?_⟩ <;> first | contradiction | (exfalso; revert hg; simp; done) | (exfalso; exact absurd (of_decide_eq_true hg) (by assumption)) | (exfalso; exact absurd (by assumption) (of_decide_eq_false hg)) | (conv => whnf))
        |(refine Or.inl ?_; conv => whnf)
        |(refine ⟨_, a1, ?_⟩; conv => whnf)
        |(refine ⟨_, a2, ?_⟩; conv => whnf)
        |(refine ⟨_, a3, ?_⟩; conv => whnf)
        |(refine ⟨_, a4, ?_⟩; conv => whnf)
        |(refine ⟨_, a5, ?_⟩; conv => whnf)
        |(refine ⟨_, a6, ?_⟩; conv => whnf)
        |(refine ⟨_, a7, ?_⟩; conv => whnf)
        |(refine ⟨_, a8, ?_⟩; conv => whnf)
        |(refine ⟨_, a9, ?_⟩; conv => whnf)
        |(refine ⟨_, d1, ?_⟩; conv => whnf)
        |(refine ⟨_, b1, ?_⟩; conv => whnf)
        |(refine ⟨_, b2, ?_⟩; conv => whnf)
        |(refine ⟨_, b3, ?_⟩; conv => whnf)
        |(refine ⟨_, b4, ?_⟩; conv => whnf)
        |(refine ⟨_, f1, ?_⟩; conv => whnf)
        |(refine ⟨_, f2, ?_⟩; conv => whnf)
        |(refine ⟨_, f3, ?_⟩; conv => whnf)
        |(refine ⟨_, c1, ?_⟩; conv => whnf)
        |(refine ⟨_, c2, ?_⟩; conv => whnf)
        |(refine ⟨_, c3, ?_⟩; conv => whnf)
        |(refine ⟨_, c4, ?_⟩; conv => whnf)
        |(refine ⟨_, g1, ?_⟩; conv => whnf)
        |(refine ⟨_, g3, ?_⟩; conv => whnf)
        |(refine ⟨_, g5, ?_⟩; conv => whnf)
        |(refine ⟨_, aw, ?_⟩; conv => whnf)
        |(refine And.intro ?_ ?_; kernel_rfl; conv => whnf))
       all_goals rfl
      ·have hi : ¬ 0 < c.length := by have : ¬ (0 : Int) < _ := of_decide_eq_false hg; rw [e0] at this; omega
       have hX0 : X = B0 := by rw [← hX, List.eq_nil_of_length_eq_zero (by omega : c.length = 0)]; rfl
       subst hX0
       clear hg
       conv => whnf
       repeat' (first
        |(refine ⟨fun hg => ?_, fun hg => ?_⟩ <;> first | contradiction | (exfalso; revert hg; simp; done) | (exfalso; exact absurd (of_decide_eq_true hg) (by assumption)) | (exfalso; exact absurd (by assumption) (of_decide_eq_false hg)) | (conv => whnf))
        |(refine Or.inl ?_; conv => whnf)
        |(refine ⟨_, a1, ?_⟩; conv => whnf)
        |(refine ⟨_, a2, ?_⟩; conv => whnf)
        |(refine ⟨_, a3, ?_⟩; conv => whnf)
        |(refine ⟨_, a4, ?_⟩; conv => whnf)
        |(refine ⟨_, a5, ?_⟩; conv => whnf)
        |(refine ⟨_, a6, ?_⟩; conv => whnf)
        |(refine ⟨_, a7, ?_⟩; conv => whnf)
        |(refine ⟨_, a8, ?_⟩; conv => whnf)
        |(refine ⟨_, a9, ?_⟩; conv => whnf)
        |(refine ⟨_, d1, ?_⟩; conv => whnf)
        |(refine ⟨_, b1, ?_⟩; conv => whnf)
        |(refine ⟨_, b2, ?_⟩; conv => whnf)
        |(refine ⟨_, b3, ?_⟩; conv => whnf)
        |(refine ⟨_, b4, ?_⟩; conv => whnf)
        |(refine ⟨_, f1, ?_⟩; conv => whnf)
        |(refine ⟨_, f2, ?_⟩; conv => whnf)
        |(refine ⟨_, f3, ?_⟩; conv => whnf)
        |(refine ⟨_, c1, ?_⟩; conv => whnf)
        |(refine ⟨_, c2, ?_⟩; conv => whnf)
        |(refine ⟨_, c3, ?_⟩; conv => whnf)
        |(refine ⟨_, c4, ?_⟩; conv => whnf)
        |(refine ⟨_, g1, ?_⟩; conv => whnf)
        |(refine ⟨_, g3, ?_⟩; conv => whnf)
        |(refine ⟨_, g5, ?_⟩; conv => whnf)
        |(refine ⟨_, aw, ?_⟩; conv => whnf)
        |(refine And.intro ?_ ?_; kernel_rfl; conv => whnf))
       all_goals rfl
   exact go
  ·have n1 : (4 : Int) < ((c.map encB).length : Int) := by omega
   have n2 : ((c.map encB).length : Int) ≠ 17 := by omega
   refine pureCall_ofR dh4 rfl ?_
   conv => whnf
   conv => whnf
   repeat' (first
    |(refine ⟨fun hg => ?_, fun hg => ?_⟩ <;> first | contradiction | (exfalso; revert hg; simp; done) | (exfalso; exact absurd (of_decide_eq_true hg) (by assumption)) | (exfalso; exact absurd (by assumption) (of_decide_eq_false hg)) | (conv => whnf))
    |(refine Or.inl ?_; conv => whnf)
    |(refine ⟨_, kS, ?_⟩; conv => whnf)
    |(refine ⟨_, aw, ?_⟩; conv => whnf)
    |(refine And.intro ?_ ?_; kernel_rfl; conv => whnf))
   all_goals rfl
 ·rw [show shortB l = false from by simpa using hsh] at kS
  refine pureCall_ofR dh4 rfl ?_
  conv => whnf
  conv => whnf
  repeat' (first
   |(refine ⟨fun hg => ?_, fun hg => ?_⟩ <;> first | contradiction | (exfalso; revert hg; simp; done) | (exfalso; exact absurd (of_decide_eq_true hg) (by assumption)) | (exfalso; exact absurd (by assumption) (of_decide_eq_false hg)) | (conv => whnf))
   |(refine Or.inl ?_; conv => whnf)
   |(refine ⟨_, kS, ?_⟩; conv => whnf)
   |(refine ⟨_, aw, ?_⟩; conv => whnf)
   |(refine And.intro ?_ ?_; kernel_rfl; conv => whnf))
  all_goals rfl
end Sh
