/-
  Chapter 3's functions, walked over pure data: the library of the walk, the functions' code over data, and what each computes. (part 7)
-/
import Derived.Test.YtkaglomkahhjcaaGreatDoorP6
import Derived.Test.YtkaglomkahhjcaaGreatDoorProg
import Derived.Lib.ItoaNum
import Derived.Lib.ItoaLen
import Derived.Lib.MapLaws
import Derived.Lib.Bytealg
import Derived.Lib.Join
import Derived.Lib.Strings
set_option linter.unusedVariables false
set_option linter.unusedSimpArgs false
set_option maxRecDepth 100000
namespace Sh
open Go
def dc80 : DFunc := ⟨22,2,[.cell 4 (some 2)],.seq (.ops false [⟨some 4,.alloc (.agg [.int .i64 0,.int .i64 0]) 2,none,[]⟩]) (.seq (.seq (.ops false [⟨some 6,.mov (.tmp 1),none,[]⟩,⟨some 7,.bin .lss (.tmp 6) (.const (.int .i64 0)),none,[]⟩]) (.cond (.tmp 7) (.ops false [⟨some 8,.mov (.tmp 0),none,[]⟩,⟨some 9,.bin .sub (.const (.int .i64 0)) (.tmp 8),none,[]⟩,⟨some 10,.mov (.tmp 1),none,[]⟩,⟨some 11,.bin .sub (.const (.int .i64 0)) (.tmp 10),none,[]⟩,⟨some 0,.mov (.tmp 9),none,[]⟩,⟨some 1,.mov (.tmp 11),none,[]⟩]) .skip)) (.seq (.ops false [⟨some 12,.mov (.tmp 0),none,[]⟩,⟨some 13,.mov (.tmp 1),none,[]⟩,⟨some 14,.call (.func 143) [.tmp 12,.tmp 13],none,[]⟩,⟨some 5,.mov (.tmp 14),none,[]⟩]) (.seq (.ops true [⟨some 15,.mov (.tmp 0),none,[]⟩,⟨some 16,.mov (.tmp 5),none,[]⟩,⟨some 17,.bin .quo (.tmp 15) (.tmp 16),none,[0,1]⟩,⟨some 18,.mov (.tmp 1),none,[]⟩,⟨some 19,.mov (.tmp 5),none,[]⟩,⟨some 20,.bin .quo (.tmp 18) (.tmp 19),none,[3,4]⟩,⟨some 21,.build [.int .i64 0,.int .i64 0] [(0,(1,(.tmp 17))),(1,(1,(.tmp 20)))],none,[2,0,1,5,3,4]⟩,⟨none,.store 2 (.tmp 4) (.tmp 21),none,[6,2,0,1,5,3,4]⟩]) .ret)))⟩
theorem dh80:cProg Go.Proofs.Tryz.prog ⟨[],[],[]⟩ 80=some dc80:=by kernel_rfl
end Sh

namespace Sh
open Go
def db93_0 : DC := (.seq (.seq (.ops false [⟨some 5,.mov (.tmp 4),none,[]⟩,⟨some 6,.mov (.tmp 0),none,[]⟩,⟨some 7,.len (.tmp 6),none,[]⟩,⟨some 8,.bin .lss (.tmp 5) (.tmp 7),none,[]⟩]) (.cond (.tmp 8) .skip (.exit 0))) (.seq (.block 1 none (.ops false [⟨some 11,.mov (.tmp 3),none,[]⟩,⟨some 12,.lit true 3 0 (.agg [.int .i64 0,.int .i64 0,.int .i64 0]) [],none,[]⟩,⟨some 13,.mov (.tmp 0),none,[]⟩,⟨some 14,.mov (.tmp 4),none,[]⟩,⟨some 15,.iaddr 1 (.tmp 13) (.tmp 14),none,[]⟩,⟨some 16,.load none (.tmp 15),none,[]⟩,⟨some 17,.append true 3 (.tmp 12) (.tmp 16),none,[]⟩,⟨some 18,.lit true 1 1 (.full []) [(0,(.tmp 17))],none,[]⟩,⟨some 19,.append false 1 (.tmp 11) (.tmp 18),none,[]⟩,⟨some 3,.mov (.tmp 19),none,[]⟩])) (.ops false [⟨some 9,.mov (.tmp 4),none,[]⟩,⟨some 10,.bin .add (.tmp 9) (.const (.int .i64 1)),none,[]⟩,⟨some 4,.mov (.tmp 10),none,[]⟩])))
def dk93_0 : Keep := ⟨[(3,1)],[0,3,4],[3]⟩
def dc93 : DFunc := ⟨21,1,[.tmp 2],.seq (.ops false [⟨some 2,.mov (.const (.slice none 0 0)),none,[]⟩]) (.seq (.ops false [⟨some 3,.mov (.const (.slice none 0 0)),none,[]⟩]) (.seq (.seq (.ops false [⟨some 4,.mov (.const (.int .i64 0)),none,[]⟩]) (.block 0 (some ⟨[],[3],[3]⟩) (.loop dk93_0 db93_0))) (.seq (.ops false [⟨some 20,.mov (.tmp 3),none,[]⟩,⟨some 2,.mov (.tmp 20),none,[]⟩]) .ret)))⟩
theorem dh93:cProg Go.Proofs.Tryz.prog ⟨[(0,⟨[(3,1)],[0,3,4],[3]⟩)],[(0,⟨[],[3],[3]⟩)],[12,17,18]⟩ 93=some dc93:=by kernel_rfl
def db94_0 : DC := (.seq (.seq (.ops false [⟨some 4,.mov (.tmp 3),none,[]⟩,⟨some 5,.mov (.tmp 0),none,[]⟩,⟨some 6,.len (.tmp 5),none,[]⟩,⟨some 7,.bin .lss (.tmp 4) (.tmp 6),none,[]⟩]) (.cond (.tmp 7) .skip (.exit 0))) (.seq (.block 1 none (.seq (.ops false [⟨some 10,.mov (.tmp 0),none,[]⟩,⟨some 11,.mov (.tmp 3),none,[]⟩,⟨some 12,.iaddr 1 (.tmp 10) (.tmp 11),none,[]⟩,⟨some 13,.load none (.tmp 12),none,[]⟩,⟨some 14,.bin .neq (.tmp 13) (.const (.int .i64 0)),none,[]⟩]) (.cond (.tmp 14) (.seq (.ops false [⟨some 15,.mov (.tmp 0),none,[]⟩,⟨some 16,.mov (.tmp 3),none,[]⟩,⟨some 17,.iaddr 1 (.tmp 15) (.tmp 16),none,[]⟩,⟨some 18,.load none (.tmp 17),none,[]⟩,⟨some 2,.mov (.tmp 18),none,[]⟩]) .ret) .skip))) (.ops false [⟨some 8,.mov (.tmp 3),none,[]⟩,⟨some 9,.bin .add (.tmp 8) (.const (.int .i64 1)),none,[]⟩,⟨some 3,.mov (.tmp 9),none,[]⟩])))
def dk94_0 : Keep := ⟨[],[0,3],[]⟩
def dc94 : DFunc := ⟨19,1,[.tmp 2],.seq (.ops false [⟨some 2,.mov (.const (.int .i64 0)),none,[]⟩]) (.seq (.seq (.ops false [⟨some 3,.mov (.const (.int .i64 0)),none,[]⟩]) (.block 0 (some ⟨[],[],[]⟩) (.loop dk94_0 db94_0))) (.seq (.ops false [⟨some 2,.mov (.const (.int .i64 0)),none,[]⟩]) .ret))⟩
theorem dh94:cProg Go.Proofs.Tryz.prog ⟨[(0,⟨[],[0,3],[]⟩)],[(0,⟨[],[],[]⟩)],[]⟩ 94=some dc94:=by kernel_rfl
def dc95 : DFunc := ⟨7,2,[.tmp 4],.seq (.ops false [⟨some 4,.mov (.const (.int .i64 0)),none,[]⟩]) (.seq (.seq (.ops false [⟨some 5,.mov (.tmp 0),none,[]⟩]) (.cond (.tmp 5) (.seq (.ops false [⟨some 6,.mov (.tmp 1),none,[]⟩,⟨some 4,.mov (.tmp 6),none,[]⟩]) .ret) .skip)) (.seq (.ops false [⟨some 4,.mov (.const (.int .i64 0)),none,[]⟩]) .ret))⟩
theorem dh95:cProg Go.Proofs.Tryz.prog ⟨[],[],[]⟩ 95=some dc95:=by kernel_rfl
def dc96 : DFunc := ⟨16,3,[.tmp 6],.seq (.ops false [⟨some 6,.mov (.const (.int .i64 0)),none,[]⟩]) (.seq (.ops false [⟨some 7,.mov (.tmp 0),none,[]⟩,⟨some 8,.mov (.tmp 1),none,[]⟩,⟨some 9,.bin .lss (.tmp 7) (.tmp 8),none,[]⟩,⟨some 10,.mov (.tmp 9),none,[]⟩,⟨some 11,.mov (.tmp 0),some (10,false),[]⟩,⟨some 12,.mov (.tmp 2),some (10,false),[]⟩,⟨some 13,.bin .gtr (.tmp 11) (.tmp 12),some (10,false),[]⟩,⟨some 14,.pick (.tmp 10) (.const (.bool true)) (.tmp 13),none,[]⟩,⟨some 15,.call (.func 95) [.tmp 14,.const (.int .i64 3)],none,[]⟩,⟨some 6,.mov (.tmp 15),none,[]⟩]) .ret)⟩
theorem dh96:cProg Go.Proofs.Tryz.prog ⟨[],[],[]⟩ 96=some dc96:=by kernel_rfl
def db97_0 : DC := (.seq (.seq (.ops false [⟨some 57,.mov (.tmp 8),none,[]⟩,⟨some 58,.mov (.tmp 0),none,[]⟩,⟨some 59,.len (.tmp 58),none,[]⟩,⟨some 60,.bin .lss (.tmp 57) (.tmp 59),none,[]⟩]) (.cond (.tmp 60) .skip (.exit 2))) (.seq (.block 3 none (.seq (.ops true [⟨some 63,.load (some 3) (.tmp 3),none,[]⟩,⟨some 64,.load (some 3) (.tmp 6),none,[]⟩,⟨some 65,.load (some 3) (.tmp 5),none,[]⟩,⟨some 66,.call (.func 101) [.tmp 64,.tmp 65],none,[1,2]⟩,⟨some 67,.mov (.tmp 0),none,[]⟩,⟨some 68,.mov (.tmp 8),none,[]⟩,⟨some 69,.iaddr 3 (.tmp 67) (.tmp 68),none,[4,5]⟩,⟨some 70,.load (some 3) (.tmp 69),none,[6,4,5]⟩,⟨some 71,.load (some 3) (.tmp 5),none,[]⟩,⟨some 72,.call (.func 101) [.tmp 70,.tmp 71],none,[7,6,4,5,8,3,1,2]⟩,⟨some 73,.call (.func 102) [.tmp 66,.tmp 72],none,[3,1,2,9,7,6,4,5,8]⟩,⟨some 74,.call (.func 99) [.tmp 63,.tmp 73],none,[0,10,3,1,2,9,7,6,4,5,8]⟩,⟨some 75,.bin .lss (.tmp 74) (.const (.int .i64 0)),none,[11,0,10,3,1,2,9,7,6,4,5,8]⟩]) (.cond (.tmp 75) (.seq (.ops false [⟨some 2,.mov (.const (.bool false)),none,[]⟩]) .ret) .skip))) (.ops false [⟨some 61,.mov (.tmp 8),none,[]⟩,⟨some 62,.bin .add (.tmp 61) (.const (.int .i64 1)),none,[]⟩,⟨some 8,.mov (.tmp 62),none,[]⟩])))
def dk97_0 : Keep := ⟨[],[0,3,4,5,6,8],[3,5,6,7]⟩
def db97_1 : DC := (.seq (.seq (.ops false [⟨some 11,.mov (.tmp 4),none,[]⟩,⟨some 12,.mov (.tmp 0),none,[]⟩,⟨some 13,.len (.tmp 12),none,[]⟩,⟨some 14,.bin .lss (.tmp 11) (.tmp 13),none,[]⟩]) (.cond (.tmp 14) .skip (.exit 0))) (.seq (.block 1 (some ⟨[],[0,3,4],[3]⟩) (.seq (.ops true [⟨some 17,.mov (.tmp 0),none,[]⟩,⟨some 18,.mov (.tmp 4),none,[]⟩,⟨some 19,.iaddr 3 (.tmp 17) (.tmp 18),none,[0,1]⟩,⟨some 20,.load (some 3) (.tmp 19),none,[2,0,1]⟩,⟨some 21,.mov (.tmp 0),none,[]⟩,⟨some 22,.mov (.tmp 4),none,[]⟩,⟨some 23,.bin .add (.tmp 22) (.const (.int .i64 1)),none,[5]⟩,⟨some 24,.mov (.tmp 0),none,[]⟩,⟨some 25,.len (.tmp 24),none,[7]⟩,⟨some 26,.bin .rem (.tmp 23) (.tmp 25),none,[6,5,8,7]⟩,⟨some 27,.iaddr 3 (.tmp 21) (.tmp 26),none,[4,9,6,5,8,7]⟩,⟨some 28,.load (some 3) (.tmp 27),none,[10,4,9,6,5,8,7]⟩,⟨some 29,.mov (.tmp 0),none,[]⟩,⟨some 30,.mov (.tmp 4),none,[]⟩,⟨some 31,.bin .add (.tmp 30) (.const (.int .i64 2)),none,[13]⟩,⟨some 32,.mov (.tmp 0),none,[]⟩,⟨some 33,.len (.tmp 32),none,[15]⟩,⟨some 34,.bin .rem (.tmp 31) (.tmp 33),none,[14,13,16,15]⟩,⟨some 35,.iaddr 3 (.tmp 29) (.tmp 34),none,[12,17,14,13,16,15]⟩,⟨some 36,.load (some 3) (.tmp 35),none,[18,12,17,14,13,16,15]⟩,⟨some 5,.alloc (.agg [.int .i64 0,.int .i64 0,.int .i64 0]) 3,none,[]⟩,⟨some 6,.alloc (.agg [.int .i64 0,.int .i64 0,.int .i64 0]) 3,none,[]⟩,⟨some 7,.alloc (.agg [.int .i64 0,.int .i64 0,.int .i64 0]) 3,none,[]⟩,⟨none,.store 3 (.tmp 5) (.tmp 20),none,[20,3,2,0,1,21,22]⟩,⟨none,.store 3 (.tmp 6) (.tmp 28),none,[21,11,10,4,9,6,5,8,7,23,20,3,2,0,1,22]⟩,⟨none,.store 3 (.tmp 7) (.tmp 36),none,[22,19,18,12,17,14,13,16,15,24,21,11,10,4,9,6,5,8,7,23,20,3,2,0,1]⟩]) (.seq (.seq (.ops true [⟨some 37,.load (some 3) (.tmp 3),none,[]⟩,⟨some 38,.load (some 3) (.tmp 5),none,[]⟩,⟨some 39,.mov (.tmp 0),none,[]⟩,⟨some 40,.iaddr 3 (.tmp 39) (.const (.int .i64 0)),none,[2]⟩,⟨some 41,.load (some 3) (.tmp 40),none,[3,2]⟩,⟨some 42,.call (.func 101) [.tmp 38,.tmp 41],none,[1,4,3,2]⟩,⟨some 43,.call (.func 99) [.tmp 37,.tmp 42],none,[0,5,1,4,3,2]⟩,⟨some 44,.bin .neq (.tmp 43) (.const (.int .i64 0)),none,[6,0,5,1,4,3,2]⟩,⟨some 45,.mov (.tmp 44),none,[7,6,0,5,1,4,3,2]⟩,⟨some 46,.load (some 3) (.tmp 3),some (45,false),[8,7,6,0,5,1,4,3,2]⟩,⟨some 47,.load (some 3) (.tmp 6),some (45,false),[8,7,6,0,5,1,4,3,2]⟩,⟨some 48,.load (some 3) (.tmp 5),some (45,false),[8,7,6,0,5,1,4,3,2]⟩,⟨some 49,.call (.func 101) [.tmp 47,.tmp 48],some (45,false),[10,8,7,6,0,5,1,4,3,2,11]⟩,⟨some 50,.load (some 3) (.tmp 7),some (45,false),[8,7,6,0,5,1,4,3,2]⟩,⟨some 51,.load (some 3) (.tmp 6),some (45,false),[8,7,6,0,5,1,4,3,2]⟩,⟨some 52,.call (.func 101) [.tmp 50,.tmp 51],some (45,false),[13,8,7,6,0,5,1,4,3,2,14,12,10,11]⟩,⟨some 53,.call (.func 102) [.tmp 49,.tmp 52],some (45,false),[12,10,8,7,6,0,5,1,4,3,2,11,15,13,14]⟩,⟨some 54,.call (.func 99) [.tmp 46,.tmp 53],some (45,false),[9,8,7,6,0,5,1,4,3,2,16,12,10,11,15,13,14]⟩,⟨some 55,.bin .leq (.tmp 54) (.const (.int .i64 0)),some (45,false),[17,9,8,7,6,0,5,1,4,3,2,16,12,10,11,15,13,14]⟩,⟨some 56,.pick (.tmp 45) (.const (.bool true)) (.tmp 55),none,[8,7,6,0,5,1,4,3,2,18,17,9,16,12,10,11,15,13,14]⟩]) (.cond (.tmp 56) (.seq (.ops false [⟨some 2,.mov (.const (.bool false)),none,[]⟩]) .ret) .skip)) (.seq (.ops false [⟨some 8,.mov (.const (.int .i64 0)),none,[]⟩]) (.block 2 (some ⟨[],[0,3,4],[3,5,6,7]⟩) (.loop dk97_0 db97_0)))))) (.ops false [⟨some 15,.mov (.tmp 4),none,[]⟩,⟨some 16,.bin .add (.tmp 15) (.const (.int .i64 1)),none,[]⟩,⟨some 4,.mov (.tmp 16),none,[]⟩])))
def dk97_1 : Keep := ⟨[],[0,3,4],[3]⟩
def dc97 : DFunc := ⟨76,1,[.tmp 2],.seq (.ops false [⟨some 2,.mov (.const (.bool false)),none,[]⟩]) (.seq (.ops false [⟨some 9,.mov (.tmp 0),none,[]⟩,⟨some 10,.call (.func 98) [.tmp 9],none,[]⟩,⟨some 3,.alloc (.agg [.int .i64 0,.int .i64 0,.int .i64 0]) 3,none,[]⟩,⟨none,.store 3 (.tmp 3) (.tmp 10),none,[]⟩]) (.seq (.seq (.ops false [⟨some 4,.mov (.const (.int .i64 0)),none,[]⟩]) (.block 0 (some ⟨[],[],[3]⟩) (.loop dk97_1 db97_1))) (.seq (.ops false [⟨some 2,.mov (.const (.bool true)),none,[]⟩]) .ret)))⟩
theorem dh97:cProg Go.Proofs.Tryz.prog ⟨[(0,⟨[],[0,3,4],[3]⟩),(2,⟨[],[0,3,4,5,6,8],[3,5,6,7]⟩)],[(2,⟨[],[0,3,4],[3,5,6,7]⟩),(1,⟨[],[0,3,4],[3]⟩),(0,⟨[],[],[3]⟩)],[]⟩ 97=some dc97:=by kernel_rfl
def dc98 : DFunc := ⟨18,1,[.cell 2 (some 3)],.seq (.ops false [⟨some 2,.alloc (.agg [.int .i64 0,.int .i64 0,.int .i64 0]) 3,none,[]⟩]) (.seq (.ops true [⟨some 3,.mov (.tmp 0),none,[]⟩,⟨some 4,.iaddr 3 (.tmp 3) (.const (.int .i64 1)),none,[0]⟩,⟨some 5,.load (some 3) (.tmp 4),none,[1,0]⟩,⟨some 6,.mov (.tmp 0),none,[]⟩,⟨some 7,.iaddr 3 (.tmp 6) (.const (.int .i64 0)),none,[3]⟩,⟨some 8,.load (some 3) (.tmp 7),none,[4,3]⟩,⟨some 9,.call (.func 101) [.tmp 5,.tmp 8],none,[2,1,0,5,4,3]⟩,⟨some 10,.mov (.tmp 0),none,[]⟩,⟨some 11,.iaddr 3 (.tmp 10) (.const (.int .i64 2)),none,[7]⟩,⟨some 12,.load (some 3) (.tmp 11),none,[8,7]⟩,⟨some 13,.mov (.tmp 0),none,[]⟩,⟨some 14,.iaddr 3 (.tmp 13) (.const (.int .i64 0)),none,[10]⟩,⟨some 15,.load (some 3) (.tmp 14),none,[11,10]⟩,⟨some 16,.call (.func 101) [.tmp 12,.tmp 15],none,[9,8,7,12,11,10,6,2,1,0,5,4,3]⟩,⟨some 17,.call (.func 102) [.tmp 9,.tmp 16],none,[6,2,1,0,5,4,3,13,9,8,7,12,11,10]⟩,⟨none,.store 3 (.tmp 2) (.tmp 17),none,[14,6,2,1,0,5,4,3,13,9,8,7,12,11,10]⟩]) .ret)⟩
theorem dh98:cProg Go.Proofs.Tryz.prog ⟨[],[],[]⟩ 98=some dc98:=by kernel_rfl
def dc99 : DFunc := ⟨22,2,[.tmp 4],.seq (.ops false [⟨some 2,.box 3 (.tmp 0),none,[]⟩,⟨some 3,.box 3 (.tmp 1),none,[]⟩,⟨some 4,.mov (.const (.int .i64 0)),none,[]⟩]) (.seq (.ops false [⟨some 5,.faddr 0 1 false (.tmp 2),none,[]⟩,⟨some 6,.load none (.tmp 5),none,[]⟩,⟨some 7,.faddr 0 1 false (.tmp 3),none,[]⟩,⟨some 8,.load none (.tmp 7),none,[]⟩,⟨some 9,.bin .mul (.tmp 6) (.tmp 8),none,[]⟩,⟨some 10,.faddr 1 1 false (.tmp 2),none,[]⟩,⟨some 11,.load none (.tmp 10),none,[]⟩,⟨some 12,.faddr 1 1 false (.tmp 3),none,[]⟩,⟨some 13,.load none (.tmp 12),none,[]⟩,⟨some 14,.bin .mul (.tmp 11) (.tmp 13),none,[]⟩,⟨some 15,.bin .add (.tmp 9) (.tmp 14),none,[]⟩,⟨some 16,.faddr 2 1 false (.tmp 2),none,[]⟩,⟨some 17,.load none (.tmp 16),none,[]⟩,⟨some 18,.faddr 2 1 false (.tmp 3),none,[]⟩,⟨some 19,.load none (.tmp 18),none,[]⟩,⟨some 20,.bin .mul (.tmp 17) (.tmp 19),none,[]⟩,⟨some 21,.bin .add (.tmp 15) (.tmp 20),none,[]⟩,⟨some 4,.mov (.tmp 21),none,[]⟩]) .ret)⟩
theorem dh99:cProg Go.Proofs.Tryz.prog ⟨[],[],[]⟩ 99=some dc99:=by kernel_rfl
def dc101 : DFunc := ⟨21,2,[.cell 4 (some 3)],.seq (.ops false [⟨some 2,.box 3 (.tmp 0),none,[]⟩,⟨some 3,.box 3 (.tmp 1),none,[]⟩,⟨some 4,.alloc (.agg [.int .i64 0,.int .i64 0,.int .i64 0]) 3,none,[]⟩]) (.seq (.ops false [⟨some 5,.faddr 0 1 false (.tmp 2),none,[]⟩,⟨some 6,.load none (.tmp 5),none,[]⟩,⟨some 7,.faddr 0 1 false (.tmp 3),none,[]⟩,⟨some 8,.load none (.tmp 7),none,[]⟩,⟨some 9,.bin .sub (.tmp 6) (.tmp 8),none,[]⟩,⟨some 10,.faddr 1 1 false (.tmp 2),none,[]⟩,⟨some 11,.load none (.tmp 10),none,[]⟩,⟨some 12,.faddr 1 1 false (.tmp 3),none,[]⟩,⟨some 13,.load none (.tmp 12),none,[]⟩,⟨some 14,.bin .sub (.tmp 11) (.tmp 13),none,[]⟩,⟨some 15,.faddr 2 1 false (.tmp 2),none,[]⟩,⟨some 16,.load none (.tmp 15),none,[]⟩,⟨some 17,.faddr 2 1 false (.tmp 3),none,[]⟩,⟨some 18,.load none (.tmp 17),none,[]⟩,⟨some 19,.bin .sub (.tmp 16) (.tmp 18),none,[]⟩,⟨some 20,.build [.int .i64 0,.int .i64 0,.int .i64 0] [(0,(1,(.tmp 9))),(1,(1,(.tmp 14))),(2,(1,(.tmp 19)))],none,[]⟩,⟨none,.store 3 (.tmp 4) (.tmp 20),none,[]⟩]) .ret)⟩
theorem dh101:cProg Go.Proofs.Tryz.prog ⟨[],[],[]⟩ 101=some dc101:=by kernel_rfl
def dc102 : DFunc := ⟨39,2,[.cell 4 (some 3)],.seq (.ops false [⟨some 2,.box 3 (.tmp 0),none,[]⟩,⟨some 3,.box 3 (.tmp 1),none,[]⟩,⟨some 4,.alloc (.agg [.int .i64 0,.int .i64 0,.int .i64 0]) 3,none,[]⟩]) (.seq (.ops false [⟨some 5,.faddr 1 1 false (.tmp 2),none,[]⟩,⟨some 6,.load none (.tmp 5),none,[]⟩,⟨some 7,.faddr 2 1 false (.tmp 3),none,[]⟩,⟨some 8,.load none (.tmp 7),none,[]⟩,⟨some 9,.bin .mul (.tmp 6) (.tmp 8),none,[]⟩,⟨some 10,.faddr 2 1 false (.tmp 2),none,[]⟩,⟨some 11,.load none (.tmp 10),none,[]⟩,⟨some 12,.faddr 1 1 false (.tmp 3),none,[]⟩,⟨some 13,.load none (.tmp 12),none,[]⟩,⟨some 14,.bin .mul (.tmp 11) (.tmp 13),none,[]⟩,⟨some 15,.bin .sub (.tmp 9) (.tmp 14),none,[]⟩,⟨some 16,.faddr 2 1 false (.tmp 2),none,[]⟩,⟨some 17,.load none (.tmp 16),none,[]⟩,⟨some 18,.faddr 0 1 false (.tmp 3),none,[]⟩,⟨some 19,.load none (.tmp 18),none,[]⟩,⟨some 20,.bin .mul (.tmp 17) (.tmp 19),none,[]⟩,⟨some 21,.faddr 0 1 false (.tmp 2),none,[]⟩,⟨some 22,.load none (.tmp 21),none,[]⟩,⟨some 23,.faddr 2 1 false (.tmp 3),none,[]⟩,⟨some 24,.load none (.tmp 23),none,[]⟩,⟨some 25,.bin .mul (.tmp 22) (.tmp 24),none,[]⟩,⟨some 26,.bin .sub (.tmp 20) (.tmp 25),none,[]⟩,⟨some 27,.faddr 0 1 false (.tmp 2),none,[]⟩,⟨some 28,.load none (.tmp 27),none,[]⟩,⟨some 29,.faddr 1 1 false (.tmp 3),none,[]⟩,⟨some 30,.load none (.tmp 29),none,[]⟩,⟨some 31,.bin .mul (.tmp 28) (.tmp 30),none,[]⟩,⟨some 32,.faddr 1 1 false (.tmp 2),none,[]⟩,⟨some 33,.load none (.tmp 32),none,[]⟩,⟨some 34,.faddr 0 1 false (.tmp 3),none,[]⟩,⟨some 35,.load none (.tmp 34),none,[]⟩,⟨some 36,.bin .mul (.tmp 33) (.tmp 35),none,[]⟩,⟨some 37,.bin .sub (.tmp 31) (.tmp 36),none,[]⟩,⟨some 38,.build [.int .i64 0,.int .i64 0,.int .i64 0] [(0,(1,(.tmp 15))),(1,(1,(.tmp 26))),(2,(1,(.tmp 37)))],none,[]⟩,⟨none,.store 3 (.tmp 4) (.tmp 38),none,[]⟩]) .ret)⟩
theorem dh102:cProg Go.Proofs.Tryz.prog ⟨[],[],[]⟩ 102=some dc102:=by kernel_rfl
end Sh

namespace Sh
open Go
def db143_0 : DC := (.seq (.seq (.ops false [⟨some 13,.mov (.tmp 1),none,[]⟩,⟨some 14,.bin .neq (.tmp 13) (.const (.int .i64 0)),none,[]⟩]) (.cond (.tmp 14) .skip (.exit 0))) (.block 1 none (.ops true [⟨some 15,.mov (.tmp 1),none,[]⟩,⟨some 16,.mov (.tmp 0),none,[]⟩,⟨some 17,.mov (.tmp 1),none,[]⟩,⟨some 18,.bin .rem (.tmp 16) (.tmp 17),none,[1,2]⟩,⟨some 0,.mov (.tmp 15),none,[0,1]⟩,⟨some 1,.mov (.tmp 18),none,[3,1,2,4,0]⟩])))
def dk143_0 : Keep := ⟨[],[0,1],[]⟩
def dc143 : DFunc := ⟨20,2,[.tmp 4],.seq (.ops false [⟨some 4,.mov (.const (.int .i64 0)),none,[]⟩]) (.seq (.ops false [⟨some 5,.mov (.tmp 0),none,[]⟩,⟨some 6,.mov (.tmp 0),none,[]⟩,⟨some 7,.bin .sub (.const (.int .i64 0)) (.tmp 6),none,[]⟩,⟨some 8,.minmax true (.tmp 5) [.tmp 7],none,[]⟩,⟨some 9,.mov (.tmp 1),none,[]⟩,⟨some 10,.mov (.tmp 1),none,[]⟩,⟨some 11,.bin .sub (.const (.int .i64 0)) (.tmp 10),none,[]⟩,⟨some 12,.minmax true (.tmp 9) [.tmp 11],none,[]⟩,⟨some 0,.mov (.tmp 8),none,[]⟩,⟨some 1,.mov (.tmp 12),none,[]⟩]) (.seq (.block 0 (some ⟨[],[0],[]⟩) (.loop dk143_0 db143_0)) (.seq (.ops false [⟨some 19,.mov (.tmp 0),none,[]⟩,⟨some 4,.mov (.tmp 19),none,[]⟩]) .ret)))⟩
theorem dh143:cProg Go.Proofs.Tryz.prog ⟨[(0,⟨[],[0,1],[]⟩)],[(0,⟨[],[0],[]⟩)],[]⟩ 143=some dc143:=by kernel_rfl
end Sh

namespace Sh
open Go
def dc16 : DFunc := ⟨6,1,[.tmp 2],.seq (.ops false [⟨some 2,.mov (.const (.slice none 0 0)),none,[]⟩]) (.seq (.ops false [⟨some 3,.lit true 3 0 (.agg [.int .i64 0,.int .i64 0,.int .i64 0]) [],none,[]⟩,⟨some 4,.mov (.tmp 0),none,[]⟩,⟨some 5,.append true 3 (.tmp 3) (.tmp 4),none,[]⟩,⟨some 2,.mov (.tmp 5),none,[]⟩]) .ret)⟩
theorem dh16:cProg Go.Proofs.Tryz.prog ⟨[],[],[3,5]⟩ 16=some dc16:=by kernel_rfl
def dc19 : DFunc := ⟨5,1,[.tmp 2],.seq (.ops false [⟨some 2,.mov (.const (.slice none 0 0)),none,[]⟩]) (.seq (.ops false [⟨some 3,.mov (.tmp 0),none,[]⟩,⟨some 4,.call (.func 93) [.tmp 3],none,[]⟩,⟨some 2,.mov (.tmp 4),none,[]⟩]) .ret)⟩
theorem dh19:cProg Go.Proofs.Tryz.prog ⟨[],[],[]⟩ 19=some dc19:=by kernel_rfl
def db21_0 : DC := (.seq (.seq (.ops false [⟨some 19,.mov (.tmp 4),none,[]⟩,⟨some 20,.mov (.tmp 0),none,[]⟩,⟨some 21,.len (.tmp 20),none,[]⟩,⟨some 22,.bin .lss (.tmp 19) (.tmp 21),none,[]⟩]) (.cond (.tmp 22) .skip (.exit 0))) (.seq (.block 1 none (.seq (.ops true [⟨some 25,.mov (.tmp 0),none,[]⟩,⟨some 26,.mov (.tmp 4),none,[]⟩,⟨some 27,.iaddr 3 (.tmp 25) (.tmp 26),none,[0,1]⟩,⟨some 28,.faddr 0 1 false (.tmp 27),none,[2,0,1]⟩,⟨some 29,.load none (.tmp 28),none,[3,2,0,1]⟩,⟨some 30,.call (.func 96) [.tmp 29,.const (.int .i64 (-1000)),.const (.int .i64 1000)],none,[4,3,2,0,1]⟩,⟨some 31,.mov (.tmp 0),none,[]⟩,⟨some 32,.mov (.tmp 4),none,[]⟩,⟨some 33,.iaddr 3 (.tmp 31) (.tmp 32),none,[6,7]⟩,⟨some 34,.faddr 1 1 false (.tmp 33),none,[8,6,7]⟩,⟨some 35,.load none (.tmp 34),none,[9,8,6,7]⟩,⟨some 36,.call (.func 96) [.tmp 35,.const (.int .i64 (-1000)),.const (.int .i64 1000)],none,[10,9,8,6,7,5,4,3,2,0,1]⟩,⟨some 37,.mov (.tmp 0),none,[]⟩,⟨some 38,.mov (.tmp 4),none,[]⟩,⟨some 39,.iaddr 3 (.tmp 37) (.tmp 38),none,[12,13]⟩,⟨some 40,.faddr 2 1 false (.tmp 39),none,[14,12,13]⟩,⟨some 41,.load none (.tmp 40),none,[15,14,12,13]⟩,⟨some 42,.call (.func 96) [.tmp 41,.const (.int .i64 0),.const (.int .i64 1000)],none,[16,15,14,12,13,11,10,9,8,6,7,5,4,3,2,0,1]⟩,⟨some 43,.lit true 1 3 (.int .i64 0) [(0,(.tmp 30)),(1,(.tmp 36)),(2,(.tmp 42))],none,[5,4,3,2,0,1,11,10,9,8,6,7,17,16,15,14,12,13]⟩,⟨some 44,.call (.func 94) [.tmp 43],none,[18,5,4,3,2,0,1,11,10,9,8,6,7,17,16,15,14,12,13]⟩,⟨some 5,.mov (.tmp 44),none,[19,18,5,4,3,2,0,1,11,10,9,8,6,7,17,16,15,14,12,13]⟩]) (.seq (.ops false [⟨some 45,.mov (.tmp 5),none,[]⟩,⟨some 46,.bin .neq (.tmp 45) (.const (.int .i64 0)),none,[]⟩]) (.cond (.tmp 46) (.seq (.ops false [⟨some 47,.mov (.tmp 5),none,[]⟩,⟨some 2,.mov (.tmp 47),none,[]⟩]) .ret) .skip)))) (.ops false [⟨some 23,.mov (.tmp 4),none,[]⟩,⟨some 24,.bin .add (.tmp 23) (.const (.int .i64 1)),none,[]⟩,⟨some 4,.mov (.tmp 24),none,[]⟩])))
def dk21_0 : Keep := ⟨[],[0,4],[14]⟩
def dc21 : DFunc := ⟨52,1,[.tmp 2],.seq (.ops false [⟨some 2,.mov (.const (.int .i64 0)),none,[]⟩]) (.seq (.seq (.ops false [⟨some 6,.mov (.tmp 0),none,[]⟩,⟨some 7,.len (.tmp 6),none,[]⟩,⟨some 8,.bin .lss (.tmp 7) (.const (.int .i64 3)),none,[]⟩,⟨some 9,.call (.func 95) [.tmp 8,.const (.int .i64 16)],none,[]⟩,⟨some 10,.mov (.tmp 0),none,[]⟩,⟨some 11,.len (.tmp 10),none,[]⟩,⟨some 12,.bin .gtr (.tmp 11) (.const (.int .i64 6)),none,[]⟩,⟨some 13,.call (.func 95) [.tmp 12,.const (.int .i64 5)],none,[]⟩,⟨some 14,.lit true 1 2 (.int .i64 0) [(0,(.tmp 9)),(1,(.tmp 13))],none,[]⟩,⟨some 15,.call (.func 94) [.tmp 14],none,[]⟩,⟨some 3,.mov (.tmp 15),none,[]⟩]) (.seq (.ops false [⟨some 16,.mov (.tmp 3),none,[]⟩,⟨some 17,.bin .neq (.tmp 16) (.const (.int .i64 0)),none,[]⟩]) (.cond (.tmp 17) (.seq (.ops false [⟨some 18,.mov (.tmp 3),none,[]⟩,⟨some 2,.mov (.tmp 18),none,[]⟩]) .ret) .skip))) (.seq (.seq (.ops false [⟨some 4,.mov (.const (.int .i64 0)),none,[]⟩]) (.block 0 (some ⟨[],[0],[14]⟩) (.loop dk21_0 db21_0))) (.seq (.ops false [⟨some 48,.mov (.tmp 0),none,[]⟩,⟨some 49,.call (.func 97) [.tmp 48],none,[]⟩,⟨some 50,.un .not (.tmp 49),none,[]⟩,⟨some 51,.call (.func 95) [.tmp 50,.const (.int .i64 1)],none,[]⟩,⟨some 2,.mov (.tmp 51),none,[]⟩]) .ret)))⟩
theorem dh21:cProg Go.Proofs.Tryz.prog ⟨[(0,⟨[],[0,4],[14]⟩)],[(0,⟨[],[0],[14]⟩)],[14,43]⟩ 21=some dc21:=by kernel_rfl
def dc22 : DFunc := ⟨14,1,[.tmp 2],.seq (.ops false [⟨some 1,.box 3 (.tmp 0),none,[]⟩,⟨some 2,.mov (.const (.int .i64 0)),none,[]⟩]) (.seq (.ops true [⟨some 3,.faddr 0 1 false (.tmp 1),none,[]⟩,⟨some 4,.load none (.tmp 3),none,[0]⟩,⟨some 5,.call (.func 96) [.tmp 4,.const (.int .i64 (-1000)),.const (.int .i64 1000)],none,[1,0]⟩,⟨some 6,.faddr 1 1 false (.tmp 1),none,[]⟩,⟨some 7,.load none (.tmp 6),none,[3]⟩,⟨some 8,.call (.func 96) [.tmp 7,.const (.int .i64 (-1000)),.const (.int .i64 1000)],none,[4,3,2,1,0]⟩,⟨some 9,.faddr 2 1 false (.tmp 1),none,[]⟩,⟨some 10,.load none (.tmp 9),none,[6]⟩,⟨some 11,.call (.func 96) [.tmp 10,.const (.int .i64 1),.const (.int .i64 1000)],none,[7,6,5,4,3,2,1,0]⟩,⟨some 12,.lit true 1 3 (.int .i64 0) [(0,(.tmp 5)),(1,(.tmp 8)),(2,(.tmp 11))],none,[2,1,0,5,4,3,8,7,6]⟩,⟨some 13,.call (.func 94) [.tmp 12],none,[9,2,1,0,5,4,3,8,7,6]⟩,⟨some 2,.mov (.tmp 13),none,[10,9,2,1,0,5,4,3,8,7,6]⟩]) .ret)⟩
theorem dh22:cProg Go.Proofs.Tryz.prog ⟨[],[],[12]⟩ 22=some dc22:=by kernel_rfl
def dc23 : DFunc := ⟨11,1,[.tmp 2],.seq (.ops false [⟨some 1,.box 2 (.tmp 0),none,[]⟩,⟨some 2,.mov (.const (.int .i64 0)),none,[]⟩]) (.seq (.ops true [⟨some 3,.faddr 0 1 false (.tmp 1),none,[]⟩,⟨some 4,.load none (.tmp 3),none,[0]⟩,⟨some 5,.call (.func 96) [.tmp 4,.const (.int .i64 (-1000)),.const (.int .i64 1000)],none,[1,0]⟩,⟨some 6,.faddr 1 1 false (.tmp 1),none,[]⟩,⟨some 7,.load none (.tmp 6),none,[3]⟩,⟨some 8,.call (.func 96) [.tmp 7,.const (.int .i64 (-1000)),.const (.int .i64 1000)],none,[4,3,2,1,0]⟩,⟨some 9,.lit true 1 2 (.int .i64 0) [(0,(.tmp 5)),(1,(.tmp 8))],none,[2,1,0,5,4,3]⟩,⟨some 10,.call (.func 94) [.tmp 9],none,[6,2,1,0,5,4,3]⟩,⟨some 2,.mov (.tmp 10),none,[7,6,2,1,0,5,4,3]⟩]) .ret)⟩
theorem dh23:cProg Go.Proofs.Tryz.prog ⟨[],[],[9]⟩ 23=some dc23:=by kernel_rfl
def db24_0 : DC := (.seq (.seq (.ops false [⟨some 8,.mov (.tmp 3),none,[]⟩,⟨some 9,.mov (.tmp 0),none,[]⟩,⟨some 10,.len (.tmp 9),none,[]⟩,⟨some 11,.bin .lss (.tmp 8) (.tmp 10),none,[]⟩]) (.cond (.tmp 11) .skip (.exit 0))) (.seq (.block 1 none (.seq (.ops false [⟨some 14,.mov (.tmp 0),none,[]⟩,⟨some 15,.mov (.tmp 3),none,[]⟩,⟨some 16,.iaddr 1 (.tmp 14) (.tmp 15),none,[]⟩,⟨some 17,.load none (.tmp 16),none,[]⟩,⟨some 18,.call (.func 21) [.tmp 17],none,[]⟩,⟨some 4,.mov (.tmp 18),none,[]⟩]) (.seq (.ops false [⟨some 19,.mov (.tmp 4),none,[]⟩,⟨some 20,.bin .neq (.tmp 19) (.const (.int .i64 0)),none,[]⟩]) (.cond (.tmp 20) (.seq (.ops false [⟨some 21,.mov (.tmp 4),none,[]⟩,⟨some 2,.mov (.tmp 21),none,[]⟩]) .ret) .skip)))) (.ops false [⟨some 12,.mov (.tmp 3),none,[]⟩,⟨some 13,.bin .add (.tmp 12) (.const (.int .i64 1)),none,[]⟩,⟨some 3,.mov (.tmp 13),none,[]⟩])))
def dk24_0 : Keep := ⟨[],[0,3],[]⟩
def dc24 : DFunc := ⟨22,1,[.tmp 2],.seq (.ops false [⟨some 2,.mov (.const (.int .i64 0)),none,[]⟩]) (.seq (.seq (.ops false [⟨some 5,.mov (.tmp 0),none,[]⟩,⟨some 6,.len (.tmp 5),none,[]⟩,⟨some 7,.bin .gtr (.tmp 6) (.const (.int .i64 8)),none,[]⟩]) (.cond (.tmp 7) (.seq (.ops false [⟨some 2,.mov (.const (.int .i64 5)),none,[]⟩]) .ret) .skip)) (.seq (.seq (.ops false [⟨some 3,.mov (.const (.int .i64 0)),none,[]⟩]) (.block 0 (some ⟨[],[],[]⟩) (.loop dk24_0 db24_0))) (.seq (.ops false [⟨some 2,.mov (.const (.int .i64 0)),none,[]⟩]) .ret)))⟩
theorem dh24:cProg Go.Proofs.Tryz.prog ⟨[(0,⟨[],[0,3],[]⟩)],[(0,⟨[],[],[]⟩)],[]⟩ 24=some dc24:=by kernel_rfl
def dc30 : DFunc := ⟨22,1,[.tmp 2],.seq (.ops false [⟨some 1,.box 4 (.tmp 0),none,[]⟩,⟨some 2,.mov (.const (.bool false)),none,[]⟩]) (.seq (.seq (.ops false [⟨some 3,.load (some 4) (.tmp 1),none,[]⟩,⟨some 4,.call (.func 36) [.tmp 3],none,[]⟩,⟨some 5,.bin .neq (.tmp 4) (.const (.int .i64 0)),none,[]⟩]) (.cond (.tmp 5) (.seq (.ops false [⟨some 2,.mov (.const (.bool true)),none,[]⟩]) .ret) .skip)) (.seq (.ops false [⟨some 6,.faddr 2 2 true (.tmp 1),none,[]⟩,⟨some 7,.faddr 0 1 false (.tmp 6),none,[]⟩,⟨some 8,.load none (.tmp 7),none,[]⟩,⟨some 9,.faddr 0 2 true (.tmp 1),none,[]⟩,⟨some 10,.faddr 0 1 false (.tmp 9),none,[]⟩,⟨some 11,.load none (.tmp 10),none,[]⟩,⟨some 12,.bin .sub (.tmp 8) (.tmp 11),none,[]⟩,⟨some 13,.faddr 2 2 true (.tmp 1),none,[]⟩,⟨some 14,.faddr 1 1 false (.tmp 13),none,[]⟩,⟨some 15,.load none (.tmp 14),none,[]⟩,⟨some 16,.faddr 0 2 true (.tmp 1),none,[]⟩,⟨some 17,.faddr 1 1 false (.tmp 16),none,[]⟩,⟨some 18,.load none (.tmp 17),none,[]⟩,⟨some 19,.bin .sub (.tmp 15) (.tmp 18),none,[]⟩,⟨some 20,.bin .mul (.tmp 12) (.tmp 19),none,[]⟩,⟨some 21,.bin .leq (.tmp 20) (.const (.int .i64 49)),none,[]⟩,⟨some 2,.mov (.tmp 21),none,[]⟩]) .ret))⟩
theorem dh30:cProg Go.Proofs.Tryz.prog ⟨[],[],[]⟩ 30=some dc30:=by kernel_rfl
def dc36 : DFunc := ⟨51,1,[.tmp 2],.seq (.ops false [⟨some 1,.box 4 (.tmp 0),none,[]⟩,⟨some 2,.mov (.const (.int .i64 0)),none,[]⟩]) (.seq (.seq (.ops true [⟨some 4,.faddr 0 2 true (.tmp 1),none,[]⟩,⟨some 5,.load (some 2) (.tmp 4),none,[0]⟩,⟨some 6,.call (.func 23) [.tmp 5],none,[1,0]⟩,⟨some 7,.faddr 2 2 true (.tmp 1),none,[]⟩,⟨some 8,.load (some 2) (.tmp 7),none,[3]⟩,⟨some 9,.call (.func 23) [.tmp 8],none,[4,3,2,1,0]⟩,⟨some 10,.lit true 1 2 (.int .i64 0) [(0,(.tmp 6)),(1,(.tmp 9))],none,[2,1,0,5,4,3]⟩,⟨some 11,.call (.func 94) [.tmp 10],none,[6,2,1,0,5,4,3]⟩,⟨some 3,.mov (.tmp 11),none,[7,6,2,1,0,5,4,3]⟩]) (.seq (.ops false [⟨some 12,.mov (.tmp 3),none,[]⟩,⟨some 13,.bin .neq (.tmp 12) (.const (.int .i64 0)),none,[]⟩]) (.cond (.tmp 13) (.seq (.ops false [⟨some 14,.mov (.tmp 3),none,[]⟩,⟨some 2,.mov (.tmp 14),none,[]⟩]) .ret) .skip))) (.seq (.ops true [⟨some 15,.faddr 2 2 true (.tmp 1),none,[]⟩,⟨some 16,.faddr 0 1 false (.tmp 15),none,[0]⟩,⟨some 17,.load none (.tmp 16),none,[1,0]⟩,⟨some 18,.faddr 0 2 true (.tmp 1),none,[]⟩,⟨some 19,.faddr 0 1 false (.tmp 18),none,[3]⟩,⟨some 20,.load none (.tmp 19),none,[4,3]⟩,⟨some 21,.bin .leq (.tmp 17) (.tmp 20),none,[2,1,0,5,4,3]⟩,⟨some 22,.mov (.tmp 21),none,[6,2,1,0,5,4,3]⟩,⟨some 23,.faddr 2 2 true (.tmp 1),some (22,false),[7,6,2,1,0,5,4,3]⟩,⟨some 24,.faddr 1 1 false (.tmp 23),some (22,false),[8,7,6,2,1,0,5,4,3]⟩,⟨some 25,.load none (.tmp 24),some (22,false),[9,8,7,6,2,1,0,5,4,3]⟩,⟨some 26,.faddr 0 2 true (.tmp 1),some (22,false),[7,6,2,1,0,5,4,3]⟩,⟨some 27,.faddr 1 1 false (.tmp 26),some (22,false),[11,7,6,2,1,0,5,4,3]⟩,⟨some 28,.load none (.tmp 27),some (22,false),[12,11,7,6,2,1,0,5,4,3]⟩,⟨some 29,.bin .leq (.tmp 25) (.tmp 28),some (22,false),[10,9,8,7,6,2,1,0,5,4,3,13,12,11]⟩,⟨some 30,.pick (.tmp 22) (.const (.bool true)) (.tmp 29),none,[7,6,2,1,0,5,4,3,14,10,9,8,13,12,11]⟩,⟨some 31,.call (.func 95) [.tmp 30,.const (.int .i64 14)],none,[15,7,6,2,1,0,5,4,3,14,10,9,8,13,12,11]⟩,⟨some 32,.faddr 2 2 true (.tmp 1),none,[]⟩,⟨some 33,.faddr 0 1 false (.tmp 32),none,[17]⟩,⟨some 34,.load none (.tmp 33),none,[18,17]⟩,⟨some 35,.faddr 0 2 true (.tmp 1),none,[]⟩,⟨some 36,.faddr 0 1 false (.tmp 35),none,[20]⟩,⟨some 37,.load none (.tmp 36),none,[21,20]⟩,⟨some 38,.bin .sub (.tmp 34) (.tmp 37),none,[19,18,17,22,21,20]⟩,⟨some 39,.faddr 2 2 true (.tmp 1),none,[]⟩,⟨some 40,.faddr 1 1 false (.tmp 39),none,[24]⟩,⟨some 41,.load none (.tmp 40),none,[25,24]⟩,⟨some 42,.faddr 0 2 true (.tmp 1),none,[]⟩,⟨some 43,.faddr 1 1 false (.tmp 42),none,[27]⟩,⟨some 44,.load none (.tmp 43),none,[28,27]⟩,⟨some 45,.bin .sub (.tmp 41) (.tmp 44),none,[26,25,24,29,28,27]⟩,⟨some 46,.bin .mul (.tmp 38) (.tmp 45),none,[23,19,18,17,22,21,20,30,26,25,24,29,28,27]⟩,⟨some 47,.bin .gtr (.tmp 46) (.const (.int .i64 256)),none,[31,23,19,18,17,22,21,20,30,26,25,24,29,28,27]⟩,⟨some 48,.call (.func 95) [.tmp 47,.const (.int .i64 5)],none,[32,31,23,19,18,17,22,21,20,30,26,25,24,29,28,27,16,15,7,6,2,1,0,5,4,3,14,10,9,8,13,12,11]⟩,⟨some 49,.lit true 1 2 (.int .i64 0) [(0,(.tmp 31)),(1,(.tmp 48))],none,[16,15,7,6,2,1,0,5,4,3,14,10,9,8,13,12,11,33,32,31,23,19,18,17,22,21,20,30,26,25,24,29,28,27]⟩,⟨some 50,.call (.func 94) [.tmp 49],none,[34,16,15,7,6,2,1,0,5,4,3,14,10,9,8,13,12,11,33,32,31,23,19,18,17,22,21,20,30,26,25,24,29,28,27]⟩,⟨some 2,.mov (.tmp 50),none,[35,34,16,15,7,6,2,1,0,5,4,3,14,10,9,8,13,12,11,33,32,31,23,19,18,17,22,21,20,30,26,25,24,29,28,27]⟩]) .ret))⟩
theorem dh36:cProg Go.Proofs.Tryz.prog ⟨[],[],[10,49]⟩ 36=some dc36:=by kernel_rfl
end Sh

namespace Sh
open Go
section
variable {ev:Operand→DV} {lk:Nat→Option DObj} {o kk q i:Nat} {ks:List Nat} {z v:DV} {m k x:Operand} {es:List (DV×DV)}
end
theorem sumI_le {α:Type} {l:List α} {g h:α→Int} (hh:∀ x ∈ l,g x≤h x):sumI (l.map g)≤sumI (l.map h):=by
 induction l with
 |nil=>exact Int.le_refl _
 |cons x r ih =>
  have h1:=ih (fun y hy=>hh y (List.mem_cons_of_mem _ hy))
  have h2:=hh x (List.mem_cons_self ..)
  show g x+sumI (r.map g)≤h x+sumI (r.map h)
  omega
end Sh

namespace Sh
open Go Go.Proofs
theorem q_When (b:Bool) (e:Int):PC 95 [.bool b,DV.int .i64 (e)] (DV.int .i64 (whenE b e)):=by
 refine pureCall_ofR dh95 rfl ?_
 conv=>whnf
 refine ⟨fun hb=>?_,fun hb=>?_⟩<;>try (exact absurd hb (by decide))
 all_goals conv=>whnf
 all_goals subst hb;rfl
theorem q_CheckRange (n l h:Int):PC 96 [DV.int .i64 (n),DV.int .i64 (l),DV.int .i64 (h)] (DV.int .i64 (withE n l h)):=by
 refine pureCall_ofR dh96 rfl ?_
 conv=>whnf
 refine ⟨fun hb=>?_,fun hb=>?_⟩<;>try (exact absurd hb (by decide))
 all_goals conv=>whnf
 ·refine .inl ?_
  conv=>whnf
  refine ⟨_,q_When ..,?_⟩
  conv=>whnf
  exact int_eq (by simp_all [withE,whenE];split<;>split<;>omega)
 ·refine .inl ?_
  conv=>whnf
  refine ⟨_,q_When ..,?_⟩
  conv=>whnf
  exact int_eq (by simp_all [withE,whenE])
theorem q_First (l:List Int) (hl:l.length < 4611686018427387904):PC 94 [iL l] (DV.int .i64 (firstE l)):=by
 refine pureCall_ofR dh94 rfl ?_
 conv=>whnf
 refine dwp_loopR (P:=Tryz.prog) (G:=GC) (k:=dk94_0) (b:=db94_0) (α:=Nat) (fun i=>[(0,iL l),(3,DV.int .i64 (i))]) (fun _=>[]) (fun i=>i≤l.length∧firstE l=firstE (l.drop i)) (fun i=>l.length - i) 0 ⟨rfl,rfl,rfl⟩ ⟨Nat.zero_le _,rfl⟩ ?_
 intro i ⟨h1,h2⟩
 conv=>whnf
 refine ⟨fun hb=>?_,fun hb=>?_⟩<;>try (exact absurd hb (by decide))
 ·have hi:i < l.length:=by simpa using hb
  have hd:=firstE_drop l i hi
  conv=>whnf
  rw [getD_enc _ _ (i) 0 hi]
  refine ⟨idxA hi rfl,?_⟩
  conv=>whnf
  refine ⟨fun hb=>?_,fun hb=>?_⟩<;>try (exact absurd hb (by decide))
  ·conv=>whnf
   rw [getD_enc _ _ (i) 0 hi]
   refine ⟨idxA hi rfl,?_⟩
   conv=>whnf
   exact int_eq (by simp_all)
  ·conv=>whnf
   rw [wrap_succ i (by omega)]
   exact ⟨i+1,rfl,rfl,rfl,⟨hi,by simp_all⟩,by omega⟩
 ·conv=>whnf
  have:i=l.length:=by simp at hb;omega
  subst this
  exact int_eq (by rw [h2];simp [firstE])
end Sh

namespace Sh
open Go
theorem nrmV_ref (s:List V3):crsV (subV (s.getD 1 V0) (s.getD 0 V0)) (subV (s.getD 2 V0) (s.getD 0 V0))=nrmV s:=by
 unfold nrmV crsV subV
 simp only [V3.mk.injEq]
 refine ⟨?_,?_,?_⟩<;>grind
end Sh

namespace Sh
open Go
def ind (b:Bool):Int:=if b then 1 else 0
theorem sumI_cons (a:Int) (l:List Int):sumI (a :: l)=a+sumI l:=rfl
theorem sumI_add {α:Type} (l:List α) (f g:α→Int):sumI (l.map fun x=>f x+g x)=sumI (l.map f)+sumI (l.map g):=by
 induction l with
 |nil=>rfl
 |cons a r ih=>simp only [List.map_cons,sumI_cons,ih];omega
theorem filter_ind {α:Type} (p:α→Bool) (l:List α):((l.filter p).length:Int)=sumI (l.map fun x=>ind (p x)):=by
 induction l with
 |nil=>rfl
 |cons a r ih =>
  rw [List.map_cons,sumI_cons,← ih,List.filter_cons]
  cases p a<;>simp [ind];omega
theorem first_ind (l:List (List V3)) (sun:V3) (p:Pt):∀ k,k≤l.length→sumI (rng k fun i=>ind (!anyHid (l.take i) sun p && hidB (l.getD i []) sun p))=ind (anyHid (l.take k) sun p)
 |0,_=>by simp [rng,sumI,anyHid,ind]
 |k+1,h=>by
  rw [rng_succ,sumI_append,sumI_one,first_ind l sun p k (by omega)]
  have e:anyHid (l.take (k+1)) sun p=(anyHid (l.take k) sun p || hidB (l.getD k []) sun p):=by
   unfold anyHid
   rw [take_snoc l k [] (by omega),List.any_append];simp
  rw [e]
  cases anyHid (l.take k) sun p<;>cases hidB (l.getD k []) sun p<;>simp [ind]
theorem sumI_swap (n:Nat) (ps:List Pt) (f:Nat→Pt→Int):sumI (rng n fun i=>sumI (ps.map (f i)))=sumI (ps.map fun p=>sumI (rng n fun i=>f i p)):=by
 induction ps with
 |nil =>
  simp only [List.map_nil]
  induction n with
  |zero=>rfl
  |succ n ih=>rw [rng_succ,sumI_append,ih];rfl
 |cons p r ih =>
  simp only [List.map_cons,sumI_cons]
  rw [← ih]
  unfold rng
  rw [← sumI_add]
theorem cut_sum (l:List (List V3)) (sun:V3) (ps:List Pt):sumI (rng l.length fun i=>((cutI l sun i ps).length:Int))+(litL l sun ps).length=ps.length:=by
 have h1:(rng l.length fun i=>((cutI l sun i ps).length:Int))=rng l.length fun i=>sumI (ps.map fun p=>ind (!anyHid (l.take i) sun p && hidB (l.getD i []) sun p)) :=
  rng_congr fun i _=>filter_ind _ _
 rw [h1,sumI_swap]
 have h2:(ps.map fun p=>sumI (rng l.length fun i=>ind (!anyHid (l.take i) sun p && hidB (l.getD i []) sun p)))=ps.map fun p=>ind (anyHid l sun p) :=
  List.map_congr_left fun p _=>by rw [first_ind l sun p l.length (Nat.le_refl _),List.take_length]
 rw [h2]
 unfold litL
 rw [filter_ind,← sumI_add]
 have h3:(ps.map fun p=>ind (anyHid l sun p)+ind (!anyHid l sun p))=ps.map fun _=>1:=List.map_congr_left fun p _=>by cases anyHid l sun p<;>rfl
 rw [h3]
 clear h1 h2 h3
 induction ps with
 |nil=>rfl
 |cons a r ih=>rw [List.map_cons,sumI_cons,ih];simp;omega
theorem anyHid_reverse (l:List (List V3)) (sun:V3) (p:Pt):anyHid l.reverse sun p=anyHid l sun p:=by unfold anyHid;rw [List.any_reverse]
theorem litL_reverse (l:List (List V3)) (sun:V3) (ps:List Pt):litL l.reverse sun ps=litL l sun ps:=by
 unfold litL;exact List.filter_congr fun p _=>by rw [anyHid_reverse]
theorem lightS_reverse (l:List (List V3)) (sun:V3) (c:Bx):lightS l.reverse sun c=lightS l sun c:=by unfold lightS;rw [litL_reverse]
theorem sumI_mono {α:Type} (l:List α) (f g:α→Int) (h:∀ x ∈ l,f x≤g x):sumI (l.map f)≤sumI (l.map g):=sumI_le h
theorem light_less (s:List V3) (r:List (List V3)) (sun:V3) (c:Bx):lightS (s :: r) sun c≤lightS r sun c∧lightS r sun c - lightS (s :: r) sun c≤(cutI (s :: r) sun 0 (spotsL c)).length:=by
 unfold lightS litL cutI
 rw [filter_ind,filter_ind,filter_ind]
 refine ⟨sumI_mono _ _ _ fun p _=>?_,?_⟩
 ·show ind (!anyHid (s :: r) sun p)≤ind (!anyHid r sun p)
  unfold anyHid
  rw [List.any_cons]
  cases hidB s sun p<;>cases r.any (fun s=>hidB s sun p)<;>simp [ind]
 ·have:sumI ((spotsL c).map fun p=>ind (!anyHid r sun p))≤sumI ((spotsL c).map fun p=>ind (!anyHid (s :: r) sun p)+ind (!anyHid ((s :: r).take 0) sun p && hidB ((s :: r).getD 0 []) sun p)) :=
   sumI_mono _ _ _ fun p _=>by
    unfold anyHid
    rw [List.any_cons]
    simp only [List.take_zero,List.any_nil,List.getD_cons_zero]
    cases hidB s sun p<;>cases r.any (fun s=>hidB s sun p)<;>simp [ind]
  rw [sumI_add] at this
  omega
theorem hidng_count (l:List (List V3)) (sun:V3) (p:Pt):(hidng l sun p l.length).length=(l.filter fun s=>hidB s sun p).length:=by
 have key:∀ k,k≤l.length→(hidng l sun p k).length=((l.take k).filter fun s=>hidB s sun p).length:=by
  intro k
  induction k with
  |zero=>intro _;simp [hidng]
  |succ k ih =>
   intro hk
   rw [hidng_succ,List.length_append,ih (by omega),take_snoc l k [] (by omega),List.filter_append,List.length_append]
   simp only [List.filter_cons,List.filter_nil]
   cases hidB (l.getD k []) sun p<;>rfl
 have:=key l.length (Nat.le_refl _)
 rwa [List.take_length] at this
def leftB (c:Bx):Bx:=⟨c.f,⟨c.f.x+1,c.t.y⟩⟩
def rightB (c:Bx):Bx:=⟨⟨c.f.x+1,c.f.y⟩,c.t⟩
theorem row_split {c:Bx} (h:c.f.x+1 < c.t.x) (j:Nat):rowB c j 0=rowB (leftB c) j 0++rowB (rightB c) j 0:=by
 have hw:wB c=wB (rightB c)+1:=by unfold wB rightB;simp only;omega
 have hl:wB (leftB c)=1:=by unfold wB leftB;simp only;omega
 rw [rowB_cons (by omega:0 < wB c),rowB_cons (by omega:0 < wB (leftB c)),rowB_nil (by omega:wB (leftB c)≤0+1)]
 show spotB c j 0 :: _=spotB (leftB c) j 0 :: ([]++rowB (rightB c) j 0)
 congr 1
 unfold rowB
 rw [hw,Nat.add_sub_cancel,Nat.sub_zero,List.nil_append]
 rw [show List.range' 1 (wB (rightB c))=(List.range' 0 (wB (rightB c))).map (·+1) by rw [List.range'_eq_map_range,List.range'_eq_map_range,List.map_map];congr 1;funext i;simp;omega]
 rw [List.map_map]
 refine List.map_congr_left fun i _=>?_
 show spotB c j (i+1)=spotB (rightB c) j i
 unfold spotB rightB
 simp only [Pt.mk.injEq,and_true]
 omega
theorem light_split {c:Bx} (h:c.f.x+1 < c.t.x) (l:List (List V3)) (sun:V3):lightS l sun (leftB c)+lightS l sun (rightB c)=lightS l sun c:=by
 have h1:hB (leftB c)=hB c:=rfl
 have h2:hB (rightB c)=hB c:=rfl
 have key:∀ n j,hB c - j=n→((litL l sun (restB (leftB c) j)).length:Int)+(litL l sun (restB (rightB c) j)).length=(litL l sun (restB c j)).length:=by
  intro n
  induction n with
  |zero=>intro j hj;rw [restB_nil (by omega),restB_nil (by omega),restB_nil (by omega)];rfl
  |succ n ih =>
   intro j hj
   have:=ih (j+1) (by omega)
   rw [restB_cons (c:=c) (by omega),restB_cons (c:=leftB c) (by omega),restB_cons (c:=rightB c) (by omega),row_split h]
   unfold litL at *
   simp only [List.filter_append,List.length_append,Int.natCast_add]
   omega
 exact key (hB c) 0 rfl
end Sh

namespace Sh
open Go Go.Proofs
theorem r_less (a b:V3) (ha:bdV G9 a) (hb:bdV G9 b):PC 101 [encV a,encV b] (encV (subV a b)):=by
 have e1:=sub_w ha.1 hb.1
 have e2:=sub_w ha.2.1 hb.2.1
 have e3:=sub_w ha.2.2 hb.2.2
 refine pureCall_ofR dh101 rfl ?_
 conv=>whnf
 repeat' (first
  |(refine ⟨fun hg=>?_,fun hg=>?_⟩<;>first|contradiction|(conv=>whnf))
  |(refine Or.inl ?_;conv=>whnf)
  |(refine And.intro ?_ ?_;kernel_rfl;conv=>whnf))
 exact int3_eq e1 e2 e3
theorem r_dot (a b:V3) (ha:bdV G9 a) (hb:bdV G9 b):PC 99 [encV a,encV b] (DV.int .i64 (dotV a b)):=by
 refine pureCall_ofR dh99 rfl ?_
 conv=>whnf
 repeat' (first
  |(refine ⟨fun hg=>?_,fun hg=>?_⟩<;>first|contradiction|(conv=>whnf))
  |(refine Or.inl ?_;conv=>whnf)
  |(refine And.intro ?_ ?_;kernel_rfl;conv=>whnf))
 exact int_eq (dot_w ha hb)
theorem r_cross (a b:V3) (ha:bdV G9 a) (hb:bdV G9 b):PC 102 [encV a,encV b] (encV (crsV a b)):=by
 refine pureCall_ofR dh102 rfl ?_
 conv=>whnf
 repeat' (first
  |(refine ⟨fun hg=>?_,fun hg=>?_⟩<;>first|contradiction|(conv=>whnf))
  |(refine Or.inl ?_;conv=>whnf)
  |(refine And.intro ?_ ?_;kernel_rfl;conv=>whnf))
 exact int3_eq (crs_w ha.2.1 hb.2.2 ha.2.2 hb.2.1) (crs_w ha.2.2 hb.1 ha.1 hb.2.2) (crs_w ha.1 hb.2.1 ha.2.1 hb.1)
theorem r_CheckSun (v:V3):PC 22 [encV v] (DV.int .i64 (chkSun v)):=by
 refine pureCall_ofR dh22 rfl ?_
 conv=>whnf
 repeat' (first
  |(refine ⟨fun hg=>?_,fun hg=>?_⟩<;>first|contradiction|(conv=>whnf))
  |(refine Or.inl ?_;conv=>whnf)
  |(refine ⟨_,q_CheckRange ..,?_⟩;conv=>whnf)
  |(refine ⟨_,q_First [_,_,_] (by simp),?_⟩;conv=>whnf)
  |(refine And.intro ?_ ?_;kernel_rfl;conv=>whnf))
 rfl
theorem r_CheckSpot (p:Pt):PC 23 [encPt p] (DV.int .i64 (chkSpot p)):=by
 refine pureCall_ofR dh23 rfl ?_
 conv=>whnf
 repeat' (first
  |(refine ⟨fun hg=>?_,fun hg=>?_⟩<;>first|contradiction|(conv=>whnf))
  |(refine Or.inl ?_;conv=>whnf)
  |(refine ⟨_,q_CheckRange ..,?_⟩;conv=>whnf)
  |(refine ⟨_,q_First [_,_] (by simp),?_⟩;conv=>whnf)
  |(refine And.intro ?_ ?_;kernel_rfl;conv=>whnf))
 rfl
end Sh

namespace Sh
open Go Go.Proofs
theorem r_normal (s:List V3) (h:OkS s):PC 98 [shp s] (encV (nrmV s)):=by
 have h3:=h.1
 have b0:=h.at (i:=0) (by omega)
 have b1:=h.at (i:=1) (by omega)
 have b2:=h.at (i:=2) (by omega)
 have k1:=r_less (s.getD 1 V0) (s.getD 0 V0) (bd9 b1 (by decide)) (bd9 b0 (by decide))
 have k2:=r_less (s.getD 2 V0) (s.getD 0 V0) (bd9 b2 (by decide)) (bd9 b0 (by decide))
 have k3:=r_cross _ _ (bd9 (subV_bd b1 b0) (by decide)) (bd9 (subV_bd b2 b0) (by decide))
 refine pureCall_ofR dh98 rfl ?_
 conv=>whnf
 repeat' (first
  |(refine ⟨fun hg=>?_,fun hg=>?_⟩<;>first|contradiction|(conv=>whnf))
  |(refine Or.inl ?_;conv=>whnf)
  |(rw [getD_enc' _ _ 0 V0 (by decide) (by omega)];refine ⟨idxB (by decide) (by omega) rfl,?_⟩;conv=>whnf)
  |(rw [getD_enc' _ _ 1 V0 (by decide) (by omega)];refine ⟨idxB (by decide) (by omega) rfl,?_⟩;conv=>whnf)
  |(rw [getD_enc' _ _ 2 V0 (by decide) (by omega)];refine ⟨idxB (by decide) (by omega) rfl,?_⟩;conv=>whnf)
  |(refine ⟨_,k1,?_⟩;conv=>whnf)
  |(refine ⟨_,k2,?_⟩;conv=>whnf)
  |(refine ⟨_,k3,?_⟩;conv=>whnf)
  |(refine And.intro ?_ ?_;kernel_rfl;conv=>whnf))
 rw [nrmV_ref];rfl
theorem mod_w2 (i n:Nat) (hn:0 < n) (hi:i < 1000000000):(IntKind.i64.wrap ((i:Int)+2)).tmod (n:Int)=(((i+2) % n:Nat):Int):=mod_w i 2 n hn (by omega)
theorem r_convex (s:List V3) (h:OkS s):PC 97 [shp s] (.bool (flat_ s)):=by
 have e0:((s.map encV).length:Int)=s.length:=by simp
 have h3:=h.1
 have h6:=h.2.1
 have b0:=h.at (i:=0) (by omega)
 have hn:=h.nrm
 refine pureCall_ofR dh97 rfl ?_
 conv=>whnf
 repeat' (first
  |(refine ⟨fun hg=>?_,fun hg=>?_⟩<;>first|contradiction|(conv=>whnf))
  |(refine Or.inl ?_;conv=>whnf)
  |(refine ⟨_,r_normal _ h,?_⟩;conv=>whnf)
  |(refine And.intro ?_ ?_;kernel_rfl;conv=>whnf))
 refine dwp_loopU (P:=Tryz.prog) (G:=GC) (k:=dk97_1) (b:=db97_1) (α:=Nat) (fun i=>[(4,DV.int .i64 (i))]) (fun _=>[(3,.box 3 (encV (nrmV s)))]) (fun i=>i≤s.length∧(List.range i).all (flatI s)=true) (fun i=>s.length - i) 0 ⟨Nat.zero_le _,rfl⟩ ?_
 conv=>whnf
 refine ⟨rfl,rfl,?_⟩
 conv=>whnf
 refine ⟨rfl,?_⟩
 intro i ⟨h1,h2⟩
 conv=>whnf
 refine ⟨fun hb=>?_,fun hb=>?_⟩
 ·have hi:i < s.length:=by simpa using hb
  have bi:=h.at hi
  have bs:=h.side hi
  have bx:=subV_bd (h.aft (i+1)) (h.aft i)
  have e2:s.getD ((i+2) % s.length) V0=aft s (i+1):=rfl
  have e1:s.getD ((i+1) % s.length) V0=aft s i:=rfl
  have k3:=r_less (aft s i) (s.getD i V0) (bd9 (h.aft i) (by decide)) (bd9 bi (by decide))
  have k4:=r_less (aft s (i+1)) (aft s i) (bd9 (h.aft (i+1)) (by decide)) (bd9 (h.aft i) (by decide))
  have k5:=r_less (s.getD i V0) (s.getD 0 V0) (bd9 bi (by decide)) (bd9 b0 (by decide))
  have k6:=r_dot _ _ (bd9 hn (by decide)) (bd9 (subV_bd bi b0) (by decide))
  have k7:=r_cross _ _ (bd9 bs (by decide)) (bd9 bx (by decide))
  have k8:=r_dot _ _ (bd9 hn (by decide)) (bd9 (crsV_bd bs bx) (by decide))
  have hm1:=Nat.mod_lt (i+1) (show 0 < s.length by omega)
  have hm2:=Nat.mod_lt (i+2) (show 0 < s.length by omega)
  have hw1:=mod_w1 i s.length (by omega) (by omega)
  have hw2:=mod_w2 i s.length (by omega) (by omega)
  have hI:(List.range (i+1)).all (flatI s)=flatI s i:=by rw [List.range_succ,List.all_append,h2];simp
  have hF:flatI s i=false→flat_ s=false:=fun e=>by
   unfold flat_
   rw [List.all_eq_false]
   exact ⟨i,List.mem_range.2 hi,by rw [e];simp⟩
  clear hb
  conv=>whnf
  rw [getD_enc _ _ (i) V0 hi]
  refine ⟨idxA hi rfl,?_⟩
  conv=>whnf
  rw [e0]
  refine ⟨by omega,?_⟩
  conv=>whnf
  rw [hw1]
  rw [getD_enc _ _ ((i+1) % s.length) V0 hm1]
  refine ⟨idxA hm1 rfl,?_⟩
  conv=>whnf
  rw [e0]
  refine ⟨by omega,?_⟩
  conv=>whnf
  rw [hw2]
  rw [getD_enc _ _ ((i+2) % s.length) V0 hm2]
  refine ⟨idxA hm2 rfl,?_⟩
  conv=>whnf
  rw [e1,e2]
  repeat' (first
   |(refine ⟨fun hg=>?_,fun hg=>?_⟩<;>first|contradiction|(conv=>whnf))
   |(refine Or.inl ?_;conv=>whnf)
   |(refine ⟨_,k3,?_⟩;conv=>whnf)
   |(refine ⟨_,k4,?_⟩;conv=>whnf)
   |(rw [getD_enc' _ _ 0 V0 (by decide) (by omega)];refine ⟨idxB (by decide) (by omega) rfl,?_⟩;conv=>whnf)
   |(refine ⟨_,k5,?_⟩;conv=>whnf)
   |(refine ⟨_,k6,?_⟩;conv=>whnf)
   |(refine ⟨_,k7,?_⟩;conv=>whnf)
   |(refine ⟨_,k8,?_⟩;conv=>whnf)
   |(refine And.intro ?_ ?_;kernel_rfl;conv=>whnf))
  ·have hg:=of_decide_eq_true (show decide (dotV (nrmV s) (crsV (sideV s i) (subV (aft s (i+1)) (aft s i)))≤0)=true from hg)
   show DV.bool false=DV.bool (flat_ s)
   rw [hF (by unfold flatI flatA;rw [decide_eq_false (by omega:¬ 0 < dotV (nrmV s) (crsV (sideV s i) (subV (aft s (i+1)) (aft s i)))),Bool.and_false,Bool.false_and])]
  ·have hg2:=of_decide_eq_false (show decide (dotV (nrmV s) (crsV (sideV s i) (subV (aft s (i+1)) (aft s i)))≤0)=false from hg)
   have hg1:=of_decide_eq_false ‹decide (dotV (nrmV s) (subV (s.getD i V0) (s.getD 0 V0))≠0)=false›
   have hA:flatA s i=true:=by
    unfold flatA
    rw [decide_eq_true (Classical.not_not.1 hg1),decide_eq_true (by omega)];rfl
   clear hg hg1 hg2
   refine dwp_loopU (P:=Tryz.prog) (G:=GC) (k:=dk97_0) (b:=db97_0) (α:=Nat) (fun j=>[(8,DV.int .i64 (j))]) (fun _=>[(3,.box 3 (encV (nrmV s))),(5,.box 3 (encV (s.getD i V0))),(6,.box 3 (encV (aft s i))),(7,.box 3 (encV (aft s (i+1))))]) (fun j=>j≤s.length∧(s.take j).all (flatK s i)=true) (fun j=>s.length - j) 0 ⟨Nat.zero_le _,rfl⟩ ?_
   conv=>whnf
   refine ⟨rfl,rfl,?_⟩
   conv=>whnf
   refine ⟨rfl,?_⟩
   intro j ⟨j1,j2⟩
   conv=>whnf
   refine ⟨fun hb=>?_,fun hb=>?_⟩
   ·have hj:j < s.length:=by simpa using hb
    have bj:=h.at hj
    have k9:=r_less (s.getD j V0) (s.getD i V0) (bd9 bj (by decide)) (bd9 bi (by decide))
    have k10:=r_cross _ _ (bd9 bs (by decide)) (bd9 (subV_bd bj bi) (by decide))
    have k11:=r_dot _ _ (bd9 hn (by decide)) (bd9 (crsV_bd bs (subV_bd bj bi)) (by decide))
    have hJ:(s.take (j+1)).all (flatK s i)=flatK s i (s.getD j V0):=by rw [take_snoc s j V0 hj,List.all_append,j2];simp
    clear hb
    conv=>whnf
    repeat' (first
     |(refine ⟨fun hg=>?_,fun hg=>?_⟩<;>first|contradiction|(conv=>whnf))
     |(refine Or.inl ?_;conv=>whnf)
     |(refine ⟨_,k3,?_⟩;conv=>whnf)
     |(rw [getD_enc _ _ j V0 hj];refine ⟨idxA hj rfl,?_⟩;conv=>whnf)
     |(refine ⟨_,k9,?_⟩;conv=>whnf)
     |(refine ⟨_,k10,?_⟩;conv=>whnf)
     |(refine ⟨_,k11,?_⟩;conv=>whnf)
     |(refine And.intro ?_ ?_;kernel_rfl;conv=>whnf))
    ·have hg:=of_decide_eq_true hg
     show DV.bool false=DV.bool (flat_ s)
     rw [hF (by
      unfold flatI
      have:s.all (flatK s i)=false:=by
       rw [List.all_eq_false]
       exact ⟨_,getD_in V0 hj,by unfold flatK;rw [decide_eq_false (by omega)];simp⟩
      rw [this,Bool.and_false])]
    ·have hg:=of_decide_eq_false hg
     rw [wrap_succ j (by omega)]
     exact ⟨j+1,rfl,rfl,rfl,⟨hj,by rw [hJ];exact decide_eq_true (by omega)⟩,by omega⟩
   ·have hj:j=s.length:=by have:=of_decide_eq_false hb;rw [e0] at this;omega
    rw [hj,List.take_length] at j2
    clear hb
    conv=>whnf
    rw [wrap_succ i (by omega)]
    exact ⟨i+1,rfl,rfl,rfl,⟨hi,by rw [hI];unfold flatI;rw [hA,j2];rfl⟩,by omega⟩
  ·have hg:=of_decide_eq_true (show decide (dotV (nrmV s) (subV (s.getD i V0) (s.getD 0 V0))≠0)=true from ‹decide (dotV (nrmV s) (subV (s.getD i V0) (s.getD 0 V0))≠0)=!false›)
   show DV.bool false=DV.bool (flat_ s)
   rw [hF (by unfold flatI flatA;rw [decide_eq_false hg,Bool.false_and,Bool.false_and])]
 ·have hi:i=s.length:=by have:=of_decide_eq_false hb;rw [e0] at this;omega
  rw [hi] at h2
  clear hb
  conv=>whnf
  show DV.bool true=DV.bool (flat_ s)
  rw [show flat_ s=true from h2]
end Sh

namespace Sh
open Go Go.Proofs
theorem firstE_skip {a b:Int} (x:Int) (h:¬ firstE [a,b]≠0):firstE [a,b,x]=x:=by
 obtain ⟨h1,h⟩:=firstE_cons (Classical.not_not.1 h)
 obtain ⟨h2,_⟩:=firstE_cons h
 simp [firstE,h1,h2]
 intro h;exact h.symm
theorem firstE_keep {a b:Int} (x:Int) (h:firstE [a,b]≠0):firstE [a,b,x]=firstE [a,b]:=by
 simp only [firstE] at *
 split
 ·rfl
 ·rename_i ha
  rw [if_neg ha] at h
  split
  ·rfl
  ·rename_i hb;rw [if_neg hb] at h;exact absurd rfl h
theorem map_getD {α:Type} (g:α→Int) (l:List α) (i:Nat) (d:α) (h:i < l.length):(l.map g).getD i 0=g (l.getD i d):=by simp [List.getD_eq_getElem?_getD,h]
theorem r_CheckShape (s:List V3) (hl:s.length < 1073741824):PC 21 [shp s] (DV.int .i64 (chkShp s)):=by
 have e0:((s.map encV).length:Int)=s.length:=by simp
 refine pureCall_ofR dh21 rfl ?_
 conv=>whnf
 repeat' (first
  |(refine ⟨fun hg=>?_,fun hg=>?_⟩<;>first|contradiction|(conv=>whnf))
  |(refine Or.inl ?_;conv=>whnf)
  |(refine ⟨_,q_When ..,?_⟩;conv=>whnf)
  |(refine ⟨_,q_First [_,_] (by simp),?_⟩;conv=>whnf)
  |(refine And.intro ?_ ?_;kernel_rfl;conv=>whnf))
 ·have hg:=of_decide_eq_true hg
  rw [e0] at hg
  exact int_eq (by rw [e0];unfold chkShp sizeS;rw [firstE_keep _ hg,if_pos hg])
 ·have hg:=of_decide_eq_false hg
  rw [e0] at hg
  have hsz:sizeS s=firstE (s.map chkCor):=by unfold sizeS;rw [firstE_skip _ hg]
  refine dwp_loopU (P:=Tryz.prog) (G:=GC) (k:=dk21_0) (b:=db21_0) (α:=Nat) (fun i=>[(4,DV.int .i64 (i))]) (fun _=>[]) (fun i=>i≤s.length∧firstE (s.map chkCor)=firstE ((s.map chkCor).drop i)) (fun i=>s.length - i) 0 ⟨Nat.zero_le _,rfl⟩ ?_
  conv=>whnf
  refine ⟨rfl,rfl,?_⟩
  conv=>whnf
  refine ⟨rfl,?_⟩
  intro i ⟨h1,h2⟩
  conv=>whnf
  refine ⟨fun hb=>?_,fun hb=>?_⟩
  ·have hi:i < s.length:=by simpa using hb
   have hd:=firstE_drop (s.map chkCor) i (by rw [List.length_map];exact hi)
   rw [map_getD chkCor s i V0 hi] at hd
   clear hb
   conv=>whnf
   repeat' (first
    |(refine ⟨fun hg=>?_,fun hg=>?_⟩<;>first|contradiction|(conv=>whnf))
    |(refine Or.inl ?_;conv=>whnf)
    |(rw [getD_enc _ _ i V0 hi];refine ⟨idxA hi rfl,?_⟩;conv=>whnf)
    |(refine ⟨_,q_CheckRange ..,?_⟩;conv=>whnf)
    |(refine ⟨_,q_First [_,_,_] (by simp),?_⟩;conv=>whnf)
    |(refine And.intro ?_ ?_;kernel_rfl;conv=>whnf))
   ·have hg:=of_decide_eq_true (show decide (chkCor (s.getD i V0)≠0)=true from hg)
    rw [if_pos hg] at hd
    exact int_eq (by unfold chkShp;rw [hsz,h2,hd,if_pos hg];rfl)
   ·have hg:=of_decide_eq_false (show decide (chkCor (s.getD i V0)≠0)=false from hg)
    rw [if_neg hg] at hd
    rw [wrap_succ i (by omega)]
    exact ⟨i+1,rfl,rfl,rfl,⟨hi,h2.trans hd⟩,by omega⟩
  ·have hi:i=s.length:=by have:=of_decide_eq_false hb;rw [e0] at this;omega
   rw [hi,List.drop_of_length_le (by rw [List.length_map];exact Nat.le_refl _)] at h2
   have hz:sizeS s=0:=hsz.trans h2
   clear hb
   conv=>whnf
   repeat' (first
    |(refine ⟨fun hg=>?_,fun hg=>?_⟩<;>first|contradiction|(conv=>whnf))
    |(refine Or.inl ?_;conv=>whnf)
    |(refine ⟨_,r_convex s (sizeS_zero hz),?_⟩;conv=>whnf)
    |(refine ⟨_,q_When ..,?_⟩;conv=>whnf)
    |(refine And.intro ?_ ?_;kernel_rfl;conv=>whnf))
   exact int_eq (by unfold chkShp;rw [if_neg (by omega)])
end Sh

namespace Sh
open Go Go.Proofs
theorem firstE_two {a b x y:Int} (h:firstE [a,b]=0):firstE [a,b,x]=x∧firstE [x,y]=if x≠0 then x else y:=by
 obtain ⟨h1,h⟩:=firstE_cons h
 obtain ⟨h2,h⟩:=firstE_cons h
 subst h1 h2
 simp only [firstE]
 refine ⟨?_,?_⟩
 ·by_cases e:x=0<;>simp [e]
 ·by_cases e:y=0<;>simp [e]
theorem r_CheckCell (c:Bx):PC 36 [encB c] (DV.int .i64 (chkBx c)):=by
 have k1:=r_CheckSpot c.f
 have k2:=r_CheckSpot c.t
 have hs:spanE c=whenE (decide (c.t.x≤c.f.x) || decide (c.t.y≤c.f.y)) 14:=rfl
 refine pureCall_ofR dh36 rfl ?_
 conv=>whnf
 repeat' (first
  |(refine ⟨fun hg=>?_,fun hg=>?_⟩<;>first|contradiction|(conv=>whnf))
  |(refine Or.inl ?_;conv=>whnf)
  |(refine ⟨_,k1,?_⟩;conv=>whnf)
  |(refine ⟨_,k2,?_⟩;conv=>whnf)
  |(refine ⟨_,q_When ..,?_⟩;conv=>whnf)
  |(refine ⟨_,q_First [_,_] (by simp),?_⟩;conv=>whnf)
  |(refine And.intro ?_ ?_;kernel_rfl;conv=>whnf))
 ·have hg:=of_decide_eq_true hg
  exact int_eq (by
   have h:frstB c=firstE [chkSpot c.f,chkSpot c.t]:=firstE_keep _ hg
   unfold chkBx;rw [h,if_pos hg])
 all_goals
  first
   |rw [‹decide (c.t.x≤c.f.x)=false›,Bool.false_or] at hs
   |rw [show decide (c.t.x≤c.f.x)=true from ‹_›,Bool.true_or] at hs
  have hg:=Classical.not_not.1 (of_decide_eq_false (show decide (firstE [chkSpot c.f,chkSpot c.t]≠0)=false from ‹_›))
  obtain ⟨h1,h2⟩:=firstE_cons hg
  obtain ⟨h2,_⟩:=firstE_cons h2
  have hw:=sz_w (chkSpot_zero h1) (chkSpot_zero h2)
  refine int_eq ?_
  rw [show chkBx c=if frstB c≠0 then frstB c else whenE (decide (256 < sizeB c)) 5 from rfl,show frstB c=spanE c from (firstE_two (x:=spanE c) (y:=0) hg).1,hs,← hw]
  exact (firstE_two hg).2
end Sh

namespace Sh
open Go Go.Proofs
theorem absG0 {n:Int} (h : -GB≤n∧n≤GB):minmaxI true n (IntKind.i64.wrap (0 - n))=(n.natAbs:Int):=by
 rw [Int.zero_sub,absG h]
theorem q_Divisor (n d:Int) (hn : -GB≤n∧n≤GB) (hd : -GB≤d∧d≤GB):PC 143 [DV.int .i64 (n),DV.int .i64 (d)] (DV.int .i64 (gcdI n d)):=by
 have w1:=absG0 hn
 have w2:=absG0 hd
 refine pureCall_ofR dh143 rfl ?_
 conv=>whnf
 rw [w1,w2]
 refine dwp_loopU (P:=Tryz.prog) (G:=GC) (k:=dk143_0) (b:=db143_0) (α:=Nat×Nat) (fun a=>[(0,DV.int .i64 (a.1)),(1,DV.int .i64 (a.2))]) (fun _=>[]) (fun a=>Nat.gcd a.1 a.2=Int.gcd n d) (fun a=>a.2) (n.natAbs,d.natAbs) rfl ?_
 conv=>whnf
 refine ⟨rfl,rfl,?_⟩
 conv=>whnf
 refine ⟨rfl,?_⟩
 intro ⟨a,b⟩ h
 conv=>whnf
 refine ⟨fun hb=>?_,fun hb=>?_⟩
 ·have hb0:b≠0:=by have:=of_decide_eq_true hb;dsimp only at this;omega
  clear hb
  conv=>whnf
  refine ⟨by show (b:Int)≠0;omega,?_⟩
  conv=>whnf
  refine ⟨by kernel_rfl,?_⟩
  conv=>whnf
  have hm:((a:Int)).tmod (b:Int)=((a % b:Nat):Int):=rfl
  exact ⟨(b,a % b),rfl,rfl,rfl,(gcd_step hb0).trans h,Nat.mod_lt _ (by omega)⟩
 ·have hb0:b=0:=by have:=of_decide_eq_false hb;dsimp only at this;omega
  clear hb
  conv=>whnf
  subst hb0
  refine int_eq ?_
  unfold gcdI
  rw [← h];simp
theorem q_Lowest (n d:Int) (hn : -GB≤n∧n≤GB) (hd:0 < d∧d≤GB):PC 80 [DV.int .i64 (n),DV.int .i64 (d)] (encR (lowR n d)):=by
 have k1:=q_Divisor n d hn ⟨by omega,hd.2⟩
 have hp:=gcdI_pos (n:=n) hd.1
 refine pureCall_ofR dh80 rfl ?_
 conv=>whnf
 refine ⟨fun hg=>absurd (of_decide_eq_true hg) (by omega),fun hg=>?_⟩
 clear hg
 conv=>whnf
 refine .inl ?_
 conv=>whnf
 refine ⟨_,k1,?_⟩
 conv=>whnf
 refine ⟨by omega,?_⟩
 conv=>whnf
 refine ⟨by omega,?_⟩
 conv=>whnf
 rw [div_wI hn,div_wI ⟨by omega,hd.2⟩]
 repeat' (first
  |(refine ⟨fun hg=>?_,fun hg=>?_⟩<;>first|contradiction|(conv=>whnf))
  |(refine Or.inl ?_;conv=>whnf)
  |(refine And.intro ?_ ?_;kernel_rfl;conv=>whnf))
 rfl
end Sh

namespace Sh
open Go Go.Proofs
def cpR {α:Type} (enc:α→DV) (l:List α) (i:Nat):List DV:=(l.take i).map enc
theorem cpR_len {α:Type} (enc:α→DV) (l:List α) (i:Nat) (h:i≤l.length):(cpR enc l i).length=i:=by simp [cpR];omega
theorem cpR_succ {α:Type} (enc:α→DV) (l:List α) (i:Nat) (d:α) (h:i < l.length):cpR enc l (i+1)=cpR enc l i++[enc (l.getD i d)]:=take_map_succ _ l i d h
theorem cpR_all {α:Type} (enc:α→DV) (l:List α):cpR enc l l.length=l.map enc:=by unfold cpR;rw [List.take_length]
end Sh

namespace Sh
open Go Go.Proofs
theorem l_own (s:List V3) (hl:s.length < 1073741824):PC 16 [shp s] (shp s):=by
 refine pureCall_ofR dh16 rfl ?_
 conv=>whnf
 refine ⟨⟨by simp;omega,fun e he=>by obtain ⟨v,_,rfl⟩:=List.mem_map.1 he;rfl,fun e he=>absurd he List.not_mem_nil⟩,?_⟩
 conv=>whnf
 rfl
theorem r_Owned (l:List (List V3)) (hl:l.length < 1073741824) (hs:∀ s ∈ l,s.length < 1073741824):PC 93 [shps l] (shps l):=by
 have e0:((l.map shp).length:Int)=l.length:=by simp
 refine pureCall_ofR dh93 rfl ?_
 conv=>whnf
 refine dwp_loopU (P:=Tryz.prog) (G:=GC) (k:=dk93_0) (b:=db93_0) (α:=Nat) (fun i=>[(3,.own 3 0 (cpR shp l i).length (cpR shp l i).length),(4,DV.int .i64 (i))]) (fun i=>[(3,.row 1 (cpR shp l i) false)]) (fun i=>i≤l.length) (fun i=>l.length - i) 0 (Nat.zero_le _) ?_
 conv=>whnf
 refine ⟨rfl,rfl,?_⟩
 conv=>whnf
 refine ⟨rfl,?_⟩
 intro i h1
 conv=>whnf
 refine ⟨fun hb=>?_,fun hb=>?_⟩
 ·have hi:i < l.length:=by simpa using hb
  have hln:=cpR_len shp l i h1
  have hsl:=hs _ (getD_in [] hi)
  clear hb
  conv=>whnf
  rw [getD_enc _ _ (i) [] hi]
  refine ⟨idxA hi rfl,?_⟩
  conv=>whnf
  refine ⟨⟨by rw [List.length_map,List.reverse_nil,List.length_nil];omega,fun e he=>by obtain ⟨v,_,rfl⟩:=List.mem_map.1 he;rfl,fun e he=>absurd he List.not_mem_nil⟩,?_⟩
  conv=>whnf
  repeat' (first
   |(refine ⟨fun hg=>?_,fun hg=>?_⟩<;>first|contradiction|(conv=>whnf))
   |(refine Or.inl ?_;conv=>whnf)
   |(refine ⟨⟨rfl,rfl,rfl,by rw [hln];simp;omega,fun e he=>by simp at he;subst he;rfl⟩,?_⟩;conv=>whnf)
   |(refine And.intro ?_ ?_;kernel_rfl;conv=>whnf))
  rw [wrap_succ i (by omega)]
  refine ⟨i+1,rfl,?_,?_,hi,by omega⟩
  ·rw [cpR_succ shp l i [] hi];rfl
  ·rw [cpR_succ shp l i [] hi];rfl
 ·have hi:i=l.length:=by have:=of_decide_eq_false hb;rw [e0] at this;omega
  clear hb
  conv=>whnf
  exact ⟨rfl,by rw [window_full,hi,cpR_all];rfl⟩
theorem l_all (l:List (List V3)) (hl:l.length < 1073741824) (hs:∀ s ∈ l,s.length < 1073741824):PC 19 [shps l] (shps l):=by
 have k1:=r_Owned l hl hs
 refine pureCall_ofR dh19 rfl ?_
 conv=>whnf
 repeat' (first
  |(refine ⟨fun hg=>?_,fun hg=>?_⟩<;>first|contradiction|(conv=>whnf))
  |(refine Or.inl ?_;conv=>whnf)
  |(refine ⟨_,k1,?_⟩;conv=>whnf)
  |(refine And.intro ?_ ?_;kernel_rfl;conv=>whnf))
 rfl
end Sh

namespace Sh
open Go Go.Proofs
def smlB (c:Bx):Bool:=decide (chkBx c≠0) || decide (sizeB c≤49)
theorem r_Small (c:Bx):PC 30 [encB c] (.bool (smlB c)):=by
 have k1:=r_CheckCell c
 refine pureCall_ofR dh30 rfl ?_
 conv=>whnf
 repeat' (first
  |(refine ⟨fun hg=>?_,fun hg=>?_⟩<;>first|contradiction|(conv=>whnf))
  |(refine Or.inl ?_;conv=>whnf)
  |(refine ⟨_,k1,?_⟩;conv=>whnf)
  |(refine And.intro ?_ ?_;kernel_rfl;conv=>whnf))
 ·exact bool_eq (by unfold smlB;rw [show decide (chkBx c≠0)=true from hg];rfl)
 ·have h:=of_decide_eq_false hg
  have hB:=(chkBx_zero (Classical.not_not.1 h)).1
  have hw:=sz_w hB.pts.1 hB.pts.2
  exact bool_eq (by unfold smlB;rw [show decide (chkBx c≠0)=false from hg,hw];rfl)
end Sh

namespace Sh
open Go Go.Proofs
def samP (p q:Pt):Bool:=decide (p.x=q.x) && (decide (p.y=q.y) && true)
theorem samP_iff {p q:Pt}:samP p q=true ↔ p=q:=by
 unfold samP
 rw [Bool.and_true,Bool.and_eq_true,decide_eq_true_eq,decide_eq_true_eq]
 exact ⟨fun h=>pt_ext h.1 h.2,fun h=>by subst h;exact ⟨rfl,rfl⟩⟩
def entK (E:List (Pt×Int)):List (DV×DV):=E.map fun e=>(encPt e.1,DV.int .i64 e.2)
def addK:List (Pt×Int)→Pt→List (Pt×Int)
 |[],p=>[(p,1)]
 |e :: r,p=>if samP p e.1=true then (e.1,e.2+1) :: r else e :: addK r p
def cntK:List (Pt×Int)→Pt→Int
 |[],_=>0
 |e :: r,p=>if samP p e.1=true then e.2 else cntK r p
theorem cnt_add (p q:Pt):∀ E:List (Pt×Int),cntK (addK E p) q=cntK E q+if samP q p=true then 1 else 0
 |[]=>by
  show (if samP q p=true then (1:Int) else 0)=0+_
  rw [Int.zero_add]
 |e :: r=>by
  have ih:=cnt_add p q r
  by_cases hp:samP p e.1=true
  ·have h:=samP_iff.1 hp
   show cntK (if samP p e.1=true then (e.1,e.2+1) :: r else e :: addK r p) q=_
   rw [if_pos hp]
   show (if samP q e.1=true then e.2+1 else cntK r q)=(if samP q e.1=true then e.2 else cntK r q)+_
   rw [h]
   split<;>omega
  ·show cntK (if samP p e.1=true then (e.1,e.2+1) :: r else e :: addK r p) q=_
   rw [if_neg hp]
   show (if samP q e.1=true then e.2 else cntK (addK r p) q)=(if samP q e.1=true then e.2 else cntK r q)+_
   by_cases hq:samP q e.1=true
   ·rw [if_pos hq,if_pos hq,if_neg (fun h=>hp (by rw [← samP_iff.1 hq,samP_iff.1 h];exact samP_iff.2 rfl)),Int.add_zero]
   ·rw [if_neg hq,if_neg hq,ih]
theorem dk_find (p:Pt):∀ (E:List (Pt×Int)) (k:Nat),
  (dfind (keyEq 3 [1,1]) (encPt p) (entK E) k=some none∧cntK E p=0∧entK (addK E p)=entK E++[(encPt p,DV.int .i64 (1))]) ∨
  (∃ i,i < E.length∧dfind (keyEq 3 [1,1]) (encPt p) (entK E) k=some (some (k+i,DV.int .i64 (cntK E p)))∧(entK E).set i (encPt p,DV.int .i64 (cntK E p))=entK E ∧
    (entK E).set i (encPt p,DV.int .i64 (cntK E p+1))=entK (addK E p)∧((entK E).getD i (.undef,.undef)).1=encPt p)
 |[],k=>.inl ⟨rfl,rfl,rfl⟩
 |e :: r,k=>by
  have hd:dfind (keyEq 3 [1,1]) (encPt p) (entK (e :: r)) k=match some (samP p e.1) with
   |some true=>some (some (k,DV.int .i64 (e.2)))
   |some false=>dfind (keyEq 3 [1,1]) (encPt p) (entK r) (k+1)
   |none=>none:=rfl
  rw [hd]
  by_cases hp:samP p e.1=true
  ·have h:=samP_iff.1 hp
   have hc:cntK (e :: r) p=e.2:=if_pos hp
   have ha:addK (e :: r) p=(e.1,e.2+1) :: r:=if_pos hp
   refine .inr ⟨0,Nat.succ_pos _,?_,?_,?_,?_⟩
   ·rw [hp,hc];rfl
   ·rw [hc,h];rfl
   ·rw [hc,ha,h];rfl
   ·rw [h];rfl
  ·have hn:samP p e.1=false:=by simpa using hp
   have hc:cntK (e :: r) p=cntK r p:=if_neg hp
   have ha:addK (e :: r) p=e :: addK r p:=if_neg hp
   rcases dk_find p r (k+1) with ⟨h1,h2,h3⟩|⟨i,h1,h2,h3,h4,h5⟩
   ·refine .inl ⟨?_,?_,?_⟩
    ·rw [hn];exact h1
    ·rw [hc];exact h2
    ·rw [ha]
     show (encPt e.1,DV.int .i64 (e.2)) :: entK (addK r p)=_
     rw [h3];rfl
   ·refine .inr ⟨i+1,Nat.succ_lt_succ h1,?_,?_,?_,?_⟩
    ·rw [hn,hc]
     show dfind (keyEq 3 [1,1]) (encPt p) (entK r) (k+1)=_
     rw [h2,show k+1+i=k+(i+1) by omega]
    ·rw [hc]
     show (encPt e.1,DV.int .i64 (e.2)) :: (entK r).set i _=_
     rw [h3];rfl
    ·rw [hc,ha]
     show (encPt e.1,DV.int .i64 (e.2)) :: (entK r).set i _=(encPt e.1,DV.int .i64 (e.2)) :: entK (addK r p)
     rw [h4]
    ·exact h5
def addsK (E:List (Pt×Int)) (ps:List Pt):List (Pt×Int):=ps.foldl addK E
theorem addsK_take (E:List (Pt×Int)) (ps:List Pt) (k:Nat) (h:k < ps.length):addsK E (ps.take (k+1))=addK (addsK E (ps.take k)) (ps.getD k P0):=by
 unfold addsK
 rw [take_snoc ps k P0 h,List.foldl_append];rfl
theorem addsK_app (E:List (Pt×Int)) (a b:List Pt):addsK E (a++b)=addsK (addsK E a) b:=List.foldl_append
theorem cnt_adds (q:Pt):∀ (ps:List Pt) (E:List (Pt×Int)),cntK (addsK E ps) q=cntK E q+(ps.filter (samP q)).length
 |[],E=>by show cntK E q=_;simp
 |p :: r,E=>by
  show cntK (addsK (addK E p) r) q=_
  rw [cnt_adds q r,cnt_add,List.filter_cons]
  split<;>simp<;>omega
def hidsL (l:List (List V3)) (sun:V3) (ps:List Pt) (i:Nat):List Pt:=(l.take i).flatMap fun s=>shdL s sun ps
theorem hidsL_succ (l:List (List V3)) (sun:V3) (ps:List Pt) (i:Nat) (h:i < l.length):hidsL l sun ps (i+1)=hidsL l sun ps i++shdL (l.getD i []) sun ps:=by
 unfold hidsL
 rw [take_snoc l i [] h,List.flatMap_append]
 simp
theorem hidsL_len (l:List (List V3)) (sun:V3) (ps:List Pt):∀ i,i≤l.length→(hidsL l sun ps i).length≤i * ps.length
 |0,_=>by simp [hidsL]
 |i+1,h=>by
  have ih:=hidsL_len l sun ps i (by omega)
  rw [hidsL_succ l sun ps i (by omega),List.length_append]
  have:=List.length_filter_le (fun p=>hidB (l.getD i []) sun p) ps
  have e:(i+1) * ps.length=i * ps.length+ps.length:=Nat.succ_mul _ _
  unfold shdL;omega
theorem filt_one {p:Pt} (f:Pt→Bool):∀ {ps:List Pt},ps.Nodup→p ∈ ps→((ps.filter f).filter (samP p)).length=if f p=true then 1 else 0
 |[],_,h=>absurd h List.not_mem_nil
 |a :: r,hn,h=>by
  have hn2:=List.nodup_cons.1 hn
  by_cases e:p=a
  ·subst e
   have hz:(r.filter f).filter (samP p)=[]:=by
    rw [List.filter_eq_nil_iff]
    intro q hq hs
    exact hn2.1 (by rw [samP_iff.1 hs];exact (List.mem_filter.1 hq).1)
   rw [List.filter_cons]
   split
   ·rw [List.filter_cons,if_pos (samP_iff.2 rfl),hz];rfl
   ·rw [hz];rfl
  ·have hr:p ∈ r:=by rcases List.mem_cons.1 h with h|h;exact absurd h e;exact h
   have ih:=filt_one f hn2.2 hr
   rw [List.filter_cons]
   split
   ·rw [List.filter_cons,if_neg (fun h=>e (samP_iff.1 h)),ih]
   ·exact ih
theorem hidsL_count {l:List (List V3)} {sun:V3} {ps:List Pt} (hn:ps.Nodup) {p:Pt} (hp:p ∈ ps):∀ i,i≤l.length→((hidsL l sun ps i).filter (samP p)).length=((l.take i).filter fun s=>hidB s sun p).length
 |0,_=>by simp [hidsL]
 |i+1,h=>by
  have ih:=hidsL_count (l:=l) (sun:=sun) hn hp i (by omega)
  rw [hidsL_succ l sun ps i (by omega),List.filter_append,List.length_append,ih,take_snoc l i [] (by omega),List.filter_append,List.length_append]
  congr 1
  unfold shdL
  rw [filt_one _ hn hp,List.filter_cons]
  split<;>rfl
def ltP (a b:Pt):Prop:=a.y < b.y∨(a.y=b.y∧a.x < b.x)
theorem spots_sorted (c:Bx):(spotsL c).Pairwise ltP:=by
 unfold spotsL restB
 rw [List.pairwise_flatMap]
 refine ⟨fun j _=>?_,?_⟩
 ·unfold rowB
  rw [List.pairwise_map]
  exact List.Pairwise.imp (fun h=>.inr ⟨rfl,by unfold spotB;simp only;omega⟩) List.pairwise_lt_range'
 ·refine List.Pairwise.imp (fun h=>?_) List.pairwise_lt_range'
  intro p hp q hq
  unfold rowB at hp hq
  obtain ⟨i,_,rfl⟩:=List.mem_map.1 hp
  obtain ⟨j,_,rfl⟩:=List.mem_map.1 hq
  exact .inl (by unfold spotB;simp only;omega)
theorem shd_sorted (s:List V3) (sun:V3) (c:Bx) {k:Nat} (h0:0 < k) (hk:k < (shdL s sun (spotsL c)).length):ltP ((shdL s sun (spotsL c)).getD (k - 1) P0) ((shdL s sun (spotsL c)).getD k P0):=by
 have hs:(shdL s sun (spotsL c)).Pairwise ltP:=List.Pairwise.filter _ (spots_sorted c)
 have:=List.pairwise_iff_getElem.1 hs (k - 1) k (by omega) hk (by omega)
 rw [show (shdL s sun (spotsL c)).getD (k - 1) P0=(shdL s sun (spotsL c))[k - 1] by simp [List.getD_eq_getElem?_getD,show k - 1 < (shdL s sun (spotsL c)).length by omega]]
 rw [show (shdL s sun (spotsL c)).getD k P0=(shdL s sun (spotsL c))[k] by simp [List.getD_eq_getElem?_getD,hk]]
 exact this
theorem sumI_rng_succ (n:Nat) (f:Nat→Int):sumI (rng (n+1) f)=sumI (rng n f)+f n:=by
 rw [rng_succ]
 have:∀ (a:List Int) (b:Int),sumI (a++[b])=sumI a+b:=by
  intro a b
  induction a with
  |nil=>show b+0=0+b;omega
  |cons x r ih=>show x+sumI (r++[b])=(x+sumI r)+b;rw [ih];omega
 exact this _ _
theorem sumI_rng_zero (n:Nat):sumI (rng n fun _=>0)=0:=by
 induction n with
 |zero=>rfl
 |succ n ih=>rw [sumI_rng_succ,ih];rfl
theorem sumI_rng_add (n:Nat) (f g:Nat→Int):sumI (rng n fun i=>f i+g i)=sumI (rng n f)+sumI (rng n g):=by
 induction n with
 |zero=>rfl
 |succ n ih=>rw [sumI_rng_succ,sumI_rng_succ,sumI_rng_succ,ih];omega
theorem sumI_rng_swap (n m:Nat) (f:Nat→Nat→Int):sumI (rng n fun i=>sumI (rng m fun j=>f i j))=sumI (rng m fun j=>sumI (rng n fun i=>f i j)):=by
 induction n with
 |zero=>exact (sumI_rng_zero m).symm
 |succ n ih =>
  rw [sumI_rng_succ,ih,← sumI_rng_add]
  congr 1
  exact rng_congr fun j _=>(sumI_rng_succ n fun i=>f i j).symm
theorem sumI_app (a b:List Int):sumI (a++b)=sumI a+sumI b:=by
 induction a with
 |nil=>show sumI b=0+sumI b;omega
 |cons x r ih=>show x+sumI (r++b)=(x+sumI r)+sumI b;rw [ih];omega
theorem sumI_flat {α β:Type} (f:α→List β) (g:β→Int):∀ l:List α,sumI ((l.flatMap f).map g)=sumI (l.map fun a=>sumI ((f a).map g))
 |[]=>rfl
 |a :: r=>by
  rw [List.flatMap_cons,List.map_append,sumI_app,sumI_flat f g r];rfl
def colL (l:List (List V3)) (sun:V3) (c:Bx) (i k:Nat):Int:=sumI (rng k fun j=>ind (!anyHid l sun (spotB c j i)))
theorem range'_rng (f:Nat→Int) (n:Nat):((List.range' 0 n).map f)=rng n f:=by
 unfold rng
 rw [List.range_eq_range']
theorem light_cols (l:List (List V3)) (sun:V3) (c:Bx):lightS l sun c=sumI (rng (wB c) fun i=>colL l sun c i (hB c)):=by
 unfold lightS litL
 rw [filter_ind]
 unfold spotsL restB
 rw [sumI_flat,Nat.sub_zero,range'_rng]
 unfold colL
 rw [sumI_rng_swap]
 congr 1
 refine rng_congr fun j _=>?_
 unfold rowB
 rw [List.map_map,Nat.sub_zero,range'_rng]
 rfl
theorem none_ind (l:List (List V3)) (sun:V3) (p:Pt):((l.filter fun s=>hidB s sun p).length=0) ↔ anyHid l sun p=false:=by
 rw [List.length_eq_zero_iff,List.filter_eq_nil_iff]
 unfold anyHid
 rw [List.any_eq_false]
end Sh

set_option maxHeartbeats 2000000
namespace Sh
open Go Go.Proofs
theorem r_CheckShapeU (s:List V3):PC 21 [shp s] (DV.int .i64 (chkShp s)):=by
 by_cases hl:s.length < 1073741824
 ·exact r_CheckShape s hl
 ·have e0:((s.map encV).length:Int)=s.length:=by simp
  refine pureCall_ofR dh21 rfl ?_
  conv=>whnf
  repeat' (first
   |(refine ⟨fun hg=>?_,fun hg=>?_⟩<;>first|contradiction|(conv=>whnf))
   |(refine Or.inl ?_;conv=>whnf)
   |(refine ⟨_,q_When ..,?_⟩;conv=>whnf)
   |(refine ⟨_,q_First [_,_] (by simp),?_⟩;conv=>whnf)
   |(refine And.intro ?_ ?_;kernel_rfl;conv=>whnf))
  ·have hg:=of_decide_eq_true hg
   rw [e0] at hg
   exact int_eq (by rw [e0];unfold chkShp sizeS;rw [firstE_keep _ hg,if_pos hg])
  ·have hg:=of_decide_eq_false hg
   rw [e0] at hg
   exfalso
   apply hg
   rw [show decide ((s.length:Int) < 3)=false from decide_eq_false (by omega),show decide (6 < (s.length:Int))=true from decide_eq_true (by omega)]
   decide
theorem r_CheckShapesU (l:List (List V3)):PC 24 [shps l] (DV.int .i64 (chkShps l)):=by
 have e0:((l.map shp).length:Int)=l.length:=by simp
 refine pureCall_ofR dh24 rfl ?_
 conv=>whnf
 repeat' (first
  |(refine ⟨fun hg=>?_,fun hg=>?_⟩<;>first|contradiction|(conv=>whnf))
  |(refine Or.inl ?_;conv=>whnf)
  |(refine And.intro ?_ ?_;kernel_rfl;conv=>whnf))
 ·have hg:=of_decide_eq_true hg
  exact int_eq (by unfold chkShps;rw [← e0,if_pos hg])
 ·have hgl:=of_decide_eq_false hg
  rw [e0] at hgl
  refine dwp_loopU (P:=Tryz.prog) (G:=GC) (k:=dk24_0) (b:=db24_0) (α:=Nat) (fun i=>[(3,DV.int .i64 (i))]) (fun _=>[]) (fun i=>i≤l.length∧firstE (l.map chkShp)=firstE ((l.map chkShp).drop i)) (fun i=>l.length - i) 0 ⟨Nat.zero_le _,rfl⟩ ?_
  conv=>whnf
  refine ⟨rfl,rfl,?_⟩
  conv=>whnf
  refine ⟨rfl,?_⟩
  intro i ⟨h1,h2⟩
  conv=>whnf
  refine ⟨fun hb=>?_,fun hb=>?_⟩
  ·have hi:i < l.length:=by simpa using hb
   have hd:=firstE_drop (l.map chkShp) i (by rw [List.length_map];exact hi)
   rw [map_getD chkShp l i [] hi] at hd
   clear hb
   conv=>whnf
   rw [getD_enc _ _ (i) [] hi]
   refine ⟨idxA hi rfl,?_⟩
   conv=>whnf
   repeat' (first
    |(refine ⟨fun hg=>?_,fun hg=>?_⟩<;>first|contradiction|(conv=>whnf))
    |(refine Or.inl ?_;conv=>whnf)
    |(refine ⟨_,r_CheckShapeU _,?_⟩;conv=>whnf)
    |(refine And.intro ?_ ?_;kernel_rfl;conv=>whnf))
   ·have hg2:=of_decide_eq_true ‹decide (chkShp (l.getD i [])≠0)=true›
    rw [if_pos hg2] at hd
    exact int_eq (by unfold chkShps;rw [if_neg hgl,h2,hd])
   ·have hg2:=of_decide_eq_false ‹decide (chkShp (l.getD i [])≠0)=false›
    rw [if_neg hg2] at hd
    rw [wrap_succ i (by omega)]
    exact ⟨i+1,rfl,rfl,rfl,⟨hi,h2.trans hd⟩,by omega⟩
  ·have hi:i=l.length:=by have:=of_decide_eq_false hb;rw [e0] at this;omega
   rw [hi,List.drop_of_length_le (by rw [List.length_map];exact Nat.le_refl _)] at h2
   conv=>whnf
   exact int_eq (by unfold chkShps;rw [if_neg hgl,h2];rfl)
end Sh

namespace Sh
open Go
def db9_0 : DC := (.seq (.ops false [⟨some 147,.bin .lss (.tmp 146) (.tmp 145),none,[]⟩]) (.seq (.cond (.tmp 147) .skip (.exit 0)) (.seq (.block 1 none (.seq (.ops false [⟨some 148,.iaddr 1 (.tmp 144) (.tmp 146),none,[]⟩,⟨some 149,.load none (.tmp 148),none,[]⟩,⟨some 16,.mov (.tmp 149),none,[]⟩]) (.seq (.seq (.ops false [⟨some 150,.mov (.tmp 16),none,[]⟩,⟨some 151,.bin .lss (.tmp 150) (.const (.int .i64 0)),none,[]⟩]) (.cond (.tmp 151) (.seq (.ops false [⟨some 6,.mov (.const (.bool false)),none,[]⟩]) .ret) .skip)) (.ops false [⟨some 152,.mov (.tmp 14),none,[]⟩,⟨some 153,.mov (.tmp 16),none,[]⟩,⟨some 154,.bin .add (.tmp 152) (.tmp 153),none,[]⟩,⟨some 14,.mov (.tmp 154),none,[]⟩])))) (.ops false [⟨some 155,.bin .add (.tmp 146) (.const (.int .i64 1)),none,[]⟩,⟨some 146,.mov (.tmp 155),none,[]⟩]))))
def dk9_0 : Keep := ⟨[],[0,4,5,7,8,10,14,144,145,146],[4,5,33,39,40,105,173,174,249]⟩
def db9_1 : DC := (.seq (.seq (.ops false [⟨some 164,.mov (.tmp 18),none,[]⟩,⟨some 165,.bin .geq (.tmp 164) (.const (.int .i64 0)),none,[]⟩]) (.cond (.tmp 165) .skip (.exit 2))) (.seq (.block 3 none (.ops false [⟨some 168,.mov (.tmp 17),none,[]⟩,⟨some 169,.mov (.tmp 0),none,[]⟩,⟨some 170,.mov (.tmp 18),none,[]⟩,⟨some 171,.iaddr 1 (.tmp 169) (.tmp 170),none,[]⟩,⟨some 172,.load none (.tmp 171),none,[]⟩,⟨some 173,.lit true 1 1 (.full []) [(0,(.tmp 172))],none,[]⟩,⟨some 174,.append false 1 (.tmp 168) (.tmp 173),none,[]⟩,⟨some 17,.mov (.tmp 174),none,[]⟩])) (.ops false [⟨some 166,.mov (.tmp 18),none,[]⟩,⟨some 167,.bin .sub (.tmp 166) (.const (.int .i64 1)),none,[]⟩,⟨some 18,.mov (.tmp 167),none,[]⟩])))
def dk9_1 : Keep := ⟨[(17,1)],[0,4,5,7,8,10,14,17,18],[4,5,17,33,39,40,105,249]⟩
def db9_2 : DC := (.seq (.ops false [⟨some 212,.bin .lss (.tmp 211) (.tmp 210),none,[]⟩]) (.seq (.cond (.tmp 212) .skip (.exit 4)) (.seq (.block 5 none (.seq (.ops false [⟨some 213,.iaddr 1 (.tmp 209) (.tmp 211),none,[]⟩,⟨some 214,.load none (.tmp 213),none,[]⟩,⟨some 24,.mov (.tmp 214),none,[]⟩]) (.ops false [⟨some 215,.mov (.tmp 14),none,[]⟩,⟨some 216,.mov (.tmp 24),none,[]⟩,⟨some 217,.bin .sub (.tmp 215) (.tmp 216),none,[]⟩,⟨some 14,.mov (.tmp 217),none,[]⟩]))) (.ops false [⟨some 218,.bin .add (.tmp 211) (.const (.int .i64 1)),none,[]⟩,⟨some 211,.mov (.tmp 218),none,[]⟩]))))
def dk9_2 : Keep := ⟨[],[0,4,5,7,8,10,14,209,210,211],[4,5,33,39,40,105,173,174,249]⟩
def db9_3 : DC := (.seq (.ops false [⟨some 275,.bin .lss (.tmp 274) (.tmp 273),none,[]⟩]) (.seq (.cond (.tmp 275) .skip (.exit 8)) (.seq (.block 9 none (.seq (.ops false [⟨some 276,.mov (.tmp 274),none,[]⟩,⟨some 277,.iaddr 2 (.tmp 272) (.tmp 274),none,[]⟩,⟨some 278,.load (some 2) (.tmp 277),none,[]⟩,⟨some 33,.alloc (.agg [.int .i64 0,.int .i64 0]) 2,none,[]⟩,⟨some 32,.mov (.tmp 276),none,[]⟩,⟨none,.store 2 (.tmp 33) (.tmp 278),none,[]⟩]) (.seq (.seq (.ops true [⟨some 279,.faddr 0 1 false (.tmp 33),none,[]⟩,⟨some 280,.load none (.tmp 279),none,[0]⟩,⟨some 281,.faddr 0 2 true (.tmp 5),none,[]⟩,⟨some 282,.faddr 0 1 false (.tmp 281),none,[2]⟩,⟨some 283,.load none (.tmp 282),none,[3,2]⟩,⟨some 284,.bin .lss (.tmp 280) (.tmp 283),none,[1,0,4,3,2]⟩,⟨some 285,.mov (.tmp 284),none,[5,1,0,4,3,2]⟩,⟨some 286,.faddr 0 1 false (.tmp 33),some (285,false),[6,5,1,0,4,3,2]⟩,⟨some 287,.load none (.tmp 286),some (285,false),[7,6,5,1,0,4,3,2]⟩,⟨some 288,.faddr 2 2 true (.tmp 5),some (285,false),[6,5,1,0,4,3,2]⟩,⟨some 289,.faddr 0 1 false (.tmp 288),some (285,false),[9,6,5,1,0,4,3,2]⟩,⟨some 290,.load none (.tmp 289),some (285,false),[10,9,6,5,1,0,4,3,2]⟩,⟨some 291,.bin .geq (.tmp 287) (.tmp 290),some (285,false),[8,7,6,5,1,0,4,3,2,11,10,9]⟩,⟨some 292,.pick (.tmp 285) (.const (.bool true)) (.tmp 291),none,[6,5,1,0,4,3,2,12,8,7,11,10,9]⟩,⟨some 293,.mov (.tmp 292),none,[13,6,5,1,0,4,3,2,12,8,7,11,10,9]⟩,⟨some 294,.faddr 1 1 false (.tmp 33),some (293,false),[14,13,6,5,1,0,4,3,2,12,8,7,11,10,9]⟩,⟨some 295,.load none (.tmp 294),some (293,false),[15,14,13,6,5,1,0,4,3,2,12,8,7,11,10,9]⟩,⟨some 296,.faddr 0 2 true (.tmp 5),some (293,false),[14,13,6,5,1,0,4,3,2,12,8,7,11,10,9]⟩,⟨some 297,.faddr 1 1 false (.tmp 296),some (293,false),[17,14,13,6,5,1,0,4,3,2,12,8,7,11,10,9]⟩,⟨some 298,.load none (.tmp 297),some (293,false),[18,17,14,13,6,5,1,0,4,3,2,12,8,7,11,10,9]⟩,⟨some 299,.bin .lss (.tmp 295) (.tmp 298),some (293,false),[16,15,14,13,6,5,1,0,4,3,2,12,8,7,11,10,9,19,18,17]⟩,⟨some 300,.pick (.tmp 293) (.const (.bool true)) (.tmp 299),none,[14,13,6,5,1,0,4,3,2,12,8,7,11,10,9,20,16,15,19,18,17]⟩,⟨some 301,.mov (.tmp 300),none,[21,14,13,6,5,1,0,4,3,2,12,8,7,11,10,9,20,16,15,19,18,17]⟩,⟨some 302,.faddr 1 1 false (.tmp 33),some (301,false),[22,21,14,13,6,5,1,0,4,3,2,12,8,7,11,10,9,20,16,15,19,18,17]⟩,⟨some 303,.load none (.tmp 302),some (301,false),[23,22,21,14,13,6,5,1,0,4,3,2,12,8,7,11,10,9,20,16,15,19,18,17]⟩,⟨some 304,.faddr 2 2 true (.tmp 5),some (301,false),[22,21,14,13,6,5,1,0,4,3,2,12,8,7,11,10,9,20,16,15,19,18,17]⟩,⟨some 305,.faddr 1 1 false (.tmp 304),some (301,false),[25,22,21,14,13,6,5,1,0,4,3,2,12,8,7,11,10,9,20,16,15,19,18,17]⟩,⟨some 306,.load none (.tmp 305),some (301,false),[26,25,22,21,14,13,6,5,1,0,4,3,2,12,8,7,11,10,9,20,16,15,19,18,17]⟩,⟨some 307,.bin .geq (.tmp 303) (.tmp 306),some (301,false),[24,23,22,21,14,13,6,5,1,0,4,3,2,12,8,7,11,10,9,20,16,15,19,18,17,27,26,25]⟩,⟨some 308,.pick (.tmp 301) (.const (.bool true)) (.tmp 307),none,[22,21,14,13,6,5,1,0,4,3,2,12,8,7,11,10,9,20,16,15,19,18,17,28,24,23,27,26,25]⟩,⟨some 309,.mov (.tmp 308),none,[29,22,21,14,13,6,5,1,0,4,3,2,12,8,7,11,10,9,20,16,15,19,18,17,28,24,23,27,26,25]⟩,⟨some 310,.mov (.tmp 32),some (309,false),[30,29,22,21,14,13,6,5,1,0,4,3,2,12,8,7,11,10,9,20,16,15,19,18,17,28,24,23,27,26,25]⟩,⟨some 311,.bin .gtr (.tmp 310) (.const (.int .i64 0)),some (309,false),[31,30,29,22,21,14,13,6,5,1,0,4,3,2,12,8,7,11,10,9,20,16,15,19,18,17,28,24,23,27,26,25]⟩,⟨some 312,.mov (.tmp 311),some (309,false),[32,31,30,29,22,21,14,13,6,5,1,0,4,3,2,12,8,7,11,10,9,20,16,15,19,18,17,28,24,23,27,26,25]⟩,⟨some 313,.faddr 1 1 false (.tmp 33),some (312,true),[33,32,31,30,29,22,21,14,13,6,5,1,0,4,3,2,12,8,7,11,10,9,20,16,15,19,18,17,28,24,23,27,26,25]⟩,⟨some 314,.load none (.tmp 313),some (312,true),[34,33,32,31,30,29,22,21,14,13,6,5,1,0,4,3,2,12,8,7,11,10,9,20,16,15,19,18,17,28,24,23,27,26,25]⟩,⟨some 315,.mov (.tmp 30),some (312,true),[33,32,31,30,29,22,21,14,13,6,5,1,0,4,3,2,12,8,7,11,10,9,20,16,15,19,18,17,28,24,23,27,26,25]⟩,⟨some 316,.mov (.tmp 32),some (312,true),[33,32,31,30,29,22,21,14,13,6,5,1,0,4,3,2,12,8,7,11,10,9,20,16,15,19,18,17,28,24,23,27,26,25]⟩,⟨some 317,.bin .sub (.tmp 316) (.const (.int .i64 1)),some (312,true),[37,33,32,31,30,29,22,21,14,13,6,5,1,0,4,3,2,12,8,7,11,10,9,20,16,15,19,18,17,28,24,23,27,26,25]⟩,⟨some 318,.iaddr 2 (.tmp 315) (.tmp 317),some (312,true),[36,33,32,31,30,29,22,21,14,13,6,5,1,0,4,3,2,12,8,7,11,10,9,20,16,15,19,18,17,28,24,23,27,26,25,38,37]⟩,⟨some 319,.faddr 1 1 false (.tmp 318),some (312,true),[39,36,33,32,31,30,29,22,21,14,13,6,5,1,0,4,3,2,12,8,7,11,10,9,20,16,15,19,18,17,28,24,23,27,26,25,38,37]⟩,⟨some 320,.load none (.tmp 319),some (312,true),[40,39,36,33,32,31,30,29,22,21,14,13,6,5,1,0,4,3,2,12,8,7,11,10,9,20,16,15,19,18,17,28,24,23,27,26,25,38,37]⟩,⟨some 321,.bin .lss (.tmp 314) (.tmp 320),some (312,true),[35,34,33,32,31,30,29,22,21,14,13,6,5,1,0,4,3,2,12,8,7,11,10,9,20,16,15,19,18,17,28,24,23,27,26,25,41,40,39,36,38,37]⟩,⟨some 322,.mov (.tmp 321),some (312,true),[42,35,34,33,32,31,30,29,22,21,14,13,6,5,1,0,4,3,2,12,8,7,11,10,9,20,16,15,19,18,17,28,24,23,27,26,25,41,40,39,36,38,37]⟩,⟨some 323,.faddr 1 1 false (.tmp 33),some (322,false),[43,42,35,34,33,32,31,30,29,22,21,14,13,6,5,1,0,4,3,2,12,8,7,11,10,9,20,16,15,19,18,17,28,24,23,27,26,25,41,40,39,36,38,37]⟩,⟨some 324,.load none (.tmp 323),some (322,false),[44,43,42,35,34,33,32,31,30,29,22,21,14,13,6,5,1,0,4,3,2,12,8,7,11,10,9,20,16,15,19,18,17,28,24,23,27,26,25,41,40,39,36,38,37]⟩,⟨some 325,.mov (.tmp 30),some (322,false),[43,42,35,34,33,32,31,30,29,22,21,14,13,6,5,1,0,4,3,2,12,8,7,11,10,9,20,16,15,19,18,17,28,24,23,27,26,25,41,40,39,36,38,37]⟩,⟨some 326,.mov (.tmp 32),some (322,false),[43,42,35,34,33,32,31,30,29,22,21,14,13,6,5,1,0,4,3,2,12,8,7,11,10,9,20,16,15,19,18,17,28,24,23,27,26,25,41,40,39,36,38,37]⟩,⟨some 327,.bin .sub (.tmp 326) (.const (.int .i64 1)),some (322,false),[47,43,42,35,34,33,32,31,30,29,22,21,14,13,6,5,1,0,4,3,2,12,8,7,11,10,9,20,16,15,19,18,17,28,24,23,27,26,25,41,40,39,36,38,37]⟩,⟨some 328,.iaddr 2 (.tmp 325) (.tmp 327),some (322,false),[46,43,42,35,34,33,32,31,30,29,22,21,14,13,6,5,1,0,4,3,2,12,8,7,11,10,9,20,16,15,19,18,17,28,24,23,27,26,25,41,40,39,36,38,37,48,47]⟩,⟨some 329,.faddr 1 1 false (.tmp 328),some (322,false),[49,46,43,42,35,34,33,32,31,30,29,22,21,14,13,6,5,1,0,4,3,2,12,8,7,11,10,9,20,16,15,19,18,17,28,24,23,27,26,25,41,40,39,36,38,37,48,47]⟩,⟨some 330,.load none (.tmp 329),some (322,false),[50,49,46,43,42,35,34,33,32,31,30,29,22,21,14,13,6,5,1,0,4,3,2,12,8,7,11,10,9,20,16,15,19,18,17,28,24,23,27,26,25,41,40,39,36,38,37,48,47]⟩,⟨some 331,.bin .eql (.tmp 324) (.tmp 330),some (322,false),[45,44,43,42,35,34,33,32,31,30,29,22,21,14,13,6,5,1,0,4,3,2,12,8,7,11,10,9,20,16,15,19,18,17,28,24,23,27,26,25,41,40,39,36,38,37,51,50,49,46,48,47]⟩,⟨some 332,.mov (.tmp 331),some (322,false),[52,45,44,43,42,35,34,33,32,31,30,29,22,21,14,13,6,5,1,0,4,3,2,12,8,7,11,10,9,20,16,15,19,18,17,28,24,23,27,26,25,41,40,39,36,38,37,51,50,49,46,48,47]⟩,⟨some 333,.faddr 0 1 false (.tmp 33),some (332,true),[53,52,45,44,43,42,35,34,33,32,31,30,29,22,21,14,13,6,5,1,0,4,3,2,12,8,7,11,10,9,20,16,15,19,18,17,28,24,23,27,26,25,41,40,39,36,38,37,51,50,49,46,48,47]⟩,⟨some 334,.load none (.tmp 333),some (332,true),[54,53,52,45,44,43,42,35,34,33,32,31,30,29,22,21,14,13,6,5,1,0,4,3,2,12,8,7,11,10,9,20,16,15,19,18,17,28,24,23,27,26,25,41,40,39,36,38,37,51,50,49,46,48,47]⟩,⟨some 335,.mov (.tmp 30),some (332,true),[53,52,45,44,43,42,35,34,33,32,31,30,29,22,21,14,13,6,5,1,0,4,3,2,12,8,7,11,10,9,20,16,15,19,18,17,28,24,23,27,26,25,41,40,39,36,38,37,51,50,49,46,48,47]⟩,⟨some 336,.mov (.tmp 32),some (332,true),[53,52,45,44,43,42,35,34,33,32,31,30,29,22,21,14,13,6,5,1,0,4,3,2,12,8,7,11,10,9,20,16,15,19,18,17,28,24,23,27,26,25,41,40,39,36,38,37,51,50,49,46,48,47]⟩,⟨some 337,.bin .sub (.tmp 336) (.const (.int .i64 1)),some (332,true),[57,53,52,45,44,43,42,35,34,33,32,31,30,29,22,21,14,13,6,5,1,0,4,3,2,12,8,7,11,10,9,20,16,15,19,18,17,28,24,23,27,26,25,41,40,39,36,38,37,51,50,49,46,48,47]⟩,⟨some 338,.iaddr 2 (.tmp 335) (.tmp 337),some (332,true),[56,53,52,45,44,43,42,35,34,33,32,31,30,29,22,21,14,13,6,5,1,0,4,3,2,12,8,7,11,10,9,20,16,15,19,18,17,28,24,23,27,26,25,41,40,39,36,38,37,51,50,49,46,48,47,58,57]⟩,⟨some 339,.faddr 0 1 false (.tmp 338),some (332,true),[59,56,53,52,45,44,43,42,35,34,33,32,31,30,29,22,21,14,13,6,5,1,0,4,3,2,12,8,7,11,10,9,20,16,15,19,18,17,28,24,23,27,26,25,41,40,39,36,38,37,51,50,49,46,48,47,58,57]⟩,⟨some 340,.load none (.tmp 339),some (332,true),[60,59,56,53,52,45,44,43,42,35,34,33,32,31,30,29,22,21,14,13,6,5,1,0,4,3,2,12,8,7,11,10,9,20,16,15,19,18,17,28,24,23,27,26,25,41,40,39,36,38,37,51,50,49,46,48,47,58,57]⟩,⟨some 341,.bin .leq (.tmp 334) (.tmp 340),some (332,true),[55,54,53,52,45,44,43,42,35,34,33,32,31,30,29,22,21,14,13,6,5,1,0,4,3,2,12,8,7,11,10,9,20,16,15,19,18,17,28,24,23,27,26,25,41,40,39,36,38,37,51,50,49,46,48,47,61,60,59,56,58,57]⟩,⟨some 342,.pick (.tmp 332) (.tmp 341) (.const (.bool false)),some (322,false),[53,52,45,44,43,42,35,34,33,32,31,30,29,22,21,14,13,6,5,1,0,4,3,2,12,8,7,11,10,9,20,16,15,19,18,17,28,24,23,27,26,25,41,40,39,36,38,37,51,50,49,46,48,47,62,55,54,61,60,59,56,58,57]⟩,⟨some 343,.pick (.tmp 322) (.const (.bool true)) (.tmp 342),some (312,true),[43,42,35,34,33,32,31,30,29,22,21,14,13,6,5,1,0,4,3,2,12,8,7,11,10,9,20,16,15,19,18,17,28,24,23,27,26,25,41,40,39,36,38,37,63,53,52,45,44,51,50,49,46,48,47,62,55,54,61,60,59,56,58,57]⟩,⟨some 344,.pick (.tmp 312) (.tmp 343) (.const (.bool false)),some (309,false),[33,32,31,30,29,22,21,14,13,6,5,1,0,4,3,2,12,8,7,11,10,9,20,16,15,19,18,17,28,24,23,27,26,25,64,43,42,35,34,41,40,39,36,38,37,63,53,52,45,44,51,50,49,46,48,47,62,55,54,61,60,59,56,58,57]⟩,⟨some 345,.pick (.tmp 309) (.const (.bool true)) (.tmp 344),none,[30,29,22,21,14,13,6,5,1,0,4,3,2,12,8,7,11,10,9,20,16,15,19,18,17,28,24,23,27,26,25,65,33,32,31,64,43,42,35,34,41,40,39,36,38,37,63,53,52,45,44,51,50,49,46,48,47,62,55,54,61,60,59,56,58,57]⟩]) (.cond (.tmp 345) (.seq (.ops false [⟨some 6,.mov (.const (.bool false)),none,[]⟩]) .ret) .skip)) (.ops true [⟨some 346,.mov (.tmp 27),none,[]⟩,⟨some 347,.load (some 2) (.tmp 33),none,[]⟩,⟨some 348,.lookup 3 [1,1] false (.int .i64 0) (.tmp 346) (.tmp 347),none,[0,1]⟩,⟨some 349,.bin .add (.tmp 348) (.const (.int .i64 1)),none,[2,0,1]⟩,⟨some 350,.mapentry 3 [1,1] (.int .i64 0) (.tmp 346) (.tmp 347),none,[0,1]⟩,⟨some 351,.extract (.tmp 350) 1,none,[4,0,1]⟩,⟨none,.entrystore (.tmp 346) (.tmp 351) (.tmp 349),none,[0,5,4,1,3,2]⟩])))) (.ops false [⟨some 352,.bin .add (.tmp 274) (.const (.int .i64 1)),none,[]⟩,⟨some 274,.mov (.tmp 352),none,[]⟩]))))
def dk9_3 : Keep := ⟨[],[0,4,5,7,10,27,30,250,251,252,272,273,274],[4,5,39,40,105,173,174,249]⟩
def db9_4 : DC := (.seq (.ops false [⟨some 253,.bin .lss (.tmp 252) (.tmp 251),none,[]⟩]) (.seq (.cond (.tmp 253) .skip (.exit 6)) (.seq (.block 7 (some ⟨[],[0,4,5,7,10,27,250,251,252],[4,5,39,40,105,173,174,249]⟩) (.seq (.ops false [⟨some 254,.iaddr 1 (.tmp 250) (.tmp 252),none,[]⟩,⟨some 255,.load none (.tmp 254),none,[]⟩,⟨some 29,.mov (.tmp 255),none,[]⟩]) (.seq (.ops true [⟨some 257,.mov (.tmp 29),none,[]⟩,⟨some 258,.call (.func 16) [.tmp 257],none,[0]⟩,⟨some 259,.load (some 3) (.tmp 4),none,[]⟩,⟨some 260,.load (some 4) (.tmp 5),none,[]⟩,⟨some 261,.call (.func 31) [.tmp 258,.tmp 259,.tmp 260],none,[1,0,2,3]⟩,⟨some 256,.mov (.tmp 261),none,[4,1,0,2,3]⟩,⟨some 262,.extract (.tmp 256) 0,none,[5,4,1,0,2,3]⟩,⟨some 263,.extract (.tmp 256) 1,none,[5,4,1,0,2,3]⟩,⟨some 30,.mov (.tmp 262),none,[6,5,4,1,0,2,3]⟩,⟨some 31,.mov (.tmp 263),none,[7,5,4,1,0,2,3,8,6]⟩]) (.seq (.seq (.ops false [⟨some 264,.mov (.tmp 31),none,[]⟩,⟨some 265,.bin .neq (.tmp 264) (.const (.int .i64 0)),none,[]⟩,⟨some 266,.mov (.tmp 265),none,[]⟩,⟨some 267,.mov (.tmp 30),some (266,false),[]⟩,⟨some 268,.len (.tmp 267),some (266,false),[]⟩,⟨some 269,.mov (.tmp 7),some (266,false),[]⟩,⟨some 270,.bin .gtr (.tmp 268) (.tmp 269),some (266,false),[]⟩,⟨some 271,.pick (.tmp 266) (.const (.bool true)) (.tmp 270),none,[]⟩]) (.cond (.tmp 271) (.seq (.ops false [⟨some 6,.mov (.const (.bool false)),none,[]⟩]) .ret) .skip)) (.seq (.ops false [⟨some 272,.mov (.tmp 30),none,[]⟩,⟨some 273,.len (.tmp 272),none,[]⟩,⟨some 274,.mov (.const (.int .i64 0)),none,[]⟩]) (.block 8 (some ⟨[],[0,4,5,7,10,27,250,251,252],[4,5,39,40,105,173,174,249]⟩) (.loop dk9_3 db9_3))))))) (.ops false [⟨some 353,.bin .add (.tmp 252) (.const (.int .i64 1)),none,[]⟩,⟨some 252,.mov (.tmp 353),none,[]⟩]))))
def dk9_4 : Keep := ⟨[],[0,4,5,7,10,27,250,251,252],[4,5,39,40,105,173,174,249]⟩
def db9_5 : DC := (.seq (.seq (.ops false [⟨some 367,.mov (.tmp 36),none,[]⟩,⟨some 368,.faddr 2 2 true (.tmp 5),none,[]⟩,⟨some 369,.faddr 1 1 false (.tmp 368),none,[]⟩,⟨some 370,.load none (.tmp 369),none,[]⟩,⟨some 371,.bin .lss (.tmp 367) (.tmp 370),none,[]⟩]) (.cond (.tmp 371) .skip (.exit 12))) (.seq (.block 13 none (.seq (.ops true [⟨some 375,.mov (.tmp 0),none,[]⟩,⟨some 376,.call (.func 19) [.tmp 375],none,[0]⟩,⟨some 377,.load (some 3) (.tmp 4),none,[]⟩,⟨some 378,.mov (.tmp 35),none,[]⟩,⟨some 379,.mov (.tmp 36),none,[]⟩,⟨some 380,.call (.func 81) [.tmp 378,.tmp 379],none,[3,4,1,0]⟩,⟨some 381,.call (.func 18) [.tmp 376,.tmp 377,.tmp 380],none,[1,0,2,5,3,4]⟩,⟨some 374,.mov (.tmp 381),none,[6,1,0,2,5,3,4]⟩,⟨some 382,.extract (.tmp 374) 0,none,[7,6,1,0,2,5,3,4]⟩,⟨some 383,.extract (.tmp 374) 1,none,[7,6,1,0,2,5,3,4]⟩,⟨some 37,.mov (.tmp 382),none,[8,7,6,1,0,2,5,3,4]⟩,⟨some 38,.mov (.tmp 383),none,[9,7,6,1,0,2,5,3,4,10,8]⟩]) (.seq (.seq (.ops false [⟨some 384,.mov (.tmp 38),none,[]⟩,⟨some 385,.bin .neq (.tmp 384) (.const (.int .i64 0)),none,[]⟩,⟨some 386,.mov (.tmp 385),none,[]⟩,⟨some 387,.mov (.tmp 37),some (386,false),[]⟩,⟨some 388,.len (.tmp 387),some (386,false),[]⟩,⟨some 389,.mov (.tmp 27),some (386,false),[]⟩,⟨some 390,.mov (.tmp 35),some (386,false),[]⟩,⟨some 391,.mov (.tmp 36),some (386,false),[]⟩,⟨some 392,.call (.func 81) [.tmp 390,.tmp 391],some (386,false),[]⟩,⟨some 393,.lookup 3 [1,1] false (.int .i64 0) (.tmp 389) (.tmp 392),some (386,false),[]⟩,⟨some 394,.bin .neq (.tmp 388) (.tmp 393),some (386,false),[]⟩,⟨some 395,.pick (.tmp 386) (.const (.bool true)) (.tmp 394),none,[]⟩]) (.cond (.tmp 395) (.seq (.ops false [⟨some 6,.mov (.const (.bool false)),none,[]⟩]) .ret) .skip)) (.seq (.ops false [⟨some 396,.mov (.tmp 37),none,[]⟩,⟨some 397,.len (.tmp 396),none,[]⟩,⟨some 398,.bin .eql (.tmp 397) (.const (.int .i64 0)),none,[]⟩]) (.cond (.tmp 398) (.ops false [⟨some 399,.mov (.tmp 34),none,[]⟩,⟨some 400,.bin .add (.tmp 399) (.const (.int .i64 1)),none,[]⟩,⟨some 34,.mov (.tmp 400),none,[]⟩]) .skip))))) (.ops false [⟨some 372,.mov (.tmp 36),none,[]⟩,⟨some 373,.bin .add (.tmp 372) (.const (.int .i64 1)),none,[]⟩,⟨some 36,.mov (.tmp 373),none,[]⟩])))
def dk9_5 : Keep := ⟨[],[0,4,5,10,27,34,35,36],[4,5,33,39,40,105,173,174,249]⟩
def db9_6 : DC := (.seq (.seq (.ops false [⟨some 357,.mov (.tmp 35),none,[]⟩,⟨some 358,.faddr 2 2 true (.tmp 5),none,[]⟩,⟨some 359,.faddr 0 1 false (.tmp 358),none,[]⟩,⟨some 360,.load none (.tmp 359),none,[]⟩,⟨some 361,.bin .lss (.tmp 357) (.tmp 360),none,[]⟩]) (.cond (.tmp 361) .skip (.exit 10))) (.seq (.block 11 (some ⟨[],[0,4,5,10,27,34,35],[4,5,33,39,40,105,173,174,249]⟩) (.seq (.ops false [⟨some 364,.faddr 0 2 true (.tmp 5),none,[]⟩,⟨some 365,.faddr 1 1 false (.tmp 364),none,[]⟩,⟨some 366,.load none (.tmp 365),none,[]⟩,⟨some 36,.mov (.tmp 366),none,[]⟩]) (.block 12 (some ⟨[],[0,4,5,10,27,34,35],[4,5,33,39,40,105,173,174,249]⟩) (.loop dk9_5 db9_5)))) (.ops false [⟨some 362,.mov (.tmp 35),none,[]⟩,⟨some 363,.bin .add (.tmp 362) (.const (.int .i64 1)),none,[]⟩,⟨some 35,.mov (.tmp 363),none,[]⟩])))
def dk9_6 : Keep := ⟨[],[0,4,5,10,27,34,35],[4,5,33,39,40,105,173,174,249]⟩
def dc9 : DFunc := ⟨456,3,[.tmp 6],.seq (.ops false [⟨some 4,.box 3 (.tmp 1),none,[]⟩,⟨some 5,.box 4 (.tmp 2),none,[]⟩,⟨some 6,.mov (.const (.bool false)),none,[]⟩]) (.seq (.seq (.ops false [⟨some 45,.mov (.tmp 0),none,[]⟩,⟨some 46,.len (.tmp 45),none,[]⟩,⟨some 47,.bin .gtr (.tmp 46) (.const (.int .i64 3)),none,[]⟩,⟨some 48,.mov (.tmp 47),none,[]⟩,⟨some 49,.mov (.tmp 0),some (48,false),[]⟩,⟨some 50,.call (.func 24) [.tmp 49],some (48,false),[]⟩,⟨some 51,.bin .neq (.tmp 50) (.const (.int .i64 0)),some (48,false),[]⟩,⟨some 52,.pick (.tmp 48) (.const (.bool true)) (.tmp 51),none,[]⟩,⟨some 53,.mov (.tmp 52),none,[]⟩,⟨some 54,.load (some 3) (.tmp 4),some (53,false),[]⟩,⟨some 55,.call (.func 22) [.tmp 54],some (53,false),[]⟩,⟨some 56,.bin .neq (.tmp 55) (.const (.int .i64 0)),some (53,false),[]⟩,⟨some 57,.pick (.tmp 53) (.const (.bool true)) (.tmp 56),none,[]⟩,⟨some 58,.mov (.tmp 57),none,[]⟩,⟨some 59,.load (some 4) (.tmp 5),some (58,false),[]⟩,⟨some 60,.call (.func 36) [.tmp 59],some (58,false),[]⟩,⟨some 61,.bin .neq (.tmp 60) (.const (.int .i64 0)),some (58,false),[]⟩,⟨some 62,.pick (.tmp 58) (.const (.bool true)) (.tmp 61),none,[]⟩,⟨some 63,.mov (.tmp 62),none,[]⟩,⟨some 64,.load (some 4) (.tmp 5),some (63,false),[]⟩,⟨some 65,.call (.func 30) [.tmp 64],some (63,false),[]⟩,⟨some 66,.un .not (.tmp 65),some (63,false),[]⟩,⟨some 67,.pick (.tmp 63) (.const (.bool true)) (.tmp 66),none,[]⟩]) (.cond (.tmp 67) (.seq (.ops false [⟨some 68,.call (.func 14) [],none,[]⟩,⟨some 6,.mov (.tmp 68),none,[]⟩]) .ret) .skip)) (.seq (.ops false [⟨some 69,.faddr 2 2 true (.tmp 5),none,[]⟩,⟨some 70,.faddr 0 1 false (.tmp 69),none,[]⟩,⟨some 71,.load none (.tmp 70),none,[]⟩,⟨some 72,.faddr 0 2 true (.tmp 5),none,[]⟩,⟨some 73,.faddr 0 1 false (.tmp 72),none,[]⟩,⟨some 74,.load none (.tmp 73),none,[]⟩,⟨some 75,.bin .sub (.tmp 71) (.tmp 74),none,[]⟩,⟨some 76,.faddr 2 2 true (.tmp 5),none,[]⟩,⟨some 77,.faddr 1 1 false (.tmp 76),none,[]⟩,⟨some 78,.load none (.tmp 77),none,[]⟩,⟨some 79,.faddr 0 2 true (.tmp 5),none,[]⟩,⟨some 80,.faddr 1 1 false (.tmp 79),none,[]⟩,⟨some 81,.load none (.tmp 80),none,[]⟩,⟨some 82,.bin .sub (.tmp 78) (.tmp 81),none,[]⟩,⟨some 83,.bin .mul (.tmp 75) (.tmp 82),none,[]⟩,⟨some 7,.mov (.tmp 83),none,[]⟩]) (.seq (.ops true [⟨some 85,.mov (.tmp 0),none,[]⟩,⟨some 86,.call (.func 19) [.tmp 85],none,[0]⟩,⟨some 87,.load (some 3) (.tmp 4),none,[]⟩,⟨some 88,.load (some 4) (.tmp 5),none,[]⟩,⟨some 89,.call (.func 32) [.tmp 86,.tmp 87,.tmp 88],none,[1,0,2,3]⟩,⟨some 84,.mov (.tmp 89),none,[4,1,0,2,3]⟩,⟨some 90,.extract (.tmp 84) 0,none,[5,4,1,0,2,3]⟩,⟨some 91,.extract (.tmp 84) 1,none,[5,4,1,0,2,3]⟩,⟨some 8,.mov (.tmp 90),none,[6,5,4,1,0,2,3]⟩,⟨some 9,.mov (.tmp 91),none,[7,5,4,1,0,2,3,8,6]⟩]) (.seq (.ops true [⟨some 93,.mov (.tmp 0),none,[]⟩,⟨some 94,.call (.func 19) [.tmp 93],none,[0]⟩,⟨some 95,.load (some 3) (.tmp 4),none,[]⟩,⟨some 96,.load (some 4) (.tmp 5),none,[]⟩,⟨some 97,.call (.func 33) [.tmp 94,.tmp 95,.tmp 96],none,[1,0,2,3]⟩,⟨some 92,.mov (.tmp 97),none,[4,1,0,2,3]⟩,⟨some 98,.extract (.tmp 92) 0,none,[5,4,1,0,2,3]⟩,⟨some 99,.extract (.tmp 92) 1,none,[5,4,1,0,2,3]⟩,⟨some 10,.mov (.tmp 98),none,[6,5,4,1,0,2,3]⟩,⟨some 11,.mov (.tmp 99),none,[7,5,4,1,0,2,3,8,6]⟩]) (.seq (.ops true [⟨some 101,.mov (.tmp 0),none,[]⟩,⟨some 102,.call (.func 19) [.tmp 101],none,[0]⟩,⟨some 103,.load (some 3) (.tmp 4),none,[]⟩,⟨some 104,.load (some 4) (.tmp 5),none,[]⟩,⟨some 105,.lit true 4 1 (.agg [.int .i64 0,.int .i64 0,.int .i64 0,.int .i64 0]) [(0,(.tmp 104))],none,[3]⟩,⟨some 106,.call (.func 34) [.tmp 102,.tmp 103,.tmp 105],none,[1,0,2,4,3]⟩,⟨some 100,.mov (.tmp 106),none,[5,1,0,2,4,3]⟩,⟨some 107,.extract (.tmp 100) 0,none,[6,5,1,0,2,4,3]⟩,⟨some 108,.extract (.tmp 100) 1,none,[6,5,1,0,2,4,3]⟩,⟨some 12,.mov (.tmp 107),none,[7,6,5,1,0,2,4,3]⟩,⟨some 13,.mov (.tmp 108),none,[8,6,5,1,0,2,4,3,9,7]⟩]) (.seq (.seq (.ops true [⟨some 109,.mov (.tmp 9),none,[]⟩,⟨some 110,.bin .neq (.tmp 109) (.const (.int .i64 0)),none,[0]⟩,⟨some 111,.mov (.tmp 110),none,[1,0]⟩,⟨some 112,.mov (.tmp 11),some (111,false),[2,1,0]⟩,⟨some 113,.bin .neq (.tmp 112) (.const (.int .i64 0)),some (111,false),[3,2,1,0]⟩,⟨some 114,.pick (.tmp 111) (.const (.bool true)) (.tmp 113),none,[2,1,0,4,3]⟩,⟨some 115,.mov (.tmp 114),none,[5,2,1,0,4,3]⟩,⟨some 116,.mov (.tmp 13),some (115,false),[6,5,2,1,0,4,3]⟩,⟨some 117,.bin .neq (.tmp 116) (.const (.int .i64 0)),some (115,false),[7,6,5,2,1,0,4,3]⟩,⟨some 118,.pick (.tmp 115) (.const (.bool true)) (.tmp 117),none,[6,5,2,1,0,4,3,8,7]⟩,⟨some 119,.mov (.tmp 118),none,[9,6,5,2,1,0,4,3,8,7]⟩,⟨some 120,.mov (.tmp 8),some (119,false),[10,9,6,5,2,1,0,4,3,8,7]⟩,⟨some 121,.len (.tmp 120),some (119,false),[11,10,9,6,5,2,1,0,4,3,8,7]⟩,⟨some 122,.mov (.tmp 0),some (119,false),[10,9,6,5,2,1,0,4,3,8,7]⟩,⟨some 123,.len (.tmp 122),some (119,false),[13,10,9,6,5,2,1,0,4,3,8,7]⟩,⟨some 124,.bin .neq (.tmp 121) (.tmp 123),some (119,false),[12,11,10,9,6,5,2,1,0,4,3,8,7,14,13]⟩,⟨some 125,.pick (.tmp 119) (.const (.bool true)) (.tmp 124),none,[10,9,6,5,2,1,0,4,3,8,7,15,12,11,14,13]⟩,⟨some 126,.mov (.tmp 125),none,[16,10,9,6,5,2,1,0,4,3,8,7,15,12,11,14,13]⟩,⟨some 127,.mov (.tmp 10),some (126,false),[17,16,10,9,6,5,2,1,0,4,3,8,7,15,12,11,14,13]⟩,⟨some 128,.bin .lss (.tmp 127) (.const (.int .i64 0)),some (126,false),[18,17,16,10,9,6,5,2,1,0,4,3,8,7,15,12,11,14,13]⟩,⟨some 129,.pick (.tmp 126) (.const (.bool true)) (.tmp 128),none,[17,16,10,9,6,5,2,1,0,4,3,8,7,15,12,11,14,13,19,18]⟩,⟨some 130,.mov (.tmp 129),none,[20,17,16,10,9,6,5,2,1,0,4,3,8,7,15,12,11,14,13,19,18]⟩,⟨some 131,.mov (.tmp 12),some (130,false),[21,20,17,16,10,9,6,5,2,1,0,4,3,8,7,15,12,11,14,13,19,18]⟩,⟨some 132,.len (.tmp 131),some (130,false),[22,21,20,17,16,10,9,6,5,2,1,0,4,3,8,7,15,12,11,14,13,19,18]⟩,⟨some 133,.bin .neq (.tmp 132) (.const (.int .i64 1)),some (130,false),[23,22,21,20,17,16,10,9,6,5,2,1,0,4,3,8,7,15,12,11,14,13,19,18]⟩,⟨some 134,.pick (.tmp 130) (.const (.bool true)) (.tmp 133),none,[21,20,17,16,10,9,6,5,2,1,0,4,3,8,7,15,12,11,14,13,19,18,24,23,22]⟩,⟨some 135,.mov (.tmp 134),none,[25,21,20,17,16,10,9,6,5,2,1,0,4,3,8,7,15,12,11,14,13,19,18,24,23,22]⟩,⟨some 136,.mov (.tmp 12),some (135,false),[26,25,21,20,17,16,10,9,6,5,2,1,0,4,3,8,7,15,12,11,14,13,19,18,24,23,22]⟩,⟨some 137,.iaddr 2 (.tmp 136) (.const (.int .i64 0)),some (135,false),[27,26,25,21,20,17,16,10,9,6,5,2,1,0,4,3,8,7,15,12,11,14,13,19,18,24,23,22]⟩,⟨some 138,.load (some 2) (.tmp 137),some (135,false),[28,27,26,25,21,20,17,16,10,9,6,5,2,1,0,4,3,8,7,15,12,11,14,13,19,18,24,23,22]⟩,⟨some 139,.mov (.tmp 10),some (135,false),[26,25,21,20,17,16,10,9,6,5,2,1,0,4,3,8,7,15,12,11,14,13,19,18,24,23,22]⟩,⟨some 140,.mov (.tmp 7),some (135,false),[26,25,21,20,17,16,10,9,6,5,2,1,0,4,3,8,7,15,12,11,14,13,19,18,24,23,22]⟩,⟨some 141,.call (.func 80) [.tmp 139,.tmp 140],some (135,false),[30,26,25,21,20,17,16,10,9,6,5,2,1,0,4,3,8,7,15,12,11,14,13,19,18,24,23,22,31]⟩,⟨some 142,.eqA true [1,1] (.tmp 138) (.tmp 141),some (135,false),[29,28,27,26,25,21,20,17,16,10,9,6,5,2,1,0,4,3,8,7,15,12,11,14,13,19,18,24,23,22,32,30,31]⟩,⟨some 143,.pick (.tmp 135) (.const (.bool true)) (.tmp 142),none,[26,25,21,20,17,16,10,9,6,5,2,1,0,4,3,8,7,15,12,11,14,13,19,18,24,23,22,33,29,28,27,32,30,31]⟩]) (.cond (.tmp 143) (.seq (.ops false [⟨some 6,.mov (.const (.bool false)),none,[]⟩]) .ret) .skip)) (.seq (.ops false [⟨some 14,.mov (.const (.int .i64 0)),none,[]⟩]) (.seq (.seq (.ops false [⟨some 144,.mov (.tmp 8),none,[]⟩,⟨some 145,.len (.tmp 144),none,[]⟩,⟨some 146,.mov (.const (.int .i64 0)),none,[]⟩]) (.block 0 (some ⟨[],[0,4,5,7,8,10,14],[4,5,33,39,40,105,173,174,249]⟩) (.loop dk9_0 db9_0))) (.seq (.seq (.ops false [⟨some 156,.mov (.tmp 14),none,[]⟩,⟨some 157,.mov (.tmp 10),none,[]⟩,⟨some 158,.bin .add (.tmp 156) (.tmp 157),none,[]⟩,⟨some 159,.mov (.tmp 7),none,[]⟩,⟨some 160,.bin .neq (.tmp 158) (.tmp 159),none,[]⟩]) (.cond (.tmp 160) (.seq (.ops false [⟨some 6,.mov (.const (.bool false)),none,[]⟩]) .ret) .skip)) (.seq (.ops false [⟨some 17,.mov (.const (.slice none 0 0)),none,[]⟩]) (.seq (.seq (.ops false [⟨some 161,.mov (.tmp 0),none,[]⟩,⟨some 162,.len (.tmp 161),none,[]⟩,⟨some 163,.bin .sub (.tmp 162) (.const (.int .i64 1)),none,[]⟩,⟨some 18,.mov (.tmp 163),none,[]⟩]) (.block 2 (some ⟨[],[0,4,5,7,8,10,14,17],[4,5,17,33,39,40,105,249]⟩) (.loop dk9_1 db9_1))) (.seq (.ops true [⟨some 176,.mov (.tmp 17),none,[]⟩,⟨some 177,.call (.func 19) [.tmp 176],none,[0]⟩,⟨some 178,.load (some 3) (.tmp 4),none,[]⟩,⟨some 179,.load (some 4) (.tmp 5),none,[]⟩,⟨some 180,.call (.func 32) [.tmp 177,.tmp 178,.tmp 179],none,[1,0,2,3]⟩,⟨some 175,.mov (.tmp 180),none,[4,1,0,2,3]⟩,⟨some 181,.extract (.tmp 175) 0,none,[5,4,1,0,2,3]⟩,⟨some 182,.extract (.tmp 175) 1,none,[5,4,1,0,2,3]⟩,⟨some 19,.mov (.tmp 181),none,[6,5,4,1,0,2,3]⟩,⟨some 20,.mov (.tmp 182),none,[7,5,4,1,0,2,3,8,6]⟩]) (.seq (.ops true [⟨some 184,.mov (.tmp 17),none,[]⟩,⟨some 185,.call (.func 19) [.tmp 184],none,[0]⟩,⟨some 186,.load (some 3) (.tmp 4),none,[]⟩,⟨some 187,.load (some 4) (.tmp 5),none,[]⟩,⟨some 188,.call (.func 33) [.tmp 185,.tmp 186,.tmp 187],none,[1,0,2,3]⟩,⟨some 183,.mov (.tmp 188),none,[4,1,0,2,3]⟩,⟨some 189,.extract (.tmp 183) 0,none,[5,4,1,0,2,3]⟩,⟨some 190,.extract (.tmp 183) 1,none,[5,4,1,0,2,3]⟩,⟨some 21,.mov (.tmp 189),none,[6,5,4,1,0,2,3]⟩,⟨some 22,.mov (.tmp 190),none,[7,5,4,1,0,2,3,8,6]⟩]) (.seq (.seq (.ops false [⟨some 191,.mov (.tmp 20),none,[]⟩,⟨some 192,.bin .neq (.tmp 191) (.const (.int .i64 0)),none,[]⟩,⟨some 193,.mov (.tmp 192),none,[]⟩,⟨some 194,.mov (.tmp 22),some (193,false),[]⟩,⟨some 195,.bin .neq (.tmp 194) (.const (.int .i64 0)),some (193,false),[]⟩,⟨some 196,.pick (.tmp 193) (.const (.bool true)) (.tmp 195),none,[]⟩,⟨some 197,.mov (.tmp 196),none,[]⟩,⟨some 198,.mov (.tmp 19),some (197,false),[]⟩,⟨some 199,.len (.tmp 198),some (197,false),[]⟩,⟨some 200,.mov (.tmp 0),some (197,false),[]⟩,⟨some 201,.len (.tmp 200),some (197,false),[]⟩,⟨some 202,.bin .neq (.tmp 199) (.tmp 201),some (197,false),[]⟩,⟨some 203,.pick (.tmp 197) (.const (.bool true)) (.tmp 202),none,[]⟩,⟨some 204,.mov (.tmp 203),none,[]⟩,⟨some 205,.mov (.tmp 21),some (204,false),[]⟩,⟨some 206,.mov (.tmp 10),some (204,false),[]⟩,⟨some 207,.bin .neq (.tmp 205) (.tmp 206),some (204,false),[]⟩,⟨some 208,.pick (.tmp 204) (.const (.bool true)) (.tmp 207),none,[]⟩]) (.cond (.tmp 208) (.seq (.ops false [⟨some 6,.mov (.const (.bool false)),none,[]⟩]) .ret) .skip)) (.seq (.seq (.ops false [⟨some 209,.mov (.tmp 19),none,[]⟩,⟨some 210,.len (.tmp 209),none,[]⟩,⟨some 211,.mov (.const (.int .i64 0)),none,[]⟩]) (.block 4 (some ⟨[],[0,4,5,7,8,10,14],[4,5,33,39,40,105,173,174,249]⟩) (.loop dk9_2 db9_2))) (.seq (.seq (.ops false [⟨some 219,.mov (.tmp 14),none,[]⟩,⟨some 220,.bin .neq (.tmp 219) (.const (.int .i64 0)),none,[]⟩]) (.cond (.tmp 220) (.seq (.ops false [⟨some 6,.mov (.const (.bool false)),none,[]⟩]) .ret) .skip)) (.seq (.seq (.ops false [⟨some 221,.mov (.tmp 0),none,[]⟩,⟨some 222,.len (.tmp 221),none,[]⟩,⟨some 223,.bin .gtr (.tmp 222) (.const (.int .i64 0)),none,[]⟩]) (.cond (.tmp 223) (.seq (.ops true [⟨some 225,.mov (.tmp 0),none,[]⟩,⟨some 226,.slice 1 (.tmp 225) (some (.const (.int .i64 1))) none none,none,[0]⟩,⟨some 227,.call (.func 19) [.tmp 226],none,[1,0]⟩,⟨some 228,.load (some 3) (.tmp 4),none,[]⟩,⟨some 229,.load (some 4) (.tmp 5),none,[]⟩,⟨some 230,.call (.func 33) [.tmp 227,.tmp 228,.tmp 229],none,[2,1,0,3,4]⟩,⟨some 224,.mov (.tmp 230),none,[5,2,1,0,3,4]⟩,⟨some 231,.extract (.tmp 224) 0,none,[6,5,2,1,0,3,4]⟩,⟨some 232,.extract (.tmp 224) 1,none,[6,5,2,1,0,3,4]⟩,⟨some 25,.mov (.tmp 231),none,[7,6,5,2,1,0,3,4]⟩,⟨some 26,.mov (.tmp 232),none,[8,6,5,2,1,0,3,4,9,7]⟩]) (.seq (.ops false [⟨some 233,.mov (.tmp 26),none,[]⟩,⟨some 234,.bin .neq (.tmp 233) (.const (.int .i64 0)),none,[]⟩,⟨some 235,.mov (.tmp 234),none,[]⟩,⟨some 236,.mov (.tmp 25),some (235,false),[]⟩,⟨some 237,.mov (.tmp 10),some (235,false),[]⟩,⟨some 238,.bin .lss (.tmp 236) (.tmp 237),some (235,false),[]⟩,⟨some 239,.pick (.tmp 235) (.const (.bool true)) (.tmp 238),none,[]⟩,⟨some 240,.mov (.tmp 239),none,[]⟩,⟨some 241,.mov (.tmp 25),some (240,false),[]⟩,⟨some 242,.mov (.tmp 10),some (240,false),[]⟩,⟨some 243,.bin .sub (.tmp 241) (.tmp 242),some (240,false),[]⟩,⟨some 244,.mov (.tmp 8),some (240,false),[]⟩,⟨some 245,.iaddr 1 (.tmp 244) (.const (.int .i64 0)),some (240,false),[]⟩,⟨some 246,.load none (.tmp 245),some (240,false),[]⟩,⟨some 247,.bin .gtr (.tmp 243) (.tmp 246),some (240,false),[]⟩,⟨some 248,.pick (.tmp 240) (.const (.bool true)) (.tmp 247),none,[]⟩]) (.cond (.tmp 248) (.seq (.ops false [⟨some 6,.mov (.const (.bool false)),none,[]⟩]) .ret) .skip))) .skip)) (.seq (.ops false [⟨some 249,.makemap,none,[]⟩,⟨some 27,.mov (.tmp 249),none,[]⟩]) (.seq (.seq (.ops false [⟨some 250,.mov (.tmp 0),none,[]⟩,⟨some 251,.len (.tmp 250),none,[]⟩,⟨some 252,.mov (.const (.int .i64 0)),none,[]⟩]) (.block 6 (some ⟨[],[0,4,5,10,27],[4,5,39,40,105,173,174,249]⟩) (.loop dk9_4 db9_4))) (.seq (.ops false [⟨some 34,.mov (.const (.int .i64 0)),none,[]⟩]) (.seq (.seq (.ops false [⟨some 354,.faddr 0 2 true (.tmp 5),none,[]⟩,⟨some 355,.faddr 0 1 false (.tmp 354),none,[]⟩,⟨some 356,.load none (.tmp 355),none,[]⟩,⟨some 35,.mov (.tmp 356),none,[]⟩]) (.block 10 (some ⟨[],[0,4,5,10,34],[4,5,33,39,40,105,173,174,249]⟩) (.loop dk9_6 db9_6))) (.seq (.seq (.ops false [⟨some 401,.mov (.tmp 34),none,[]⟩,⟨some 402,.mov (.tmp 10),none,[]⟩,⟨some 403,.bin .neq (.tmp 401) (.tmp 402),none,[]⟩]) (.cond (.tmp 403) (.seq (.ops false [⟨some 6,.mov (.const (.bool false)),none,[]⟩]) .ret) .skip)) (.seq (.seq (.ops false [⟨some 404,.faddr 2 2 true (.tmp 5),none,[]⟩,⟨some 405,.faddr 0 1 false (.tmp 404),none,[]⟩,⟨some 406,.load none (.tmp 405),none,[]⟩,⟨some 407,.faddr 0 2 true (.tmp 5),none,[]⟩,⟨some 408,.faddr 0 1 false (.tmp 407),none,[]⟩,⟨some 409,.load none (.tmp 408),none,[]⟩,⟨some 410,.bin .sub (.tmp 406) (.tmp 409),none,[]⟩,⟨some 411,.bin .gtr (.tmp 410) (.const (.int .i64 1)),none,[]⟩]) (.cond (.tmp 411) (.seq (.ops true [⟨some 412,.load (some 4) (.tmp 5),none,[]⟩,⟨some 413,.load (some 4) (.tmp 5),none,[]⟩,⟨some 39,.alloc (.agg [.int .i64 0,.int .i64 0,.int .i64 0,.int .i64 0]) 4,none,[]⟩,⟨some 40,.alloc (.agg [.int .i64 0,.int .i64 0,.int .i64 0,.int .i64 0]) 4,none,[]⟩,⟨none,.store 4 (.tmp 39) (.tmp 412),none,[2,0,3]⟩,⟨none,.store 4 (.tmp 40) (.tmp 413),none,[3,1,4,2,0]⟩]) (.seq (.ops true [⟨some 414,.faddr 0 2 true (.tmp 5),none,[]⟩,⟨some 415,.faddr 0 1 false (.tmp 414),none,[0]⟩,⟨some 416,.load none (.tmp 415),none,[1,0]⟩,⟨some 417,.bin .add (.tmp 416) (.const (.int .i64 1)),none,[2,1,0]⟩,⟨some 418,.faddr 0 2 true (.tmp 5),none,[]⟩,⟨some 419,.faddr 0 1 false (.tmp 418),none,[4]⟩,⟨some 420,.load none (.tmp 419),none,[5,4]⟩,⟨some 421,.bin .add (.tmp 420) (.const (.int .i64 1)),none,[6,5,4]⟩,⟨some 422,.faddr 2 2 true (.tmp 39),none,[0,1,2,3]⟩,⟨some 423,.faddr 0 1 false (.tmp 422),none,[8,0,1,2,3]⟩,⟨none,.store 1 (.tmp 423) (.tmp 417),none,[9,8,0,1,2,3]⟩,⟨some 424,.faddr 0 2 true (.tmp 40),none,[0,1,2,3,4,5,6,7,8,9,10]⟩,⟨some 425,.faddr 0 1 false (.tmp 424),none,[11,0,1,2,3,4,5,6,7,8,9,10]⟩,⟨none,.store 1 (.tmp 425) (.tmp 421),none,[12,11,0,1,2,3,4,5,6,7,8,9,10]⟩]) (.seq (.ops true [⟨some 427,.mov (.tmp 0),none,[]⟩,⟨some 428,.call (.func 19) [.tmp 427],none,[0]⟩,⟨some 429,.load (some 3) (.tmp 4),none,[]⟩,⟨some 430,.load (some 4) (.tmp 39),none,[]⟩,⟨some 431,.call (.func 33) [.tmp 428,.tmp 429,.tmp 430],none,[1,0,2,3]⟩,⟨some 426,.mov (.tmp 431),none,[4,1,0,2,3]⟩,⟨some 432,.extract (.tmp 426) 0,none,[5,4,1,0,2,3]⟩,⟨some 433,.extract (.tmp 426) 1,none,[5,4,1,0,2,3]⟩,⟨some 41,.mov (.tmp 432),none,[6,5,4,1,0,2,3]⟩,⟨some 42,.mov (.tmp 433),none,[7,5,4,1,0,2,3,8,6]⟩]) (.seq (.ops true [⟨some 435,.mov (.tmp 0),none,[]⟩,⟨some 436,.call (.func 19) [.tmp 435],none,[0]⟩,⟨some 437,.load (some 3) (.tmp 4),none,[]⟩,⟨some 438,.load (some 4) (.tmp 40),none,[]⟩,⟨some 439,.call (.func 33) [.tmp 436,.tmp 437,.tmp 438],none,[1,0,2,3]⟩,⟨some 434,.mov (.tmp 439),none,[4,1,0,2,3]⟩,⟨some 440,.extract (.tmp 434) 0,none,[5,4,1,0,2,3]⟩,⟨some 441,.extract (.tmp 434) 1,none,[5,4,1,0,2,3]⟩,⟨some 43,.mov (.tmp 440),none,[6,5,4,1,0,2,3]⟩,⟨some 44,.mov (.tmp 441),none,[7,5,4,1,0,2,3,8,6]⟩]) (.seq (.ops false [⟨some 442,.mov (.tmp 42),none,[]⟩,⟨some 443,.bin .neq (.tmp 442) (.const (.int .i64 0)),none,[]⟩,⟨some 444,.mov (.tmp 443),none,[]⟩,⟨some 445,.mov (.tmp 44),some (444,false),[]⟩,⟨some 446,.bin .neq (.tmp 445) (.const (.int .i64 0)),some (444,false),[]⟩,⟨some 447,.pick (.tmp 444) (.const (.bool true)) (.tmp 446),none,[]⟩,⟨some 448,.mov (.tmp 447),none,[]⟩,⟨some 449,.mov (.tmp 41),some (448,false),[]⟩,⟨some 450,.mov (.tmp 43),some (448,false),[]⟩,⟨some 451,.bin .add (.tmp 449) (.tmp 450),some (448,false),[]⟩,⟨some 452,.mov (.tmp 10),some (448,false),[]⟩,⟨some 453,.bin .neq (.tmp 451) (.tmp 452),some (448,false),[]⟩,⟨some 454,.pick (.tmp 448) (.const (.bool true)) (.tmp 453),none,[]⟩]) (.cond (.tmp 454) (.seq (.ops false [⟨some 6,.mov (.const (.bool false)),none,[]⟩]) .ret) .skip)))))) .skip)) (.seq (.ops false [⟨some 455,.call (.func 14) [],none,[]⟩,⟨some 6,.mov (.tmp 455),none,[]⟩]) .ret))))))))))))))))))))))))⟩
theorem dh9:cProg Go.Proofs.Tryz.prog ⟨[(0,⟨[],[0,4,5,7,8,10,14,144,145,146],[4,5,33,39,40,105,173,174,249]⟩),(2,⟨[(17,1)],[0,4,5,7,8,10,14,17,18],[4,5,17,33,39,40,105,249]⟩),(4,⟨[],[0,4,5,7,8,10,14,209,210,211],[4,5,33,39,40,105,173,174,249]⟩),(6,⟨[],[0,4,5,7,10,27,250,251,252],[4,5,39,40,105,173,174,249]⟩),(8,⟨[],[0,4,5,7,10,27,30,250,251,252,272,273,274],[4,5,39,40,105,173,174,249]⟩),(10,⟨[],[0,4,5,10,27,34,35],[4,5,33,39,40,105,173,174,249]⟩),(12,⟨[],[0,4,5,10,27,34,35,36],[4,5,33,39,40,105,173,174,249]⟩)],[(0,⟨[],[0,4,5,7,8,10,14],[4,5,33,39,40,105,173,174,249]⟩),(2,⟨[],[0,4,5,7,8,10,14,17],[4,5,17,33,39,40,105,249]⟩),(4,⟨[],[0,4,5,7,8,10,14],[4,5,33,39,40,105,173,174,249]⟩),(8,⟨[],[0,4,5,7,10,27,250,251,252],[4,5,39,40,105,173,174,249]⟩),(7,⟨[],[0,4,5,7,10,27,250,251,252],[4,5,39,40,105,173,174,249]⟩),(6,⟨[],[0,4,5,10,27],[4,5,39,40,105,173,174,249]⟩),(12,⟨[],[0,4,5,10,27,34,35],[4,5,33,39,40,105,173,174,249]⟩),(11,⟨[],[0,4,5,10,27,34,35],[4,5,33,39,40,105,173,174,249]⟩),(10,⟨[],[0,4,5,10,34],[4,5,33,39,40,105,173,174,249]⟩)],[105,173]⟩ 9=some dc9:=by kernel_rfl
end Sh

set_option maxHeartbeats 4000000
namespace Sh
open Go Go.Proofs
section
variable {ev:Operand→DV} {lk:Nat→Option DObj} {o kk q i:Nat} {ks:List Nat} {z v:DV} {m k s x:Operand} {es:List (DV×DV)}
theorem ev_mapentry_some {kv:DV} (hm:ev m=.dict q) (hl:lk q=some (.dict es)) (hk:ev k=kv) (hp:keyB kk ks kv=true) (hd:dfind (keyEq kk ks) kv es 0=some (some (i,v))):evalOp ev lk o (.mapentry kk ks z m k)=.ok none (.tuple [v,.int .i64 i]) [(q,.dict (es.set i (kv,v)))]:=by
 simp only [evalOp,hm,hl,hk,hp,hd,cond_true]
theorem ev_mapentry_none {kv:DV} (hm:ev m=.dict q) (hl:lk q=some (.dict es)) (hk:ev k=kv) (hp:keyB kk ks kv=true) (hd:dfind (keyEq kk ks) kv es 0=some none):evalOp ev lk o (.mapentry kk ks z m k)=.ok none (.tuple [z,.int .i64 es.length]) [(q,.dict (es++[(kv,z)]))]:=by
 simp only [evalOp,hm,hl,hk,hp,hd,cond_true]
end
theorem withE_inB {n l h:Int} (h1:l≤n) (h2:n≤h):withE n l h=0:=if_neg (by omega)
theorem chkBx_of {c:Bx} (h:OkB c) (hf:c.f.x≤1000∧c.f.y≤1000 ∧ -1000≤c.t.x ∧ -1000≤c.t.y) (h2:sizeB c≤256):chkBx c=0:=by
 obtain ⟨a,b,d,e,f,g⟩:=h
 have hz:frstB c=0:=by
  unfold frstB chkSpot spanE
  rw [withE_inB a hf.1,withE_inB b hf.2.1,withE_inB hf.2.2.1 d,withE_inB hf.2.2.2 e,decide_eq_false (show ¬ c.t.x≤c.f.x by omega),decide_eq_false (show ¬ c.t.y≤c.f.y by omega)];rfl
 unfold chkBx
 rw [hz,if_neg (fun h=>h rfl),decide_eq_false (by omega)];rfl
theorem halves_ok {c:Bx} (h:chkBx c=0) (hx:c.f.x+1 < c.t.x):chkBx (leftB c)=0∧chkBx (rightB c)=0:=by
 obtain ⟨⟨a,b,d,e,f,g⟩,hs⟩:=chkBx_zero h
 have e1:sizeB c=(c.t.x - c.f.x) * (c.t.y - c.f.y):=rfl
 have e2:(c.t.x - c.f.x) * (c.t.y - c.f.y)=(c.t.y - c.f.y)+(c.t.x - (c.f.x+1)) * (c.t.y - c.f.y):=by
  rw [show c.t.x - c.f.x=1+(c.t.x - (c.f.x+1)) by omega,Int.add_mul,Int.one_mul]
 have e3:0≤(c.t.x - (c.f.x+1)) * (c.t.y - c.f.y):=Int.mul_nonneg (by omega) (by omega)
 refine ⟨chkBx_of ⟨a,b,by show c.f.x+1≤1000;omega,e,by show c.f.x < c.f.x+1;omega,g⟩ ⟨by show c.f.x≤1000;omega,by show c.f.y≤1000;omega,by show -1000≤c.f.x+1;omega,by show -1000≤c.t.y;omega⟩ ?_,chkBx_of ⟨by show -1000≤c.f.x+1;omega,b,d,e,hx,g⟩ ⟨by show c.f.x+1≤1000;omega,by show c.f.y≤1000;omega,by show -1000≤c.t.x;omega,by show -1000≤c.t.y;omega⟩ ?_⟩
 ·show (c.f.x+1 - c.f.x) * (c.t.y - c.f.y)≤256
  rw [show c.f.x+1 - c.f.x=1 by omega,Int.one_mul];omega
 ·show (c.t.x - (c.f.x+1)) * (c.t.y - c.f.y)≤256
  omega
theorem shps_of {l m:List (List V3)} (h:chkShps l=0) (hm:∀ s ∈ m,s ∈ l) (hl:m.length≤l.length):chkShps m=0:=by
 obtain ⟨h1,h2⟩:=chkShps_zero h
 unfold chkShps
 rw [if_neg (by omega)]
 exact firstE_zeros fun x hx=>by obtain ⟨s,hs,rfl⟩:=List.mem_map.1 hx;exact h2 s (hm s hs)
theorem lg_zero {l:List (List V3)} {sun:V3} {c:Bx} (h1:chkShps l=0) (h2:chkSun sun=0) (h3:chkBx c=0):lgE l sun c=0:=by unfold lgE;rw [h1,h2,h3];rfl
theorem lg_ok {l:List (List V3)} {sun:V3} {c:Bx} (h:lgE l sun c=0):lgS l sun c=(lightS l sun c,0)∧cuS l sun c=(cutS l sun c,0):=⟨if_neg (fun h2=>h2 h),if_neg (fun h2=>h2 h)⟩
theorem sr_ok {l:List (List V3)} {sun:V3} {c:Bx} (h1:chkShps l=0) (h2:chkSun sun=0) (h3:chkBx c=0):srS l sun [c]=([shrR l sun c],0) :=
 if_neg (fun h=>h (by unfold srE chkBxs;rw [h1,h2,if_neg (show ¬ (16:Int) < (([c].length:Nat):Int) by show ¬ (16:Int) < 1;decide),List.map_cons,h3];rfl))
theorem sh_ok {s:List V3} {sun:V3} {c:Bx} (h1:chkShp s=0) (h2:chkSun sun=0) (h3:chkBx c=0):shS s sun c=(shdL s sun (spotsL c),0) :=
 if_neg (fun h=>h (by unfold shE;rw [h1,h2,h3];rfl))
theorem hg_ok {l:List (List V3)} {sun:V3} {p:Pt} (h1:chkShps l=0) (h2:chkSun sun=0) (h3:chkSpot p=0):hgS l sun p=(hidng l sun p l.length,0) :=
 if_neg (fun h=>h (by unfold hgE;rw [h1,h2,h3];rfl))
theorem sum_take_succ (N:List Int) (i:Nat) (h:i < N.length):sumI (N.take (i+1))=sumI (N.take i)+N.getD i 0:=by
 rw [take_snoc N i 0 h,sumI_app]
 show _+(N.getD i 0+0)=_
 omega
theorem sum_take_bd {N:List Int} (h:∀ x ∈ N,0≤x):∀ i,i≤N.length→0≤sumI (N.take i)∧sumI (N.take i)≤sumI N:=by
 intro i hi
 have hs:sumI N=sumI (N.take i)+sumI (N.drop i):=by rw [← sumI_app,List.take_append_drop]
 have hn:∀ L:List Int,(∀ x ∈ L,0≤x)→0≤sumI L:=by
  intro L
  induction L with
  |nil=>intro _;exact Int.le_refl _
  |cons a r ih =>
   intro h
   have:=h a (by simp)
   have:=ih (fun x hx=>h x (by simp [hx]))
   show 0≤a+sumI r
   omega
 have h1:=hn (N.take i) (fun x hx=>h x (List.mem_of_mem_take hx))
 have h2:=hn (N.drop i) (fun x hx=>h x (List.mem_of_mem_drop hx))
 omega
theorem cutS_nn (l:List (List V3)) (sun:V3) (c:Bx):∀ x ∈ cutS l sun c,0≤x:=by
 intro x hx
 unfold cutS rng at hx
 obtain ⟨i,_,rfl⟩:=List.mem_map.1 hx
 omega
theorem cutS_len (l:List (List V3)) (sun:V3) (c:Bx):(cutS l sun c).length=l.length:=rng_len _ _
theorem cutS_sum {l:List (List V3)} {sun:V3} {c:Bx} (h:OkB c):sumI (cutS l sun c)+lightS l sun c=sizeB c:=by
 have:=cut_sum l sun (spotsL c)
 have:=spotsL_len h
 unfold cutS lightS
 omega
theorem spotB_mem {c:Bx} {i j:Nat} (hi:i < wB c) (hj:j < hB c):spotB c j i ∈ spotsL c:=by
 unfold spotsL restB
 refine List.mem_flatMap.2 ⟨j,List.mem_range'_1.2 (by omega),?_⟩
 unfold rowB
 exact List.mem_map.2 ⟨i,List.mem_range'_1.2 (by omega),rfl⟩
theorem spot_ok {c:Bx} (h:OkB c) {p:Pt} (hp:p ∈ spotsL c):chkSpot p=0:=by
 have:=h.spot hp
 unfold chkSpot
 rw [withE_inB (by omega) (by omega),withE_inB (by omega) (by omega)];rfl
theorem store_no (es:List (DV×DV)) (k z y:DV):(es++[(k,z)]).set (Int.toNat (es.length:Int)) (((es++[(k,z)]).getD (Int.toNat (es.length:Int)) (.undef,.undef)).1,y)=es++[(k,y)]:=by
 rw [Int.toNat_natCast]
 simp [List.getD_eq_getElem?_getD]
theorem hids_cnt {l:List (List V3)} {sun:V3} {c:Bx} {p:Pt} (hp:p ∈ spotsL c):cntK (addsK [] (hidsL l sun (spotsL c) l.length)) p=((hidng l sun p l.length).length:Int):=by
 rw [cnt_adds,hidsL_count (spots_nodup c) hp l.length (Nat.le_refl _),List.take_length,hidng_count]
 show 0+_=_
 omega
theorem cnt_bd (L:List Pt) (p:Pt):0≤cntK (addsK [] L) p∧cntK (addsK [] L) p≤L.length:=by
 rw [cnt_adds]
 have:=List.length_filter_le (samP p) L
 show 0≤0+_∧0+_≤_
 omega
theorem colL_succ (l:List (List V3)) (sun:V3) (c:Bx) (i j:Nat):colL l sun c i (j+1)=colL l sun c i j+ind (!anyHid l sun (spotB c j i)):=sumI_rng_succ _ _
theorem ind_bd (b:Bool):0≤ind b∧ind b≤1:=by cases b<;>decide
theorem colL_bd (l:List (List V3)) (sun:V3) (c:Bx) (i:Nat):∀ j:Nat,0≤colL l sun c i j∧colL l sun c i j≤j
 |0=>⟨Int.le_refl _,Int.le_refl _⟩
 |j+1=>by
  have:=colL_bd l sun c i j
  have:=ind_bd (!anyHid l sun (spotB c j i))
  rw [colL_succ];omega
theorem cols_bd (l:List (List V3)) (sun:V3) (c:Bx) (h:hB c≤2000):∀ i:Nat,0≤sumI (rng i fun i=>colL l sun c i (hB c))∧sumI (rng i fun i=>colL l sun c i (hB c))≤2000 * i
 |0=>⟨Int.le_refl _,Int.le_refl _⟩
 |i+1=>by
  have:=cols_bd l sun c h i
  have:=colL_bd l sun c i (hB c)
  rw [sumI_rng_succ];omega
end Sh

namespace Sh
open Go Go.Proofs
theorem l_ShadeOnce (aw:PC 14 [] (.bool true)) (l:List (List V3)) (sun:V3) (c:Bx):PC 9 [shps l,encV sun,encB c] (.bool true):=by
 have e0:((l.map shp).length:Int)=l.length:=by simp
 by_cases n1:(3:Int) < ((l.map shp).length:Int)
 ·refine pureCall_ofR dh9 rfl ?_
  conv=>whnf
  conv=>whnf
  repeat' (first
   |(refine ⟨fun hg=>?_,fun hg=>?_⟩<;>first|contradiction|(exfalso;revert hg;simp;done)|(exfalso;exact absurd (of_decide_eq_true hg) (by assumption))|(exfalso;exact absurd (by assumption) (of_decide_eq_false hg))|(conv=>whnf))
   |(refine Or.inl ?_;conv=>whnf)
   |(refine ⟨_,aw,?_⟩;conv=>whnf)
   |(refine And.intro ?_ ?_;kernel_rfl;conv=>whnf))
  all_goals rfl
 have kC:=r_CheckShapesU l
 have kU:=r_CheckSun sun
 have kB:=r_CheckCell c
 have kM:=r_Small c
 by_cases z1:chkShps l=0
 case neg =>
  generalize chkShps l=E1 at *
  refine pureCall_ofR dh9 rfl ?_
  conv=>whnf
  conv=>whnf
  repeat' (first
   |(refine ⟨fun hg=>?_,fun hg=>?_⟩<;>first|contradiction|(exfalso;revert hg;simp;done)|(exfalso;exact absurd (of_decide_eq_true hg) (by assumption))|(exfalso;exact absurd (by assumption) (of_decide_eq_false hg))|(conv=>whnf))
   |(refine Or.inl ?_;conv=>whnf)
   |(refine ⟨_,kC,?_⟩;conv=>whnf)
   |(refine ⟨_,aw,?_⟩;conv=>whnf)
   |(refine And.intro ?_ ?_;kernel_rfl;conv=>whnf))
  all_goals rfl
 rw [z1] at kC
 by_cases z2:chkSun sun=0
 case neg =>
  generalize chkSun sun=E1 at *
  refine pureCall_ofR dh9 rfl ?_
  conv=>whnf
  conv=>whnf
  repeat' (first
   |(refine ⟨fun hg=>?_,fun hg=>?_⟩<;>first|contradiction|(exfalso;revert hg;simp;done)|(exfalso;exact absurd (of_decide_eq_true hg) (by assumption))|(exfalso;exact absurd (by assumption) (of_decide_eq_false hg))|(conv=>whnf))
   |(refine Or.inl ?_;conv=>whnf)
   |(refine ⟨_,kC,?_⟩;conv=>whnf)
   |(refine ⟨_,kU,?_⟩;conv=>whnf)
   |(refine ⟨_,aw,?_⟩;conv=>whnf)
   |(refine And.intro ?_ ?_;kernel_rfl;conv=>whnf))
  all_goals rfl
 rw [z2] at kU
 by_cases z3:chkBx c=0
 case neg =>
  generalize chkBx c=E1 at *
  refine pureCall_ofR dh9 rfl ?_
  conv=>whnf
  conv=>whnf
  repeat' (first
   |(refine ⟨fun hg=>?_,fun hg=>?_⟩<;>first|contradiction|(exfalso;revert hg;simp;done)|(exfalso;exact absurd (of_decide_eq_true hg) (by assumption))|(exfalso;exact absurd (by assumption) (of_decide_eq_false hg))|(conv=>whnf))
   |(refine Or.inl ?_;conv=>whnf)
   |(refine ⟨_,kC,?_⟩;conv=>whnf)
   |(refine ⟨_,kU,?_⟩;conv=>whnf)
   |(refine ⟨_,kB,?_⟩;conv=>whnf)
   |(refine ⟨_,aw,?_⟩;conv=>whnf)
   |(refine And.intro ?_ ?_;kernel_rfl;conv=>whnf))
  all_goals rfl
 rw [z3] at kB
 by_cases z4:smlB c=true
 case neg =>
  rw [show smlB c=false by simpa using z4] at kM
  refine pureCall_ofR dh9 rfl ?_
  conv=>whnf
  conv=>whnf
  repeat' (first
   |(refine ⟨fun hg=>?_,fun hg=>?_⟩<;>first|contradiction|(exfalso;revert hg;simp;done)|(exfalso;exact absurd (of_decide_eq_true hg) (by assumption))|(exfalso;exact absurd (by assumption) (of_decide_eq_false hg))|(conv=>whnf))
   |(refine Or.inl ?_;conv=>whnf)
   |(refine ⟨_,kC,?_⟩;conv=>whnf)
   |(refine ⟨_,kU,?_⟩;conv=>whnf)
   |(refine ⟨_,kB,?_⟩;conv=>whnf)
   |(refine ⟨_,kM,?_⟩;conv=>whnf)
   |(refine ⟨_,aw,?_⟩;conv=>whnf)
   |(refine And.intro ?_ ?_;kernel_rfl;conv=>whnf))
  all_goals rfl
 rw [z4] at kM
 have h3:l.length≤3:=by omega
 obtain ⟨h8,hok,hch⟩:=chkShps_oks z1
 have hl:l.length < 1073741824:=by omega
 have hls:∀ s ∈ l,s.length < 1073741824:=fun s hs=>Nat.lt_of_le_of_lt (hok s hs).2.1 (by decide)
 obtain ⟨hB,h256⟩:=chkBx_zero z3
 have hU:=chkSun_zero z2
 have hsz:=hB.size
 have hlb:=light_bd (l:=l) (sun:=sun) hB
 have hpl:=spotsL_len hB
 have a1:=l_all l hl hls
 have b1:=c_Cut l sun c hl hls
 have b2:=c_Light l sun c hl hls
 have b3:=c_Shares l sun [c] hl hls (show 1 < 1073741824 by decide)
 have lz:=lg_zero z1 z2 z3
 rw [(lg_ok lz).2] at b1
 rw [(lg_ok lz).1] at b2
 rw [sr_ok z1 z2 z3] at b3
 have b4:=q_Lowest (lightS l sun c) (sizeB c) (by unfold GB;omega) (by unfold GB;omega)
 have hcl:=cutS_len l sun c
 have hcs:=cutS_sum (l:=l) (sun:=sun) hB
 have hcn:=cutS_nn l sun c
 have n2:¬ (((cutS l sun c).map (DV.int .i64)).length:Int)≠((l.map shp).length:Int):=by rw [List.length_map,List.length_map,hcl];exact fun h=>h rfl
 have n3:¬ lightS l sun c < 0:=by omega
 have hwh:IntKind.i64.wrap (IntKind.i64.wrap (c.t.x - c.f.x) * IntKind.i64.wrap (c.t.y - c.f.y))=sizeB c:=by
  have:=hB.x0;have:=hB.x1;have:=hB.y0;have:=hB.y1;have:=hB.x;have:=hB.y
  rw [wrap_in (n:=c.t.x - c.f.x) (by omega) (by omega),wrap_in (n:=c.t.y - c.f.y) (by omega) (by omega)]
  exact wrap_in (by show -9223372036854775808≤sizeB c;omega) (by show sizeB c≤9223372036854775807;omega)
 rw [show shrR l sun c=lowR (lightS l sun c) (sizeB c) from rfl] at b3
 generalize lowR (lightS l sun c) (sizeB c)=R at *
 generalize hN:cutS l sun c=N at *
 refine pureCall_ofR dh9 rfl ?_
 conv=>whnf
 conv=>whnf
 repeat' (first
  |(rw [hwh];conv=>whnf)
  |(refine ⟨fun hg=>?_,fun hg=>?_⟩<;>first|contradiction|(exfalso;revert hg;simp;done)|(exfalso;exact absurd (of_decide_eq_true hg) (by assumption))|(exfalso;exact absurd (by assumption) (of_decide_eq_false hg))|(conv=>whnf))
  |(refine Or.inl ?_;conv=>whnf)
  |(refine ⟨_,kC,?_⟩;conv=>whnf)
  |(refine ⟨_,kU,?_⟩;conv=>whnf)
  |(refine ⟨_,kB,?_⟩;conv=>whnf)
  |(refine ⟨_,kM,?_⟩;conv=>whnf)
  |(refine ⟨_,a1,?_⟩;conv=>whnf)
  |(refine ⟨_,b1,?_⟩;conv=>whnf)
  |(refine ⟨_,b2,?_⟩;conv=>whnf)
  |(refine ⟨_,b3,?_⟩;conv=>whnf)
  |(refine ⟨_,b4,?_⟩;conv=>whnf)
  |(refine ⟨⟨by decide,show (0:Int) < 1 by decide,rfl⟩,?_⟩;conv=>whnf)
  |(refine And.intro ?_ ?_;kernel_rfl;conv=>whnf))
 have hps:=sum_take_bd hcn
 refine dwp_loopU (P:=Tryz.prog) (G:=GC) (k:=dk9_0) (b:=db9_0) (α:=Nat) (fun i=>[(14,DV.int .i64 (sumI (N.take i))),(146,DV.int .i64 (i))]) (fun _=>[(4,.box 3 (encV sun)),(5,.box 4 (encB c))]) (fun i=>i≤N.length) (fun i=>N.length - i) 0 (Nat.zero_le _) ?_
 conv=>whnf
 refine ⟨rfl,rfl,?_⟩
 conv=>whnf
 refine ⟨rfl,?_⟩
 intro i j1
 conv=>whnf
 refine ⟨fun hb=>?_,fun hb=>?_⟩
 case refine_1 =>
  have hi:i < N.length:=by simpa using hb
  have hn:=hcn _ (getD_in 0 hi)
  have hni:¬ N.getD i 0 < 0:=by omega
  have q1:=hps i (by omega)
  have q2:=hps (i+1) hi
  have hsc:=sum_take_succ N i hi
  clear hb
  conv=>whnf
  rw [getD_enc _ _ (i) 0 hi]
  refine ⟨idxA hi rfl,?_⟩
  conv=>whnf
  repeat' (first
   |(refine ⟨fun hg=>?_,fun hg=>?_⟩<;>first|contradiction|(exfalso;revert hg;simp;done)|(exfalso;exact absurd (of_decide_eq_true hg) (by assumption))|(exfalso;exact absurd (by assumption) (of_decide_eq_false hg))|(conv=>whnf))
   |(refine Or.inl ?_;conv=>whnf)
   |(refine And.intro ?_ ?_;kernel_rfl;conv=>whnf))
  rw [wrap_succ i (by omega),show IntKind.i64.wrap (sumI (N.take i)+N.getD i 0)=sumI (N.take (i+1)) by rw [hsc];exact wrap_in (by omega) (by omega)]
  exact ⟨i+1,rfl,rfl,rfl,hi,by omega⟩
 have hi:i=N.length:=by have:=of_decide_eq_false hb;simp at this;omega
 rw [hi,List.take_length]
 clear hb hi j1
 have hq:=hps N.length (Nat.le_refl _)
 rw [List.take_length] at hq
 have w4:IntKind.i64.wrap (sumI N+lightS l sun c)=sizeB c:=by rw [wrap_in (by omega) (by omega)];omega
 have wl:IntKind.i64.wrap (((l.map shp).length:Int) - 1)=(l.length:Int) - 1:=by rw [wrap_in (by omega) (by omega)];omega
 have z0:(l.length:Int) - 1 - ((0:Nat):Int)=(l.length:Int) - 1:=Int.sub_zero _
 conv=>whnf
 repeat' (first
  |(rw [w4];conv=>whnf)
  |(rw [wl];conv=>whnf)
  |(refine ⟨fun hg=>?_,fun hg=>?_⟩<;>first|contradiction|(exfalso;revert hg;simp;done)|(exfalso;exact absurd (of_decide_eq_true hg) (by assumption))|(exfalso;exact absurd (by assumption) (of_decide_eq_false hg))|(conv=>whnf))
  |(refine Or.inl ?_;conv=>whnf)
  |(refine ⟨_,aw,?_⟩;conv=>whnf)
  |(refine And.intro ?_ ?_;kernel_rfl;conv=>whnf))
 refine dwp_loopU (P:=Tryz.prog) (G:=GC) (k:=dk9_1) (b:=db9_1) (α:=Nat) (fun j=>[(17,.own 17 0 ((l.reverse.take j).map shp).length ((l.reverse.take j).map shp).length),(18,DV.int .i64 ((l.length:Int) - 1 - (j:Nat)))]) (fun j=>[(4,.box 3 (encV sun)),(5,.box 4 (encB c)),(17,.row 1 ((l.reverse.take j).map shp) false)]) (fun j=>j≤l.length) (fun j=>l.length - j) 0 (Nat.zero_le _) ?_
 conv=>whnf
 refine ⟨rfl,rfl,?_⟩
 conv=>whnf
 refine ⟨by rw [z0];rfl,?_⟩
 clear i
 intro j j1
 conv=>whnf
 refine ⟨fun hb=>?_,fun hb=>?_⟩
 case refine_1 =>
  have hj:j < l.length:=by have:(l.length:Int) - 1 - (j:Nat) ≥ 0:=of_decide_eq_true hb;omega
  have hsc:(l.reverse.take (j+1)).map shp=(l.reverse.take j).map shp++[shp (l.getD (Int.toNat ((l.length:Int) - 1 - (j:Nat))) [])]:=by
   rw [take_map_succ shp l.reverse j [] (by rw [List.length_reverse];exact hj)]
   congr 2
   have:Int.toNat ((l.length:Int) - 1 - (j:Nat))=l.length - 1 - j:=by omega
   rw [this]
   congr 1
   simp only [List.getD_eq_getElem?_getD]
   rw [List.getElem?_reverse hj]
  have hln:((l.reverse.take j).map shp).length=j:=by simp;omega
  clear hb
  conv=>whnf
  rw [getD_enc' _ _ _ [] (by omega) (by omega)]
  refine ⟨idxB (by omega) (by omega) rfl,?_⟩
  conv=>whnf
  refine ⟨⟨rfl,rfl,rfl,by rw [hln];simp;omega,fun e he=>by simp at he;subst he;rfl⟩,?_⟩
  conv=>whnf
  rw [show IntKind.i64.wrap ((l.length:Int) - 1 - (j:Nat) - 1)=(l.length:Int) - 1 - ((j+1:Nat):Int) by rw [wrap_in (by omega) (by omega)];omega]
  refine ⟨j+1,rfl,?_,?_,by omega,by omega⟩
  ·rw [hsc];rfl
  ·rw [hsc];rfl
 have hj:j=l.length:=by have:¬ (l.length:Int) - 1 - (j:Nat) ≥ 0:=of_decide_eq_false hb;omega
 have hrr:l.reverse.take j=l.reverse:=by rw [hj,List.take_of_length_le (by rw [List.length_reverse];exact Nat.le_refl _)]
 rw [hrr]
 clear hb hrr hj j1
 have zR:=shps_of (m:=l.reverse) z1 (fun s hs=>List.mem_reverse.1 hs) (by rw [List.length_reverse];exact Nat.le_refl _)
 have hlr:l.reverse.length < 1073741824:=by rw [List.length_reverse];exact hl
 have hlsr:∀ s ∈ l.reverse,s.length < 1073741824:=fun s hs=>hls s (List.mem_reverse.1 hs)
 have a2:PC 19 [.list (l.reverse.map shp)] (shps l.reverse):=l_all l.reverse hlr hlsr
 have lzR:=lg_zero zR z2 z3
 have b5:=c_Cut l.reverse sun c hlr hlsr
 have b6:=c_Light l.reverse sun c hlr hlsr
 rw [(lg_ok lzR).2] at b5
 rw [(lg_ok lzR).1,lightS_reverse] at b6
 have hcl2:=cutS_len l.reverse sun c
 rw [List.length_reverse] at hcl2
 have hcs2:=cutS_sum (l:=l.reverse) (sun:=sun) hB
 rw [lightS_reverse] at hcs2
 have hcn2:=cutS_nn l.reverse sun c
 have n5:¬ (((cutS l.reverse sun c).map (DV.int .i64)).length:Int)≠((l.map shp).length:Int):=by rw [List.length_map,List.length_map,hcl2];exact fun h=>h rfl
 generalize hN2:cutS l.reverse sun c=N2 at *
 have hps2:=sum_take_bd hcn2
 conv=>whnf
 repeat' (first
  |(rw [window_full];conv=>whnf)
  |(refine ⟨fun hg=>?_,fun hg=>?_⟩<;>first|contradiction|(exfalso;revert hg;simp;done)|(exfalso;exact absurd (of_decide_eq_true hg) (by assumption))|(exfalso;exact absurd (by assumption) (of_decide_eq_false hg))|(conv=>whnf))
  |(refine Or.inl ?_;conv=>whnf)
  |(refine ⟨_,a2,?_⟩;conv=>whnf)
  |(refine ⟨_,b5,?_⟩;conv=>whnf)
  |(refine ⟨_,b6,?_⟩;conv=>whnf)
  |(refine And.intro ?_ ?_;kernel_rfl;conv=>whnf))
 refine dwp_loopU (P:=Tryz.prog) (G:=GC) (k:=dk9_2) (b:=db9_2) (α:=Nat) (fun i=>[(14,DV.int .i64 (sumI N - sumI (N2.take i))),(211,DV.int .i64 (i))]) (fun _=>[(4,.box 3 (encV sun)),(5,.box 4 (encB c))]) (fun i=>i≤N2.length) (fun i=>N2.length - i) 0 (Nat.zero_le _) ?_
 conv=>whnf
 refine ⟨rfl,rfl,?_⟩
 conv=>whnf
 refine ⟨by rw [show sumI N - sumI (N2.take 0)=sumI N from Int.sub_zero _];rfl,?_⟩
 intro i j1
 conv=>whnf
 refine ⟨fun hb=>?_,fun hb=>?_⟩
 case refine_1 =>
  have hi:i < N2.length:=by simpa using hb
  have q1:=hps2 i (by omega)
  have q2:=hps2 (i+1) hi
  have hsc:=sum_take_succ N2 i hi
  clear hb
  conv=>whnf
  rw [getD_enc _ _ (i) 0 hi]
  refine ⟨idxA hi rfl,?_⟩
  conv=>whnf
  repeat' (first
   |(refine ⟨fun hg=>?_,fun hg=>?_⟩<;>first|contradiction|(exfalso;revert hg;simp;done)|(exfalso;exact absurd (of_decide_eq_true hg) (by assumption))|(exfalso;exact absurd (by assumption) (of_decide_eq_false hg))|(conv=>whnf))
   |(refine Or.inl ?_;conv=>whnf)
   |(refine And.intro ?_ ?_;kernel_rfl;conv=>whnf))
  rw [wrap_succ i (by omega),show IntKind.i64.wrap (sumI N - sumI (N2.take i) - N2.getD i 0)=sumI N - sumI (N2.take (i+1)) by rw [hsc,wrap_in (by omega) (by omega)];omega]
  exact ⟨i+1,rfl,rfl,rfl,hi,by omega⟩
 have hi:i=N2.length:=by have:=of_decide_eq_false hb;simp at this;omega
 rw [hi,List.take_length,show sumI N - sumI N2=0 by omega]
 clear hb hi j1
 have hel:∀ e ∈ l.map shp,okE 1 e=true:=fun e he=>by obtain ⟨v,_,rfl⟩:=List.mem_map.1 he;rfl
 by_cases hp:(0:Int) < ((l.map shp).length:Int)
 all_goals first
  |have hp0:0 < l.length:=by omega
   have hcons:=drop_getD l 0 [] hp0
   rw [List.drop_zero] at hcons
   have hll:=light_less (l.getD 0 []) (l.drop 1) sun c
   rw [show l.getD 0 [] :: l.drop 1=l from hcons.symm] at hll
   have hl1:(l.drop 1).length < 1073741824:=by rw [List.length_drop];omega
   have hls1:∀ s ∈ l.drop 1,s.length < 1073741824:=fun s hs=>hls s (List.mem_of_mem_drop hs)
   have zD:=shps_of (m:=l.drop 1) z1 (fun s hs=>List.mem_of_mem_drop hs) (by rw [List.length_drop];omega)
   have a3:PC 19 [.list ((l.drop 1).map shp)] (shps (l.drop 1)):=l_all (l.drop 1) hl1 hls1
   have b7:=c_Light (l.drop 1) sun c hl1 hls1
   rw [(lg_ok (lg_zero zD z2 z3)).1] at b7
   have hlb1:=light_bd (l:=l.drop 1) (sun:=sun) hB
   have hN0:N.getD (Int.toNat 0) 0=(cutI l sun 0 (spotsL c)).length:=by rw [← hN];unfold cutS;exact rng_getD _ _ hp0
   have w5:IntKind.i64.wrap (lightS (l.drop 1) sun c - lightS l sun c)=lightS (l.drop 1) sun c - lightS l sun c:=wrap_in (by omega) (by omega)
   have m1:¬ lightS (l.drop 1) sun c < lightS l sun c:=by omega
   have m2:¬ N.getD (Int.toNat 0) 0 < lightS (l.drop 1) sun c - lightS l sun c:=by rw [hN0];omega
   have wdr:window (l.map shp) (Int.toNat 1) (Int.toNat (((l.map shp).length:Int) - 1))=(l.drop 1).map shp:=by
    rw [e0,show Int.toNat 1=1 from rfl,show Int.toNat ((l.length:Int) - 1)=l.length - 1 by omega]
    unfold window
    rw [List.take_of_length_le (by simp),List.map_drop]
   have hN0l:(0:Int) < (N.length:Int):=by omega
   have hls2:(1:Int)≤((l.map shp).length:Int):=by omega
   conv=>whnf
   repeat' (first
    |(rw [wdr];conv=>whnf)
    |(rw [w5];conv=>whnf)
    |(refine ⟨fun hg=>?_,fun hg=>?_⟩<;>first|contradiction|(exfalso;revert hg;simp;done)|(exfalso;exact absurd (of_decide_eq_true hg) (by assumption))|(exfalso;exact absurd (by assumption) (of_decide_eq_false hg))|(conv=>whnf))
    |(refine Or.inl ?_;conv=>whnf)
    |(refine ⟨⟨by decide,hls2,Int.le_refl _,hel⟩,?_⟩;conv=>whnf)
    |(refine ⟨_,a3,?_⟩;conv=>whnf)
    |(refine ⟨_,b7,?_⟩;conv=>whnf)
    |(rw [getD_enc' (DV.int .i64) N 0 0 (by decide) hN0l];refine ⟨idxB (by decide) hN0l rfl,?_⟩;conv=>whnf)
    |(refine And.intro ?_ ?_;kernel_rfl;conv=>whnf))
  |conv=>whnf
   repeat' (first
    |(refine ⟨fun hg=>?_,fun hg=>?_⟩<;>first|contradiction|(exfalso;revert hg;simp;done)|(exfalso;exact absurd (of_decide_eq_true hg) (by assumption))|(exfalso;exact absurd (by assumption) (of_decide_eq_false hg))|(conv=>whnf))
    |(refine Or.inl ?_;conv=>whnf)
    |(refine And.intro ?_ ?_;kernel_rfl;conv=>whnf))
 all_goals
  clear hp
  refine dwp_loopU (P:=Tryz.prog) (G:=GC) (k:=dk9_4) (b:=db9_4) (α:=Nat) (fun i=>[(252,DV.int .i64 (i))]) (fun i=>[(4,.box 3 (encV sun)),(5,.box 4 (encB c)),(249,.dict (entK (addsK [] (hidsL l sun (spotsL c) i))))]) (fun i=>i≤l.length) (fun i=>l.length - i) 0 (Nat.zero_le _) ?_
  conv=>whnf
  refine ⟨rfl,rfl,?_⟩
  conv=>whnf
  refine ⟨rfl,?_⟩
  intro i j1
  conv=>whnf
  refine ⟨fun hb=>?_,fun hb=>?_⟩
  ·have hi:i < l.length:=by simpa using hb
   have hsi:=hok _ (getD_in [] hi)
   have hci:=hch _ (getD_in [] hi)
   have h6:=hsi.2.1
   have a4:=l_own (l.getD i []) (by omega)
   have b8:=c_Shadow (l.getD i []) sun c (by omega)
   rw [sh_ok hci z2 z3] at b8
   have hsl:=List.length_filter_le (fun p=>hidB (l.getD i []) sun p) (spotsL c)
   have hsm:∀ k,k < (shdL (l.getD i []) sun (spotsL c)).length→(shdL (l.getD i []) sun (spotsL c)).getD k P0 ∈ spotsL c:=fun k hk=>(List.mem_filter.1 (getD_in P0 hk)).1
   have hso:∀ k,0 < k→k < (shdL (l.getD i []) sun (spotsL c)).length→ltP ((shdL (l.getD i []) sun (spotsL c)).getD (k - 1) P0) ((shdL (l.getD i []) sun (spotsL c)).getD k P0):=fun k h0 hk=>shd_sorted _ sun c h0 hk
   have hhs:=hidsL_succ l sun (spotsL c) i hi
   have hhl:=hidsL_len l sun (spotsL c) i (by omega)
   replace hsl:(shdL (l.getD i []) sun (spotsL c)).length≤(spotsL c).length:=hsl
   have hhl2:i * (spotsL c).length≤3 * 4000000:=Nat.mul_le_mul (by omega) (by omega)
   clear hb
   conv=>whnf
   rw [getD_enc _ _ (i) [] hi]
   refine ⟨idxA hi rfl,?_⟩
   conv=>whnf
   generalize shdL (l.getD i []) sun (spotsL c)=sh at *
   have n6:¬ sizeB c < ((sh.map encPt).length:Int):=by rw [List.length_map];omega
   repeat' (first
    |(refine ⟨fun hg=>?_,fun hg=>?_⟩<;>first|contradiction|(exfalso;revert hg;simp;done)|(exfalso;exact absurd (of_decide_eq_true hg) (by assumption))|(exfalso;exact absurd (by assumption) (of_decide_eq_false hg))|(conv=>whnf))
    |(refine Or.inl ?_;conv=>whnf)
    |(refine ⟨_,a4,?_⟩;conv=>whnf)
    |(refine ⟨_,b8,?_⟩;conv=>whnf)
    |(refine And.intro ?_ ?_;kernel_rfl;conv=>whnf))
   refine dwp_loopU (P:=Tryz.prog) (G:=GC) (k:=dk9_3) (b:=db9_3) (α:=Nat) (fun k=>[(274,DV.int .i64 (k))]) (fun k=>[(4,.box 3 (encV sun)),(5,.box 4 (encB c)),(249,.dict (entK (addsK [] (hidsL l sun (spotsL c) i++sh.take k))))]) (fun k=>k≤sh.length) (fun k=>sh.length - k) 0 (Nat.zero_le _) ?_
   conv=>whnf
   refine ⟨rfl,by rw [show hidsL l sun (spotsL c) i++sh.take 0=hidsL l sun (spotsL c) i from List.append_nil _];rfl,?_⟩
   conv=>whnf
   refine ⟨rfl,?_⟩
   intro k k1
   conv=>whnf
   refine ⟨fun hb=>?_,fun hb=>?_⟩
   ·have hk:k < sh.length:=by simpa using hb
    obtain ⟨⟨g1,g2⟩,⟨g3,g4⟩⟩:=mem_spots (hsm k hk)
    replace g1:¬ (sh.getD k P0).x < c.f.x:=by omega
    replace g2:¬ (sh.getD k P0).x ≥ c.t.x:=by omega
    replace g3:¬ (sh.getD k P0).y < c.f.y:=by omega
    replace g4:¬ (sh.getD k P0).y ≥ c.t.y:=by omega
    have hE:addsK [] (hidsL l sun (spotsL c) i++sh.take (k+1))=addK (addsK [] (hidsL l sun (spotsL c) i++sh.take k)) (sh.getD k P0):=by
     rw [addsK_app,addsK_take _ _ _ hk,← addsK_app]
    have hbd:=cnt_bd (hidsL l sun (spotsL c) i++sh.take k) (sh.getD k P0)
    have hfd:=dk_find (sh.getD k P0) (addsK [] (hidsL l sun (spotsL c) i++sh.take k)) 0
    rw [List.length_append,List.length_take] at hbd
    have hso2:=hso k
    generalize addsK [] (hidsL l sun (spotsL c) i++sh.take k)=E at *
    clear hb
    by_cases k0:k=0
    all_goals first
     |have k0':¬ (0:Int) < (k:Int):=by omega
      conv=>whnf
      rw [getD_enc _ _ (k) P0 hk]
      refine ⟨idxA hk rfl,?_⟩
      conv=>whnf
      conv=>whnf
      repeat' (first
       |(refine ⟨fun hg=>?_,fun hg=>?_⟩<;>first|contradiction|(exfalso;revert hg;simp;done)|(exfalso;exact absurd (of_decide_eq_true hg) (by assumption))|(exfalso;exact absurd (by assumption) (of_decide_eq_false hg))|(conv=>whnf))
       |(refine Or.inl ?_;conv=>whnf)
       |(refine And.intro ?_ ?_;kernel_rfl;conv=>whnf))
     |have k0':(0:Int) < (k:Int):=by omega
      have hk1:k - 1 < sh.length:=by omega
      have wk:IntKind.i64.wrap ((k:Int) - 1)=((k - 1:Nat):Int):=by rw [wrap_in (by omega) (by omega)];omega
      have hlt:=hso2 (by omega) hk
      have s1:¬ (sh.getD k P0).y < (sh.getD (k - 1) P0).y:=by rcases hlt with h|h<;>omega
      by_cases hy:(sh.getD k P0).y=(sh.getD (k - 1) P0).y
      all_goals first
       |have s2:¬ (sh.getD k P0).x≤(sh.getD (k - 1) P0).x:=by rcases hlt with h|h<;>omega
        conv=>whnf
        rw [getD_enc _ _ (k) P0 hk]
        refine ⟨idxA hk rfl,?_⟩
        conv=>whnf
        conv=>whnf
        repeat' (first
         |(rw [wk];conv=>whnf)
         |(refine ⟨fun hg=>?_,fun hg=>?_⟩<;>first|contradiction|(exfalso;revert hg;simp;done)|(exfalso;exact absurd (of_decide_eq_true hg) (by assumption))|(exfalso;exact absurd (by assumption) (of_decide_eq_false hg))|(conv=>whnf))
         |(refine Or.inl ?_;conv=>whnf)
         |(rw [getD_enc _ _ (k - 1) P0 hk1];refine ⟨idxA hk1 rfl,?_⟩;conv=>whnf)
         |(refine And.intro ?_ ?_;kernel_rfl;conv=>whnf))
       |conv=>whnf
        rw [getD_enc _ _ (k) P0 hk]
        refine ⟨idxA hk rfl,?_⟩
        conv=>whnf
        conv=>whnf
        repeat' (first
         |(rw [wk];conv=>whnf)
         |(refine ⟨fun hg=>?_,fun hg=>?_⟩<;>first|contradiction|(exfalso;revert hg;simp;done)|(exfalso;exact absurd (of_decide_eq_true hg) (by assumption))|(exfalso;exact absurd (by assumption) (of_decide_eq_false hg))|(conv=>whnf))
         |(refine Or.inl ?_;conv=>whnf)
         |(rw [getD_enc _ _ (k - 1) P0 hk1];refine ⟨idxA hk1 rfl,?_⟩;conv=>whnf)
         |(refine And.intro ?_ ?_;kernel_rfl;conv=>whnf))
    all_goals
     rcases hfd with ⟨q1,q2,q3⟩|⟨m,q1,q2,q3,q4,q5⟩
     ·rw [ev_lookup_none (q:=249) (es:=entK E) rfl rfl rfl q1]
      conv=>whnf
      rw [ev_mapentry_none (q:=249) (es:=entK E) (kv:=encPt (sh.getD k P0)) rfl rfl rfl rfl q1]
      conv=>whnf
      refine ⟨⟨by omega,by rw [List.length_append];simp;omega⟩,?_⟩
      rw [store_no,show IntKind.i64.wrap (0+1)=1 from by decide]
      conv=>whnf
      refine ⟨by kernel_rfl,?_⟩
      conv=>whnf
      rw [wrap_succ k (by omega)]
      refine ⟨k+1,rfl,?_,?_,hk,by omega⟩
      ·rfl
      ·rw [hE,q3];rfl
     ·rw [Nat.zero_add] at q2
      rw [ev_lookup_some (q:=249) (es:=entK E) rfl rfl rfl q2]
      conv=>whnf
      rw [ev_mapentry_some (q:=249) (es:=entK E) (kv:=encPt (sh.getD k P0)) rfl rfl rfl rfl q2,q3]
      conv=>whnf
      refine ⟨⟨by omega,by unfold entK;rw [List.length_map];omega⟩,?_⟩
      rw [Int.toNat_natCast,q5,wrap_in (by omega) (by omega)]
      conv=>whnf
      refine ⟨by kernel_rfl,?_⟩
      conv=>whnf
      rw [wrap_succ k (by omega)]
      refine ⟨k+1,rfl,?_,?_,hk,by omega⟩
      ·rfl
      ·rw [hE,← q4];rfl
   ·have hk:k=sh.length:=by have:=of_decide_eq_false hb;simp at this;omega
    rw [hk,List.take_length,← hhs]
    clear hb
    conv=>whnf
    rw [wrap_succ i (by omega)]
    exact ⟨i+1,rfl,rfl,rfl,hi,by omega⟩
  ·have hi:i=l.length:=by have:=of_decide_eq_false hb;rw [e0] at this;omega
   rw [hi]
   clear hb hi j1
   have hcnt:=fun p hp=>hids_cnt (l:=l) (sun:=sun) (c:=c) (p:=p) hp
   have hfd:=fun p=>dk_find p (addsK [] (hidsL l sun (spotsL c) l.length)) 0
   generalize addsK [] (hidsL l sun (spotsL c) l.length)=E at *
   have hx:=hB.x
   have hy:=hB.y
   have hx0:=hB.x0
   have hx1:=hB.x1
   have hy0:=hB.y0
   have hy1:=hB.y1
   have eW:(wB c:Int)=c.t.x - c.f.x:=by unfold wB;omega
   have eH:(Sh.hB c:Int)=c.t.y - c.f.y:=by unfold Sh.hB;omega
   have hcb:=cols_bd l sun c (by omega)
   have hlc:=light_cols l sun c
   conv=>whnf
   refine dwp_loopU (P:=Tryz.prog) (G:=GC) (k:=dk9_6) (b:=db9_6) (α:=Nat) (fun i=>[(34,DV.int .i64 (sumI (rng i fun i=>colL l sun c i (Sh.hB c)))),(35,DV.int .i64 (c.f.x+(i:Nat)))]) (fun _=>[(4,.box 3 (encV sun)),(5,.box 4 (encB c)),(249,.dict (entK E))]) (fun i=>i≤wB c) (fun i=>wB c - i) 0 (Nat.zero_le _) ?_
   conv=>whnf
   refine ⟨rfl,rfl,?_⟩
   conv=>whnf
   refine ⟨by rw [show c.f.x+((0:Nat):Int)=c.f.x from Int.add_zero _];rfl,?_⟩
   intro i i1
   have hS:=hcb i
   have hSs:=sumI_rng_succ i fun i=>colL l sun c i (Sh.hB c)
   conv=>whnf
   refine ⟨fun hb=>?_,fun hb=>?_⟩
   ·have hi:i < wB c:=by have:c.f.x+(i:Nat) < c.t.x:=of_decide_eq_true hb;omega
    clear hb
    conv=>whnf
    refine dwp_loopU (P:=Tryz.prog) (G:=GC) (k:=dk9_5) (b:=db9_5) (α:=Nat) (fun j=>[(34,DV.int .i64 (sumI (rng i fun i=>colL l sun c i (Sh.hB c))+colL l sun c i j)),(36,DV.int .i64 (c.f.y+(j:Nat)))]) (fun _=>[(4,.box 3 (encV sun)),(5,.box 4 (encB c)),(249,.dict (entK E))]) (fun j=>j≤Sh.hB c) (fun j=>Sh.hB c - j) 0 (Nat.zero_le _) ?_
    conv=>whnf
    refine ⟨rfl,rfl,?_⟩
    conv=>whnf
    refine ⟨by rw [show c.f.y+((0:Nat):Int)=c.f.y from Int.add_zero _,show sumI (rng i fun i=>colL l sun c i (Sh.hB c))+colL l sun c i 0=sumI (rng i fun i=>colL l sun c i (Sh.hB c)) from Int.add_zero _];rfl,?_⟩
    intro j jj
    have hC:=colL_bd l sun c i j
    have hCs:=colL_succ l sun c i j
    generalize sumI (rng i fun i=>colL l sun c i (Sh.hB c))=S at *
    conv=>whnf
    refine ⟨fun hb=>?_,fun hb=>?_⟩
    ·have hj:j < Sh.hB c:=by have:c.f.y+(j:Nat) < c.t.y:=of_decide_eq_true hb;omega
     clear hb
     have hm:=spotB_mem hi hj
     have b9:=c_Hiding l sun (spotB c j i) hl hls
     rw [hg_ok z1 z2 (spot_ok hB hm)] at b9
     have hcp:=hcnt _ hm
     have hfp:=hfd (spotB c j i)
     have hct:=hidng_count l sun (spotB c j i)
     have hni:=none_ind l sun (spotB c j i)
     rw [← hct] at hni
     have e9:(((hidng l sun (spotB c j i) l.length).map (DV.int .i64)).length:Int)=cntK E (spotB c j i):=by rw [List.length_map];exact hcp.symm
     conv=>whnf
     repeat' (first
      |(refine ⟨fun hg=>?_,fun hg=>?_⟩<;>first|contradiction|(exfalso;revert hg;simp;done)|(exfalso;exact absurd (of_decide_eq_true hg) (by assumption))|(exfalso;exact absurd (by assumption) (of_decide_eq_false hg))|(conv=>whnf))
      |(refine Or.inl ?_;conv=>whnf)
      |(refine ⟨_,a1,?_⟩;conv=>whnf)
      |(refine ⟨_,l_spot ..,?_⟩;conv=>whnf)
      |(refine ⟨_,b9,?_⟩;conv=>whnf)
      |(refine And.intro ?_ ?_;kernel_rfl;conv=>whnf))
     have hwS:∀ d:Int,0≤d→d≤1→IntKind.i64.wrap (S+colL l sun c i j+d)=S+colL l sun c i j+d:=fun d h1 h2=>wrap_in (by omega) (by omega)
     have wy1:IntKind.i64.wrap (c.f.y+(j:Nat)+1)=c.f.y+((j+1:Nat):Int):=by rw [wrap_in (by omega) (by omega)];omega
     have hw1:=hwS 1 (by omega) (by omega)
     have hlen:(((hidng l sun (spotB c j i) l.length).map (DV.int .i64)).length:Int)=((hidng l sun (spotB c j i) l.length).length:Int):=by rw [List.length_map]
     rcases hfp with ⟨q1,q2,q3⟩|⟨m,q1,q2,q3,q4,q5⟩
     ·rw [ev_lookup_none (q:=249) (es:=entK E) rfl rfl rfl q1]
      have nE:¬ (((hidng l sun (spotB c j i) l.length).map (DV.int .i64)).length:Int)≠0:=by rw [e9,q2];exact fun h=>h rfl
      have l0:(((hidng l sun (spotB c j i) l.length).map (DV.int .i64)).length:Int)=0:=by omega
      have hz:=hni.1 (by omega)
      have hsum:S+colL l sun c i j+1=S+colL l sun c i (j+1):=by rw [hCs,hz];show _=S+(colL l sun c i j+1);omega
      conv=>whnf
      repeat' (first
       |(refine ⟨fun hg=>?_,fun hg=>?_⟩<;>first|contradiction|(exfalso;revert hg;simp;done)|(exfalso;exact absurd (of_decide_eq_true hg) (by assumption))|(exfalso;exact absurd (by assumption) (of_decide_eq_false hg))|(conv=>whnf))
       |(refine Or.inl ?_;conv=>whnf)
       |(refine And.intro ?_ ?_;kernel_rfl;conv=>whnf))
      rw [hw1,wy1,hsum]
      exact ⟨j+1,rfl,rfl,rfl,hj,by omega⟩
     ·rw [Nat.zero_add] at q2
      rw [ev_lookup_some (q:=249) (es:=entK E) rfl rfl rfl q2]
      have nE:¬ (((hidng l sun (spotB c j i) l.length).map (DV.int .i64)).length:Int)≠cntK E (spotB c j i):=by rw [e9];exact fun h=>h rfl
      cases hz:anyHid l sun (spotB c j i) with
      |false =>
       have l0:(((hidng l sun (spotB c j i) l.length).map (DV.int .i64)).length:Int)=0:=by have:=hni.2 hz;omega
       have hsum:S+colL l sun c i j+1=S+colL l sun c i (j+1):=by rw [hCs,hz];show _=S+(colL l sun c i j+1);omega
       conv=>whnf
       repeat' (first
        |(refine ⟨fun hg=>?_,fun hg=>?_⟩<;>first|contradiction|(exfalso;revert hg;simp;done)|(exfalso;exact absurd (of_decide_eq_true hg) (by assumption))|(exfalso;exact absurd (by assumption) (of_decide_eq_false hg))|(conv=>whnf))
        |(refine Or.inl ?_;conv=>whnf)
        |(refine And.intro ?_ ?_;kernel_rfl;conv=>whnf))
       rw [hw1,wy1,hsum]
       exact ⟨j+1,rfl,rfl,rfl,hj,by omega⟩
      |true =>
       have l0:¬ (((hidng l sun (spotB c j i) l.length).map (DV.int .i64)).length:Int)=0:=fun h=>by
        have:=hni.1 (by omega);rw [hz] at this;exact absurd this (by decide)
       have hsum:S+colL l sun c i (j+1)=S+colL l sun c i j:=by rw [hCs,hz];show S+(colL l sun c i j+0)=_;omega
       conv=>whnf
       repeat' (first
        |(refine ⟨fun hg=>?_,fun hg=>?_⟩<;>first|contradiction|(exfalso;revert hg;simp;done)|(exfalso;exact absurd (of_decide_eq_true hg) (by assumption))|(exfalso;exact absurd (by assumption) (of_decide_eq_false hg))|(conv=>whnf))
        |(refine Or.inl ?_;conv=>whnf)
        |(refine And.intro ?_ ?_;kernel_rfl;conv=>whnf))
       rw [wy1]
       refine ⟨j+1,rfl,?_,rfl,hj,by omega⟩
       rw [hsum];rfl
    ·have hj:j=Sh.hB c:=by have:¬ c.f.y+(j:Nat) < c.t.y:=of_decide_eq_false hb;omega
     have wx1:IntKind.i64.wrap (c.f.x+(i:Nat)+1)=c.f.x+((i+1:Nat):Int):=by rw [wrap_in (by omega) (by omega)];omega
     clear hb
     rw [hj,← hSs]
     conv=>whnf
     rw [wx1]
     exact ⟨i+1,rfl,rfl,rfl,hi,by omega⟩
   ·have hi:i=wB c:=by have:¬ c.f.x+(i:Nat) < c.t.x:=of_decide_eq_false hb;omega
    clear hb
    rw [hi,← hlc]
    have wx:IntKind.i64.wrap (c.t.x - c.f.x)=c.t.x - c.f.x:=wrap_in (by omega) (by omega)
    have wq:IntKind.i64.wrap (c.f.x+1)=c.f.x+1:=wrap_in (by omega) (by omega)
    by_cases hw:(1:Int) < c.t.x - c.f.x
    ·have hh:=halves_ok z3 (by omega)
     have b10:=c_Light l sun (leftB c) hl hls
     have b11:=c_Light l sun (rightB c) hl hls
     rw [(lg_ok (lg_zero z1 z2 hh.1)).1] at b10
     rw [(lg_ok (lg_zero z1 z2 hh.2)).1] at b11
     have hsp:=light_split (c:=c) (by omega) l sun
     have ws:IntKind.i64.wrap (lightS l sun (leftB c)+lightS l sun (rightB c))=lightS l sun c:=by rw [hsp];exact wrap_in (by omega) (by omega)
     conv=>whnf
     repeat' (first
      |(rw [wx];conv=>whnf)
      |(rw [wq];conv=>whnf)
      |(rw [ws];conv=>whnf)
      |(refine ⟨fun hg=>?_,fun hg=>?_⟩<;>first|contradiction|(exfalso;revert hg;simp;done)|(exfalso;exact absurd (of_decide_eq_true hg) (by assumption))|(exfalso;exact absurd (by assumption) (of_decide_eq_false hg))|(conv=>whnf))
      |(refine Or.inl ?_;conv=>whnf)
      |(refine ⟨_,a1,?_⟩;conv=>whnf)
      |(refine ⟨_,b10,?_⟩;conv=>whnf)
      |(refine ⟨_,b11,?_⟩;conv=>whnf)
      |(refine ⟨_,aw,?_⟩;conv=>whnf)
      |(refine And.intro ?_ ?_;kernel_rfl;conv=>whnf))
     all_goals rfl
    ·conv=>whnf
     repeat' (first
      |(rw [wx];conv=>whnf)
      |(refine ⟨fun hg=>?_,fun hg=>?_⟩<;>first|contradiction|(exfalso;revert hg;simp;done)|(exfalso;exact absurd (of_decide_eq_true hg) (by assumption))|(exfalso;exact absurd (by assumption) (of_decide_eq_false hg))|(conv=>whnf))
      |(refine Or.inl ?_;conv=>whnf)
      |(refine ⟨_,aw,?_⟩;conv=>whnf)
      |(refine And.intro ?_ ?_;kernel_rfl;conv=>whnf))
     all_goals rfl
end Sh
