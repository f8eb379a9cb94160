/-
  Chapter 3's functions, walked over pure data: the library of the walk, the functions' code over data, and what each computes. (part 7)
-/
import Derived.Test.YtkaglomkahhjcaaGreatDoorP6
import Derived.ChangeArms
import Derived.ChangeSame
import Derived.OpenShut
import Derived.WideShapes
import Derived.FnData
import Derived.LaidMore
import Derived.DataReads
import Derived.Test.YtkaglomkahhjcaaGreatDoorProg
import Derived.Lib.ItoaNum
import Derived.Lib.ItoaLen
import Derived.Lib.MapLaws
import Derived.Lib.Bytealg
import Derived.Lib.Join
import Derived.Lib.Strings
set_option linter.unusedVariables false
set_option linter.unusedSimpArgs false
set_option linter.unusedVariables false
set_option linter.unusedSimpArgs false
namespace Sh
open Go
section
variable {H : Type} {enc : TypeId × Value → H} {P : Program} {W : World}
theorem arg_string {t : TypeId} {v : Value} {d : DataW H} {p : List MemPlace} {base b0 : Nat} {sp : Nat → Bool} {hd : Bool} (ht : P.underlying t = some .string)
  (hv : Value.okWide P W .any b0 t v) (h : DataW.Trod enc P W base sp hd t v d p) : ∃ s : List UInt8, RelP (memOf W) (.str s) v ∧ s.length ≤ maxLen := by
 obtain ⟨s, rfl⟩ := WideShapes.okWide_string ht hv
 obtain ⟨fuel, hf⟩ := h
 obtain ⟨m, e, _, hw⟩ := DataW.trod_string ht hf
 simp only [Value.cells, List.cons.injEq, Value.string.injEq, and_true] at e
 subst e
 exact ⟨s.data.toList, .str s.data.toList, by simpa using hw⟩
end
end Sh

set_option maxRecDepth 100000
namespace Sh
open Go
def db77_0 : DC := (.seq (.seq (.ops false [⟨some 14,.mov (.tmp 5),none,[]⟩,⟨some 15,.mov (.tmp 0),none,[]⟩,⟨some 16,.mov (.tmp 4),none,[]⟩,⟨some 17,.iaddr 1 (.tmp 15) (.tmp 16),none,[]⟩,⟨some 18,.load none (.tmp 17),none,[]⟩,⟨some 19,.len (.tmp 18),none,[]⟩,⟨some 20,.bin .lss (.tmp 14) (.tmp 19),none,[]⟩]) (.cond (.tmp 20) .skip (.exit 2))) (.seq (.block 3 none (.ops true [⟨some 23,.mov (.tmp 3),none,[]⟩,⟨some 24,.bin .add (.tmp 23) (.const (.string ⟨#[32]⟩)),none,[0]⟩,⟨some 25,.mov (.tmp 0),none,[]⟩,⟨some 26,.mov (.tmp 4),none,[]⟩,⟨some 27,.iaddr 1 (.tmp 25) (.tmp 26),none,[2,3]⟩,⟨some 28,.load none (.tmp 27),none,[4,2,3]⟩,⟨some 29,.mov (.tmp 5),none,[]⟩,⟨some 30,.iaddr 3 (.tmp 28) (.tmp 29),none,[5,4,2,3,6]⟩,⟨some 31,.faddr 0 1 false (.tmp 30),none,[7,5,4,2,3,6]⟩,⟨some 32,.load none (.tmp 31),none,[8,7,5,4,2,3,6]⟩,⟨some 33,.call (.func 141) [.tmp 32],none,[9,8,7,5,4,2,3,6]⟩,⟨some 34,.bin .add (.tmp 24) (.tmp 33),none,[1,0,10,9,8,7,5,4,2,3,6]⟩,⟨some 35,.bin .add (.tmp 34) (.const (.string ⟨#[32]⟩)),none,[11,1,0,10,9,8,7,5,4,2,3,6]⟩,⟨some 36,.mov (.tmp 0),none,[]⟩,⟨some 37,.mov (.tmp 4),none,[]⟩,⟨some 38,.iaddr 1 (.tmp 36) (.tmp 37),none,[13,14]⟩,⟨some 39,.load none (.tmp 38),none,[15,13,14]⟩,⟨some 40,.mov (.tmp 5),none,[]⟩,⟨some 41,.iaddr 3 (.tmp 39) (.tmp 40),none,[16,15,13,14,17]⟩,⟨some 42,.faddr 1 1 false (.tmp 41),none,[18,16,15,13,14,17]⟩,⟨some 43,.load none (.tmp 42),none,[19,18,16,15,13,14,17]⟩,⟨some 44,.call (.func 141) [.tmp 43],none,[20,19,18,16,15,13,14,17,10,9,8,7,5,4,2,3,6]⟩,⟨some 45,.bin .add (.tmp 35) (.tmp 44),none,[12,11,1,0,10,9,8,7,5,4,2,3,6,21,20,19,18,16,15,13,14,17]⟩,⟨some 46,.bin .add (.tmp 45) (.const (.string ⟨#[32]⟩)),none,[22,12,11,1,0,10,9,8,7,5,4,2,3,6,21,20,19,18,16,15,13,14,17]⟩,⟨some 47,.mov (.tmp 0),none,[]⟩,⟨some 48,.mov (.tmp 4),none,[]⟩,⟨some 49,.iaddr 1 (.tmp 47) (.tmp 48),none,[24,25]⟩,⟨some 50,.load none (.tmp 49),none,[26,24,25]⟩,⟨some 51,.mov (.tmp 5),none,[]⟩,⟨some 52,.iaddr 3 (.tmp 50) (.tmp 51),none,[27,26,24,25,28]⟩,⟨some 53,.faddr 2 1 false (.tmp 52),none,[29,27,26,24,25,28]⟩,⟨some 54,.load none (.tmp 53),none,[30,29,27,26,24,25,28]⟩,⟨some 55,.call (.func 141) [.tmp 54],none,[31,30,29,27,26,24,25,28,21,20,19,18,16,15,13,14,17,10,9,8,7,5,4,2,3,6]⟩,⟨some 56,.bin .add (.tmp 46) (.tmp 55),none,[23,22,12,11,1,0,10,9,8,7,5,4,2,3,6,21,20,19,18,16,15,13,14,17,32,31,30,29,27,26,24,25,28]⟩,⟨some 3,.mov (.tmp 56),none,[33,23,22,12,11,1,0,10,9,8,7,5,4,2,3,6,21,20,19,18,16,15,13,14,17,32,31,30,29,27,26,24,25,28]⟩])) (.ops false [⟨some 21,.mov (.tmp 5),none,[]⟩,⟨some 22,.bin .add (.tmp 21) (.const (.int .i64 1)),none,[]⟩,⟨some 5,.mov (.tmp 22),none,[]⟩])))
def dk77_0 : Keep := ⟨[],[0,3,4,5],[]⟩
def db77_1 : DC := (.seq (.seq (.ops false [⟨some 6,.mov (.tmp 4),none,[]⟩,⟨some 7,.mov (.tmp 0),none,[]⟩,⟨some 8,.len (.tmp 7),none,[]⟩,⟨some 9,.bin .lss (.tmp 6) (.tmp 8),none,[]⟩]) (.cond (.tmp 9) .skip (.exit 0))) (.seq (.block 1 (some ⟨[],[0,3,4],[]⟩) (.seq (.ops false [⟨some 12,.mov (.tmp 3),none,[]⟩,⟨some 13,.bin .add (.tmp 12) (.const (.string ⟨#[115,104,97,112,101]⟩)),none,[]⟩,⟨some 3,.mov (.tmp 13),none,[]⟩]) (.seq (.seq (.ops false [⟨some 5,.mov (.const (.int .i64 0)),none,[]⟩]) (.block 2 (some ⟨[],[0,3,4],[]⟩) (.loop dk77_0 db77_0))) (.ops false [⟨some 57,.mov (.tmp 3),none,[]⟩,⟨some 58,.bin .add (.tmp 57) (.const (.string ⟨#[10]⟩)),none,[]⟩,⟨some 3,.mov (.tmp 58),none,[]⟩])))) (.ops false [⟨some 10,.mov (.tmp 4),none,[]⟩,⟨some 11,.bin .add (.tmp 10) (.const (.int .i64 1)),none,[]⟩,⟨some 4,.mov (.tmp 11),none,[]⟩])))
def dk77_1 : Keep := ⟨[],[0,3,4],[]⟩
def dc77 : DFunc := ⟨60,1,[.tmp 2],.seq (.ops false [⟨some 2,.mov (.const (.string ⟨#[]⟩)),none,[]⟩]) (.seq (.ops false [⟨some 3,.mov (.const (.string ⟨#[]⟩)),none,[]⟩]) (.seq (.seq (.ops false [⟨some 4,.mov (.const (.int .i64 0)),none,[]⟩]) (.block 0 (some ⟨[],[3],[]⟩) (.loop dk77_1 db77_1))) (.seq (.ops false [⟨some 59,.mov (.tmp 3),none,[]⟩,⟨some 2,.mov (.tmp 59),none,[]⟩]) .ret)))⟩
theorem dh77 : cProg Go.Proofs.Tryz.prog ⟨[(0, ⟨[], [0, 3, 4], []⟩), (2, ⟨[], [0, 3, 4, 5], []⟩)], [(2, ⟨[], [0, 3, 4], []⟩), (1, ⟨[], [0, 3, 4], []⟩), (0, ⟨[], [3], []⟩)], []⟩ 77 = some dc77 := by kernel_rfl
def db78_0 : DC := (.seq (.seq (.ops false [⟨some 54,.mov (.tmp 11),none,[]⟩,⟨some 55,.mov (.tmp 8),none,[]⟩,⟨some 56,.len (.tmp 55),none,[]⟩,⟨some 57,.bin .lss (.tmp 54) (.tmp 56),none,[]⟩]) (.cond (.tmp 57) .skip (.exit 2))) (.seq (.block 3 none (.seq (.ops false [⟨some 61,.mov (.tmp 8),none,[]⟩,⟨some 62,.mov (.tmp 11),none,[]⟩,⟨some 63,.iaddr 1 (.tmp 61) (.tmp 62),none,[]⟩,⟨some 64,.load none (.tmp 63),none,[]⟩,⟨some 65,.call (.func 142) [.tmp 64],none,[]⟩,⟨some 60,.mov (.tmp 65),none,[]⟩,⟨some 66,.extract (.tmp 60) 0,none,[]⟩,⟨some 67,.extract (.tmp 60) 1,none,[]⟩,⟨some 12,.mov (.tmp 66),none,[]⟩,⟨some 13,.mov (.tmp 67),none,[]⟩]) (.seq (.ops false [⟨some 68,.mov (.tmp 9),none,[]⟩,⟨some 69,.mov (.tmp 68),none,[]⟩,⟨some 70,.mov (.tmp 13),some (69,true),[]⟩,⟨some 71,.pick (.tmp 69) (.tmp 70) (.const (.bool false)),none,[]⟩,⟨some 9,.mov (.tmp 71),none,[]⟩]) (.ops false [⟨some 72,.mov (.tmp 10),none,[]⟩,⟨some 73,.mov (.tmp 12),none,[]⟩,⟨some 74,.lit true 1 1 (.int .i64 0) [(0,(.tmp 73))],none,[]⟩,⟨some 75,.append false 1 (.tmp 72) (.tmp 74),none,[]⟩,⟨some 10,.mov (.tmp 75),none,[]⟩])))) (.ops false [⟨some 58,.mov (.tmp 11),none,[]⟩,⟨some 59,.bin .add (.tmp 58) (.const (.int .i64 1)),none,[]⟩,⟨some 11,.mov (.tmp 59),none,[]⟩])))
def dk78_0 : Keep := ⟨[(10,1)],[5,6,7,8,9,10,11],[5,10,102,103,106,107]⟩
def db78_1 : DC := (.seq (.seq (.ops false [⟨some 79,.mov (.tmp 15),none,[]⟩,⟨some 80,.bin .add (.tmp 79) (.const (.int .i64 2)),none,[]⟩,⟨some 81,.mov (.tmp 10),none,[]⟩,⟨some 82,.len (.tmp 81),none,[]⟩,⟨some 83,.bin .lss (.tmp 80) (.tmp 82),none,[]⟩]) (.cond (.tmp 83) .skip (.exit 4))) (.seq (.block 5 none (.ops true [⟨some 86,.mov (.tmp 14),none,[]⟩,⟨some 87,.mov (.tmp 10),none,[]⟩,⟨some 88,.mov (.tmp 15),none,[]⟩,⟨some 89,.iaddr 1 (.tmp 87) (.tmp 88),none,[1,2]⟩,⟨some 90,.load none (.tmp 89),none,[3,1,2]⟩,⟨some 91,.mov (.tmp 10),none,[]⟩,⟨some 92,.mov (.tmp 15),none,[]⟩,⟨some 93,.bin .add (.tmp 92) (.const (.int .i64 1)),none,[6]⟩,⟨some 94,.iaddr 1 (.tmp 91) (.tmp 93),none,[5,7,6]⟩,⟨some 95,.load none (.tmp 94),none,[8,5,7,6]⟩,⟨some 96,.mov (.tmp 10),none,[]⟩,⟨some 97,.mov (.tmp 15),none,[]⟩,⟨some 98,.bin .add (.tmp 97) (.const (.int .i64 2)),none,[11]⟩,⟨some 99,.iaddr 1 (.tmp 96) (.tmp 98),none,[10,12,11]⟩,⟨some 100,.load none (.tmp 99),none,[13,10,12,11]⟩,⟨some 101,.build [.int .i64 0,.int .i64 0,.int .i64 0] [(0,(1,(.tmp 90))),(1,(1,(.tmp 95))),(2,(1,(.tmp 100)))],none,[4,3,1,2,9,8,5,7,6,14,13,10,12,11]⟩,⟨some 102,.lit true 3 1 (.agg [.int .i64 0,.int .i64 0,.int .i64 0]) [(0,(.tmp 101))],none,[15,4,3,1,2,9,8,5,7,6,14,13,10,12,11]⟩,⟨some 103,.append false 3 (.tmp 86) (.tmp 102),none,[0,16,15,4,3,1,2,9,8,5,7,6,14,13,10,12,11]⟩,⟨some 14,.mov (.tmp 103),none,[17,0,16,15,4,3,1,2,9,8,5,7,6,14,13,10,12,11]⟩])) (.ops false [⟨some 84,.mov (.tmp 15),none,[]⟩,⟨some 85,.bin .add (.tmp 84) (.const (.int .i64 3)),none,[]⟩,⟨some 15,.mov (.tmp 85),none,[]⟩])))
def dk78_1 : Keep := ⟨[(14,3)],[5,6,7,10,14,15],[5,10,14,74,75,106,107]⟩
def db78_2 : DC := (.seq (.seq (.ops false [⟨some 22,.mov (.tmp 7),none,[]⟩,⟨some 23,.mov (.tmp 6),none,[]⟩,⟨some 24,.len (.tmp 23),none,[]⟩,⟨some 25,.bin .lss (.tmp 22) (.tmp 24),none,[]⟩]) (.cond (.tmp 25) .skip (.exit 0))) (.seq (.block 1 (some ⟨[],[5,6,7],[5]⟩) (.seq (.seq (.ops false [⟨some 28,.mov (.tmp 7),none,[]⟩,⟨some 29,.mov (.tmp 6),none,[]⟩,⟨some 30,.len (.tmp 29),none,[]⟩,⟨some 31,.bin .sub (.tmp 30) (.const (.int .i64 1)),none,[]⟩,⟨some 32,.bin .eql (.tmp 28) (.tmp 31),none,[]⟩]) (.cond (.tmp 32) (.seq (.seq (.ops false [⟨some 33,.mov (.tmp 6),none,[]⟩,⟨some 34,.mov (.tmp 7),none,[]⟩,⟨some 35,.iaddr 1 (.tmp 33) (.tmp 34),none,[]⟩,⟨some 36,.load none (.tmp 35),none,[]⟩,⟨some 37,.bin .neq (.tmp 36) (.const (.string ⟨#[]⟩)),none,[]⟩]) (.cond (.tmp 37) (.seq (.ops false [⟨some 38,.mov (.tmp 7),none,[]⟩,⟨some 2,.mov (.const (.slice none 0 0)),none,[]⟩,⟨some 3,.mov (.tmp 38),none,[]⟩,⟨some 4,.mov (.const (.int .i64 25)),none,[]⟩]) .ret) .skip)) (.exit 1)) .skip)) (.seq (.ops false [⟨some 39,.mov (.tmp 6),none,[]⟩,⟨some 40,.mov (.tmp 7),none,[]⟩,⟨some 41,.iaddr 1 (.tmp 39) (.tmp 40),none,[]⟩,⟨some 42,.load none (.tmp 41),none,[]⟩,⟨some 43,.call (.func 83) [.tmp 42,.const (.int .u8 32)],none,[]⟩,⟨some 8,.mov (.tmp 43),none,[]⟩]) (.seq (.ops false [⟨some 44,.mov (.tmp 8),none,[]⟩,⟨some 45,.iaddr 1 (.tmp 44) (.const (.int .i64 0)),none,[]⟩,⟨some 46,.load none (.tmp 45),none,[]⟩,⟨some 47,.bin .eql (.tmp 46) (.const (.string ⟨#[115,104,97,112,101]⟩)),none,[]⟩,⟨some 48,.mov (.tmp 47),none,[]⟩,⟨some 49,.mov (.tmp 8),some (48,true),[]⟩,⟨some 50,.len (.tmp 49),some (48,true),[]⟩,⟨some 51,.bin .rem (.tmp 50) (.const (.int .i64 3)),some (48,true),[]⟩,⟨some 52,.bin .eql (.tmp 51) (.const (.int .i64 1)),some (48,true),[]⟩,⟨some 53,.pick (.tmp 48) (.tmp 52) (.const (.bool false)),none,[]⟩,⟨some 9,.mov (.tmp 53),none,[]⟩]) (.seq (.ops false [⟨some 10,.mov (.const (.slice none 0 0)),none,[]⟩]) (.seq (.seq (.ops false [⟨some 11,.mov (.const (.int .i64 1)),none,[]⟩]) (.block 2 (some ⟨[],[5,6,7,9,10],[5,10,102,103,106,107]⟩) (.loop dk78_0 db78_0))) (.seq (.seq (.ops false [⟨some 76,.mov (.tmp 9),none,[]⟩,⟨some 77,.un .not (.tmp 76),none,[]⟩]) (.cond (.tmp 77) (.seq (.ops false [⟨some 78,.mov (.tmp 7),none,[]⟩,⟨some 2,.mov (.const (.slice none 0 0)),none,[]⟩,⟨some 3,.mov (.tmp 78),none,[]⟩,⟨some 4,.mov (.const (.int .i64 25)),none,[]⟩]) .ret) .skip)) (.seq (.ops false [⟨some 14,.mov (.const (.slice none 0 0)),none,[]⟩]) (.seq (.seq (.ops false [⟨some 15,.mov (.const (.int .i64 0)),none,[]⟩]) (.block 4 (some ⟨[],[5,6,7,14],[5,14,74,75,106,107]⟩) (.loop dk78_1 db78_1))) (.ops false [⟨some 104,.mov (.tmp 5),none,[]⟩,⟨some 105,.mov (.tmp 14),none,[]⟩,⟨some 106,.lit true 1 1 (.full []) [(0,(.tmp 105))],none,[]⟩,⟨some 107,.append false 1 (.tmp 104) (.tmp 106),none,[]⟩,⟨some 5,.mov (.tmp 107),none,[]⟩])))))))))) (.ops false [⟨some 26,.mov (.tmp 7),none,[]⟩,⟨some 27,.bin .add (.tmp 26) (.const (.int .i64 1)),none,[]⟩,⟨some 7,.mov (.tmp 27),none,[]⟩])))
def dk78_2 : Keep := ⟨[(5,1)],[5,6,7],[5]⟩
def dc78 : DFunc := ⟨117,1,[.tmp 2,.tmp 3,.tmp 4],.seq (.ops false [⟨some 2,.mov (.const (.slice none 0 0)),none,[]⟩,⟨some 3,.mov (.const (.int .i64 0)),none,[]⟩,⟨some 4,.mov (.const (.int .i64 0)),none,[]⟩]) (.seq (.seq (.ops false [⟨some 17,.mov (.tmp 0),none,[]⟩,⟨some 18,.lenS (.tmp 17),none,[]⟩,⟨some 19,.bin .gtr (.tmp 18) (.const (.int .i64 4096)),none,[]⟩]) (.cond (.tmp 19) (.seq (.ops false [⟨some 2,.mov (.const (.slice none 0 0)),none,[]⟩,⟨some 3,.mov (.const (.int .i64 0)),none,[]⟩,⟨some 4,.mov (.const (.int .i64 26)),none,[]⟩]) .ret) .skip)) (.seq (.ops false [⟨some 5,.mov (.const (.slice none 0 0)),none,[]⟩]) (.seq (.ops false [⟨some 20,.mov (.tmp 0),none,[]⟩,⟨some 21,.call (.func 83) [.tmp 20,.const (.int .u8 10)],none,[]⟩,⟨some 6,.mov (.tmp 21),none,[]⟩]) (.seq (.seq (.ops false [⟨some 7,.mov (.const (.int .i64 0)),none,[]⟩]) (.block 0 (some ⟨[],[5,6],[5]⟩) (.loop dk78_2 db78_2))) (.seq (.seq (.ops false [⟨some 108,.mov (.tmp 5),none,[]⟩,⟨some 109,.call (.func 24) [.tmp 108],none,[]⟩,⟨some 16,.mov (.tmp 109),none,[]⟩]) (.seq (.ops false [⟨some 110,.mov (.tmp 16),none,[]⟩,⟨some 111,.bin .neq (.tmp 110) (.const (.int .i64 0)),none,[]⟩]) (.cond (.tmp 111) (.seq (.ops false [⟨some 112,.mov (.tmp 6),none,[]⟩,⟨some 113,.len (.tmp 112),none,[]⟩,⟨some 114,.bin .sub (.tmp 113) (.const (.int .i64 1)),none,[]⟩,⟨some 115,.mov (.tmp 16),none,[]⟩,⟨some 2,.mov (.const (.slice none 0 0)),none,[]⟩,⟨some 3,.mov (.tmp 114),none,[]⟩,⟨some 4,.mov (.tmp 115),none,[]⟩]) .ret) .skip))) (.seq (.ops false [⟨some 116,.mov (.tmp 5),none,[]⟩,⟨some 2,.mov (.tmp 116),none,[]⟩,⟨some 3,.mov (.const (.int .i64 0)),none,[]⟩,⟨some 4,.mov (.const (.int .i64 0)),none,[]⟩]) .ret))))))⟩
theorem dh78 : cProg Go.Proofs.Tryz.prog ⟨[(0, ⟨[(5, 1)], [5, 6, 7], [5]⟩), (2, ⟨[(10, 1)], [5, 6, 7, 8, 9, 10, 11], [5, 10, 102, 103, 106, 107]⟩), (4, ⟨[(14, 3)], [5, 6, 7, 10, 14, 15], [5, 10, 14, 74, 75, 106, 107]⟩)], [(2, ⟨[], [5, 6, 7, 9, 10], [5, 10, 102, 103, 106, 107]⟩), (4, ⟨[], [5, 6, 7, 14], [5, 14, 74, 75, 106, 107]⟩), (1, ⟨[], [5, 6, 7], [5]⟩), (0, ⟨[], [5, 6], [5]⟩)], [74, 102, 106]⟩ 78 = some dc78 := by kernel_rfl
def db83_0 : DC := (.seq (.seq (.ops false [⟨some 8,.mov (.tmp 7),none,[]⟩,⟨some 9,.mov (.tmp 0),none,[]⟩,⟨some 10,.lenS (.tmp 9),none,[]⟩,⟨some 11,.bin .lss (.tmp 8) (.tmp 10),none,[]⟩]) (.cond (.tmp 11) .skip (.exit 0))) (.seq (.block 1 none (.seq (.ops false [⟨some 14,.mov (.tmp 0),none,[]⟩,⟨some 15,.mov (.tmp 7),none,[]⟩,⟨some 16,.indexS (.tmp 14) (.tmp 15),none,[]⟩,⟨some 17,.mov (.tmp 1),none,[]⟩,⟨some 18,.bin .eql (.tmp 16) (.tmp 17),none,[]⟩]) (.cond (.tmp 18) (.seq (.ops false [⟨some 19,.mov (.tmp 5),none,[]⟩,⟨some 20,.mov (.tmp 0),none,[]⟩,⟨some 21,.mov (.tmp 6),none,[]⟩,⟨some 22,.mov (.tmp 7),none,[]⟩,⟨some 23,.sliceS (.tmp 20) (some (.tmp 21)) (some (.tmp 22)),none,[]⟩,⟨some 24,.lit true 1 1 (.str []) [(0,(.tmp 23))],none,[]⟩,⟨some 25,.append false 1 (.tmp 19) (.tmp 24),none,[]⟩,⟨some 5,.mov (.tmp 25),none,[]⟩]) (.ops false [⟨some 26,.mov (.tmp 7),none,[]⟩,⟨some 27,.bin .add (.tmp 26) (.const (.int .i64 1)),none,[]⟩,⟨some 6,.mov (.tmp 27),none,[]⟩])) .skip))) (.ops false [⟨some 12,.mov (.tmp 7),none,[]⟩,⟨some 13,.bin .add (.tmp 12) (.const (.int .i64 1)),none,[]⟩,⟨some 7,.mov (.tmp 13),none,[]⟩])))
def dk83_0 : Keep := ⟨[(5,1)],[0,1,5,6,7],[5,32,33]⟩
def dc83 : DFunc := ⟨34,2,[.tmp 4],.seq (.ops false [⟨some 4,.mov (.const (.slice none 0 0)),none,[]⟩]) (.seq (.ops false [⟨some 5,.mov (.const (.slice none 0 0)),none,[]⟩]) (.seq (.ops false [⟨some 6,.mov (.const (.int .i64 0)),none,[]⟩]) (.seq (.seq (.ops false [⟨some 7,.mov (.const (.int .i64 0)),none,[]⟩]) (.block 0 (some ⟨[],[0,5,6],[5,32,33]⟩) (.loop dk83_0 db83_0))) (.seq (.ops false [⟨some 28,.mov (.tmp 5),none,[]⟩,⟨some 29,.mov (.tmp 0),none,[]⟩,⟨some 30,.mov (.tmp 6),none,[]⟩,⟨some 31,.sliceS (.tmp 29) (some (.tmp 30)) none,none,[]⟩,⟨some 32,.lit true 1 1 (.str []) [(0,(.tmp 31))],none,[]⟩,⟨some 33,.append false 1 (.tmp 28) (.tmp 32),none,[]⟩,⟨some 4,.mov (.tmp 33),none,[]⟩]) .ret))))⟩
theorem dh83 : cProg Go.Proofs.Tryz.prog ⟨[(0, ⟨[(5, 1)], [0, 1, 5, 6, 7], [5, 32, 33]⟩)], [(0, ⟨[], [0, 5, 6], [5, 32, 33]⟩)], [24, 32]⟩ 83 = some dc83 := by kernel_rfl
end Sh

set_option maxRecDepth 100000
namespace Sh
open Go
def db93_0 : DC := (.seq (.seq (.ops false [⟨some 5,.mov (.tmp 4),none,[]⟩,⟨some 6,.mov (.tmp 0),none,[]⟩,⟨some 7,.len (.tmp 6),none,[]⟩,⟨some 8,.bin .lss (.tmp 5) (.tmp 7),none,[]⟩]) (.cond (.tmp 8) .skip (.exit 0))) (.seq (.block 1 none (.ops false [⟨some 11,.mov (.tmp 3),none,[]⟩,⟨some 12,.lit true 3 0 (.agg [.int .i64 0,.int .i64 0,.int .i64 0]) [],none,[]⟩,⟨some 13,.mov (.tmp 0),none,[]⟩,⟨some 14,.mov (.tmp 4),none,[]⟩,⟨some 15,.iaddr 1 (.tmp 13) (.tmp 14),none,[]⟩,⟨some 16,.load none (.tmp 15),none,[]⟩,⟨some 17,.append true 3 (.tmp 12) (.tmp 16),none,[]⟩,⟨some 18,.lit true 1 1 (.full []) [(0,(.tmp 17))],none,[]⟩,⟨some 19,.append false 1 (.tmp 11) (.tmp 18),none,[]⟩,⟨some 3,.mov (.tmp 19),none,[]⟩])) (.ops false [⟨some 9,.mov (.tmp 4),none,[]⟩,⟨some 10,.bin .add (.tmp 9) (.const (.int .i64 1)),none,[]⟩,⟨some 4,.mov (.tmp 10),none,[]⟩])))
def dk93_0 : Keep := ⟨[(3,1)],[0,3,4],[3]⟩
def dc93 : DFunc := ⟨21,1,[.tmp 2],.seq (.ops false [⟨some 2,.mov (.const (.slice none 0 0)),none,[]⟩]) (.seq (.ops false [⟨some 3,.mov (.const (.slice none 0 0)),none,[]⟩]) (.seq (.seq (.ops false [⟨some 4,.mov (.const (.int .i64 0)),none,[]⟩]) (.block 0 (some ⟨[],[3],[3]⟩) (.loop dk93_0 db93_0))) (.seq (.ops false [⟨some 20,.mov (.tmp 3),none,[]⟩,⟨some 2,.mov (.tmp 20),none,[]⟩]) .ret)))⟩
theorem dh93 : cProg Go.Proofs.Tryz.prog ⟨[(0, ⟨[(3, 1)], [0, 3, 4], [3]⟩)], [(0, ⟨[], [3], [3]⟩)], [12, 17, 18]⟩ 93 = some dc93 := by kernel_rfl
def db94_0 : DC := (.seq (.seq (.ops false [⟨some 4,.mov (.tmp 3),none,[]⟩,⟨some 5,.mov (.tmp 0),none,[]⟩,⟨some 6,.len (.tmp 5),none,[]⟩,⟨some 7,.bin .lss (.tmp 4) (.tmp 6),none,[]⟩]) (.cond (.tmp 7) .skip (.exit 0))) (.seq (.block 1 none (.seq (.ops false [⟨some 10,.mov (.tmp 0),none,[]⟩,⟨some 11,.mov (.tmp 3),none,[]⟩,⟨some 12,.iaddr 1 (.tmp 10) (.tmp 11),none,[]⟩,⟨some 13,.load none (.tmp 12),none,[]⟩,⟨some 14,.bin .neq (.tmp 13) (.const (.int .i64 0)),none,[]⟩]) (.cond (.tmp 14) (.seq (.ops false [⟨some 15,.mov (.tmp 0),none,[]⟩,⟨some 16,.mov (.tmp 3),none,[]⟩,⟨some 17,.iaddr 1 (.tmp 15) (.tmp 16),none,[]⟩,⟨some 18,.load none (.tmp 17),none,[]⟩,⟨some 2,.mov (.tmp 18),none,[]⟩]) .ret) .skip))) (.ops false [⟨some 8,.mov (.tmp 3),none,[]⟩,⟨some 9,.bin .add (.tmp 8) (.const (.int .i64 1)),none,[]⟩,⟨some 3,.mov (.tmp 9),none,[]⟩])))
def dk94_0 : Keep := ⟨[],[0,3],[]⟩
def dc94 : DFunc := ⟨19,1,[.tmp 2],.seq (.ops false [⟨some 2,.mov (.const (.int .i64 0)),none,[]⟩]) (.seq (.seq (.ops false [⟨some 3,.mov (.const (.int .i64 0)),none,[]⟩]) (.block 0 (some ⟨[],[],[]⟩) (.loop dk94_0 db94_0))) (.seq (.ops false [⟨some 2,.mov (.const (.int .i64 0)),none,[]⟩]) .ret))⟩
theorem dh94 : cProg Go.Proofs.Tryz.prog ⟨[(0, ⟨[], [0, 3], []⟩)], [(0, ⟨[], [], []⟩)], []⟩ 94 = some dc94 := by kernel_rfl
def dc95 : DFunc := ⟨7,2,[.tmp 4],.seq (.ops false [⟨some 4,.mov (.const (.int .i64 0)),none,[]⟩]) (.seq (.seq (.ops false [⟨some 5,.mov (.tmp 0),none,[]⟩]) (.cond (.tmp 5) (.seq (.ops false [⟨some 6,.mov (.tmp 1),none,[]⟩,⟨some 4,.mov (.tmp 6),none,[]⟩]) .ret) .skip)) (.seq (.ops false [⟨some 4,.mov (.const (.int .i64 0)),none,[]⟩]) .ret))⟩
theorem dh95 : cProg Go.Proofs.Tryz.prog ⟨[], [], []⟩ 95 = some dc95 := by kernel_rfl
def dc96 : DFunc := ⟨16,3,[.tmp 6],.seq (.ops false [⟨some 6,.mov (.const (.int .i64 0)),none,[]⟩]) (.seq (.ops false [⟨some 7,.mov (.tmp 0),none,[]⟩,⟨some 8,.mov (.tmp 1),none,[]⟩,⟨some 9,.bin .lss (.tmp 7) (.tmp 8),none,[]⟩,⟨some 10,.mov (.tmp 9),none,[]⟩,⟨some 11,.mov (.tmp 0),some (10,false),[]⟩,⟨some 12,.mov (.tmp 2),some (10,false),[]⟩,⟨some 13,.bin .gtr (.tmp 11) (.tmp 12),some (10,false),[]⟩,⟨some 14,.pick (.tmp 10) (.const (.bool true)) (.tmp 13),none,[]⟩,⟨some 15,.call (.func 95) [.tmp 14,.const (.int .i64 3)],none,[]⟩,⟨some 6,.mov (.tmp 15),none,[]⟩]) .ret)⟩
theorem dh96 : cProg Go.Proofs.Tryz.prog ⟨[], [], []⟩ 96 = some dc96 := by kernel_rfl
def db97_0 : DC := (.seq (.seq (.ops false [⟨some 57,.mov (.tmp 8),none,[]⟩,⟨some 58,.mov (.tmp 0),none,[]⟩,⟨some 59,.len (.tmp 58),none,[]⟩,⟨some 60,.bin .lss (.tmp 57) (.tmp 59),none,[]⟩]) (.cond (.tmp 60) .skip (.exit 2))) (.seq (.block 3 none (.seq (.ops true [⟨some 63,.load (some 3) (.tmp 3),none,[]⟩,⟨some 64,.load (some 3) (.tmp 6),none,[]⟩,⟨some 65,.load (some 3) (.tmp 5),none,[]⟩,⟨some 66,.call (.func 101) [.tmp 64,.tmp 65],none,[1,2]⟩,⟨some 67,.mov (.tmp 0),none,[]⟩,⟨some 68,.mov (.tmp 8),none,[]⟩,⟨some 69,.iaddr 3 (.tmp 67) (.tmp 68),none,[4,5]⟩,⟨some 70,.load (some 3) (.tmp 69),none,[6,4,5]⟩,⟨some 71,.load (some 3) (.tmp 5),none,[]⟩,⟨some 72,.call (.func 101) [.tmp 70,.tmp 71],none,[7,6,4,5,8,3,1,2]⟩,⟨some 73,.call (.func 102) [.tmp 66,.tmp 72],none,[3,1,2,9,7,6,4,5,8]⟩,⟨some 74,.call (.func 99) [.tmp 63,.tmp 73],none,[0,10,3,1,2,9,7,6,4,5,8]⟩,⟨some 75,.bin .lss (.tmp 74) (.const (.int .i64 0)),none,[11,0,10,3,1,2,9,7,6,4,5,8]⟩]) (.cond (.tmp 75) (.seq (.ops false [⟨some 2,.mov (.const (.bool false)),none,[]⟩]) .ret) .skip))) (.ops false [⟨some 61,.mov (.tmp 8),none,[]⟩,⟨some 62,.bin .add (.tmp 61) (.const (.int .i64 1)),none,[]⟩,⟨some 8,.mov (.tmp 62),none,[]⟩])))
def dk97_0 : Keep := ⟨[],[0,3,4,5,6,8],[3,5,6,7]⟩
def db97_1 : DC := (.seq (.seq (.ops false [⟨some 11,.mov (.tmp 4),none,[]⟩,⟨some 12,.mov (.tmp 0),none,[]⟩,⟨some 13,.len (.tmp 12),none,[]⟩,⟨some 14,.bin .lss (.tmp 11) (.tmp 13),none,[]⟩]) (.cond (.tmp 14) .skip (.exit 0))) (.seq (.block 1 (some ⟨[],[0,3,4],[3]⟩) (.seq (.ops true [⟨some 17,.mov (.tmp 0),none,[]⟩,⟨some 18,.mov (.tmp 4),none,[]⟩,⟨some 19,.iaddr 3 (.tmp 17) (.tmp 18),none,[0,1]⟩,⟨some 20,.load (some 3) (.tmp 19),none,[2,0,1]⟩,⟨some 21,.mov (.tmp 0),none,[]⟩,⟨some 22,.mov (.tmp 4),none,[]⟩,⟨some 23,.bin .add (.tmp 22) (.const (.int .i64 1)),none,[5]⟩,⟨some 24,.mov (.tmp 0),none,[]⟩,⟨some 25,.len (.tmp 24),none,[7]⟩,⟨some 26,.bin .rem (.tmp 23) (.tmp 25),none,[6,5,8,7]⟩,⟨some 27,.iaddr 3 (.tmp 21) (.tmp 26),none,[4,9,6,5,8,7]⟩,⟨some 28,.load (some 3) (.tmp 27),none,[10,4,9,6,5,8,7]⟩,⟨some 29,.mov (.tmp 0),none,[]⟩,⟨some 30,.mov (.tmp 4),none,[]⟩,⟨some 31,.bin .add (.tmp 30) (.const (.int .i64 2)),none,[13]⟩,⟨some 32,.mov (.tmp 0),none,[]⟩,⟨some 33,.len (.tmp 32),none,[15]⟩,⟨some 34,.bin .rem (.tmp 31) (.tmp 33),none,[14,13,16,15]⟩,⟨some 35,.iaddr 3 (.tmp 29) (.tmp 34),none,[12,17,14,13,16,15]⟩,⟨some 36,.load (some 3) (.tmp 35),none,[18,12,17,14,13,16,15]⟩,⟨some 5,.alloc (.agg [.int .i64 0,.int .i64 0,.int .i64 0]) 3,none,[]⟩,⟨some 6,.alloc (.agg [.int .i64 0,.int .i64 0,.int .i64 0]) 3,none,[]⟩,⟨some 7,.alloc (.agg [.int .i64 0,.int .i64 0,.int .i64 0]) 3,none,[]⟩,⟨none,.store 3 (.tmp 5) (.tmp 20),none,[20,3,2,0,1,21,22]⟩,⟨none,.store 3 (.tmp 6) (.tmp 28),none,[21,11,10,4,9,6,5,8,7,23,20,3,2,0,1,22]⟩,⟨none,.store 3 (.tmp 7) (.tmp 36),none,[22,19,18,12,17,14,13,16,15,24,21,11,10,4,9,6,5,8,7,23,20,3,2,0,1]⟩]) (.seq (.seq (.ops true [⟨some 37,.load (some 3) (.tmp 3),none,[]⟩,⟨some 38,.load (some 3) (.tmp 5),none,[]⟩,⟨some 39,.mov (.tmp 0),none,[]⟩,⟨some 40,.iaddr 3 (.tmp 39) (.const (.int .i64 0)),none,[2]⟩,⟨some 41,.load (some 3) (.tmp 40),none,[3,2]⟩,⟨some 42,.call (.func 101) [.tmp 38,.tmp 41],none,[1,4,3,2]⟩,⟨some 43,.call (.func 99) [.tmp 37,.tmp 42],none,[0,5,1,4,3,2]⟩,⟨some 44,.bin .neq (.tmp 43) (.const (.int .i64 0)),none,[6,0,5,1,4,3,2]⟩,⟨some 45,.mov (.tmp 44),none,[7,6,0,5,1,4,3,2]⟩,⟨some 46,.load (some 3) (.tmp 3),some (45,false),[8,7,6,0,5,1,4,3,2]⟩,⟨some 47,.load (some 3) (.tmp 6),some (45,false),[8,7,6,0,5,1,4,3,2]⟩,⟨some 48,.load (some 3) (.tmp 5),some (45,false),[8,7,6,0,5,1,4,3,2]⟩,⟨some 49,.call (.func 101) [.tmp 47,.tmp 48],some (45,false),[10,8,7,6,0,5,1,4,3,2,11]⟩,⟨some 50,.load (some 3) (.tmp 7),some (45,false),[8,7,6,0,5,1,4,3,2]⟩,⟨some 51,.load (some 3) (.tmp 6),some (45,false),[8,7,6,0,5,1,4,3,2]⟩,⟨some 52,.call (.func 101) [.tmp 50,.tmp 51],some (45,false),[13,8,7,6,0,5,1,4,3,2,14,12,10,11]⟩,⟨some 53,.call (.func 102) [.tmp 49,.tmp 52],some (45,false),[12,10,8,7,6,0,5,1,4,3,2,11,15,13,14]⟩,⟨some 54,.call (.func 99) [.tmp 46,.tmp 53],some (45,false),[9,8,7,6,0,5,1,4,3,2,16,12,10,11,15,13,14]⟩,⟨some 55,.bin .leq (.tmp 54) (.const (.int .i64 0)),some (45,false),[17,9,8,7,6,0,5,1,4,3,2,16,12,10,11,15,13,14]⟩,⟨some 56,.pick (.tmp 45) (.const (.bool true)) (.tmp 55),none,[8,7,6,0,5,1,4,3,2,18,17,9,16,12,10,11,15,13,14]⟩]) (.cond (.tmp 56) (.seq (.ops false [⟨some 2,.mov (.const (.bool false)),none,[]⟩]) .ret) .skip)) (.seq (.ops false [⟨some 8,.mov (.const (.int .i64 0)),none,[]⟩]) (.block 2 (some ⟨[],[0,3,4],[3,5,6,7]⟩) (.loop dk97_0 db97_0)))))) (.ops false [⟨some 15,.mov (.tmp 4),none,[]⟩,⟨some 16,.bin .add (.tmp 15) (.const (.int .i64 1)),none,[]⟩,⟨some 4,.mov (.tmp 16),none,[]⟩])))
def dk97_1 : Keep := ⟨[],[0,3,4],[3]⟩
def dc97 : DFunc := ⟨76,1,[.tmp 2],.seq (.ops false [⟨some 2,.mov (.const (.bool false)),none,[]⟩]) (.seq (.ops false [⟨some 9,.mov (.tmp 0),none,[]⟩,⟨some 10,.call (.func 98) [.tmp 9],none,[]⟩,⟨some 3,.alloc (.agg [.int .i64 0,.int .i64 0,.int .i64 0]) 3,none,[]⟩,⟨none,.store 3 (.tmp 3) (.tmp 10),none,[]⟩]) (.seq (.seq (.ops false [⟨some 4,.mov (.const (.int .i64 0)),none,[]⟩]) (.block 0 (some ⟨[],[],[3]⟩) (.loop dk97_1 db97_1))) (.seq (.ops false [⟨some 2,.mov (.const (.bool true)),none,[]⟩]) .ret)))⟩
theorem dh97 : cProg Go.Proofs.Tryz.prog ⟨[(0, ⟨[], [0, 3, 4], [3]⟩), (2, ⟨[], [0, 3, 4, 5, 6, 8], [3, 5, 6, 7]⟩)], [(2, ⟨[], [0, 3, 4], [3, 5, 6, 7]⟩), (1, ⟨[], [0, 3, 4], [3]⟩), (0, ⟨[], [], [3]⟩)], []⟩ 97 = some dc97 := by kernel_rfl
def dc98 : DFunc := ⟨18,1,[.cell 2 (some 3)],.seq (.ops false [⟨some 2,.alloc (.agg [.int .i64 0,.int .i64 0,.int .i64 0]) 3,none,[]⟩]) (.seq (.ops true [⟨some 3,.mov (.tmp 0),none,[]⟩,⟨some 4,.iaddr 3 (.tmp 3) (.const (.int .i64 1)),none,[0]⟩,⟨some 5,.load (some 3) (.tmp 4),none,[1,0]⟩,⟨some 6,.mov (.tmp 0),none,[]⟩,⟨some 7,.iaddr 3 (.tmp 6) (.const (.int .i64 0)),none,[3]⟩,⟨some 8,.load (some 3) (.tmp 7),none,[4,3]⟩,⟨some 9,.call (.func 101) [.tmp 5,.tmp 8],none,[2,1,0,5,4,3]⟩,⟨some 10,.mov (.tmp 0),none,[]⟩,⟨some 11,.iaddr 3 (.tmp 10) (.const (.int .i64 2)),none,[7]⟩,⟨some 12,.load (some 3) (.tmp 11),none,[8,7]⟩,⟨some 13,.mov (.tmp 0),none,[]⟩,⟨some 14,.iaddr 3 (.tmp 13) (.const (.int .i64 0)),none,[10]⟩,⟨some 15,.load (some 3) (.tmp 14),none,[11,10]⟩,⟨some 16,.call (.func 101) [.tmp 12,.tmp 15],none,[9,8,7,12,11,10,6,2,1,0,5,4,3]⟩,⟨some 17,.call (.func 102) [.tmp 9,.tmp 16],none,[6,2,1,0,5,4,3,13,9,8,7,12,11,10]⟩,⟨none,.store 3 (.tmp 2) (.tmp 17),none,[14,6,2,1,0,5,4,3,13,9,8,7,12,11,10]⟩]) .ret)⟩
theorem dh98 : cProg Go.Proofs.Tryz.prog ⟨[], [], []⟩ 98 = some dc98 := by kernel_rfl
def dc99 : DFunc := ⟨22,2,[.tmp 4],.seq (.ops false [⟨some 2,.box 3 (.tmp 0),none,[]⟩,⟨some 3,.box 3 (.tmp 1),none,[]⟩,⟨some 4,.mov (.const (.int .i64 0)),none,[]⟩]) (.seq (.ops false [⟨some 5,.faddr 0 1 false (.tmp 2),none,[]⟩,⟨some 6,.load none (.tmp 5),none,[]⟩,⟨some 7,.faddr 0 1 false (.tmp 3),none,[]⟩,⟨some 8,.load none (.tmp 7),none,[]⟩,⟨some 9,.bin .mul (.tmp 6) (.tmp 8),none,[]⟩,⟨some 10,.faddr 1 1 false (.tmp 2),none,[]⟩,⟨some 11,.load none (.tmp 10),none,[]⟩,⟨some 12,.faddr 1 1 false (.tmp 3),none,[]⟩,⟨some 13,.load none (.tmp 12),none,[]⟩,⟨some 14,.bin .mul (.tmp 11) (.tmp 13),none,[]⟩,⟨some 15,.bin .add (.tmp 9) (.tmp 14),none,[]⟩,⟨some 16,.faddr 2 1 false (.tmp 2),none,[]⟩,⟨some 17,.load none (.tmp 16),none,[]⟩,⟨some 18,.faddr 2 1 false (.tmp 3),none,[]⟩,⟨some 19,.load none (.tmp 18),none,[]⟩,⟨some 20,.bin .mul (.tmp 17) (.tmp 19),none,[]⟩,⟨some 21,.bin .add (.tmp 15) (.tmp 20),none,[]⟩,⟨some 4,.mov (.tmp 21),none,[]⟩]) .ret)⟩
theorem dh99 : cProg Go.Proofs.Tryz.prog ⟨[], [], []⟩ 99 = some dc99 := by kernel_rfl
def dc101 : DFunc := ⟨21,2,[.cell 4 (some 3)],.seq (.ops false [⟨some 2,.box 3 (.tmp 0),none,[]⟩,⟨some 3,.box 3 (.tmp 1),none,[]⟩,⟨some 4,.alloc (.agg [.int .i64 0,.int .i64 0,.int .i64 0]) 3,none,[]⟩]) (.seq (.ops false [⟨some 5,.faddr 0 1 false (.tmp 2),none,[]⟩,⟨some 6,.load none (.tmp 5),none,[]⟩,⟨some 7,.faddr 0 1 false (.tmp 3),none,[]⟩,⟨some 8,.load none (.tmp 7),none,[]⟩,⟨some 9,.bin .sub (.tmp 6) (.tmp 8),none,[]⟩,⟨some 10,.faddr 1 1 false (.tmp 2),none,[]⟩,⟨some 11,.load none (.tmp 10),none,[]⟩,⟨some 12,.faddr 1 1 false (.tmp 3),none,[]⟩,⟨some 13,.load none (.tmp 12),none,[]⟩,⟨some 14,.bin .sub (.tmp 11) (.tmp 13),none,[]⟩,⟨some 15,.faddr 2 1 false (.tmp 2),none,[]⟩,⟨some 16,.load none (.tmp 15),none,[]⟩,⟨some 17,.faddr 2 1 false (.tmp 3),none,[]⟩,⟨some 18,.load none (.tmp 17),none,[]⟩,⟨some 19,.bin .sub (.tmp 16) (.tmp 18),none,[]⟩,⟨some 20,.build [.int .i64 0,.int .i64 0,.int .i64 0] [(0,(1,(.tmp 9))),(1,(1,(.tmp 14))),(2,(1,(.tmp 19)))],none,[]⟩,⟨none,.store 3 (.tmp 4) (.tmp 20),none,[]⟩]) .ret)⟩
theorem dh101 : cProg Go.Proofs.Tryz.prog ⟨[], [], []⟩ 101 = some dc101 := by kernel_rfl
def dc102 : DFunc := ⟨39,2,[.cell 4 (some 3)],.seq (.ops false [⟨some 2,.box 3 (.tmp 0),none,[]⟩,⟨some 3,.box 3 (.tmp 1),none,[]⟩,⟨some 4,.alloc (.agg [.int .i64 0,.int .i64 0,.int .i64 0]) 3,none,[]⟩]) (.seq (.ops false [⟨some 5,.faddr 1 1 false (.tmp 2),none,[]⟩,⟨some 6,.load none (.tmp 5),none,[]⟩,⟨some 7,.faddr 2 1 false (.tmp 3),none,[]⟩,⟨some 8,.load none (.tmp 7),none,[]⟩,⟨some 9,.bin .mul (.tmp 6) (.tmp 8),none,[]⟩,⟨some 10,.faddr 2 1 false (.tmp 2),none,[]⟩,⟨some 11,.load none (.tmp 10),none,[]⟩,⟨some 12,.faddr 1 1 false (.tmp 3),none,[]⟩,⟨some 13,.load none (.tmp 12),none,[]⟩,⟨some 14,.bin .mul (.tmp 11) (.tmp 13),none,[]⟩,⟨some 15,.bin .sub (.tmp 9) (.tmp 14),none,[]⟩,⟨some 16,.faddr 2 1 false (.tmp 2),none,[]⟩,⟨some 17,.load none (.tmp 16),none,[]⟩,⟨some 18,.faddr 0 1 false (.tmp 3),none,[]⟩,⟨some 19,.load none (.tmp 18),none,[]⟩,⟨some 20,.bin .mul (.tmp 17) (.tmp 19),none,[]⟩,⟨some 21,.faddr 0 1 false (.tmp 2),none,[]⟩,⟨some 22,.load none (.tmp 21),none,[]⟩,⟨some 23,.faddr 2 1 false (.tmp 3),none,[]⟩,⟨some 24,.load none (.tmp 23),none,[]⟩,⟨some 25,.bin .mul (.tmp 22) (.tmp 24),none,[]⟩,⟨some 26,.bin .sub (.tmp 20) (.tmp 25),none,[]⟩,⟨some 27,.faddr 0 1 false (.tmp 2),none,[]⟩,⟨some 28,.load none (.tmp 27),none,[]⟩,⟨some 29,.faddr 1 1 false (.tmp 3),none,[]⟩,⟨some 30,.load none (.tmp 29),none,[]⟩,⟨some 31,.bin .mul (.tmp 28) (.tmp 30),none,[]⟩,⟨some 32,.faddr 1 1 false (.tmp 2),none,[]⟩,⟨some 33,.load none (.tmp 32),none,[]⟩,⟨some 34,.faddr 0 1 false (.tmp 3),none,[]⟩,⟨some 35,.load none (.tmp 34),none,[]⟩,⟨some 36,.bin .mul (.tmp 33) (.tmp 35),none,[]⟩,⟨some 37,.bin .sub (.tmp 31) (.tmp 36),none,[]⟩,⟨some 38,.build [.int .i64 0,.int .i64 0,.int .i64 0] [(0,(1,(.tmp 15))),(1,(1,(.tmp 26))),(2,(1,(.tmp 37)))],none,[]⟩,⟨none,.store 3 (.tmp 4) (.tmp 38),none,[]⟩]) .ret)⟩
theorem dh102 : cProg Go.Proofs.Tryz.prog ⟨[], [], []⟩ 102 = some dc102 := by kernel_rfl
end Sh

set_option maxRecDepth 100000
namespace Sh
open Go
def db141_0 : DC := (.seq (.seq (.ops false [⟨some 8,.mov (.tmp 4),none,[]⟩,⟨some 9,.bin .neq (.tmp 8) (.const (.int .i64 0)),none,[]⟩]) (.cond (.tmp 9) .skip (.exit 0))) (.seq (.block 1 none (.ops false [⟨some 12,.mov (.tmp 4),none,[]⟩,⟨some 13,.bin .rem (.tmp 12) (.const (.int .i64 10)),none,[]⟩,⟨some 14,.mov (.tmp 4),none,[]⟩,⟨some 15,.bin .rem (.tmp 14) (.const (.int .i64 10)),none,[]⟩,⟨some 16,.bin .sub (.const (.int .i64 0)) (.tmp 15),none,[]⟩,⟨some 17,.minmax true (.tmp 13) [.tmp 16],none,[]⟩,⟨some 18,.bin .add (.const (.int .i64 48)) (.tmp 17),none,[]⟩,⟨some 19,.conv .u8 (.tmp 18),none,[]⟩,⟨some 20,.lit true 1 1 (.int .u8 0) [(0,(.tmp 19))],none,[]⟩,⟨some 21,.strOf (.tmp 20),none,[]⟩,⟨some 22,.mov (.tmp 3),none,[]⟩,⟨some 23,.bin .add (.tmp 21) (.tmp 22),none,[]⟩,⟨some 3,.mov (.tmp 23),none,[]⟩])) (.ops false [⟨some 10,.mov (.tmp 4),none,[]⟩,⟨some 11,.bin .quo (.tmp 10) (.const (.int .i64 10)),none,[]⟩,⟨some 4,.mov (.tmp 11),none,[]⟩])))
def dk141_0 : Keep := ⟨[],[0,3,4],[]⟩
def dc141 : DFunc := ⟨29,1,[.tmp 2],.seq (.ops false [⟨some 2,.mov (.const (.string ⟨#[]⟩)),none,[]⟩]) (.seq (.seq (.ops false [⟨some 5,.mov (.tmp 0),none,[]⟩,⟨some 6,.bin .eql (.tmp 5) (.const (.int .i64 0)),none,[]⟩]) (.cond (.tmp 6) (.seq (.ops false [⟨some 2,.mov (.const (.string ⟨#[48]⟩)),none,[]⟩]) .ret) .skip)) (.seq (.ops false [⟨some 3,.mov (.const (.string ⟨#[]⟩)),none,[]⟩]) (.seq (.seq (.ops false [⟨some 7,.mov (.tmp 0),none,[]⟩,⟨some 4,.mov (.tmp 7),none,[]⟩]) (.block 0 (some ⟨[],[0,3],[]⟩) (.loop dk141_0 db141_0))) (.seq (.seq (.ops false [⟨some 24,.mov (.tmp 0),none,[]⟩,⟨some 25,.bin .lss (.tmp 24) (.const (.int .i64 0)),none,[]⟩]) (.cond (.tmp 25) (.seq (.ops false [⟨some 26,.mov (.tmp 3),none,[]⟩,⟨some 27,.bin .add (.const (.string ⟨#[45]⟩)) (.tmp 26),none,[]⟩,⟨some 2,.mov (.tmp 27),none,[]⟩]) .ret) .skip)) (.seq (.ops false [⟨some 28,.mov (.tmp 3),none,[]⟩,⟨some 2,.mov (.tmp 28),none,[]⟩]) .ret)))))⟩
theorem dh141 : cProg Go.Proofs.Tryz.prog ⟨[(0, ⟨[], [0, 3, 4], []⟩)], [(0, ⟨[], [0, 3], []⟩)], [20]⟩ 141 = some dc141 := by kernel_rfl
def dc142 : DFunc := ⟨30,1,[.tmp 2,.tmp 3],.seq (.ops false [⟨some 2,.mov (.const (.int .i64 0)),none,[]⟩,⟨some 3,.mov (.const (.bool false)),none,[]⟩]) (.seq (.seq (.ops false [⟨some 6,.mov (.tmp 0),none,[]⟩,⟨some 7,.bin .neq (.tmp 6) (.const (.string ⟨#[]⟩)),none,[]⟩,⟨some 8,.mov (.tmp 7),none,[]⟩,⟨some 9,.mov (.tmp 0),some (8,true),[]⟩,⟨some 10,.indexS (.tmp 9) (.const (.int .i64 0)),some (8,true),[]⟩,⟨some 11,.bin .eql (.tmp 10) (.const (.int .u8 45)),some (8,true),[]⟩,⟨some 12,.pick (.tmp 8) (.tmp 11) (.const (.bool false)),none,[]⟩]) (.cond (.tmp 12) (.seq (.ops false [⟨some 14,.mov (.tmp 0),none,[]⟩,⟨some 15,.sliceS (.tmp 14) (some (.const (.int .i64 1))) none,none,[]⟩,⟨some 16,.call (.func 163) [.tmp 15],none,[]⟩,⟨some 13,.mov (.tmp 16),none,[]⟩,⟨some 17,.extract (.tmp 13) 0,none,[]⟩,⟨some 18,.extract (.tmp 13) 1,none,[]⟩,⟨some 4,.mov (.tmp 17),none,[]⟩,⟨some 5,.mov (.tmp 18),none,[]⟩]) (.seq (.ops false [⟨some 19,.mov (.tmp 4),none,[]⟩,⟨some 20,.bin .sub (.const (.int .i64 0)) (.tmp 19),none,[]⟩,⟨some 21,.mov (.tmp 5),none,[]⟩,⟨some 22,.mov (.tmp 21),none,[]⟩,⟨some 23,.mov (.tmp 4),some (22,true),[]⟩,⟨some 24,.bin .gtr (.tmp 23) (.const (.int .i64 0)),some (22,true),[]⟩,⟨some 25,.pick (.tmp 22) (.tmp 24) (.const (.bool false)),none,[]⟩,⟨some 2,.mov (.tmp 20),none,[]⟩,⟨some 3,.mov (.tmp 25),none,[]⟩]) .ret)) .skip)) (.seq (.ops false [⟨some 26,.mov (.tmp 0),none,[]⟩,⟨some 27,.call (.func 163) [.tmp 26],none,[]⟩,⟨some 28,.extract (.tmp 27) 0,none,[]⟩,⟨some 29,.extract (.tmp 27) 1,none,[]⟩,⟨some 2,.mov (.tmp 28),none,[]⟩,⟨some 3,.mov (.tmp 29),none,[]⟩]) .ret))⟩
theorem dh142 : cProg Go.Proofs.Tryz.prog ⟨[], [], []⟩ 142 = some dc142 := by kernel_rfl
def db163_0 : DC := (.seq (.seq (.ops false [⟨some 23,.mov (.tmp 5),none,[]⟩,⟨some 24,.mov (.tmp 0),none,[]⟩,⟨some 25,.lenS (.tmp 24),none,[]⟩,⟨some 26,.bin .lss (.tmp 23) (.tmp 25),none,[]⟩]) (.cond (.tmp 26) .skip (.exit 0))) (.seq (.block 1 none (.seq (.seq (.ops false [⟨some 29,.mov (.tmp 0),none,[]⟩,⟨some 30,.mov (.tmp 5),none,[]⟩,⟨some 31,.indexS (.tmp 29) (.tmp 30),none,[]⟩,⟨some 32,.bin .lss (.tmp 31) (.const (.int .u8 48)),none,[]⟩,⟨some 33,.mov (.tmp 32),none,[]⟩,⟨some 34,.mov (.tmp 0),some (33,false),[]⟩,⟨some 35,.mov (.tmp 5),some (33,false),[]⟩,⟨some 36,.indexS (.tmp 34) (.tmp 35),some (33,false),[]⟩,⟨some 37,.bin .gtr (.tmp 36) (.const (.int .u8 57)),some (33,false),[]⟩,⟨some 38,.pick (.tmp 33) (.const (.bool true)) (.tmp 37),none,[]⟩]) (.cond (.tmp 38) (.seq (.ops false [⟨some 2,.mov (.const (.int .i64 0)),none,[]⟩,⟨some 3,.mov (.const (.bool false)),none,[]⟩]) .ret) .skip)) (.ops false [⟨some 39,.mov (.tmp 4),none,[]⟩,⟨some 40,.bin .mul (.const (.int .i64 10)) (.tmp 39),none,[]⟩,⟨some 41,.mov (.tmp 0),none,[]⟩,⟨some 42,.mov (.tmp 5),none,[]⟩,⟨some 43,.indexS (.tmp 41) (.tmp 42),none,[]⟩,⟨some 44,.bin .sub (.tmp 43) (.const (.int .u8 48)),none,[]⟩,⟨some 45,.conv .i64 (.tmp 44),none,[]⟩,⟨some 46,.bin .add (.tmp 40) (.tmp 45),none,[]⟩,⟨some 4,.mov (.tmp 46),none,[]⟩]))) (.ops false [⟨some 27,.mov (.tmp 5),none,[]⟩,⟨some 28,.bin .add (.tmp 27) (.const (.int .i64 1)),none,[]⟩,⟨some 5,.mov (.tmp 28),none,[]⟩])))
def dk163_0 : Keep := ⟨[],[0,4,5],[]⟩
def dc163 : DFunc := ⟨48,1,[.tmp 2,.tmp 3],.seq (.ops false [⟨some 2,.mov (.const (.int .i64 0)),none,[]⟩,⟨some 3,.mov (.const (.bool false)),none,[]⟩]) (.seq (.seq (.ops false [⟨some 6,.mov (.tmp 0),none,[]⟩,⟨some 7,.bin .eql (.tmp 6) (.const (.string ⟨#[]⟩)),none,[]⟩,⟨some 8,.mov (.tmp 7),none,[]⟩,⟨some 9,.mov (.tmp 0),some (8,false),[]⟩,⟨some 10,.lenS (.tmp 9),some (8,false),[]⟩,⟨some 11,.bin .gtr (.tmp 10) (.const (.int .i64 9)),some (8,false),[]⟩,⟨some 12,.pick (.tmp 8) (.const (.bool true)) (.tmp 11),none,[]⟩,⟨some 13,.mov (.tmp 12),none,[]⟩,⟨some 14,.mov (.tmp 0),some (13,false),[]⟩,⟨some 15,.lenS (.tmp 14),some (13,false),[]⟩,⟨some 16,.bin .gtr (.tmp 15) (.const (.int .i64 1)),some (13,false),[]⟩,⟨some 17,.mov (.tmp 16),some (13,false),[]⟩,⟨some 18,.mov (.tmp 0),some (17,true),[]⟩,⟨some 19,.indexS (.tmp 18) (.const (.int .i64 0)),some (17,true),[]⟩,⟨some 20,.bin .eql (.tmp 19) (.const (.int .u8 48)),some (17,true),[]⟩,⟨some 21,.pick (.tmp 17) (.tmp 20) (.const (.bool false)),some (13,false),[]⟩,⟨some 22,.pick (.tmp 13) (.const (.bool true)) (.tmp 21),none,[]⟩]) (.cond (.tmp 22) (.seq (.ops false [⟨some 2,.mov (.const (.int .i64 0)),none,[]⟩,⟨some 3,.mov (.const (.bool false)),none,[]⟩]) .ret) .skip)) (.seq (.ops false [⟨some 4,.mov (.const (.int .i64 0)),none,[]⟩]) (.seq (.seq (.ops false [⟨some 5,.mov (.const (.int .i64 0)),none,[]⟩]) (.block 0 (some ⟨[],[4],[]⟩) (.loop dk163_0 db163_0))) (.seq (.ops false [⟨some 47,.mov (.tmp 4),none,[]⟩,⟨some 2,.mov (.tmp 47),none,[]⟩,⟨some 3,.mov (.const (.bool true)),none,[]⟩]) .ret))))⟩
theorem dh163 : cProg Go.Proofs.Tryz.prog ⟨[(0, ⟨[], [0, 4, 5], []⟩)], [(0, ⟨[], [4], []⟩)], []⟩ 163 = some dc163 := by kernel_rfl
end Sh

set_option maxRecDepth 100000
namespace Sh
open Go
def dc19 : DFunc := ⟨5,1,[.tmp 2],.seq (.ops false [⟨some 2,.mov (.const (.slice none 0 0)),none,[]⟩]) (.seq (.ops false [⟨some 3,.mov (.tmp 0),none,[]⟩,⟨some 4,.call (.func 93) [.tmp 3],none,[]⟩,⟨some 2,.mov (.tmp 4),none,[]⟩]) .ret)⟩
theorem dh19 : cProg Go.Proofs.Tryz.prog ⟨[], [], []⟩ 19 = some dc19 := by kernel_rfl
def db21_0 : DC := (.seq (.seq (.ops false [⟨some 19,.mov (.tmp 4),none,[]⟩,⟨some 20,.mov (.tmp 0),none,[]⟩,⟨some 21,.len (.tmp 20),none,[]⟩,⟨some 22,.bin .lss (.tmp 19) (.tmp 21),none,[]⟩]) (.cond (.tmp 22) .skip (.exit 0))) (.seq (.block 1 none (.seq (.ops true [⟨some 25,.mov (.tmp 0),none,[]⟩,⟨some 26,.mov (.tmp 4),none,[]⟩,⟨some 27,.iaddr 3 (.tmp 25) (.tmp 26),none,[0,1]⟩,⟨some 28,.faddr 0 1 false (.tmp 27),none,[2,0,1]⟩,⟨some 29,.load none (.tmp 28),none,[3,2,0,1]⟩,⟨some 30,.call (.func 96) [.tmp 29,.const (.int .i64 (-1000)),.const (.int .i64 1000)],none,[4,3,2,0,1]⟩,⟨some 31,.mov (.tmp 0),none,[]⟩,⟨some 32,.mov (.tmp 4),none,[]⟩,⟨some 33,.iaddr 3 (.tmp 31) (.tmp 32),none,[6,7]⟩,⟨some 34,.faddr 1 1 false (.tmp 33),none,[8,6,7]⟩,⟨some 35,.load none (.tmp 34),none,[9,8,6,7]⟩,⟨some 36,.call (.func 96) [.tmp 35,.const (.int .i64 (-1000)),.const (.int .i64 1000)],none,[10,9,8,6,7,5,4,3,2,0,1]⟩,⟨some 37,.mov (.tmp 0),none,[]⟩,⟨some 38,.mov (.tmp 4),none,[]⟩,⟨some 39,.iaddr 3 (.tmp 37) (.tmp 38),none,[12,13]⟩,⟨some 40,.faddr 2 1 false (.tmp 39),none,[14,12,13]⟩,⟨some 41,.load none (.tmp 40),none,[15,14,12,13]⟩,⟨some 42,.call (.func 96) [.tmp 41,.const (.int .i64 0),.const (.int .i64 1000)],none,[16,15,14,12,13,11,10,9,8,6,7,5,4,3,2,0,1]⟩,⟨some 43,.lit true 1 3 (.int .i64 0) [(0,(.tmp 30)),(1,(.tmp 36)),(2,(.tmp 42))],none,[5,4,3,2,0,1,11,10,9,8,6,7,17,16,15,14,12,13]⟩,⟨some 44,.call (.func 94) [.tmp 43],none,[18,5,4,3,2,0,1,11,10,9,8,6,7,17,16,15,14,12,13]⟩,⟨some 5,.mov (.tmp 44),none,[19,18,5,4,3,2,0,1,11,10,9,8,6,7,17,16,15,14,12,13]⟩]) (.seq (.ops false [⟨some 45,.mov (.tmp 5),none,[]⟩,⟨some 46,.bin .neq (.tmp 45) (.const (.int .i64 0)),none,[]⟩]) (.cond (.tmp 46) (.seq (.ops false [⟨some 47,.mov (.tmp 5),none,[]⟩,⟨some 2,.mov (.tmp 47),none,[]⟩]) .ret) .skip)))) (.ops false [⟨some 23,.mov (.tmp 4),none,[]⟩,⟨some 24,.bin .add (.tmp 23) (.const (.int .i64 1)),none,[]⟩,⟨some 4,.mov (.tmp 24),none,[]⟩])))
def dk21_0 : Keep := ⟨[],[0,4],[14]⟩
def dc21 : DFunc := ⟨52,1,[.tmp 2],.seq (.ops false [⟨some 2,.mov (.const (.int .i64 0)),none,[]⟩]) (.seq (.seq (.ops false [⟨some 6,.mov (.tmp 0),none,[]⟩,⟨some 7,.len (.tmp 6),none,[]⟩,⟨some 8,.bin .lss (.tmp 7) (.const (.int .i64 3)),none,[]⟩,⟨some 9,.call (.func 95) [.tmp 8,.const (.int .i64 16)],none,[]⟩,⟨some 10,.mov (.tmp 0),none,[]⟩,⟨some 11,.len (.tmp 10),none,[]⟩,⟨some 12,.bin .gtr (.tmp 11) (.const (.int .i64 6)),none,[]⟩,⟨some 13,.call (.func 95) [.tmp 12,.const (.int .i64 5)],none,[]⟩,⟨some 14,.lit true 1 2 (.int .i64 0) [(0,(.tmp 9)),(1,(.tmp 13))],none,[]⟩,⟨some 15,.call (.func 94) [.tmp 14],none,[]⟩,⟨some 3,.mov (.tmp 15),none,[]⟩]) (.seq (.ops false [⟨some 16,.mov (.tmp 3),none,[]⟩,⟨some 17,.bin .neq (.tmp 16) (.const (.int .i64 0)),none,[]⟩]) (.cond (.tmp 17) (.seq (.ops false [⟨some 18,.mov (.tmp 3),none,[]⟩,⟨some 2,.mov (.tmp 18),none,[]⟩]) .ret) .skip))) (.seq (.seq (.ops false [⟨some 4,.mov (.const (.int .i64 0)),none,[]⟩]) (.block 0 (some ⟨[],[0],[14]⟩) (.loop dk21_0 db21_0))) (.seq (.ops false [⟨some 48,.mov (.tmp 0),none,[]⟩,⟨some 49,.call (.func 97) [.tmp 48],none,[]⟩,⟨some 50,.un .not (.tmp 49),none,[]⟩,⟨some 51,.call (.func 95) [.tmp 50,.const (.int .i64 1)],none,[]⟩,⟨some 2,.mov (.tmp 51),none,[]⟩]) .ret)))⟩
theorem dh21 : cProg Go.Proofs.Tryz.prog ⟨[(0, ⟨[], [0, 4], [14]⟩)], [(0, ⟨[], [0], [14]⟩)], [14, 43]⟩ 21 = some dc21 := by kernel_rfl
def db24_0 : DC := (.seq (.seq (.ops false [⟨some 8,.mov (.tmp 3),none,[]⟩,⟨some 9,.mov (.tmp 0),none,[]⟩,⟨some 10,.len (.tmp 9),none,[]⟩,⟨some 11,.bin .lss (.tmp 8) (.tmp 10),none,[]⟩]) (.cond (.tmp 11) .skip (.exit 0))) (.seq (.block 1 none (.seq (.ops false [⟨some 14,.mov (.tmp 0),none,[]⟩,⟨some 15,.mov (.tmp 3),none,[]⟩,⟨some 16,.iaddr 1 (.tmp 14) (.tmp 15),none,[]⟩,⟨some 17,.load none (.tmp 16),none,[]⟩,⟨some 18,.call (.func 21) [.tmp 17],none,[]⟩,⟨some 4,.mov (.tmp 18),none,[]⟩]) (.seq (.ops false [⟨some 19,.mov (.tmp 4),none,[]⟩,⟨some 20,.bin .neq (.tmp 19) (.const (.int .i64 0)),none,[]⟩]) (.cond (.tmp 20) (.seq (.ops false [⟨some 21,.mov (.tmp 4),none,[]⟩,⟨some 2,.mov (.tmp 21),none,[]⟩]) .ret) .skip)))) (.ops false [⟨some 12,.mov (.tmp 3),none,[]⟩,⟨some 13,.bin .add (.tmp 12) (.const (.int .i64 1)),none,[]⟩,⟨some 3,.mov (.tmp 13),none,[]⟩])))
def dk24_0 : Keep := ⟨[],[0,3],[]⟩
def dc24 : DFunc := ⟨22,1,[.tmp 2],.seq (.ops false [⟨some 2,.mov (.const (.int .i64 0)),none,[]⟩]) (.seq (.seq (.ops false [⟨some 5,.mov (.tmp 0),none,[]⟩,⟨some 6,.len (.tmp 5),none,[]⟩,⟨some 7,.bin .gtr (.tmp 6) (.const (.int .i64 8)),none,[]⟩]) (.cond (.tmp 7) (.seq (.ops false [⟨some 2,.mov (.const (.int .i64 5)),none,[]⟩]) .ret) .skip)) (.seq (.seq (.ops false [⟨some 3,.mov (.const (.int .i64 0)),none,[]⟩]) (.block 0 (some ⟨[],[],[]⟩) (.loop dk24_0 db24_0))) (.seq (.ops false [⟨some 2,.mov (.const (.int .i64 0)),none,[]⟩]) .ret)))⟩
theorem dh24 : cProg Go.Proofs.Tryz.prog ⟨[(0, ⟨[], [0, 3], []⟩)], [(0, ⟨[], [], []⟩)], []⟩ 24 = some dc24 := by kernel_rfl
end Sh

set_option linter.unusedSimpArgs false
set_option linter.unusedVariables false
namespace Sh
open Go
section
variable {ev : Operand → DV} {lk : Nat → Option DObj} {o kk q i : Nat} {ks : List Nat} {z v : DV} {m k x : Operand} {es : List (DV × DV)}
end
theorem itoa_nat (u : Nat) : Lib.itoa (u : Int) = Lib.decDigits u := by unfold Lib.itoa; rw [if_neg (by omega)]; simp
def txI (n k : Nat) (s : List UInt8) : Prop := Lib.decDigits n = if k = 0 then s else Lib.decDigits k ++ s
theorem txI_step {n k : Nat} {s : List UInt8} (h : txI n k s) (hk : k ≠ 0) : txI n (k / 10) (UInt8.ofNat (48 + k % 10) :: s) := by
 unfold txI at *
 rw [if_neg hk] at h
 by_cases h9 : k < 10
 ·rw [if_pos (by omega), h]
  have e : Lib.decDigits k = [UInt8.ofNat (48 + k)] := by rw [Lib.decDigits, dif_pos h9]
  rw [e, show k % 10 = k by omega]; rfl
 ·rw [if_neg (by omega), h]
  have e : Lib.decDigits k = Lib.decDigits (k / 10) ++ [UInt8.ofNat (48 + k % 10)] := by rw [Lib.decDigits, dif_neg h9]
  rw [e, List.append_assoc]; rfl
theorem glue_glue (p q : List UInt8) (l : List (List UInt8)) : glue p (glue q l) = glue (p ++ q) l := by
 cases l with
 |nil => rfl
 |cons h t => simp [glue]
theorem glue_nil {l : List (List UInt8)} (h : l ≠ []) : glue [] l = l := by
 cases l with
 |nil => exact absurd rfl h
 |cons a t => rfl
theorem splitC_yes {b : UInt8} {s : List UInt8} {i : Nat} (h : i < s.length) (hb : s.getD i 0 = b) (w : List UInt8) : glue w (splitC b (s.drop i)) = w :: splitC b (s.drop (i + 1)) := by
 rw [drop_getD s i 0 h, splitC, if_pos hb]
 simp [glue]
theorem splitC_no {b : UInt8} {s : List UInt8} {i : Nat} (h : i < s.length) (hb : ¬ s.getD i 0 = b) (w : List UInt8) : glue w (splitC b (s.drop i)) = glue (w ++ [s.getD i 0]) (splitC b (s.drop (i + 1))) := by
 rw [drop_getD s i 0 h, splitC, if_neg hb, glue_glue]
theorem window_snoc (s : List UInt8) (f i : Nat) (hf : f ≤ i) (hi : i < s.length) : window s f (i - f) ++ [s.getD i 0] = window s f (i + 1 - f) := by
 unfold window
 rw [show i + 1 - f = (i - f) + 1 by omega, List.take_add_one]
 congr 1
 simp [List.getD_eq_getElem?_getD, hi, show f + (i - f) = i by omega]
end Sh

set_option maxRecDepth 100000
set_option linter.unusedSimpArgs false
set_option linter.unusedVariables false
namespace Sh
open Go Go.Proofs
theorem q_When (b : Bool) (e : Int) : PC 95 [.bool b, DV.int .i64 (e)] (DV.int .i64 (whenE b e)) := by
 refine pureCall_ofR dh95 rfl ?_
 conv => whnf
 refine ⟨fun hb => ?_, fun hb => ?_⟩ <;> try (exact absurd hb (by decide))
 all_goals conv => whnf
 all_goals subst hb; rfl
theorem q_CheckRange (n l h : Int) : PC 96 [DV.int .i64 (n), DV.int .i64 (l), DV.int .i64 (h)] (DV.int .i64 (withE n l h)) := by
 refine pureCall_ofR dh96 rfl ?_
 conv => whnf
 refine ⟨fun hb => ?_, fun hb => ?_⟩ <;> try (exact absurd hb (by decide))
 all_goals conv => whnf
 ·refine .inl ?_
  conv => whnf
  refine ⟨_, q_When .., ?_⟩
  conv => whnf
  exact int_eq (by simp_all [withE, whenE]; split <;> split <;> omega)
 ·refine .inl ?_
  conv => whnf
  refine ⟨_, q_When .., ?_⟩
  conv => whnf
  exact int_eq (by simp_all [withE, whenE])
theorem q_First (l : List Int) (hl : l.length < 4611686018427387904) : PC 94 [iL l] (DV.int .i64 (firstE l)) := by
 refine pureCall_ofR dh94 rfl ?_
 conv => whnf
 refine dwp_loopR (P := Tryz.prog) (G := GC) (k := dk94_0) (b := db94_0) (α := Nat) (fun i => [(0, iL l), (3, DV.int .i64 (i))]) (fun _ => []) (fun i => i ≤ l.length ∧ firstE l = firstE (l.drop i)) (fun i => l.length - i) 0 ⟨rfl, rfl, rfl⟩ ⟨Nat.zero_le _, rfl⟩ ?_
 intro i ⟨h1, h2⟩
 conv => whnf
 refine ⟨fun hb => ?_, fun hb => ?_⟩ <;> try (exact absurd hb (by decide))
 ·have hi : i < l.length := by simpa using hb
  have hd := firstE_drop l i hi
  conv => whnf
  rw [getD_enc _ _ (i) 0 hi]
  refine ⟨idxA hi rfl, ?_⟩
  conv => whnf
  refine ⟨fun hb => ?_, fun hb => ?_⟩ <;> try (exact absurd hb (by decide))
  ·conv => whnf
   rw [getD_enc _ _ (i) 0 hi]
   refine ⟨idxA hi rfl, ?_⟩
   conv => whnf
   exact int_eq (by simp_all)
  ·conv => whnf
   rw [wrap_succ i (by omega)]
   exact ⟨i + 1, rfl, rfl, rfl, ⟨hi, by simp_all⟩, by omega⟩
 ·conv => whnf
  have : i = l.length := by simp at hb; omega
  subst this
  exact int_eq (by rw [h2]; simp [firstE])
end Sh

set_option linter.unusedSimpArgs false
set_option linter.unusedVariables false
namespace Sh
open Go
theorem nrmV_ref (s : List V3) : crsV (subV (s.getD 1 V0) (s.getD 0 V0)) (subV (s.getD 2 V0) (s.getD 0 V0)) = nrmV s := by
 unfold nrmV crsV subV
 simp only [V3.mk.injEq]
 refine ⟨?_, ?_, ?_⟩ <;> grind
end Sh

set_option maxRecDepth 100000
set_option linter.unusedSimpArgs false
set_option linter.unusedVariables false
namespace Sh
open Go Go.Proofs
theorem r_less (a b : V3) (ha : bdV G9 a) (hb : bdV G9 b) : PC 101 [encV a, encV b] (encV (subV a b)) := by
 have e1 := sub_w ha.1 hb.1
 have e2 := sub_w ha.2.1 hb.2.1
 have e3 := sub_w ha.2.2 hb.2.2
 refine pureCall_ofR dh101 rfl ?_
 conv => whnf
 repeat' (first
  |(refine ⟨fun hg => ?_, fun hg => ?_⟩ <;> first | contradiction | (conv => whnf))
  |(refine Or.inl ?_; conv => whnf)
  |(refine And.intro ?_ ?_; kernel_rfl; conv => whnf))
 exact int3_eq e1 e2 e3
theorem r_dot (a b : V3) (ha : bdV G9 a) (hb : bdV G9 b) : PC 99 [encV a, encV b] (DV.int .i64 (dotV a b)) := by
 refine pureCall_ofR dh99 rfl ?_
 conv => whnf
 repeat' (first
  |(refine ⟨fun hg => ?_, fun hg => ?_⟩ <;> first | contradiction | (conv => whnf))
  |(refine Or.inl ?_; conv => whnf)
  |(refine And.intro ?_ ?_; kernel_rfl; conv => whnf))
 exact int_eq (dot_w ha hb)
theorem r_cross (a b : V3) (ha : bdV G9 a) (hb : bdV G9 b) : PC 102 [encV a, encV b] (encV (crsV a b)) := by
 refine pureCall_ofR dh102 rfl ?_
 conv => whnf
 repeat' (first
  |(refine ⟨fun hg => ?_, fun hg => ?_⟩ <;> first | contradiction | (conv => whnf))
  |(refine Or.inl ?_; conv => whnf)
  |(refine And.intro ?_ ?_; kernel_rfl; conv => whnf))
 exact int3_eq (crs_w ha.2.1 hb.2.2 ha.2.2 hb.2.1) (crs_w ha.2.2 hb.1 ha.1 hb.2.2) (crs_w ha.1 hb.2.1 ha.2.1 hb.1)
end Sh

set_option maxRecDepth 100000
set_option linter.unusedSimpArgs false
set_option linter.unusedVariables false
namespace Sh
open Go Go.Proofs
theorem r_normal (s : List V3) (h : OkS s) : PC 98 [shp s] (encV (nrmV s)) := by
 have h3 := h.1
 have b0 := h.at (i := 0) (by omega)
 have b1 := h.at (i := 1) (by omega)
 have b2 := h.at (i := 2) (by omega)
 have k1 := r_less (s.getD 1 V0) (s.getD 0 V0) (bd9 b1 (by decide)) (bd9 b0 (by decide))
 have k2 := r_less (s.getD 2 V0) (s.getD 0 V0) (bd9 b2 (by decide)) (bd9 b0 (by decide))
 have k3 := r_cross _ _ (bd9 (subV_bd b1 b0) (by decide)) (bd9 (subV_bd b2 b0) (by decide))
 refine pureCall_ofR dh98 rfl ?_
 conv => whnf
 repeat' (first
  |(refine ⟨fun hg => ?_, fun hg => ?_⟩ <;> first | contradiction | (conv => whnf))
  |(refine Or.inl ?_; conv => whnf)
  |(rw [getD_enc' _ _ 0 V0 (by decide) (by omega)]; refine ⟨idxB (by decide) (by omega) rfl, ?_⟩; conv => whnf)
  |(rw [getD_enc' _ _ 1 V0 (by decide) (by omega)]; refine ⟨idxB (by decide) (by omega) rfl, ?_⟩; conv => whnf)
  |(rw [getD_enc' _ _ 2 V0 (by decide) (by omega)]; refine ⟨idxB (by decide) (by omega) rfl, ?_⟩; conv => whnf)
  |(refine ⟨_, k1, ?_⟩; conv => whnf)
  |(refine ⟨_, k2, ?_⟩; conv => whnf)
  |(refine ⟨_, k3, ?_⟩; conv => whnf)
  |(refine And.intro ?_ ?_; kernel_rfl; conv => whnf))
 rw [nrmV_ref]; rfl
theorem mod_w2 (i n : Nat) (hn : 0 < n) (hi : i < 1000000000) : (IntKind.i64.wrap ((i : Int) + 2)).tmod (n : Int) = (((i + 2) % n : Nat) : Int) := mod_w i 2 n hn (by omega)
theorem r_convex (s : List V3) (h : OkS s) : PC 97 [shp s] (.bool (flat_ s)) := by
 have e0 : ((s.map encV).length : Int) = s.length := by simp
 have h3 := h.1
 have h6 := h.2.1
 have b0 := h.at (i := 0) (by omega)
 have hn := h.nrm
 refine pureCall_ofR dh97 rfl ?_
 conv => whnf
 repeat' (first
  |(refine ⟨fun hg => ?_, fun hg => ?_⟩ <;> first | contradiction | (conv => whnf))
  |(refine Or.inl ?_; conv => whnf)
  |(refine ⟨_, r_normal _ h, ?_⟩; conv => whnf)
  |(refine And.intro ?_ ?_; kernel_rfl; conv => whnf))
 refine dwp_loopU (P := Tryz.prog) (G := GC) (k := dk97_1) (b := db97_1) (α := Nat) (fun i => [(4, DV.int .i64 (i))]) (fun _ => [(3, .box 3 (encV (nrmV s)))]) (fun i => i ≤ s.length ∧ (List.range i).all (flatI s) = true) (fun i => s.length - i) 0 ⟨Nat.zero_le _, rfl⟩ ?_
 conv => whnf
 refine ⟨rfl, rfl, ?_⟩
 conv => whnf
 refine ⟨rfl, ?_⟩
 intro i ⟨h1, h2⟩
 conv => whnf
 refine ⟨fun hb => ?_, fun hb => ?_⟩
 ·have hi : i < s.length := by simpa using hb
  have bi := h.at hi
  have bs := h.side hi
  have bx := subV_bd (h.aft (i + 1)) (h.aft i)
  have e2 : s.getD ((i + 2) % s.length) V0 = aft s (i + 1) := rfl
  have e1 : s.getD ((i + 1) % s.length) V0 = aft s i := rfl
  have k3 := r_less (aft s i) (s.getD i V0) (bd9 (h.aft i) (by decide)) (bd9 bi (by decide))
  have k4 := r_less (aft s (i + 1)) (aft s i) (bd9 (h.aft (i + 1)) (by decide)) (bd9 (h.aft i) (by decide))
  have k5 := r_less (s.getD i V0) (s.getD 0 V0) (bd9 bi (by decide)) (bd9 b0 (by decide))
  have k6 := r_dot _ _ (bd9 hn (by decide)) (bd9 (subV_bd bi b0) (by decide))
  have k7 := r_cross _ _ (bd9 bs (by decide)) (bd9 bx (by decide))
  have k8 := r_dot _ _ (bd9 hn (by decide)) (bd9 (crsV_bd bs bx) (by decide))
  have hm1 := Nat.mod_lt (i + 1) (show 0 < s.length by omega)
  have hm2 := Nat.mod_lt (i + 2) (show 0 < s.length by omega)
  have hw1 := mod_w1 i s.length (by omega) (by omega)
  have hw2 := mod_w2 i s.length (by omega) (by omega)
  have hI : (List.range (i + 1)).all (flatI s) = flatI s i := by rw [List.range_succ, List.all_append, h2]; simp
  have hF : flatI s i = false → flat_ s = false := fun e => by
   unfold flat_
   rw [List.all_eq_false]
   exact ⟨i, List.mem_range.2 hi, by rw [e]; simp⟩
  clear hb
  conv => whnf
  rw [getD_enc _ _ (i) V0 hi]
  refine ⟨idxA hi rfl, ?_⟩
  conv => whnf
  rw [e0]
  refine ⟨by omega, ?_⟩
  conv => whnf
  rw [hw1]
  rw [getD_enc _ _ ((i + 1) % s.length) V0 hm1]
  refine ⟨idxA hm1 rfl, ?_⟩
  conv => whnf
  rw [e0]
  refine ⟨by omega, ?_⟩
  conv => whnf
  rw [hw2]
  rw [getD_enc _ _ ((i + 2) % s.length) V0 hm2]
  refine ⟨idxA hm2 rfl, ?_⟩
  conv => whnf
  rw [e1, e2]
  repeat' (first
   |(refine ⟨fun hg => ?_, fun hg => ?_⟩ <;> first | contradiction | (conv => whnf))
   |(refine Or.inl ?_; conv => whnf)
   |(refine ⟨_, k3, ?_⟩; conv => whnf)
   |(refine ⟨_, k4, ?_⟩; conv => whnf)
   |(rw [getD_enc' _ _ 0 V0 (by decide) (by omega)]; refine ⟨idxB (by decide) (by omega) rfl, ?_⟩; conv => whnf)
   |(refine ⟨_, k5, ?_⟩; conv => whnf)
   |(refine ⟨_, k6, ?_⟩; conv => whnf)
   |(refine ⟨_, k7, ?_⟩; conv => whnf)
   |(refine ⟨_, k8, ?_⟩; conv => whnf)
   |(refine And.intro ?_ ?_; kernel_rfl; conv => whnf))
  ·have hg := of_decide_eq_true (show decide (dotV (nrmV s) (crsV (sideV s i) (subV (aft s (i + 1)) (aft s i))) ≤ 0) = true from hg)
   show DV.bool false = DV.bool (flat_ s)
   rw [hF (by unfold flatI flatA; rw [decide_eq_false (by omega : ¬ 0 < dotV (nrmV s) (crsV (sideV s i) (subV (aft s (i + 1)) (aft s i)))), Bool.and_false, Bool.false_and])]
  ·have hg2 := of_decide_eq_false (show decide (dotV (nrmV s) (crsV (sideV s i) (subV (aft s (i + 1)) (aft s i))) ≤ 0) = false from hg)
   have hg1 := of_decide_eq_false ‹decide (dotV (nrmV s) (subV (s.getD i V0) (s.getD 0 V0)) ≠ 0) = false›
   have hA : flatA s i = true := by
    unfold flatA
    rw [decide_eq_true (Classical.not_not.1 hg1), decide_eq_true (by omega)]; rfl
   clear hg hg1 hg2
   refine dwp_loopU (P := Tryz.prog) (G := GC) (k := dk97_0) (b := db97_0) (α := Nat) (fun j => [(8, DV.int .i64 (j))]) (fun _ => [(3, .box 3 (encV (nrmV s))), (5, .box 3 (encV (s.getD i V0))), (6, .box 3 (encV (aft s i))), (7, .box 3 (encV (aft s (i + 1))))]) (fun j => j ≤ s.length ∧ (s.take j).all (flatK s i) = true) (fun j => s.length - j) 0 ⟨Nat.zero_le _, rfl⟩ ?_
   conv => whnf
   refine ⟨rfl, rfl, ?_⟩
   conv => whnf
   refine ⟨rfl, ?_⟩
   intro j ⟨j1, j2⟩
   conv => whnf
   refine ⟨fun hb => ?_, fun hb => ?_⟩
   ·have hj : j < s.length := by simpa using hb
    have bj := h.at hj
    have k9 := r_less (s.getD j V0) (s.getD i V0) (bd9 bj (by decide)) (bd9 bi (by decide))
    have k10 := r_cross _ _ (bd9 bs (by decide)) (bd9 (subV_bd bj bi) (by decide))
    have k11 := r_dot _ _ (bd9 hn (by decide)) (bd9 (crsV_bd bs (subV_bd bj bi)) (by decide))
    have hJ : (s.take (j + 1)).all (flatK s i) = flatK s i (s.getD j V0) := by rw [take_snoc s j V0 hj, List.all_append, j2]; simp
    clear hb
    conv => whnf
    repeat' (first
     |(refine ⟨fun hg => ?_, fun hg => ?_⟩ <;> first | contradiction | (conv => whnf))
     |(refine Or.inl ?_; conv => whnf)
     |(refine ⟨_, k3, ?_⟩; conv => whnf)
     |(rw [getD_enc _ _ j V0 hj]; refine ⟨idxA hj rfl, ?_⟩; conv => whnf)
     |(refine ⟨_, k9, ?_⟩; conv => whnf)
     |(refine ⟨_, k10, ?_⟩; conv => whnf)
     |(refine ⟨_, k11, ?_⟩; conv => whnf)
     |(refine And.intro ?_ ?_; kernel_rfl; conv => whnf))
    ·have hg := of_decide_eq_true hg
     show DV.bool false = DV.bool (flat_ s)
     rw [hF (by
      unfold flatI
      have : s.all (flatK s i) = false := by
       rw [List.all_eq_false]
       exact ⟨_, getD_in V0 hj, by unfold flatK; rw [decide_eq_false (by omega)]; simp⟩
      rw [this, Bool.and_false])]
    ·have hg := of_decide_eq_false hg
     rw [wrap_succ j (by omega)]
     exact ⟨j + 1, rfl, rfl, rfl, ⟨hj, by rw [hJ]; exact decide_eq_true (by omega)⟩, by omega⟩
   ·have hj : j = s.length := by have := of_decide_eq_false hb; rw [e0] at this; omega
    rw [hj, List.take_length] at j2
    clear hb
    conv => whnf
    rw [wrap_succ i (by omega)]
    exact ⟨i + 1, rfl, rfl, rfl, ⟨hi, by rw [hI]; unfold flatI; rw [hA, j2]; rfl⟩, by omega⟩
  ·have hg := of_decide_eq_true (show decide (dotV (nrmV s) (subV (s.getD i V0) (s.getD 0 V0)) ≠ 0) = true from ‹decide (dotV (nrmV s) (subV (s.getD i V0) (s.getD 0 V0)) ≠ 0) = !false›)
   show DV.bool false = DV.bool (flat_ s)
   rw [hF (by unfold flatI flatA; rw [decide_eq_false hg, Bool.false_and, Bool.false_and])]
 ·have hi : i = s.length := by have := of_decide_eq_false hb; rw [e0] at this; omega
  rw [hi] at h2
  clear hb
  conv => whnf
  show DV.bool true = DV.bool (flat_ s)
  rw [show flat_ s = true from h2]
end Sh

set_option maxRecDepth 100000
set_option linter.unusedSimpArgs false
set_option linter.unusedVariables false
namespace Sh
open Go Go.Proofs
theorem firstE_skip {a b : Int} (x : Int) (h : ¬ firstE [a, b] ≠ 0) : firstE [a, b, x] = x := by
 obtain ⟨h1, h⟩ := firstE_cons (Classical.not_not.1 h)
 obtain ⟨h2, _⟩ := firstE_cons h
 simp [firstE, h1, h2]
 intro h; exact h.symm
theorem firstE_keep {a b : Int} (x : Int) (h : firstE [a, b] ≠ 0) : firstE [a, b, x] = firstE [a, b] := by
 simp only [firstE] at *
 split
 ·rfl
 ·rename_i ha
  rw [if_neg ha] at h
  split
  ·rfl
  ·rename_i hb; rw [if_neg hb] at h; exact absurd rfl h
theorem map_getD {α : Type} (g : α → Int) (l : List α) (i : Nat) (d : α) (h : i < l.length) : (l.map g).getD i 0 = g (l.getD i d) := by simp [List.getD_eq_getElem?_getD, h]
theorem r_CheckShape (s : List V3) (hl : s.length < 1073741824) : PC 21 [shp s] (DV.int .i64 (chkShp s)) := by
 have e0 : ((s.map encV).length : Int) = s.length := by simp
 refine pureCall_ofR dh21 rfl ?_
 conv => whnf
 repeat' (first
  |(refine ⟨fun hg => ?_, fun hg => ?_⟩ <;> first | contradiction | (conv => whnf))
  |(refine Or.inl ?_; conv => whnf)
  |(refine ⟨_, q_When .., ?_⟩; conv => whnf)
  |(refine ⟨_, q_First [_, _] (by simp), ?_⟩; conv => whnf)
  |(refine And.intro ?_ ?_; kernel_rfl; conv => whnf))
 ·have hg := of_decide_eq_true hg
  rw [e0] at hg
  exact int_eq (by rw [e0]; unfold chkShp sizeS; rw [firstE_keep _ hg, if_pos hg])
 ·have hg := of_decide_eq_false hg
  rw [e0] at hg
  have hsz : sizeS s = firstE (s.map chkCor) := by unfold sizeS; rw [firstE_skip _ hg]
  refine dwp_loopU (P := Tryz.prog) (G := GC) (k := dk21_0) (b := db21_0) (α := Nat) (fun i => [(4, DV.int .i64 (i))]) (fun _ => []) (fun i => i ≤ s.length ∧ firstE (s.map chkCor) = firstE ((s.map chkCor).drop i)) (fun i => s.length - i) 0 ⟨Nat.zero_le _, rfl⟩ ?_
  conv => whnf
  refine ⟨rfl, rfl, ?_⟩
  conv => whnf
  refine ⟨rfl, ?_⟩
  intro i ⟨h1, h2⟩
  conv => whnf
  refine ⟨fun hb => ?_, fun hb => ?_⟩
  ·have hi : i < s.length := by simpa using hb
   have hd := firstE_drop (s.map chkCor) i (by rw [List.length_map]; exact hi)
   rw [map_getD chkCor s i V0 hi] at hd
   clear hb
   conv => whnf
   repeat' (first
    |(refine ⟨fun hg => ?_, fun hg => ?_⟩ <;> first | contradiction | (conv => whnf))
    |(refine Or.inl ?_; conv => whnf)
    |(rw [getD_enc _ _ i V0 hi]; refine ⟨idxA hi rfl, ?_⟩; conv => whnf)
    |(refine ⟨_, q_CheckRange .., ?_⟩; conv => whnf)
    |(refine ⟨_, q_First [_, _, _] (by simp), ?_⟩; conv => whnf)
    |(refine And.intro ?_ ?_; kernel_rfl; conv => whnf))
   ·have hg := of_decide_eq_true (show decide (chkCor (s.getD i V0) ≠ 0) = true from hg)
    rw [if_pos hg] at hd
    exact int_eq (by unfold chkShp; rw [hsz, h2, hd, if_pos hg]; rfl)
   ·have hg := of_decide_eq_false (show decide (chkCor (s.getD i V0) ≠ 0) = false from hg)
    rw [if_neg hg] at hd
    rw [wrap_succ i (by omega)]
    exact ⟨i + 1, rfl, rfl, rfl, ⟨hi, h2.trans hd⟩, by omega⟩
  ·have hi : i = s.length := by have := of_decide_eq_false hb; rw [e0] at this; omega
   rw [hi, List.drop_of_length_le (by rw [List.length_map]; exact Nat.le_refl _)] at h2
   have hz : sizeS s = 0 := hsz.trans h2
   clear hb
   conv => whnf
   repeat' (first
    |(refine ⟨fun hg => ?_, fun hg => ?_⟩ <;> first | contradiction | (conv => whnf))
    |(refine Or.inl ?_; conv => whnf)
    |(refine ⟨_, r_convex s (sizeS_zero hz), ?_⟩; conv => whnf)
    |(refine ⟨_, q_When .., ?_⟩; conv => whnf)
    |(refine And.intro ?_ ?_; kernel_rfl; conv => whnf))
   exact int_eq (by unfold chkShp; rw [if_neg (by omega)])
theorem r_CheckShapes (l : List (List V3)) (hl : l.length < 1073741824) (hs : ∀ s ∈ l, s.length < 1073741824) : PC 24 [shps l] (DV.int .i64 (chkShps l)) := by
 have e0 : ((l.map shp).length : Int) = l.length := by simp
 refine pureCall_ofR dh24 rfl ?_
 conv => whnf
 repeat' (first
  |(refine ⟨fun hg => ?_, fun hg => ?_⟩ <;> first | contradiction | (conv => whnf))
  |(refine Or.inl ?_; conv => whnf)
  |(refine And.intro ?_ ?_; kernel_rfl; conv => whnf))
 ·have hg := of_decide_eq_true hg
  exact int_eq (by unfold chkShps; rw [← e0, if_pos hg])
 ·have hgl := of_decide_eq_false hg
  rw [e0] at hgl
  refine dwp_loopU (P := Tryz.prog) (G := GC) (k := dk24_0) (b := db24_0) (α := Nat) (fun i => [(3, DV.int .i64 (i))]) (fun _ => []) (fun i => i ≤ l.length ∧ firstE (l.map chkShp) = firstE ((l.map chkShp).drop i)) (fun i => l.length - i) 0 ⟨Nat.zero_le _, rfl⟩ ?_
  conv => whnf
  refine ⟨rfl, rfl, ?_⟩
  conv => whnf
  refine ⟨rfl, ?_⟩
  intro i ⟨h1, h2⟩
  conv => whnf
  refine ⟨fun hb => ?_, fun hb => ?_⟩
  ·have hi : i < l.length := by simpa using hb
   have hd := firstE_drop (l.map chkShp) i (by rw [List.length_map]; exact hi)
   rw [map_getD chkShp l i [] hi] at hd
   clear hb
   conv => whnf
   rw [getD_enc _ _ (i) [] hi]
   refine ⟨idxA hi rfl, ?_⟩
   conv => whnf
   repeat' (first
    |(refine ⟨fun hg => ?_, fun hg => ?_⟩ <;> first | contradiction | (conv => whnf))
    |(refine Or.inl ?_; conv => whnf)
    |(refine ⟨_, r_CheckShape _ (hs _ (getD_in [] hi)), ?_⟩; conv => whnf)
    |(refine And.intro ?_ ?_; kernel_rfl; conv => whnf))
   ·have hg2 := of_decide_eq_true ‹decide (chkShp (l.getD i []) ≠ 0) = true›
    rw [if_pos hg2] at hd
    exact int_eq (by unfold chkShps; rw [if_neg hgl, h2, hd])
   ·have hg2 := of_decide_eq_false ‹decide (chkShp (l.getD i []) ≠ 0) = false›
    rw [if_neg hg2] at hd
    rw [wrap_succ i (by omega)]
    exact ⟨i + 1, rfl, rfl, rfl, ⟨hi, h2.trans hd⟩, by omega⟩
  ·have hi : i = l.length := by have := of_decide_eq_false hb; rw [e0] at this; omega
   rw [hi, List.drop_of_length_le (by rw [List.length_map]; exact Nat.le_refl _)] at h2
   conv => whnf
   exact int_eq (by unfold chkShps; rw [if_neg hgl, h2]; rfl)
end Sh

set_option maxRecDepth 100000
set_option linter.unusedSimpArgs false
set_option linter.unusedVariables false
namespace Sh
open Go Go.Proofs
def cpR {α : Type} (enc : α → DV) (l : List α) (i : Nat) : List DV := (l.take i).map enc
theorem cpR_len {α : Type} (enc : α → DV) (l : List α) (i : Nat) (h : i ≤ l.length) : (cpR enc l i).length = i := by simp [cpR]; omega
theorem cpR_succ {α : Type} (enc : α → DV) (l : List α) (i : Nat) (d : α) (h : i < l.length) : cpR enc l (i + 1) = cpR enc l i ++ [enc (l.getD i d)] := take_map_succ _ l i d h
theorem cpR_all {α : Type} (enc : α → DV) (l : List α) : cpR enc l l.length = l.map enc := by unfold cpR; rw [List.take_length]
end Sh

set_option maxRecDepth 100000
set_option linter.unusedSimpArgs false
set_option linter.unusedVariables false
namespace Sh
open Go Go.Proofs
theorem r_Owned (l : List (List V3)) (hl : l.length < 1073741824) (hs : ∀ s ∈ l, s.length < 1073741824) : PC 93 [shps l] (shps l) := by
 have e0 : ((l.map shp).length : Int) = l.length := by simp
 refine pureCall_ofR dh93 rfl ?_
 conv => whnf
 refine dwp_loopU (P := Tryz.prog) (G := GC) (k := dk93_0) (b := db93_0) (α := Nat) (fun i => [(3, .own 3 0 (cpR shp l i).length (cpR shp l i).length), (4, DV.int .i64 (i))]) (fun i => [(3, .row 1 (cpR shp l i) false)]) (fun i => i ≤ l.length) (fun i => l.length - i) 0 (Nat.zero_le _) ?_
 conv => whnf
 refine ⟨rfl, rfl, ?_⟩
 conv => whnf
 refine ⟨rfl, ?_⟩
 intro i h1
 conv => whnf
 refine ⟨fun hb => ?_, fun hb => ?_⟩
 ·have hi : i < l.length := by simpa using hb
  have hln := cpR_len shp l i h1
  have hsl := hs _ (getD_in [] hi)
  clear hb
  conv => whnf
  rw [getD_enc _ _ (i) [] hi]
  refine ⟨idxA hi rfl, ?_⟩
  conv => whnf
  refine ⟨⟨by rw [List.length_map, List.reverse_nil, List.length_nil]; omega, fun e he => by obtain ⟨v, _, rfl⟩ := List.mem_map.1 he; rfl, fun e he => absurd he List.not_mem_nil⟩, ?_⟩
  conv => whnf
  repeat' (first
   |(refine ⟨fun hg => ?_, fun hg => ?_⟩ <;> first | contradiction | (conv => whnf))
   |(refine Or.inl ?_; conv => whnf)
   |(refine ⟨⟨rfl, rfl, rfl, by rw [hln]; simp; omega, fun e he => by simp at he; subst he; rfl⟩, ?_⟩; conv => whnf)
   |(refine And.intro ?_ ?_; kernel_rfl; conv => whnf))
  rw [wrap_succ i (by omega)]
  refine ⟨i + 1, rfl, ?_, ?_, hi, by omega⟩
  ·rw [cpR_succ shp l i [] hi]; rfl
  ·rw [cpR_succ shp l i [] hi]; rfl
 ·have hi : i = l.length := by have := of_decide_eq_false hb; rw [e0] at this; omega
  clear hb
  conv => whnf
  exact ⟨rfl, by rw [window_full, hi, cpR_all]; rfl⟩
theorem l_all (l : List (List V3)) (hl : l.length < 1073741824) (hs : ∀ s ∈ l, s.length < 1073741824) : PC 19 [shps l] (shps l) := by
 have k1 := r_Owned l hl hs
 refine pureCall_ofR dh19 rfl ?_
 conv => whnf
 repeat' (first
  |(refine ⟨fun hg => ?_, fun hg => ?_⟩ <;> first | contradiction | (conv => whnf))
  |(refine Or.inl ?_; conv => whnf)
  |(refine ⟨_, k1, ?_⟩; conv => whnf)
  |(refine And.intro ?_ ?_; kernel_rfl; conv => whnf))
 rfl
end Sh

set_option linter.unusedSimpArgs false
set_option linter.unusedVariables false
namespace Sh
open Go
theorem itoa_neg' {u : Nat} (h : 0 < u) : Lib.itoa (-(u : Int)) = 45 :: Lib.decDigits u := by
 unfold Lib.itoa; rw [if_pos (by omega)]; simp
end Sh

set_option maxRecDepth 100000
set_option linter.unusedSimpArgs false
set_option linter.unusedVariables false
namespace Sh
open Go Go.Proofs
theorem all_not {α : Type} (p : α → Bool) (l : List α) (i : Nat) (d : α) (hi : i < l.length) (h2 : p (l.getD i d) = false) : l.all p = false := by
 rw [List.all_eq_false]
 exact ⟨_, getD_in d hi, by rw [h2]; exact Bool.false_ne_true⟩
theorem q_Digits (s : List UInt8) : PC 163 [.str s] (.tuple [DV.int .i64 ((digS s).1), .bool (digS s).2]) := by
 refine pureCall_ofR dh163 rfl ?_
 conv => whnf
 have e8 : ∀ i : Nat, ((s.getD i 0).toNat : Int) < 256 := fun i => by have := (s.getD i 0).toNat_lt; omega
 repeat' (first
  |(refine ⟨fun hg => ?_, fun hg => ?_⟩ <;> first | contradiction | (conv => whnf))
  |(refine Or.inl ?_; conv => whnf)
  |(refine ⟨⟨by omega, by have := of_decide_eq_true hg; omega⟩, ?_⟩; conv => whnf)
  |(refine And.intro ?_ ?_; kernel_rfl; conv => whnf))
 all_goals (try (
  have hb : badD s = true := by
   unfold badD
   first
   |(rw [show decide (s = []) = true from ‹decide (s = (⟨#[]⟩ : ByteArray).data.toList) = !false›]; rfl)
   |(have h9 := of_decide_eq_true (show decide (9 < (s.length : Int)) = true from ‹(bif false then true else decide (9 < (s.length : Int))) = !false›)
     rw [decide_eq_true (show 9 < s.length by omega), Bool.or_true]; rfl)
   |(have h1 := of_decide_eq_true ‹decide (1 < (s.length : Int)) = true›
     have h2 : ((s.getD 0 0).toNat : Int) = 48 := of_decide_eq_true hg
     have h3 : s.getD 0 0 = 48 := UInt8.toNat_inj.1 (by have : (48 : UInt8).toNat = 48 := rfl; omega)
     rw [decide_eq_true (show 1 < s.length by omega), decide_eq_true h3, Bool.and_self, Bool.or_true])
  show DV.tuple [DV.int .i64 (0), .bool false] = _
  unfold digS
  rw [hb]
  rfl))
 all_goals
  have hb : badD s = false := by
   unfold badD
   have h0 : s ≠ [] := fun e => by
    have := of_decide_eq_false (show decide (s = []) = false from ‹decide (s = (⟨#[]⟩ : ByteArray).data.toList) = false›)
    exact this e
   have h9 := of_decide_eq_false (show decide (9 < (s.length : Int)) = false from ‹(bif false then true else decide (9 < (s.length : Int))) = false›)
   rw [decide_eq_false h0, decide_eq_false (show ¬ 9 < s.length by omega)]
   first
   |(have h1 := of_decide_eq_false (show decide (1 < (s.length : Int)) = false from ‹decide (1 < (s.length : Int)) = !true›)
     rw [decide_eq_false (show ¬ 1 < s.length by omega)]; rfl)
   |(have h2 : ¬ ((s.getD 0 0).toNat : Int) = 48 := of_decide_eq_false hg
     have h3 : ¬ s.getD 0 0 = 48 := fun e => h2 (by rw [e]; rfl)
     rw [decide_eq_false h3, Bool.and_false]; rfl)
 all_goals
  have h9 : s.length ≤ 9 := by
   have h9 := of_decide_eq_false (show decide (9 < (s.length : Int)) = false from ‹(bif false then true else decide (9 < (s.length : Int))) = false›)
   omega
  have hdig : digS s = if s.all isD then (valD s 0, true) else (0, false) := by
   unfold digS
   rw [hb]
   cases s.all isD <;> rfl
  rw [hdig]
  clear hg hb hdig
  refine dwp_loopR (P := Tryz.prog) (G := GC) (k := dk163_0) (b := db163_0) (α := Nat) (fun i => [(0, .str s), (4, DV.int .i64 (valD (s.take i) 0)), (5, DV.int .i64 (i))]) (fun _ => []) (fun i => i ≤ s.length ∧ (s.take i).all isD = true) (fun i => s.length - i) 0 ⟨rfl, rfl, rfl⟩ ⟨Nat.zero_le _, rfl⟩ ?_
  intro i ⟨h1, h2⟩
  have hvb := valD_bd (s.take i) 0 0 h2 (Int.le_refl _) (by decide)
  have hpow : (10 : Int) ^ (0 + (s.take i).length) ≤ 10 ^ 9 := by
   have hl : (s.take i).length ≤ 9 := by simp; omega
   have := Nat.pow_le_pow_right (n := 10) (by decide) (show 0 + (s.take i).length ≤ 9 by omega)
   exact_mod_cast this
  have h10 : (10 : Int) ^ 9 = 1000000000 := by decide
  conv => whnf
  refine ⟨fun hb => ?_, fun hb => ?_⟩
  ·have hi : i < s.length := by have := of_decide_eq_true hb; omega
   clear hb
   conv => whnf
   repeat' (first
    |(refine ⟨fun hg => ?_, fun hg => ?_⟩ <;> first | contradiction | (conv => whnf))
    |(refine Or.inl ?_; conv => whnf)
    |(refine ⟨⟨by omega, by omega⟩, ?_⟩; conv => whnf)
    |(refine And.intro ?_ ?_; kernel_rfl; conv => whnf))
   all_goals (try (
    have hn : isD (s.getD i 0) = false := by
     unfold isD
     first
     |(have hq : 57 < ((s.getD i 0).toNat : Int) := of_decide_eq_true hg
       rw [decide_eq_false (show ¬ (s.getD i 0).toNat ≤ 57 by omega), Bool.and_false])
     |(have hq : ((s.getD i 0).toNat : Int) < 48 := of_decide_eq_true ‹decide (((s.getD ((i : Int)).toNat 0).toNat : Int) < 48) = !false›
       rw [decide_eq_false (show ¬ 48 ≤ (s.getD i 0).toNat by omega), Bool.false_and])
    rw [all_not isD s i 0 hi hn]
    rfl))
   have hq1 : ¬ 57 < ((s.getD i 0).toNat : Int) := of_decide_eq_false hg
   have hq2 : ¬ ((s.getD i 0).toNat : Int) < 48 := of_decide_eq_false ‹decide (((s.getD ((i : Int)).toNat 0).toNat : Int) < 48) = false›
   have hn : isD (s.getD i 0) = true := by
    unfold isD
    rw [decide_eq_true (show 48 ≤ (s.getD i 0).toNat by omega), decide_eq_true (show (s.getD i 0).toNat ≤ 57 by omega)]; rfl
   have hv : valD (s.take (i + 1)) 0 = 10 * valD (s.take i) 0 + (((s.getD i 0).toNat : Int) - 48) := by
    rw [take_snoc s i 0 hi, valD_append]; rfl
   have w8 : IntKind.u8.wrap (((s.getD i 0).toNat : Int) - 48) = ((s.getD i 0).toNat : Int) - 48 := by
    generalize (s.getD i 0).toNat = c at *
    unfold IntKind.wrap
    simp [IntKind.signed, IntKind.bits]
    omega
   have hval : IntKind.i64.wrap (IntKind.i64.wrap (10 * valD (s.take i) 0) + IntKind.i64.wrap (IntKind.u8.wrap (((s.getD i 0).toNat : Int) - 48))) = valD (s.take (i + 1)) 0 := by
    rw [hv, w8, wrap_W, wrap_W, wrap_W, W_in (n := 10 * valD (s.take i) 0) (by omega) (by omega), W_in (n := ((s.getD i 0).toNat : Int) - 48) (by omega) (by omega), W_in (by omega) (by omega)]
   rw [wrap_succ i (by omega)]
   refine ⟨i + 1, rfl, congrArg (fun n => [(0, DV.str s), (4, DV.int .i64 (n)), (5, DV.int .i64 (((i + 1 : Nat) : Int)))]) hval, rfl, ⟨hi, all_take isD s i 0 hi h2 hn⟩, by omega⟩
  ·have hi : i = s.length := by have := of_decide_eq_false hb; omega
   rw [hi, List.take_length] at h2
   clear hb
   rw [h2, hi, List.take_length]
   conv => whnf
   rfl
theorem q_Split (s : List UInt8) (b : UInt8) (hs : s.length < 1073741824) : PC 83 [.str s, .int .u8 (b.toNat)] (.list ((splitC b s).map DV.str)) := by
 refine pureCall_ofR dh83 rfl ?_
 conv => whnf
 refine dwp_loopR (P := Tryz.prog) (G := GC) (k := dk83_0) (b := db83_0) (α := List (List UInt8) × Nat × Nat) (fun a => [(0, .str s), (1, .int .u8 (b.toNat)), (5, .own 5 0 (a.1.map DV.str).length (a.1.map DV.str).length), (6, DV.int .i64 ((a.2.1 : Nat))), (7, DV.int .i64 ((a.2.2 : Nat)))]) (fun a => [(5, .row 1 (a.1.map DV.str) false)]) (fun a => a.1.length ≤ a.2.2 ∧ a.2.1 ≤ a.2.2 ∧ a.2.2 ≤ s.length ∧ splitC b s = a.1 ++ glue (window s a.2.1 (a.2.2 - a.2.1)) (splitC b (s.drop a.2.2))) (fun a => s.length - a.2.2) ([], 0, 0) ⟨rfl, rfl, rfl⟩ ⟨Nat.le_refl _, Nat.le_refl _, Nat.zero_le _, (glue_nil (splitC_ne b s)).symm⟩ ?_
 intro ⟨O, f, i⟩ ⟨h0, h1, h2, h3⟩
 have h0 : O.length ≤ i := h0
 have h1 : f ≤ i := h1
 have h2 : i ≤ s.length := h2
 have h3 : splitC b s = O ++ glue (window s f (i - f)) (splitC b (s.drop i)) := h3
 dsimp only
 conv => whnf
 refine ⟨fun hb => ?_, fun hb => ?_⟩
 ·have hi : i < s.length := by have : (i : Int) < s.length := of_decide_eq_true hb; omega
  clear hb
  conv => whnf
  refine ⟨⟨by omega, by omega⟩, ?_⟩
  conv => whnf
  refine ⟨fun hq => ?_, fun hq => ?_⟩
  ·have hq : ((s.getD i 0).toNat : Int) = (b.toNat : Int) := of_decide_eq_true hq
   have hq : s.getD i 0 = b := UInt8.toNat_inj.1 (by omega)
   conv => whnf
   refine ⟨⟨by omega, by omega, by omega⟩, ?_⟩
   conv => whnf
   rw [show Int.toNat ((i : Int) - (f : Int)) = i - f by omega, Int.toNat_natCast]
   refine ⟨⟨rfl, rfl, rfl, by simp; omega, fun e he => by simp at he; subst he; rfl⟩, ?_⟩
   conv => whnf
   rw [wrap_succ i (by omega)]
   have hO : (O ++ [window s f (i - f)]).map DV.str = O.map DV.str ++ [DV.str (window s f (i - f))] := by simp
   refine ⟨(O ++ [window s f (i - f)], i + 1, i + 1), rfl, ?_, ?_, ⟨?_, Nat.le_refl _, hi, ?_⟩, ?_⟩
   ·dsimp only; rw [hO]; rfl
   ·dsimp only; rw [hO]; rfl
   ·show (O ++ [window s f (i - f)]).length ≤ i + 1; simp; omega
   ·show splitC b s = (O ++ [window s f (i - f)]) ++ glue (window s (i + 1) (i + 1 - (i + 1))) (splitC b (s.drop (i + 1)))
    rw [h3, splitC_yes hi hq, Nat.sub_self]
    have e1 : window s (i + 1) 0 = [] := by simp [window]
    rw [e1, glue_nil (splitC_ne _ _)]
    simp
   ·show s.length - (i + 1) < s.length - i; omega
  ·have hq : ¬ ((s.getD i 0).toNat : Int) = (b.toNat : Int) := of_decide_eq_false hq
   have hq : ¬ s.getD i 0 = b := fun e => hq (by rw [e])
   conv => whnf
   rw [wrap_succ i (by omega)]
   refine ⟨(O, f, i + 1), rfl, rfl, rfl, ⟨?_, ?_, hi, ?_⟩, ?_⟩
   ·show O.length ≤ i + 1; omega
   ·show f ≤ i + 1; omega
   ·show splitC b s = O ++ glue (window s f (i + 1 - f)) (splitC b (s.drop (i + 1)))
    rw [h3, splitC_no hi hq, window_snoc s f i h1 hi]
   ·show s.length - (i + 1) < s.length - i; omega
 ·have hi : i = s.length := by have : ¬ (i : Int) < s.length := of_decide_eq_false hb; omega
  clear hb
  conv => whnf
  refine ⟨⟨by omega, by omega, by omega⟩, ?_⟩
  conv => whnf
  rw [show Int.toNat ((s.length : Int) - (f : Int)) = s.length - f by omega, Int.toNat_natCast]
  refine ⟨⟨rfl, rfl, rfl, by simp; omega, fun e he => by simp at he; subst he; rfl⟩, ?_⟩
  conv => whnf
  refine ⟨rfl, ?_⟩
  rw [window_full]
  have hO : (O ++ [window s f (s.length - f)]).map DV.str = O.map DV.str ++ [DV.str (window s f (s.length - f))] := by simp
  have hS : splitC b s = O ++ [window s f (s.length - f)] := by
   rw [h3, hi, List.drop_length]
   simp [splitC, glue]
  rw [hS, hO]
  rfl
theorem q_Text (n : Nat) (h : n < 4611686018427387904) : PC 141 [DV.int .i64 (n)] (.str (Lib.itoa n)) := by
 refine pureCall_ofR dh141 rfl ?_
 conv => whnf
 refine ⟨fun hg => ?_, fun hg => ?_⟩
 ·have hg : (n : Int) = 0 := of_decide_eq_true hg
  conv => whnf
  have e : n = 0 := by omega
  rw [e, itoa_nat, Lib.decDigits, dif_pos (by decide)]
  rfl
 ·have hg : ¬ (n : Int) = 0 := of_decide_eq_false hg
  conv => whnf
  rw [itoa_nat]
  refine dwp_loopR (P := Tryz.prog) (G := GC) (k := dk141_0) (b := db141_0) (α := Nat × List UInt8) (fun a => [(0, DV.int .i64 (n)), (3, .str a.2), (4, DV.int .i64 ((a.1 : Nat)))]) (fun _ => []) (fun a => a.1 + a.2.length ≤ n ∧ txI n a.1 a.2) (fun a => a.1) (n, []) ⟨rfl, rfl, rfl⟩ ⟨Nat.le_of_eq (Nat.add_zero _), by unfold txI; rw [if_neg (by omega), List.append_nil]⟩ ?_
  intro ⟨k, s⟩ ⟨h1, h2⟩
  have h1 : k + s.length ≤ n := h1
  have h2 : txI n k s := h2
  conv => whnf
  refine ⟨fun hb => ?_, fun hb => ?_⟩
  ·have hk : ¬ (k : Int) = 0 := of_decide_eq_true hb
   have em : ((((k, s) : Nat × List UInt8).fst : Nat) : Int).tmod 10 = ((k % 10 : Nat) : Int) := by
    show ((k : Int)).tmod 10 = _
    rw [Int.tmod_eq_emod_of_nonneg (by omega)]; omega
   have eq : IntKind.i64.wrap (((((k, s) : Nat × List UInt8).fst : Nat) : Int).tdiv 10) = ((k / 10 : Nat) : Int) := by
    show IntKind.i64.wrap ((k : Int).tdiv 10) = _
    rw [Int.tdiv_eq_ediv_of_nonneg (by omega), wrap_W, W_in (by omega) (by omega)]; omega
   clear hb
   conv => whnf
   repeat' (first
    |(refine ⟨fun hg => ?_, fun hg => ?_⟩ <;> first | contradiction | (conv => whnf))
    |(refine Or.inl ?_; conv => whnf)
    |(refine ⟨by decide, ?_⟩; conv => whnf)
    |(refine And.intro ?_ ?_; kernel_rfl; conv => whnf))
   have ex : IntKind.u8.wrap (IntKind.i64.wrap (48 + minmaxI true (((((k, s) : Nat × List UInt8).fst : Nat) : Int).tmod 10) (IntKind.i64.wrap (0 - ((((k, s) : Nat × List UInt8).fst : Nat) : Int).tmod 10)))) = ((48 + k % 10 : Nat) : Int) := by
    rw [em]
    have e1 : IntKind.i64.wrap (0 - ((k % 10 : Nat) : Int)) = -((k % 10 : Nat) : Int) := by rw [wrap_W, W_in (by omega) (by omega)]; omega
    have e2 : minmaxI true ((k % 10 : Nat) : Int) (-((k % 10 : Nat) : Int)) = ((k % 10 : Nat) : Int) := by
     unfold minmaxI
     show (if -((k % 10 : Nat) : Int) > ((k % 10 : Nat) : Int) then _ else _) = _
     rw [if_neg (by omega)]
    rw [e1, e2, show IntKind.i64.wrap (48 + ((k % 10 : Nat) : Int)) = ((48 + k % 10 : Nat) : Int) by rw [wrap_W, W_in (by omega) (by omega)]; omega]
    have h57 : 48 + k % 10 < 256 := by omega
    unfold IntKind.wrap
    simp [IntKind.signed, IntKind.bits]
    omega
   rw [ex]
   refine ⟨fun e he => by simp at he; subst he; rfl, ?_⟩
   conv => whnf
   refine ⟨by show 1 + s.length ≤ 9223372036854775807; omega, ?_⟩
   conv => whnf
   refine ⟨by decide, ?_⟩
   conv => whnf
   rw [eq]
   refine ⟨(k / 10, UInt8.ofNat (48 + k % 10) :: s), rfl, ?_, rfl, ⟨?_, txI_step h2 (by omega)⟩, ?_⟩
   ·rfl
   ·show k / 10 + (s.length + 1) ≤ n; omega
   ·show k / 10 < k; omega
  ·have hk : k = 0 := by have := of_decide_eq_false hb; simpa using this
   subst hk
   clear hb
   conv => whnf
   refine ⟨fun hq => ?_, fun hq => ?_⟩
   ·have := of_decide_eq_true hq; omega
   ·conv => whnf
    unfold txI at h2
    rw [if_pos rfl] at h2
    rw [h2]; rfl
theorem q_TextN (n : Nat) (h0 : 0 < n) (h : n < 4611686018427387904) : PC 141 [DV.int .i64 (-(n : Int))] (.str (Lib.itoa (-(n : Int)))) := by
 refine pureCall_ofR dh141 rfl ?_
 conv => whnf
 refine ⟨fun hg => ?_, fun hg => ?_⟩
 ·have hg : -(n : Int) = 0 := of_decide_eq_true hg
  omega
 ·clear hg
  conv => whnf
  rw [itoa_neg' h0]
  refine dwp_loopR (P := Tryz.prog) (G := GC) (k := dk141_0) (b := db141_0) (α := Nat × List UInt8) (fun a => [(0, DV.int .i64 (-(n : Int))), (3, .str a.2), (4, DV.int .i64 (-((a.1 : Nat) : Int)))]) (fun _ => []) (fun a => a.1 + a.2.length ≤ n ∧ txI n a.1 a.2) (fun a => a.1) (n, []) ⟨rfl, rfl, rfl⟩ ⟨Nat.le_of_eq (Nat.add_zero _), by unfold txI; rw [if_neg (by omega), List.append_nil]⟩ ?_
  intro ⟨k, s⟩ ⟨h1, h2⟩
  have h1 : k + s.length ≤ n := h1
  have h2 : txI n k s := h2
  conv => whnf
  refine ⟨fun hb => ?_, fun hb => ?_⟩
  ·have hk : ¬ -(k : Int) = 0 := of_decide_eq_true hb
   have em : (-((((k, s) : Nat × List UInt8).fst : Nat) : Int)).tmod 10 = -((k % 10 : Nat) : Int) := by
    show (-(k : Int)).tmod 10 = _
    rw [Int.neg_tmod, Int.tmod_eq_emod_of_nonneg (by omega)]; omega
   have eq : IntKind.i64.wrap ((-((((k, s) : Nat × List UInt8).fst : Nat) : Int)).tdiv 10) = -((k / 10 : Nat) : Int) := by
    show IntKind.i64.wrap ((-(k : Int)).tdiv 10) = _
    rw [Int.neg_tdiv, Int.tdiv_eq_ediv_of_nonneg (by omega), wrap_W, W_in (by omega) (by omega)]; omega
   clear hb
   conv => whnf
   repeat' (first
    |(refine ⟨fun hg => ?_, fun hg => ?_⟩ <;> first | contradiction | (conv => whnf))
    |(refine Or.inl ?_; conv => whnf)
    |(refine ⟨by decide, ?_⟩; conv => whnf)
    |(refine And.intro ?_ ?_; kernel_rfl; conv => whnf))
   have ex : IntKind.u8.wrap (IntKind.i64.wrap (48 + minmaxI true ((-((((k, s) : Nat × List UInt8).fst : Nat) : Int)).tmod 10) (IntKind.i64.wrap (0 - (-((((k, s) : Nat × List UInt8).fst : Nat) : Int)).tmod 10)))) = ((48 + k % 10 : Nat) : Int) := by
    rw [em]
    have e1 : IntKind.i64.wrap (0 - -((k % 10 : Nat) : Int)) = ((k % 10 : Nat) : Int) := by rw [wrap_W, W_in (by omega) (by omega)]; omega
    have e2 : minmaxI true (-((k % 10 : Nat) : Int)) ((k % 10 : Nat) : Int) = ((k % 10 : Nat) : Int) := by
     unfold minmaxI
     show (if ((k % 10 : Nat) : Int) > -((k % 10 : Nat) : Int) then _ else _) = _
     split <;> omega
    rw [e1, e2, show IntKind.i64.wrap (48 + ((k % 10 : Nat) : Int)) = ((48 + k % 10 : Nat) : Int) by rw [wrap_W, W_in (by omega) (by omega)]; omega]
    have h57 : 48 + k % 10 < 256 := by omega
    unfold IntKind.wrap
    simp [IntKind.signed, IntKind.bits]
    omega
   rw [ex]
   refine ⟨fun e he => by simp at he; subst he; rfl, ?_⟩
   conv => whnf
   refine ⟨by show 1 + s.length ≤ 9223372036854775807; omega, ?_⟩
   conv => whnf
   refine ⟨by decide, ?_⟩
   conv => whnf
   rw [eq]
   refine ⟨(k / 10, UInt8.ofNat (48 + k % 10) :: s), rfl, ?_, rfl, ⟨?_, txI_step h2 (by omega)⟩, ?_⟩
   ·rfl
   ·show k / 10 + (s.length + 1) ≤ n; omega
   ·show k / 10 < k; omega
  ·have hk : k = 0 := by have := of_decide_eq_false hb; simp at this; omega
   subst hk
   clear hb
   unfold txI at h2
   rw [if_pos rfl] at h2
   conv => whnf
   refine ⟨fun hq => ?_, fun hq => ?_⟩
   ·conv => whnf
    repeat' (first
     |(refine ⟨fun hg => ?_, fun hg => ?_⟩ <;> first | contradiction | (conv => whnf))
     |(refine Or.inl ?_; conv => whnf)
     |(refine ⟨by show 1 + s.length ≤ 9223372036854775807; omega, ?_⟩; conv => whnf)
     |(refine And.intro ?_ ?_; kernel_rfl; conv => whnf))
    rw [h2]; rfl
   ·have := of_decide_eq_false hq; omega
theorem q_TextZ (n : Int) (h1 : -4611686018427387904 < n) (h2 : n < 4611686018427387904) : PC 141 [DV.int .i64 (n)] (.str (Lib.itoa n)) := by
 by_cases hn : 0 ≤ n
 ·obtain ⟨u, rfl⟩ := Int.eq_ofNat_of_zero_le hn
  exact q_Text u (by omega)
 ·obtain ⟨u, rfl⟩ : ∃ u : Nat, n = -(u : Int) := ⟨n.natAbs, by omega⟩
  exact q_TextN u (by omega) (by omega)
theorem digS_bd (s : List UInt8) : 0 ≤ (digS s).1 ∧ (digS s).1 ≤ 999999999 := by
 cases h : (digS s).2 with
 |false =>
  have : (digS s).1 = 0 := by
   unfold digS at h ⊢
   split
   ·rfl
   ·rename_i h1; rw [if_neg h1] at h; cases h
  omega
 |true =>
  obtain ⟨h1, h2, h3, h4, h5⟩ := digS_true h
  have := valD_bd s 0 0 h1 (Int.le_refl _) (by decide)
  have hp : (10 : Int) ^ (0 + s.length) ≤ 10 ^ 9 := by
   have : (10 : Nat) ^ (0 + s.length) ≤ 10 ^ 9 := Nat.pow_le_pow_right (by decide) (by omega)
   exact_mod_cast this
  have hp9 : (10 : Int) ^ 9 = 1000000000 := by decide
  rw [h5]; omega
theorem q_Signed (s : List UInt8) (hs : s.length < 1073741824) : PC 142 [.str s] (.tuple [DV.int .i64 ((sgnS s).1), .bool (sgnS s).2]) := by
 have hb := digS_bd (s.drop 1)
 have h48 : (45 : UInt8).toNat = 45 := rfl
 refine pureCall_ofR dh142 rfl ?_
 conv => whnf
 refine ⟨fun hg => ?_, fun hg => ?_⟩
 ·have h0 : s ≠ [] := of_decide_eq_true hg
  have hl := List.length_pos_iff.2 h0
  clear hg
  conv => whnf
  refine ⟨⟨by decide, by omega⟩, ?_⟩
  conv => whnf
  refine ⟨fun hg => ?_, fun hg => ?_⟩
  ·have h45 : ((s.getD 0 0).toNat : Int) = 45 := of_decide_eq_true hg
   have h45 : s.getD 0 0 = 45 := UInt8.toNat_inj.1 (by omega)
   have hsg : sgnS s = (0 - (digS (s.drop 1)).1, (digS (s.drop 1)).2 && decide (0 < (digS (s.drop 1)).1)) := by unfold sgnS; rw [if_pos h45]
   rw [hsg]
   clear hg
   conv => whnf
   refine ⟨⟨by omega, by omega, by omega⟩, ?_⟩
   rw [show Int.toNat ((s.length : Int) - 1) = s.length - 1 by omega, show Int.toNat 1 = 1 from rfl, window_drop s 1]
   have hwr : IntKind.i64.wrap (0 - (digS (s.drop 1)).1) = 0 - (digS (s.drop 1)).1 := wrap_in (by omega) (by omega)
   repeat' (first
    |(refine ⟨fun hg => ?_, fun hg => ?_⟩ <;> first | contradiction | (conv => whnf))
    |(refine Or.inl ?_; conv => whnf)
    |(refine ⟨_, q_Digits (s.drop 1), ?_⟩; conv => whnf)
    |(refine And.intro ?_ ?_; kernel_rfl; conv => whnf))
   ·rw [hwr]
    have hg : (digS (s.drop 1)).2 = true := hg
    rw [hg]; rfl
   ·rw [hwr]
    have hg : (digS (s.drop 1)).2 = false := hg
    rw [hg]; rfl
  ·have h45 : ¬ ((s.getD 0 0).toNat : Int) = 45 := of_decide_eq_false hg
   have h45 : ¬ s.getD 0 0 = 45 := fun e => h45 (by rw [e]; rfl)
   have hsg : sgnS s = digS s := by unfold sgnS; rw [if_neg h45]
   rw [hsg]
   clear hg
   conv => whnf
   repeat' (first
    |(refine ⟨fun hg => ?_, fun hg => ?_⟩ <;> first | contradiction | (conv => whnf))
    |(refine Or.inl ?_; conv => whnf)
    |(refine ⟨_, q_Digits s, ?_⟩; conv => whnf)
    |(refine And.intro ?_ ?_; kernel_rfl; conv => whnf))
   rfl
 ·have h0 : s = [] := Classical.not_not.1 (of_decide_eq_false hg)
  subst h0
  conv => whnf
  repeat' (first
   |(refine ⟨fun hg => ?_, fun hg => ?_⟩ <;> first | contradiction | (conv => whnf))
   |(refine Or.inl ?_; conv => whnf)
   |(refine ⟨_, q_Digits [], ?_⟩; conv => whnf)
   |(refine And.intro ?_ ?_; kernel_rfl; conv => whnf))
  rfl
end Sh

set_option linter.unusedSimpArgs false
set_option linter.unusedVariables false
namespace Sh
open Go
theorem vecs_take : ∀ (l : List Int) (j : Nat), 3 * j + 2 < l.length → vecs (l.take (3 * (j + 1))) = vecs (l.take (3 * j)) ++ [⟨l.getD (3 * j) 0, l.getD (3 * j + 1) 0, l.getD (3 * j + 2) 0⟩]
 |[], j, h => by simp at h
 |[x], j, h => by simp at h
 |[x, y], j, h => by have : 3 * j + 2 < 2 := h; omega
 |x :: y :: z :: r, 0, h => by simp [vecs]
 |x :: y :: z :: r, j + 1, h => by
  have ih := vecs_take r j (by simp at h; omega)
  rw [show 3 * (j + 1 + 1) = (3 * (j + 1)) + 1 + 1 + 1 by omega, show 3 * (j + 1) = 3 * j + 1 + 1 + 1 by omega]
  simp only [List.take_succ_cons, vecs, List.getD_cons_succ, List.cons_append]
  rw [show 3 * j + 1 + 1 + 1 = 3 * (j + 1) by omega, ih]
end Sh

set_option maxRecDepth 100000
set_option linter.unusedSimpArgs false
set_option linter.unusedVariables false
namespace Sh
open Go Go.Proofs
theorem r_Print (l : List (List V3)) (h8 : l.length ≤ 8) (hs : ∀ s ∈ l, OkS s) : PC 77 [shps l] (.str (prtH l)) := by
 have e0 : ((l.map shp).length : Int) = l.length := by simp
 refine pureCall_ofR dh77 rfl ?_
 conv => whnf
 refine dwp_loopU (P := Tryz.prog) (G := GC) (k := dk77_1) (b := db77_1) (α := Nat) (fun i => [(3, .str (prtH (l.take i))), (4, DV.int .i64 (i))]) (fun _ => []) (fun i => i ≤ l.length) (fun i => l.length - i) 0 (Nat.zero_le _) ?_
 conv => whnf
 refine ⟨rfl, rfl, ?_⟩
 conv => whnf
 refine ⟨rfl, ?_⟩
 intro i h1
 have hpl := prtH_len (l := l.take i) (by simp; omega) (fun c hc => hs c (List.mem_of_mem_take hc))
 have hpl2 : (l.take i).length ≤ 8 := by simp; omega
 conv => whnf
 refine ⟨fun hb => ?_, fun hb => ?_⟩
 ·have hi : i < l.length := by simpa using hb
  have hS := hs _ (getD_in [] hi)
  have hs6 := hS.2.1
  have hsu := prtH_succ l i hi
  generalize hss : l.getD i [] = s at hS hs6 hsu
  have e1 : ((s.map encV).length : Int) = s.length := by simp
  clear hb
  conv => whnf
  refine ⟨by show (prtH (l.take i)).length + 5 ≤ 9223372036854775807; omega, ?_⟩
  conv => whnf
  refine dwp_loopU (P := Tryz.prog) (G := GC) (k := dk77_0) (b := db77_0) (α := Nat) (fun k => [(3, .str (prtH (l.take i) ++ shpB ++ wn (numsV (s.take k)))), (5, DV.int .i64 (k))]) (fun _ => []) (fun k => k ≤ s.length) (fun k => s.length - k) 0 (Nat.zero_le _) ?_
  conv => whnf
  refine ⟨rfl, rfl, ?_⟩
  conv => whnf
  refine ⟨by show ovT [(3, DV.str (prtH (l.take i) ++ shpB ++ [])), _] _ = _; rw [List.append_nil]; rfl, ?_⟩
  intro k hk1
  have hpk := okS_take hS k
  conv => whnf
  repeat' (first
   |(refine ⟨fun hg => ?_, fun hg => ?_⟩ <;> first | contradiction | (conv => whnf))
   |(refine Or.inl ?_; conv => whnf)
   |(rw [getD_enc _ _ i [] hi, hss]; refine ⟨idxA hi rfl, ?_⟩; conv => whnf)
   |(refine And.intro ?_ ?_; kernel_rfl; conv => whnf))
  ·have hk : k < s.length := by have := of_decide_eq_true hg; rw [e1] at this; omega
   have hv := (hS.2.2 _ (getD_in V0 hk)).1
   have hsk := numsV_take s k hk
   clear hg
   generalize hpp : s.getD k V0 = v at *
   obtain ⟨hx, hy, hz⟩ := hv
   have t1 := Lib.itoa_length_le v.x (by omega) (by omega)
   have t2 := Lib.itoa_length_le v.y (by omega) (by omega)
   have t3 := Lib.itoa_length_le v.z (by omega) (by omega)
   have k1 := q_TextZ v.x (by omega) (by omega)
   have k2 := q_TextZ v.y (by omega) (by omega)
   have k3 := q_TextZ v.z (by omega) (by omega)
   have hS : prtH (l.take i) ++ shpB ++ wn (numsV (s.take k)) ++ [32] ++ Lib.itoa v.x ++ [32] ++ Lib.itoa v.y ++ [32] ++ Lib.itoa v.z = prtH (l.take i) ++ shpB ++ wn (numsV (s.take (k + 1))) := by
    rw [hsk, wn_append]
    simp [wn, Lib.joinTail]
   generalize hV : prtH (l.take i) ++ shpB ++ wn (numsV (s.take k)) = V at *
   have hVl : V.length ≤ 5000 := by
    rw [← hV]
    have e5 : shpB.length = 5 := rfl
    simp only [List.length_append]
    omega
   clear hpk hsk hV
   repeat' (first
    |(refine ⟨fun hg => ?_, fun hg => ?_⟩ <;> first | contradiction | (conv => whnf))
    |(refine Or.inl ?_; conv => whnf)
    |(refine ⟨by simp only [List.length_append, List.length_cons, List.length_nil]; omega, ?_⟩; conv => whnf)
    |(rw [getD_enc _ _ i [] hi, hss]; refine ⟨idxA hi rfl, ?_⟩; conv => whnf)
    |(rw [getD_enc _ _ k V0 hk, hpp]; refine ⟨idxA hk rfl, ?_⟩; conv => whnf)
    |(refine ⟨_, k1, ?_⟩; conv => whnf)
    |(refine ⟨_, k2, ?_⟩; conv => whnf)
    |(refine ⟨_, k3, ?_⟩; conv => whnf)
    |(refine And.intro ?_ ?_; kernel_rfl; conv => whnf))
   rw [wrap_succ k (by omega)]
   exact ⟨k + 1, rfl, congrArg (fun s => [(0, shps l), (3, DV.str s), (4, DV.int .i64 (i)), (5, DV.int .i64 (((k + 1 : Nat) : Int)))]) hS, rfl, hk, by omega⟩
  ·have hk : k = s.length := by have := of_decide_eq_false hg; rw [e1] at this; omega
   have hS : prtH (l.take i) ++ shpB ++ wn (numsV (s.take k)) ++ [10] = prtH (l.take (i + 1)) := by
    rw [hsu, hk, List.take_length]
    unfold linB
    simp
   clear hg
   refine ⟨by have e5 : shpB.length = 5 := rfl; simp only [List.length_append, List.length_cons, List.length_nil]; omega, ?_⟩
   conv => whnf
   rw [wrap_succ i (by omega)]
   exact ⟨i + 1, rfl, congrArg (fun s => [(0, shps l), (3, DV.str s), (4, DV.int .i64 (((i + 1 : Nat) : Int)))]) hS, rfl, hi, by omega⟩
 ·have hi : i = l.length := by have := of_decide_eq_false hb; rw [e0] at this; omega
  conv => whnf
  rw [hi, List.take_length]; rfl
end Sh

set_option maxRecDepth 100000
set_option linter.unusedSimpArgs false
set_option linter.unusedVariables false
namespace Sh
open Go Go.Proofs
theorem strs_get (l : List (List UInt8)) (i : Nat) (h : i < l.length) : (l.map DV.str).getD (Int.toNat (i : Int)) .undef = .str (l.getD i []) := getD_enc _ _ i [] h
theorem drop_get1 {α : Type} (l : List α) (j : Nat) (d : α) : (l.drop 1).getD j d = l.getD (j + 1) d := by simp [List.getD_eq_getElem?_getD, Nat.add_comm]
theorem nd_len (w : List (List UInt8)) (j : Nat) (h : j + 1 ≤ w.length) : (nd w j).length = j := by simp [nd, numsW_len]; omega
theorem nd_succ (w : List (List UInt8)) (j : Nat) (h : j + 1 < w.length) : nd w (j + 1) = nd w j ++ [.int .i64 (sgnS (w.getD (j + 1) [])).1] := by
 unfold nd
 rw [take_map_succ _ _ j 0 (by rw [numsW_len]; omega)]
 congr 3
 unfold numsW
 rw [List.getD_eq_getElem?_getD, List.getElem?_map, ← drop_get1]
 simp [List.getD_eq_getElem?_getD, show j < w.length - 1 by omega, show 1 + j < w.length by omega]
theorem ngetN (N : List Int) (k : Nat) (h : k < N.length) : (N.map (DV.int .i64)).getD (0 + Int.toNat (k : Int)) .undef = DV.int .i64 (N.getD k 0) := by
 rw [Nat.zero_add, Int.toNat_natCast]; simp [List.getD_eq_getElem?_getD, h]
def rgt (w : List (List UInt8)) (j : Nat) : Bool := !badW w && ((w.drop 1).take j).all fun x => (sgnS x).2
theorem rgt_succ (w : List (List UInt8)) (j : Nat) (h : j + 1 < w.length) : rgt w (j + 1) = (rgt w j && (sgnS (w.getD (j + 1) [])).2) := by
 unfold rgt
 rw [take_snoc (w.drop 1) j [] (by simp; omega), List.all_append, drop_get1, ← Bool.and_assoc]
 simp [List.all]
theorem rgt_all (w : List (List UInt8)) (j : Nat) (h : j + 1 = w.length) : rgt w j = !wrongW w := by
 unfold rgt wrongW
 rw [List.take_of_length_le (by simp; omega), Bool.not_or, Bool.not_not]
def vcR (N : List Int) (k : Nat) : List DV := (vecs (N.take (3 * k))).map encV
theorem vcR_len (N : List Int) (k : Nat) (h : 3 * k ≤ N.length) : (vcR N k).length = k := by unfold vcR; rw [List.length_map, vecs_len, List.length_take]; omega
theorem vcR_succ (N : List Int) (k : Nat) (h : 3 * k + 2 < N.length) : vcR N (k + 1) = vcR N k ++ [encV ⟨N.getD (3 * k) 0, N.getD (3 * k + 1) 0, N.getD (3 * k + 2) 0⟩] := by
 unfold vcR; rw [vecs_take N k h, List.map_append]; rfl
theorem vcR_all (N : List Int) (k : Nat) (h1 : 3 * k ≤ N.length) (h2 : N.length ≤ 3 * k + 2) : vcR N k = (vecs N).map encV := by
 unfold vcR
 congr 1
 have key : ∀ (M : List Int) (k : Nat), 3 * k ≤ M.length → M.length ≤ 3 * k + 2 → vecs (M.take (3 * k)) = vecs M := by
  intro M k
  induction k generalizing M with
  |zero =>
   intro _ h
   match M, h with
   |[], _ => rfl
   |[x], _ => rfl
   |[x, y], _ => rfl
   |x :: y :: z :: r, h => simp at h
  |succ k ih =>
   intro h1 h2
   match M, h1, h2 with
   |[], h, _ => simp at h
   |[x], h, _ => simp at h; omega
   |[x, y], h, _ => simp at h; omega
   |x :: y :: z :: r, h1, h2 =>
    have := ih r (by simp at h1; omega) (by simp at h2; omega)
    rw [show 3 * (k + 1) = 3 * k + 1 + 1 + 1 by omega]
    simp only [List.take_succ_cons, vecs, this]
 exact key N k h1 h2
theorem r_Parse (s : List UInt8) (hs : s.length ≤ 4097) : PC 78 [.str s] (encPar (parS s)) := by
 refine pureCall_ofR dh78 rfl ?_
 conv => whnf
 refine ⟨fun hg => ?_, fun hg => ?_⟩
 ·have hg : (4096 : Int) < s.length := of_decide_eq_true hg
  conv => whnf
  unfold parS
  rw [if_pos (by omega)]; rfl
 ·have hg : ¬ (4096 : Int) < s.length := of_decide_eq_false hg
  have hl := splitC_len 10 s
  have hn := splitC_ne 10 s
  conv => whnf
  repeat' (first
   |(refine ⟨fun hg => ?_, fun hg => ?_⟩ <;> first | contradiction | (conv => whnf))
   |(refine Or.inl ?_; conv => whnf)
   |(refine ⟨_, q_Split s 10 (by omega), ?_⟩; conv => whnf)
   |(refine And.intro ?_ ?_; kernel_rfl; conv => whnf))
  generalize hr : splitC 10 s = rows at *
  obtain ⟨m, hm⟩ : ∃ m, rows.length = m + 1 := ⟨rows.length - 1, by have := List.length_pos_iff.2 hn; omega⟩
  have hbad : ∀ i, parE rows m 0 = some i → parS s = ([], (i : Int), 25) := fun i he => parS_bad (by omega) hr hm he
  have hok := fun he => parS_ok (by omega) hr hm he
  have e0 : ((rows.map DV.str).length : Int) = m + 1 := by simp; omega
  have e1 : IntKind.i64.wrap (((rows.map DV.str).length : Int) - 1) = m := by rw [e0, wrap_in (by omega) (by omega)]; omega
  clear hn
  generalize parS s = R at *
  refine dwp_loopU (P := Tryz.prog) (G := GC) (k := dk78_2) (b := db78_2) (α := Nat) (fun i => [(5, .own 5 0 ((outW rows (min i m)).map shp).length ((outW rows (min i m)).map shp).length), (7, DV.int .i64 (i))]) (fun i => [(5, .row 1 ((outW rows (min i m)).map shp) false)]) (fun i => i ≤ m + 1 ∧ parE rows m 0 = parE rows (m - i) i ∧ (i = m + 1 → rows.getD m [] = [])) (fun i => m + 1 - i) 0 ⟨Nat.zero_le _, rfl, fun h => by omega⟩ ?_
  conv => whnf
  refine ⟨rfl, rfl, ?_⟩
  conv => whnf
  refine ⟨rfl, ?_⟩
  intro i ⟨h1, h2, h3⟩
  conv => whnf
  refine ⟨fun hb => ?_, fun hb => ?_⟩
  ·have hi : i < m + 1 := by have : (i : Int) < _ := of_decide_eq_true hb; rw [e0] at this; omega
   have hrl : (rows.getD i []).length ≤ s.length := hl.2 _ (getD_in [] (by omega))
   clear hb
   conv => whnf
   rw [e1]
   refine ⟨fun hb => ?_, fun hb => ?_⟩
   ·have him : i = m := by have := of_decide_eq_true hb; omega
    subst him
    clear hb
    have hR := hok (h2.trans (by rw [Nat.sub_self]; rfl))
    conv => whnf
    rw [strs_get rows i (by omega)]
    refine ⟨⟨by omega, by rw [e0]; omega, rfl⟩, ?_⟩
    conv => whnf
    refine ⟨fun hg => ?_, fun hg => ?_⟩
    ·have hg : rows.getD i [] ≠ [] := of_decide_eq_true hg
     rw [if_pos hg] at hR
     rw [hR]
     conv => whnf
     rfl
    ·have hg : rows.getD i [] = [] := Classical.not_not.1 (of_decide_eq_false hg)
     conv => whnf
     rw [wrap_succ i (by omega)]
     have hmn : min (i + 1) i = min i i := by omega
     exact ⟨i + 1, rfl, by rw [hmn]; rfl, by rw [hmn]; rfl, ⟨by omega, by rw [h2, show i - (i + 1) = 0 by omega, Nat.sub_self]; rfl, fun _ => hg⟩, by omega⟩
   ·have him : i < m := by have := of_decide_eq_false hb; omega
    clear hb
    have hmi : min i m = i := by omega
    rw [hmi]
    have hol := outW_len rows i (by omega)
    conv => whnf
    rw [strs_get rows i (by omega)]
    refine ⟨⟨by omega, by rw [e0]; omega, rfl⟩, ?_⟩
    repeat' (first
     |(refine ⟨fun hg => ?_, fun hg => ?_⟩ <;> first | contradiction | (conv => whnf))
     |(refine Or.inl ?_; conv => whnf)
     |(refine ⟨_, q_Split (rows.getD i []) 32 (by omega), ?_⟩; conv => whnf)
     |(refine And.intro ?_ ?_; kernel_rfl; conv => whnf))
    have hsu := outW_succ rows i (by omega)
    have hat := fun h => hbad i (h2.trans (parE_at rows m i him h))
    have hst := fun h => h2.trans (parE_step rows m i him h)
    have hwl := splitC_len 32 (rows.getD i [])
    have hwn := List.length_pos_iff.2 (splitC_ne 32 (rows.getD i []))
    generalize splitC 32 (rows.getD i []) = w at *
    have ew : ((w.map DV.str).length : Int) = w.length := by simp
    rw [getD_enc' _ _ 0 [] (by decide) (by simpa using hwn)]
    refine ⟨idxB (by decide) (by simpa using hwn) rfl, ?_⟩
    conv => whnf
    have h90 : rgt w 0 = (decide (w.getD 0 [] = shpB) && decide (w.length % 3 = 1)) := by
     unfold rgt badW
     rw [List.take_zero, Bool.not_not]; simp
    have h91 : decide ((w.length : Int).tmod 3 = 1) = decide (w.length % 3 = 1) := by
     congr 1; apply propext; rw [Int.tmod_eq_emod_of_nonneg (by omega)]; omega
    refine ⟨fun hg => ?_, fun hg => ?_⟩
    ·have hg0 := of_decide_eq_true hg
     conv => whnf
     rw [ew]
     refine ⟨by decide, ?_⟩
     conv => whnf
     rw [h91]
     have h9 : rgt w 0 = decide (w.length % 3 = 1) := by rw [h90, show decide (w.getD 0 [] = shpB) = true from decide_eq_true hg0]; rfl
     refine dwp_loopU (P := Tryz.prog) (G := GC) (k := dk78_0) (b := db78_0) (α := Nat) (fun j => [(9, .bool (rgt w j)), (10, .own 10 0 (nd w j).length (nd w j).length), (11, DV.int .i64 ((j + 1 : Nat)))]) (fun j => [(5, .row 1 ((outW rows i).map shp) false), (10, .row 1 (nd w j) false)]) (fun j => j + 1 ≤ w.length) (fun j => w.length - j) 0 (by omega) ?_
     conv => whnf
     refine ⟨rfl, rfl, ?_⟩
     conv => whnf
     refine ⟨by rw [h9]; rfl, ?_⟩
     clear hg hg0 h9 h90 h91
     intro j hj
     have hnl := nd_len w j hj
     conv => whnf
     refine ⟨fun hc => ?_, fun hc => ?_⟩
     ·have hj1 : j + 1 < w.length := by have := of_decide_eq_true hc; rw [ew] at this; omega
      clear hc
      conv => whnf
      rw [strs_get w (j + 1) hj1]
      refine ⟨⟨by omega, by rw [ew]; omega, rfl⟩, ?_⟩
      have hwj := hwl.2 _ (getD_in [] hj1)
      have hr9 := rgt_succ w j hj1
      repeat' (first
       |(refine ⟨fun hg => ?_, fun hg => ?_⟩ <;> first | contradiction | (conv => whnf))
       |(refine Or.inl ?_; conv => whnf)
       |(refine ⟨_, q_Signed (w.getD (j + 1) []) (by omega), ?_⟩; conv => whnf)
       |(refine And.intro ?_ ?_; kernel_rfl; conv => whnf))
      all_goals
       refine ⟨⟨rfl, rfl, rfl, by rw [hnl]; simp; omega, fun e he => by simp at he; subst he; rfl⟩, ?_⟩
       conv => whnf
       rw [wrap_succ (j + 1) (by omega)]
       refine ⟨j + 1, rfl, ?_, ?_, by omega, by omega⟩
       ·rw [hr9, show rgt w j = _ from hg, nd_succ w j hj1]; rfl
       ·rw [nd_succ w j hj1]; rfl
     ·have hj1 : j + 1 = w.length := by have := of_decide_eq_false hc; rw [ew] at this; omega
      clear hc
      rw [rgt_all w j hj1]
      conv => whnf
      refine ⟨fun hg => ?_, fun hg => ?_⟩
      ·have hg : wrongW w = true := by rw [← Bool.not_not (wrongW w)]; exact hg
       rw [hat hg]
       conv => whnf
       rfl
      ·have hg : wrongW w = false := by rw [← Bool.not_not (wrongW w)]; exact hg
       have hst := hst hg
       have hNl : (numsW w).length = j := by rw [numsW_len]; omega
       have hN : nd w j = (numsW w).map (DV.int .i64) := by unfold nd; rw [List.take_of_length_le (by omega)]
       rw [hN]
       have hsh : shpW w = vecs (numsW w) := rfl
       rw [hsh] at hsu
       clear hat hnl hN hsh hg hr
       generalize numsW w = N at *
       have e3 : ((N.map (DV.int .i64)).length : Int) = j := by simp; omega
       conv => whnf
       refine dwp_loopU (P := Tryz.prog) (G := GC) (k := dk78_1) (b := db78_1) (α := Nat) (fun k => [(14, .own 14 0 (vcR N k).length (vcR N k).length), (15, DV.int .i64 ((3 * k : Nat)))]) (fun k => [(5, .row 1 ((outW rows i).map shp) false), (10, .row 1 (N.map (DV.int .i64)) false), (14, .row 3 (vcR N k) false)]) (fun k => 3 * k ≤ j) (fun k => j - k) 0 (by omega) ?_
       conv => whnf
       refine ⟨rfl, rfl, ?_⟩
       conv => whnf
       refine ⟨rfl, ?_⟩
       intro k hk
       have hvl := vcR_len N k (by omega)
       have e4 : IntKind.i64.wrap (((3 * k : Nat) : Int) + 2) = ((3 * k + 2 : Nat) : Int) := by rw [wrap_in (by omega) (by omega)]; omega
       have e41 : IntKind.i64.wrap (((3 * k : Nat) : Int) + 1) = ((3 * k + 1 : Nat) : Int) := wrap_succ (3 * k) (by omega)
       have e5 : IntKind.i64.wrap (((3 * k : Nat) : Int) + 3) = ((3 * (k + 1) : Nat) : Int) := by rw [wrap_in (by omega) (by omega)]; omega
       conv => whnf
       refine ⟨rfl, ?_⟩
       conv => whnf
       rw [e4]
       refine ⟨fun hc => ?_, fun hc => ?_⟩
       ·have hk1 : 3 * k + 2 < j := by have := of_decide_eq_true hc; rw [e3] at this; omega
        clear hc
        conv => whnf
        refine ⟨⟨rfl, by omega, by rw [e3]; omega⟩, ?_⟩
        conv => whnf
        refine ⟨⟨rfl, by decide⟩, ?_⟩
        rw [ngetN N (3 * k) (by omega)]
        conv => whnf
        rw [e41]
        refine ⟨⟨rfl, by omega, by rw [e3]; omega⟩, ?_⟩
        conv => whnf
        refine ⟨⟨rfl, by decide⟩, ?_⟩
        rw [ngetN N (3 * k + 1) (by omega)]
        conv => whnf
        rw [e4]
        refine ⟨⟨rfl, by omega, by rw [e3]; omega⟩, ?_⟩
        conv => whnf
        refine ⟨⟨rfl, by decide⟩, ?_⟩
        rw [ngetN N (3 * k + 2) (by omega)]
        conv => whnf
        refine ⟨⟨rfl, rfl, rfl, by rw [hvl]; simp; omega, fun e he => by simp at he; subst he; rfl⟩, ?_⟩
        conv => whnf
        refine ⟨by kernel_rfl, ?_⟩
        conv => whnf
        rw [e5]
        have hsx := vcR_succ N k (by omega)
        refine ⟨k + 1, rfl, ?_, ?_, by omega, by omega⟩
        ·rw [hsx]; rfl
        ·rw [hsx]; rfl
       ·have hk1 : j ≤ 3 * k + 2 := by have := of_decide_eq_false hc; rw [e3] at this; omega
        clear hc
        have hva := vcR_all N k (by omega) (by omega)
        rw [hva]
        have hO : (outW rows (i + 1)).map shp = (outW rows i).map shp ++ [shp (vecs N)] := by rw [hsu, List.map_append]; rfl
        have hm1 : min (i + 1) m = i + 1 := by omega
        conv => whnf
        refine ⟨rfl, ?_⟩
        rw [window_full]
        conv => whnf
        refine ⟨⟨rfl, rfl, rfl, by rw [List.length_map, hol]; simp; omega, fun e he => by simp at he; subst he; rfl⟩, ?_⟩
        conv => whnf
        rw [wrap_succ i (by omega)]
        refine ⟨i + 1, rfl, ?_, ?_, ⟨by omega, hst, fun h => by omega⟩, by omega⟩
        ·rw [hm1, hO]; rfl
        ·rw [hm1, hO]; rfl
    ·have hg0 := of_decide_eq_false hg
     conv => whnf
     have h9 : rgt w 0 = false := by rw [h90, show decide (w.getD 0 [] = shpB) = false from decide_eq_false hg0]; rfl
     refine dwp_loopU (P := Tryz.prog) (G := GC) (k := dk78_0) (b := db78_0) (α := Nat) (fun j => [(9, .bool (rgt w j)), (10, .own 10 0 (nd w j).length (nd w j).length), (11, DV.int .i64 ((j + 1 : Nat)))]) (fun j => [(5, .row 1 ((outW rows i).map shp) false), (10, .row 1 (nd w j) false)]) (fun j => j + 1 ≤ w.length) (fun j => w.length - j) 0 (by omega) ?_
     conv => whnf
     refine ⟨rfl, rfl, ?_⟩
     conv => whnf
     refine ⟨by rw [h9]; rfl, ?_⟩
     clear hg hg0 h9 h90 h91
     intro j hj
     have hnl := nd_len w j hj
     conv => whnf
     refine ⟨fun hc => ?_, fun hc => ?_⟩
     ·have hj1 : j + 1 < w.length := by have := of_decide_eq_true hc; rw [ew] at this; omega
      clear hc
      conv => whnf
      rw [strs_get w (j + 1) hj1]
      refine ⟨⟨by omega, by rw [ew]; omega, rfl⟩, ?_⟩
      have hwj := hwl.2 _ (getD_in [] hj1)
      have hr9 := rgt_succ w j hj1
      repeat' (first
       |(refine ⟨fun hg => ?_, fun hg => ?_⟩ <;> first | contradiction | (conv => whnf))
       |(refine Or.inl ?_; conv => whnf)
       |(refine ⟨_, q_Signed (w.getD (j + 1) []) (by omega), ?_⟩; conv => whnf)
       |(refine And.intro ?_ ?_; kernel_rfl; conv => whnf))
      all_goals
       refine ⟨⟨rfl, rfl, rfl, by rw [hnl]; simp; omega, fun e he => by simp at he; subst he; rfl⟩, ?_⟩
       conv => whnf
       rw [wrap_succ (j + 1) (by omega)]
       refine ⟨j + 1, rfl, ?_, ?_, by omega, by omega⟩
       ·rw [hr9, show rgt w j = _ from hg, nd_succ w j hj1]; rfl
       ·rw [nd_succ w j hj1]; rfl
     ·have hj1 : j + 1 = w.length := by have := of_decide_eq_false hc; rw [ew] at this; omega
      clear hc
      rw [rgt_all w j hj1]
      conv => whnf
      refine ⟨fun hg => ?_, fun hg => ?_⟩
      ·have hg : wrongW w = true := by rw [← Bool.not_not (wrongW w)]; exact hg
       rw [hat hg]
       conv => whnf
       rfl
      ·have hg : wrongW w = false := by rw [← Bool.not_not (wrongW w)]; exact hg
       have hst := hst hg
       have hNl : (numsW w).length = j := by rw [numsW_len]; omega
       have hN : nd w j = (numsW w).map (DV.int .i64) := by unfold nd; rw [List.take_of_length_le (by omega)]
       rw [hN]
       have hsh : shpW w = vecs (numsW w) := rfl
       rw [hsh] at hsu
       clear hat hnl hN hsh hg hr
       generalize numsW w = N at *
       have e3 : ((N.map (DV.int .i64)).length : Int) = j := by simp; omega
       conv => whnf
       refine dwp_loopU (P := Tryz.prog) (G := GC) (k := dk78_1) (b := db78_1) (α := Nat) (fun k => [(14, .own 14 0 (vcR N k).length (vcR N k).length), (15, DV.int .i64 ((3 * k : Nat)))]) (fun k => [(5, .row 1 ((outW rows i).map shp) false), (10, .row 1 (N.map (DV.int .i64)) false), (14, .row 3 (vcR N k) false)]) (fun k => 3 * k ≤ j) (fun k => j - k) 0 (by omega) ?_
       conv => whnf
       refine ⟨rfl, rfl, ?_⟩
       conv => whnf
       refine ⟨rfl, ?_⟩
       intro k hk
       have hvl := vcR_len N k (by omega)
       have e4 : IntKind.i64.wrap (((3 * k : Nat) : Int) + 2) = ((3 * k + 2 : Nat) : Int) := by rw [wrap_in (by omega) (by omega)]; omega
       have e41 : IntKind.i64.wrap (((3 * k : Nat) : Int) + 1) = ((3 * k + 1 : Nat) : Int) := wrap_succ (3 * k) (by omega)
       have e5 : IntKind.i64.wrap (((3 * k : Nat) : Int) + 3) = ((3 * (k + 1) : Nat) : Int) := by rw [wrap_in (by omega) (by omega)]; omega
       conv => whnf
       refine ⟨rfl, ?_⟩
       conv => whnf
       rw [e4]
       refine ⟨fun hc => ?_, fun hc => ?_⟩
       ·have hk1 : 3 * k + 2 < j := by have := of_decide_eq_true hc; rw [e3] at this; omega
        clear hc
        conv => whnf
        refine ⟨⟨rfl, by omega, by rw [e3]; omega⟩, ?_⟩
        conv => whnf
        refine ⟨⟨rfl, by decide⟩, ?_⟩
        rw [ngetN N (3 * k) (by omega)]
        conv => whnf
        rw [e41]
        refine ⟨⟨rfl, by omega, by rw [e3]; omega⟩, ?_⟩
        conv => whnf
        refine ⟨⟨rfl, by decide⟩, ?_⟩
        rw [ngetN N (3 * k + 1) (by omega)]
        conv => whnf
        rw [e4]
        refine ⟨⟨rfl, by omega, by rw [e3]; omega⟩, ?_⟩
        conv => whnf
        refine ⟨⟨rfl, by decide⟩, ?_⟩
        rw [ngetN N (3 * k + 2) (by omega)]
        conv => whnf
        refine ⟨⟨rfl, rfl, rfl, by rw [hvl]; simp; omega, fun e he => by simp at he; subst he; rfl⟩, ?_⟩
        conv => whnf
        refine ⟨by kernel_rfl, ?_⟩
        conv => whnf
        rw [e5]
        have hsx := vcR_succ N k (by omega)
        refine ⟨k + 1, rfl, ?_, ?_, by omega, by omega⟩
        ·rw [hsx]; rfl
        ·rw [hsx]; rfl
       ·have hk1 : j ≤ 3 * k + 2 := by have := of_decide_eq_false hc; rw [e3] at this; omega
        clear hc
        have hva := vcR_all N k (by omega) (by omega)
        rw [hva]
        have hO : (outW rows (i + 1)).map shp = (outW rows i).map shp ++ [shp (vecs N)] := by rw [hsu, List.map_append]; rfl
        have hm1 : min (i + 1) m = i + 1 := by omega
        conv => whnf
        refine ⟨rfl, ?_⟩
        rw [window_full]
        conv => whnf
        refine ⟨⟨rfl, rfl, rfl, by rw [List.length_map, hol]; simp; omega, fun e he => by simp at he; subst he; rfl⟩, ?_⟩
        conv => whnf
        rw [wrap_succ i (by omega)]
        refine ⟨i + 1, rfl, ?_, ?_, ⟨by omega, hst, fun h => by omega⟩, by omega⟩
        ·rw [hm1, hO]; rfl
        ·rw [hm1, hO]; rfl
  ·have hi : i = m + 1 := by have : ¬ (i : Int) < _ := of_decide_eq_false hb; rw [e0] at this; omega
   clear hb
   have hmi : min i m = m := by omega
   have hR := hok (h2.trans (by rw [show m - i = 0 by omega]; rfl))
   rw [if_neg (fun h => h (h3 hi))] at hR
   have hcs := outW_tb rows m s.length (fun r hr => hl.2 r hr)
   have hol := outW_len rows m (by omega)
   rw [hmi]
   have k1 : PC 24 [DV.list ((outW rows m).map shp)] (DV.int .i64 (chkShps (outW rows m))) := r_CheckShapes (outW rows m) (by omega) (fun c hc => by have := hcs c hc; omega)
   conv => whnf
   refine .inl ?_
   conv => whnf
   refine ⟨rfl, ?_⟩
   rw [window_full]
   refine ⟨_, k1, ?_⟩
   conv => whnf
   repeat' (first
    |(refine ⟨fun hg => ?_, fun hg => ?_⟩ <;> first | contradiction | (conv => whnf))
    |(refine Or.inl ?_; conv => whnf)
    |(refine And.intro ?_ ?_; kernel_rfl; conv => whnf))
   ·have hg : chkShps (outW rows m) ≠ 0 := of_decide_eq_true hg
    rw [if_pos hg] at hR
    rw [hR, e1]
    rfl
   all_goals
    have hg : ¬ chkShps (outW rows m) ≠ 0 := of_decide_eq_false hg
    rw [if_neg hg] at hR
    rw [hR]
    first | rfl | (rw [window_full]; rfl) | (refine ⟨rfl, ?_⟩; rw [window_full]; rfl)
end Sh

set_option maxRecDepth 100000
namespace Sh
open Go
def dc8 : DFunc := ⟨79,2,[.tmp 4],.seq (.ops false [⟨some 4,.mov (.const (.bool false)),none,[]⟩]) (.seq (.seq (.ops false [⟨some 15,.mov (.tmp 0),none,[]⟩,⟨some 16,.call (.func 13) [.tmp 15],none,[]⟩,⟨some 17,.un .not (.tmp 16),none,[]⟩,⟨some 18,.mov (.tmp 17),none,[]⟩,⟨some 19,.mov (.tmp 1),some (18,false),[]⟩,⟨some 20,.lenS (.tmp 19),some (18,false),[]⟩,⟨some 21,.bin .gtr (.tmp 20) (.const (.int .i64 300)),some (18,false),[]⟩,⟨some 22,.mov (.tmp 21),some (18,false),[]⟩,⟨some 23,.mov (.tmp 1),some (22,true),[]⟩,⟨some 24,.lenS (.tmp 23),some (22,true),[]⟩,⟨some 25,.bin .neq (.tmp 24) (.const (.int .i64 4097)),some (22,true),[]⟩,⟨some 26,.pick (.tmp 22) (.tmp 25) (.const (.bool false)),some (18,false),[]⟩,⟨some 27,.pick (.tmp 18) (.const (.bool true)) (.tmp 26),none,[]⟩]) (.cond (.tmp 27) (.seq (.ops false [⟨some 28,.call (.func 14) [],none,[]⟩,⟨some 4,.mov (.tmp 28),none,[]⟩]) .ret) .skip)) (.seq (.ops false [⟨some 30,.mov (.tmp 0),none,[]⟩,⟨some 31,.call (.func 19) [.tmp 30],none,[]⟩,⟨some 32,.call (.func 75) [.tmp 31],none,[]⟩,⟨some 29,.mov (.tmp 32),none,[]⟩,⟨some 33,.extract (.tmp 29) 0,none,[]⟩,⟨some 34,.extract (.tmp 29) 1,none,[]⟩,⟨some 5,.mov (.tmp 33),none,[]⟩,⟨some 6,.mov (.tmp 34),none,[]⟩]) (.seq (.ops false [⟨some 36,.mov (.tmp 1),none,[]⟩,⟨some 37,.call (.func 76) [.tmp 36],none,[]⟩,⟨some 35,.mov (.tmp 37),none,[]⟩,⟨some 38,.extract (.tmp 35) 0,none,[]⟩,⟨some 39,.extract (.tmp 35) 1,none,[]⟩,⟨some 40,.extract (.tmp 35) 2,none,[]⟩,⟨some 7,.mov (.tmp 38),none,[]⟩,⟨some 8,.mov (.tmp 39),none,[]⟩,⟨some 9,.mov (.tmp 40),none,[]⟩]) (.seq (.ops false [⟨some 41,.mov (.tmp 0),none,[]⟩,⟨some 42,.call (.func 24) [.tmp 41],none,[]⟩,⟨some 10,.mov (.tmp 42),none,[]⟩]) (.seq (.ops false [⟨some 11,.mov (.const (.string ⟨#[]⟩)),none,[]⟩]) (.seq (.seq (.ops false [⟨some 43,.mov (.tmp 10),none,[]⟩,⟨some 44,.bin .eql (.tmp 43) (.const (.int .i64 0)),none,[]⟩]) (.cond (.tmp 44) (.ops false [⟨some 45,.mov (.tmp 0),none,[]⟩,⟨some 46,.call (.func 77) [.tmp 45],none,[]⟩,⟨some 11,.mov (.tmp 46),none,[]⟩]) .skip)) (.seq (.ops false [⟨some 48,.mov (.tmp 1),none,[]⟩,⟨some 49,.call (.func 78) [.tmp 48],none,[]⟩,⟨some 47,.mov (.tmp 49),none,[]⟩,⟨some 50,.extract (.tmp 47) 0,none,[]⟩,⟨some 51,.extract (.tmp 47) 1,none,[]⟩,⟨some 52,.extract (.tmp 47) 2,none,[]⟩,⟨some 12,.mov (.tmp 50),none,[]⟩,⟨some 13,.mov (.tmp 51),none,[]⟩,⟨some 14,.mov (.tmp 52),none,[]⟩]) (.seq (.ops false [⟨some 53,.mov (.tmp 5),none,[]⟩,⟨some 54,.mov (.tmp 11),none,[]⟩,⟨some 55,.bin .eql (.tmp 53) (.tmp 54),none,[]⟩,⟨some 56,.mov (.tmp 55),none,[]⟩,⟨some 57,.mov (.tmp 6),some (56,true),[]⟩,⟨some 58,.mov (.tmp 10),some (56,true),[]⟩,⟨some 59,.bin .eql (.tmp 57) (.tmp 58),some (56,true),[]⟩,⟨some 60,.pick (.tmp 56) (.tmp 59) (.const (.bool false)),none,[]⟩,⟨some 61,.mov (.tmp 60),none,[]⟩,⟨some 62,.mov (.tmp 7),some (61,true),[]⟩,⟨some 63,.mov (.tmp 12),some (61,true),[]⟩,⟨some 64,.call (.func 79) [.tmp 62,.tmp 63],some (61,true),[]⟩,⟨some 65,.pick (.tmp 61) (.tmp 64) (.const (.bool false)),none,[]⟩,⟨some 66,.mov (.tmp 65),none,[]⟩,⟨some 67,.mov (.tmp 8),some (66,true),[]⟩,⟨some 68,.mov (.tmp 13),some (66,true),[]⟩,⟨some 69,.bin .eql (.tmp 67) (.tmp 68),some (66,true),[]⟩,⟨some 70,.pick (.tmp 66) (.tmp 69) (.const (.bool false)),none,[]⟩,⟨some 71,.mov (.tmp 70),none,[]⟩,⟨some 72,.mov (.tmp 9),some (71,true),[]⟩,⟨some 73,.mov (.tmp 14),some (71,true),[]⟩,⟨some 74,.bin .eql (.tmp 72) (.tmp 73),some (71,true),[]⟩,⟨some 75,.pick (.tmp 71) (.tmp 74) (.const (.bool false)),none,[]⟩,⟨some 76,.mov (.tmp 75),none,[]⟩,⟨some 77,.call (.func 14) [],some (76,true),[]⟩,⟨some 78,.pick (.tmp 76) (.tmp 77) (.const (.bool false)),none,[]⟩,⟨some 4,.mov (.tmp 78),none,[]⟩]) .ret))))))))⟩
theorem dh8 : cProg Go.Proofs.Tryz.prog ⟨[], [], []⟩ 8 = some dc8 := by kernel_rfl
end Sh

set_option maxRecDepth 100000
set_option maxHeartbeats 2000000
set_option linter.unusedSimpArgs false
set_option linter.unusedVariables false
namespace Sh
open Go Go.Proofs
theorem parS_len (s : List UInt8) : (parS s).1.length < 1073741824 ∧ ∀ c ∈ (parS s).1, c.length < 1073741824 := by
 have hn : ([] : List (List V3)).length < 1073741824 ∧ ∀ c ∈ ([] : List (List V3)), c.length < 1073741824 := ⟨by decide, fun c h => absurd h List.not_mem_nil⟩
 unfold parS
 split
 ·exact hn
 ·split
  ·exact hn
  ·split
   ·exact hn
   ·split
    ·exact hn
    ·rename_i h
     obtain ⟨h1, h2, h3⟩ := chkShps_oks (Classical.not_not.1 h)
     refine ⟨Nat.lt_of_le_of_lt h1 (by decide), fun c hc => Nat.lt_of_le_of_lt (h2 c hc).2.1 (by decide)⟩
theorem l_ShadeStrings (aw : PC 14 [] (.bool true)) (l : List (List V3)) (hU : l.length ≤ 9223372036854775807) (s : List UInt8) : PC 8 [shps l, .str s] (.bool true) := by
 have kS := r_ShortU l hU
 by_cases hsh : shortB l = true
 ·rw [hsh] at kS
  obtain ⟨hl, hls, hl0⟩ := short_len hsh
  clear hsh
  by_cases h41 : s.length ≤ 4097
  ·have a1 := l_all l hl hls
   have a2 := r_CheckShapes l hl hls
   have b1 := c_Print l hl hls
   have b2 := c_Parse s h41
   have b3 := r_Parse s h41
   have b4 := r_SameShapes (parS s).1 (parS_len s).1 (parS_len s).2
   generalize parS s = R at *
   by_cases h1 : chkShps l = 0
   all_goals first
    |rw [show prtS l = (prtH l, 0) from if_neg (fun h => h h1)] at b1
     rw [h1] at a2
     have c1 := r_Print l (chkShps_oks h1).1 (chkShps_oks h1).2.1
    |rw [show prtS l = ([], chkShps l) from if_pos h1] at b1
     have c1 := aw
     generalize chkShps l = E1 at *
   all_goals
    refine pureCall_ofR dh8 rfl ?_
    conv => whnf
    conv => whnf
    repeat' (first
     |(refine ⟨fun hg => ?_, fun hg => ?_⟩ <;> first | contradiction | (exfalso; revert hg; simp; done) | (exfalso; exact absurd (of_decide_eq_true hg) (by assumption)) | (exfalso; exact absurd (by assumption) (of_decide_eq_false hg)) | (conv => whnf))
     |(refine Or.inl ?_; conv => whnf)
     |(refine ⟨_, kS, ?_⟩; conv => whnf)
     |(refine ⟨_, a1, ?_⟩; conv => whnf)
     |(refine ⟨_, a2, ?_⟩; conv => whnf)
     |(refine ⟨_, b1, ?_⟩; conv => whnf)
     |(refine ⟨_, b2, ?_⟩; conv => whnf)
     |(refine ⟨_, b3, ?_⟩; conv => whnf)
     |(refine ⟨_, b4, ?_⟩; conv => whnf)
     |(refine ⟨_, c1, ?_⟩; conv => whnf)
     |(refine ⟨_, aw, ?_⟩; conv => whnf)
     |(refine And.intro ?_ ?_; kernel_rfl; conv => whnf))
    all_goals rfl
  ·have h3 : (300 : Int) < s.length := by omega
   have h4 : (s.length : Int) ≠ 4097 := by omega
   refine pureCall_ofR dh8 rfl ?_
   conv => whnf
   conv => whnf
   repeat' (first
    |(refine ⟨fun hg => ?_, fun hg => ?_⟩ <;> first | contradiction | (exfalso; revert hg; simp; done) | (exfalso; exact absurd (of_decide_eq_true hg) (by assumption)) | (exfalso; exact absurd (by assumption) (of_decide_eq_false hg)) | (conv => whnf))
    |(refine Or.inl ?_; conv => whnf)
    |(refine ⟨_, kS, ?_⟩; conv => whnf)
    |(refine And.intro ?_ ?_; kernel_rfl; conv => whnf))
   all_goals first
    |(exfalso; rename_i g1 g2 g3; first | exact absurd h3 (of_decide_eq_false g3) | exact absurd h4 (of_decide_eq_false g3) | exact absurd h3 (of_decide_eq_false g2) | exact absurd h4 (of_decide_eq_false g2))
    |skip
   repeat' (first
    |(refine ⟨fun hg => ?_, fun hg => ?_⟩ <;> first | contradiction | (exfalso; revert hg; simp; done) | (exfalso; exact absurd (of_decide_eq_true hg) (by assumption)) | (exfalso; exact absurd (by assumption) (of_decide_eq_false hg)) | (conv => whnf))
    |(refine Or.inl ?_; conv => whnf)
    |(refine ⟨_, kS, ?_⟩; conv => whnf)
    |(refine ⟨_, aw, ?_⟩; conv => whnf)
    |(refine And.intro ?_ ?_; kernel_rfl; conv => whnf))
   all_goals rfl
 ·rw [show shortB l = false from by simpa using hsh] at kS
  refine pureCall_ofR dh8 rfl ?_
  conv => whnf
  conv => whnf
  repeat' (first
   |(refine ⟨fun hg => ?_, fun hg => ?_⟩ <;> first | contradiction | (exfalso; revert hg; simp; done) | (exfalso; exact absurd (of_decide_eq_true hg) (by assumption)) | (exfalso; exact absurd (by assumption) (of_decide_eq_false hg)) | (conv => whnf))
   |(refine Or.inl ?_; conv => whnf)
   |(refine ⟨_, kS, ?_⟩; conv => whnf)
   |(refine ⟨_, aw, ?_⟩; conv => whnf)
   |(refine And.intro ?_ ?_; kernel_rfl; conv => whnf))
  all_goals rfl
end Sh
