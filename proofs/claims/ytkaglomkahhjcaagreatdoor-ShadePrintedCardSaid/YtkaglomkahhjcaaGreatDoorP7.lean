/-
  Chapter 3's functions, walked over pure data: the library of the walk, the functions' code over data, and what each computes. (part 7)
-/
import Derived.Test.YtkaglomkahhjcaaGreatDoorP6
import Derived.ChangeArms
import Derived.ChangeSame
import Derived.OpenShut
import Derived.WideShapes
import Derived.FnData
import Derived.LaidMore
import Derived.DataReads
import Derived.Test.YtkaglomkahhjcaaGreatDoorProg
import Derived.Lib.ItoaNum
import Derived.Lib.ItoaLen
import Derived.Lib.MapLaws
import Derived.Lib.Bytealg
import Derived.Lib.Join
import Derived.Lib.Strings
set_option linter.unusedVariables false
set_option linter.unusedSimpArgs false
set_option linter.unusedVariables false
set_option linter.unusedSimpArgs false
namespace Sh
open Go
section
variable {H : Type} {enc : TypeId × Value → H} {P : Program} {W : World}
theorem arg_string {t : TypeId} {v : Value} {d : DataW H} {p : List MemPlace} {base b0 : Nat} {sp : Nat → Bool} {hd : Bool} (ht : P.underlying t = some .string)
  (hv : Value.okWide P W .any b0 t v) (h : DataW.Trod enc P W base sp hd t v d p) : ∃ s : List UInt8, RelP (memOf W) (.str s) v ∧ s.length ≤ maxLen := by
 obtain ⟨s, rfl⟩ := WideShapes.okWide_string ht hv
 obtain ⟨fuel, hf⟩ := h
 obtain ⟨m, e, _, hw⟩ := DataW.trod_string ht hf
 simp only [Value.cells, List.cons.injEq, Value.string.injEq, and_true] at e
 subst e
 exact ⟨s.data.toList, .str s.data.toList, by simpa using hw⟩
end
end Sh

set_option maxRecDepth 100000
namespace Sh
open Go
def db83_0 : DC := (.seq (.seq (.ops false [⟨some 8,.mov (.tmp 7),none,[]⟩,⟨some 9,.mov (.tmp 0),none,[]⟩,⟨some 10,.lenS (.tmp 9),none,[]⟩,⟨some 11,.bin .lss (.tmp 8) (.tmp 10),none,[]⟩]) (.cond (.tmp 11) .skip (.exit 0))) (.seq (.block 1 none (.seq (.ops false [⟨some 14,.mov (.tmp 0),none,[]⟩,⟨some 15,.mov (.tmp 7),none,[]⟩,⟨some 16,.indexS (.tmp 14) (.tmp 15),none,[]⟩,⟨some 17,.mov (.tmp 1),none,[]⟩,⟨some 18,.bin .eql (.tmp 16) (.tmp 17),none,[]⟩]) (.cond (.tmp 18) (.seq (.ops false [⟨some 19,.mov (.tmp 5),none,[]⟩,⟨some 20,.mov (.tmp 0),none,[]⟩,⟨some 21,.mov (.tmp 6),none,[]⟩,⟨some 22,.mov (.tmp 7),none,[]⟩,⟨some 23,.sliceS (.tmp 20) (some (.tmp 21)) (some (.tmp 22)),none,[]⟩,⟨some 24,.lit true 1 1 (.str []) [(0,(.tmp 23))],none,[]⟩,⟨some 25,.append false 1 (.tmp 19) (.tmp 24),none,[]⟩,⟨some 5,.mov (.tmp 25),none,[]⟩]) (.ops false [⟨some 26,.mov (.tmp 7),none,[]⟩,⟨some 27,.bin .add (.tmp 26) (.const (.int .i64 1)),none,[]⟩,⟨some 6,.mov (.tmp 27),none,[]⟩])) .skip))) (.ops false [⟨some 12,.mov (.tmp 7),none,[]⟩,⟨some 13,.bin .add (.tmp 12) (.const (.int .i64 1)),none,[]⟩,⟨some 7,.mov (.tmp 13),none,[]⟩])))
def dk83_0 : Keep := ⟨[(5,1)],[0,1,5,6,7],[5,32,33]⟩
def dc83 : DFunc := ⟨34,2,[.tmp 4],.seq (.ops false [⟨some 4,.mov (.const (.slice none 0 0)),none,[]⟩]) (.seq (.ops false [⟨some 5,.mov (.const (.slice none 0 0)),none,[]⟩]) (.seq (.ops false [⟨some 6,.mov (.const (.int .i64 0)),none,[]⟩]) (.seq (.seq (.ops false [⟨some 7,.mov (.const (.int .i64 0)),none,[]⟩]) (.block 0 (some ⟨[],[0,5,6],[5,32,33]⟩) (.loop dk83_0 db83_0))) (.seq (.ops false [⟨some 28,.mov (.tmp 5),none,[]⟩,⟨some 29,.mov (.tmp 0),none,[]⟩,⟨some 30,.mov (.tmp 6),none,[]⟩,⟨some 31,.sliceS (.tmp 29) (some (.tmp 30)) none,none,[]⟩,⟨some 32,.lit true 1 1 (.str []) [(0,(.tmp 31))],none,[]⟩,⟨some 33,.append false 1 (.tmp 28) (.tmp 32),none,[]⟩,⟨some 4,.mov (.tmp 33),none,[]⟩]) .ret))))⟩
theorem dh83 : cProg Go.Proofs.Tryz.prog ⟨[(0, ⟨[(5, 1)], [0, 1, 5, 6, 7], [5, 32, 33]⟩)], [(0, ⟨[], [0, 5, 6], [5, 32, 33]⟩)], [24, 32]⟩ 83 = some dc83 := by kernel_rfl
end Sh

set_option maxRecDepth 100000
namespace Sh
open Go
def db93_0 : DC := (.seq (.seq (.ops false [⟨some 5,.mov (.tmp 4),none,[]⟩,⟨some 6,.mov (.tmp 0),none,[]⟩,⟨some 7,.len (.tmp 6),none,[]⟩,⟨some 8,.bin .lss (.tmp 5) (.tmp 7),none,[]⟩]) (.cond (.tmp 8) .skip (.exit 0))) (.seq (.block 1 none (.ops false [⟨some 11,.mov (.tmp 3),none,[]⟩,⟨some 12,.lit true 3 0 (.agg [.int .i64 0,.int .i64 0,.int .i64 0]) [],none,[]⟩,⟨some 13,.mov (.tmp 0),none,[]⟩,⟨some 14,.mov (.tmp 4),none,[]⟩,⟨some 15,.iaddr 1 (.tmp 13) (.tmp 14),none,[]⟩,⟨some 16,.load none (.tmp 15),none,[]⟩,⟨some 17,.append true 3 (.tmp 12) (.tmp 16),none,[]⟩,⟨some 18,.lit true 1 1 (.full []) [(0,(.tmp 17))],none,[]⟩,⟨some 19,.append false 1 (.tmp 11) (.tmp 18),none,[]⟩,⟨some 3,.mov (.tmp 19),none,[]⟩])) (.ops false [⟨some 9,.mov (.tmp 4),none,[]⟩,⟨some 10,.bin .add (.tmp 9) (.const (.int .i64 1)),none,[]⟩,⟨some 4,.mov (.tmp 10),none,[]⟩])))
def dk93_0 : Keep := ⟨[(3,1)],[0,3,4],[3]⟩
def dc93 : DFunc := ⟨21,1,[.tmp 2],.seq (.ops false [⟨some 2,.mov (.const (.slice none 0 0)),none,[]⟩]) (.seq (.ops false [⟨some 3,.mov (.const (.slice none 0 0)),none,[]⟩]) (.seq (.seq (.ops false [⟨some 4,.mov (.const (.int .i64 0)),none,[]⟩]) (.block 0 (some ⟨[],[3],[3]⟩) (.loop dk93_0 db93_0))) (.seq (.ops false [⟨some 20,.mov (.tmp 3),none,[]⟩,⟨some 2,.mov (.tmp 20),none,[]⟩]) .ret)))⟩
theorem dh93 : cProg Go.Proofs.Tryz.prog ⟨[(0, ⟨[(3, 1)], [0, 3, 4], [3]⟩)], [(0, ⟨[], [3], [3]⟩)], [12, 17, 18]⟩ 93 = some dc93 := by kernel_rfl
def db94_0 : DC := (.seq (.seq (.ops false [⟨some 4,.mov (.tmp 3),none,[]⟩,⟨some 5,.mov (.tmp 0),none,[]⟩,⟨some 6,.len (.tmp 5),none,[]⟩,⟨some 7,.bin .lss (.tmp 4) (.tmp 6),none,[]⟩]) (.cond (.tmp 7) .skip (.exit 0))) (.seq (.block 1 none (.seq (.ops false [⟨some 10,.mov (.tmp 0),none,[]⟩,⟨some 11,.mov (.tmp 3),none,[]⟩,⟨some 12,.iaddr 1 (.tmp 10) (.tmp 11),none,[]⟩,⟨some 13,.load none (.tmp 12),none,[]⟩,⟨some 14,.bin .neq (.tmp 13) (.const (.int .i64 0)),none,[]⟩]) (.cond (.tmp 14) (.seq (.ops false [⟨some 15,.mov (.tmp 0),none,[]⟩,⟨some 16,.mov (.tmp 3),none,[]⟩,⟨some 17,.iaddr 1 (.tmp 15) (.tmp 16),none,[]⟩,⟨some 18,.load none (.tmp 17),none,[]⟩,⟨some 2,.mov (.tmp 18),none,[]⟩]) .ret) .skip))) (.ops false [⟨some 8,.mov (.tmp 3),none,[]⟩,⟨some 9,.bin .add (.tmp 8) (.const (.int .i64 1)),none,[]⟩,⟨some 3,.mov (.tmp 9),none,[]⟩])))
def dk94_0 : Keep := ⟨[],[0,3],[]⟩
def dc94 : DFunc := ⟨19,1,[.tmp 2],.seq (.ops false [⟨some 2,.mov (.const (.int .i64 0)),none,[]⟩]) (.seq (.seq (.ops false [⟨some 3,.mov (.const (.int .i64 0)),none,[]⟩]) (.block 0 (some ⟨[],[],[]⟩) (.loop dk94_0 db94_0))) (.seq (.ops false [⟨some 2,.mov (.const (.int .i64 0)),none,[]⟩]) .ret))⟩
theorem dh94 : cProg Go.Proofs.Tryz.prog ⟨[(0, ⟨[], [0, 3], []⟩)], [(0, ⟨[], [], []⟩)], []⟩ 94 = some dc94 := by kernel_rfl
def dc95 : DFunc := ⟨7,2,[.tmp 4],.seq (.ops false [⟨some 4,.mov (.const (.int .i64 0)),none,[]⟩]) (.seq (.seq (.ops false [⟨some 5,.mov (.tmp 0),none,[]⟩]) (.cond (.tmp 5) (.seq (.ops false [⟨some 6,.mov (.tmp 1),none,[]⟩,⟨some 4,.mov (.tmp 6),none,[]⟩]) .ret) .skip)) (.seq (.ops false [⟨some 4,.mov (.const (.int .i64 0)),none,[]⟩]) .ret))⟩
theorem dh95 : cProg Go.Proofs.Tryz.prog ⟨[], [], []⟩ 95 = some dc95 := by kernel_rfl
def dc96 : DFunc := ⟨16,3,[.tmp 6],.seq (.ops false [⟨some 6,.mov (.const (.int .i64 0)),none,[]⟩]) (.seq (.ops false [⟨some 7,.mov (.tmp 0),none,[]⟩,⟨some 8,.mov (.tmp 1),none,[]⟩,⟨some 9,.bin .lss (.tmp 7) (.tmp 8),none,[]⟩,⟨some 10,.mov (.tmp 9),none,[]⟩,⟨some 11,.mov (.tmp 0),some (10,false),[]⟩,⟨some 12,.mov (.tmp 2),some (10,false),[]⟩,⟨some 13,.bin .gtr (.tmp 11) (.tmp 12),some (10,false),[]⟩,⟨some 14,.pick (.tmp 10) (.const (.bool true)) (.tmp 13),none,[]⟩,⟨some 15,.call (.func 95) [.tmp 14,.const (.int .i64 3)],none,[]⟩,⟨some 6,.mov (.tmp 15),none,[]⟩]) .ret)⟩
theorem dh96 : cProg Go.Proofs.Tryz.prog ⟨[], [], []⟩ 96 = some dc96 := by kernel_rfl
def db97_0 : DC := (.seq (.seq (.ops false [⟨some 57,.mov (.tmp 8),none,[]⟩,⟨some 58,.mov (.tmp 0),none,[]⟩,⟨some 59,.len (.tmp 58),none,[]⟩,⟨some 60,.bin .lss (.tmp 57) (.tmp 59),none,[]⟩]) (.cond (.tmp 60) .skip (.exit 2))) (.seq (.block 3 none (.seq (.ops true [⟨some 63,.load (some 3) (.tmp 3),none,[]⟩,⟨some 64,.load (some 3) (.tmp 6),none,[]⟩,⟨some 65,.load (some 3) (.tmp 5),none,[]⟩,⟨some 66,.call (.func 101) [.tmp 64,.tmp 65],none,[1,2]⟩,⟨some 67,.mov (.tmp 0),none,[]⟩,⟨some 68,.mov (.tmp 8),none,[]⟩,⟨some 69,.iaddr 3 (.tmp 67) (.tmp 68),none,[4,5]⟩,⟨some 70,.load (some 3) (.tmp 69),none,[6,4,5]⟩,⟨some 71,.load (some 3) (.tmp 5),none,[]⟩,⟨some 72,.call (.func 101) [.tmp 70,.tmp 71],none,[7,6,4,5,8,3,1,2]⟩,⟨some 73,.call (.func 102) [.tmp 66,.tmp 72],none,[3,1,2,9,7,6,4,5,8]⟩,⟨some 74,.call (.func 99) [.tmp 63,.tmp 73],none,[0,10,3,1,2,9,7,6,4,5,8]⟩,⟨some 75,.bin .lss (.tmp 74) (.const (.int .i64 0)),none,[11,0,10,3,1,2,9,7,6,4,5,8]⟩]) (.cond (.tmp 75) (.seq (.ops false [⟨some 2,.mov (.const (.bool false)),none,[]⟩]) .ret) .skip))) (.ops false [⟨some 61,.mov (.tmp 8),none,[]⟩,⟨some 62,.bin .add (.tmp 61) (.const (.int .i64 1)),none,[]⟩,⟨some 8,.mov (.tmp 62),none,[]⟩])))
def dk97_0 : Keep := ⟨[],[0,3,4,5,6,8],[3,5,6,7]⟩
def db97_1 : DC := (.seq (.seq (.ops false [⟨some 11,.mov (.tmp 4),none,[]⟩,⟨some 12,.mov (.tmp 0),none,[]⟩,⟨some 13,.len (.tmp 12),none,[]⟩,⟨some 14,.bin .lss (.tmp 11) (.tmp 13),none,[]⟩]) (.cond (.tmp 14) .skip (.exit 0))) (.seq (.block 1 (some ⟨[],[0,3,4],[3]⟩) (.seq (.ops true [⟨some 17,.mov (.tmp 0),none,[]⟩,⟨some 18,.mov (.tmp 4),none,[]⟩,⟨some 19,.iaddr 3 (.tmp 17) (.tmp 18),none,[0,1]⟩,⟨some 20,.load (some 3) (.tmp 19),none,[2,0,1]⟩,⟨some 21,.mov (.tmp 0),none,[]⟩,⟨some 22,.mov (.tmp 4),none,[]⟩,⟨some 23,.bin .add (.tmp 22) (.const (.int .i64 1)),none,[5]⟩,⟨some 24,.mov (.tmp 0),none,[]⟩,⟨some 25,.len (.tmp 24),none,[7]⟩,⟨some 26,.bin .rem (.tmp 23) (.tmp 25),none,[6,5,8,7]⟩,⟨some 27,.iaddr 3 (.tmp 21) (.tmp 26),none,[4,9,6,5,8,7]⟩,⟨some 28,.load (some 3) (.tmp 27),none,[10,4,9,6,5,8,7]⟩,⟨some 29,.mov (.tmp 0),none,[]⟩,⟨some 30,.mov (.tmp 4),none,[]⟩,⟨some 31,.bin .add (.tmp 30) (.const (.int .i64 2)),none,[13]⟩,⟨some 32,.mov (.tmp 0),none,[]⟩,⟨some 33,.len (.tmp 32),none,[15]⟩,⟨some 34,.bin .rem (.tmp 31) (.tmp 33),none,[14,13,16,15]⟩,⟨some 35,.iaddr 3 (.tmp 29) (.tmp 34),none,[12,17,14,13,16,15]⟩,⟨some 36,.load (some 3) (.tmp 35),none,[18,12,17,14,13,16,15]⟩,⟨some 5,.alloc (.agg [.int .i64 0,.int .i64 0,.int .i64 0]) 3,none,[]⟩,⟨some 6,.alloc (.agg [.int .i64 0,.int .i64 0,.int .i64 0]) 3,none,[]⟩,⟨some 7,.alloc (.agg [.int .i64 0,.int .i64 0,.int .i64 0]) 3,none,[]⟩,⟨none,.store 3 (.tmp 5) (.tmp 20),none,[20,3,2,0,1,21,22]⟩,⟨none,.store 3 (.tmp 6) (.tmp 28),none,[21,11,10,4,9,6,5,8,7,23,20,3,2,0,1,22]⟩,⟨none,.store 3 (.tmp 7) (.tmp 36),none,[22,19,18,12,17,14,13,16,15,24,21,11,10,4,9,6,5,8,7,23,20,3,2,0,1]⟩]) (.seq (.seq (.ops true [⟨some 37,.load (some 3) (.tmp 3),none,[]⟩,⟨some 38,.load (some 3) (.tmp 5),none,[]⟩,⟨some 39,.mov (.tmp 0),none,[]⟩,⟨some 40,.iaddr 3 (.tmp 39) (.const (.int .i64 0)),none,[2]⟩,⟨some 41,.load (some 3) (.tmp 40),none,[3,2]⟩,⟨some 42,.call (.func 101) [.tmp 38,.tmp 41],none,[1,4,3,2]⟩,⟨some 43,.call (.func 99) [.tmp 37,.tmp 42],none,[0,5,1,4,3,2]⟩,⟨some 44,.bin .neq (.tmp 43) (.const (.int .i64 0)),none,[6,0,5,1,4,3,2]⟩,⟨some 45,.mov (.tmp 44),none,[7,6,0,5,1,4,3,2]⟩,⟨some 46,.load (some 3) (.tmp 3),some (45,false),[8,7,6,0,5,1,4,3,2]⟩,⟨some 47,.load (some 3) (.tmp 6),some (45,false),[8,7,6,0,5,1,4,3,2]⟩,⟨some 48,.load (some 3) (.tmp 5),some (45,false),[8,7,6,0,5,1,4,3,2]⟩,⟨some 49,.call (.func 101) [.tmp 47,.tmp 48],some (45,false),[10,8,7,6,0,5,1,4,3,2,11]⟩,⟨some 50,.load (some 3) (.tmp 7),some (45,false),[8,7,6,0,5,1,4,3,2]⟩,⟨some 51,.load (some 3) (.tmp 6),some (45,false),[8,7,6,0,5,1,4,3,2]⟩,⟨some 52,.call (.func 101) [.tmp 50,.tmp 51],some (45,false),[13,8,7,6,0,5,1,4,3,2,14,12,10,11]⟩,⟨some 53,.call (.func 102) [.tmp 49,.tmp 52],some (45,false),[12,10,8,7,6,0,5,1,4,3,2,11,15,13,14]⟩,⟨some 54,.call (.func 99) [.tmp 46,.tmp 53],some (45,false),[9,8,7,6,0,5,1,4,3,2,16,12,10,11,15,13,14]⟩,⟨some 55,.bin .leq (.tmp 54) (.const (.int .i64 0)),some (45,false),[17,9,8,7,6,0,5,1,4,3,2,16,12,10,11,15,13,14]⟩,⟨some 56,.pick (.tmp 45) (.const (.bool true)) (.tmp 55),none,[8,7,6,0,5,1,4,3,2,18,17,9,16,12,10,11,15,13,14]⟩]) (.cond (.tmp 56) (.seq (.ops false [⟨some 2,.mov (.const (.bool false)),none,[]⟩]) .ret) .skip)) (.seq (.ops false [⟨some 8,.mov (.const (.int .i64 0)),none,[]⟩]) (.block 2 (some ⟨[],[0,3,4],[3,5,6,7]⟩) (.loop dk97_0 db97_0)))))) (.ops false [⟨some 15,.mov (.tmp 4),none,[]⟩,⟨some 16,.bin .add (.tmp 15) (.const (.int .i64 1)),none,[]⟩,⟨some 4,.mov (.tmp 16),none,[]⟩])))
def dk97_1 : Keep := ⟨[],[0,3,4],[3]⟩
def dc97 : DFunc := ⟨76,1,[.tmp 2],.seq (.ops false [⟨some 2,.mov (.const (.bool false)),none,[]⟩]) (.seq (.ops false [⟨some 9,.mov (.tmp 0),none,[]⟩,⟨some 10,.call (.func 98) [.tmp 9],none,[]⟩,⟨some 3,.alloc (.agg [.int .i64 0,.int .i64 0,.int .i64 0]) 3,none,[]⟩,⟨none,.store 3 (.tmp 3) (.tmp 10),none,[]⟩]) (.seq (.seq (.ops false [⟨some 4,.mov (.const (.int .i64 0)),none,[]⟩]) (.block 0 (some ⟨[],[],[3]⟩) (.loop dk97_1 db97_1))) (.seq (.ops false [⟨some 2,.mov (.const (.bool true)),none,[]⟩]) .ret)))⟩
theorem dh97 : cProg Go.Proofs.Tryz.prog ⟨[(0, ⟨[], [0, 3, 4], [3]⟩), (2, ⟨[], [0, 3, 4, 5, 6, 8], [3, 5, 6, 7]⟩)], [(2, ⟨[], [0, 3, 4], [3, 5, 6, 7]⟩), (1, ⟨[], [0, 3, 4], [3]⟩), (0, ⟨[], [], [3]⟩)], []⟩ 97 = some dc97 := by kernel_rfl
def dc98 : DFunc := ⟨18,1,[.cell 2 (some 3)],.seq (.ops false [⟨some 2,.alloc (.agg [.int .i64 0,.int .i64 0,.int .i64 0]) 3,none,[]⟩]) (.seq (.ops true [⟨some 3,.mov (.tmp 0),none,[]⟩,⟨some 4,.iaddr 3 (.tmp 3) (.const (.int .i64 1)),none,[0]⟩,⟨some 5,.load (some 3) (.tmp 4),none,[1,0]⟩,⟨some 6,.mov (.tmp 0),none,[]⟩,⟨some 7,.iaddr 3 (.tmp 6) (.const (.int .i64 0)),none,[3]⟩,⟨some 8,.load (some 3) (.tmp 7),none,[4,3]⟩,⟨some 9,.call (.func 101) [.tmp 5,.tmp 8],none,[2,1,0,5,4,3]⟩,⟨some 10,.mov (.tmp 0),none,[]⟩,⟨some 11,.iaddr 3 (.tmp 10) (.const (.int .i64 2)),none,[7]⟩,⟨some 12,.load (some 3) (.tmp 11),none,[8,7]⟩,⟨some 13,.mov (.tmp 0),none,[]⟩,⟨some 14,.iaddr 3 (.tmp 13) (.const (.int .i64 0)),none,[10]⟩,⟨some 15,.load (some 3) (.tmp 14),none,[11,10]⟩,⟨some 16,.call (.func 101) [.tmp 12,.tmp 15],none,[9,8,7,12,11,10,6,2,1,0,5,4,3]⟩,⟨some 17,.call (.func 102) [.tmp 9,.tmp 16],none,[6,2,1,0,5,4,3,13,9,8,7,12,11,10]⟩,⟨none,.store 3 (.tmp 2) (.tmp 17),none,[14,6,2,1,0,5,4,3,13,9,8,7,12,11,10]⟩]) .ret)⟩
theorem dh98 : cProg Go.Proofs.Tryz.prog ⟨[], [], []⟩ 98 = some dc98 := by kernel_rfl
def dc99 : DFunc := ⟨22,2,[.tmp 4],.seq (.ops false [⟨some 2,.box 3 (.tmp 0),none,[]⟩,⟨some 3,.box 3 (.tmp 1),none,[]⟩,⟨some 4,.mov (.const (.int .i64 0)),none,[]⟩]) (.seq (.ops false [⟨some 5,.faddr 0 1 false (.tmp 2),none,[]⟩,⟨some 6,.load none (.tmp 5),none,[]⟩,⟨some 7,.faddr 0 1 false (.tmp 3),none,[]⟩,⟨some 8,.load none (.tmp 7),none,[]⟩,⟨some 9,.bin .mul (.tmp 6) (.tmp 8),none,[]⟩,⟨some 10,.faddr 1 1 false (.tmp 2),none,[]⟩,⟨some 11,.load none (.tmp 10),none,[]⟩,⟨some 12,.faddr 1 1 false (.tmp 3),none,[]⟩,⟨some 13,.load none (.tmp 12),none,[]⟩,⟨some 14,.bin .mul (.tmp 11) (.tmp 13),none,[]⟩,⟨some 15,.bin .add (.tmp 9) (.tmp 14),none,[]⟩,⟨some 16,.faddr 2 1 false (.tmp 2),none,[]⟩,⟨some 17,.load none (.tmp 16),none,[]⟩,⟨some 18,.faddr 2 1 false (.tmp 3),none,[]⟩,⟨some 19,.load none (.tmp 18),none,[]⟩,⟨some 20,.bin .mul (.tmp 17) (.tmp 19),none,[]⟩,⟨some 21,.bin .add (.tmp 15) (.tmp 20),none,[]⟩,⟨some 4,.mov (.tmp 21),none,[]⟩]) .ret)⟩
theorem dh99 : cProg Go.Proofs.Tryz.prog ⟨[], [], []⟩ 99 = some dc99 := by kernel_rfl
def dc101 : DFunc := ⟨21,2,[.cell 4 (some 3)],.seq (.ops false [⟨some 2,.box 3 (.tmp 0),none,[]⟩,⟨some 3,.box 3 (.tmp 1),none,[]⟩,⟨some 4,.alloc (.agg [.int .i64 0,.int .i64 0,.int .i64 0]) 3,none,[]⟩]) (.seq (.ops false [⟨some 5,.faddr 0 1 false (.tmp 2),none,[]⟩,⟨some 6,.load none (.tmp 5),none,[]⟩,⟨some 7,.faddr 0 1 false (.tmp 3),none,[]⟩,⟨some 8,.load none (.tmp 7),none,[]⟩,⟨some 9,.bin .sub (.tmp 6) (.tmp 8),none,[]⟩,⟨some 10,.faddr 1 1 false (.tmp 2),none,[]⟩,⟨some 11,.load none (.tmp 10),none,[]⟩,⟨some 12,.faddr 1 1 false (.tmp 3),none,[]⟩,⟨some 13,.load none (.tmp 12),none,[]⟩,⟨some 14,.bin .sub (.tmp 11) (.tmp 13),none,[]⟩,⟨some 15,.faddr 2 1 false (.tmp 2),none,[]⟩,⟨some 16,.load none (.tmp 15),none,[]⟩,⟨some 17,.faddr 2 1 false (.tmp 3),none,[]⟩,⟨some 18,.load none (.tmp 17),none,[]⟩,⟨some 19,.bin .sub (.tmp 16) (.tmp 18),none,[]⟩,⟨some 20,.build [.int .i64 0,.int .i64 0,.int .i64 0] [(0,(1,(.tmp 9))),(1,(1,(.tmp 14))),(2,(1,(.tmp 19)))],none,[]⟩,⟨none,.store 3 (.tmp 4) (.tmp 20),none,[]⟩]) .ret)⟩
theorem dh101 : cProg Go.Proofs.Tryz.prog ⟨[], [], []⟩ 101 = some dc101 := by kernel_rfl
def dc102 : DFunc := ⟨39,2,[.cell 4 (some 3)],.seq (.ops false [⟨some 2,.box 3 (.tmp 0),none,[]⟩,⟨some 3,.box 3 (.tmp 1),none,[]⟩,⟨some 4,.alloc (.agg [.int .i64 0,.int .i64 0,.int .i64 0]) 3,none,[]⟩]) (.seq (.ops false [⟨some 5,.faddr 1 1 false (.tmp 2),none,[]⟩,⟨some 6,.load none (.tmp 5),none,[]⟩,⟨some 7,.faddr 2 1 false (.tmp 3),none,[]⟩,⟨some 8,.load none (.tmp 7),none,[]⟩,⟨some 9,.bin .mul (.tmp 6) (.tmp 8),none,[]⟩,⟨some 10,.faddr 2 1 false (.tmp 2),none,[]⟩,⟨some 11,.load none (.tmp 10),none,[]⟩,⟨some 12,.faddr 1 1 false (.tmp 3),none,[]⟩,⟨some 13,.load none (.tmp 12),none,[]⟩,⟨some 14,.bin .mul (.tmp 11) (.tmp 13),none,[]⟩,⟨some 15,.bin .sub (.tmp 9) (.tmp 14),none,[]⟩,⟨some 16,.faddr 2 1 false (.tmp 2),none,[]⟩,⟨some 17,.load none (.tmp 16),none,[]⟩,⟨some 18,.faddr 0 1 false (.tmp 3),none,[]⟩,⟨some 19,.load none (.tmp 18),none,[]⟩,⟨some 20,.bin .mul (.tmp 17) (.tmp 19),none,[]⟩,⟨some 21,.faddr 0 1 false (.tmp 2),none,[]⟩,⟨some 22,.load none (.tmp 21),none,[]⟩,⟨some 23,.faddr 2 1 false (.tmp 3),none,[]⟩,⟨some 24,.load none (.tmp 23),none,[]⟩,⟨some 25,.bin .mul (.tmp 22) (.tmp 24),none,[]⟩,⟨some 26,.bin .sub (.tmp 20) (.tmp 25),none,[]⟩,⟨some 27,.faddr 0 1 false (.tmp 2),none,[]⟩,⟨some 28,.load none (.tmp 27),none,[]⟩,⟨some 29,.faddr 1 1 false (.tmp 3),none,[]⟩,⟨some 30,.load none (.tmp 29),none,[]⟩,⟨some 31,.bin .mul (.tmp 28) (.tmp 30),none,[]⟩,⟨some 32,.faddr 1 1 false (.tmp 2),none,[]⟩,⟨some 33,.load none (.tmp 32),none,[]⟩,⟨some 34,.faddr 0 1 false (.tmp 3),none,[]⟩,⟨some 35,.load none (.tmp 34),none,[]⟩,⟨some 36,.bin .mul (.tmp 33) (.tmp 35),none,[]⟩,⟨some 37,.bin .sub (.tmp 31) (.tmp 36),none,[]⟩,⟨some 38,.build [.int .i64 0,.int .i64 0,.int .i64 0] [(0,(1,(.tmp 15))),(1,(1,(.tmp 26))),(2,(1,(.tmp 37)))],none,[]⟩,⟨none,.store 3 (.tmp 4) (.tmp 38),none,[]⟩]) .ret)⟩
theorem dh102 : cProg Go.Proofs.Tryz.prog ⟨[], [], []⟩ 102 = some dc102 := by kernel_rfl
end Sh

set_option maxRecDepth 100000
namespace Sh
open Go
def dc19 : DFunc := ⟨5,1,[.tmp 2],.seq (.ops false [⟨some 2,.mov (.const (.slice none 0 0)),none,[]⟩]) (.seq (.ops false [⟨some 3,.mov (.tmp 0),none,[]⟩,⟨some 4,.call (.func 93) [.tmp 3],none,[]⟩,⟨some 2,.mov (.tmp 4),none,[]⟩]) .ret)⟩
theorem dh19 : cProg Go.Proofs.Tryz.prog ⟨[], [], []⟩ 19 = some dc19 := by kernel_rfl
def db21_0 : DC := (.seq (.seq (.ops false [⟨some 19,.mov (.tmp 4),none,[]⟩,⟨some 20,.mov (.tmp 0),none,[]⟩,⟨some 21,.len (.tmp 20),none,[]⟩,⟨some 22,.bin .lss (.tmp 19) (.tmp 21),none,[]⟩]) (.cond (.tmp 22) .skip (.exit 0))) (.seq (.block 1 none (.seq (.ops true [⟨some 25,.mov (.tmp 0),none,[]⟩,⟨some 26,.mov (.tmp 4),none,[]⟩,⟨some 27,.iaddr 3 (.tmp 25) (.tmp 26),none,[0,1]⟩,⟨some 28,.faddr 0 1 false (.tmp 27),none,[2,0,1]⟩,⟨some 29,.load none (.tmp 28),none,[3,2,0,1]⟩,⟨some 30,.call (.func 96) [.tmp 29,.const (.int .i64 (-1000)),.const (.int .i64 1000)],none,[4,3,2,0,1]⟩,⟨some 31,.mov (.tmp 0),none,[]⟩,⟨some 32,.mov (.tmp 4),none,[]⟩,⟨some 33,.iaddr 3 (.tmp 31) (.tmp 32),none,[6,7]⟩,⟨some 34,.faddr 1 1 false (.tmp 33),none,[8,6,7]⟩,⟨some 35,.load none (.tmp 34),none,[9,8,6,7]⟩,⟨some 36,.call (.func 96) [.tmp 35,.const (.int .i64 (-1000)),.const (.int .i64 1000)],none,[10,9,8,6,7,5,4,3,2,0,1]⟩,⟨some 37,.mov (.tmp 0),none,[]⟩,⟨some 38,.mov (.tmp 4),none,[]⟩,⟨some 39,.iaddr 3 (.tmp 37) (.tmp 38),none,[12,13]⟩,⟨some 40,.faddr 2 1 false (.tmp 39),none,[14,12,13]⟩,⟨some 41,.load none (.tmp 40),none,[15,14,12,13]⟩,⟨some 42,.call (.func 96) [.tmp 41,.const (.int .i64 0),.const (.int .i64 1000)],none,[16,15,14,12,13,11,10,9,8,6,7,5,4,3,2,0,1]⟩,⟨some 43,.lit true 1 3 (.int .i64 0) [(0,(.tmp 30)),(1,(.tmp 36)),(2,(.tmp 42))],none,[5,4,3,2,0,1,11,10,9,8,6,7,17,16,15,14,12,13]⟩,⟨some 44,.call (.func 94) [.tmp 43],none,[18,5,4,3,2,0,1,11,10,9,8,6,7,17,16,15,14,12,13]⟩,⟨some 5,.mov (.tmp 44),none,[19,18,5,4,3,2,0,1,11,10,9,8,6,7,17,16,15,14,12,13]⟩]) (.seq (.ops false [⟨some 45,.mov (.tmp 5),none,[]⟩,⟨some 46,.bin .neq (.tmp 45) (.const (.int .i64 0)),none,[]⟩]) (.cond (.tmp 46) (.seq (.ops false [⟨some 47,.mov (.tmp 5),none,[]⟩,⟨some 2,.mov (.tmp 47),none,[]⟩]) .ret) .skip)))) (.ops false [⟨some 23,.mov (.tmp 4),none,[]⟩,⟨some 24,.bin .add (.tmp 23) (.const (.int .i64 1)),none,[]⟩,⟨some 4,.mov (.tmp 24),none,[]⟩])))
def dk21_0 : Keep := ⟨[],[0,4],[14]⟩
def dc21 : DFunc := ⟨52,1,[.tmp 2],.seq (.ops false [⟨some 2,.mov (.const (.int .i64 0)),none,[]⟩]) (.seq (.seq (.ops false [⟨some 6,.mov (.tmp 0),none,[]⟩,⟨some 7,.len (.tmp 6),none,[]⟩,⟨some 8,.bin .lss (.tmp 7) (.const (.int .i64 3)),none,[]⟩,⟨some 9,.call (.func 95) [.tmp 8,.const (.int .i64 16)],none,[]⟩,⟨some 10,.mov (.tmp 0),none,[]⟩,⟨some 11,.len (.tmp 10),none,[]⟩,⟨some 12,.bin .gtr (.tmp 11) (.const (.int .i64 6)),none,[]⟩,⟨some 13,.call (.func 95) [.tmp 12,.const (.int .i64 5)],none,[]⟩,⟨some 14,.lit true 1 2 (.int .i64 0) [(0,(.tmp 9)),(1,(.tmp 13))],none,[]⟩,⟨some 15,.call (.func 94) [.tmp 14],none,[]⟩,⟨some 3,.mov (.tmp 15),none,[]⟩]) (.seq (.ops false [⟨some 16,.mov (.tmp 3),none,[]⟩,⟨some 17,.bin .neq (.tmp 16) (.const (.int .i64 0)),none,[]⟩]) (.cond (.tmp 17) (.seq (.ops false [⟨some 18,.mov (.tmp 3),none,[]⟩,⟨some 2,.mov (.tmp 18),none,[]⟩]) .ret) .skip))) (.seq (.seq (.ops false [⟨some 4,.mov (.const (.int .i64 0)),none,[]⟩]) (.block 0 (some ⟨[],[0],[14]⟩) (.loop dk21_0 db21_0))) (.seq (.ops false [⟨some 48,.mov (.tmp 0),none,[]⟩,⟨some 49,.call (.func 97) [.tmp 48],none,[]⟩,⟨some 50,.un .not (.tmp 49),none,[]⟩,⟨some 51,.call (.func 95) [.tmp 50,.const (.int .i64 1)],none,[]⟩,⟨some 2,.mov (.tmp 51),none,[]⟩]) .ret)))⟩
theorem dh21 : cProg Go.Proofs.Tryz.prog ⟨[(0, ⟨[], [0, 4], [14]⟩)], [(0, ⟨[], [0], [14]⟩)], [14, 43]⟩ 21 = some dc21 := by kernel_rfl
def db24_0 : DC := (.seq (.seq (.ops false [⟨some 8,.mov (.tmp 3),none,[]⟩,⟨some 9,.mov (.tmp 0),none,[]⟩,⟨some 10,.len (.tmp 9),none,[]⟩,⟨some 11,.bin .lss (.tmp 8) (.tmp 10),none,[]⟩]) (.cond (.tmp 11) .skip (.exit 0))) (.seq (.block 1 none (.seq (.ops false [⟨some 14,.mov (.tmp 0),none,[]⟩,⟨some 15,.mov (.tmp 3),none,[]⟩,⟨some 16,.iaddr 1 (.tmp 14) (.tmp 15),none,[]⟩,⟨some 17,.load none (.tmp 16),none,[]⟩,⟨some 18,.call (.func 21) [.tmp 17],none,[]⟩,⟨some 4,.mov (.tmp 18),none,[]⟩]) (.seq (.ops false [⟨some 19,.mov (.tmp 4),none,[]⟩,⟨some 20,.bin .neq (.tmp 19) (.const (.int .i64 0)),none,[]⟩]) (.cond (.tmp 20) (.seq (.ops false [⟨some 21,.mov (.tmp 4),none,[]⟩,⟨some 2,.mov (.tmp 21),none,[]⟩]) .ret) .skip)))) (.ops false [⟨some 12,.mov (.tmp 3),none,[]⟩,⟨some 13,.bin .add (.tmp 12) (.const (.int .i64 1)),none,[]⟩,⟨some 3,.mov (.tmp 13),none,[]⟩])))
def dk24_0 : Keep := ⟨[],[0,3],[]⟩
def dc24 : DFunc := ⟨22,1,[.tmp 2],.seq (.ops false [⟨some 2,.mov (.const (.int .i64 0)),none,[]⟩]) (.seq (.seq (.ops false [⟨some 5,.mov (.tmp 0),none,[]⟩,⟨some 6,.len (.tmp 5),none,[]⟩,⟨some 7,.bin .gtr (.tmp 6) (.const (.int .i64 8)),none,[]⟩]) (.cond (.tmp 7) (.seq (.ops false [⟨some 2,.mov (.const (.int .i64 5)),none,[]⟩]) .ret) .skip)) (.seq (.seq (.ops false [⟨some 3,.mov (.const (.int .i64 0)),none,[]⟩]) (.block 0 (some ⟨[],[],[]⟩) (.loop dk24_0 db24_0))) (.seq (.ops false [⟨some 2,.mov (.const (.int .i64 0)),none,[]⟩]) .ret)))⟩
theorem dh24 : cProg Go.Proofs.Tryz.prog ⟨[(0, ⟨[], [0, 3], []⟩)], [(0, ⟨[], [], []⟩)], []⟩ 24 = some dc24 := by kernel_rfl
end Sh

set_option linter.unusedSimpArgs false
set_option linter.unusedVariables false
namespace Sh
open Go
section
variable {ev : Operand → DV} {lk : Nat → Option DObj} {o kk q i : Nat} {ks : List Nat} {z v : DV} {m k x : Operand} {es : List (DV × DV)}
end
theorem itoa_nat (u : Nat) : Lib.itoa (u : Int) = Lib.decDigits u := by unfold Lib.itoa; rw [if_neg (by omega)]; simp
theorem glue_glue (p q : List UInt8) (l : List (List UInt8)) : glue p (glue q l) = glue (p ++ q) l := by
 cases l with
 |nil => rfl
 |cons h t => simp [glue]
theorem glue_nil {l : List (List UInt8)} (h : l ≠ []) : glue [] l = l := by
 cases l with
 |nil => exact absurd rfl h
 |cons a t => rfl
theorem splitC_yes {b : UInt8} {s : List UInt8} {i : Nat} (h : i < s.length) (hb : s.getD i 0 = b) (w : List UInt8) : glue w (splitC b (s.drop i)) = w :: splitC b (s.drop (i + 1)) := by
 rw [drop_getD s i 0 h, splitC, if_pos hb]
 simp [glue]
theorem splitC_no {b : UInt8} {s : List UInt8} {i : Nat} (h : i < s.length) (hb : ¬ s.getD i 0 = b) (w : List UInt8) : glue w (splitC b (s.drop i)) = glue (w ++ [s.getD i 0]) (splitC b (s.drop (i + 1))) := by
 rw [drop_getD s i 0 h, splitC, if_neg hb, glue_glue]
theorem window_snoc (s : List UInt8) (f i : Nat) (hf : f ≤ i) (hi : i < s.length) : window s f (i - f) ++ [s.getD i 0] = window s f (i + 1 - f) := by
 unfold window
 rw [show i + 1 - f = (i - f) + 1 by omega, List.take_add_one]
 congr 1
 simp [List.getD_eq_getElem?_getD, hi, show f + (i - f) = i by omega]
theorem splitC_app {b : UInt8} : ∀ {a : List UInt8} (r : List UInt8), b ∉ a → splitC b (a ++ b :: r) = a :: splitC b r
 |[], r, h => by show splitC b (b :: r) = _; rw [splitC, if_pos rfl]
 |c :: a, r, h => by
  have hc : ¬ c = b := fun e => h (e ▸ List.mem_cons_self ..)
  show splitC b (c :: (a ++ b :: r)) = _
  rw [splitC, if_neg hc, splitC_app r (fun hh => h (List.mem_cons_of_mem _ hh))]; rfl
theorem splitC_one {b : UInt8} : ∀ {a : List UInt8}, b ∉ a → splitC b a = [a]
 |[], _ => rfl
 |c :: a, h => by
  have hc : ¬ c = b := fun e => h (e ▸ List.mem_cons_self ..)
  rw [splitC, if_neg hc, splitC_one (fun hh => h (List.mem_cons_of_mem _ hh))]; rfl
theorem ofNat_dig {k : Nat} (h : k < 10) : (UInt8.ofNat (48 + k)).toNat = 48 + k := by
 rw [UInt8.toNat_ofNat']; omega
theorem dec_spec : ∀ n : Nat, (Lib.decDigits n).all isD = true ∧ (∀ a, valD (Lib.decDigits n) a = a * 10 ^ (Lib.decDigits n).length + n) ∧ Lib.decDigits n ≠ [] ∧ (n ≠ 0 → (Lib.decDigits n).getD 0 0 ≠ 48) := by
 intro n
 induction n using Nat.strongRecOn with
 |_ n ih =>
  by_cases h9 : n < 10
  ·have e : Lib.decDigits n = [UInt8.ofNat (48 + n)] := by rw [Lib.decDigits, dif_pos h9]
   have ho := ofNat_dig h9
   rw [e]
   refine ⟨?_, fun a => ?_, by simp, fun hn h48 => ?_⟩
   ·simp [isD, ho]; omega
   ·simp only [valD, ho, List.length_cons, List.length_nil]; omega
   ·have h48 : UInt8.ofNat (48 + n) = 48 := h48
    rw [h48] at ho
    have : (48 : UInt8).toNat = 48 := rfl
    omega
  ·have e : Lib.decDigits n = Lib.decDigits (n / 10) ++ [UInt8.ofNat (48 + n % 10)] := by rw [Lib.decDigits, dif_neg h9]
   obtain ⟨h1, h2, h3, h4⟩ := ih (n / 10) (by omega)
   have ho := ofNat_dig (Nat.mod_lt n (by decide : 0 < 10))
   rw [e]
   refine ⟨?_, fun a => ?_, by simp, fun hn h48 => ?_⟩
   ·rw [List.all_append, h1]; simp [isD, ho]; omega
   ·rw [valD_append, h2]
    simp only [valD, ho, List.length_append, List.length_cons, List.length_nil]
    rw [Int.pow_succ, ← Int.mul_assoc]
    generalize a * 10 ^ (Lib.decDigits (n / 10)).length = z
    omega
   ·refine h4 (by omega) ?_
    cases hd : Lib.decDigits (n / 10) with
    |nil => exact absurd hd h3
    |cons x r => rw [hd] at h48; exact h48
theorem dec_len : ∀ k n : Nat, n < 10 ^ (k + 1) → (Lib.decDigits n).length ≤ k + 1
 |0, n, h => by
  rw [Lib.decDigits, dif_pos (by omega)]; simp
 |k + 1, n, h => by
  by_cases h9 : n < 10
  ·rw [Lib.decDigits, dif_pos h9]; simp
  ·have := dec_len k (n / 10) (by rw [Nat.pow_succ] at h; omega)
   rw [Lib.decDigits, dif_neg h9, List.length_append]
   simp; omega
theorem digS_itoa {n : Int} (h0 : 0 ≤ n) (h1 : n ≤ 999999999) : digS (Lib.itoa n) = (n, true) := by
 obtain ⟨u, rfl⟩ := Int.eq_ofNat_of_zero_le h0
 rw [itoa_nat]
 obtain ⟨a1, a2, a3, a4⟩ := dec_spec u
 have a5 := dec_len 8 u (by omega)
 have hb : badD (Lib.decDigits u) = false := by
  unfold badD
  rw [decide_eq_false a3, decide_eq_false (by omega : ¬ 9 < _)]
  by_cases hu : u = 0
  ·subst hu
   rw [Lib.decDigits, dif_pos (by decide)]; rfl
  ·rw [decide_eq_false (a4 hu), Bool.and_false]; rfl
 unfold digS
 rw [hb, a1, a2]
 simp
theorem itoa_not {b : UInt8} (hb : isD b = false) {n : Int} (h : 0 ≤ n) : b ∉ Lib.itoa n := by
 obtain ⟨u, rfl⟩ := Int.eq_ofNat_of_zero_le h
 rw [itoa_nat]
 intro hm
 have := List.all_eq_true.1 (dec_spec u).1 b hm
 rw [hb] at this; cases this
end Sh

set_option maxRecDepth 100000
set_option linter.unusedSimpArgs false
set_option linter.unusedVariables false
namespace Sh
open Go Go.Proofs
theorem q_When (b : Bool) (e : Int) : PC 95 [.bool b, DV.int .i64 (e)] (DV.int .i64 (whenE b e)) := by
 refine pureCall_ofR dh95 rfl ?_
 conv => whnf
 refine ⟨fun hb => ?_, fun hb => ?_⟩ <;> try (exact absurd hb (by decide))
 all_goals conv => whnf
 all_goals subst hb; rfl
theorem q_CheckRange (n l h : Int) : PC 96 [DV.int .i64 (n), DV.int .i64 (l), DV.int .i64 (h)] (DV.int .i64 (withE n l h)) := by
 refine pureCall_ofR dh96 rfl ?_
 conv => whnf
 refine ⟨fun hb => ?_, fun hb => ?_⟩ <;> try (exact absurd hb (by decide))
 all_goals conv => whnf
 ·refine .inl ?_
  conv => whnf
  refine ⟨_, q_When .., ?_⟩
  conv => whnf
  exact int_eq (by simp_all [withE, whenE]; split <;> split <;> omega)
 ·refine .inl ?_
  conv => whnf
  refine ⟨_, q_When .., ?_⟩
  conv => whnf
  exact int_eq (by simp_all [withE, whenE])
theorem q_First (l : List Int) (hl : l.length < 4611686018427387904) : PC 94 [iL l] (DV.int .i64 (firstE l)) := by
 refine pureCall_ofR dh94 rfl ?_
 conv => whnf
 refine dwp_loopR (P := Tryz.prog) (G := GC) (k := dk94_0) (b := db94_0) (α := Nat) (fun i => [(0, iL l), (3, DV.int .i64 (i))]) (fun _ => []) (fun i => i ≤ l.length ∧ firstE l = firstE (l.drop i)) (fun i => l.length - i) 0 ⟨rfl, rfl, rfl⟩ ⟨Nat.zero_le _, rfl⟩ ?_
 intro i ⟨h1, h2⟩
 conv => whnf
 refine ⟨fun hb => ?_, fun hb => ?_⟩ <;> try (exact absurd hb (by decide))
 ·have hi : i < l.length := by simpa using hb
  have hd := firstE_drop l i hi
  conv => whnf
  rw [getD_enc _ _ (i) 0 hi]
  refine ⟨idxA hi rfl, ?_⟩
  conv => whnf
  refine ⟨fun hb => ?_, fun hb => ?_⟩ <;> try (exact absurd hb (by decide))
  ·conv => whnf
   rw [getD_enc _ _ (i) 0 hi]
   refine ⟨idxA hi rfl, ?_⟩
   conv => whnf
   exact int_eq (by simp_all)
  ·conv => whnf
   rw [wrap_succ i (by omega)]
   exact ⟨i + 1, rfl, rfl, rfl, ⟨hi, by simp_all⟩, by omega⟩
 ·conv => whnf
  have : i = l.length := by simp at hb; omega
  subst this
  exact int_eq (by rw [h2]; simp [firstE])
end Sh

set_option linter.unusedSimpArgs false
set_option linter.unusedVariables false
namespace Sh
open Go
theorem nrmV_ref (s : List V3) : crsV (subV (s.getD 1 V0) (s.getD 0 V0)) (subV (s.getD 2 V0) (s.getD 0 V0)) = nrmV s := by
 unfold nrmV crsV subV
 simp only [V3.mk.injEq]
 refine ⟨?_, ?_, ?_⟩ <;> grind
end Sh

set_option maxRecDepth 100000
set_option linter.unusedSimpArgs false
set_option linter.unusedVariables false
namespace Sh
open Go Go.Proofs
theorem r_less (a b : V3) (ha : bdV G9 a) (hb : bdV G9 b) : PC 101 [encV a, encV b] (encV (subV a b)) := by
 have e1 := sub_w ha.1 hb.1
 have e2 := sub_w ha.2.1 hb.2.1
 have e3 := sub_w ha.2.2 hb.2.2
 refine pureCall_ofR dh101 rfl ?_
 conv => whnf
 repeat' (first
  |(refine ⟨fun hg => ?_, fun hg => ?_⟩ <;> first | contradiction | (conv => whnf))
  |(refine Or.inl ?_; conv => whnf)
  |(refine And.intro ?_ ?_; kernel_rfl; conv => whnf))
 exact int3_eq e1 e2 e3
theorem r_dot (a b : V3) (ha : bdV G9 a) (hb : bdV G9 b) : PC 99 [encV a, encV b] (DV.int .i64 (dotV a b)) := by
 refine pureCall_ofR dh99 rfl ?_
 conv => whnf
 repeat' (first
  |(refine ⟨fun hg => ?_, fun hg => ?_⟩ <;> first | contradiction | (conv => whnf))
  |(refine Or.inl ?_; conv => whnf)
  |(refine And.intro ?_ ?_; kernel_rfl; conv => whnf))
 exact int_eq (dot_w ha hb)
theorem r_cross (a b : V3) (ha : bdV G9 a) (hb : bdV G9 b) : PC 102 [encV a, encV b] (encV (crsV a b)) := by
 refine pureCall_ofR dh102 rfl ?_
 conv => whnf
 repeat' (first
  |(refine ⟨fun hg => ?_, fun hg => ?_⟩ <;> first | contradiction | (conv => whnf))
  |(refine Or.inl ?_; conv => whnf)
  |(refine And.intro ?_ ?_; kernel_rfl; conv => whnf))
 exact int3_eq (crs_w ha.2.1 hb.2.2 ha.2.2 hb.2.1) (crs_w ha.2.2 hb.1 ha.1 hb.2.2) (crs_w ha.1 hb.2.1 ha.2.1 hb.1)
end Sh

set_option maxRecDepth 100000
set_option linter.unusedSimpArgs false
set_option linter.unusedVariables false
namespace Sh
open Go Go.Proofs
theorem r_normal (s : List V3) (h : OkS s) : PC 98 [shp s] (encV (nrmV s)) := by
 have h3 := h.1
 have b0 := h.at (i := 0) (by omega)
 have b1 := h.at (i := 1) (by omega)
 have b2 := h.at (i := 2) (by omega)
 have k1 := r_less (s.getD 1 V0) (s.getD 0 V0) (bd9 b1 (by decide)) (bd9 b0 (by decide))
 have k2 := r_less (s.getD 2 V0) (s.getD 0 V0) (bd9 b2 (by decide)) (bd9 b0 (by decide))
 have k3 := r_cross _ _ (bd9 (subV_bd b1 b0) (by decide)) (bd9 (subV_bd b2 b0) (by decide))
 refine pureCall_ofR dh98 rfl ?_
 conv => whnf
 repeat' (first
  |(refine ⟨fun hg => ?_, fun hg => ?_⟩ <;> first | contradiction | (conv => whnf))
  |(refine Or.inl ?_; conv => whnf)
  |(rw [getD_enc' _ _ 0 V0 (by decide) (by omega)]; refine ⟨idxB (by decide) (by omega) rfl, ?_⟩; conv => whnf)
  |(rw [getD_enc' _ _ 1 V0 (by decide) (by omega)]; refine ⟨idxB (by decide) (by omega) rfl, ?_⟩; conv => whnf)
  |(rw [getD_enc' _ _ 2 V0 (by decide) (by omega)]; refine ⟨idxB (by decide) (by omega) rfl, ?_⟩; conv => whnf)
  |(refine ⟨_, k1, ?_⟩; conv => whnf)
  |(refine ⟨_, k2, ?_⟩; conv => whnf)
  |(refine ⟨_, k3, ?_⟩; conv => whnf)
  |(refine And.intro ?_ ?_; kernel_rfl; conv => whnf))
 rw [nrmV_ref]; rfl
theorem mod_w2 (i n : Nat) (hn : 0 < n) (hi : i < 1000000000) : (IntKind.i64.wrap ((i : Int) + 2)).tmod (n : Int) = (((i + 2) % n : Nat) : Int) := mod_w i 2 n hn (by omega)
theorem r_convex (s : List V3) (h : OkS s) : PC 97 [shp s] (.bool (flat_ s)) := by
 have e0 : ((s.map encV).length : Int) = s.length := by simp
 have h3 := h.1
 have h6 := h.2.1
 have b0 := h.at (i := 0) (by omega)
 have hn := h.nrm
 refine pureCall_ofR dh97 rfl ?_
 conv => whnf
 repeat' (first
  |(refine ⟨fun hg => ?_, fun hg => ?_⟩ <;> first | contradiction | (conv => whnf))
  |(refine Or.inl ?_; conv => whnf)
  |(refine ⟨_, r_normal _ h, ?_⟩; conv => whnf)
  |(refine And.intro ?_ ?_; kernel_rfl; conv => whnf))
 refine dwp_loopU (P := Tryz.prog) (G := GC) (k := dk97_1) (b := db97_1) (α := Nat) (fun i => [(4, DV.int .i64 (i))]) (fun _ => [(3, .box 3 (encV (nrmV s)))]) (fun i => i ≤ s.length ∧ (List.range i).all (flatI s) = true) (fun i => s.length - i) 0 ⟨Nat.zero_le _, rfl⟩ ?_
 conv => whnf
 refine ⟨rfl, rfl, ?_⟩
 conv => whnf
 refine ⟨rfl, ?_⟩
 intro i ⟨h1, h2⟩
 conv => whnf
 refine ⟨fun hb => ?_, fun hb => ?_⟩
 ·have hi : i < s.length := by simpa using hb
  have bi := h.at hi
  have bs := h.side hi
  have bx := subV_bd (h.aft (i + 1)) (h.aft i)
  have e2 : s.getD ((i + 2) % s.length) V0 = aft s (i + 1) := rfl
  have e1 : s.getD ((i + 1) % s.length) V0 = aft s i := rfl
  have k3 := r_less (aft s i) (s.getD i V0) (bd9 (h.aft i) (by decide)) (bd9 bi (by decide))
  have k4 := r_less (aft s (i + 1)) (aft s i) (bd9 (h.aft (i + 1)) (by decide)) (bd9 (h.aft i) (by decide))
  have k5 := r_less (s.getD i V0) (s.getD 0 V0) (bd9 bi (by decide)) (bd9 b0 (by decide))
  have k6 := r_dot _ _ (bd9 hn (by decide)) (bd9 (subV_bd bi b0) (by decide))
  have k7 := r_cross _ _ (bd9 bs (by decide)) (bd9 bx (by decide))
  have k8 := r_dot _ _ (bd9 hn (by decide)) (bd9 (crsV_bd bs bx) (by decide))
  have hm1 := Nat.mod_lt (i + 1) (show 0 < s.length by omega)
  have hm2 := Nat.mod_lt (i + 2) (show 0 < s.length by omega)
  have hw1 := mod_w1 i s.length (by omega) (by omega)
  have hw2 := mod_w2 i s.length (by omega) (by omega)
  have hI : (List.range (i + 1)).all (flatI s) = flatI s i := by rw [List.range_succ, List.all_append, h2]; simp
  have hF : flatI s i = false → flat_ s = false := fun e => by
   unfold flat_
   rw [List.all_eq_false]
   exact ⟨i, List.mem_range.2 hi, by rw [e]; simp⟩
  clear hb
  conv => whnf
  rw [getD_enc _ _ (i) V0 hi]
  refine ⟨idxA hi rfl, ?_⟩
  conv => whnf
  rw [e0]
  refine ⟨by omega, ?_⟩
  conv => whnf
  rw [hw1]
  rw [getD_enc _ _ ((i + 1) % s.length) V0 hm1]
  refine ⟨idxA hm1 rfl, ?_⟩
  conv => whnf
  rw [e0]
  refine ⟨by omega, ?_⟩
  conv => whnf
  rw [hw2]
  rw [getD_enc _ _ ((i + 2) % s.length) V0 hm2]
  refine ⟨idxA hm2 rfl, ?_⟩
  conv => whnf
  rw [e1, e2]
  repeat' (first
   |(refine ⟨fun hg => ?_, fun hg => ?_⟩ <;> first | contradiction | (conv => whnf))
   |(refine Or.inl ?_; conv => whnf)
   |(refine ⟨_, k3, ?_⟩; conv => whnf)
   |(refine ⟨_, k4, ?_⟩; conv => whnf)
   |(rw [getD_enc' _ _ 0 V0 (by decide) (by omega)]; refine ⟨idxB (by decide) (by omega) rfl, ?_⟩; conv => whnf)
   |(refine ⟨_, k5, ?_⟩; conv => whnf)
   |(refine ⟨_, k6, ?_⟩; conv => whnf)
   |(refine ⟨_, k7, ?_⟩; conv => whnf)
   |(refine ⟨_, k8, ?_⟩; conv => whnf)
   |(refine And.intro ?_ ?_; kernel_rfl; conv => whnf))
  ·have hg := of_decide_eq_true (show decide (dotV (nrmV s) (crsV (sideV s i) (subV (aft s (i + 1)) (aft s i))) ≤ 0) = true from hg)
   show DV.bool false = DV.bool (flat_ s)
   rw [hF (by unfold flatI flatA; rw [decide_eq_false (by omega : ¬ 0 < dotV (nrmV s) (crsV (sideV s i) (subV (aft s (i + 1)) (aft s i)))), Bool.and_false, Bool.false_and])]
  ·have hg2 := of_decide_eq_false (show decide (dotV (nrmV s) (crsV (sideV s i) (subV (aft s (i + 1)) (aft s i))) ≤ 0) = false from hg)
   have hg1 := of_decide_eq_false ‹decide (dotV (nrmV s) (subV (s.getD i V0) (s.getD 0 V0)) ≠ 0) = false›
   have hA : flatA s i = true := by
    unfold flatA
    rw [decide_eq_true (Classical.not_not.1 hg1), decide_eq_true (by omega)]; rfl
   clear hg hg1 hg2
   refine dwp_loopU (P := Tryz.prog) (G := GC) (k := dk97_0) (b := db97_0) (α := Nat) (fun j => [(8, DV.int .i64 (j))]) (fun _ => [(3, .box 3 (encV (nrmV s))), (5, .box 3 (encV (s.getD i V0))), (6, .box 3 (encV (aft s i))), (7, .box 3 (encV (aft s (i + 1))))]) (fun j => j ≤ s.length ∧ (s.take j).all (flatK s i) = true) (fun j => s.length - j) 0 ⟨Nat.zero_le _, rfl⟩ ?_
   conv => whnf
   refine ⟨rfl, rfl, ?_⟩
   conv => whnf
   refine ⟨rfl, ?_⟩
   intro j ⟨j1, j2⟩
   conv => whnf
   refine ⟨fun hb => ?_, fun hb => ?_⟩
   ·have hj : j < s.length := by simpa using hb
    have bj := h.at hj
    have k9 := r_less (s.getD j V0) (s.getD i V0) (bd9 bj (by decide)) (bd9 bi (by decide))
    have k10 := r_cross _ _ (bd9 bs (by decide)) (bd9 (subV_bd bj bi) (by decide))
    have k11 := r_dot _ _ (bd9 hn (by decide)) (bd9 (crsV_bd bs (subV_bd bj bi)) (by decide))
    have hJ : (s.take (j + 1)).all (flatK s i) = flatK s i (s.getD j V0) := by rw [take_snoc s j V0 hj, List.all_append, j2]; simp
    clear hb
    conv => whnf
    repeat' (first
     |(refine ⟨fun hg => ?_, fun hg => ?_⟩ <;> first | contradiction | (conv => whnf))
     |(refine Or.inl ?_; conv => whnf)
     |(refine ⟨_, k3, ?_⟩; conv => whnf)
     |(rw [getD_enc _ _ j V0 hj]; refine ⟨idxA hj rfl, ?_⟩; conv => whnf)
     |(refine ⟨_, k9, ?_⟩; conv => whnf)
     |(refine ⟨_, k10, ?_⟩; conv => whnf)
     |(refine ⟨_, k11, ?_⟩; conv => whnf)
     |(refine And.intro ?_ ?_; kernel_rfl; conv => whnf))
    ·have hg := of_decide_eq_true hg
     show DV.bool false = DV.bool (flat_ s)
     rw [hF (by
      unfold flatI
      have : s.all (flatK s i) = false := by
       rw [List.all_eq_false]
       exact ⟨_, getD_in V0 hj, by unfold flatK; rw [decide_eq_false (by omega)]; simp⟩
      rw [this, Bool.and_false])]
    ·have hg := of_decide_eq_false hg
     rw [wrap_succ j (by omega)]
     exact ⟨j + 1, rfl, rfl, rfl, ⟨hj, by rw [hJ]; exact decide_eq_true (by omega)⟩, by omega⟩
   ·have hj : j = s.length := by have := of_decide_eq_false hb; rw [e0] at this; omega
    rw [hj, List.take_length] at j2
    clear hb
    conv => whnf
    rw [wrap_succ i (by omega)]
    exact ⟨i + 1, rfl, rfl, rfl, ⟨hi, by rw [hI]; unfold flatI; rw [hA, j2]; rfl⟩, by omega⟩
  ·have hg := of_decide_eq_true (show decide (dotV (nrmV s) (subV (s.getD i V0) (s.getD 0 V0)) ≠ 0) = true from ‹decide (dotV (nrmV s) (subV (s.getD i V0) (s.getD 0 V0)) ≠ 0) = !false›)
   show DV.bool false = DV.bool (flat_ s)
   rw [hF (by unfold flatI flatA; rw [decide_eq_false hg, Bool.false_and, Bool.false_and])]
 ·have hi : i = s.length := by have := of_decide_eq_false hb; rw [e0] at this; omega
  rw [hi] at h2
  clear hb
  conv => whnf
  show DV.bool true = DV.bool (flat_ s)
  rw [show flat_ s = true from h2]
end Sh

set_option maxRecDepth 100000
set_option linter.unusedSimpArgs false
set_option linter.unusedVariables false
namespace Sh
open Go Go.Proofs
theorem firstE_skip {a b : Int} (x : Int) (h : ¬ firstE [a, b] ≠ 0) : firstE [a, b, x] = x := by
 obtain ⟨h1, h⟩ := firstE_cons (Classical.not_not.1 h)
 obtain ⟨h2, _⟩ := firstE_cons h
 simp [firstE, h1, h2]
 intro h; exact h.symm
theorem firstE_keep {a b : Int} (x : Int) (h : firstE [a, b] ≠ 0) : firstE [a, b, x] = firstE [a, b] := by
 simp only [firstE] at *
 split
 ·rfl
 ·rename_i ha
  rw [if_neg ha] at h
  split
  ·rfl
  ·rename_i hb; rw [if_neg hb] at h; exact absurd rfl h
theorem map_getD {α : Type} (g : α → Int) (l : List α) (i : Nat) (d : α) (h : i < l.length) : (l.map g).getD i 0 = g (l.getD i d) := by simp [List.getD_eq_getElem?_getD, h]
theorem r_CheckShape (s : List V3) (hl : s.length < 1073741824) : PC 21 [shp s] (DV.int .i64 (chkShp s)) := by
 have e0 : ((s.map encV).length : Int) = s.length := by simp
 refine pureCall_ofR dh21 rfl ?_
 conv => whnf
 repeat' (first
  |(refine ⟨fun hg => ?_, fun hg => ?_⟩ <;> first | contradiction | (conv => whnf))
  |(refine Or.inl ?_; conv => whnf)
  |(refine ⟨_, q_When .., ?_⟩; conv => whnf)
  |(refine ⟨_, q_First [_, _] (by simp), ?_⟩; conv => whnf)
  |(refine And.intro ?_ ?_; kernel_rfl; conv => whnf))
 ·have hg := of_decide_eq_true hg
  rw [e0] at hg
  exact int_eq (by rw [e0]; unfold chkShp sizeS; rw [firstE_keep _ hg, if_pos hg])
 ·have hg := of_decide_eq_false hg
  rw [e0] at hg
  have hsz : sizeS s = firstE (s.map chkCor) := by unfold sizeS; rw [firstE_skip _ hg]
  refine dwp_loopU (P := Tryz.prog) (G := GC) (k := dk21_0) (b := db21_0) (α := Nat) (fun i => [(4, DV.int .i64 (i))]) (fun _ => []) (fun i => i ≤ s.length ∧ firstE (s.map chkCor) = firstE ((s.map chkCor).drop i)) (fun i => s.length - i) 0 ⟨Nat.zero_le _, rfl⟩ ?_
  conv => whnf
  refine ⟨rfl, rfl, ?_⟩
  conv => whnf
  refine ⟨rfl, ?_⟩
  intro i ⟨h1, h2⟩
  conv => whnf
  refine ⟨fun hb => ?_, fun hb => ?_⟩
  ·have hi : i < s.length := by simpa using hb
   have hd := firstE_drop (s.map chkCor) i (by rw [List.length_map]; exact hi)
   rw [map_getD chkCor s i V0 hi] at hd
   clear hb
   conv => whnf
   repeat' (first
    |(refine ⟨fun hg => ?_, fun hg => ?_⟩ <;> first | contradiction | (conv => whnf))
    |(refine Or.inl ?_; conv => whnf)
    |(rw [getD_enc _ _ i V0 hi]; refine ⟨idxA hi rfl, ?_⟩; conv => whnf)
    |(refine ⟨_, q_CheckRange .., ?_⟩; conv => whnf)
    |(refine ⟨_, q_First [_, _, _] (by simp), ?_⟩; conv => whnf)
    |(refine And.intro ?_ ?_; kernel_rfl; conv => whnf))
   ·have hg := of_decide_eq_true (show decide (chkCor (s.getD i V0) ≠ 0) = true from hg)
    rw [if_pos hg] at hd
    exact int_eq (by unfold chkShp; rw [hsz, h2, hd, if_pos hg]; rfl)
   ·have hg := of_decide_eq_false (show decide (chkCor (s.getD i V0) ≠ 0) = false from hg)
    rw [if_neg hg] at hd
    rw [wrap_succ i (by omega)]
    exact ⟨i + 1, rfl, rfl, rfl, ⟨hi, h2.trans hd⟩, by omega⟩
  ·have hi : i = s.length := by have := of_decide_eq_false hb; rw [e0] at this; omega
   rw [hi, List.drop_of_length_le (by rw [List.length_map]; exact Nat.le_refl _)] at h2
   have hz : sizeS s = 0 := hsz.trans h2
   clear hb
   conv => whnf
   repeat' (first
    |(refine ⟨fun hg => ?_, fun hg => ?_⟩ <;> first | contradiction | (conv => whnf))
    |(refine Or.inl ?_; conv => whnf)
    |(refine ⟨_, r_convex s (sizeS_zero hz), ?_⟩; conv => whnf)
    |(refine ⟨_, q_When .., ?_⟩; conv => whnf)
    |(refine And.intro ?_ ?_; kernel_rfl; conv => whnf))
   exact int_eq (by unfold chkShp; rw [if_neg (by omega)])
end Sh

set_option maxRecDepth 100000
set_option linter.unusedSimpArgs false
set_option linter.unusedVariables false
namespace Sh
open Go Go.Proofs
def cpR {α : Type} (enc : α → DV) (l : List α) (i : Nat) : List DV := (l.take i).map enc
theorem cpR_len {α : Type} (enc : α → DV) (l : List α) (i : Nat) (h : i ≤ l.length) : (cpR enc l i).length = i := by simp [cpR]; omega
theorem cpR_succ {α : Type} (enc : α → DV) (l : List α) (i : Nat) (d : α) (h : i < l.length) : cpR enc l (i + 1) = cpR enc l i ++ [enc (l.getD i d)] := take_map_succ _ l i d h
theorem cpR_all {α : Type} (enc : α → DV) (l : List α) : cpR enc l l.length = l.map enc := by unfold cpR; rw [List.take_length]
end Sh

set_option maxRecDepth 100000
set_option linter.unusedSimpArgs false
set_option linter.unusedVariables false
namespace Sh
open Go Go.Proofs
theorem r_Owned (l : List (List V3)) (hl : l.length < 1073741824) (hs : ∀ s ∈ l, s.length < 1073741824) : PC 93 [shps l] (shps l) := by
 have e0 : ((l.map shp).length : Int) = l.length := by simp
 refine pureCall_ofR dh93 rfl ?_
 conv => whnf
 refine dwp_loopU (P := Tryz.prog) (G := GC) (k := dk93_0) (b := db93_0) (α := Nat) (fun i => [(3, .own 3 0 (cpR shp l i).length (cpR shp l i).length), (4, DV.int .i64 (i))]) (fun i => [(3, .row 1 (cpR shp l i) false)]) (fun i => i ≤ l.length) (fun i => l.length - i) 0 (Nat.zero_le _) ?_
 conv => whnf
 refine ⟨rfl, rfl, ?_⟩
 conv => whnf
 refine ⟨rfl, ?_⟩
 intro i h1
 conv => whnf
 refine ⟨fun hb => ?_, fun hb => ?_⟩
 ·have hi : i < l.length := by simpa using hb
  have hln := cpR_len shp l i h1
  have hsl := hs _ (getD_in [] hi)
  clear hb
  conv => whnf
  rw [getD_enc _ _ (i) [] hi]
  refine ⟨idxA hi rfl, ?_⟩
  conv => whnf
  refine ⟨⟨by rw [List.length_map, List.reverse_nil, List.length_nil]; omega, fun e he => by obtain ⟨v, _, rfl⟩ := List.mem_map.1 he; rfl, fun e he => absurd he List.not_mem_nil⟩, ?_⟩
  conv => whnf
  repeat' (first
   |(refine ⟨fun hg => ?_, fun hg => ?_⟩ <;> first | contradiction | (conv => whnf))
   |(refine Or.inl ?_; conv => whnf)
   |(refine ⟨⟨rfl, rfl, rfl, by rw [hln]; simp; omega, fun e he => by simp at he; subst he; rfl⟩, ?_⟩; conv => whnf)
   |(refine And.intro ?_ ?_; kernel_rfl; conv => whnf))
  rw [wrap_succ i (by omega)]
  refine ⟨i + 1, rfl, ?_, ?_, hi, by omega⟩
  ·rw [cpR_succ shp l i [] hi]; rfl
  ·rw [cpR_succ shp l i [] hi]; rfl
 ·have hi : i = l.length := by have := of_decide_eq_false hb; rw [e0] at this; omega
  clear hb
  conv => whnf
  exact ⟨rfl, by rw [window_full, hi, cpR_all]; rfl⟩
theorem l_all (l : List (List V3)) (hl : l.length < 1073741824) (hs : ∀ s ∈ l, s.length < 1073741824) : PC 19 [shps l] (shps l) := by
 have k1 := r_Owned l hl hs
 refine pureCall_ofR dh19 rfl ?_
 conv => whnf
 repeat' (first
  |(refine ⟨fun hg => ?_, fun hg => ?_⟩ <;> first | contradiction | (conv => whnf))
  |(refine Or.inl ?_; conv => whnf)
  |(refine ⟨_, k1, ?_⟩; conv => whnf)
  |(refine And.intro ?_ ?_; kernel_rfl; conv => whnf))
 rfl
end Sh

set_option linter.unusedSimpArgs false
set_option linter.unusedVariables false
namespace Sh
open Go
theorem all_head {s : List UInt8} (h : s.all isD = true) (h0 : s ≠ []) : isD (s.getD 0 0) = true := by
 cases s with
 |nil => exact absurd rfl h0
 |cons a r => rw [List.all_cons, Bool.and_eq_true] at h; exact h.1
theorem isD_45 {c : UInt8} (h : isD c = true) : c ≠ 45 := fun e => by rw [e] at h; cases h
theorem dec_head (u : Nat) : (Lib.decDigits u).getD 0 0 ≠ 45 := isD_45 (all_head (dec_spec u).1 (dec_spec u).2.2.1)
theorem itoa_neg' {u : Nat} (h : 0 < u) : Lib.itoa (-(u : Int)) = 45 :: Lib.decDigits u := by
 unfold Lib.itoa; rw [if_pos (by omega)]; simp
theorem sgnS_itoa {n : Int} (h0 : -999999999 ≤ n) (h1 : n ≤ 999999999) : sgnS (Lib.itoa n) = (n, true) := by
 by_cases hn : 0 ≤ n
 ·have h2 := digS_itoa hn h1
  obtain ⟨u, rfl⟩ := Int.eq_ofNat_of_zero_le hn
  unfold sgnS
  rw [if_neg (by rw [itoa_nat]; exact dec_head u), h2]
 ·obtain ⟨u, rfl⟩ : ∃ u : Nat, n = -(u : Int) := ⟨n.natAbs, by omega⟩
  have h2 := digS_itoa (n := (u : Int)) (by omega) (by omega)
  rw [itoa_nat] at h2
  rw [itoa_neg' (by omega)]
  unfold sgnS
  rw [if_pos (show (45 :: Lib.decDigits u).getD 0 0 = 45 from rfl), List.drop_succ_cons, List.drop_zero, h2, decide_eq_true (show (0 : Int) < u by omega)]
  simp
theorem itoa_notZ {b : UInt8} (hb : isD b = false) (h45 : b ≠ 45) (n : Int) : b ∉ Lib.itoa n := by
 by_cases hn : 0 ≤ n
 ·exact itoa_not hb hn
 ·obtain ⟨u, rfl⟩ : ∃ u : Nat, n = -(u : Int) := ⟨n.natAbs, by omega⟩
  have := itoa_not hb (n := (u : Int)) (by omega)
  rw [itoa_nat] at this
  rw [itoa_neg' (by omega), List.mem_cons, not_or]
  exact ⟨h45, this⟩
theorem split_wnZ : ∀ (a : List UInt8) (ns : List Int), 32 ∉ a → splitC 32 (a ++ wn ns) = a :: ns.map Lib.itoa
 |a, [], h => by rw [wn_nil, List.append_nil, splitC_one h]; rfl
 |a, n :: r, h => by
  rw [wn_cons, splitC_app _ h, split_wnZ (Lib.itoa n) r (itoa_notZ (by decide) (by decide) n)]; rfl
theorem wn_notZ {b : UInt8} (hb : isD b = false) (h32 : b ≠ 32) (h45 : b ≠ 45) : ∀ (ns : List Int), b ∉ wn ns
 |[] => by rw [wn_nil]; simp
 |n :: r => by
  rw [wn_cons]
  simp only [List.mem_cons, List.mem_append, not_or]
  exact ⟨h32, itoa_notZ hb h45 n, wn_notZ hb h32 h45 r⟩
theorem dec_valD : ∀ (k : Nat) (s : List UInt8), s.length = k + 1 → s.all isD = true → (s.length = 1 ∨ s.getD 0 0 ≠ 48) → Lib.decDigits (valD s 0).toNat = s
 |0, s, hl, h, _ => by
  obtain ⟨c, rfl⟩ := List.length_eq_one_iff.1 hl
  rw [List.all_cons, Bool.and_eq_true] at h
  have hc := (isD_iff c).1 h.1
  have e : (valD [c] 0).toNat = c.toNat - 48 := by simp only [valD]; omega
  rw [e, Lib.decDigits, dif_pos (by omega), show 48 + (c.toNat - 48) = c.toNat by omega]
  simp
 |k + 1, s, hl, h, h48 => by
  have hne : s ≠ [] := fun e => by rw [e] at hl; simp at hl
  obtain ⟨t, c, rfl⟩ : ∃ t c, s = t ++ [c] := ⟨s.dropLast, s.getLast hne, (List.dropLast_concat_getLast hne).symm⟩
  have htl : t.length = k + 1 := by simpa using hl
  have ht0 : t ≠ [] := fun e => by rw [e] at htl; simp at htl
  have hhd : (t ++ [c]).getD 0 0 = t.getD 0 0 := by
   cases t with
   |nil => exact absurd rfl ht0
   |cons a r => rfl
  have h48 : t.getD 0 0 ≠ 48 := by
   rcases h48 with h | h
   ·omega
   ·rw [hhd] at h; exact h
  rw [List.all_append, Bool.and_eq_true] at h
  have hc := (isD_iff c).1 (by simpa [List.all] using h.2)
  have ih := dec_valD k t htl h.1 (.inr h48)
  have hp := valD_pos h.1 ht0 h48
  have ev : valD (t ++ [c]) 0 = 10 * valD t 0 + ((c.toNat : Int) - 48) := by rw [valD_append]; rfl
  generalize valD t 0 = v at *
  have e1 : (10 * v + ((c.toNat : Int) - 48)).toNat / 10 = v.toNat := by omega
  have e2 : (10 * v + ((c.toNat : Int) - 48)).toNat % 10 = c.toNat - 48 := by omega
  rw [ev, Lib.decDigits, dif_neg (by omega), e1, e2, ih, show 48 + (c.toNat - 48) = c.toNat by omega]
  simp
theorem itoa_digS {s : List UInt8} (h : (digS s).2 = true) : 0 ≤ (digS s).1 ∧ Lib.itoa (digS s).1 = s := by
 obtain ⟨h1, h2, h3, h4, h5⟩ := digS_true h
 have h0 := valD_ge s 0 h1 (Int.le_refl _)
 have hl := List.length_pos_iff.2 h2
 rw [h5]
 refine ⟨h0, ?_⟩
 have := dec_valD (s.length - 1) s (by omega) h1 h4
 unfold Lib.itoa
 rw [if_neg (by omega), this]
theorem itoa_sgnS {s : List UInt8} (h : (sgnS s).2 = true) : Lib.itoa (sgnS s).1 = s := by
 unfold sgnS at h ⊢
 by_cases h45 : s.getD 0 0 = 45
 ·rw [if_pos h45] at h ⊢
  rw [Bool.and_eq_true, decide_eq_true_eq] at h
  obtain ⟨h1, h2⟩ := itoa_digS h.1
  have hp := h.2
  cases s with
  |nil => cases h45
  |cons a r =>
   have ha : a = 45 := h45
   subst ha
   rw [List.drop_succ_cons, List.drop_zero] at *
   generalize (digS r).1 = v at *
   obtain ⟨u, rfl⟩ := Int.eq_ofNat_of_zero_le h1
   rw [itoa_nat] at h2
   rw [show (0 : Int) - (u : Int) = -(u : Int) by omega, itoa_neg' (by omega), h2]
 ·rw [if_neg h45] at h ⊢
  exact (itoa_digS h).2
def unsplit (b : UInt8) : List (List UInt8) → List UInt8
 |[] => []
 |[x] => x
 |x :: y :: r => x ++ b :: unsplit b (y :: r)
theorem unsplit_cons (b : UInt8) (x : List UInt8) {r : List (List UInt8)} (h : r ≠ []) : unsplit b (x :: r) = x ++ b :: unsplit b r := by
 cases r with
 |nil => exact absurd rfl h
 |cons y r => rfl
theorem unsplit_split (b : UInt8) : ∀ s : List UInt8, unsplit b (splitC b s) = s
 |[] => rfl
 |c :: r => by
  have ih := unsplit_split b r
  have hn := splitC_ne b r
  unfold splitC
  by_cases h : c = b
  ·rw [if_pos h, unsplit_cons b [] hn, ih, h]; rfl
  ·rw [if_neg h]
   cases hs : splitC b r with
   |nil => exact absurd hs hn
   |cons a t =>
    rw [hs] at ih
    simp only [glue]
    cases t with
    |nil => have ih : a = r := ih; subst ih; rfl
    |cons d u =>
     have ih : a ++ b :: unsplit b (d :: u) = r := ih
     show ([c] ++ a) ++ b :: unsplit b (d :: u) = c :: r
     rw [← ih]; simp
theorem unsplit_lines : ∀ (rows : List (List UInt8)) (m : Nat), rows.length = m + 1 → unsplit 10 rows = (rows.take m).flatMap (· ++ [10]) ++ rows.getD m []
 |[], m, h => by simp at h
 |[x], m, h => by
  have : m = 0 := by simp at h; omega
  subst this; rfl
 |x :: y :: r, m, h => by
  obtain ⟨k, rfl⟩ : ∃ k, m = k + 1 := ⟨m - 1, by simp at h; omega⟩
  have ih := unsplit_lines (y :: r) k (by simpa using h)
  show x ++ 10 :: unsplit 10 (y :: r) = _
  rw [ih]; simp
theorem unsplit_words : ∀ (a : List UInt8) (r : List (List UInt8)), unsplit 32 (a :: r) = a ++ Lib.joinTail [32] r
 |a, [] => by simp [unsplit, Lib.joinTail]
 |a, y :: r => by
  rw [unsplit_cons 32 a (by simp), unsplit_words y r]
  simp [Lib.joinTail]
theorem split_rows : ∀ (rows : List (List UInt8)) (z : List UInt8), (∀ r ∈ rows, 10 ∉ r) → 10 ∉ z → splitC 10 (rows.flatMap (· ++ [10]) ++ z) = rows ++ [z]
 |[], z, _, hz => by show splitC 10 z = [z]; exact splitC_one hz
 |x :: r, z, h, hz => by
  have ih := split_rows r z (fun y hy => h y (List.mem_cons_of_mem _ hy)) hz
  rw [List.flatMap_cons, show (x ++ [10] ++ List.flatMap (· ++ [10]) r) ++ z = x ++ 10 :: (List.flatMap (· ++ [10]) r ++ z) by simp, splitC_app _ (h x (List.mem_cons_self ..)), ih]
  rfl
end Sh

set_option maxRecDepth 100000
set_option linter.unusedSimpArgs false
set_option linter.unusedVariables false
namespace Sh
open Go Go.Proofs
theorem q_Split (s : List UInt8) (b : UInt8) (hs : s.length < 1073741824) : PC 83 [.str s, .int .u8 (b.toNat)] (.list ((splitC b s).map DV.str)) := by
 refine pureCall_ofR dh83 rfl ?_
 conv => whnf
 refine dwp_loopR (P := Tryz.prog) (G := GC) (k := dk83_0) (b := db83_0) (α := List (List UInt8) × Nat × Nat) (fun a => [(0, .str s), (1, .int .u8 (b.toNat)), (5, .own 5 0 (a.1.map DV.str).length (a.1.map DV.str).length), (6, DV.int .i64 ((a.2.1 : Nat))), (7, DV.int .i64 ((a.2.2 : Nat)))]) (fun a => [(5, .row 1 (a.1.map DV.str) false)]) (fun a => a.1.length ≤ a.2.2 ∧ a.2.1 ≤ a.2.2 ∧ a.2.2 ≤ s.length ∧ splitC b s = a.1 ++ glue (window s a.2.1 (a.2.2 - a.2.1)) (splitC b (s.drop a.2.2))) (fun a => s.length - a.2.2) ([], 0, 0) ⟨rfl, rfl, rfl⟩ ⟨Nat.le_refl _, Nat.le_refl _, Nat.zero_le _, (glue_nil (splitC_ne b s)).symm⟩ ?_
 intro ⟨O, f, i⟩ ⟨h0, h1, h2, h3⟩
 have h0 : O.length ≤ i := h0
 have h1 : f ≤ i := h1
 have h2 : i ≤ s.length := h2
 have h3 : splitC b s = O ++ glue (window s f (i - f)) (splitC b (s.drop i)) := h3
 dsimp only
 conv => whnf
 refine ⟨fun hb => ?_, fun hb => ?_⟩
 ·have hi : i < s.length := by have : (i : Int) < s.length := of_decide_eq_true hb; omega
  clear hb
  conv => whnf
  refine ⟨⟨by omega, by omega⟩, ?_⟩
  conv => whnf
  refine ⟨fun hq => ?_, fun hq => ?_⟩
  ·have hq : ((s.getD i 0).toNat : Int) = (b.toNat : Int) := of_decide_eq_true hq
   have hq : s.getD i 0 = b := UInt8.toNat_inj.1 (by omega)
   conv => whnf
   refine ⟨⟨by omega, by omega, by omega⟩, ?_⟩
   conv => whnf
   rw [show Int.toNat ((i : Int) - (f : Int)) = i - f by omega, Int.toNat_natCast]
   refine ⟨⟨rfl, rfl, rfl, by simp; omega, fun e he => by simp at he; subst he; rfl⟩, ?_⟩
   conv => whnf
   rw [wrap_succ i (by omega)]
   have hO : (O ++ [window s f (i - f)]).map DV.str = O.map DV.str ++ [DV.str (window s f (i - f))] := by simp
   refine ⟨(O ++ [window s f (i - f)], i + 1, i + 1), rfl, ?_, ?_, ⟨?_, Nat.le_refl _, hi, ?_⟩, ?_⟩
   ·dsimp only; rw [hO]; rfl
   ·dsimp only; rw [hO]; rfl
   ·show (O ++ [window s f (i - f)]).length ≤ i + 1; simp; omega
   ·show splitC b s = (O ++ [window s f (i - f)]) ++ glue (window s (i + 1) (i + 1 - (i + 1))) (splitC b (s.drop (i + 1)))
    rw [h3, splitC_yes hi hq, Nat.sub_self]
    have e1 : window s (i + 1) 0 = [] := by simp [window]
    rw [e1, glue_nil (splitC_ne _ _)]
    simp
   ·show s.length - (i + 1) < s.length - i; omega
  ·have hq : ¬ ((s.getD i 0).toNat : Int) = (b.toNat : Int) := of_decide_eq_false hq
   have hq : ¬ s.getD i 0 = b := fun e => hq (by rw [e])
   conv => whnf
   rw [wrap_succ i (by omega)]
   refine ⟨(O, f, i + 1), rfl, rfl, rfl, ⟨?_, ?_, hi, ?_⟩, ?_⟩
   ·show O.length ≤ i + 1; omega
   ·show f ≤ i + 1; omega
   ·show splitC b s = O ++ glue (window s f (i + 1 - f)) (splitC b (s.drop (i + 1)))
    rw [h3, splitC_no hi hq, window_snoc s f i h1 hi]
   ·show s.length - (i + 1) < s.length - i; omega
 ·have hi : i = s.length := by have : ¬ (i : Int) < s.length := of_decide_eq_false hb; omega
  clear hb
  conv => whnf
  refine ⟨⟨by omega, by omega, by omega⟩, ?_⟩
  conv => whnf
  rw [show Int.toNat ((s.length : Int) - (f : Int)) = s.length - f by omega, Int.toNat_natCast]
  refine ⟨⟨rfl, rfl, rfl, by simp; omega, fun e he => by simp at he; subst he; rfl⟩, ?_⟩
  conv => whnf
  refine ⟨rfl, ?_⟩
  rw [window_full]
  have hO : (O ++ [window s f (s.length - f)]).map DV.str = O.map DV.str ++ [DV.str (window s f (s.length - f))] := by simp
  have hS : splitC b s = O ++ [window s f (s.length - f)] := by
   rw [h3, hi, List.drop_length]
   simp [splitC, glue]
  rw [hS, hO]
  rfl
end Sh

set_option linter.unusedSimpArgs false
set_option linter.unusedVariables false
namespace Sh
open Go
theorem vecs_nums : ∀ s : List V3, vecs (numsV s) = s
 |[] => rfl
 |a :: r => by
  have ih := vecs_nums r
  show (⟨a.x, a.y, a.z⟩ : V3) :: vecs (numsV r) = a :: r
  rw [ih]
theorem nums_vecs : ∀ (l : List Int), l.length % 3 = 0 → numsV (vecs l) = l
 |[], _ => rfl
 |[x], h => by simp at h
 |[x, y], h => by simp at h
 |x :: y :: z :: r, h => by
  have := nums_vecs r (by simp at h; omega)
  show [x, y, z] ++ numsV (vecs r) = _
  rw [this]; rfl
theorem split_linB (s : List V3) : splitC 32 (linB s) = shpB :: (numsV s).map Lib.itoa := split_wnZ shpB (numsV s) (by decide)
theorem linB_not (s : List V3) : 10 ∉ linB s := by
 unfold linB
 rw [List.mem_append, not_or]
 exact ⟨by decide, wn_notZ (by decide) (by decide) (by decide) _⟩
theorem words_back (ns : List Int) (h : ∀ n ∈ ns, -1000 ≤ n ∧ n ≤ 1000) : (ns.map Lib.itoa).map (fun x => (sgnS x).1) = ns ∧ (ns.map Lib.itoa).all (fun x => (sgnS x).2) = true := by
 induction ns with
 |nil => exact ⟨rfl, rfl⟩
 |cons n r ih =>
  have hn := h n (List.mem_cons_self ..)
  have e := sgnS_itoa (n := n) (by omega) (by omega)
  obtain ⟨i1, i2⟩ := ih (fun m hm => h m (List.mem_cons_of_mem _ hm))
  refine ⟨?_, ?_⟩
  ·rw [List.map_cons, List.map_cons, e, i1]
  ·rw [List.map_cons, List.all_cons, e, i2]; rfl
theorem line_back {s : List V3} (h : OkS s) : wrongW (splitC 32 (linB s)) = false ∧ shpW (splitC 32 (linB s)) = s := by
 rw [split_linB]
 obtain ⟨h1, h2⟩ := words_back (numsV s) (numsV_bd h)
 refine ⟨?_, ?_⟩
 ·unfold wrongW badW
  rw [List.drop_succ_cons, List.drop_zero, h2, List.length_cons, List.length_map, numsV_len, decide_eq_true (show (3 * s.length + 1) % 3 = 1 by omega), decide_eq_true (show (shpB :: (numsV s).map Lib.itoa).getD 0 [] = shpB from rfl)]
  rfl
 ·unfold shpW numsW
  rw [List.drop_succ_cons, List.drop_zero, h1, vecs_nums]
theorem parE_none {rows : List (List UInt8)} : ∀ (n i : Nat), parE rows n i = none ↔ ∀ k, i ≤ k → k < i + n → wrongW (splitC 32 (rows.getD k [])) = false
 |0, i => ⟨fun _ k h1 h2 => by omega, fun _ => rfl⟩
 |n + 1, i => by
  have ih := parE_none (rows := rows) n (i + 1)
  unfold parE
  cases hw : wrongW (splitC 32 (rows.getD i [])) with
  |true =>
   rw [if_pos rfl]
   refine ⟨fun h => (nomatch h), fun h => ?_⟩
   have := h i (Nat.le_refl _) (by omega)
   rw [hw] at this; cases this
  |false =>
   rw [if_neg (by decide), ih]
   constructor
   ·intro h k h1 h2
    by_cases e : k = i
    ·subst e; exact hw
    ·exact h k (by omega) (by omega)
   ·intro h k h1 h2
    exact h k (by omega) (by omega)
theorem lines_back {l : List (List V3)} (h : ∀ s ∈ l, OkS s) {rows : List (List UInt8)} {m : Nat} (hm : m ≤ l.length) (hr : ∀ k, k < m → rows.getD k [] = linB (l.getD k [])) : parE rows m 0 = none ∧ (m ≤ rows.length → outW rows m = l.take m) := by
 refine ⟨(parE_none m 0).2 fun k _ hk => ?_, fun hml => ?_⟩
 ·rw [hr k (by omega)]
  exact (line_back (h _ (getD_in [] (by omega)))).1
 ·unfold outW
  apply List.ext_getElem
  ·simp; omega
  ·intro i i1 i2
   have hi : i < m := by simp at i1; omega
   have e1 := hr i hi
   have e2 := (line_back (h _ (getD_in [] (show i < l.length by omega)))).2
   rw [List.getElem_map, List.getElem_take, List.getElem_take]
   have g1 : rows.getD i [] = rows[i]'(by omega) := by simp [List.getD_eq_getElem?_getD, show i < rows.length by omega]
   have g2 : l.getD i [] = l[i]'(by omega) := by simp [List.getD_eq_getElem?_getD, show i < l.length by omega]
   rw [← g1, e1, e2, g2]
theorem prtH_rows (l : List (List V3)) : prtH l = (l.map linB).flatMap (· ++ [10]) := by
 unfold prtH; rw [List.flatMap_map]
theorem split_prtH (l : List (List V3)) : splitC 10 (prtH l) = l.map linB ++ [[]] := by
 have := split_rows (l.map linB) [] (fun r hr => by obtain ⟨s, _, rfl⟩ := List.mem_map.1 hr; exact linB_not s) (by simp)
 rw [List.append_nil] at this
 rw [prtH_rows, this]
theorem getD_mapB (l : List (List V3)) (z : List UInt8) (k : Nat) (h : k < l.length) : (l.map linB ++ [z]).getD k [] = linB (l.getD k []) := by
 simp [List.getD_eq_getElem?_getD, h, List.getElem?_append]
theorem par_prt {l : List (List V3)} (h : chkShps l = 0) : parS (prtH l) = (l, 0, 0) := by
 obtain ⟨h8, hs, _⟩ := chkShps_oks h
 have hl := prtH_len h8 hs
 obtain ⟨b1, b2⟩ := lines_back hs (rows := l.map linB ++ [[]]) (Nat.le_refl l.length) (fun k hk => getD_mapB l [] k hk)
 have b2 := b2 (by simp)
 rw [List.take_length] at b2
 unfold parS
 rw [if_neg (by omega), split_prtH, show (l.map linB ++ [([] : List UInt8)]).length - 1 = l.length by simp, b1, b2]
 have e : (l.map linB ++ [[]]).getD l.length [] = [] := by simp [List.getD_eq_getElem?_getD]
 rw [e]
 simp [h]
theorem par_cut {l : List (List V3)} (h : chkShps l = 0) (h0 : l ≠ []) : parS ((prtH l).take ((prtH l).length - 1)) = ([], ((l.length - 1 : Nat) : Int), 25) := by
 obtain ⟨h8, hs, _⟩ := chkShps_oks h
 have hl := prtH_len h8 hs
 obtain ⟨t, s, rfl⟩ : ∃ t s, l = t ++ [s] := ⟨l.dropLast, l.getLast h0, (List.dropLast_concat_getLast h0).symm⟩
 have e1 : prtH (t ++ [s]) = (prtH t ++ linB s) ++ [10] := by unfold prtH; simp
 have e2 : (prtH (t ++ [s])).take ((prtH (t ++ [s])).length - 1) = prtH t ++ linB s := by
  rw [e1]
  generalize prtH t ++ linB s = u
  rw [List.length_append]; simp
 have e3 : splitC 10 (prtH t ++ linB s) = t.map linB ++ [linB s] := by
  rw [prtH_rows]
  exact split_rows (t.map linB) (linB s) (fun r hr => by obtain ⟨s, _, rfl⟩ := List.mem_map.1 hr; exact linB_not s) (linB_not s)
 have b1 := (lines_back (fun x hx => hs x (List.mem_append_left _ hx)) (rows := t.map linB ++ [linB s]) (Nat.le_refl t.length) (fun k hk => getD_mapB t _ k hk)).1
 have e4 : (t.map linB ++ [linB s]).getD t.length [] = linB s := by simp [List.getD_eq_getElem?_getD]
 rw [e2]
 have hl2 : ¬ 4096 < (prtH t ++ linB s).length := by
  have := congrArg List.length e1
  rw [List.length_append] at this
  simp only [List.length_cons, List.length_nil] at this
  omega
 unfold parS
 rw [if_neg hl2, e3, show (t.map linB ++ [linB s]).length - 1 = t.length by simp, b1, e4]
 have hne : linB s ≠ [] := by unfold linB shpB; simp
 simp [hne]
theorem words_itoa : ∀ (r : List (List UInt8)), r.all (fun x => (sgnS x).2) = true → (r.map fun x => (sgnS x).1).map Lib.itoa = r
 |[], _ => rfl
 |x :: r, h => by
  rw [List.all_cons, Bool.and_eq_true] at h
  rw [List.map_cons, List.map_cons, itoa_sgnS h.1, words_itoa r h.2]
theorem line_same {r : List UInt8} (h : wrongW (splitC 32 r) = false) : linB (shpW (splitC 32 r)) = r := by
 have hu := unsplit_split 32 r
 generalize splitC 32 r = w at *
 unfold wrongW badW at h
 rw [Bool.or_eq_false_iff, Bool.not_eq_false', Bool.not_eq_false', Bool.and_eq_true, decide_eq_true_eq, decide_eq_true_eq] at h
 obtain ⟨⟨h1, h2⟩, h3⟩ := h
 cases w with
 |nil => simp at h2
 |cons a d =>
  have h1 : a = shpB := h1
  subst h1
  rw [List.drop_succ_cons, List.drop_zero] at h3
  rw [List.length_cons] at h2
  unfold linB shpW numsW
  rw [List.drop_succ_cons, List.drop_zero, nums_vecs _ (by rw [List.length_map]; omega)]
  unfold wn
  rw [words_itoa d h3, ← unsplit_words]
  exact hu
theorem prt_par {s : List UInt8} (h : (parS s).2.2 = 0) : prtS (parS s).1 = (s, 0) := by
 unfold parS at h ⊢
 split at h
 ·exact absurd h (by decide)
 rename_i h4
 rw [if_neg h4]
 have hu := unsplit_split 10 s
 have hn := splitC_ne 10 s
 generalize splitC 10 s = rows at *
 obtain ⟨m, hm⟩ : ∃ m, rows.length = m + 1 := ⟨rows.length - 1, by have := List.length_pos_iff.2 hn; omega⟩
 rw [hm, Nat.add_sub_cancel] at h ⊢
 cases hp : parE rows m 0 with
 |some i => rw [hp] at h; exact absurd h (by simp)
 |none =>
  rw [hp] at h
  simp only at h ⊢
  by_cases hz : rows.getD m [] ≠ []
  ·rw [if_pos hz] at h; exact absurd h (by simp)
  ·rw [if_neg hz] at h ⊢
   by_cases hc : chkShps (outW rows m) ≠ 0
   ·rw [if_pos hc] at h; exact absurd h hc
   ·rw [if_neg hc]
    unfold prtS
    rw [if_neg hc]
    have hz := Classical.not_not.1 hz
    rw [unsplit_lines rows m hm, hz, List.append_nil] at hu
    have hall := (parE_none m 0).1 hp
    have : prtH (outW rows m) = (rows.take m).flatMap (· ++ [10]) := by
     rw [prtH_rows]
     congr 1
     unfold outW
     rw [List.map_map]
     apply List.ext_getElem
     ·simp
     ·intro i i1 i2
      have hi : i < m := by simp at i1; omega
      have e := hall i (Nat.zero_le _) (by omega)
      have g1 : rows.getD i [] = rows[i]'(by omega) := by simp [List.getD_eq_getElem?_getD, show i < rows.length by omega]
      rw [g1] at e
      rw [List.getElem_map, List.getElem_take]
      exact line_same e
    rw [this, hu]
end Sh

set_option maxRecDepth 100000
set_option linter.unusedSimpArgs false
set_option linter.unusedVariables false
namespace Sh
open Go Go.Proofs
theorem strs_get (l : List (List UInt8)) (i : Nat) (h : i < l.length) : (l.map DV.str).getD (Int.toNat (i : Int)) .undef = .str (l.getD i []) := getD_enc _ _ i [] h
end Sh

set_option maxRecDepth 100000
set_option maxHeartbeats 2000000
set_option linter.unusedSimpArgs false
set_option linter.unusedVariables false
namespace Sh
open Go Go.Proofs
theorem r_CheckShapeU (s : List V3) : PC 21 [shp s] (DV.int .i64 (chkShp s)) := by
 by_cases hl : s.length < 1073741824
 ·exact r_CheckShape s hl
 ·have e0 : ((s.map encV).length : Int) = s.length := by simp
  refine pureCall_ofR dh21 rfl ?_
  conv => whnf
  repeat' (first
   |(refine ⟨fun hg => ?_, fun hg => ?_⟩ <;> first | contradiction | (conv => whnf))
   |(refine Or.inl ?_; conv => whnf)
   |(refine ⟨_, q_When .., ?_⟩; conv => whnf)
   |(refine ⟨_, q_First [_, _] (by simp), ?_⟩; conv => whnf)
   |(refine And.intro ?_ ?_; kernel_rfl; conv => whnf))
  ·have hg := of_decide_eq_true hg
   rw [e0] at hg
   exact int_eq (by rw [e0]; unfold chkShp sizeS; rw [firstE_keep _ hg, if_pos hg])
  ·have hg := of_decide_eq_false hg
   rw [e0] at hg
   exfalso
   apply hg
   rw [show decide ((s.length : Int) < 3) = false from decide_eq_false (by omega), show decide (6 < (s.length : Int)) = true from decide_eq_true (by omega)]
   decide
theorem r_CheckShapesU (l : List (List V3)) : PC 24 [shps l] (DV.int .i64 (chkShps l)) := by
 have e0 : ((l.map shp).length : Int) = l.length := by simp
 refine pureCall_ofR dh24 rfl ?_
 conv => whnf
 repeat' (first
  |(refine ⟨fun hg => ?_, fun hg => ?_⟩ <;> first | contradiction | (conv => whnf))
  |(refine Or.inl ?_; conv => whnf)
  |(refine And.intro ?_ ?_; kernel_rfl; conv => whnf))
 ·have hg := of_decide_eq_true hg
  exact int_eq (by unfold chkShps; rw [← e0, if_pos hg])
 ·have hgl := of_decide_eq_false hg
  rw [e0] at hgl
  refine dwp_loopU (P := Tryz.prog) (G := GC) (k := dk24_0) (b := db24_0) (α := Nat) (fun i => [(3, DV.int .i64 (i))]) (fun _ => []) (fun i => i ≤ l.length ∧ firstE (l.map chkShp) = firstE ((l.map chkShp).drop i)) (fun i => l.length - i) 0 ⟨Nat.zero_le _, rfl⟩ ?_
  conv => whnf
  refine ⟨rfl, rfl, ?_⟩
  conv => whnf
  refine ⟨rfl, ?_⟩
  intro i ⟨h1, h2⟩
  conv => whnf
  refine ⟨fun hb => ?_, fun hb => ?_⟩
  ·have hi : i < l.length := by simpa using hb
   have hd := firstE_drop (l.map chkShp) i (by rw [List.length_map]; exact hi)
   rw [map_getD chkShp l i [] hi] at hd
   clear hb
   conv => whnf
   rw [getD_enc _ _ (i) [] hi]
   refine ⟨idxA hi rfl, ?_⟩
   conv => whnf
   repeat' (first
    |(refine ⟨fun hg => ?_, fun hg => ?_⟩ <;> first | contradiction | (conv => whnf))
    |(refine Or.inl ?_; conv => whnf)
    |(refine ⟨_, r_CheckShapeU _, ?_⟩; conv => whnf)
    |(refine And.intro ?_ ?_; kernel_rfl; conv => whnf))
   ·have hg2 := of_decide_eq_true ‹decide (chkShp (l.getD i []) ≠ 0) = true›
    rw [if_pos hg2] at hd
    exact int_eq (by unfold chkShps; rw [if_neg hgl, h2, hd])
   ·have hg2 := of_decide_eq_false ‹decide (chkShp (l.getD i []) ≠ 0) = false›
    rw [if_neg hg2] at hd
    rw [wrap_succ i (by omega)]
    exact ⟨i + 1, rfl, rfl, rfl, ⟨hi, h2.trans hd⟩, by omega⟩
  ·have hi : i = l.length := by have := of_decide_eq_false hb; rw [e0] at this; omega
   rw [hi, List.drop_of_length_le (by rw [List.length_map]; exact Nat.le_refl _)] at h2
   conv => whnf
   exact int_eq (by unfold chkShps; rw [if_neg hgl, h2]; rfl)
end Sh

set_option maxRecDepth 100000
namespace Sh
open Go
end Sh

set_option maxRecDepth 100000
set_option maxHeartbeats 2000000
set_option linter.unusedSimpArgs false
set_option linter.unusedVariables false
namespace Sh
open Go Go.Proofs
theorem parS_len (s : List UInt8) : (parS s).1.length < 1073741824 ∧ ∀ c ∈ (parS s).1, c.length < 1073741824 := by
 have hn : ([] : List (List V3)).length < 1073741824 ∧ ∀ c ∈ ([] : List (List V3)), c.length < 1073741824 := ⟨by decide, fun c h => absurd h List.not_mem_nil⟩
 unfold parS
 split
 ·exact hn
 ·split
  ·exact hn
  ·split
   ·exact hn
   ·split
    ·exact hn
    ·rename_i h
     obtain ⟨h1, h2, h3⟩ := chkShps_oks (Classical.not_not.1 h)
     refine ⟨Nat.lt_of_le_of_lt h1 (by decide), fun c hc => Nat.lt_of_le_of_lt (h2 c hc).2.1 (by decide)⟩
end Sh

set_option maxRecDepth 100000
namespace Sh
open Go
def db12_0 : DC := (.seq (.ops false [⟨some 76,.bin .lss (.tmp 75) (.tmp 74),none,[]⟩]) (.seq (.cond (.tmp 76) .skip (.exit 0)) (.seq (.block 1 none (.seq (.ops false [⟨some 77,.mov (.tmp 75),none,[]⟩,⟨some 78,.iaddr 1 (.tmp 73) (.tmp 75),none,[]⟩,⟨some 79,.load none (.tmp 78),none,[]⟩,⟨some 11,.mov (.tmp 77),none,[]⟩,⟨some 12,.mov (.tmp 79),none,[]⟩]) (.seq (.ops false [⟨some 80,.mov (.tmp 10),none,[]⟩,⟨some 81,.mov (.tmp 11),none,[]⟩,⟨some 82,.iaddr 1 (.tmp 80) (.tmp 81),none,[]⟩,⟨some 83,.load none (.tmp 82),none,[]⟩,⟨some 84,.call (.func 83) [.tmp 83,.const (.int .u8 32)],none,[]⟩,⟨some 85,.len (.tmp 84),none,[]⟩,⟨some 86,.mov (.tmp 12),none,[]⟩,⟨some 87,.len (.tmp 86),none,[]⟩,⟨some 88,.bin .mul (.const (.int .i64 3)) (.tmp 87),none,[]⟩,⟨some 89,.bin .add (.const (.int .i64 1)) (.tmp 88),none,[]⟩,⟨some 90,.bin .neq (.tmp 85) (.tmp 89),none,[]⟩]) (.cond (.tmp 90) (.seq (.ops false [⟨some 4,.mov (.const (.bool false)),none,[]⟩]) .ret) .skip)))) (.ops false [⟨some 91,.bin .add (.tmp 75) (.const (.int .i64 1)),none,[]⟩,⟨some 75,.mov (.tmp 91),none,[]⟩]))))
def dk12_0 : Keep := ⟨[],[0,1,5,10,73,74,75],[]⟩
def dc12 : DFunc := ⟨135,2,[.tmp 4],.seq (.ops false [⟨some 4,.mov (.const (.bool false)),none,[]⟩]) (.seq (.seq (.ops false [⟨some 21,.mov (.tmp 0),none,[]⟩,⟨some 22,.len (.tmp 21),none,[]⟩,⟨some 23,.bin .gtr (.tmp 22) (.const (.int .i64 4)),none,[]⟩,⟨some 24,.mov (.tmp 23),none,[]⟩,⟨some 25,.mov (.tmp 0),some (24,false),[]⟩,⟨some 26,.call (.func 24) [.tmp 25],some (24,false),[]⟩,⟨some 27,.bin .neq (.tmp 26) (.const (.int .i64 0)),some (24,false),[]⟩,⟨some 28,.pick (.tmp 24) (.const (.bool true)) (.tmp 27),none,[]⟩,⟨some 29,.mov (.tmp 28),none,[]⟩,⟨some 30,.mov (.tmp 1),some (29,false),[]⟩,⟨some 31,.lenS (.tmp 30),some (29,false),[]⟩,⟨some 32,.bin .gtr (.tmp 31) (.const (.int .i64 300)),some (29,false),[]⟩,⟨some 33,.pick (.tmp 29) (.const (.bool true)) (.tmp 32),none,[]⟩]) (.cond (.tmp 33) (.seq (.ops false [⟨some 34,.call (.func 14) [],none,[]⟩,⟨some 4,.mov (.tmp 34),none,[]⟩]) .ret) .skip)) (.seq (.ops false [⟨some 36,.mov (.tmp 0),none,[]⟩,⟨some 37,.call (.func 19) [.tmp 36],none,[]⟩,⟨some 38,.call (.func 75) [.tmp 37],none,[]⟩,⟨some 35,.mov (.tmp 38),none,[]⟩,⟨some 39,.extract (.tmp 35) 0,none,[]⟩,⟨some 40,.extract (.tmp 35) 1,none,[]⟩,⟨some 5,.mov (.tmp 39),none,[]⟩,⟨some 6,.mov (.tmp 40),none,[]⟩]) (.seq (.ops false [⟨some 42,.mov (.tmp 5),none,[]⟩,⟨some 43,.call (.func 76) [.tmp 42],none,[]⟩,⟨some 41,.mov (.tmp 43),none,[]⟩,⟨some 44,.extract (.tmp 41) 0,none,[]⟩,⟨some 45,.extract (.tmp 41) 1,none,[]⟩,⟨some 46,.extract (.tmp 41) 2,none,[]⟩,⟨some 7,.mov (.tmp 44),none,[]⟩,⟨some 8,.mov (.tmp 45),none,[]⟩,⟨some 9,.mov (.tmp 46),none,[]⟩]) (.seq (.ops false [⟨some 47,.mov (.tmp 5),none,[]⟩,⟨some 48,.call (.func 83) [.tmp 47,.const (.int .u8 10)],none,[]⟩,⟨some 10,.mov (.tmp 48),none,[]⟩]) (.seq (.seq (.ops false [⟨some 49,.mov (.tmp 6),none,[]⟩,⟨some 50,.bin .neq (.tmp 49) (.const (.int .i64 0)),none,[]⟩,⟨some 51,.mov (.tmp 50),none,[]⟩,⟨some 52,.mov (.tmp 9),some (51,false),[]⟩,⟨some 53,.bin .neq (.tmp 52) (.const (.int .i64 0)),some (51,false),[]⟩,⟨some 54,.pick (.tmp 51) (.const (.bool true)) (.tmp 53),none,[]⟩,⟨some 55,.mov (.tmp 54),none,[]⟩,⟨some 56,.mov (.tmp 8),some (55,false),[]⟩,⟨some 57,.bin .neq (.tmp 56) (.const (.int .i64 0)),some (55,false),[]⟩,⟨some 58,.pick (.tmp 55) (.const (.bool true)) (.tmp 57),none,[]⟩,⟨some 59,.mov (.tmp 58),none,[]⟩,⟨some 60,.mov (.tmp 7),some (59,false),[]⟩,⟨some 61,.mov (.tmp 0),some (59,false),[]⟩,⟨some 62,.call (.func 79) [.tmp 60,.tmp 61],some (59,false),[]⟩,⟨some 63,.un .not (.tmp 62),some (59,false),[]⟩,⟨some 64,.pick (.tmp 59) (.const (.bool true)) (.tmp 63),none,[]⟩,⟨some 65,.mov (.tmp 64),none,[]⟩,⟨some 66,.mov (.tmp 10),some (65,false),[]⟩,⟨some 67,.len (.tmp 66),some (65,false),[]⟩,⟨some 68,.mov (.tmp 0),some (65,false),[]⟩,⟨some 69,.len (.tmp 68),some (65,false),[]⟩,⟨some 70,.bin .add (.tmp 69) (.const (.int .i64 1)),some (65,false),[]⟩,⟨some 71,.bin .neq (.tmp 67) (.tmp 70),some (65,false),[]⟩,⟨some 72,.pick (.tmp 65) (.const (.bool true)) (.tmp 71),none,[]⟩]) (.cond (.tmp 72) (.seq (.ops false [⟨some 4,.mov (.const (.bool false)),none,[]⟩]) .ret) .skip)) (.seq (.seq (.ops false [⟨some 73,.mov (.tmp 0),none,[]⟩,⟨some 74,.len (.tmp 73),none,[]⟩,⟨some 75,.mov (.const (.int .i64 0)),none,[]⟩]) (.block 0 (some ⟨[],[0,1,5],[]⟩) (.loop dk12_0 db12_0))) (.seq (.seq (.ops false [⟨some 92,.mov (.tmp 0),none,[]⟩,⟨some 93,.len (.tmp 92),none,[]⟩,⟨some 94,.bin .gtr (.tmp 93) (.const (.int .i64 0)),none,[]⟩]) (.cond (.tmp 94) (.seq (.ops false [⟨some 96,.mov (.tmp 5),none,[]⟩,⟨some 97,.mov (.tmp 5),none,[]⟩,⟨some 98,.lenS (.tmp 97),none,[]⟩,⟨some 99,.bin .sub (.tmp 98) (.const (.int .i64 1)),none,[]⟩,⟨some 100,.sliceS (.tmp 96) none (some (.tmp 99)),none,[]⟩,⟨some 101,.call (.func 76) [.tmp 100],none,[]⟩,⟨some 95,.mov (.tmp 101),none,[]⟩,⟨some 102,.extract (.tmp 95) 0,none,[]⟩,⟨some 103,.extract (.tmp 95) 1,none,[]⟩,⟨some 104,.extract (.tmp 95) 2,none,[]⟩,⟨some 13,.mov (.tmp 102),none,[]⟩,⟨some 14,.mov (.tmp 103),none,[]⟩,⟨some 15,.mov (.tmp 104),none,[]⟩]) (.seq (.ops false [⟨some 105,.mov (.tmp 15),none,[]⟩,⟨some 106,.bin .neq (.tmp 105) (.const (.int .i64 25)),none,[]⟩,⟨some 107,.mov (.tmp 106),none,[]⟩,⟨some 108,.mov (.tmp 14),some (107,false),[]⟩,⟨some 109,.mov (.tmp 0),some (107,false),[]⟩,⟨some 110,.len (.tmp 109),some (107,false),[]⟩,⟨some 111,.bin .sub (.tmp 110) (.const (.int .i64 1)),some (107,false),[]⟩,⟨some 112,.bin .neq (.tmp 108) (.tmp 111),some (107,false),[]⟩,⟨some 113,.pick (.tmp 107) (.const (.bool true)) (.tmp 112),none,[]⟩]) (.cond (.tmp 113) (.seq (.ops false [⟨some 4,.mov (.const (.bool false)),none,[]⟩]) .ret) .skip))) .skip)) (.seq (.seq (.ops false [⟨some 115,.mov (.tmp 1),none,[]⟩,⟨some 116,.call (.func 76) [.tmp 115],none,[]⟩,⟨some 114,.mov (.tmp 116),none,[]⟩,⟨some 117,.extract (.tmp 114) 0,none,[]⟩,⟨some 118,.extract (.tmp 114) 1,none,[]⟩,⟨some 119,.extract (.tmp 114) 2,none,[]⟩,⟨some 16,.mov (.tmp 117),none,[]⟩,⟨some 17,.mov (.tmp 118),none,[]⟩,⟨some 18,.mov (.tmp 119),none,[]⟩]) (.seq (.ops false [⟨some 120,.mov (.tmp 18),none,[]⟩,⟨some 121,.bin .eql (.tmp 120) (.const (.int .i64 0)),none,[]⟩]) (.cond (.tmp 121) (.seq (.ops false [⟨some 123,.mov (.tmp 16),none,[]⟩,⟨some 124,.call (.func 75) [.tmp 123],none,[]⟩,⟨some 122,.mov (.tmp 124),none,[]⟩,⟨some 125,.extract (.tmp 122) 0,none,[]⟩,⟨some 126,.extract (.tmp 122) 1,none,[]⟩,⟨some 19,.mov (.tmp 125),none,[]⟩,⟨some 20,.mov (.tmp 126),none,[]⟩]) (.seq (.ops false [⟨some 127,.mov (.tmp 20),none,[]⟩,⟨some 128,.bin .neq (.tmp 127) (.const (.int .i64 0)),none,[]⟩,⟨some 129,.mov (.tmp 128),none,[]⟩,⟨some 130,.mov (.tmp 19),some (129,false),[]⟩,⟨some 131,.mov (.tmp 1),some (129,false),[]⟩,⟨some 132,.bin .neq (.tmp 130) (.tmp 131),some (129,false),[]⟩,⟨some 133,.pick (.tmp 129) (.const (.bool true)) (.tmp 132),none,[]⟩]) (.cond (.tmp 133) (.seq (.ops false [⟨some 4,.mov (.const (.bool false)),none,[]⟩]) .ret) .skip))) .skip))) (.seq (.ops false [⟨some 134,.call (.func 14) [],none,[]⟩,⟨some 4,.mov (.tmp 134),none,[]⟩]) .ret)))))))))⟩
theorem dh12 : cProg Go.Proofs.Tryz.prog ⟨[(0, ⟨[], [0, 1, 5, 10, 73, 74, 75], []⟩)], [(0, ⟨[], [0, 1, 5], []⟩)], []⟩ 12 = some dc12 := by kernel_rfl
end Sh

set_option maxRecDepth 100000
set_option maxHeartbeats 2000000
set_option linter.unusedSimpArgs false
set_option linter.unusedVariables false
namespace Sh
open Go Go.Proofs
theorem l_ShadePrinted (aw : PC 14 [] (.bool true)) (l : List (List V3)) (s : List UInt8) : PC 12 [shps l, .str s] (.bool true) := by
 have e0 : ((l.map shp).length : Int) = l.length := by simp
 have kC := r_CheckShapesU l
 by_cases hc : chkShps l = 0 ∧ l.length ≤ 4 ∧ s.length ≤ 300
 ·obtain ⟨hc, h4, hS⟩ := hc
  rw [hc] at kC
  obtain ⟨h8, hok, hch⟩ := chkShps_oks hc
  have hl : l.length < 1073741824 := by omega
  have hls : ∀ s ∈ l, s.length < 1073741824 := fun c hc => Nat.lt_of_le_of_lt (hok c hc).2.1 (by decide)
  have hpl : (prtH l).length ≤ 1608 := by have := prtH_len h8 hok; omega
  have a1 := l_all l hl hls
  have b1 := c_Print l hl hls
  rw [show prtS l = (prtH l, 0) from if_neg (fun h => h hc)] at b1
  have b2 : PC 76 [.str (prtH l)] (encPar (l, 0, 0)) := by
   have := c_Parse (prtH l) (by omega)
   rwa [par_prt hc] at this
  have b3 := q_Split (prtH l) 10 (by omega)
  rw [split_prtH] at b3
  have b4 := r_SameShapes l hl hls
  have b5 := c_Parse s (by omega)
  have b6 : (parS s).2.2 = 0 → PC 75 [shps (parS s).1] (.tuple [.str s, DV.int .i64 (0)]) := by
   intro h
   have := c_Print (parS s).1 (parS_len s).1 (parS_len s).2
   rwa [prt_par h] at this
  have b7 : l ≠ [] → PC 76 [.str ((prtH l).take ((prtH l).length - 1))] (encPar ([], ((l.length - 1 : Nat) : Int), 25)) := by
   intro h
   have := c_Parse ((prtH l).take ((prtH l).length - 1)) (by rw [List.length_take]; omega)
   rwa [par_cut hc h] at this
  generalize parS s = R at *
  have n1 : ¬ (4 : Int) < ((l.map shp).length : Int) := by omega
  have n2 : ¬ (300 : Int) < (s.length : Int) := by omega
  have n3 : ¬ (((l.map linB ++ [[]]).map DV.str).length : Int) ≠ IntKind.i64.wrap (((l.map shp).length : Int) + 1) := by
   rw [e0, wrap_in (by omega) (by omega)]; simp
  refine pureCall_ofR dh12 rfl ?_
  conv => whnf
  conv => whnf
  repeat' (first
   |(refine ⟨fun hg => ?_, fun hg => ?_⟩ <;> first | contradiction | (exfalso; revert hg; simp; done) | (exfalso; exact absurd (of_decide_eq_true hg) (by assumption)) | (exfalso; exact absurd (by assumption) (of_decide_eq_false hg)) | (conv => whnf))
   |(refine Or.inl ?_; conv => whnf)
   |(refine ⟨_, kC, ?_⟩; conv => whnf)
   |(refine ⟨_, a1, ?_⟩; conv => whnf)
   |(refine ⟨_, b1, ?_⟩; conv => whnf)
   |(refine ⟨_, b2, ?_⟩; conv => whnf)
   |(refine ⟨_, b3, ?_⟩; conv => whnf)
   |(refine ⟨_, b4, ?_⟩; conv => whnf)
   |(refine And.intro ?_ ?_; kernel_rfl; conv => whnf))
  generalize hr : l.map linB ++ [[]] = rows at *
  have hrl : rows.length = l.length + 1 := by rw [← hr]; simp
  have er : ((rows.map DV.str).length : Int) = l.length + 1 := by simp; omega
  have hrg : ∀ i, i < l.length → rows.getD i [] = linB (l.getD i []) := fun i hi => by rw [← hr]; exact getD_mapB l [] i hi
  clear hr n3
  refine dwp_loopU (P := Tryz.prog) (G := GC) (k := dk12_0) (b := db12_0) (α := Nat) (fun i => [(75, DV.int .i64 (i))]) (fun _ => []) (fun i => i ≤ l.length) (fun i => l.length - i) 0 (Nat.zero_le _) ?_
  conv => whnf
  refine ⟨rfl, rfl, ?_⟩
  conv => whnf
  refine ⟨rfl, ?_⟩
  intro i h1
  conv => whnf
  refine ⟨fun hb => ?_, fun hb => ?_⟩
  ·have hi : i < l.length := by simpa using hb
   have hin := hok _ (getD_in [] hi)
   have b8 := q_Split (linB (l.getD i [])) 32 (by have := linB_len hin; omega)
   rw [split_linB] at b8
   have h6 := hin.2.1
   have n4 : ¬ (((((shpB :: (numsV (l.getD i [])).map Lib.itoa)).map DV.str).length : Nat) : Int) ≠ IntKind.i64.wrap (1 + IntKind.i64.wrap (3 * (((l.getD i []).map encV).length : Int))) := by
    simp only [List.length_map, List.length_cons, numsV_len]
    rw [wrap_in (n := 3 * _) (by omega) (by omega), wrap_in (by omega) (by omega)]; omega
   clear hb
   conv => whnf
   rw [getD_enc _ _ (i) [] hi]
   refine ⟨idxA hi rfl, ?_⟩
   conv => whnf
   rw [strs_get rows i (by omega)]
   refine ⟨⟨by omega, by rw [er]; omega, rfl⟩, ?_⟩
   rw [hrg i hi]
   conv => whnf
   repeat' (first
    |(refine ⟨fun hg => ?_, fun hg => ?_⟩ <;> first | contradiction | (exfalso; revert hg; simp; done) | (exfalso; exact absurd (of_decide_eq_true hg) (by assumption)) | (exfalso; exact absurd (by assumption) (of_decide_eq_false hg)) | (conv => whnf))
    |(refine Or.inl ?_; conv => whnf)
    |(refine ⟨_, b8, ?_⟩; conv => whnf)
    |(refine And.intro ?_ ?_; kernel_rfl; conv => whnf))
   rw [wrap_succ i (by omega)]
   exact ⟨i + 1, rfl, rfl, rfl, hi, by omega⟩
  ·have hi : i = l.length := by have := of_decide_eq_false hb; rw [e0] at this; omega
   clear hb
   conv => whnf
   refine ⟨fun hg => ?_, fun hg => ?_⟩
   ·have hp : (0 : Int) < ((l.map shp).length : Int) := of_decide_eq_true hg
    have hne : l ≠ [] := by intro h; rw [h] at hp; exact absurd hp (by decide)
    have b7 := b7 hne
    have n5 : ¬ (((l.length - 1 : Nat) : Int)) ≠ IntKind.i64.wrap (((l.map shp).length : Int) - 1) := by
     rw [wrap_in (by omega) (by omega)]; omega
    have hpp : 0 < (prtH l).length := by
     cases l with
     |nil => exact absurd rfl hne
     |cons a r => show 0 < (_ ++ _ : List UInt8).length; rw [List.length_append, List.length_append]; simp only [List.length_cons]; omega
    have w1 : IntKind.i64.wrap (((prtH l).length : Int) - 1) = (((prtH l).length - 1 : Nat) : Int) := by rw [wrap_in (by omega) (by omega)]; omega
    have w2 : window (prtH l) (Int.toNat 0) (Int.toNat ((((prtH l).length - 1 : Nat) : Int) - 0)) = (prtH l).take ((prtH l).length - 1) := by
     rw [Int.sub_zero, Int.toNat_natCast]; rfl
    conv => whnf
    rw [w1]
    refine ⟨⟨by omega, by omega, by show _ ≤ ((prtH l).length : Int); omega⟩, ?_⟩
    conv => whnf
    rw [w2]
    conv => whnf
    repeat' (first
     |(refine ⟨fun hg => ?_, fun hg => ?_⟩ <;> first | contradiction | (exfalso; revert hg; simp; done) | (exfalso; exact absurd (of_decide_eq_true hg) (by assumption)) | (exfalso; exact absurd (by assumption) (of_decide_eq_false hg)) | (conv => whnf))
     |(refine Or.inl ?_; conv => whnf)
     |(refine ⟨_, b7, ?_⟩; conv => whnf)
     |(refine And.intro ?_ ?_; kernel_rfl; conv => whnf))
    by_cases hz : R.2.2 = 0
    ·have b6 := b6 hz
     repeat' (first
      |(refine ⟨fun hg => ?_, fun hg => ?_⟩ <;> first | contradiction | (exfalso; revert hg; simp; done) | (exfalso; exact absurd (of_decide_eq_true hg) (by assumption)) | (exfalso; exact absurd (by assumption) (of_decide_eq_false hg)) | (conv => whnf))
      |(refine Or.inl ?_; conv => whnf)
      |(refine ⟨_, b5, ?_⟩; conv => whnf)
      |(refine ⟨_, b6, ?_⟩; conv => whnf)
      |(refine ⟨_, aw, ?_⟩; conv => whnf)
      |(refine And.intro ?_ ?_; kernel_rfl; conv => whnf))
     all_goals rfl
    ·repeat' (first
      |(refine ⟨fun hg => ?_, fun hg => ?_⟩ <;> first | contradiction | (exfalso; revert hg; simp; done) | (exfalso; exact absurd (of_decide_eq_true hg) (by assumption)) | (exfalso; exact absurd (by assumption) (of_decide_eq_false hg)) | (conv => whnf))
      |(refine Or.inl ?_; conv => whnf)
      |(refine ⟨_, b5, ?_⟩; conv => whnf)
      |(refine ⟨_, aw, ?_⟩; conv => whnf)
      |(refine And.intro ?_ ?_; kernel_rfl; conv => whnf))
     all_goals rfl
   ·conv => whnf
    by_cases hz : R.2.2 = 0
    ·have b6 := b6 hz
     repeat' (first
      |(refine ⟨fun hg => ?_, fun hg => ?_⟩ <;> first | contradiction | (exfalso; revert hg; simp; done) | (exfalso; exact absurd (of_decide_eq_true hg) (by assumption)) | (exfalso; exact absurd (by assumption) (of_decide_eq_false hg)) | (conv => whnf))
      |(refine Or.inl ?_; conv => whnf)
      |(refine ⟨_, b5, ?_⟩; conv => whnf)
      |(refine ⟨_, b6, ?_⟩; conv => whnf)
      |(refine ⟨_, aw, ?_⟩; conv => whnf)
      |(refine And.intro ?_ ?_; kernel_rfl; conv => whnf))
     all_goals rfl
    ·repeat' (first
      |(refine ⟨fun hg => ?_, fun hg => ?_⟩ <;> first | contradiction | (exfalso; revert hg; simp; done) | (exfalso; exact absurd (of_decide_eq_true hg) (by assumption)) | (exfalso; exact absurd (by assumption) (of_decide_eq_false hg)) | (conv => whnf))
      |(refine Or.inl ?_; conv => whnf)
      |(refine ⟨_, b5, ?_⟩; conv => whnf)
      |(refine ⟨_, aw, ?_⟩; conv => whnf)
      |(refine And.intro ?_ ?_; kernel_rfl; conv => whnf))
     all_goals rfl
 ·by_cases n1 : (4 : Int) < ((l.map shp).length : Int)
  ·refine pureCall_ofR dh12 rfl ?_
   conv => whnf
   conv => whnf
   repeat' (first
    |(refine ⟨fun hg => ?_, fun hg => ?_⟩ <;> first | contradiction | (exfalso; revert hg; simp; done) | (exfalso; exact absurd (of_decide_eq_true hg) (by assumption)) | (exfalso; exact absurd (by assumption) (of_decide_eq_false hg)) | (conv => whnf))
    |(refine Or.inl ?_; conv => whnf)
    |(refine ⟨_, aw, ?_⟩; conv => whnf)
    |(refine And.intro ?_ ?_; kernel_rfl; conv => whnf))
   all_goals rfl
  ·by_cases n2 : (300 : Int) < (s.length : Int)
   ·generalize chkShps l = E1 at *
    refine pureCall_ofR dh12 rfl ?_
    conv => whnf
    conv => whnf
    repeat' (first
     |(refine ⟨fun hg => ?_, fun hg => ?_⟩ <;> first | contradiction | (exfalso; revert hg; simp; done) | (exfalso; exact absurd (of_decide_eq_true hg) (by assumption)) | (exfalso; exact absurd (by assumption) (of_decide_eq_false hg)) | (conv => whnf))
     |(refine Or.inl ?_; conv => whnf)
     |(refine ⟨_, kC, ?_⟩; conv => whnf)
     |(refine ⟨_, aw, ?_⟩; conv => whnf)
     |(refine And.intro ?_ ?_; kernel_rfl; conv => whnf))
    all_goals rfl
   ·have n3 : chkShps l ≠ 0 := fun h => hc ⟨h, by omega, by omega⟩
    generalize chkShps l = E1 at *
    refine pureCall_ofR dh12 rfl ?_
    conv => whnf
    conv => whnf
    repeat' (first
     |(refine ⟨fun hg => ?_, fun hg => ?_⟩ <;> first | contradiction | (exfalso; revert hg; simp; done) | (exfalso; exact absurd (of_decide_eq_true hg) (by assumption)) | (exfalso; exact absurd (by assumption) (of_decide_eq_false hg)) | (conv => whnf))
     |(refine Or.inl ?_; conv => whnf)
     |(refine ⟨_, kC, ?_⟩; conv => whnf)
     |(refine ⟨_, aw, ?_⟩; conv => whnf)
     |(refine And.intro ?_ ?_; kernel_rfl; conv => whnf))
    all_goals rfl
end Sh
