/-
  Chapter 3's functions, walked over pure data: the library of the walk, the functions' code over data, and what each computes. (part 4)
-/
import Derived.Test.YtkaglomkahhjcaaGreatDoorP3
import Derived.Test.YtkaglomkahhjcaaGreatDoorProg
import Derived.Lib.ItoaNum
import Derived.Lib.ItoaLen
import Derived.Lib.MapLaws
import Derived.Lib.Bytealg
import Derived.Lib.Join
import Derived.Lib.Strings
set_option linter.unusedVariables false
set_option linter.unusedSimpArgs false
set_option maxRecDepth 100000
namespace Sh
open Go
def db54_0 : DC := (.seq (.seq (.ops false [⟨some 11,.mov (.tmp 5),none,[]⟩,⟨some 12,.mov (.tmp 0),none,[]⟩,⟨some 13,.len (.tmp 12),none,[]⟩,⟨some 14,.bin .lss (.tmp 11) (.tmp 13),none,[]⟩]) (.cond (.tmp 14) .skip (.exit 0))) (.seq (.block 1 none (.seq (.ops true [⟨some 17,.mov (.tmp 0),none,[]⟩,⟨some 18,.mov (.tmp 5),none,[]⟩,⟨some 19,.iaddr 3 (.tmp 17) (.tmp 18),none,[0,1]⟩,⟨some 20,.load (some 3) (.tmp 19),none,[2,0,1]⟩,⟨some 21,.mov (.tmp 1),none,[]⟩,⟨some 22,.mov (.tmp 5),none,[]⟩,⟨some 23,.iaddr 3 (.tmp 21) (.tmp 22),none,[4,5]⟩,⟨some 24,.load (some 3) (.tmp 23),none,[6,4,5]⟩,⟨some 25,.eqA true [1,1,1] (.tmp 20) (.tmp 24),none,[3,2,0,1,7,6,4,5]⟩]) (.cond (.tmp 25) (.seq (.ops false [⟨some 4,.mov (.const (.bool false)),none,[]⟩]) .ret) .skip))) (.ops false [⟨some 15,.mov (.tmp 5),none,[]⟩,⟨some 16,.bin .add (.tmp 15) (.const (.int .i64 1)),none,[]⟩,⟨some 5,.mov (.tmp 16),none,[]⟩])))
def dk54_0 : Keep := ⟨[],[0,1,5],[]⟩
def dc54 : DFunc := ⟨26,2,[.tmp 4],.seq (.ops false [⟨some 4,.mov (.const (.bool false)),none,[]⟩]) (.seq (.seq (.ops false [⟨some 6,.mov (.tmp 0),none,[]⟩,⟨some 7,.len (.tmp 6),none,[]⟩,⟨some 8,.mov (.tmp 1),none,[]⟩,⟨some 9,.len (.tmp 8),none,[]⟩,⟨some 10,.bin .neq (.tmp 7) (.tmp 9),none,[]⟩]) (.cond (.tmp 10) (.seq (.ops false [⟨some 4,.mov (.const (.bool false)),none,[]⟩]) .ret) .skip)) (.seq (.seq (.ops false [⟨some 5,.mov (.const (.int .i64 0)),none,[]⟩]) (.block 0 (some ⟨[],[],[]⟩) (.loop dk54_0 db54_0))) (.seq (.ops false [⟨some 4,.mov (.const (.bool true)),none,[]⟩]) .ret)))⟩
theorem dh54:cProg Go.Proofs.Tryz.prog ⟨[(0,⟨[],[0,1,5],[]⟩)],[(0,⟨[],[],[]⟩)],[]⟩ 54=some dc54:=by kernel_rfl
def dc55 : DFunc := ⟨19,2,[.tmp 4,.tmp 5],.seq (.ops false [⟨some 2,.box 2 (.tmp 0),none,[]⟩,⟨some 3,.box 3 (.tmp 1),none,[]⟩,⟨some 4,.mov (.const (.int .i64 0)),none,[]⟩,⟨some 5,.mov (.const (.int .i64 0)),none,[]⟩]) (.seq (.seq (.ops true [⟨some 7,.load (some 2) (.tmp 2),none,[]⟩,⟨some 8,.call (.func 122) [.tmp 7],none,[0]⟩,⟨some 9,.load (some 3) (.tmp 3),none,[]⟩,⟨some 10,.call (.func 27) [.tmp 9],none,[2,1,0]⟩,⟨some 11,.lit true 1 2 (.int .i64 0) [(0,(.tmp 8)),(1,(.tmp 10))],none,[1,0,3,2]⟩,⟨some 12,.call (.func 89) [.tmp 11],none,[4,1,0,3,2]⟩,⟨some 6,.mov (.tmp 12),none,[5,4,1,0,3,2]⟩]) (.seq (.ops false [⟨some 13,.mov (.tmp 6),none,[]⟩,⟨some 14,.bin .neq (.tmp 13) (.const (.int .i64 0)),none,[]⟩]) (.cond (.tmp 14) (.seq (.ops false [⟨some 15,.mov (.tmp 6),none,[]⟩,⟨some 4,.mov (.const (.int .i64 0)),none,[]⟩,⟨some 5,.mov (.tmp 15),none,[]⟩]) .ret) .skip))) (.seq (.ops false [⟨some 16,.load (some 2) (.tmp 2),none,[]⟩,⟨some 17,.load (some 3) (.tmp 3),none,[]⟩,⟨some 18,.call (.func 123) [.tmp 16,.tmp 17],none,[]⟩,⟨some 4,.mov (.tmp 18),none,[]⟩,⟨some 5,.mov (.const (.int .i64 0)),none,[]⟩]) .ret))⟩
theorem dh55:cProg Go.Proofs.Tryz.prog ⟨[],[],[11]⟩ 55=some dc55:=by kernel_rfl
def dc56 : DFunc := ⟨19,2,[.tmp 4,.tmp 5],.seq (.ops false [⟨some 2,.box 2 (.tmp 0),none,[]⟩,⟨some 3,.box 3 (.tmp 1),none,[]⟩,⟨some 4,.mov (.const (.int .i64 0)),none,[]⟩,⟨some 5,.mov (.const (.int .i64 0)),none,[]⟩]) (.seq (.seq (.ops true [⟨some 7,.load (some 2) (.tmp 2),none,[]⟩,⟨some 8,.call (.func 124) [.tmp 7],none,[0]⟩,⟨some 9,.load (some 3) (.tmp 3),none,[]⟩,⟨some 10,.call (.func 27) [.tmp 9],none,[2,1,0]⟩,⟨some 11,.lit true 1 2 (.int .i64 0) [(0,(.tmp 8)),(1,(.tmp 10))],none,[1,0,3,2]⟩,⟨some 12,.call (.func 89) [.tmp 11],none,[4,1,0,3,2]⟩,⟨some 6,.mov (.tmp 12),none,[5,4,1,0,3,2]⟩]) (.seq (.ops false [⟨some 13,.mov (.tmp 6),none,[]⟩,⟨some 14,.bin .neq (.tmp 13) (.const (.int .i64 0)),none,[]⟩]) (.cond (.tmp 14) (.seq (.ops false [⟨some 15,.mov (.tmp 6),none,[]⟩,⟨some 4,.mov (.const (.int .i64 0)),none,[]⟩,⟨some 5,.mov (.tmp 15),none,[]⟩]) .ret) .skip))) (.seq (.ops false [⟨some 16,.load (some 2) (.tmp 2),none,[]⟩,⟨some 17,.load (some 3) (.tmp 3),none,[]⟩,⟨some 18,.call (.func 125) [.tmp 16,.tmp 17],none,[]⟩,⟨some 4,.mov (.tmp 18),none,[]⟩,⟨some 5,.mov (.const (.int .i64 0)),none,[]⟩]) .ret))⟩
theorem dh56:cProg Go.Proofs.Tryz.prog ⟨[],[],[11]⟩ 56=some dc56:=by kernel_rfl
def dc57 : DFunc := ⟨28,3,[.tmp 6,.tmp 7],.seq (.ops false [⟨some 3,.box 2 (.tmp 0),none,[]⟩,⟨some 4,.box 2 (.tmp 1),none,[]⟩,⟨some 5,.box 3 (.tmp 2),none,[]⟩,⟨some 6,.mov (.const (.bool false)),none,[]⟩,⟨some 7,.mov (.const (.int .i64 0)),none,[]⟩]) (.seq (.seq (.ops true [⟨some 9,.load (some 2) (.tmp 3),none,[]⟩,⟨some 10,.call (.func 122) [.tmp 9],none,[0]⟩,⟨some 11,.load (some 2) (.tmp 4),none,[]⟩,⟨some 12,.call (.func 124) [.tmp 11],none,[2,1,0]⟩,⟨some 13,.load (some 3) (.tmp 5),none,[]⟩,⟨some 14,.call (.func 27) [.tmp 13],none,[4,3,2,1,0]⟩,⟨some 15,.lit true 1 3 (.int .i64 0) [(0,(.tmp 10)),(1,(.tmp 12)),(2,(.tmp 14))],none,[1,0,3,2,5,4]⟩,⟨some 16,.call (.func 89) [.tmp 15],none,[6,1,0,3,2,5,4]⟩,⟨some 8,.mov (.tmp 16),none,[7,6,1,0,3,2,5,4]⟩]) (.seq (.ops false [⟨some 17,.mov (.tmp 8),none,[]⟩,⟨some 18,.bin .neq (.tmp 17) (.const (.int .i64 0)),none,[]⟩]) (.cond (.tmp 18) (.seq (.ops false [⟨some 19,.mov (.tmp 8),none,[]⟩,⟨some 6,.mov (.const (.bool false)),none,[]⟩,⟨some 7,.mov (.tmp 19),none,[]⟩]) .ret) .skip))) (.seq (.ops true [⟨some 20,.load (some 2) (.tmp 3),none,[]⟩,⟨some 21,.load (some 3) (.tmp 5),none,[]⟩,⟨some 22,.call (.func 126) [.tmp 20,.const (.int .i64 0),.tmp 21],none,[0,1]⟩,⟨some 23,.call (.func 127) [.tmp 22],none,[2,0,1]⟩,⟨some 24,.load (some 2) (.tmp 4),none,[]⟩,⟨some 25,.load (some 3) (.tmp 5),none,[]⟩,⟨some 26,.call (.func 125) [.tmp 24,.tmp 25],none,[4,5,3,2,0,1]⟩,⟨some 27,.bin .leq (.tmp 23) (.tmp 26),none,[3,2,0,1,6,4,5]⟩,⟨some 6,.mov (.tmp 27),none,[7,3,2,0,1,6,4,5]⟩,⟨some 7,.mov (.const (.int .i64 0)),none,[8,7,3,2,0,1,6,4,5]⟩]) .ret))⟩
theorem dh57:cProg Go.Proofs.Tryz.prog ⟨[],[],[15]⟩ 57=some dc57:=by kernel_rfl
def dc58 : DFunc := ⟨39,3,[.cell 6 (some 2),.tmp 7],.seq (.ops false [⟨some 3,.box 2 (.tmp 0),none,[]⟩,⟨some 4,.box 2 (.tmp 1),none,[]⟩,⟨some 5,.box 3 (.tmp 2),none,[]⟩,⟨some 6,.alloc (.agg [.int .i64 0,.int .i64 0]) 2,none,[]⟩,⟨some 7,.mov (.const (.int .i64 0)),none,[]⟩]) (.seq (.seq (.ops true [⟨some 11,.load (some 2) (.tmp 3),none,[]⟩,⟨some 12,.call (.func 122) [.tmp 11],none,[0]⟩,⟨some 13,.load (some 2) (.tmp 4),none,[]⟩,⟨some 14,.call (.func 124) [.tmp 13],none,[2,1,0]⟩,⟨some 15,.load (some 3) (.tmp 5),none,[]⟩,⟨some 16,.call (.func 27) [.tmp 15],none,[4,3,2,1,0]⟩,⟨some 17,.lit true 1 3 (.int .i64 0) [(0,(.tmp 12)),(1,(.tmp 14)),(2,(.tmp 16))],none,[1,0,3,2,5,4]⟩,⟨some 18,.call (.func 89) [.tmp 17],none,[6,1,0,3,2,5,4]⟩,⟨some 8,.mov (.tmp 18),none,[7,6,1,0,3,2,5,4]⟩]) (.seq (.ops false [⟨some 19,.mov (.tmp 8),none,[]⟩,⟨some 20,.bin .neq (.tmp 19) (.const (.int .i64 0)),none,[]⟩]) (.cond (.tmp 20) (.seq (.ops false [⟨some 21,.build [.int .i64 0,.int .i64 0] [],none,[]⟩,⟨some 22,.mov (.tmp 8),none,[]⟩,⟨none,.store 2 (.tmp 6) (.tmp 21),none,[]⟩,⟨some 7,.mov (.tmp 22),none,[]⟩]) .ret) .skip))) (.seq (.ops true [⟨some 23,.load (some 2) (.tmp 3),none,[]⟩,⟨some 24,.load (some 3) (.tmp 5),none,[]⟩,⟨some 25,.call (.func 126) [.tmp 23,.const (.int .i64 0),.tmp 24],none,[0,1]⟩,⟨some 26,.call (.func 127) [.tmp 25],none,[2,0,1]⟩,⟨some 27,.load (some 2) (.tmp 4),none,[]⟩,⟨some 28,.load (some 3) (.tmp 5),none,[]⟩,⟨some 29,.call (.func 125) [.tmp 27,.tmp 28],none,[4,5,3,2,0,1]⟩,⟨some 9,.mov (.tmp 26),none,[3,2,0,1,6,4,5]⟩,⟨some 10,.mov (.tmp 29),none,[6,4,5,3,2,0,1,7]⟩]) (.seq (.seq (.ops false [⟨some 30,.mov (.tmp 9),none,[]⟩,⟨some 31,.mov (.tmp 10),none,[]⟩,⟨some 32,.bin .leq (.tmp 30) (.tmp 31),none,[]⟩]) (.cond (.tmp 32) (.seq (.ops false [⟨some 33,.build [.int .i64 0,.int .i64 0] [(0,(1,(.const (.int .i64 0)))),(1,(1,(.const (.int .i64 1))))],none,[]⟩,⟨none,.store 2 (.tmp 6) (.tmp 33),none,[]⟩,⟨some 7,.mov (.const (.int .i64 0)),none,[]⟩]) .ret) .skip)) (.seq (.ops false [⟨some 34,.mov (.tmp 9),none,[]⟩,⟨some 35,.mov (.tmp 10),none,[]⟩,⟨some 36,.bin .sub (.tmp 34) (.tmp 35),none,[]⟩,⟨some 37,.mov (.tmp 9),none,[]⟩,⟨some 38,.call (.func 114) [.tmp 36,.tmp 37],none,[]⟩,⟨none,.store 2 (.tmp 6) (.tmp 38),none,[]⟩,⟨some 7,.mov (.const (.int .i64 0)),none,[]⟩]) .ret))))⟩
theorem dh58:cProg Go.Proofs.Tryz.prog ⟨[],[],[17]⟩ 58=some dc58:=by kernel_rfl
def dc65 : DFunc := ⟨28,3,[.tmp 6,.tmp 7],.seq (.ops false [⟨some 4,.box 2 (.tmp 1),none,[]⟩,⟨some 5,.box 3 (.tmp 2),none,[]⟩,⟨some 6,.mov (.const (.int .i64 0)),none,[]⟩,⟨some 7,.mov (.const (.int .i64 0)),none,[]⟩]) (.seq (.seq (.ops true [⟨some 10,.mov (.tmp 0),none,[]⟩,⟨some 11,.call (.func 74) [.tmp 10],none,[0]⟩,⟨some 12,.load (some 2) (.tmp 4),none,[]⟩,⟨some 13,.call (.func 124) [.tmp 12],none,[2,1,0]⟩,⟨some 14,.load (some 3) (.tmp 5),none,[]⟩,⟨some 15,.call (.func 27) [.tmp 14],none,[4,3,2,1,0]⟩,⟨some 16,.lit true 1 3 (.int .i64 0) [(0,(.tmp 11)),(1,(.tmp 13)),(2,(.tmp 15))],none,[1,0,3,2,5,4]⟩,⟨some 17,.call (.func 89) [.tmp 16],none,[6,1,0,3,2,5,4]⟩,⟨some 8,.mov (.tmp 17),none,[7,6,1,0,3,2,5,4]⟩]) (.seq (.ops false [⟨some 18,.mov (.tmp 8),none,[]⟩,⟨some 19,.bin .neq (.tmp 18) (.const (.int .i64 0)),none,[]⟩]) (.cond (.tmp 19) (.seq (.ops false [⟨some 20,.mov (.tmp 8),none,[]⟩,⟨some 6,.mov (.const (.int .i64 0)),none,[]⟩,⟨some 7,.mov (.tmp 20),none,[]⟩]) .ret) .skip))) (.seq (.ops false [⟨some 21,.mov (.tmp 0),none,[]⟩,⟨some 22,.load (some 2) (.tmp 4),none,[]⟩,⟨some 23,.load (some 3) (.tmp 5),none,[]⟩,⟨some 24,.call (.func 129) [.tmp 21,.tmp 22,.tmp 23],none,[]⟩,⟨some 9,.mov (.tmp 24),none,[]⟩]) (.seq (.seq (.ops false [⟨some 25,.mov (.tmp 9),none,[]⟩,⟨some 26,.bin .eql (.tmp 25) (.const (.int .i64 (-1))),none,[]⟩]) (.cond (.tmp 26) (.seq (.ops false [⟨some 6,.mov (.const (.int .i64 0)),none,[]⟩,⟨some 7,.mov (.const (.int .i64 7)),none,[]⟩]) .ret) .skip)) (.seq (.ops false [⟨some 27,.mov (.tmp 9),none,[]⟩,⟨some 6,.mov (.tmp 27),none,[]⟩,⟨some 7,.mov (.const (.int .i64 0)),none,[]⟩]) .ret))))⟩
theorem dh65:cProg Go.Proofs.Tryz.prog ⟨[],[],[16]⟩ 65=some dc65:=by kernel_rfl
def dc67 : DFunc := ⟨54,4,[.tmp 8],.seq (.ops false [⟨some 5,.box 2 (.tmp 1),none,[]⟩,⟨some 6,.box 3 (.tmp 2),none,[]⟩,⟨some 8,.mov (.const (.int .i64 0)),none,[]⟩]) (.seq (.seq (.ops true [⟨some 12,.mov (.tmp 0),none,[]⟩,⟨some 13,.call (.func 74) [.tmp 12],none,[0]⟩,⟨some 14,.load (some 2) (.tmp 5),none,[]⟩,⟨some 15,.call (.func 124) [.tmp 14],none,[2,1,0]⟩,⟨some 16,.load (some 3) (.tmp 6),none,[]⟩,⟨some 17,.call (.func 27) [.tmp 16],none,[4,3,2,1,0]⟩,⟨some 18,.mov (.tmp 3),none,[]⟩,⟨some 19,.bin .lss (.tmp 18) (.const (.int .i64 0)),none,[6]⟩,⟨some 20,.mov (.tmp 19),none,[7,6,5,4,3,2,1,0]⟩,⟨some 21,.mov (.tmp 3),some (20,false),[8,7,6,5,4,3,2,1,0]⟩,⟨some 22,.mov (.tmp 0),some (20,false),[8,7,6,5,4,3,2,1,0]⟩,⟨some 23,.len (.tmp 22),some (20,false),[10,8,7,6,5,4,3,2,1,0]⟩,⟨some 24,.bin .geq (.tmp 21) (.tmp 23),some (20,false),[9,8,7,6,5,4,3,2,1,0,11,10]⟩,⟨some 25,.pick (.tmp 20) (.const (.bool true)) (.tmp 24),none,[8,7,6,5,4,3,2,1,0,12,9,11,10]⟩,⟨some 26,.call (.func 104) [.tmp 25,.const (.int .i64 10)],none,[13,8,7,6,5,4,3,2,1,0,12,9,11,10]⟩,⟨some 27,.lit true 1 4 (.int .i64 0) [(0,(.tmp 13)),(1,(.tmp 15)),(2,(.tmp 17)),(3,(.tmp 26))],none,[1,0,3,2,5,4,14,13,8,7,6,12,9,11,10]⟩,⟨some 28,.call (.func 89) [.tmp 27],none,[15,1,0,3,2,5,4,14,13,8,7,6,12,9,11,10]⟩,⟨some 9,.mov (.tmp 28),none,[16,15,1,0,3,2,5,4,14,13,8,7,6,12,9,11,10]⟩]) (.seq (.ops false [⟨some 29,.mov (.tmp 9),none,[]⟩,⟨some 30,.bin .neq (.tmp 29) (.const (.int .i64 0)),none,[]⟩]) (.cond (.tmp 30) (.seq (.ops false [⟨some 31,.mov (.tmp 9),none,[]⟩,⟨some 8,.mov (.tmp 31),none,[]⟩]) .ret) .skip))) (.seq (.ops true [⟨some 33,.mov (.tmp 0),none,[]⟩,⟨some 34,.mov (.tmp 3),none,[]⟩,⟨some 35,.iaddr 2 (.tmp 33) (.tmp 34),none,[0,1]⟩,⟨some 36,.load (some 2) (.tmp 35),none,[2,0,1]⟩,⟨some 37,.load (some 2) (.tmp 5),none,[]⟩,⟨some 38,.load (some 3) (.tmp 6),none,[]⟩,⟨some 39,.call (.func 57) [.tmp 36,.tmp 37,.tmp 38],none,[3,2,0,1,4,5]⟩,⟨some 32,.mov (.tmp 39),none,[6,3,2,0,1,4,5]⟩,⟨some 40,.extract (.tmp 32) 0,none,[7,6,3,2,0,1,4,5]⟩,⟨some 41,.extract (.tmp 32) 1,none,[7,6,3,2,0,1,4,5]⟩,⟨some 10,.mov (.tmp 40),none,[8,7,6,3,2,0,1,4,5]⟩,⟨some 11,.mov (.tmp 41),none,[9,7,6,3,2,0,1,4,5,10,8]⟩]) (.seq (.ops true [⟨some 42,.mov (.tmp 10),none,[]⟩,⟨some 43,.un .not (.tmp 42),none,[0]⟩,⟨some 44,.call (.func 104) [.tmp 43,.const (.int .i64 32)],none,[1,0]⟩,⟨some 45,.mov (.tmp 0),none,[]⟩,⟨some 46,.load (some 2) (.tmp 5),none,[]⟩,⟨some 47,.load (some 3) (.tmp 6),none,[]⟩,⟨some 48,.call (.func 129) [.tmp 45,.tmp 46,.tmp 47],none,[3,4,5,2,1,0]⟩,⟨some 49,.mov (.tmp 3),none,[]⟩,⟨some 50,.bin .neq (.tmp 48) (.tmp 49),none,[6,3,4,5,2,1,0,7]⟩,⟨some 51,.call (.func 104) [.tmp 50,.const (.int .i64 19)],none,[8,6,3,4,5,2,1,0,7]⟩,⟨some 52,.lit true 1 2 (.int .i64 0) [(0,(.tmp 44)),(1,(.tmp 51))],none,[2,1,0,9,8,6,3,4,5,7]⟩,⟨some 53,.call (.func 89) [.tmp 52],none,[10,2,1,0,9,8,6,3,4,5,7]⟩,⟨some 8,.mov (.tmp 53),none,[11,10,2,1,0,9,8,6,3,4,5,7]⟩]) .ret)))⟩
theorem dh67:cProg Go.Proofs.Tryz.prog ⟨[],[],[27,52]⟩ 67=some dc67:=by kernel_rfl
def dc68 : DFunc := ⟨36,3,[.tmp 6,.tmp 7],.seq (.ops false [⟨some 3,.box 1 (.tmp 0),none,[]⟩,⟨some 4,.box 2 (.tmp 1),none,[]⟩,⟨some 6,.mov (.const (.slice none 0 0)),none,[]⟩,⟨some 7,.mov (.const (.int .i64 0)),none,[]⟩]) (.seq (.seq (.ops true [⟨some 10,.load none (.tmp 3),none,[]⟩,⟨some 11,.call (.func 74) [.tmp 10],none,[0]⟩,⟨some 12,.load (some 2) (.tmp 4),none,[]⟩,⟨some 13,.call (.func 124) [.tmp 12],none,[2,1,0]⟩,⟨some 14,.mov (.tmp 2),none,[]⟩,⟨some 15,.len (.tmp 14),none,[4]⟩,⟨some 16,.bin .eql (.tmp 15) (.const (.int .i64 0)),none,[5,4]⟩,⟨some 17,.call (.func 104) [.tmp 16,.const (.int .i64 12)],none,[6,5,4,3,2,1,0]⟩,⟨some 18,.mov (.tmp 2),none,[]⟩,⟨some 19,.len (.tmp 18),none,[8]⟩,⟨some 20,.bin .gtr (.tmp 19) (.const (.int .i64 64)),none,[9,8]⟩,⟨some 21,.call (.func 104) [.tmp 20,.const (.int .i64 5)],none,[10,9,8,7,6,5,4,3,2,1,0]⟩,⟨some 22,.lit true 1 4 (.int .i64 0) [(0,(.tmp 11)),(1,(.tmp 13)),(2,(.tmp 17)),(3,(.tmp 21))],none,[1,0,3,2,7,6,5,4,11,10,9,8]⟩,⟨some 23,.call (.func 89) [.tmp 22],none,[12,1,0,3,2,7,6,5,4,11,10,9,8]⟩,⟨some 8,.mov (.tmp 23),none,[13,12,1,0,3,2,7,6,5,4,11,10,9,8]⟩]) (.seq (.ops false [⟨some 24,.mov (.tmp 8),none,[]⟩,⟨some 25,.bin .neq (.tmp 24) (.const (.int .i64 0)),none,[]⟩]) (.cond (.tmp 25) (.seq (.ops false [⟨some 26,.mov (.tmp 8),none,[]⟩,⟨some 6,.mov (.const (.slice none 0 0)),none,[]⟩,⟨some 7,.mov (.tmp 26),none,[]⟩]) .ret) .skip))) (.seq (.seq (.ops false [⟨some 27,.mov (.tmp 2),none,[]⟩,⟨some 28,.call (.func 105) [.tmp 27,.func 130],none,[]⟩,⟨some 29,.call (.func 89) [.tmp 28],none,[]⟩,⟨some 9,.mov (.tmp 29),none,[]⟩]) (.seq (.ops false [⟨some 30,.mov (.tmp 9),none,[]⟩,⟨some 31,.bin .neq (.tmp 30) (.const (.int .i64 0)),none,[]⟩]) (.cond (.tmp 31) (.seq (.ops false [⟨some 32,.mov (.tmp 9),none,[]⟩,⟨some 6,.mov (.const (.slice none 0 0)),none,[]⟩,⟨some 7,.mov (.tmp 32),none,[]⟩]) .ret) .skip))) (.seq (.ops false [⟨some 33,.mov (.tmp 2),none,[]⟩,⟨some 34,.mkfunc 132 [.tmp 3,.tmp 4],none,[]⟩,⟨some 35,.call (.func 131) [.tmp 33,.tmp 34],none,[]⟩,⟨some 6,.mov (.tmp 35),none,[]⟩,⟨some 7,.mov (.const (.int .i64 0)),none,[]⟩]) .ret)))⟩
theorem dh68:cProg Go.Proofs.Tryz.prog ⟨[],[],[22]⟩ 68=some dc68:=by kernel_rfl
def db74_0 : DC := (.seq (.ops false [⟨some 23,.bin .lss (.tmp 22) (.tmp 21),none,[]⟩]) (.seq (.cond (.tmp 23) .skip (.exit 0)) (.seq (.block 1 none (.seq (.ops false [⟨some 24,.mov (.tmp 22),none,[]⟩,⟨some 25,.iaddr 2 (.tmp 20) (.tmp 22),none,[]⟩,⟨some 26,.load (some 2) (.tmp 25),none,[]⟩,⟨some 5,.alloc (.agg [.int .i64 0,.int .i64 0]) 2,none,[]⟩,⟨some 4,.mov (.tmp 24),none,[]⟩,⟨none,.store 2 (.tmp 5) (.tmp 26),none,[]⟩]) (.seq (.ops true [⟨some 27,.load (some 2) (.tmp 5),none,[]⟩,⟨some 28,.call (.func 122) [.tmp 27],none,[0]⟩,⟨some 29,.mov (.tmp 0),none,[]⟩,⟨some 30,.mov (.tmp 4),none,[]⟩,⟨some 31,.slice 2 (.tmp 29) none (some (.tmp 30)) none,none,[2,3]⟩,⟨some 32,.load (some 2) (.tmp 5),none,[]⟩,⟨some 33,.call (.func 133) [.tmp 31,.tmp 32],none,[4,2,3,5,1,0]⟩,⟨some 34,.call (.func 104) [.tmp 33,.const (.int .i64 9)],none,[6,4,2,3,5,1,0]⟩,⟨some 35,.lit true 1 2 (.int .i64 0) [(0,(.tmp 28)),(1,(.tmp 34))],none,[1,0,7,6,4,2,3,5]⟩,⟨some 36,.call (.func 89) [.tmp 35],none,[8,1,0,7,6,4,2,3,5]⟩,⟨some 6,.mov (.tmp 36),none,[9,8,1,0,7,6,4,2,3,5]⟩]) (.seq (.ops false [⟨some 37,.mov (.tmp 6),none,[]⟩,⟨some 38,.bin .neq (.tmp 37) (.const (.int .i64 0)),none,[]⟩]) (.cond (.tmp 38) (.seq (.ops false [⟨some 39,.mov (.tmp 6),none,[]⟩,⟨some 2,.mov (.tmp 39),none,[]⟩]) .ret) .skip))))) (.ops false [⟨some 40,.bin .add (.tmp 22) (.const (.int .i64 1)),none,[]⟩,⟨some 22,.mov (.tmp 40),none,[]⟩]))))
def dk74_0 : Keep := ⟨[],[0,20,21,22],[15]⟩
def dc74 : DFunc := ⟨41,1,[.tmp 2],.seq (.ops false [⟨some 2,.mov (.const (.int .i64 0)),none,[]⟩]) (.seq (.seq (.ops false [⟨some 7,.mov (.tmp 0),none,[]⟩,⟨some 8,.len (.tmp 7),none,[]⟩,⟨some 9,.bin .eql (.tmp 8) (.const (.int .i64 0)),none,[]⟩,⟨some 10,.call (.func 104) [.tmp 9,.const (.int .i64 12)],none,[]⟩,⟨some 11,.mov (.tmp 0),none,[]⟩,⟨some 12,.len (.tmp 11),none,[]⟩,⟨some 13,.bin .gtr (.tmp 12) (.const (.int .i64 16)),none,[]⟩,⟨some 14,.call (.func 104) [.tmp 13,.const (.int .i64 5)],none,[]⟩,⟨some 15,.lit true 1 2 (.int .i64 0) [(0,(.tmp 10)),(1,(.tmp 14))],none,[]⟩,⟨some 16,.call (.func 89) [.tmp 15],none,[]⟩,⟨some 3,.mov (.tmp 16),none,[]⟩]) (.seq (.ops false [⟨some 17,.mov (.tmp 3),none,[]⟩,⟨some 18,.bin .neq (.tmp 17) (.const (.int .i64 0)),none,[]⟩]) (.cond (.tmp 18) (.seq (.ops false [⟨some 19,.mov (.tmp 3),none,[]⟩,⟨some 2,.mov (.tmp 19),none,[]⟩]) .ret) .skip))) (.seq (.seq (.ops false [⟨some 20,.mov (.tmp 0),none,[]⟩,⟨some 21,.len (.tmp 20),none,[]⟩,⟨some 22,.mov (.const (.int .i64 0)),none,[]⟩]) (.block 0 (some ⟨[],[],[15]⟩) (.loop dk74_0 db74_0))) (.seq (.ops false [⟨some 2,.mov (.const (.int .i64 0)),none,[]⟩]) .ret)))⟩
theorem dh74:cProg Go.Proofs.Tryz.prog ⟨[(0,⟨[],[0,20,21,22],[15]⟩)],[(0,⟨[],[],[15]⟩)],[15,35]⟩ 74=some dc74:=by kernel_rfl
def db79_0 : DC := (.seq (.seq (.ops false [⟨some 11,.mov (.tmp 5),none,[]⟩,⟨some 12,.mov (.tmp 0),none,[]⟩,⟨some 13,.len (.tmp 12),none,[]⟩,⟨some 14,.bin .lss (.tmp 11) (.tmp 13),none,[]⟩]) (.cond (.tmp 14) .skip (.exit 0))) (.seq (.block 1 none (.seq (.ops true [⟨some 17,.mov (.tmp 0),none,[]⟩,⟨some 18,.mov (.tmp 5),none,[]⟩,⟨some 19,.iaddr 1 (.tmp 17) (.tmp 18),none,[0,1]⟩,⟨some 20,.load none (.tmp 19),none,[2,0,1]⟩,⟨some 21,.mov (.tmp 1),none,[]⟩,⟨some 22,.mov (.tmp 5),none,[]⟩,⟨some 23,.iaddr 1 (.tmp 21) (.tmp 22),none,[4,5]⟩,⟨some 24,.load none (.tmp 23),none,[6,4,5]⟩,⟨some 25,.call (.func 54) [.tmp 20,.tmp 24],none,[3,2,0,1,7,6,4,5]⟩,⟨some 26,.un .not (.tmp 25),none,[8,3,2,0,1,7,6,4,5]⟩]) (.cond (.tmp 26) (.seq (.ops false [⟨some 4,.mov (.const (.bool false)),none,[]⟩]) .ret) .skip))) (.ops false [⟨some 15,.mov (.tmp 5),none,[]⟩,⟨some 16,.bin .add (.tmp 15) (.const (.int .i64 1)),none,[]⟩,⟨some 5,.mov (.tmp 16),none,[]⟩])))
def dk79_0 : Keep := ⟨[],[0,1,5],[]⟩
def dc79 : DFunc := ⟨27,2,[.tmp 4],.seq (.ops false [⟨some 4,.mov (.const (.bool false)),none,[]⟩]) (.seq (.seq (.ops false [⟨some 6,.mov (.tmp 0),none,[]⟩,⟨some 7,.len (.tmp 6),none,[]⟩,⟨some 8,.mov (.tmp 1),none,[]⟩,⟨some 9,.len (.tmp 8),none,[]⟩,⟨some 10,.bin .neq (.tmp 7) (.tmp 9),none,[]⟩]) (.cond (.tmp 10) (.seq (.ops false [⟨some 4,.mov (.const (.bool false)),none,[]⟩]) .ret) .skip)) (.seq (.seq (.ops false [⟨some 5,.mov (.const (.int .i64 0)),none,[]⟩]) (.block 0 (some ⟨[],[],[]⟩) (.loop dk79_0 db79_0))) (.seq (.ops false [⟨some 4,.mov (.const (.bool true)),none,[]⟩]) .ret)))⟩
theorem dh79:cProg Go.Proofs.Tryz.prog ⟨[(0,⟨[],[0,1,5],[]⟩)],[(0,⟨[],[],[]⟩)],[]⟩ 79=some dc79:=by kernel_rfl
def dc81 : DFunc := ⟨8,2,[.cell 4 (some 2)],.seq (.ops false [⟨some 4,.alloc (.agg [.int .i64 0,.int .i64 0]) 2,none,[]⟩]) (.seq (.ops false [⟨some 5,.mov (.tmp 0),none,[]⟩,⟨some 6,.mov (.tmp 1),none,[]⟩,⟨some 7,.build [.int .i64 0,.int .i64 0] [(0,(1,(.tmp 5))),(1,(1,(.tmp 6)))],none,[]⟩,⟨none,.store 2 (.tmp 4) (.tmp 7),none,[]⟩]) .ret)⟩
theorem dh81:cProg Go.Proofs.Tryz.prog ⟨[],[],[]⟩ 81=some dc81:=by kernel_rfl
def dc82 : DFunc := ⟨11,3,[.cell 6 (some 3)],.seq (.ops false [⟨some 6,.alloc (.agg [.int .i64 0,.int .i64 0,.int .i64 0]) 3,none,[]⟩]) (.seq (.ops false [⟨some 7,.mov (.tmp 0),none,[]⟩,⟨some 8,.mov (.tmp 1),none,[]⟩,⟨some 9,.mov (.tmp 2),none,[]⟩,⟨some 10,.build [.int .i64 0,.int .i64 0,.int .i64 0] [(0,(1,(.tmp 7))),(1,(1,(.tmp 8))),(2,(1,(.tmp 9)))],none,[]⟩,⟨none,.store 3 (.tmp 6) (.tmp 10),none,[]⟩]) .ret)⟩
theorem dh82:cProg Go.Proofs.Tryz.prog ⟨[],[],[]⟩ 82=some dc82:=by kernel_rfl
def dc84 : DFunc := ⟨6,0,[.tmp 0],.seq (.ops false [⟨some 0,.mov (.const (.slice none 0 0)),none,[]⟩]) (.seq (.ops false [⟨some 1,.call (.func 82) [.const (.int .i64 0),.const (.int .i64 0),.const (.int .i64 0)],none,[]⟩,⟨some 2,.call (.func 82) [.const (.int .i64 4),.const (.int .i64 0),.const (.int .i64 0)],none,[]⟩,⟨some 3,.call (.func 82) [.const (.int .i64 4),.const (.int .i64 0),.const (.int .i64 4)],none,[]⟩,⟨some 4,.call (.func 82) [.const (.int .i64 0),.const (.int .i64 0),.const (.int .i64 4)],none,[]⟩,⟨some 5,.lit true 3 4 (.agg [.int .i64 0,.int .i64 0,.int .i64 0]) [(0,(.tmp 1)),(1,(.tmp 2)),(2,(.tmp 3)),(3,(.tmp 4))],none,[]⟩,⟨some 0,.mov (.tmp 5),none,[]⟩]) .ret)⟩
theorem dh84:cProg Go.Proofs.Tryz.prog ⟨[],[],[5]⟩ 84=some dc84:=by kernel_rfl
def dc85 : DFunc := ⟨3,0,[.cell 0 (some 4)],.seq (.ops false [⟨some 0,.alloc (.agg [.int .i64 0,.int .i64 0,.int .i64 0,.int .i64 0]) 4,none,[]⟩]) (.seq (.ops false [⟨some 1,.call (.func 81) [.const (.int .i64 6),.const (.int .i64 6)],none,[]⟩,⟨some 2,.build [.int .i64 0,.int .i64 0,.int .i64 0,.int .i64 0] [(2,(2,(.tmp 1)))],none,[]⟩,⟨none,.store 4 (.tmp 0) (.tmp 2),none,[]⟩]) .ret)⟩
theorem dh85:cProg Go.Proofs.Tryz.prog ⟨[],[],[]⟩ 85=some dc85:=by kernel_rfl
def dc86 : DFunc := ⟨6,0,[.tmp 0],.seq (.ops false [⟨some 0,.mov (.const (.slice none 0 0)),none,[]⟩]) (.seq (.ops false [⟨some 1,.call (.func 82) [.const (.int .i64 2),.const (.int .i64 0),.const (.int .i64 0)],none,[]⟩,⟨some 2,.call (.func 82) [.const (.int .i64 6),.const (.int .i64 0),.const (.int .i64 0)],none,[]⟩,⟨some 3,.call (.func 82) [.const (.int .i64 6),.const (.int .i64 0),.const (.int .i64 2)],none,[]⟩,⟨some 4,.call (.func 82) [.const (.int .i64 2),.const (.int .i64 0),.const (.int .i64 2)],none,[]⟩,⟨some 5,.lit true 3 4 (.agg [.int .i64 0,.int .i64 0,.int .i64 0]) [(0,(.tmp 1)),(1,(.tmp 2)),(2,(.tmp 3)),(3,(.tmp 4))],none,[]⟩,⟨some 0,.mov (.tmp 5),none,[]⟩]) .ret)⟩
theorem dh86:cProg Go.Proofs.Tryz.prog ⟨[],[],[5]⟩ 86=some dc86:=by kernel_rfl
def dc87 : DFunc := ⟨8,2,[.cell 4 (some 2)],.seq (.ops false [⟨some 4,.alloc (.agg [.int .i64 0,.int .i64 0]) 2,none,[]⟩]) (.seq (.ops false [⟨some 5,.mov (.tmp 0),none,[]⟩,⟨some 6,.mov (.tmp 1),none,[]⟩,⟨some 7,.build [.int .i64 0,.int .i64 0] [(0,(1,(.tmp 5))),(1,(1,(.tmp 6)))],none,[]⟩,⟨none,.store 2 (.tmp 4) (.tmp 7),none,[]⟩]) .ret)⟩
theorem dh87:cProg Go.Proofs.Tryz.prog ⟨[],[],[]⟩ 87=some dc87:=by kernel_rfl
def dc88 : DFunc := ⟨5,0,[.tmp 0],.seq (.ops false [⟨some 0,.mov (.const (.slice none 0 0)),none,[]⟩]) (.seq (.ops false [⟨some 1,.call (.func 81) [.const (.int .i64 5),.const (.int .i64 0)],none,[]⟩,⟨some 2,.call (.func 81) [.const (.int .i64 4),.const (.int .i64 (-3))],none,[]⟩,⟨some 3,.call (.func 81) [.const (.int .i64 3),.const (.int .i64 (-4))],none,[]⟩,⟨some 4,.lit true 2 3 (.agg [.int .i64 0,.int .i64 0]) [(0,(.tmp 1)),(1,(.tmp 2)),(2,(.tmp 3))],none,[]⟩,⟨some 0,.mov (.tmp 4),none,[]⟩]) .ret)⟩
theorem dh88:cProg Go.Proofs.Tryz.prog ⟨[],[],[4]⟩ 88=some dc88:=by kernel_rfl
end Sh

namespace Sh
open Go
def db89_0 : DC := (.seq (.ops false [⟨some 8,.bin .lss (.tmp 7) (.tmp 6),none,[]⟩]) (.seq (.cond (.tmp 8) .skip (.exit 0)) (.seq (.block 1 none (.seq (.ops false [⟨some 9,.iaddr 1 (.tmp 5) (.tmp 7),none,[]⟩,⟨some 10,.load none (.tmp 9),none,[]⟩,⟨some 4,.mov (.tmp 10),none,[]⟩]) (.seq (.ops false [⟨some 11,.mov (.tmp 4),none,[]⟩,⟨some 12,.bin .neq (.tmp 11) (.const (.int .i64 0)),none,[]⟩]) (.cond (.tmp 12) (.seq (.ops false [⟨some 13,.mov (.tmp 4),none,[]⟩,⟨some 2,.mov (.tmp 13),none,[]⟩]) .ret) .skip)))) (.ops false [⟨some 14,.bin .add (.tmp 7) (.const (.int .i64 1)),none,[]⟩,⟨some 7,.mov (.tmp 14),none,[]⟩]))))
def dk89_0 : Keep := ⟨[],[5,6,7],[]⟩
def dc89 : DFunc := ⟨15,1,[.tmp 2],.seq (.ops false [⟨some 2,.mov (.const (.int .i64 0)),none,[]⟩]) (.seq (.seq (.ops false [⟨some 5,.mov (.tmp 0),none,[]⟩,⟨some 6,.len (.tmp 5),none,[]⟩,⟨some 7,.mov (.const (.int .i64 0)),none,[]⟩]) (.block 0 (some ⟨[],[],[]⟩) (.loop dk89_0 db89_0))) (.seq (.ops false [⟨some 2,.mov (.const (.int .i64 0)),none,[]⟩]) .ret))⟩
theorem dh89:cProg Go.Proofs.Tryz.prog ⟨[(0,⟨[],[5,6,7],[]⟩)],[(0,⟨[],[],[]⟩)],[]⟩ 89=some dc89:=by kernel_rfl
def dc90 : DFunc := ⟨11,1,[.tmp 2],.seq (.ops false [⟨some 1,.box 2 (.tmp 0),none,[]⟩,⟨some 2,.mov (.const (.int .i64 0)),none,[]⟩]) (.seq (.ops true [⟨some 3,.faddr 0 1 false (.tmp 1),none,[]⟩,⟨some 4,.load none (.tmp 3),none,[0]⟩,⟨some 5,.call (.func 103) [.tmp 4,.const (.int .i64 (-1000)),.const (.int .i64 1000)],none,[1,0]⟩,⟨some 6,.faddr 1 1 false (.tmp 1),none,[]⟩,⟨some 7,.load none (.tmp 6),none,[3]⟩,⟨some 8,.call (.func 103) [.tmp 7,.const (.int .i64 (-1000)),.const (.int .i64 1000)],none,[4,3,2,1,0]⟩,⟨some 9,.lit true 1 2 (.int .i64 0) [(0,(.tmp 5)),(1,(.tmp 8))],none,[2,1,0,5,4,3]⟩,⟨some 10,.call (.func 89) [.tmp 9],none,[6,2,1,0,5,4,3]⟩,⟨some 2,.mov (.tmp 10),none,[7,6,2,1,0,5,4,3]⟩]) .ret)⟩
theorem dh90:cProg Go.Proofs.Tryz.prog ⟨[],[],[9]⟩ 90=some dc90:=by kernel_rfl
def db91_0 : DC := (.seq (.ops false [⟨some 44,.bin .lss (.tmp 43) (.tmp 42),none,[]⟩]) (.seq (.cond (.tmp 44) .skip (.exit 0)) (.seq (.block 1 none (.seq (.ops false [⟨some 45,.mov (.tmp 43),none,[]⟩,⟨some 46,.iaddr 3 (.tmp 41) (.tmp 43),none,[]⟩,⟨some 47,.load (some 3) (.tmp 46),none,[]⟩,⟨some 12,.alloc (.agg [.int .i64 0,.int .i64 0,.int .i64 0]) 3,none,[]⟩,⟨some 11,.mov (.tmp 45),none,[]⟩,⟨none,.store 3 (.tmp 12) (.tmp 47),none,[]⟩]) (.ops true [⟨some 48,.mov (.tmp 10),none,[]⟩,⟨some 49,.load (some 3) (.tmp 4),none,[]⟩,⟨some 50,.load (some 3) (.tmp 12),none,[]⟩,⟨some 51,.load (some 3) (.tmp 7),none,[]⟩,⟨some 52,.call (.func 147) [.tmp 50,.tmp 51],none,[2,3]⟩,⟨some 53,.mov (.tmp 0),none,[]⟩,⟨some 54,.mov (.tmp 11),none,[]⟩,⟨some 55,.call (.func 120) [.tmp 53,.tmp 54],none,[5,6,4,2,3]⟩,⟨some 56,.load (some 3) (.tmp 7),none,[]⟩,⟨some 57,.call (.func 147) [.tmp 55,.tmp 56],none,[7,5,6,4,2,3,8]⟩,⟨some 58,.call (.func 148) [.tmp 52,.tmp 57],none,[4,2,3,9,7,5,6,8]⟩,⟨some 59,.call (.func 146) [.tmp 49,.tmp 58],none,[1,10,4,2,3,9,7,5,6,8]⟩,⟨some 60,.lit true 1 1 (.int .i64 0) [(0,(.tmp 59))],none,[11,1,10,4,2,3,9,7,5,6,8]⟩,⟨some 61,.append false 1 (.tmp 48) (.tmp 60),none,[0,12,11,1,10,4,2,3,9,7,5,6,8]⟩,⟨some 10,.mov (.tmp 61),none,[13,0,12,11,1,10,4,2,3,9,7,5,6,8]⟩]))) (.ops false [⟨some 62,.bin .add (.tmp 43) (.const (.int .i64 1)),none,[]⟩,⟨some 43,.mov (.tmp 62),none,[]⟩]))))
def dk91_0 : Keep := ⟨[(10,1)],[0,4,7,10,41,42,43],[4,5,7,8,9,10]⟩
def dc91 : DFunc := ⟨71,3,[.tmp 6],.seq (.ops false [⟨some 4,.box 3 (.tmp 1),none,[]⟩,⟨some 5,.box 2 (.tmp 2),none,[]⟩,⟨some 6,.mov (.const (.bool false)),none,[]⟩]) (.seq (.ops false [⟨some 13,.faddr 0 1 false (.tmp 5),none,[]⟩,⟨some 14,.load none (.tmp 13),none,[]⟩,⟨some 15,.faddr 1 1 false (.tmp 5),none,[]⟩,⟨some 16,.load none (.tmp 15),none,[]⟩,⟨some 17,.build [.int .i64 0,.int .i64 0,.int .i64 0] [(0,(1,(.tmp 14))),(1,(1,(.tmp 16)))],none,[]⟩,⟨some 7,.alloc (.agg [.int .i64 0,.int .i64 0,.int .i64 0]) 3,none,[]⟩,⟨none,.store 3 (.tmp 7) (.tmp 17),none,[]⟩]) (.seq (.ops false [⟨some 18,.mov (.tmp 0),none,[]⟩,⟨some 19,.call (.func 144) [.tmp 18],none,[]⟩,⟨some 8,.alloc (.agg [.int .i64 0,.int .i64 0,.int .i64 0]) 3,none,[]⟩,⟨none,.store 3 (.tmp 8) (.tmp 19),none,[]⟩]) (.seq (.ops true [⟨some 20,.load (some 3) (.tmp 8),none,[]⟩,⟨some 21,.load (some 3) (.tmp 4),none,[]⟩,⟨some 22,.call (.func 146) [.tmp 20,.tmp 21],none,[0,1]⟩,⟨some 23,.call (.func 145) [.tmp 22],none,[2,0,1]⟩,⟨some 24,.load (some 3) (.tmp 8),none,[]⟩,⟨some 25,.mov (.tmp 0),none,[]⟩,⟨some 26,.iaddr 3 (.tmp 25) (.const (.int .i64 0)),none,[5]⟩,⟨some 27,.load (some 3) (.tmp 26),none,[6,5]⟩,⟨some 28,.load (some 3) (.tmp 7),none,[]⟩,⟨some 29,.call (.func 147) [.tmp 27,.tmp 28],none,[7,6,5,8,3,2,0,1]⟩,⟨some 30,.call (.func 146) [.tmp 24,.tmp 29],none,[4,9,7,6,5,8,3,2,0,1]⟩,⟨some 31,.call (.func 145) [.tmp 30],none,[10,4,9,7,6,5,8,3,2,0,1]⟩,⟨some 32,.build [.int .i64 0,.int .i64 0] [(0,(1,(.tmp 23))),(1,(1,(.tmp 31)))],none,[3,2,0,1,11,10,4,9,7,6,5,8]⟩,⟨some 9,.alloc (.agg [.int .i64 0,.int .i64 0]) 2,none,[]⟩,⟨none,.store 2 (.tmp 9) (.tmp 32),none,[13,12,3,2,0,1,11,10,4,9,7,6,5,8]⟩]) (.seq (.seq (.ops false [⟨some 33,.load (some 2) (.tmp 9),none,[]⟩,⟨some 34,.build [.int .i64 0,.int .i64 0] [(0,(1,(.const (.int .i64 1)))),(1,(1,(.const (.int .i64 1))))],none,[]⟩,⟨some 35,.eqA true [1,1] (.tmp 33) (.tmp 34),none,[]⟩,⟨some 36,.mov (.tmp 35),none,[]⟩,⟨some 37,.load (some 2) (.tmp 9),some (36,true),[]⟩,⟨some 38,.build [.int .i64 0,.int .i64 0] [(0,(1,(.const (.int .i64 (-1))))),(1,(1,(.const (.int .i64 (-1)))))],some (36,true),[]⟩,⟨some 39,.eqA true [1,1] (.tmp 37) (.tmp 38),some (36,true),[]⟩,⟨some 40,.pick (.tmp 36) (.tmp 39) (.const (.bool false)),none,[]⟩]) (.cond (.tmp 40) (.seq (.ops false [⟨some 6,.mov (.const (.bool false)),none,[]⟩]) .ret) .skip)) (.seq (.ops false [⟨some 10,.mov (.const (.slice none 0 0)),none,[]⟩]) (.seq (.seq (.ops false [⟨some 41,.mov (.tmp 0),none,[]⟩,⟨some 42,.len (.tmp 41),none,[]⟩,⟨some 43,.mov (.const (.int .i64 0)),none,[]⟩]) (.block 0 (some ⟨[],[10],[4,5,7,8,9,10]⟩) (.loop dk91_0 db91_0))) (.seq (.ops false [⟨some 63,.mov (.tmp 10),none,[]⟩,⟨some 64,.call (.func 149) [.tmp 63],none,[]⟩,⟨some 65,.bin .leq (.tmp 64) (.const (.int .i64 0)),none,[]⟩,⟨some 66,.mov (.tmp 65),none,[]⟩,⟨some 67,.mov (.tmp 10),some (66,false),[]⟩,⟨some 68,.call (.func 150) [.tmp 67],some (66,false),[]⟩,⟨some 69,.bin .geq (.tmp 68) (.const (.int .i64 0)),some (66,false),[]⟩,⟨some 70,.pick (.tmp 66) (.const (.bool true)) (.tmp 69),none,[]⟩,⟨some 6,.mov (.tmp 70),none,[]⟩]) .ret)))))))⟩
theorem dh91:cProg Go.Proofs.Tryz.prog ⟨[(0,⟨[(10,1)],[0,4,7,10,41,42,43],[4,5,7,8,9,10]⟩)],[(0,⟨[],[10],[4,5,7,8,9,10]⟩)],[60]⟩ 91=some dc91:=by kernel_rfl
def dc92 : DFunc := ⟨9,1,[.tmp 2],.seq (.ops false [⟨some 2,.mov (.const (.int .i64 0)),none,[]⟩]) (.seq (.seq (.ops false [⟨some 3,.mov (.tmp 0),none,[]⟩,⟨some 4,.len (.tmp 3),none,[]⟩,⟨some 5,.bin .gtr (.tmp 4) (.const (.int .i64 8)),none,[]⟩]) (.cond (.tmp 5) (.seq (.ops false [⟨some 2,.mov (.const (.int .i64 5)),none,[]⟩]) .ret) .skip)) (.seq (.ops false [⟨some 6,.mov (.tmp 0),none,[]⟩,⟨some 7,.call (.func 151) [.tmp 6,.func 28],none,[]⟩,⟨some 8,.call (.func 89) [.tmp 7],none,[]⟩,⟨some 2,.mov (.tmp 8),none,[]⟩]) .ret))⟩
theorem dh92:cProg Go.Proofs.Tryz.prog ⟨[],[],[]⟩ 92=some dc92:=by kernel_rfl
def dc103 : DFunc := ⟨16,3,[.tmp 6],.seq (.ops false [⟨some 6,.mov (.const (.int .i64 0)),none,[]⟩]) (.seq (.ops false [⟨some 7,.mov (.tmp 0),none,[]⟩,⟨some 8,.mov (.tmp 1),none,[]⟩,⟨some 9,.bin .lss (.tmp 7) (.tmp 8),none,[]⟩,⟨some 10,.mov (.tmp 9),none,[]⟩,⟨some 11,.mov (.tmp 0),some (10,false),[]⟩,⟨some 12,.mov (.tmp 2),some (10,false),[]⟩,⟨some 13,.bin .gtr (.tmp 11) (.tmp 12),some (10,false),[]⟩,⟨some 14,.pick (.tmp 10) (.const (.bool true)) (.tmp 13),none,[]⟩,⟨some 15,.call (.func 104) [.tmp 14,.const (.int .i64 3)],none,[]⟩,⟨some 6,.mov (.tmp 15),none,[]⟩]) .ret)⟩
theorem dh103:cProg Go.Proofs.Tryz.prog ⟨[],[],[]⟩ 103=some dc103:=by kernel_rfl
def dc104 : DFunc := ⟨7,2,[.tmp 4],.seq (.ops false [⟨some 4,.mov (.const (.int .i64 0)),none,[]⟩]) (.seq (.seq (.ops false [⟨some 5,.mov (.tmp 0),none,[]⟩]) (.cond (.tmp 5) (.seq (.ops false [⟨some 6,.mov (.tmp 1),none,[]⟩,⟨some 4,.mov (.tmp 6),none,[]⟩]) .ret) .skip)) (.seq (.ops false [⟨some 4,.mov (.const (.int .i64 0)),none,[]⟩]) .ret))⟩
theorem dh104:cProg Go.Proofs.Tryz.prog ⟨[],[],[]⟩ 104=some dc104:=by kernel_rfl
def db105_0 : DC := (.seq (.ops false [⟨some 11,.bin .lss (.tmp 10) (.tmp 9),none,[]⟩]) (.seq (.cond (.tmp 11) .skip (.exit 0)) (.seq (.block 1 none (.seq (.ops false [⟨some 12,.iaddr 3 (.tmp 8) (.tmp 10),none,[]⟩,⟨some 13,.load (some 3) (.tmp 12),none,[]⟩,⟨some 7,.alloc (.agg [.int .i64 0,.int .i64 0,.int .i64 0]) 3,none,[]⟩,⟨none,.store 3 (.tmp 7) (.tmp 13),none,[]⟩]) (.ops false [⟨some 14,.mov (.tmp 5),none,[]⟩,⟨some 15,.mov (.tmp 1),none,[]⟩,⟨some 16,.load (some 3) (.tmp 7),none,[]⟩,⟨some 17,.call (.tmp 15) [.tmp 16],none,[]⟩,⟨some 18,.lit true 1 1 (.int .i64 0) [(0,(.tmp 17))],none,[]⟩,⟨some 19,.append false 1 (.tmp 14) (.tmp 18),none,[]⟩,⟨some 5,.mov (.tmp 19),none,[]⟩]))) (.ops false [⟨some 20,.bin .add (.tmp 10) (.const (.int .i64 1)),none,[]⟩,⟨some 10,.mov (.tmp 20),none,[]⟩]))))
def dk105_0 : Keep := ⟨[(5,1)],[1,5,8,9,10],[5]⟩
def dc105 : DFunc := ⟨22,2,[.tmp 4],.seq (.ops false [⟨some 4,.mov (.const (.slice none 0 0)),none,[]⟩]) (.seq (.ops false [⟨some 5,.mov (.const (.slice none 0 0)),none,[]⟩]) (.seq (.seq (.ops false [⟨some 8,.mov (.tmp 0),none,[]⟩,⟨some 9,.len (.tmp 8),none,[]⟩,⟨some 10,.mov (.const (.int .i64 0)),none,[]⟩]) (.block 0 (some ⟨[],[5],[5]⟩) (.loop dk105_0 db105_0))) (.seq (.ops false [⟨some 21,.mov (.tmp 5),none,[]⟩,⟨some 4,.mov (.tmp 21),none,[]⟩]) .ret)))⟩
theorem dh105:cProg Go.Proofs.Tryz.prog ⟨[(0,⟨[(5,1)],[1,5,8,9,10],[5]⟩)],[(0,⟨[],[5],[5]⟩)],[18]⟩ 105=some dc105:=by kernel_rfl
def dc106 : DFunc := ⟨14,1,[.tmp 2],.seq (.ops false [⟨some 1,.box 3 (.tmp 0),none,[]⟩,⟨some 2,.mov (.const (.int .i64 0)),none,[]⟩]) (.seq (.ops true [⟨some 3,.faddr 0 1 false (.tmp 1),none,[]⟩,⟨some 4,.load none (.tmp 3),none,[0]⟩,⟨some 5,.call (.func 103) [.tmp 4,.const (.int .i64 (-1000)),.const (.int .i64 1000)],none,[1,0]⟩,⟨some 6,.faddr 1 1 false (.tmp 1),none,[]⟩,⟨some 7,.load none (.tmp 6),none,[3]⟩,⟨some 8,.call (.func 103) [.tmp 7,.const (.int .i64 (-1000)),.const (.int .i64 1000)],none,[4,3,2,1,0]⟩,⟨some 9,.faddr 2 1 false (.tmp 1),none,[]⟩,⟨some 10,.load none (.tmp 9),none,[6]⟩,⟨some 11,.call (.func 103) [.tmp 10,.const (.int .i64 0),.const (.int .i64 1000)],none,[7,6,5,4,3,2,1,0]⟩,⟨some 12,.lit true 1 3 (.int .i64 0) [(0,(.tmp 5)),(1,(.tmp 8)),(2,(.tmp 11))],none,[2,1,0,5,4,3,8,7,6]⟩,⟨some 13,.call (.func 89) [.tmp 12],none,[9,2,1,0,5,4,3,8,7,6]⟩,⟨some 2,.mov (.tmp 13),none,[10,9,2,1,0,5,4,3,8,7,6]⟩]) .ret)⟩
theorem dh106:cProg Go.Proofs.Tryz.prog ⟨[],[],[12]⟩ 106=some dc106:=by kernel_rfl
def db107_0 : DC := (.seq (.ops false [⟨some 51,.bin .lss (.tmp 50) (.tmp 49),none,[]⟩]) (.seq (.cond (.tmp 51) .skip (.exit 2)) (.seq (.block 3 none (.seq (.ops false [⟨some 52,.iaddr 3 (.tmp 48) (.tmp 50),none,[]⟩,⟨some 53,.load (some 3) (.tmp 52),none,[]⟩,⟨some 9,.alloc (.agg [.int .i64 0,.int .i64 0,.int .i64 0]) 3,none,[]⟩,⟨none,.store 3 (.tmp 9) (.tmp 53),none,[]⟩]) (.seq (.ops true [⟨some 54,.load (some 3) (.tmp 3),none,[]⟩,⟨some 55,.load (some 3) (.tmp 6),none,[]⟩,⟨some 56,.load (some 3) (.tmp 9),none,[]⟩,⟨some 57,.load (some 3) (.tmp 5),none,[]⟩,⟨some 58,.call (.func 147) [.tmp 56,.tmp 57],none,[2,3]⟩,⟨some 59,.call (.func 148) [.tmp 55,.tmp 58],none,[1,4,2,3]⟩,⟨some 60,.call (.func 146) [.tmp 54,.tmp 59],none,[0,5,1,4,2,3]⟩,⟨some 61,.bin .lss (.tmp 60) (.const (.int .i64 0)),none,[6,0,5,1,4,2,3]⟩]) (.cond (.tmp 61) (.seq (.ops false [⟨some 2,.mov (.const (.bool false)),none,[]⟩]) .ret) .skip)))) (.ops false [⟨some 62,.bin .add (.tmp 50) (.const (.int .i64 1)),none,[]⟩,⟨some 50,.mov (.tmp 62),none,[]⟩]))))
def dk107_0 : Keep := ⟨[],[0,3,5,6,12,13,14,48,49,50],[3,5,6,7]⟩
def db107_1 : DC := (.seq (.ops false [⟨some 15,.bin .lss (.tmp 14) (.tmp 13),none,[]⟩]) (.seq (.cond (.tmp 15) .skip (.exit 0)) (.seq (.block 1 (some ⟨[],[0,3,12,13,14],[3]⟩) (.seq (.ops false [⟨some 16,.mov (.tmp 14),none,[]⟩,⟨some 17,.iaddr 3 (.tmp 12) (.tmp 14),none,[]⟩,⟨some 18,.load (some 3) (.tmp 17),none,[]⟩,⟨some 5,.alloc (.agg [.int .i64 0,.int .i64 0,.int .i64 0]) 3,none,[]⟩,⟨some 4,.mov (.tmp 16),none,[]⟩,⟨none,.store 3 (.tmp 5) (.tmp 18),none,[]⟩]) (.seq (.ops true [⟨some 19,.mov (.tmp 0),none,[]⟩,⟨some 20,.mov (.tmp 4),none,[]⟩,⟨some 21,.call (.func 120) [.tmp 19,.tmp 20],none,[0,1]⟩,⟨some 22,.load (some 3) (.tmp 5),none,[]⟩,⟨some 23,.call (.func 147) [.tmp 21,.tmp 22],none,[2,0,1,3]⟩,⟨some 6,.alloc (.agg [.int .i64 0,.int .i64 0,.int .i64 0]) 3,none,[]⟩,⟨none,.store 3 (.tmp 6) (.tmp 23),none,[5,4,2,0,1,3]⟩]) (.seq (.ops false [⟨some 24,.mov (.tmp 0),none,[]⟩,⟨some 25,.mov (.tmp 4),none,[]⟩,⟨some 26,.bin .add (.tmp 25) (.const (.int .i64 1)),none,[]⟩,⟨some 27,.call (.func 120) [.tmp 24,.tmp 26],none,[]⟩,⟨some 28,.mov (.tmp 0),none,[]⟩,⟨some 29,.mov (.tmp 4),none,[]⟩,⟨some 30,.call (.func 120) [.tmp 28,.tmp 29],none,[]⟩,⟨some 31,.call (.func 147) [.tmp 27,.tmp 30],none,[]⟩,⟨some 7,.alloc (.agg [.int .i64 0,.int .i64 0,.int .i64 0]) 3,none,[]⟩,⟨none,.store 3 (.tmp 7) (.tmp 31),none,[]⟩]) (.seq (.seq (.ops true [⟨some 32,.load (some 3) (.tmp 3),none,[]⟩,⟨some 33,.load (some 3) (.tmp 5),none,[]⟩,⟨some 34,.mov (.tmp 0),none,[]⟩,⟨some 35,.iaddr 3 (.tmp 34) (.const (.int .i64 0)),none,[2]⟩,⟨some 36,.load (some 3) (.tmp 35),none,[3,2]⟩,⟨some 37,.call (.func 147) [.tmp 33,.tmp 36],none,[1,4,3,2]⟩,⟨some 38,.call (.func 146) [.tmp 32,.tmp 37],none,[0,5,1,4,3,2]⟩,⟨some 39,.bin .neq (.tmp 38) (.const (.int .i64 0)),none,[6,0,5,1,4,3,2]⟩,⟨some 40,.mov (.tmp 39),none,[7,6,0,5,1,4,3,2]⟩,⟨some 41,.load (some 3) (.tmp 3),some (40,false),[8,7,6,0,5,1,4,3,2]⟩,⟨some 42,.load (some 3) (.tmp 6),some (40,false),[8,7,6,0,5,1,4,3,2]⟩,⟨some 43,.load (some 3) (.tmp 7),some (40,false),[8,7,6,0,5,1,4,3,2]⟩,⟨some 44,.call (.func 148) [.tmp 42,.tmp 43],some (40,false),[10,8,7,6,0,5,1,4,3,2,11]⟩,⟨some 45,.call (.func 146) [.tmp 41,.tmp 44],some (40,false),[9,8,7,6,0,5,1,4,3,2,12,10,11]⟩,⟨some 46,.bin .leq (.tmp 45) (.const (.int .i64 0)),some (40,false),[13,9,8,7,6,0,5,1,4,3,2,12,10,11]⟩,⟨some 47,.pick (.tmp 40) (.const (.bool true)) (.tmp 46),none,[8,7,6,0,5,1,4,3,2,14,13,9,12,10,11]⟩]) (.cond (.tmp 47) (.seq (.ops false [⟨some 2,.mov (.const (.bool false)),none,[]⟩]) .ret) .skip)) (.seq (.ops false [⟨some 48,.mov (.tmp 0),none,[]⟩,⟨some 49,.len (.tmp 48),none,[]⟩,⟨some 50,.mov (.const (.int .i64 0)),none,[]⟩]) (.block 2 (some ⟨[],[0,3,12,13,14],[3,5,6,7]⟩) (.loop dk107_0 db107_0)))))))) (.ops false [⟨some 63,.bin .add (.tmp 14) (.const (.int .i64 1)),none,[]⟩,⟨some 14,.mov (.tmp 63),none,[]⟩]))))
def dk107_1 : Keep := ⟨[],[0,3,12,13,14],[3]⟩
def dc107 : DFunc := ⟨64,1,[.tmp 2],.seq (.ops false [⟨some 2,.mov (.const (.bool false)),none,[]⟩]) (.seq (.ops false [⟨some 10,.mov (.tmp 0),none,[]⟩,⟨some 11,.call (.func 144) [.tmp 10],none,[]⟩,⟨some 3,.alloc (.agg [.int .i64 0,.int .i64 0,.int .i64 0]) 3,none,[]⟩,⟨none,.store 3 (.tmp 3) (.tmp 11),none,[]⟩]) (.seq (.seq (.ops false [⟨some 12,.mov (.tmp 0),none,[]⟩,⟨some 13,.len (.tmp 12),none,[]⟩,⟨some 14,.mov (.const (.int .i64 0)),none,[]⟩]) (.block 0 (some ⟨[],[],[3]⟩) (.loop dk107_1 db107_1))) (.seq (.ops false [⟨some 2,.mov (.const (.bool true)),none,[]⟩]) .ret)))⟩
theorem dh107:cProg Go.Proofs.Tryz.prog ⟨[(0,⟨[],[0,3,12,13,14],[3]⟩),(2,⟨[],[0,3,5,6,12,13,14,48,49,50],[3,5,6,7]⟩)],[(2,⟨[],[0,3,12,13,14],[3,5,6,7]⟩),(1,⟨[],[0,3,12,13,14],[3]⟩),(0,⟨[],[],[3]⟩)],[]⟩ 107=some dc107:=by kernel_rfl
def dc108 : DFunc := ⟨4,1,[.tmp 2],.seq (.ops false [⟨some 1,.box 4 (.tmp 0),none,[]⟩,⟨some 2,.mov (.const .nilFunc),none,[]⟩]) (.seq (.ops false [⟨some 3,.mkfunc 152 [.tmp 1],none,[]⟩,⟨some 2,.mov (.tmp 3),none,[]⟩]) .ret)⟩
theorem dh108:cProg Go.Proofs.Tryz.prog ⟨[],[],[]⟩ 108=some dc108:=by kernel_rfl
def db110_0 : DC := (.seq (.ops false [⟨some 17,.bin .lss (.tmp 16) (.tmp 15),none,[]⟩]) (.seq (.cond (.tmp 17) .skip (.exit 2)) (.seq (.block 3 none (.seq (.ops false [⟨some 18,.iaddr 1 (.tmp 14) (.tmp 16),none,[]⟩,⟨some 19,.load none (.tmp 18),none,[]⟩,⟨some 10,.mov (.tmp 19),none,[]⟩]) (.seq (.ops false [⟨some 20,.mov (.tmp 10),none,[]⟩,⟨some 21,.load (some 3) (.tmp 4),none,[]⟩,⟨some 22,.load (some 2) (.tmp 8),none,[]⟩,⟨some 23,.call (.func 91) [.tmp 20,.tmp 21,.tmp 22],none,[]⟩]) (.cond (.tmp 23) (.exit 1) .skip)))) (.ops false [⟨some 24,.bin .add (.tmp 16) (.const (.int .i64 1)),none,[]⟩,⟨some 16,.mov (.tmp 24),none,[]⟩]))))
def dk110_0 : Keep := ⟨[],[4,7,8,14,15,16],[3,4,5,7,8]⟩
def db110_1x : DC := (.ops false [⟨some 8,.alloc (.agg [.int .i64 0,.int .i64 0]) 2,none,[]⟩,⟨none,.store 2 (.tmp 8) (.tmp 13),none,[]⟩])
def db110_1 : DC := (.block 1 (some ⟨[],[],[3,4,5,7,8]⟩) (.seq (.seq (.ops false [⟨some 14,.load none (.tmp 3),none,[]⟩,⟨some 15,.len (.tmp 14),none,[]⟩,⟨some 16,.mov (.const (.int .i64 0)),none,[]⟩]) (.block 2 (some ⟨[],[7],[3,4,5,7,8]⟩) (.loop dk110_0 db110_0))) (.ops false [⟨some 25,.load none (.tmp 7),none,[]⟩,⟨some 26,.bin .add (.tmp 25) (.const (.int .i64 1)),none,[]⟩,⟨none,.store 1 (.tmp 7) (.tmp 26),none,[]⟩])))
def dk110_1 : Keep := ⟨[],[3,4,6,7],[3,4,5,7]⟩
def dc110 : DFunc := ⟨28,3,[.tmp 6],.seq (.ops false [⟨some 3,.box 1 (.tmp 0),none,[]⟩,⟨some 4,.box 3 (.tmp 1),none,[]⟩,⟨some 5,.box 4 (.tmp 2),none,[]⟩,⟨some 6,.mov (.const (.int .i64 0)),none,[]⟩]) (.seq (.ops false [⟨some 7,.alloc (.int .i64 0) 1,none,[]⟩,⟨none,.store 1 (.tmp 7) (.const (.int .i64 0)),none,[]⟩]) (.seq .skip (.seq (.seq (.ops false [⟨some 11,.load (some 4) (.tmp 5),none,[]⟩,⟨some 12,.call (.func 108) [.tmp 11],none,[]⟩]) (.block 0 (some ⟨[],[7],[3,4,5,7]⟩) (.rangeF dk110_1 (.tmp 12) [13] db110_1x db110_1))) (.seq (.ops false [⟨some 27,.load none (.tmp 7),none,[]⟩,⟨some 6,.mov (.tmp 27),none,[]⟩]) .ret))))⟩
theorem dh110:cProg Go.Proofs.Tryz.prog ⟨[(0,⟨[],[3,4,6,7],[3,4,5,7]⟩),(2,⟨[],[4,7,8,14,15,16],[3,4,5,7,8]⟩)],[(2,⟨[],[7],[3,4,5,7,8]⟩),(1,⟨[],[],[3,4,5,7,8]⟩),(0,⟨[],[7],[3,4,5,7]⟩)],[]⟩ 110=some dc110:=by kernel_rfl
def db111_0 : DC := (.seq (.ops false [⟨some 11,.bin .lss (.tmp 10) (.tmp 9),none,[]⟩]) (.seq (.cond (.tmp 11) .skip (.exit 0)) (.seq (.block 1 none (.seq (.ops false [⟨some 12,.iaddr 4 (.tmp 8) (.tmp 10),none,[]⟩,⟨some 13,.load (some 4) (.tmp 12),none,[]⟩,⟨some 7,.alloc (.agg [.int .i64 0,.int .i64 0,.int .i64 0,.int .i64 0]) 4,none,[]⟩,⟨none,.store 4 (.tmp 7) (.tmp 13),none,[]⟩]) (.ops false [⟨some 14,.mov (.tmp 5),none,[]⟩,⟨some 15,.mov (.tmp 1),none,[]⟩,⟨some 16,.load (some 4) (.tmp 7),none,[]⟩,⟨some 17,.call (.tmp 15) [.tmp 16],none,[]⟩,⟨some 18,.lit true 1 1 (.int .i64 0) [(0,(.tmp 17))],none,[]⟩,⟨some 19,.append false 1 (.tmp 14) (.tmp 18),none,[]⟩,⟨some 5,.mov (.tmp 19),none,[]⟩]))) (.ops false [⟨some 20,.bin .add (.tmp 10) (.const (.int .i64 1)),none,[]⟩,⟨some 10,.mov (.tmp 20),none,[]⟩]))))
def dk111_0 : Keep := ⟨[(5,1)],[1,5,8,9,10],[5]⟩
def dc111 : DFunc := ⟨22,2,[.tmp 4],.seq (.ops false [⟨some 4,.mov (.const (.slice none 0 0)),none,[]⟩]) (.seq (.ops false [⟨some 5,.mov (.const (.slice none 0 0)),none,[]⟩]) (.seq (.seq (.ops false [⟨some 8,.mov (.tmp 0),none,[]⟩,⟨some 9,.len (.tmp 8),none,[]⟩,⟨some 10,.mov (.const (.int .i64 0)),none,[]⟩]) (.block 0 (some ⟨[],[5],[5]⟩) (.loop dk111_0 db111_0))) (.seq (.ops false [⟨some 21,.mov (.tmp 5),none,[]⟩,⟨some 4,.mov (.tmp 21),none,[]⟩]) .ret)))⟩
theorem dh111:cProg Go.Proofs.Tryz.prog ⟨[(0,⟨[(5,1)],[1,5,8,9,10],[5]⟩)],[(0,⟨[],[5],[5]⟩)],[18]⟩ 111=some dc111:=by kernel_rfl
def db112_0 : DC := (.seq (.ops false [⟨some 11,.bin .lss (.tmp 10) (.tmp 9),none,[]⟩]) (.seq (.cond (.tmp 11) .skip (.exit 0)) (.seq (.block 1 none (.seq (.ops false [⟨some 12,.iaddr 4 (.tmp 8) (.tmp 10),none,[]⟩,⟨some 13,.load (some 4) (.tmp 12),none,[]⟩,⟨some 7,.alloc (.agg [.int .i64 0,.int .i64 0,.int .i64 0,.int .i64 0]) 4,none,[]⟩,⟨none,.store 4 (.tmp 7) (.tmp 13),none,[]⟩]) (.ops false [⟨some 14,.mov (.tmp 5),none,[]⟩,⟨some 15,.mov (.tmp 1),none,[]⟩,⟨some 16,.load (some 4) (.tmp 7),none,[]⟩,⟨some 17,.call (.tmp 15) [.tmp 16],none,[]⟩,⟨some 18,.lit true 2 1 (.agg [.int .i64 0,.int .i64 0]) [(0,(.tmp 17))],none,[]⟩,⟨some 19,.append false 2 (.tmp 14) (.tmp 18),none,[]⟩,⟨some 5,.mov (.tmp 19),none,[]⟩]))) (.ops false [⟨some 20,.bin .add (.tmp 10) (.const (.int .i64 1)),none,[]⟩,⟨some 10,.mov (.tmp 20),none,[]⟩]))))
def dk112_0 : Keep := ⟨[(5,2)],[1,5,8,9,10],[5]⟩
def dc112 : DFunc := ⟨22,2,[.tmp 4],.seq (.ops false [⟨some 4,.mov (.const (.slice none 0 0)),none,[]⟩]) (.seq (.ops false [⟨some 5,.mov (.const (.slice none 0 0)),none,[]⟩]) (.seq (.seq (.ops false [⟨some 8,.mov (.tmp 0),none,[]⟩,⟨some 9,.len (.tmp 8),none,[]⟩,⟨some 10,.mov (.const (.int .i64 0)),none,[]⟩]) (.block 0 (some ⟨[],[5],[5]⟩) (.loop dk112_0 db112_0))) (.seq (.ops false [⟨some 21,.mov (.tmp 5),none,[]⟩,⟨some 4,.mov (.tmp 21),none,[]⟩]) .ret)))⟩
theorem dh112:cProg Go.Proofs.Tryz.prog ⟨[(0,⟨[(5,2)],[1,5,8,9,10],[5]⟩)],[(0,⟨[],[5],[5]⟩)],[18]⟩ 112=some dc112:=by kernel_rfl
def dc113 : DFunc := ⟨12,3,[.cell 4 (some 2)],.seq (.ops false [⟨some 3,.box 4 (.tmp 0),none,[]⟩,⟨some 4,.alloc (.agg [.int .i64 0,.int .i64 0]) 2,none,[]⟩]) (.seq (.ops true [⟨some 5,.load none (.tmp 1),none,[]⟩,⟨some 6,.load (some 3) (.tmp 2),none,[]⟩,⟨some 7,.load (some 4) (.tmp 3),none,[]⟩,⟨some 8,.call (.func 110) [.tmp 5,.tmp 6,.tmp 7],none,[0,1,2]⟩,⟨some 9,.load (some 4) (.tmp 3),none,[]⟩,⟨some 10,.call (.func 115) [.tmp 9],none,[4,3,0,1,2]⟩,⟨some 11,.call (.func 114) [.tmp 8,.tmp 10],none,[3,0,1,2,5,4]⟩,⟨none,.store 2 (.tmp 4) (.tmp 11),none,[6,3,0,1,2,5,4]⟩]) .ret)⟩
theorem dh113:cProg Go.Proofs.Tryz.prog ⟨[],[],[]⟩ 113=some dc113:=by kernel_rfl
def db114_0 : DC := (.seq (.seq (.ops false [⟨some 12,.mov (.tmp 6),none,[]⟩,⟨some 13,.bin .neq (.tmp 12) (.const (.int .i64 0)),none,[]⟩]) (.cond (.tmp 13) .skip (.exit 0))) (.block 1 none (.ops true [⟨some 14,.mov (.tmp 6),none,[]⟩,⟨some 15,.mov (.tmp 5),none,[]⟩,⟨some 16,.mov (.tmp 6),none,[]⟩,⟨some 17,.bin .rem (.tmp 15) (.tmp 16),none,[1,2]⟩,⟨some 5,.mov (.tmp 14),none,[0,1]⟩,⟨some 6,.mov (.tmp 17),none,[3,1,2,4,0]⟩])))
def dk114_0 : Keep := ⟨[],[0,1,4,5,6],[4]⟩
def dc114 : DFunc := ⟨25,2,[.cell 4 (some 2)],.seq (.ops false [⟨some 4,.alloc (.agg [.int .i64 0,.int .i64 0]) 2,none,[]⟩]) (.seq (.ops false [⟨some 7,.mov (.tmp 0),none,[]⟩,⟨some 8,.mov (.tmp 0),none,[]⟩,⟨some 9,.un .neg (.tmp 8),none,[]⟩,⟨some 10,.minmax true (.tmp 7) [.tmp 9],none,[]⟩,⟨some 11,.mov (.tmp 1),none,[]⟩,⟨some 5,.mov (.tmp 10),none,[]⟩,⟨some 6,.mov (.tmp 11),none,[]⟩]) (.seq (.block 0 (some ⟨[],[0,1,4,5],[4]⟩) (.loop dk114_0 db114_0)) (.seq (.ops true [⟨some 18,.mov (.tmp 0),none,[]⟩,⟨some 19,.mov (.tmp 5),none,[]⟩,⟨some 20,.bin .quo (.tmp 18) (.tmp 19),none,[0,1]⟩,⟨some 21,.mov (.tmp 1),none,[]⟩,⟨some 22,.mov (.tmp 5),none,[]⟩,⟨some 23,.bin .quo (.tmp 21) (.tmp 22),none,[3,4]⟩,⟨some 24,.build [.int .i64 0,.int .i64 0] [(0,(1,(.tmp 20))),(1,(1,(.tmp 23)))],none,[2,0,1,5,3,4]⟩,⟨none,.store 2 (.tmp 4) (.tmp 24),none,[6,2,0,1,5,3,4]⟩]) .ret)))⟩
theorem dh114:cProg Go.Proofs.Tryz.prog ⟨[(0,⟨[],[0,1,4,5,6],[4]⟩)],[(0,⟨[],[0,1,4,5],[4]⟩)],[]⟩ 114=some dc114:=by kernel_rfl
def dc115 : DFunc := ⟨18,1,[.tmp 2],.seq (.ops false [⟨some 1,.box 4 (.tmp 0),none,[]⟩,⟨some 2,.mov (.const (.int .i64 0)),none,[]⟩]) (.seq (.ops false [⟨some 3,.faddr 2 2 true (.tmp 1),none,[]⟩,⟨some 4,.faddr 0 1 false (.tmp 3),none,[]⟩,⟨some 5,.load none (.tmp 4),none,[]⟩,⟨some 6,.faddr 0 2 true (.tmp 1),none,[]⟩,⟨some 7,.faddr 0 1 false (.tmp 6),none,[]⟩,⟨some 8,.load none (.tmp 7),none,[]⟩,⟨some 9,.bin .sub (.tmp 5) (.tmp 8),none,[]⟩,⟨some 10,.faddr 2 2 true (.tmp 1),none,[]⟩,⟨some 11,.faddr 1 1 false (.tmp 10),none,[]⟩,⟨some 12,.load none (.tmp 11),none,[]⟩,⟨some 13,.faddr 0 2 true (.tmp 1),none,[]⟩,⟨some 14,.faddr 1 1 false (.tmp 13),none,[]⟩,⟨some 15,.load none (.tmp 14),none,[]⟩,⟨some 16,.bin .sub (.tmp 12) (.tmp 15),none,[]⟩,⟨some 17,.bin .mul (.tmp 9) (.tmp 16),none,[]⟩,⟨some 2,.mov (.tmp 17),none,[]⟩]) .ret)⟩
theorem dh115:cProg Go.Proofs.Tryz.prog ⟨[],[],[]⟩ 115=some dc115:=by kernel_rfl
def db117_0 : DC := (.seq (.ops false [⟨some 11,.bin .lss (.tmp 10) (.tmp 9),none,[]⟩]) (.seq (.cond (.tmp 11) .skip (.exit 0)) (.seq (.block 1 none (.seq (.ops false [⟨some 12,.iaddr 3 (.tmp 8) (.tmp 10),none,[]⟩,⟨some 13,.load (some 3) (.tmp 12),none,[]⟩,⟨some 7,.alloc (.agg [.int .i64 0,.int .i64 0,.int .i64 0]) 3,none,[]⟩,⟨none,.store 3 (.tmp 7) (.tmp 13),none,[]⟩]) (.ops false [⟨some 14,.mov (.tmp 5),none,[]⟩,⟨some 15,.mov (.tmp 1),none,[]⟩,⟨some 16,.load (some 3) (.tmp 7),none,[]⟩,⟨some 17,.call (.tmp 15) [.tmp 16],none,[]⟩,⟨some 18,.lit true 4 1 (.agg [.int .i64 0,.int .i64 0,.int .i64 0,.int .i64 0]) [(0,(.tmp 17))],none,[]⟩,⟨some 19,.append false 4 (.tmp 14) (.tmp 18),none,[]⟩,⟨some 5,.mov (.tmp 19),none,[]⟩]))) (.ops false [⟨some 20,.bin .add (.tmp 10) (.const (.int .i64 1)),none,[]⟩,⟨some 10,.mov (.tmp 20),none,[]⟩]))))
def dk117_0 : Keep := ⟨[(5,4)],[1,5,8,9,10],[5]⟩
def dc117 : DFunc := ⟨22,2,[.tmp 4],.seq (.ops false [⟨some 4,.mov (.const (.slice none 0 0)),none,[]⟩]) (.seq (.ops false [⟨some 5,.mov (.const (.slice none 0 0)),none,[]⟩]) (.seq (.seq (.ops false [⟨some 8,.mov (.tmp 0),none,[]⟩,⟨some 9,.len (.tmp 8),none,[]⟩,⟨some 10,.mov (.const (.int .i64 0)),none,[]⟩]) (.block 0 (some ⟨[],[5],[5]⟩) (.loop dk117_0 db117_0))) (.seq (.ops false [⟨some 21,.mov (.tmp 5),none,[]⟩,⟨some 4,.mov (.tmp 21),none,[]⟩]) .ret)))⟩
theorem dh117:cProg Go.Proofs.Tryz.prog ⟨[(0,⟨[(5,4)],[1,5,8,9,10],[5]⟩)],[(0,⟨[],[5],[5]⟩)],[18]⟩ 117=some dc117:=by kernel_rfl
def dc118 : DFunc := ⟨21,2,[.cell 3 (some 4)],.seq (.ops false [⟨some 2,.box 3 (.tmp 0),none,[]⟩,⟨some 3,.alloc (.agg [.int .i64 0,.int .i64 0,.int .i64 0,.int .i64 0]) 4,none,[]⟩]) (.seq (.ops true [⟨some 4,.iaddrA 2 1 true (.global 0) (.const (.int .i64 0)),none,[]⟩,⟨some 5,.load (some 1) (.tmp 4),none,[0]⟩,⟨some 6,.load (some 3) (.tmp 2),none,[]⟩,⟨some 7,.load (some 3) (.tmp 1),none,[]⟩,⟨some 8,.call (.func 119) [.tmp 5,.tmp 6,.tmp 7],none,[1,0,2,3]⟩,⟨some 9,.faddr 2 1 false (.tmp 1),none,[]⟩,⟨some 10,.load none (.tmp 9),none,[5]⟩,⟨some 11,.call (.func 114) [.tmp 8,.tmp 10],none,[4,1,0,2,3,6,5]⟩,⟨some 12,.iaddrA 2 1 true (.global 0) (.const (.int .i64 1)),none,[]⟩,⟨some 13,.load (some 1) (.tmp 12),none,[8]⟩,⟨some 14,.load (some 3) (.tmp 2),none,[]⟩,⟨some 15,.load (some 3) (.tmp 1),none,[]⟩,⟨some 16,.call (.func 119) [.tmp 13,.tmp 14,.tmp 15],none,[9,8,10,11,7,4,1,0,2,3,6,5]⟩,⟨some 17,.faddr 2 1 false (.tmp 1),none,[]⟩,⟨some 18,.load none (.tmp 17),none,[13]⟩,⟨some 19,.call (.func 114) [.tmp 16,.tmp 18],none,[12,9,8,10,11,7,4,1,0,2,3,6,5,14,13]⟩,⟨some 20,.build [.int .i64 0,.int .i64 0,.int .i64 0,.int .i64 0] [(0,(2,(.tmp 11))),(2,(2,(.tmp 19)))],none,[7,4,1,0,2,3,6,5,15,12,9,8,10,11,14,13]⟩,⟨none,.store 4 (.tmp 3) (.tmp 20),none,[16,7,4,1,0,2,3,6,5,15,12,9,8,10,11,14,13]⟩]) .ret)⟩
theorem dh118:cProg Go.Proofs.Tryz.prog ⟨[],[],[]⟩ 118=some dc118:=by kernel_rfl
def dc119 : DFunc := ⟨22,3,[.tmp 6],.seq (.ops false [⟨some 3,.box 1 (.tmp 0),none,[]⟩,⟨some 4,.box 3 (.tmp 1),none,[]⟩,⟨some 5,.box 3 (.tmp 2),none,[]⟩,⟨some 6,.mov (.const (.int .i64 0)),none,[]⟩]) (.seq (.ops true [⟨some 7,.faddr 0 1 false (.tmp 3),none,[]⟩,⟨some 8,.load none (.tmp 7),none,[0]⟩,⟨some 9,.load (some 3) (.tmp 4),none,[]⟩,⟨some 10,.call (.tmp 8) [.tmp 9],none,[1,0,2]⟩,⟨some 11,.faddr 2 1 false (.tmp 5),none,[]⟩,⟨some 12,.load none (.tmp 11),none,[4]⟩,⟨some 13,.bin .mul (.tmp 10) (.tmp 12),none,[3,1,0,2,5,4]⟩,⟨some 14,.faddr 2 1 false (.tmp 4),none,[]⟩,⟨some 15,.load none (.tmp 14),none,[7]⟩,⟨some 16,.faddr 0 1 false (.tmp 3),none,[]⟩,⟨some 17,.load none (.tmp 16),none,[9]⟩,⟨some 18,.load (some 3) (.tmp 5),none,[]⟩,⟨some 19,.call (.tmp 17) [.tmp 18],none,[10,9,11,3,1,0,2]⟩,⟨some 20,.bin .mul (.tmp 15) (.tmp 19),none,[8,7,12,10,9,11,3,1,0,2]⟩,⟨some 21,.bin .sub (.tmp 13) (.tmp 20),none,[6,3,1,0,2,5,4,13,8,7,12,10,9,11]⟩,⟨some 6,.mov (.tmp 21),none,[14,6,3,1,0,2,5,4,13,8,7,12,10,9,11]⟩]) .ret)⟩
theorem dh119:cProg Go.Proofs.Tryz.prog ⟨[],[],[]⟩ 119=some dc119:=by kernel_rfl
def dc120 : DFunc := ⟨13,2,[.cell 4 (some 3)],.seq (.ops false [⟨some 4,.alloc (.agg [.int .i64 0,.int .i64 0,.int .i64 0]) 3,none,[]⟩]) (.seq (.ops false [⟨some 5,.mov (.tmp 0),none,[]⟩,⟨some 6,.mov (.tmp 1),none,[]⟩,⟨some 7,.bin .add (.tmp 6) (.const (.int .i64 1)),none,[]⟩,⟨some 8,.mov (.tmp 0),none,[]⟩,⟨some 9,.len (.tmp 8),none,[]⟩,⟨some 10,.bin .rem (.tmp 7) (.tmp 9),none,[]⟩,⟨some 11,.iaddr 3 (.tmp 5) (.tmp 10),none,[]⟩,⟨some 12,.load (some 3) (.tmp 11),none,[]⟩,⟨none,.store 3 (.tmp 4) (.tmp 12),none,[]⟩]) .ret)⟩
theorem dh120:cProg Go.Proofs.Tryz.prog ⟨[],[],[]⟩ 120=some dc120:=by kernel_rfl
def dc121 : DFunc := ⟨25,2,[.tmp 4],.seq (.ops false [⟨some 2,.box 3 (.tmp 0),none,[]⟩,⟨some 4,.mov (.const (.int .i64 0)),none,[]⟩]) (.seq (.ops true [⟨some 5,.faddr 0 1 false (.tmp 2),none,[]⟩,⟨some 6,.load none (.tmp 5),none,[0]⟩,⟨some 7,.mov (.tmp 1),none,[]⟩,⟨some 8,.un .neg (.tmp 7),none,[2]⟩,⟨some 9,.mov (.tmp 1),none,[]⟩,⟨some 10,.call (.func 103) [.tmp 6,.tmp 8,.tmp 9],none,[1,0,3,2,4]⟩,⟨some 11,.faddr 1 1 false (.tmp 2),none,[]⟩,⟨some 12,.load none (.tmp 11),none,[6]⟩,⟨some 13,.mov (.tmp 1),none,[]⟩,⟨some 14,.un .neg (.tmp 13),none,[8]⟩,⟨some 15,.mov (.tmp 1),none,[]⟩,⟨some 16,.call (.func 103) [.tmp 12,.tmp 14,.tmp 15],none,[7,6,9,8,10,5,1,0,3,2,4]⟩,⟨some 17,.faddr 2 1 false (.tmp 2),none,[]⟩,⟨some 18,.load none (.tmp 17),none,[12]⟩,⟨some 19,.mov (.tmp 1),none,[]⟩,⟨some 20,.un .neg (.tmp 19),none,[14]⟩,⟨some 21,.mov (.tmp 1),none,[]⟩,⟨some 22,.call (.func 103) [.tmp 18,.tmp 20,.tmp 21],none,[13,12,15,14,16,11,7,6,9,8,10,5,1,0,3,2,4]⟩,⟨some 23,.lit true 1 3 (.int .i64 0) [(0,(.tmp 10)),(1,(.tmp 16)),(2,(.tmp 22))],none,[5,1,0,3,2,4,11,7,6,9,8,10,17,13,12,15,14,16]⟩,⟨some 24,.call (.func 89) [.tmp 23],none,[18,5,1,0,3,2,4,11,7,6,9,8,10,17,13,12,15,14,16]⟩,⟨some 4,.mov (.tmp 24),none,[19,18,5,1,0,3,2,4,11,7,6,9,8,10,17,13,12,15,14,16]⟩]) .ret)⟩
theorem dh121:cProg Go.Proofs.Tryz.prog ⟨[],[],[23]⟩ 121=some dc121:=by kernel_rfl
def dc122 : DFunc := ⟨11,1,[.tmp 2],.seq (.ops false [⟨some 1,.box 2 (.tmp 0),none,[]⟩,⟨some 2,.mov (.const (.int .i64 0)),none,[]⟩]) (.seq (.ops true [⟨some 3,.faddr 0 1 false (.tmp 1),none,[]⟩,⟨some 4,.load none (.tmp 3),none,[0]⟩,⟨some 5,.call (.func 103) [.tmp 4,.const (.int .i64 1),.const (.int .i64 100)],none,[1,0]⟩,⟨some 6,.faddr 1 1 false (.tmp 1),none,[]⟩,⟨some 7,.load none (.tmp 6),none,[3]⟩,⟨some 8,.call (.func 103) [.tmp 7,.const (.int .i64 (-100)),.const (.int .i64 100)],none,[4,3,2,1,0]⟩,⟨some 9,.lit true 1 2 (.int .i64 0) [(0,(.tmp 5)),(1,(.tmp 8))],none,[2,1,0,5,4,3]⟩,⟨some 10,.call (.func 89) [.tmp 9],none,[6,2,1,0,5,4,3]⟩,⟨some 2,.mov (.tmp 10),none,[7,6,2,1,0,5,4,3]⟩]) .ret)⟩
theorem dh122:cProg Go.Proofs.Tryz.prog ⟨[],[],[9]⟩ 122=some dc122:=by kernel_rfl
def dc123 : DFunc := ⟨16,2,[.tmp 4],.seq (.ops false [⟨some 2,.box 2 (.tmp 0),none,[]⟩,⟨some 3,.box 3 (.tmp 1),none,[]⟩,⟨some 4,.mov (.const (.int .i64 0)),none,[]⟩]) (.seq (.ops false [⟨some 5,.faddr 0 1 false (.tmp 2),none,[]⟩,⟨some 6,.load none (.tmp 5),none,[]⟩,⟨some 7,.faddr 2 1 false (.tmp 3),none,[]⟩,⟨some 8,.load none (.tmp 7),none,[]⟩,⟨some 9,.bin .mul (.tmp 6) (.tmp 8),none,[]⟩,⟨some 10,.faddr 1 1 false (.tmp 2),none,[]⟩,⟨some 11,.load none (.tmp 10),none,[]⟩,⟨some 12,.faddr 1 1 false (.tmp 3),none,[]⟩,⟨some 13,.load none (.tmp 12),none,[]⟩,⟨some 14,.bin .mul (.tmp 11) (.tmp 13),none,[]⟩,⟨some 15,.bin .sub (.tmp 9) (.tmp 14),none,[]⟩,⟨some 4,.mov (.tmp 15),none,[]⟩]) .ret)⟩
theorem dh123:cProg Go.Proofs.Tryz.prog ⟨[],[],[]⟩ 123=some dc123:=by kernel_rfl
def dc124 : DFunc := ⟨11,1,[.tmp 2],.seq (.ops false [⟨some 1,.box 2 (.tmp 0),none,[]⟩,⟨some 2,.mov (.const (.int .i64 0)),none,[]⟩]) (.seq (.ops true [⟨some 3,.faddr 0 1 false (.tmp 1),none,[]⟩,⟨some 4,.load none (.tmp 3),none,[0]⟩,⟨some 5,.call (.func 103) [.tmp 4,.const (.int .i64 1),.const (.int .i64 1000)],none,[1,0]⟩,⟨some 6,.faddr 1 1 false (.tmp 1),none,[]⟩,⟨some 7,.load none (.tmp 6),none,[3]⟩,⟨some 8,.call (.func 103) [.tmp 7,.const (.int .i64 (-1000)),.const (.int .i64 1000)],none,[4,3,2,1,0]⟩,⟨some 9,.lit true 1 2 (.int .i64 0) [(0,(.tmp 5)),(1,(.tmp 8))],none,[2,1,0,5,4,3]⟩,⟨some 10,.call (.func 89) [.tmp 9],none,[6,2,1,0,5,4,3]⟩,⟨some 2,.mov (.tmp 10),none,[7,6,2,1,0,5,4,3]⟩]) .ret)⟩
theorem dh124:cProg Go.Proofs.Tryz.prog ⟨[],[],[9]⟩ 124=some dc124:=by kernel_rfl
def dc125 : DFunc := ⟨13,2,[.tmp 4],.seq (.ops false [⟨some 2,.box 2 (.tmp 0),none,[]⟩,⟨some 3,.box 3 (.tmp 1),none,[]⟩,⟨some 4,.mov (.const (.int .i64 0)),none,[]⟩]) (.seq (.ops false [⟨some 6,.load (some 2) (.tmp 2),none,[]⟩,⟨some 7,.load (some 3) (.tmp 3),none,[]⟩,⟨some 8,.call (.func 123) [.tmp 6,.tmp 7],none,[]⟩,⟨some 5,.mov (.tmp 8),none,[]⟩]) (.seq (.ops false [⟨some 9,.mov (.tmp 5),none,[]⟩,⟨some 10,.mov (.tmp 5),none,[]⟩,⟨some 11,.un .neg (.tmp 10),none,[]⟩,⟨some 12,.minmax true (.tmp 9) [.tmp 11],none,[]⟩,⟨some 4,.mov (.tmp 12),none,[]⟩]) .ret))⟩
theorem dh125:cProg Go.Proofs.Tryz.prog ⟨[],[],[]⟩ 125=some dc125:=by kernel_rfl
def dc126 : DFunc := ⟨26,3,[.cell 6 (some 4)],.seq (.ops false [⟨some 3,.box 2 (.tmp 0),none,[]⟩,⟨some 5,.box 3 (.tmp 2),none,[]⟩,⟨some 6,.alloc (.agg [.int .i64 0,.int .i64 0,.int .i64 0,.int .i64 0]) 4,none,[]⟩]) (.seq (.ops false [⟨some 8,.load (some 2) (.tmp 3),none,[]⟩,⟨some 9,.mov (.tmp 1),none,[]⟩,⟨some 10,.build [.int .i64 0,.int .i64 0,.int .i64 0,.int .i64 0] [(0,(2,(.tmp 8))),(3,(1,(.tmp 9)))],none,[]⟩,⟨some 7,.alloc (.agg [.int .i64 0,.int .i64 0,.int .i64 0,.int .i64 0]) 4,none,[]⟩,⟨none,.store 4 (.tmp 7) (.tmp 10),none,[]⟩]) (.seq (.ops false [⟨some 11,.faddr 0 2 true (.tmp 7),none,[]⟩,⟨some 12,.faddr 0 1 false (.tmp 11),none,[]⟩,⟨some 13,.load none (.tmp 12),none,[]⟩,⟨some 14,.faddr 2 1 false (.tmp 5),none,[]⟩,⟨some 15,.load none (.tmp 14),none,[]⟩,⟨some 16,.bin .mul (.tmp 13) (.tmp 15),none,[]⟩,⟨some 17,.faddr 0 2 true (.tmp 7),none,[]⟩,⟨some 18,.faddr 1 1 false (.tmp 17),none,[]⟩,⟨some 19,.load none (.tmp 18),none,[]⟩,⟨some 20,.faddr 1 1 false (.tmp 5),none,[]⟩,⟨some 21,.load none (.tmp 20),none,[]⟩,⟨some 22,.bin .mul (.tmp 19) (.tmp 21),none,[]⟩,⟨some 23,.bin .sub (.tmp 16) (.tmp 22),none,[]⟩,⟨some 24,.faddr 2 1 false (.tmp 7),none,[]⟩,⟨none,.store 1 (.tmp 24) (.tmp 23),none,[]⟩]) (.seq (.ops false [⟨some 25,.load (some 4) (.tmp 7),none,[]⟩,⟨none,.store 4 (.tmp 6) (.tmp 25),none,[]⟩]) .ret)))⟩
theorem dh126:cProg Go.Proofs.Tryz.prog ⟨[],[],[]⟩ 126=some dc126:=by kernel_rfl
def db109_0x : DC := (.ops false [⟨some 11,.alloc (.agg [.int .i64 0,.int .i64 0]) 2,none,[]⟩,⟨none,.store 2 (.tmp 11) (.tmp 25),none,[]⟩])
def db109_0 : DC := (.block 3 none (.seq (.ops false [⟨some 26,.load none (.tmp 7),none,[]⟩,⟨some 27,.load (some 2) (.tmp 11),none,[]⟩,⟨some 28,.lookup 3 [1,1] false (.bool false) (.tmp 26) (.tmp 27),none,[]⟩,⟨some 29,.un .not (.tmp 28),none,[]⟩,⟨some 30,.mov (.tmp 29),none,[]⟩,⟨some 31,.load none (.tmp 10),some (30,true),[]⟩,⟨some 32,.load (some 3) (.tmp 4),some (30,true),[]⟩,⟨some 33,.load (some 2) (.tmp 11),some (30,true),[]⟩,⟨some 34,.call (.func 91) [.tmp 31,.tmp 32,.tmp 33],some (30,true),[]⟩,⟨some 35,.pick (.tmp 30) (.tmp 34) (.const (.bool false)),none,[]⟩]) (.cond (.tmp 35) (.seq (.ops false [⟨some 36,.load none (.tmp 7),none,[]⟩,⟨some 37,.load (some 2) (.tmp 11),none,[]⟩,⟨none,.mapset 3 [1,1] (.tmp 36) (.tmp 37) (.const (.bool true)),none,[]⟩]) (.ops false [⟨some 38,.load none (.tmp 8),none,[]⟩,⟨some 39,.load none (.tmp 9),none,[]⟩,⟨some 40,.iaddr 1 (.tmp 38) (.tmp 39),none,[]⟩,⟨some 41,.load none (.tmp 40),none,[]⟩,⟨some 42,.bin .add (.tmp 41) (.const (.int .i64 1)),none,[]⟩,⟨some 43,.iaddr 1 (.tmp 38) (.tmp 39),none,[]⟩,⟨none,.store 1 (.tmp 43) (.tmp 42),none,[]⟩])) .skip)))
def dk109_0 : Keep := ⟨[],[4,5,6,7,8,9,10,16,17,18],[4,5,7,8,9,10,12,15]⟩
def db109_1 : DC := (.seq (.ops false [⟨some 19,.bin .lss (.tmp 18) (.tmp 17),none,[]⟩]) (.seq (.cond (.tmp 19) .skip (.exit 0)) (.seq (.block 1 (some ⟨[],[4,5,6,7,8,16,17,18],[4,5,7,8,12,15]⟩) (.seq (.ops false [⟨some 20,.mov (.tmp 18),none,[]⟩,⟨some 21,.iaddr 1 (.tmp 16) (.tmp 18),none,[]⟩,⟨some 22,.load none (.tmp 21),none,[]⟩,⟨some 9,.alloc (.int .i64 0) 1,none,[]⟩,⟨some 10,.alloc (.full []) 1,none,[]⟩,⟨none,.store 1 (.tmp 9) (.tmp 20),none,[]⟩,⟨none,.store 1 (.tmp 10) (.tmp 22),none,[]⟩]) (.seq (.ops false [⟨some 23,.load (some 4) (.tmp 5),none,[]⟩,⟨some 24,.call (.func 108) [.tmp 23],none,[]⟩]) (.block 2 (some ⟨[],[4,5,6,7,8,16,17,18],[4,5,7,8,9,10,12,15]⟩) (.rangeF dk109_0 (.tmp 24) [25] db109_0x db109_0))))) (.ops false [⟨some 44,.bin .add (.tmp 18) (.const (.int .i64 1)),none,[]⟩,⟨some 18,.mov (.tmp 44),none,[]⟩]))))
def dk109_1 : Keep := ⟨[],[4,5,6,7,8,16,17,18],[4,5,7,8,12,15]⟩
def dc109 : DFunc := ⟨46,3,[.tmp 6],.seq (.ops false [⟨some 4,.box 3 (.tmp 1),none,[]⟩,⟨some 5,.box 4 (.tmp 2),none,[]⟩,⟨some 6,.mov (.const (.slice none 0 0)),none,[]⟩]) (.seq (.ops false [⟨some 12,.makemap,none,[]⟩,⟨some 7,.alloc .nilfunc 1,none,[]⟩,⟨none,.store 1 (.tmp 7) (.tmp 12),none,[]⟩]) (.seq (.ops false [⟨some 13,.mov (.tmp 0),none,[]⟩,⟨some 14,.len (.tmp 13),none,[]⟩,⟨some 15,.mkslice 1 (.int .i64 0) (.tmp 14) (.tmp 14),none,[]⟩,⟨some 8,.alloc (.full []) 1,none,[]⟩,⟨none,.store 1 (.tmp 8) (.tmp 15),none,[]⟩]) (.seq (.seq (.ops false [⟨some 16,.mov (.tmp 0),none,[]⟩,⟨some 17,.len (.tmp 16),none,[]⟩,⟨some 18,.mov (.const (.int .i64 0)),none,[]⟩]) (.block 0 (some ⟨[],[8],[4,5,7,8,12,15]⟩) (.loop dk109_1 db109_1))) (.seq (.ops false [⟨some 45,.load none (.tmp 8),none,[]⟩,⟨some 6,.mov (.tmp 45),none,[]⟩]) .ret))))⟩
theorem dh109:cProg Go.Proofs.Tryz.prog ⟨[(0,⟨[],[4,5,6,7,8,16,17,18],[4,5,7,8,12,15]⟩),(2,⟨[],[4,5,6,7,8,9,10,16,17,18],[4,5,7,8,9,10,12,15]⟩)],[(2,⟨[],[4,5,6,7,8,16,17,18],[4,5,7,8,9,10,12,15]⟩),(1,⟨[],[4,5,6,7,8,16,17,18],[4,5,7,8,12,15]⟩),(0,⟨[],[8],[4,5,7,8,12,15]⟩)],[]⟩ 109=some dc109:=by kernel_rfl
end Sh

namespace Sh
open Go
def dc127 : DFunc := ⟨10,1,[.tmp 2],.seq (.ops false [⟨some 1,.box 4 (.tmp 0),none,[]⟩,⟨some 2,.mov (.const (.int .i64 0)),none,[]⟩]) (.seq (.ops false [⟨some 3,.faddr 2 1 false (.tmp 1),none,[]⟩,⟨some 4,.load none (.tmp 3),none,[]⟩,⟨some 5,.faddr 2 1 false (.tmp 1),none,[]⟩,⟨some 6,.load none (.tmp 5),none,[]⟩,⟨some 7,.un .neg (.tmp 6),none,[]⟩,⟨some 8,.minmax true (.tmp 4) [.tmp 7],none,[]⟩,⟨some 9,.bin .mul (.const (.int .i64 2)) (.tmp 8),none,[]⟩,⟨some 2,.mov (.tmp 9),none,[]⟩]) .ret)⟩
theorem dh127:cProg Go.Proofs.Tryz.prog ⟨[],[],[]⟩ 127=some dc127:=by kernel_rfl
def db129_0 : DC := (.seq (.ops false [⟨some 15,.bin .lss (.tmp 14) (.tmp 13),none,[]⟩]) (.seq (.cond (.tmp 15) .skip (.exit 0)) (.seq (.block 1 none (.seq (.ops false [⟨some 16,.mov (.tmp 14),none,[]⟩,⟨some 17,.iaddr 2 (.tmp 12) (.tmp 14),none,[]⟩,⟨some 18,.load (some 2) (.tmp 17),none,[]⟩,⟨some 9,.alloc (.agg [.int .i64 0,.int .i64 0]) 2,none,[]⟩,⟨some 8,.mov (.tmp 16),none,[]⟩,⟨none,.store 2 (.tmp 9) (.tmp 18),none,[]⟩]) (.seq (.ops false [⟨some 19,.load (some 2) (.tmp 9),none,[]⟩,⟨some 20,.mov (.tmp 8),none,[]⟩,⟨some 21,.load (some 3) (.tmp 5),none,[]⟩,⟨some 22,.call (.func 126) [.tmp 19,.tmp 20,.tmp 21],none,[]⟩,⟨some 10,.alloc (.agg [.int .i64 0,.int .i64 0,.int .i64 0,.int .i64 0]) 4,none,[]⟩,⟨none,.store 4 (.tmp 10) (.tmp 22),none,[]⟩]) (.seq (.ops true [⟨some 23,.load (some 4) (.tmp 10),none,[]⟩,⟨some 24,.call (.func 127) [.tmp 23],none,[0]⟩,⟨some 25,.load (some 2) (.tmp 4),none,[]⟩,⟨some 26,.load (some 3) (.tmp 5),none,[]⟩,⟨some 27,.call (.func 125) [.tmp 25,.tmp 26],none,[2,3,1,0]⟩,⟨some 28,.bin .leq (.tmp 24) (.tmp 27),none,[1,0,4,2,3]⟩]) (.cond (.tmp 28) (.ops false [⟨some 29,.mov (.tmp 7),none,[]⟩,⟨some 30,.load (some 4) (.tmp 10),none,[]⟩,⟨some 31,.lit true 4 1 (.agg [.int .i64 0,.int .i64 0,.int .i64 0,.int .i64 0]) [(0,(.tmp 30))],none,[]⟩,⟨some 32,.append false 4 (.tmp 29) (.tmp 31),none,[]⟩,⟨some 7,.mov (.tmp 32),none,[]⟩]) .skip))))) (.ops false [⟨some 33,.bin .add (.tmp 14) (.const (.int .i64 1)),none,[]⟩,⟨some 14,.mov (.tmp 33),none,[]⟩]))))
def dk129_0 : Keep := ⟨[(7,4)],[4,5,7,12,13,14],[4,5,7]⟩
def dc129 : DFunc := ⟨41,3,[.tmp 6],.seq (.ops false [⟨some 4,.box 2 (.tmp 1),none,[]⟩,⟨some 5,.box 3 (.tmp 2),none,[]⟩,⟨some 6,.mov (.const (.int .i64 0)),none,[]⟩]) (.seq (.ops false [⟨some 7,.mov (.const (.slice none 0 0)),none,[]⟩]) (.seq (.seq (.ops false [⟨some 12,.mov (.tmp 0),none,[]⟩,⟨some 13,.len (.tmp 12),none,[]⟩,⟨some 14,.mov (.const (.int .i64 0)),none,[]⟩]) (.block 0 (some ⟨[],[7],[4,5,7]⟩) (.loop dk129_0 db129_0))) (.seq (.seq (.ops false [⟨some 34,.mov (.tmp 7),none,[]⟩,⟨some 35,.len (.tmp 34),none,[]⟩,⟨some 36,.bin .eql (.tmp 35) (.const (.int .i64 0)),none,[]⟩]) (.cond (.tmp 36) (.seq (.ops false [⟨some 6,.mov (.const (.int .i64 (-1))),none,[]⟩]) .ret) .skip)) (.seq (.ops false [⟨some 11,.mov (.func 153),none,[]⟩]) (.seq (.ops false [⟨some 37,.mov (.tmp 7),none,[]⟩,⟨some 38,.mov (.tmp 11),none,[]⟩,⟨some 39,.call (.func 154) [.tmp 37,.tmp 38],none,[]⟩,⟨some 40,.field 3 1 false (.tmp 39),none,[]⟩,⟨some 6,.mov (.tmp 40),none,[]⟩]) .ret)))))⟩
theorem dh129:cProg Go.Proofs.Tryz.prog ⟨[(0,⟨[(7,4)],[4,5,7,12,13,14],[4,5,7]⟩)],[(0,⟨[],[7],[4,5,7]⟩)],[31]⟩ 129=some dc129:=by kernel_rfl
def dc130 : DFunc := ⟨5,1,[.tmp 2],.seq (.ops false [⟨some 1,.box 3 (.tmp 0),none,[]⟩,⟨some 2,.mov (.const (.int .i64 0)),none,[]⟩]) (.seq (.ops false [⟨some 3,.load (some 3) (.tmp 1),none,[]⟩,⟨some 4,.call (.func 121) [.tmp 3,.const (.int .i64 1000)],none,[]⟩,⟨some 2,.mov (.tmp 4),none,[]⟩]) .ret)⟩
theorem dh130:cProg Go.Proofs.Tryz.prog ⟨[],[],[]⟩ 130=some dc130:=by kernel_rfl
def db131_0 : DC := (.seq (.ops false [⟨some 11,.bin .lss (.tmp 10) (.tmp 9),none,[]⟩]) (.seq (.cond (.tmp 11) .skip (.exit 0)) (.seq (.block 1 none (.seq (.ops false [⟨some 12,.iaddr 3 (.tmp 8) (.tmp 10),none,[]⟩,⟨some 13,.load (some 3) (.tmp 12),none,[]⟩,⟨some 7,.alloc (.agg [.int .i64 0,.int .i64 0,.int .i64 0]) 3,none,[]⟩,⟨none,.store 3 (.tmp 7) (.tmp 13),none,[]⟩]) (.ops false [⟨some 14,.mov (.tmp 5),none,[]⟩,⟨some 15,.mov (.tmp 1),none,[]⟩,⟨some 16,.load (some 3) (.tmp 7),none,[]⟩,⟨some 17,.call (.tmp 15) [.tmp 16],none,[]⟩,⟨some 18,.lit true 1 1 (.int .i64 0) [(0,(.tmp 17))],none,[]⟩,⟨some 19,.append false 1 (.tmp 14) (.tmp 18),none,[]⟩,⟨some 5,.mov (.tmp 19),none,[]⟩]))) (.ops false [⟨some 20,.bin .add (.tmp 10) (.const (.int .i64 1)),none,[]⟩,⟨some 10,.mov (.tmp 20),none,[]⟩]))))
def dk131_0 : Keep := ⟨[(5,1)],[1,5,8,9,10],[5]⟩
def dc131 : DFunc := ⟨22,2,[.tmp 4],.seq (.ops false [⟨some 4,.mov (.const (.slice none 0 0)),none,[]⟩]) (.seq (.ops false [⟨some 5,.mov (.const (.slice none 0 0)),none,[]⟩]) (.seq (.seq (.ops false [⟨some 8,.mov (.tmp 0),none,[]⟩,⟨some 9,.len (.tmp 8),none,[]⟩,⟨some 10,.mov (.const (.int .i64 0)),none,[]⟩]) (.block 0 (some ⟨[],[5],[5]⟩) (.loop dk131_0 db131_0))) (.seq (.ops false [⟨some 21,.mov (.tmp 5),none,[]⟩,⟨some 4,.mov (.tmp 21),none,[]⟩]) .ret)))⟩
theorem dh131:cProg Go.Proofs.Tryz.prog ⟨[(0,⟨[(5,1)],[1,5,8,9,10],[5]⟩)],[(0,⟨[],[5],[5]⟩)],[18]⟩ 131=some dc131:=by kernel_rfl
def dc132 : DFunc := ⟨12,3,[.tmp 4],.seq (.ops false [⟨some 3,.box 3 (.tmp 0),none,[]⟩,⟨some 4,.mov (.const (.int .i64 0)),none,[]⟩]) (.seq (.seq (.ops false [⟨some 5,.faddr 2 1 false (.tmp 3),none,[]⟩,⟨some 6,.load none (.tmp 5),none,[]⟩,⟨some 7,.bin .leq (.tmp 6) (.const (.int .i64 0)),none,[]⟩]) (.cond (.tmp 7) (.seq (.ops false [⟨some 4,.mov (.const (.int .i64 (-1))),none,[]⟩]) .ret) .skip)) (.seq (.ops false [⟨some 8,.load none (.tmp 1),none,[]⟩,⟨some 9,.load (some 2) (.tmp 2),none,[]⟩,⟨some 10,.load (some 3) (.tmp 3),none,[]⟩,⟨some 11,.call (.func 129) [.tmp 8,.tmp 9,.tmp 10],none,[]⟩,⟨some 4,.mov (.tmp 11),none,[]⟩]) .ret))⟩
theorem dh132:cProg Go.Proofs.Tryz.prog ⟨[],[],[]⟩ 132=some dc132:=by kernel_rfl
def dc133 : DFunc := ⟨9,2,[.tmp 4],.seq (.ops false [⟨some 3,.box 2 (.tmp 1),none,[]⟩,⟨some 4,.mov (.const (.bool false)),none,[]⟩]) (.seq (.ops false [⟨some 5,.mov (.tmp 0),none,[]⟩,⟨some 6,.load (some 2) (.tmp 3),none,[]⟩,⟨some 7,.call (.func 155) [.tmp 5,.tmp 6],none,[]⟩,⟨some 8,.bin .geq (.tmp 7) (.const (.int .i64 0)),none,[]⟩,⟨some 4,.mov (.tmp 8),none,[]⟩]) .ret)⟩
theorem dh133:cProg Go.Proofs.Tryz.prog ⟨[],[],[]⟩ 133=some dc133:=by kernel_rfl
def dc140 : DFunc := ⟨44,1,[.tmp 2],.seq (.ops false [⟨some 2,.mov (.const (.int .i64 0)),none,[]⟩]) (.seq (.seq (.ops false [⟨some 5,.mov (.tmp 0),none,[]⟩,⟨some 6,.nilCheck (.tmp 5),none,[]⟩,⟨some 7,.faddr 0 1 false (.tmp 6),none,[]⟩,⟨some 8,.load none (.tmp 7),none,[]⟩,⟨some 9,.len (.tmp 8),none,[]⟩,⟨some 10,.bin .eql (.tmp 9) (.const (.int .i64 0)),none,[]⟩]) (.cond (.tmp 10) (.seq (.ops false [⟨some 11,.mov (.tmp 0),none,[]⟩,⟨some 12,.nilCheck (.tmp 11),none,[]⟩,⟨some 13,.faddr 1 1 false (.tmp 12),none,[]⟩,⟨none,.store 1 (.tmp 13) (.const (.bool true)),none,[]⟩]) (.seq (.ops false [⟨some 2,.mov (.const (.int .i64 0)),none,[]⟩]) .ret)) .skip)) (.seq (.ops false [⟨some 15,.mov (.tmp 0),none,[]⟩,⟨some 16,.nilCheck (.tmp 15),none,[]⟩,⟨some 17,.faddr 0 1 false (.tmp 16),none,[]⟩,⟨some 18,.load none (.tmp 17),none,[]⟩,⟨some 19,.iaddr 1 (.tmp 18) (.const (.int .i64 0)),none,[]⟩,⟨some 20,.load none (.tmp 19),none,[]⟩,⟨some 21,.call (.func 162) [.tmp 20],none,[]⟩,⟨some 14,.mov (.tmp 21),none,[]⟩,⟨some 22,.extract (.tmp 14) 0,none,[]⟩,⟨some 23,.extract (.tmp 14) 1,none,[]⟩,⟨some 3,.mov (.tmp 22),none,[]⟩,⟨some 4,.mov (.tmp 23),none,[]⟩]) (.seq (.ops false [⟨some 24,.mov (.tmp 0),none,[]⟩,⟨some 25,.mov (.tmp 0),none,[]⟩,⟨some 26,.nilCheck (.tmp 25),none,[]⟩,⟨some 27,.faddr 0 1 false (.tmp 26),none,[]⟩,⟨some 28,.load none (.tmp 27),none,[]⟩,⟨some 29,.slice 1 (.tmp 28) (some (.const (.int .i64 1))) none none,none,[]⟩,⟨some 30,.nilCheck (.tmp 24),none,[]⟩,⟨some 31,.faddr 0 1 false (.tmp 30),none,[]⟩,⟨none,.store 1 (.tmp 31) (.tmp 29),none,[]⟩]) (.seq (.ops false [⟨some 32,.mov (.tmp 0),none,[]⟩,⟨some 33,.mov (.tmp 0),none,[]⟩,⟨some 34,.nilCheck (.tmp 33),none,[]⟩,⟨some 35,.faddr 1 1 false (.tmp 34),none,[]⟩,⟨some 36,.load none (.tmp 35),none,[]⟩,⟨some 37,.mov (.tmp 36),none,[]⟩,⟨some 38,.mov (.tmp 4),some (37,false),[]⟩,⟨some 39,.un .not (.tmp 38),some (37,false),[]⟩,⟨some 40,.pick (.tmp 37) (.const (.bool true)) (.tmp 39),none,[]⟩,⟨some 41,.nilCheck (.tmp 32),none,[]⟩,⟨some 42,.faddr 1 1 false (.tmp 41),none,[]⟩,⟨none,.store 1 (.tmp 42) (.tmp 40),none,[]⟩]) (.seq (.ops false [⟨some 43,.mov (.tmp 3),none,[]⟩,⟨some 2,.mov (.tmp 43),none,[]⟩]) .ret)))))⟩
theorem dh140:cProg Go.Proofs.Tryz.prog ⟨[],[],[]⟩ 140=some dc140:=by kernel_rfl
def dc144 : DFunc := ⟨18,1,[.cell 2 (some 3)],.seq (.ops false [⟨some 2,.alloc (.agg [.int .i64 0,.int .i64 0,.int .i64 0]) 3,none,[]⟩]) (.seq (.ops true [⟨some 3,.mov (.tmp 0),none,[]⟩,⟨some 4,.iaddr 3 (.tmp 3) (.const (.int .i64 1)),none,[0]⟩,⟨some 5,.load (some 3) (.tmp 4),none,[1,0]⟩,⟨some 6,.mov (.tmp 0),none,[]⟩,⟨some 7,.iaddr 3 (.tmp 6) (.const (.int .i64 0)),none,[3]⟩,⟨some 8,.load (some 3) (.tmp 7),none,[4,3]⟩,⟨some 9,.call (.func 147) [.tmp 5,.tmp 8],none,[2,1,0,5,4,3]⟩,⟨some 10,.mov (.tmp 0),none,[]⟩,⟨some 11,.iaddr 3 (.tmp 10) (.const (.int .i64 2)),none,[7]⟩,⟨some 12,.load (some 3) (.tmp 11),none,[8,7]⟩,⟨some 13,.mov (.tmp 0),none,[]⟩,⟨some 14,.iaddr 3 (.tmp 13) (.const (.int .i64 1)),none,[10]⟩,⟨some 15,.load (some 3) (.tmp 14),none,[11,10]⟩,⟨some 16,.call (.func 147) [.tmp 12,.tmp 15],none,[9,8,7,12,11,10,6,2,1,0,5,4,3]⟩,⟨some 17,.call (.func 148) [.tmp 9,.tmp 16],none,[6,2,1,0,5,4,3,13,9,8,7,12,11,10]⟩,⟨none,.store 3 (.tmp 2) (.tmp 17),none,[14,6,2,1,0,5,4,3,13,9,8,7,12,11,10]⟩]) .ret)⟩
theorem dh144:cProg Go.Proofs.Tryz.prog ⟨[],[],[]⟩ 144=some dc144:=by kernel_rfl
def dc145 : DFunc := ⟨9,1,[.tmp 2],.seq (.ops false [⟨some 2,.mov (.const (.int .i64 0)),none,[]⟩]) (.seq (.block 0 none (.seq (.ops false [⟨some 4,.mov (.tmp 0),none,[]⟩,⟨some 5,.bin .gtr (.tmp 4) (.const (.int .i64 0)),none,[]⟩,⟨some 3,.mov (.tmp 5),none,[]⟩]) (.cond (.tmp 3) (.seq (.ops false [⟨some 2,.mov (.const (.int .i64 1)),none,[]⟩]) .ret) (.seq (.ops false [⟨some 7,.mov (.tmp 0),none,[]⟩,⟨some 8,.bin .lss (.tmp 7) (.const (.int .i64 0)),none,[]⟩,⟨some 6,.mov (.tmp 8),none,[]⟩]) (.cond (.tmp 6) (.seq (.ops false [⟨some 2,.mov (.const (.int .i64 (-1))),none,[]⟩]) .ret) .skip))))) (.seq (.ops false [⟨some 2,.mov (.const (.int .i64 0)),none,[]⟩]) .ret))⟩
theorem dh145:cProg Go.Proofs.Tryz.prog ⟨[],[],[]⟩ 145=some dc145:=by kernel_rfl
def dc146 : DFunc := ⟨22,2,[.tmp 4],.seq (.ops false [⟨some 2,.box 3 (.tmp 0),none,[]⟩,⟨some 3,.box 3 (.tmp 1),none,[]⟩,⟨some 4,.mov (.const (.int .i64 0)),none,[]⟩]) (.seq (.ops false [⟨some 5,.faddr 0 1 false (.tmp 2),none,[]⟩,⟨some 6,.load none (.tmp 5),none,[]⟩,⟨some 7,.faddr 0 1 false (.tmp 3),none,[]⟩,⟨some 8,.load none (.tmp 7),none,[]⟩,⟨some 9,.bin .mul (.tmp 6) (.tmp 8),none,[]⟩,⟨some 10,.faddr 1 1 false (.tmp 2),none,[]⟩,⟨some 11,.load none (.tmp 10),none,[]⟩,⟨some 12,.faddr 1 1 false (.tmp 3),none,[]⟩,⟨some 13,.load none (.tmp 12),none,[]⟩,⟨some 14,.bin .mul (.tmp 11) (.tmp 13),none,[]⟩,⟨some 15,.bin .add (.tmp 9) (.tmp 14),none,[]⟩,⟨some 16,.faddr 2 1 false (.tmp 2),none,[]⟩,⟨some 17,.load none (.tmp 16),none,[]⟩,⟨some 18,.faddr 2 1 false (.tmp 3),none,[]⟩,⟨some 19,.load none (.tmp 18),none,[]⟩,⟨some 20,.bin .mul (.tmp 17) (.tmp 19),none,[]⟩,⟨some 21,.bin .add (.tmp 15) (.tmp 20),none,[]⟩,⟨some 4,.mov (.tmp 21),none,[]⟩]) .ret)⟩
theorem dh146:cProg Go.Proofs.Tryz.prog ⟨[],[],[]⟩ 146=some dc146:=by kernel_rfl
def dc147 : DFunc := ⟨21,2,[.cell 4 (some 3)],.seq (.ops false [⟨some 2,.box 3 (.tmp 0),none,[]⟩,⟨some 3,.box 3 (.tmp 1),none,[]⟩,⟨some 4,.alloc (.agg [.int .i64 0,.int .i64 0,.int .i64 0]) 3,none,[]⟩]) (.seq (.ops false [⟨some 5,.faddr 0 1 false (.tmp 2),none,[]⟩,⟨some 6,.load none (.tmp 5),none,[]⟩,⟨some 7,.faddr 0 1 false (.tmp 3),none,[]⟩,⟨some 8,.load none (.tmp 7),none,[]⟩,⟨some 9,.bin .sub (.tmp 6) (.tmp 8),none,[]⟩,⟨some 10,.faddr 1 1 false (.tmp 2),none,[]⟩,⟨some 11,.load none (.tmp 10),none,[]⟩,⟨some 12,.faddr 1 1 false (.tmp 3),none,[]⟩,⟨some 13,.load none (.tmp 12),none,[]⟩,⟨some 14,.bin .sub (.tmp 11) (.tmp 13),none,[]⟩,⟨some 15,.faddr 2 1 false (.tmp 2),none,[]⟩,⟨some 16,.load none (.tmp 15),none,[]⟩,⟨some 17,.faddr 2 1 false (.tmp 3),none,[]⟩,⟨some 18,.load none (.tmp 17),none,[]⟩,⟨some 19,.bin .sub (.tmp 16) (.tmp 18),none,[]⟩,⟨some 20,.build [.int .i64 0,.int .i64 0,.int .i64 0] [(0,(1,(.tmp 9))),(1,(1,(.tmp 14))),(2,(1,(.tmp 19)))],none,[]⟩,⟨none,.store 3 (.tmp 4) (.tmp 20),none,[]⟩]) .ret)⟩
theorem dh147:cProg Go.Proofs.Tryz.prog ⟨[],[],[]⟩ 147=some dc147:=by kernel_rfl
def dc148 : DFunc := ⟨39,2,[.cell 4 (some 3)],.seq (.ops false [⟨some 2,.box 3 (.tmp 0),none,[]⟩,⟨some 3,.box 3 (.tmp 1),none,[]⟩,⟨some 4,.alloc (.agg [.int .i64 0,.int .i64 0,.int .i64 0]) 3,none,[]⟩]) (.seq (.ops false [⟨some 5,.faddr 1 1 false (.tmp 2),none,[]⟩,⟨some 6,.load none (.tmp 5),none,[]⟩,⟨some 7,.faddr 2 1 false (.tmp 3),none,[]⟩,⟨some 8,.load none (.tmp 7),none,[]⟩,⟨some 9,.bin .mul (.tmp 6) (.tmp 8),none,[]⟩,⟨some 10,.faddr 2 1 false (.tmp 2),none,[]⟩,⟨some 11,.load none (.tmp 10),none,[]⟩,⟨some 12,.faddr 1 1 false (.tmp 3),none,[]⟩,⟨some 13,.load none (.tmp 12),none,[]⟩,⟨some 14,.bin .mul (.tmp 11) (.tmp 13),none,[]⟩,⟨some 15,.bin .sub (.tmp 9) (.tmp 14),none,[]⟩,⟨some 16,.faddr 2 1 false (.tmp 2),none,[]⟩,⟨some 17,.load none (.tmp 16),none,[]⟩,⟨some 18,.faddr 0 1 false (.tmp 3),none,[]⟩,⟨some 19,.load none (.tmp 18),none,[]⟩,⟨some 20,.bin .mul (.tmp 17) (.tmp 19),none,[]⟩,⟨some 21,.faddr 0 1 false (.tmp 2),none,[]⟩,⟨some 22,.load none (.tmp 21),none,[]⟩,⟨some 23,.faddr 2 1 false (.tmp 3),none,[]⟩,⟨some 24,.load none (.tmp 23),none,[]⟩,⟨some 25,.bin .mul (.tmp 22) (.tmp 24),none,[]⟩,⟨some 26,.bin .sub (.tmp 20) (.tmp 25),none,[]⟩,⟨some 27,.faddr 0 1 false (.tmp 2),none,[]⟩,⟨some 28,.load none (.tmp 27),none,[]⟩,⟨some 29,.faddr 1 1 false (.tmp 3),none,[]⟩,⟨some 30,.load none (.tmp 29),none,[]⟩,⟨some 31,.bin .mul (.tmp 28) (.tmp 30),none,[]⟩,⟨some 32,.faddr 1 1 false (.tmp 2),none,[]⟩,⟨some 33,.load none (.tmp 32),none,[]⟩,⟨some 34,.faddr 0 1 false (.tmp 3),none,[]⟩,⟨some 35,.load none (.tmp 34),none,[]⟩,⟨some 36,.bin .mul (.tmp 33) (.tmp 35),none,[]⟩,⟨some 37,.bin .sub (.tmp 31) (.tmp 36),none,[]⟩,⟨some 38,.build [.int .i64 0,.int .i64 0,.int .i64 0] [(0,(1,(.tmp 15))),(1,(1,(.tmp 26))),(2,(1,(.tmp 37)))],none,[]⟩,⟨none,.store 3 (.tmp 4) (.tmp 38),none,[]⟩]) .ret)⟩
theorem dh148:cProg Go.Proofs.Tryz.prog ⟨[],[],[]⟩ 148=some dc148:=by kernel_rfl
def db149_0 : DC := (.seq (.seq (.ops false [⟨some 12,.mov (.tmp 4),none,[]⟩,⟨some 13,.mov (.tmp 0),none,[]⟩,⟨some 14,.len (.tmp 13),none,[]⟩,⟨some 15,.bin .lss (.tmp 12) (.tmp 14),none,[]⟩]) (.cond (.tmp 15) .skip (.exit 0))) (.seq (.block 1 none (.ops false [⟨some 18,.mov (.tmp 3),none,[]⟩,⟨some 19,.mov (.tmp 0),none,[]⟩,⟨some 20,.mov (.tmp 4),none,[]⟩,⟨some 21,.iaddr 1 (.tmp 19) (.tmp 20),none,[]⟩,⟨some 22,.load none (.tmp 21),none,[]⟩,⟨some 23,.minmax true (.tmp 18) [.tmp 22],none,[]⟩,⟨some 3,.mov (.tmp 23),none,[]⟩])) (.ops false [⟨some 16,.mov (.tmp 4),none,[]⟩,⟨some 17,.bin .add (.tmp 16) (.const (.int .i64 1)),none,[]⟩,⟨some 4,.mov (.tmp 17),none,[]⟩])))
def dk149_0 : Keep := ⟨[],[0,3,4],[]⟩
def dc149 : DFunc := ⟨25,1,[.tmp 2],.seq (.ops false [⟨some 2,.mov (.const (.int .i64 0)),none,[]⟩]) (.seq (.seq (.ops false [⟨some 5,.mov (.tmp 0),none,[]⟩,⟨some 6,.len (.tmp 5),none,[]⟩,⟨some 7,.bin .lss (.tmp 6) (.const (.int .i64 1)),none,[]⟩]) (.cond (.tmp 7) (.ops false [⟨some 8,.bad,none,[]⟩,⟨none,.bad,none,[]⟩]) .skip)) (.seq (.ops false [⟨some 9,.mov (.tmp 0),none,[]⟩,⟨some 10,.iaddr 1 (.tmp 9) (.const (.int .i64 0)),none,[]⟩,⟨some 11,.load none (.tmp 10),none,[]⟩,⟨some 3,.mov (.tmp 11),none,[]⟩]) (.seq (.seq (.ops false [⟨some 4,.mov (.const (.int .i64 1)),none,[]⟩]) (.block 0 (some ⟨[],[3],[]⟩) (.loop dk149_0 db149_0))) (.seq (.ops false [⟨some 24,.mov (.tmp 3),none,[]⟩,⟨some 2,.mov (.tmp 24),none,[]⟩]) .ret))))⟩
theorem dh149:cProg Go.Proofs.Tryz.prog ⟨[(0,⟨[],[0,3,4],[]⟩)],[(0,⟨[],[3],[]⟩)],[]⟩ 149=some dc149:=by kernel_rfl
def db150_0 : DC := (.seq (.seq (.ops false [⟨some 12,.mov (.tmp 4),none,[]⟩,⟨some 13,.mov (.tmp 0),none,[]⟩,⟨some 14,.len (.tmp 13),none,[]⟩,⟨some 15,.bin .lss (.tmp 12) (.tmp 14),none,[]⟩]) (.cond (.tmp 15) .skip (.exit 0))) (.seq (.block 1 none (.ops false [⟨some 18,.mov (.tmp 3),none,[]⟩,⟨some 19,.mov (.tmp 0),none,[]⟩,⟨some 20,.mov (.tmp 4),none,[]⟩,⟨some 21,.iaddr 1 (.tmp 19) (.tmp 20),none,[]⟩,⟨some 22,.load none (.tmp 21),none,[]⟩,⟨some 23,.minmax false (.tmp 18) [.tmp 22],none,[]⟩,⟨some 3,.mov (.tmp 23),none,[]⟩])) (.ops false [⟨some 16,.mov (.tmp 4),none,[]⟩,⟨some 17,.bin .add (.tmp 16) (.const (.int .i64 1)),none,[]⟩,⟨some 4,.mov (.tmp 17),none,[]⟩])))
def dk150_0 : Keep := ⟨[],[0,3,4],[]⟩
def dc150 : DFunc := ⟨25,1,[.tmp 2],.seq (.ops false [⟨some 2,.mov (.const (.int .i64 0)),none,[]⟩]) (.seq (.seq (.ops false [⟨some 5,.mov (.tmp 0),none,[]⟩,⟨some 6,.len (.tmp 5),none,[]⟩,⟨some 7,.bin .lss (.tmp 6) (.const (.int .i64 1)),none,[]⟩]) (.cond (.tmp 7) (.ops false [⟨some 8,.bad,none,[]⟩,⟨none,.bad,none,[]⟩]) .skip)) (.seq (.ops false [⟨some 9,.mov (.tmp 0),none,[]⟩,⟨some 10,.iaddr 1 (.tmp 9) (.const (.int .i64 0)),none,[]⟩,⟨some 11,.load none (.tmp 10),none,[]⟩,⟨some 3,.mov (.tmp 11),none,[]⟩]) (.seq (.seq (.ops false [⟨some 4,.mov (.const (.int .i64 1)),none,[]⟩]) (.block 0 (some ⟨[],[3],[]⟩) (.loop dk150_0 db150_0))) (.seq (.ops false [⟨some 24,.mov (.tmp 3),none,[]⟩,⟨some 2,.mov (.tmp 24),none,[]⟩]) .ret))))⟩
theorem dh150:cProg Go.Proofs.Tryz.prog ⟨[(0,⟨[],[0,3,4],[]⟩)],[(0,⟨[],[3],[]⟩)],[]⟩ 150=some dc150:=by kernel_rfl
def db151_0 : DC := (.seq (.ops false [⟨some 11,.bin .lss (.tmp 10) (.tmp 9),none,[]⟩]) (.seq (.cond (.tmp 11) .skip (.exit 0)) (.seq (.block 1 none (.seq (.ops false [⟨some 12,.iaddr 1 (.tmp 8) (.tmp 10),none,[]⟩,⟨some 13,.load none (.tmp 12),none,[]⟩,⟨some 7,.mov (.tmp 13),none,[]⟩]) (.ops false [⟨some 14,.mov (.tmp 5),none,[]⟩,⟨some 15,.mov (.tmp 1),none,[]⟩,⟨some 16,.mov (.tmp 7),none,[]⟩,⟨some 17,.call (.tmp 15) [.tmp 16],none,[]⟩,⟨some 18,.lit true 1 1 (.int .i64 0) [(0,(.tmp 17))],none,[]⟩,⟨some 19,.append false 1 (.tmp 14) (.tmp 18),none,[]⟩,⟨some 5,.mov (.tmp 19),none,[]⟩]))) (.ops false [⟨some 20,.bin .add (.tmp 10) (.const (.int .i64 1)),none,[]⟩,⟨some 10,.mov (.tmp 20),none,[]⟩]))))
def dk151_0 : Keep := ⟨[(5,1)],[1,5,8,9,10],[5]⟩
def dc151 : DFunc := ⟨22,2,[.tmp 4],.seq (.ops false [⟨some 4,.mov (.const (.slice none 0 0)),none,[]⟩]) (.seq (.ops false [⟨some 5,.mov (.const (.slice none 0 0)),none,[]⟩]) (.seq (.seq (.ops false [⟨some 8,.mov (.tmp 0),none,[]⟩,⟨some 9,.len (.tmp 8),none,[]⟩,⟨some 10,.mov (.const (.int .i64 0)),none,[]⟩]) (.block 0 (some ⟨[],[5],[5]⟩) (.loop dk151_0 db151_0))) (.seq (.ops false [⟨some 21,.mov (.tmp 5),none,[]⟩,⟨some 4,.mov (.tmp 21),none,[]⟩]) .ret)))⟩
theorem dh151:cProg Go.Proofs.Tryz.prog ⟨[(0,⟨[(5,1)],[1,5,8,9,10],[5]⟩)],[(0,⟨[],[5],[5]⟩)],[18]⟩ 151=some dc151:=by kernel_rfl
def db152_0 : DC := (.seq (.seq (.ops false [⟨some 18,.mov (.tmp 4),none,[]⟩,⟨some 19,.faddr 2 2 true (.tmp 1),none,[]⟩,⟨some 20,.faddr 0 1 false (.tmp 19),none,[]⟩,⟨some 21,.load none (.tmp 20),none,[]⟩,⟨some 22,.bin .lss (.tmp 18) (.tmp 21),none,[]⟩]) (.cond (.tmp 22) .skip (.exit 2))) (.seq (.block 3 none (.seq (.ops false [⟨some 25,.mov (.tmp 0),none,[]⟩,⟨some 26,.mov (.tmp 4),none,[]⟩,⟨some 27,.mov (.tmp 3),none,[]⟩,⟨some 28,.build [.int .i64 0,.int .i64 0] [(0,(1,(.tmp 26))),(1,(1,(.tmp 27)))],none,[]⟩,⟨some 29,.call (.tmp 25) [.tmp 28],none,[]⟩,⟨some 30,.un .not (.tmp 29),none,[]⟩]) (.cond (.tmp 30) .ret .skip))) (.ops false [⟨some 23,.mov (.tmp 4),none,[]⟩,⟨some 24,.bin .add (.tmp 23) (.const (.int .i64 1)),none,[]⟩,⟨some 4,.mov (.tmp 24),none,[]⟩])))
def dk152_0 : Keep := ⟨[],[0,1,3,4],[0]⟩
def db152_1 : DC := (.seq (.seq (.ops false [⟨some 8,.mov (.tmp 3),none,[]⟩,⟨some 9,.faddr 2 2 true (.tmp 1),none,[]⟩,⟨some 10,.faddr 1 1 false (.tmp 9),none,[]⟩,⟨some 11,.load none (.tmp 10),none,[]⟩,⟨some 12,.bin .lss (.tmp 8) (.tmp 11),none,[]⟩]) (.cond (.tmp 12) .skip (.exit 0))) (.seq (.block 1 (some ⟨[],[0,1,3],[0]⟩) (.seq (.ops false [⟨some 15,.faddr 0 2 true (.tmp 1),none,[]⟩,⟨some 16,.faddr 0 1 false (.tmp 15),none,[]⟩,⟨some 17,.load none (.tmp 16),none,[]⟩,⟨some 4,.mov (.tmp 17),none,[]⟩]) (.block 2 (some ⟨[],[0,1,3],[0]⟩) (.loop dk152_0 db152_0)))) (.ops false [⟨some 13,.mov (.tmp 3),none,[]⟩,⟨some 14,.bin .add (.tmp 13) (.const (.int .i64 1)),none,[]⟩,⟨some 3,.mov (.tmp 14),none,[]⟩])))
def dk152_1 : Keep := ⟨[],[0,1,3],[0]⟩
def dc152 : DFunc := ⟨31,2,[],.seq (.ops false [⟨some 5,.faddr 0 2 true (.tmp 1),none,[]⟩,⟨some 6,.faddr 1 1 false (.tmp 5),none,[]⟩,⟨some 7,.load none (.tmp 6),none,[]⟩,⟨some 3,.mov (.tmp 7),none,[]⟩]) (.block 0 (some ⟨[],[],[0]⟩) (.loop dk152_1 db152_1))⟩
theorem dh152:cProg Go.Proofs.Tryz.prog ⟨[(0,⟨[],[0,1,3],[0]⟩),(2,⟨[],[0,1,3,4],[0]⟩)],[(2,⟨[],[0,1,3],[0]⟩),(1,⟨[],[0,1,3],[0]⟩),(0,⟨[],[],[0]⟩)],[]⟩ 152=some dc152:=by kernel_rfl
def dc153 : DFunc := ⟨10,2,[.tmp 4],.seq (.ops false [⟨some 2,.box 4 (.tmp 0),none,[]⟩,⟨some 3,.box 4 (.tmp 1),none,[]⟩,⟨some 4,.mov (.const (.int .i64 0)),none,[]⟩]) (.seq (.ops false [⟨some 5,.faddr 2 1 false (.tmp 2),none,[]⟩,⟨some 6,.load none (.tmp 5),none,[]⟩,⟨some 7,.faddr 2 1 false (.tmp 3),none,[]⟩,⟨some 8,.load none (.tmp 7),none,[]⟩,⟨some 9,.call (.func 164) [.tmp 6,.tmp 8],none,[]⟩,⟨some 4,.mov (.tmp 9),none,[]⟩]) .ret)⟩
theorem dh153:cProg Go.Proofs.Tryz.prog ⟨[],[],[]⟩ 153=some dc153:=by kernel_rfl
def db154_0 : DC := (.seq (.seq (.ops false [⟨some 14,.mov (.tmp 6),none,[]⟩,⟨some 15,.mov (.tmp 0),none,[]⟩,⟨some 16,.len (.tmp 15),none,[]⟩,⟨some 17,.bin .lss (.tmp 14) (.tmp 16),none,[]⟩]) (.cond (.tmp 17) .skip (.exit 0))) (.seq (.block 1 none (.seq (.ops true [⟨some 20,.mov (.tmp 1),none,[]⟩,⟨some 21,.mov (.tmp 0),none,[]⟩,⟨some 22,.mov (.tmp 6),none,[]⟩,⟨some 23,.iaddr 4 (.tmp 21) (.tmp 22),none,[1,2]⟩,⟨some 24,.load (some 4) (.tmp 23),none,[3,1,2]⟩,⟨some 25,.load (some 4) (.tmp 5),none,[]⟩,⟨some 26,.call (.tmp 20) [.tmp 24,.tmp 25],none,[0,4,3,1,2,5]⟩,⟨some 27,.bin .gtr (.tmp 26) (.const (.int .i64 0)),none,[6,0,4,3,1,2,5]⟩]) (.cond (.tmp 27) (.ops false [⟨some 28,.mov (.tmp 0),none,[]⟩,⟨some 29,.mov (.tmp 6),none,[]⟩,⟨some 30,.iaddr 4 (.tmp 28) (.tmp 29),none,[]⟩,⟨some 31,.load (some 4) (.tmp 30),none,[]⟩,⟨none,.store 4 (.tmp 5) (.tmp 31),none,[]⟩]) .skip))) (.ops false [⟨some 18,.mov (.tmp 6),none,[]⟩,⟨some 19,.bin .add (.tmp 18) (.const (.int .i64 1)),none,[]⟩,⟨some 6,.mov (.tmp 19),none,[]⟩])))
def dk154_0 : Keep := ⟨[],[0,1,4,5,6],[4,5]⟩
def dc154 : DFunc := ⟨33,2,[.cell 4 (some 4)],.seq (.ops false [⟨some 4,.alloc (.agg [.int .i64 0,.int .i64 0,.int .i64 0,.int .i64 0]) 4,none,[]⟩]) (.seq (.seq (.ops false [⟨some 7,.mov (.tmp 0),none,[]⟩,⟨some 8,.len (.tmp 7),none,[]⟩,⟨some 9,.bin .lss (.tmp 8) (.const (.int .i64 1)),none,[]⟩]) (.cond (.tmp 9) (.ops false [⟨some 10,.bad,none,[]⟩,⟨none,.bad,none,[]⟩]) .skip)) (.seq (.ops false [⟨some 11,.mov (.tmp 0),none,[]⟩,⟨some 12,.iaddr 4 (.tmp 11) (.const (.int .i64 0)),none,[]⟩,⟨some 13,.load (some 4) (.tmp 12),none,[]⟩,⟨some 5,.alloc (.agg [.int .i64 0,.int .i64 0,.int .i64 0,.int .i64 0]) 4,none,[]⟩,⟨none,.store 4 (.tmp 5) (.tmp 13),none,[]⟩]) (.seq (.seq (.ops false [⟨some 6,.mov (.const (.int .i64 1)),none,[]⟩]) (.block 0 (some ⟨[],[4,5],[4,5]⟩) (.loop dk154_0 db154_0))) (.seq (.ops false [⟨some 32,.load (some 4) (.tmp 5),none,[]⟩,⟨none,.store 4 (.tmp 4) (.tmp 32),none,[]⟩]) .ret))))⟩
theorem dh154:cProg Go.Proofs.Tryz.prog ⟨[(0,⟨[],[0,1,4,5,6],[4,5]⟩)],[(0,⟨[],[4,5],[4,5]⟩)],[]⟩ 154=some dc154:=by kernel_rfl
def db155_0 : DC := (.seq (.ops false [⟨some 9,.bin .lss (.tmp 8) (.tmp 7),none,[]⟩]) (.seq (.cond (.tmp 9) .skip (.exit 0)) (.seq (.block 1 none (.seq (.ops false [⟨some 10,.mov (.tmp 8),none,[]⟩,⟨some 5,.mov (.tmp 10),none,[]⟩]) (.seq (.ops true [⟨some 11,.load (some 2) (.tmp 3),none,[]⟩,⟨some 12,.mov (.tmp 0),none,[]⟩,⟨some 13,.mov (.tmp 5),none,[]⟩,⟨some 14,.iaddr 2 (.tmp 12) (.tmp 13),none,[1,2]⟩,⟨some 15,.load (some 2) (.tmp 14),none,[3,1,2]⟩,⟨some 16,.eqA false [1,1] (.tmp 11) (.tmp 15),none,[0,4,3,1,2]⟩]) (.cond (.tmp 16) (.seq (.ops false [⟨some 17,.mov (.tmp 5),none,[]⟩,⟨some 4,.mov (.tmp 17),none,[]⟩]) .ret) .skip)))) (.ops false [⟨some 18,.bin .add (.tmp 8) (.const (.int .i64 1)),none,[]⟩,⟨some 8,.mov (.tmp 18),none,[]⟩]))))
def dk155_0 : Keep := ⟨[],[0,3,7,8],[3]⟩
def dc155 : DFunc := ⟨19,2,[.tmp 4],.seq (.ops false [⟨some 3,.box 2 (.tmp 1),none,[]⟩,⟨some 4,.mov (.const (.int .i64 0)),none,[]⟩]) (.seq (.seq (.ops false [⟨some 6,.mov (.tmp 0),none,[]⟩,⟨some 7,.len (.tmp 6),none,[]⟩,⟨some 8,.mov (.const (.int .i64 0)),none,[]⟩]) (.block 0 (some ⟨[],[],[3]⟩) (.loop dk155_0 db155_0))) (.seq (.ops false [⟨some 4,.mov (.const (.int .i64 (-1))),none,[]⟩]) .ret))⟩
theorem dh155:cProg Go.Proofs.Tryz.prog ⟨[(0,⟨[],[0,3,7,8],[3]⟩)],[(0,⟨[],[],[3]⟩)],[]⟩ 155=some dc155:=by kernel_rfl
def db158_0 : DC := (.seq (.seq (.ops false [⟨some 5,.load none (.tmp 1),none,[]⟩,⟨some 6,.lenS (.tmp 5),none,[]⟩,⟨some 7,.bin .gtr (.tmp 6) (.const (.int .i64 0)),none,[]⟩]) (.cond (.tmp 7) .skip (.exit 0))) (.block 1 none (.seq (.ops false [⟨some 3,.mov (.const (.string ⟨#[]⟩)),none,[]⟩]) (.seq (.seq (.ops false [⟨some 8,.load none (.tmp 1),none,[]⟩,⟨some 9,.call (.func 159) [.tmp 8,.const (.int .u8 10)],none,[]⟩,⟨some 4,.mov (.tmp 9),none,[]⟩]) (.seq (.ops false [⟨some 10,.mov (.tmp 4),none,[]⟩,⟨some 11,.bin .geq (.tmp 10) (.const (.int .i64 0)),none,[]⟩]) (.cond (.tmp 11) (.ops true [⟨some 12,.load none (.tmp 1),none,[]⟩,⟨some 13,.mov (.tmp 4),none,[]⟩,⟨some 14,.bin .add (.tmp 13) (.const (.int .i64 1)),none,[1]⟩,⟨some 15,.sliceS (.tmp 12) none (some (.tmp 14)),none,[0,2,1]⟩,⟨some 16,.load none (.tmp 1),none,[]⟩,⟨some 17,.mov (.tmp 4),none,[]⟩,⟨some 18,.bin .add (.tmp 17) (.const (.int .i64 1)),none,[5]⟩,⟨some 19,.sliceS (.tmp 16) (some (.tmp 18)) none,none,[4,6,5]⟩,⟨some 3,.mov (.tmp 15),none,[3,0,2,1]⟩,⟨none,.store 1 (.tmp 1) (.tmp 19),none,[7,4,6,5,8,3,0,2,1]⟩]) (.ops false [⟨some 20,.load none (.tmp 1),none,[]⟩,⟨some 3,.mov (.tmp 20),none,[]⟩,⟨none,.store 1 (.tmp 1) (.const (.string ⟨#[]⟩)),none,[]⟩])))) (.seq (.ops false [⟨some 21,.mov (.tmp 0),none,[]⟩,⟨some 22,.mov (.tmp 3),none,[]⟩,⟨some 23,.call (.tmp 21) [.tmp 22],none,[]⟩,⟨some 24,.un .not (.tmp 23),none,[]⟩]) (.cond (.tmp 24) .ret .skip))))))
def dk158_0 : Keep := ⟨[],[0,1],[0,19]⟩
def dc158 : DFunc := ⟨25,2,[],.block 0 (some ⟨[],[],[0,19]⟩) (.loop dk158_0 db158_0)⟩
theorem dh158:cProg Go.Proofs.Tryz.prog ⟨[(0,⟨[],[0,1],[0,19]⟩)],[(0,⟨[],[],[0,19]⟩)],[]⟩ 158=some dc158:=by kernel_rfl
def db162_0 : DC := (.seq (.ops false [⟨some 16,.nextS (.tmp 15),none,[]⟩,⟨some 17,.extract (.tmp 16) 0,none,[]⟩]) (.seq (.cond (.tmp 17) .skip (.exit 0)) (.block 1 none (.seq (.ops false [⟨some 18,.extract (.tmp 16) 2,none,[]⟩,⟨some 8,.mov (.tmp 18),none,[]⟩]) (.seq (.seq (.ops false [⟨some 19,.mov (.tmp 8),none,[]⟩,⟨some 20,.bin .lss (.tmp 19) (.const (.int .i32 48)),none,[]⟩,⟨some 21,.mov (.tmp 20),none,[]⟩,⟨some 22,.mov (.tmp 8),some (21,false),[]⟩,⟨some 23,.bin .gtr (.tmp 22) (.const (.int .i32 57)),some (21,false),[]⟩,⟨some 24,.pick (.tmp 21) (.const (.bool true)) (.tmp 23),none,[]⟩,⟨some 25,.mov (.tmp 24),none,[]⟩,⟨some 26,.mov (.tmp 4),some (25,false),[]⟩,⟨some 27,.lenS (.tmp 26),some (25,false),[]⟩,⟨some 28,.bin .gtr (.tmp 27) (.const (.int .i64 9)),some (25,false),[]⟩,⟨some 29,.pick (.tmp 25) (.const (.bool true)) (.tmp 28),none,[]⟩]) (.cond (.tmp 29) (.seq (.ops false [⟨some 2,.mov (.const (.int .i64 0)),none,[]⟩,⟨some 3,.mov (.const (.bool false)),none,[]⟩]) .ret) .skip)) (.ops false [⟨some 30,.mov (.tmp 6),none,[]⟩,⟨some 31,.bin .mul (.const (.int .i64 10)) (.tmp 30),none,[]⟩,⟨some 32,.mov (.tmp 8),none,[]⟩,⟨some 33,.bin .sub (.tmp 32) (.const (.int .i32 48)),none,[]⟩,⟨some 34,.conv .i64 (.tmp 33),none,[]⟩,⟨some 35,.bin .add (.tmp 31) (.tmp 34),none,[]⟩,⟨some 6,.mov (.tmp 35),none,[]⟩]))))))
def dk162_0 : Keep := ⟨[],[4,5,6,15],[15]⟩
def dc162 : DFunc := ⟨55,1,[.tmp 2,.tmp 3],.seq (.ops false [⟨some 2,.mov (.const (.int .i64 0)),none,[]⟩,⟨some 3,.mov (.const (.bool false)),none,[]⟩]) (.seq (.ops false [⟨some 10,.mov (.tmp 0),none,[]⟩,⟨some 11,.call (.func 172) [.tmp 10,.const (.string ⟨#[45]⟩)],none,[]⟩,⟨some 9,.mov (.tmp 11),none,[]⟩,⟨some 12,.extract (.tmp 9) 0,none,[]⟩,⟨some 13,.extract (.tmp 9) 1,none,[]⟩,⟨some 4,.mov (.tmp 12),none,[]⟩,⟨some 5,.mov (.tmp 13),none,[]⟩]) (.seq (.ops false [⟨some 6,.mov (.const (.int .i64 0)),none,[]⟩]) (.seq (.seq (.ops false [⟨some 14,.mov (.tmp 4),none,[]⟩,⟨some 15,.rangeS (.tmp 14),none,[]⟩]) (.block 0 (some ⟨[],[4,5,6],[15]⟩) (.loop dk162_0 db162_0))) (.seq (.seq (.ops false [⟨some 36,.mov (.tmp 4),none,[]⟩,⟨some 37,.bin .eql (.tmp 36) (.const (.string ⟨#[]⟩)),none,[]⟩,⟨some 38,.mov (.tmp 37),none,[]⟩,⟨some 39,.mov (.tmp 4),some (38,false),[]⟩,⟨some 40,.indexS (.tmp 39) (.const (.int .i64 0)),some (38,false),[]⟩,⟨some 41,.bin .eql (.tmp 40) (.const (.int .u8 48)),some (38,false),[]⟩,⟨some 42,.mov (.tmp 41),some (38,false),[]⟩,⟨some 43,.mov (.tmp 4),some (42,true),[]⟩,⟨some 44,.lenS (.tmp 43),some (42,true),[]⟩,⟨some 45,.bin .gtr (.tmp 44) (.const (.int .i64 1)),some (42,true),[]⟩,⟨some 46,.mov (.tmp 45),some (42,true),[]⟩,⟨some 47,.mov (.tmp 5),some (46,false),[]⟩,⟨some 48,.pick (.tmp 46) (.const (.bool true)) (.tmp 47),some (42,true),[]⟩,⟨some 49,.pick (.tmp 42) (.tmp 48) (.const (.bool false)),some (38,false),[]⟩,⟨some 50,.pick (.tmp 38) (.const (.bool true)) (.tmp 49),none,[]⟩]) (.cond (.tmp 50) (.seq (.ops false [⟨some 2,.mov (.const (.int .i64 0)),none,[]⟩,⟨some 3,.mov (.const (.bool false)),none,[]⟩]) .ret) .skip)) (.seq (.seq (.ops false [⟨some 51,.mov (.tmp 5),none,[]⟩]) (.cond (.tmp 51) (.ops false [⟨some 52,.mov (.tmp 6),none,[]⟩,⟨some 53,.un .neg (.tmp 52),none,[]⟩,⟨some 6,.mov (.tmp 53),none,[]⟩]) .skip)) (.seq (.ops false [⟨some 54,.mov (.tmp 6),none,[]⟩,⟨some 2,.mov (.tmp 54),none,[]⟩,⟨some 3,.mov (.const (.bool true)),none,[]⟩]) .ret))))))⟩
theorem dh162:cProg Go.Proofs.Tryz.prog ⟨[(0,⟨[],[4,5,6,15],[15]⟩)],[(0,⟨[],[4,5,6],[15]⟩)],[]⟩ 162=some dc162:=by kernel_rfl
def dc164 : DFunc := ⟨20,2,[.tmp 4],.seq (.ops false [⟨some 4,.mov (.const (.int .i64 0)),none,[]⟩]) (.seq (.ops false [⟨some 7,.mov (.tmp 0),none,[]⟩,⟨some 8,.call (.func 173) [.tmp 7],none,[]⟩,⟨some 5,.mov (.tmp 8),none,[]⟩]) (.seq (.ops false [⟨some 9,.mov (.tmp 1),none,[]⟩,⟨some 10,.call (.func 173) [.tmp 9],none,[]⟩,⟨some 6,.mov (.tmp 10),none,[]⟩]) (.seq (.seq (.ops false [⟨some 11,.mov (.tmp 5),none,[]⟩]) (.cond (.tmp 11) (.seq (.seq (.ops false [⟨some 12,.mov (.tmp 6),none,[]⟩]) (.cond (.tmp 12) (.seq (.ops false [⟨some 4,.mov (.const (.int .i64 0)),none,[]⟩]) .ret) .skip)) (.seq (.ops false [⟨some 4,.mov (.const (.int .i64 (-1))),none,[]⟩]) .ret)) .skip)) (.seq (.seq (.ops false [⟨some 13,.mov (.tmp 6),none,[]⟩]) (.cond (.tmp 13) (.seq (.ops false [⟨some 4,.mov (.const (.int .i64 1)),none,[]⟩]) .ret) .skip)) (.seq (.seq (.ops false [⟨some 14,.mov (.tmp 0),none,[]⟩,⟨some 15,.mov (.tmp 1),none,[]⟩,⟨some 16,.bin .lss (.tmp 14) (.tmp 15),none,[]⟩]) (.cond (.tmp 16) (.seq (.ops false [⟨some 4,.mov (.const (.int .i64 (-1))),none,[]⟩]) .ret) .skip)) (.seq (.seq (.ops false [⟨some 17,.mov (.tmp 0),none,[]⟩,⟨some 18,.mov (.tmp 1),none,[]⟩,⟨some 19,.bin .gtr (.tmp 17) (.tmp 18),none,[]⟩]) (.cond (.tmp 19) (.seq (.ops false [⟨some 4,.mov (.const (.int .i64 1)),none,[]⟩]) .ret) .skip)) (.seq (.ops false [⟨some 4,.mov (.const (.int .i64 0)),none,[]⟩]) .ret)))))))⟩
theorem dh164:cProg Go.Proofs.Tryz.prog ⟨[],[],[]⟩ 164=some dc164:=by kernel_rfl
def dc173 : DFunc := ⟨6,1,[.tmp 2],.seq (.ops false [⟨some 2,.mov (.const (.bool false)),none,[]⟩]) (.seq (.ops false [⟨some 3,.mov (.tmp 0),none,[]⟩,⟨some 4,.mov (.tmp 0),none,[]⟩,⟨some 5,.bin .neq (.tmp 3) (.tmp 4),none,[]⟩,⟨some 2,.mov (.tmp 5),none,[]⟩]) .ret)⟩
theorem dh173:cProg Go.Proofs.Tryz.prog ⟨[],[],[]⟩ 173=some dc173:=by kernel_rfl
end Sh

namespace Sh
open Go
def db13_0 : DC := (.seq (.seq (.ops false [⟨some 4,.mov (.tmp 3),none,[]⟩,⟨some 5,.mov (.tmp 0),none,[]⟩,⟨some 6,.len (.tmp 5),none,[]⟩,⟨some 7,.bin .lss (.tmp 4) (.tmp 6),none,[]⟩]) (.cond (.tmp 7) .skip (.exit 0))) (.seq (.block 1 none (.seq (.ops false [⟨some 10,.mov (.tmp 0),none,[]⟩,⟨some 11,.mov (.tmp 3),none,[]⟩,⟨some 12,.iaddr 1 (.tmp 10) (.tmp 11),none,[]⟩,⟨some 13,.load none (.tmp 12),none,[]⟩,⟨some 14,.len (.tmp 13),none,[]⟩,⟨some 15,.bin .gtr (.tmp 14) (.const (.int .i64 7)),none,[]⟩]) (.cond (.tmp 15) (.seq (.ops false [⟨some 2,.mov (.const (.bool false)),none,[]⟩]) .ret) .skip))) (.ops false [⟨some 8,.mov (.tmp 3),none,[]⟩,⟨some 9,.bin .add (.tmp 8) (.const (.int .i64 1)),none,[]⟩,⟨some 3,.mov (.tmp 9),none,[]⟩])))
def dk13_0 : Keep := ⟨[],[0,3],[]⟩
def dc13 : DFunc := ⟨24,1,[.tmp 2],.seq (.ops false [⟨some 2,.mov (.const (.bool false)),none,[]⟩]) (.seq (.seq (.ops false [⟨some 3,.mov (.const (.int .i64 0)),none,[]⟩]) (.block 0 (some ⟨[],[0],[]⟩) (.loop dk13_0 db13_0))) (.seq (.ops false [⟨some 16,.mov (.tmp 0),none,[]⟩,⟨some 17,.len (.tmp 16),none,[]⟩,⟨some 18,.bin .leq (.tmp 17) (.const (.int .i64 4)),none,[]⟩,⟨some 19,.mov (.tmp 18),none,[]⟩,⟨some 20,.mov (.tmp 0),some (19,false),[]⟩,⟨some 21,.len (.tmp 20),some (19,false),[]⟩,⟨some 22,.bin .eql (.tmp 21) (.const (.int .i64 9)),some (19,false),[]⟩,⟨some 23,.pick (.tmp 19) (.const (.bool true)) (.tmp 22),none,[]⟩,⟨some 2,.mov (.tmp 23),none,[]⟩]) .ret))⟩
theorem dh13:cProg Go.Proofs.Tryz.prog ⟨[(0,⟨[],[0,3],[]⟩)],[(0,⟨[],[0],[]⟩)],[]⟩ 13=some dc13:=by kernel_rfl
def dc15 : DFunc := ⟨24,3,[.tmp 6,.tmp 7],.seq (.ops false [⟨some 4,.box 3 (.tmp 1),none,[]⟩,⟨some 5,.box 2 (.tmp 2),none,[]⟩,⟨some 6,.mov (.const (.bool false)),none,[]⟩,⟨some 7,.mov (.const (.int .i64 0)),none,[]⟩]) (.seq (.seq (.ops true [⟨some 9,.mov (.tmp 0),none,[]⟩,⟨some 10,.call (.func 28) [.tmp 9],none,[0]⟩,⟨some 11,.load (some 3) (.tmp 4),none,[]⟩,⟨some 12,.call (.func 27) [.tmp 11],none,[2,1,0]⟩,⟨some 13,.load (some 2) (.tmp 5),none,[]⟩,⟨some 14,.call (.func 90) [.tmp 13],none,[4,3,2,1,0]⟩,⟨some 15,.lit true 1 3 (.int .i64 0) [(0,(.tmp 10)),(1,(.tmp 12)),(2,(.tmp 14))],none,[1,0,3,2,5,4]⟩,⟨some 16,.call (.func 89) [.tmp 15],none,[6,1,0,3,2,5,4]⟩,⟨some 8,.mov (.tmp 16),none,[7,6,1,0,3,2,5,4]⟩]) (.seq (.ops false [⟨some 17,.mov (.tmp 8),none,[]⟩,⟨some 18,.bin .neq (.tmp 17) (.const (.int .i64 0)),none,[]⟩]) (.cond (.tmp 18) (.seq (.ops false [⟨some 19,.mov (.tmp 8),none,[]⟩,⟨some 6,.mov (.const (.bool false)),none,[]⟩,⟨some 7,.mov (.tmp 19),none,[]⟩]) .ret) .skip))) (.seq (.ops false [⟨some 20,.mov (.tmp 0),none,[]⟩,⟨some 21,.load (some 3) (.tmp 4),none,[]⟩,⟨some 22,.load (some 2) (.tmp 5),none,[]⟩,⟨some 23,.call (.func 91) [.tmp 20,.tmp 21,.tmp 22],none,[]⟩,⟨some 6,.mov (.tmp 23),none,[]⟩,⟨some 7,.mov (.const (.int .i64 0)),none,[]⟩]) .ret))⟩
theorem dh15:cProg Go.Proofs.Tryz.prog ⟨[],[],[15]⟩ 15=some dc15:=by kernel_rfl
def db18_0 : DC := (.seq (.ops false [⟨some 26,.bin .lss (.tmp 25) (.tmp 24),none,[]⟩]) (.seq (.cond (.tmp 26) .skip (.exit 0)) (.seq (.block 1 none (.seq (.ops false [⟨some 27,.mov (.tmp 25),none,[]⟩,⟨some 28,.iaddr 1 (.tmp 23) (.tmp 25),none,[]⟩,⟨some 29,.load none (.tmp 28),none,[]⟩,⟨some 10,.mov (.tmp 27),none,[]⟩,⟨some 11,.mov (.tmp 29),none,[]⟩]) (.seq (.ops false [⟨some 30,.mov (.tmp 11),none,[]⟩,⟨some 31,.load (some 3) (.tmp 4),none,[]⟩,⟨some 32,.load (some 2) (.tmp 5),none,[]⟩,⟨some 33,.call (.func 91) [.tmp 30,.tmp 31,.tmp 32],none,[]⟩]) (.cond (.tmp 33) (.ops false [⟨some 34,.mov (.tmp 9),none,[]⟩,⟨some 35,.mov (.tmp 10),none,[]⟩,⟨some 36,.lit true 1 1 (.int .i64 0) [(0,(.tmp 35))],none,[]⟩,⟨some 37,.append false 1 (.tmp 34) (.tmp 36),none,[]⟩,⟨some 9,.mov (.tmp 37),none,[]⟩]) .skip)))) (.ops false [⟨some 38,.bin .add (.tmp 25) (.const (.int .i64 1)),none,[]⟩,⟨some 25,.mov (.tmp 38),none,[]⟩]))))
def dk18_0 : Keep := ⟨[(9,1)],[4,5,9,23,24,25],[4,5,9,18]⟩
def dc18 : DFunc := ⟨40,3,[.tmp 6,.tmp 7],.seq (.ops false [⟨some 4,.box 3 (.tmp 1),none,[]⟩,⟨some 5,.box 2 (.tmp 2),none,[]⟩,⟨some 6,.mov (.const (.slice none 0 0)),none,[]⟩,⟨some 7,.mov (.const (.int .i64 0)),none,[]⟩]) (.seq (.seq (.ops true [⟨some 12,.mov (.tmp 0),none,[]⟩,⟨some 13,.call (.func 92) [.tmp 12],none,[0]⟩,⟨some 14,.load (some 3) (.tmp 4),none,[]⟩,⟨some 15,.call (.func 27) [.tmp 14],none,[2,1,0]⟩,⟨some 16,.load (some 2) (.tmp 5),none,[]⟩,⟨some 17,.call (.func 90) [.tmp 16],none,[4,3,2,1,0]⟩,⟨some 18,.lit true 1 3 (.int .i64 0) [(0,(.tmp 13)),(1,(.tmp 15)),(2,(.tmp 17))],none,[1,0,3,2,5,4]⟩,⟨some 19,.call (.func 89) [.tmp 18],none,[6,1,0,3,2,5,4]⟩,⟨some 8,.mov (.tmp 19),none,[7,6,1,0,3,2,5,4]⟩]) (.seq (.ops false [⟨some 20,.mov (.tmp 8),none,[]⟩,⟨some 21,.bin .neq (.tmp 20) (.const (.int .i64 0)),none,[]⟩]) (.cond (.tmp 21) (.seq (.ops false [⟨some 22,.mov (.tmp 8),none,[]⟩,⟨some 6,.mov (.const (.slice none 0 0)),none,[]⟩,⟨some 7,.mov (.tmp 22),none,[]⟩]) .ret) .skip))) (.seq (.ops false [⟨some 9,.mov (.const (.slice none 0 0)),none,[]⟩]) (.seq (.seq (.ops false [⟨some 23,.mov (.tmp 0),none,[]⟩,⟨some 24,.len (.tmp 23),none,[]⟩,⟨some 25,.mov (.const (.int .i64 0)),none,[]⟩]) (.block 0 (some ⟨[],[9],[4,5,9,18]⟩) (.loop dk18_0 db18_0))) (.seq (.ops false [⟨some 39,.mov (.tmp 9),none,[]⟩,⟨some 6,.mov (.tmp 39),none,[]⟩,⟨some 7,.mov (.const (.int .i64 0)),none,[]⟩]) .ret))))⟩
theorem dh18:cProg Go.Proofs.Tryz.prog ⟨[(0,⟨[(9,1)],[4,5,9,23,24,25],[4,5,9,18]⟩)],[(0,⟨[],[9],[4,5,9,18]⟩)],[18,36]⟩ 18=some dc18:=by kernel_rfl
def dc27 : DFunc := ⟨14,1,[.tmp 2],.seq (.ops false [⟨some 1,.box 3 (.tmp 0),none,[]⟩,⟨some 2,.mov (.const (.int .i64 0)),none,[]⟩]) (.seq (.ops true [⟨some 3,.faddr 0 1 false (.tmp 1),none,[]⟩,⟨some 4,.load none (.tmp 3),none,[0]⟩,⟨some 5,.call (.func 103) [.tmp 4,.const (.int .i64 (-1000)),.const (.int .i64 1000)],none,[1,0]⟩,⟨some 6,.faddr 1 1 false (.tmp 1),none,[]⟩,⟨some 7,.load none (.tmp 6),none,[3]⟩,⟨some 8,.call (.func 103) [.tmp 7,.const (.int .i64 (-1000)),.const (.int .i64 1000)],none,[4,3,2,1,0]⟩,⟨some 9,.faddr 2 1 false (.tmp 1),none,[]⟩,⟨some 10,.load none (.tmp 9),none,[6]⟩,⟨some 11,.call (.func 103) [.tmp 10,.const (.int .i64 1),.const (.int .i64 1000)],none,[7,6,5,4,3,2,1,0]⟩,⟨some 12,.lit true 1 3 (.int .i64 0) [(0,(.tmp 5)),(1,(.tmp 8)),(2,(.tmp 11))],none,[2,1,0,5,4,3,8,7,6]⟩,⟨some 13,.call (.func 89) [.tmp 12],none,[9,2,1,0,5,4,3,8,7,6]⟩,⟨some 2,.mov (.tmp 13),none,[10,9,2,1,0,5,4,3,8,7,6]⟩]) .ret)⟩
theorem dh27:cProg Go.Proofs.Tryz.prog ⟨[],[],[12]⟩ 27=some dc27:=by kernel_rfl
def dc28 : DFunc := ⟨24,1,[.tmp 2],.seq (.ops false [⟨some 2,.mov (.const (.int .i64 0)),none,[]⟩]) (.seq (.seq (.ops false [⟨some 4,.mov (.tmp 0),none,[]⟩,⟨some 5,.len (.tmp 4),none,[]⟩,⟨some 6,.bin .lss (.tmp 5) (.const (.int .i64 3)),none,[]⟩,⟨some 7,.call (.func 104) [.tmp 6,.const (.int .i64 16)],none,[]⟩,⟨some 8,.mov (.tmp 0),none,[]⟩,⟨some 9,.len (.tmp 8),none,[]⟩,⟨some 10,.bin .gtr (.tmp 9) (.const (.int .i64 6)),none,[]⟩,⟨some 11,.call (.func 104) [.tmp 10,.const (.int .i64 5)],none,[]⟩,⟨some 12,.mov (.tmp 0),none,[]⟩,⟨some 13,.call (.func 105) [.tmp 12,.func 106],none,[]⟩,⟨some 14,.call (.func 89) [.tmp 13],none,[]⟩,⟨some 15,.lit true 1 3 (.int .i64 0) [(0,(.tmp 7)),(1,(.tmp 11)),(2,(.tmp 14))],none,[]⟩,⟨some 16,.call (.func 89) [.tmp 15],none,[]⟩,⟨some 3,.mov (.tmp 16),none,[]⟩]) (.seq (.ops false [⟨some 17,.mov (.tmp 3),none,[]⟩,⟨some 18,.bin .neq (.tmp 17) (.const (.int .i64 0)),none,[]⟩]) (.cond (.tmp 18) (.seq (.ops false [⟨some 19,.mov (.tmp 3),none,[]⟩,⟨some 2,.mov (.tmp 19),none,[]⟩]) .ret) .skip))) (.seq (.ops false [⟨some 20,.mov (.tmp 0),none,[]⟩,⟨some 21,.call (.func 107) [.tmp 20],none,[]⟩,⟨some 22,.un .not (.tmp 21),none,[]⟩,⟨some 23,.call (.func 104) [.tmp 22,.const (.int .i64 1)],none,[]⟩,⟨some 2,.mov (.tmp 23),none,[]⟩]) .ret))⟩
theorem dh28:cProg Go.Proofs.Tryz.prog ⟨[],[],[15]⟩ 28=some dc28:=by kernel_rfl
def db29_0 : DC := (.seq (.seq (.ops false [⟨some 11,.mov (.tmp 5),none,[]⟩,⟨some 12,.mov (.tmp 0),none,[]⟩,⟨some 13,.len (.tmp 12),none,[]⟩,⟨some 14,.bin .lss (.tmp 11) (.tmp 13),none,[]⟩]) (.cond (.tmp 14) .skip (.exit 0))) (.seq (.block 1 none (.seq (.ops true [⟨some 17,.mov (.tmp 0),none,[]⟩,⟨some 18,.mov (.tmp 5),none,[]⟩,⟨some 19,.iaddr 1 (.tmp 17) (.tmp 18),none,[0,1]⟩,⟨some 20,.load none (.tmp 19),none,[2,0,1]⟩,⟨some 21,.mov (.tmp 1),none,[]⟩,⟨some 22,.mov (.tmp 5),none,[]⟩,⟨some 23,.iaddr 1 (.tmp 21) (.tmp 22),none,[4,5]⟩,⟨some 24,.load none (.tmp 23),none,[6,4,5]⟩,⟨some 25,.bin .neq (.tmp 20) (.tmp 24),none,[3,2,0,1,7,6,4,5]⟩]) (.cond (.tmp 25) (.seq (.ops false [⟨some 4,.mov (.const (.bool false)),none,[]⟩]) .ret) .skip))) (.ops false [⟨some 15,.mov (.tmp 5),none,[]⟩,⟨some 16,.bin .add (.tmp 15) (.const (.int .i64 1)),none,[]⟩,⟨some 5,.mov (.tmp 16),none,[]⟩])))
def dk29_0 : Keep := ⟨[],[0,1,5],[]⟩
def dc29 : DFunc := ⟨26,2,[.tmp 4],.seq (.ops false [⟨some 4,.mov (.const (.bool false)),none,[]⟩]) (.seq (.seq (.ops false [⟨some 6,.mov (.tmp 0),none,[]⟩,⟨some 7,.len (.tmp 6),none,[]⟩,⟨some 8,.mov (.tmp 1),none,[]⟩,⟨some 9,.len (.tmp 8),none,[]⟩,⟨some 10,.bin .neq (.tmp 7) (.tmp 9),none,[]⟩]) (.cond (.tmp 10) (.seq (.ops false [⟨some 4,.mov (.const (.bool false)),none,[]⟩]) .ret) .skip)) (.seq (.seq (.ops false [⟨some 5,.mov (.const (.int .i64 0)),none,[]⟩]) (.block 0 (some ⟨[],[],[]⟩) (.loop dk29_0 db29_0))) (.seq (.ops false [⟨some 4,.mov (.const (.bool true)),none,[]⟩]) .ret)))⟩
theorem dh29:cProg Go.Proofs.Tryz.prog ⟨[(0,⟨[],[0,1,5],[]⟩)],[(0,⟨[],[],[]⟩)],[]⟩ 29=some dc29:=by kernel_rfl
def db31_0x : DC := (.ops false [⟨some 10,.alloc (.agg [.int .i64 0,.int .i64 0]) 2,none,[]⟩,⟨none,.store 2 (.tmp 10) (.tmp 24),none,[]⟩])
def db31_0 : DC := (.block 1 none (.seq (.ops false [⟨some 25,.load none (.tmp 3),none,[]⟩,⟨some 26,.load (some 3) (.tmp 4),none,[]⟩,⟨some 27,.load (some 2) (.tmp 10),none,[]⟩,⟨some 28,.call (.func 91) [.tmp 25,.tmp 26,.tmp 27],none,[]⟩]) (.cond (.tmp 28) (.ops false [⟨some 29,.load none (.tmp 9),none,[]⟩,⟨some 30,.load (some 2) (.tmp 10),none,[]⟩,⟨some 31,.lit true 2 1 (.agg [.int .i64 0,.int .i64 0]) [(0,(.tmp 30))],none,[]⟩,⟨some 32,.append false 2 (.tmp 29) (.tmp 31),none,[]⟩,⟨none,.store 1 (.tmp 9) (.tmp 32),none,[]⟩]) .skip)))
def dk31_0 : Keep := ⟨[],[3,4,6,7,9],[3,4,5,9,17,32]⟩
def dc31 : DFunc := ⟨34,3,[.tmp 6,.tmp 7],.seq (.ops false [⟨some 3,.box 1 (.tmp 0),none,[]⟩,⟨some 4,.box 3 (.tmp 1),none,[]⟩,⟨some 5,.box 4 (.tmp 2),none,[]⟩,⟨some 6,.mov (.const (.slice none 0 0)),none,[]⟩,⟨some 7,.mov (.const (.int .i64 0)),none,[]⟩]) (.seq (.seq (.ops true [⟨some 11,.load none (.tmp 3),none,[]⟩,⟨some 12,.call (.func 28) [.tmp 11],none,[0]⟩,⟨some 13,.load (some 3) (.tmp 4),none,[]⟩,⟨some 14,.call (.func 27) [.tmp 13],none,[2,1,0]⟩,⟨some 15,.load (some 4) (.tmp 5),none,[]⟩,⟨some 16,.call (.func 42) [.tmp 15],none,[4,3,2,1,0]⟩,⟨some 17,.lit true 1 3 (.int .i64 0) [(0,(.tmp 12)),(1,(.tmp 14)),(2,(.tmp 16))],none,[1,0,3,2,5,4]⟩,⟨some 18,.call (.func 89) [.tmp 17],none,[6,1,0,3,2,5,4]⟩,⟨some 8,.mov (.tmp 18),none,[7,6,1,0,3,2,5,4]⟩]) (.seq (.ops false [⟨some 19,.mov (.tmp 8),none,[]⟩,⟨some 20,.bin .neq (.tmp 19) (.const (.int .i64 0)),none,[]⟩]) (.cond (.tmp 20) (.seq (.ops false [⟨some 21,.mov (.tmp 8),none,[]⟩,⟨some 6,.mov (.const (.slice none 0 0)),none,[]⟩,⟨some 7,.mov (.tmp 21),none,[]⟩]) .ret) .skip))) (.seq (.ops false [⟨some 9,.alloc (.full []) 1,none,[]⟩]) (.seq (.seq (.ops false [⟨some 22,.load (some 4) (.tmp 5),none,[]⟩,⟨some 23,.call (.func 108) [.tmp 22],none,[]⟩]) (.block 0 (some ⟨[],[9],[3,4,5,9,17,32]⟩) (.rangeF dk31_0 (.tmp 23) [24] db31_0x db31_0))) (.seq (.ops false [⟨some 33,.load none (.tmp 9),none,[]⟩,⟨some 6,.mov (.tmp 33),none,[]⟩,⟨some 7,.mov (.const (.int .i64 0)),none,[]⟩]) .ret))))⟩
theorem dh31:cProg Go.Proofs.Tryz.prog ⟨[(0,⟨[],[3,4,6,7,9],[3,4,5,9,17,32]⟩)],[(0,⟨[],[9],[3,4,5,9,17,32]⟩)],[17,31]⟩ 31=some dc31:=by kernel_rfl
def dc32 : DFunc := ⟨24,3,[.tmp 6,.tmp 7],.seq (.ops false [⟨some 4,.box 3 (.tmp 1),none,[]⟩,⟨some 5,.box 4 (.tmp 2),none,[]⟩,⟨some 6,.mov (.const (.slice none 0 0)),none,[]⟩,⟨some 7,.mov (.const (.int .i64 0)),none,[]⟩]) (.seq (.seq (.ops true [⟨some 9,.mov (.tmp 0),none,[]⟩,⟨some 10,.call (.func 92) [.tmp 9],none,[0]⟩,⟨some 11,.load (some 3) (.tmp 4),none,[]⟩,⟨some 12,.call (.func 27) [.tmp 11],none,[2,1,0]⟩,⟨some 13,.load (some 4) (.tmp 5),none,[]⟩,⟨some 14,.call (.func 42) [.tmp 13],none,[4,3,2,1,0]⟩,⟨some 15,.lit true 1 3 (.int .i64 0) [(0,(.tmp 10)),(1,(.tmp 12)),(2,(.tmp 14))],none,[1,0,3,2,5,4]⟩,⟨some 16,.call (.func 89) [.tmp 15],none,[6,1,0,3,2,5,4]⟩,⟨some 8,.mov (.tmp 16),none,[7,6,1,0,3,2,5,4]⟩]) (.seq (.ops false [⟨some 17,.mov (.tmp 8),none,[]⟩,⟨some 18,.bin .neq (.tmp 17) (.const (.int .i64 0)),none,[]⟩]) (.cond (.tmp 18) (.seq (.ops false [⟨some 19,.mov (.tmp 8),none,[]⟩,⟨some 6,.mov (.const (.slice none 0 0)),none,[]⟩,⟨some 7,.mov (.tmp 19),none,[]⟩]) .ret) .skip))) (.seq (.ops false [⟨some 20,.mov (.tmp 0),none,[]⟩,⟨some 21,.load (some 3) (.tmp 4),none,[]⟩,⟨some 22,.load (some 4) (.tmp 5),none,[]⟩,⟨some 23,.call (.func 109) [.tmp 20,.tmp 21,.tmp 22],none,[]⟩,⟨some 6,.mov (.tmp 23),none,[]⟩,⟨some 7,.mov (.const (.int .i64 0)),none,[]⟩]) .ret))⟩
theorem dh32:cProg Go.Proofs.Tryz.prog ⟨[],[],[15]⟩ 32=some dc32:=by kernel_rfl
def dc33 : DFunc := ⟨24,3,[.tmp 6,.tmp 7],.seq (.ops false [⟨some 4,.box 3 (.tmp 1),none,[]⟩,⟨some 5,.box 4 (.tmp 2),none,[]⟩,⟨some 6,.mov (.const (.int .i64 0)),none,[]⟩,⟨some 7,.mov (.const (.int .i64 0)),none,[]⟩]) (.seq (.seq (.ops true [⟨some 9,.mov (.tmp 0),none,[]⟩,⟨some 10,.call (.func 92) [.tmp 9],none,[0]⟩,⟨some 11,.load (some 3) (.tmp 4),none,[]⟩,⟨some 12,.call (.func 27) [.tmp 11],none,[2,1,0]⟩,⟨some 13,.load (some 4) (.tmp 5),none,[]⟩,⟨some 14,.call (.func 42) [.tmp 13],none,[4,3,2,1,0]⟩,⟨some 15,.lit true 1 3 (.int .i64 0) [(0,(.tmp 10)),(1,(.tmp 12)),(2,(.tmp 14))],none,[1,0,3,2,5,4]⟩,⟨some 16,.call (.func 89) [.tmp 15],none,[6,1,0,3,2,5,4]⟩,⟨some 8,.mov (.tmp 16),none,[7,6,1,0,3,2,5,4]⟩]) (.seq (.ops false [⟨some 17,.mov (.tmp 8),none,[]⟩,⟨some 18,.bin .neq (.tmp 17) (.const (.int .i64 0)),none,[]⟩]) (.cond (.tmp 18) (.seq (.ops false [⟨some 19,.mov (.tmp 8),none,[]⟩,⟨some 6,.mov (.const (.int .i64 0)),none,[]⟩,⟨some 7,.mov (.tmp 19),none,[]⟩]) .ret) .skip))) (.seq (.ops false [⟨some 20,.mov (.tmp 0),none,[]⟩,⟨some 21,.load (some 3) (.tmp 4),none,[]⟩,⟨some 22,.load (some 4) (.tmp 5),none,[]⟩,⟨some 23,.call (.func 110) [.tmp 20,.tmp 21,.tmp 22],none,[]⟩,⟨some 6,.mov (.tmp 23),none,[]⟩,⟨some 7,.mov (.const (.int .i64 0)),none,[]⟩]) .ret))⟩
theorem dh33:cProg Go.Proofs.Tryz.prog ⟨[],[],[15]⟩ 33=some dc33:=by kernel_rfl
def dc34 : DFunc := ⟨32,3,[.tmp 6,.tmp 7],.seq (.ops false [⟨some 3,.box 1 (.tmp 0),none,[]⟩,⟨some 4,.box 3 (.tmp 1),none,[]⟩,⟨some 6,.mov (.const (.slice none 0 0)),none,[]⟩,⟨some 7,.mov (.const (.int .i64 0)),none,[]⟩]) (.seq (.seq (.ops true [⟨some 10,.load none (.tmp 3),none,[]⟩,⟨some 11,.call (.func 92) [.tmp 10],none,[0]⟩,⟨some 12,.load (some 3) (.tmp 4),none,[]⟩,⟨some 13,.call (.func 27) [.tmp 12],none,[2,1,0]⟩,⟨some 14,.mov (.tmp 2),none,[]⟩,⟨some 15,.len (.tmp 14),none,[4]⟩,⟨some 16,.bin .gtr (.tmp 15) (.const (.int .i64 16)),none,[5,4]⟩,⟨some 17,.call (.func 104) [.tmp 16,.const (.int .i64 5)],none,[6,5,4,3,2,1,0]⟩,⟨some 18,.lit true 1 3 (.int .i64 0) [(0,(.tmp 11)),(1,(.tmp 13)),(2,(.tmp 17))],none,[1,0,3,2,7,6,5,4]⟩,⟨some 19,.call (.func 89) [.tmp 18],none,[8,1,0,3,2,7,6,5,4]⟩,⟨some 8,.mov (.tmp 19),none,[9,8,1,0,3,2,7,6,5,4]⟩]) (.seq (.ops false [⟨some 20,.mov (.tmp 8),none,[]⟩,⟨some 21,.bin .neq (.tmp 20) (.const (.int .i64 0)),none,[]⟩]) (.cond (.tmp 21) (.seq (.ops false [⟨some 22,.mov (.tmp 8),none,[]⟩,⟨some 6,.mov (.const (.slice none 0 0)),none,[]⟩,⟨some 7,.mov (.tmp 22),none,[]⟩]) .ret) .skip))) (.seq (.seq (.ops false [⟨some 23,.mov (.tmp 2),none,[]⟩,⟨some 24,.call (.func 111) [.tmp 23,.func 42],none,[]⟩,⟨some 25,.call (.func 89) [.tmp 24],none,[]⟩,⟨some 9,.mov (.tmp 25),none,[]⟩]) (.seq (.ops false [⟨some 26,.mov (.tmp 9),none,[]⟩,⟨some 27,.bin .neq (.tmp 26) (.const (.int .i64 0)),none,[]⟩]) (.cond (.tmp 27) (.seq (.ops false [⟨some 28,.mov (.tmp 9),none,[]⟩,⟨some 6,.mov (.const (.slice none 0 0)),none,[]⟩,⟨some 7,.mov (.tmp 28),none,[]⟩]) .ret) .skip))) (.seq (.ops false [⟨some 29,.mov (.tmp 2),none,[]⟩,⟨some 30,.mkfunc 113 [.tmp 3,.tmp 4],none,[]⟩,⟨some 31,.call (.func 112) [.tmp 29,.tmp 30],none,[]⟩,⟨some 6,.mov (.tmp 31),none,[]⟩,⟨some 7,.mov (.const (.int .i64 0)),none,[]⟩]) .ret)))⟩
theorem dh34:cProg Go.Proofs.Tryz.prog ⟨[],[],[18]⟩ 34=some dc34:=by kernel_rfl
def dc42 : DFunc := ⟨36,1,[.tmp 2],.seq (.ops false [⟨some 1,.box 4 (.tmp 0),none,[]⟩,⟨some 2,.mov (.const (.int .i64 0)),none,[]⟩]) (.seq (.seq (.ops true [⟨some 4,.faddr 0 2 true (.tmp 1),none,[]⟩,⟨some 5,.load (some 2) (.tmp 4),none,[0]⟩,⟨some 6,.call (.func 90) [.tmp 5],none,[1,0]⟩,⟨some 7,.faddr 2 2 true (.tmp 1),none,[]⟩,⟨some 8,.load (some 2) (.tmp 7),none,[3]⟩,⟨some 9,.call (.func 90) [.tmp 8],none,[4,3,2,1,0]⟩,⟨some 10,.faddr 0 2 true (.tmp 1),none,[]⟩,⟨some 11,.faddr 0 1 false (.tmp 10),none,[6]⟩,⟨some 12,.load none (.tmp 11),none,[7,6]⟩,⟨some 13,.faddr 2 2 true (.tmp 1),none,[]⟩,⟨some 14,.faddr 0 1 false (.tmp 13),none,[9]⟩,⟨some 15,.load none (.tmp 14),none,[10,9]⟩,⟨some 16,.bin .geq (.tmp 12) (.tmp 15),none,[8,7,6,11,10,9]⟩,⟨some 17,.mov (.tmp 16),none,[12,8,7,6,11,10,9,5,4,3,2,1,0]⟩,⟨some 18,.faddr 0 2 true (.tmp 1),some (17,false),[13,12,8,7,6,11,10,9,5,4,3,2,1,0]⟩,⟨some 19,.faddr 1 1 false (.tmp 18),some (17,false),[14,13,12,8,7,6,11,10,9,5,4,3,2,1,0]⟩,⟨some 20,.load none (.tmp 19),some (17,false),[15,14,13,12,8,7,6,11,10,9,5,4,3,2,1,0]⟩,⟨some 21,.faddr 2 2 true (.tmp 1),some (17,false),[13,12,8,7,6,11,10,9,5,4,3,2,1,0]⟩,⟨some 22,.faddr 1 1 false (.tmp 21),some (17,false),[17,13,12,8,7,6,11,10,9,5,4,3,2,1,0]⟩,⟨some 23,.load none (.tmp 22),some (17,false),[18,17,13,12,8,7,6,11,10,9,5,4,3,2,1,0]⟩,⟨some 24,.bin .geq (.tmp 20) (.tmp 23),some (17,false),[16,15,14,13,12,8,7,6,11,10,9,5,4,3,2,1,0,19,18,17]⟩,⟨some 25,.pick (.tmp 17) (.const (.bool true)) (.tmp 24),none,[13,12,8,7,6,11,10,9,5,4,3,2,1,0,20,16,15,14,19,18,17]⟩,⟨some 26,.call (.func 104) [.tmp 25,.const (.int .i64 14)],none,[21,13,12,8,7,6,11,10,9,5,4,3,2,1,0,20,16,15,14,19,18,17]⟩,⟨some 27,.lit true 1 3 (.int .i64 0) [(0,(.tmp 6)),(1,(.tmp 9)),(2,(.tmp 26))],none,[2,1,0,5,4,3,22,21,13,12,8,7,6,11,10,9,20,16,15,14,19,18,17]⟩,⟨some 28,.call (.func 89) [.tmp 27],none,[23,2,1,0,5,4,3,22,21,13,12,8,7,6,11,10,9,20,16,15,14,19,18,17]⟩,⟨some 3,.mov (.tmp 28),none,[24,23,2,1,0,5,4,3,22,21,13,12,8,7,6,11,10,9,20,16,15,14,19,18,17]⟩]) (.seq (.ops false [⟨some 29,.mov (.tmp 3),none,[]⟩,⟨some 30,.bin .neq (.tmp 29) (.const (.int .i64 0)),none,[]⟩]) (.cond (.tmp 30) (.seq (.ops false [⟨some 31,.mov (.tmp 3),none,[]⟩,⟨some 2,.mov (.tmp 31),none,[]⟩]) .ret) .skip))) (.seq (.ops false [⟨some 32,.load (some 4) (.tmp 1),none,[]⟩,⟨some 33,.call (.func 115) [.tmp 32],none,[]⟩,⟨some 34,.bin .gtr (.tmp 33) (.const (.int .i64 256)),none,[]⟩,⟨some 35,.call (.func 104) [.tmp 34,.const (.int .i64 5)],none,[]⟩,⟨some 2,.mov (.tmp 35),none,[]⟩]) .ret))⟩
theorem dh42:cProg Go.Proofs.Tryz.prog ⟨[],[],[27]⟩ 42=some dc42:=by kernel_rfl
def db44_0 : DC := (.seq (.seq (.ops false [⟨some 11,.mov (.tmp 5),none,[]⟩,⟨some 12,.mov (.tmp 0),none,[]⟩,⟨some 13,.len (.tmp 12),none,[]⟩,⟨some 14,.bin .lss (.tmp 11) (.tmp 13),none,[]⟩]) (.cond (.tmp 14) .skip (.exit 0))) (.seq (.block 1 none (.seq (.ops true [⟨some 17,.mov (.tmp 0),none,[]⟩,⟨some 18,.mov (.tmp 5),none,[]⟩,⟨some 19,.iaddr 2 (.tmp 17) (.tmp 18),none,[0,1]⟩,⟨some 20,.load (some 2) (.tmp 19),none,[2,0,1]⟩,⟨some 21,.mov (.tmp 1),none,[]⟩,⟨some 22,.mov (.tmp 5),none,[]⟩,⟨some 23,.iaddr 2 (.tmp 21) (.tmp 22),none,[4,5]⟩,⟨some 24,.load (some 2) (.tmp 23),none,[6,4,5]⟩,⟨some 25,.eqA true [1,1] (.tmp 20) (.tmp 24),none,[3,2,0,1,7,6,4,5]⟩]) (.cond (.tmp 25) (.seq (.ops false [⟨some 4,.mov (.const (.bool false)),none,[]⟩]) .ret) .skip))) (.ops false [⟨some 15,.mov (.tmp 5),none,[]⟩,⟨some 16,.bin .add (.tmp 15) (.const (.int .i64 1)),none,[]⟩,⟨some 5,.mov (.tmp 16),none,[]⟩])))
def dk44_0 : Keep := ⟨[],[0,1,5],[]⟩
def dc44 : DFunc := ⟨26,2,[.tmp 4],.seq (.ops false [⟨some 4,.mov (.const (.bool false)),none,[]⟩]) (.seq (.seq (.ops false [⟨some 6,.mov (.tmp 0),none,[]⟩,⟨some 7,.len (.tmp 6),none,[]⟩,⟨some 8,.mov (.tmp 1),none,[]⟩,⟨some 9,.len (.tmp 8),none,[]⟩,⟨some 10,.bin .neq (.tmp 7) (.tmp 9),none,[]⟩]) (.cond (.tmp 10) (.seq (.ops false [⟨some 4,.mov (.const (.bool false)),none,[]⟩]) .ret) .skip)) (.seq (.seq (.ops false [⟨some 5,.mov (.const (.int .i64 0)),none,[]⟩]) (.block 0 (some ⟨[],[],[]⟩) (.loop dk44_0 db44_0))) (.seq (.ops false [⟨some 4,.mov (.const (.bool true)),none,[]⟩]) .ret)))⟩
theorem dh44:cProg Go.Proofs.Tryz.prog ⟨[(0,⟨[],[0,1,5],[]⟩)],[(0,⟨[],[],[]⟩)],[]⟩ 44=some dc44:=by kernel_rfl
def dc45 : DFunc := ⟨19,2,[.tmp 4,.tmp 5],.seq (.ops false [⟨some 3,.box 3 (.tmp 1),none,[]⟩,⟨some 4,.mov (.const (.slice none 0 0)),none,[]⟩,⟨some 5,.mov (.const (.int .i64 0)),none,[]⟩]) (.seq (.seq (.ops true [⟨some 7,.mov (.tmp 0),none,[]⟩,⟨some 8,.call (.func 28) [.tmp 7],none,[0]⟩,⟨some 9,.load (some 3) (.tmp 3),none,[]⟩,⟨some 10,.call (.func 27) [.tmp 9],none,[2,1,0]⟩,⟨some 11,.lit true 1 2 (.int .i64 0) [(0,(.tmp 8)),(1,(.tmp 10))],none,[1,0,3,2]⟩,⟨some 12,.call (.func 89) [.tmp 11],none,[4,1,0,3,2]⟩,⟨some 6,.mov (.tmp 12),none,[5,4,1,0,3,2]⟩]) (.seq (.ops false [⟨some 13,.mov (.tmp 6),none,[]⟩,⟨some 14,.bin .neq (.tmp 13) (.const (.int .i64 0)),none,[]⟩]) (.cond (.tmp 14) (.seq (.ops false [⟨some 15,.mov (.tmp 6),none,[]⟩,⟨some 4,.mov (.const (.slice none 0 0)),none,[]⟩,⟨some 5,.mov (.tmp 15),none,[]⟩]) .ret) .skip))) (.seq (.ops false [⟨some 16,.mov (.tmp 0),none,[]⟩,⟨some 17,.mkfunc 118 [.tmp 3],none,[]⟩,⟨some 18,.call (.func 117) [.tmp 16,.tmp 17],none,[]⟩,⟨some 4,.mov (.tmp 18),none,[]⟩,⟨some 5,.mov (.const (.int .i64 0)),none,[]⟩]) .ret))⟩
theorem dh45:cProg Go.Proofs.Tryz.prog ⟨[],[],[11]⟩ 45=some dc45:=by kernel_rfl
def db46_0 : DC := (.seq (.ops false [⟨some 24,.bin .lss (.tmp 23) (.tmp 22),none,[]⟩]) (.seq (.cond (.tmp 24) .skip (.exit 0)) (.seq (.block 1 none (.seq (.ops false [⟨some 25,.mov (.tmp 23),none,[]⟩,⟨some 26,.iaddr 3 (.tmp 21) (.tmp 23),none,[]⟩,⟨some 27,.load (some 3) (.tmp 26),none,[]⟩,⟨some 9,.alloc (.agg [.int .i64 0,.int .i64 0,.int .i64 0]) 3,none,[]⟩,⟨some 8,.mov (.tmp 25),none,[]⟩,⟨none,.store 3 (.tmp 9) (.tmp 27),none,[]⟩]) (.seq (.ops false [⟨some 28,.mov (.tmp 0),none,[]⟩,⟨some 29,.mov (.tmp 8),none,[]⟩,⟨some 30,.call (.func 120) [.tmp 28,.tmp 29],none,[]⟩,⟨some 10,.alloc (.agg [.int .i64 0,.int .i64 0,.int .i64 0]) 3,none,[]⟩,⟨none,.store 3 (.tmp 10) (.tmp 30),none,[]⟩]) (.ops true [⟨some 31,.mov (.tmp 7),none,[]⟩,⟨some 32,.iaddrA 2 1 true (.global 0) (.const (.int .i64 0)),none,[]⟩,⟨some 33,.load (some 1) (.tmp 32),none,[1]⟩,⟨some 34,.load (some 3) (.tmp 9),none,[]⟩,⟨some 35,.load (some 3) (.tmp 3),none,[]⟩,⟨some 36,.call (.func 119) [.tmp 33,.tmp 34,.tmp 35],none,[2,1,3,4]⟩,⟨some 37,.iaddrA 2 1 true (.global 0) (.const (.int .i64 1)),none,[]⟩,⟨some 38,.load (some 1) (.tmp 37),none,[6]⟩,⟨some 39,.load (some 3) (.tmp 10),none,[]⟩,⟨some 40,.load (some 3) (.tmp 3),none,[]⟩,⟨some 41,.call (.func 119) [.tmp 38,.tmp 39,.tmp 40],none,[7,6,8,9,5,2,1,3,4]⟩,⟨some 42,.bin .mul (.tmp 36) (.tmp 41),none,[5,2,1,3,4,10,7,6,8,9]⟩,⟨some 43,.iaddrA 2 1 true (.global 0) (.const (.int .i64 0)),none,[]⟩,⟨some 44,.load (some 1) (.tmp 43),none,[12]⟩,⟨some 45,.load (some 3) (.tmp 10),none,[]⟩,⟨some 46,.load (some 3) (.tmp 3),none,[]⟩,⟨some 47,.call (.func 119) [.tmp 44,.tmp 45,.tmp 46],none,[13,12,14,15,10,7,6,8,9,5,2,1,3,4]⟩,⟨some 48,.iaddrA 2 1 true (.global 0) (.const (.int .i64 1)),none,[]⟩,⟨some 49,.load (some 1) (.tmp 48),none,[17]⟩,⟨some 50,.load (some 3) (.tmp 9),none,[]⟩,⟨some 51,.load (some 3) (.tmp 3),none,[]⟩,⟨some 52,.call (.func 119) [.tmp 49,.tmp 50,.tmp 51],none,[18,17,19,20,16,13,12,14,15,10,7,6,8,9,5,2,1,3,4]⟩,⟨some 53,.bin .mul (.tmp 47) (.tmp 52),none,[16,13,12,14,15,10,7,6,8,9,5,2,1,3,4,21,18,17,19,20]⟩,⟨some 54,.bin .sub (.tmp 42) (.tmp 53),none,[11,5,2,1,3,4,10,7,6,8,9,22,16,13,12,14,15,21,18,17,19,20]⟩,⟨some 55,.bin .add (.tmp 31) (.tmp 54),none,[0,23,11,5,2,1,3,4,10,7,6,8,9,22,16,13,12,14,15,21,18,17,19,20]⟩,⟨some 7,.mov (.tmp 55),none,[24,0,23,11,5,2,1,3,4,10,7,6,8,9,22,16,13,12,14,15,21,18,17,19,20]⟩])))) (.ops false [⟨some 56,.bin .add (.tmp 23) (.const (.int .i64 1)),none,[]⟩,⟨some 23,.mov (.tmp 56),none,[]⟩]))))
def dk46_0 : Keep := ⟨[],[0,3,4,7,21,22,23],[3,4,15]⟩
def dc46 : DFunc := ⟨68,2,[.cell 4 (some 2),.tmp 5],.seq (.ops false [⟨some 3,.box 3 (.tmp 1),none,[]⟩,⟨some 4,.alloc (.agg [.int .i64 0,.int .i64 0]) 2,none,[]⟩,⟨some 5,.mov (.const (.int .i64 0)),none,[]⟩]) (.seq (.seq (.ops true [⟨some 11,.mov (.tmp 0),none,[]⟩,⟨some 12,.call (.func 28) [.tmp 11],none,[0]⟩,⟨some 13,.load (some 3) (.tmp 3),none,[]⟩,⟨some 14,.call (.func 27) [.tmp 13],none,[2,1,0]⟩,⟨some 15,.lit true 1 2 (.int .i64 0) [(0,(.tmp 12)),(1,(.tmp 14))],none,[1,0,3,2]⟩,⟨some 16,.call (.func 89) [.tmp 15],none,[4,1,0,3,2]⟩,⟨some 6,.mov (.tmp 16),none,[5,4,1,0,3,2]⟩]) (.seq (.ops false [⟨some 17,.mov (.tmp 6),none,[]⟩,⟨some 18,.bin .neq (.tmp 17) (.const (.int .i64 0)),none,[]⟩]) (.cond (.tmp 18) (.seq (.ops false [⟨some 19,.build [.int .i64 0,.int .i64 0] [],none,[]⟩,⟨some 20,.mov (.tmp 6),none,[]⟩,⟨none,.store 2 (.tmp 4) (.tmp 19),none,[]⟩,⟨some 5,.mov (.tmp 20),none,[]⟩]) .ret) .skip))) (.seq (.ops false [⟨some 7,.mov (.const (.int .i64 0)),none,[]⟩]) (.seq (.seq (.ops false [⟨some 21,.mov (.tmp 0),none,[]⟩,⟨some 22,.len (.tmp 21),none,[]⟩,⟨some 23,.mov (.const (.int .i64 0)),none,[]⟩]) (.block 0 (some ⟨[],[3,4,7],[3,4,15]⟩) (.loop dk46_0 db46_0))) (.seq (.ops false [⟨some 57,.mov (.tmp 7),none,[]⟩,⟨some 58,.mov (.tmp 7),none,[]⟩,⟨some 59,.un .neg (.tmp 58),none,[]⟩,⟨some 60,.minmax true (.tmp 57) [.tmp 59],none,[]⟩,⟨some 61,.faddr 2 1 false (.tmp 3),none,[]⟩,⟨some 62,.load none (.tmp 61),none,[]⟩,⟨some 63,.bin .mul (.const (.int .i64 2)) (.tmp 62),none,[]⟩,⟨some 64,.faddr 2 1 false (.tmp 3),none,[]⟩,⟨some 65,.load none (.tmp 64),none,[]⟩,⟨some 66,.bin .mul (.tmp 63) (.tmp 65),none,[]⟩,⟨some 67,.call (.func 114) [.tmp 60,.tmp 66],none,[]⟩,⟨none,.store 2 (.tmp 4) (.tmp 67),none,[]⟩,⟨some 5,.mov (.const (.int .i64 0)),none,[]⟩]) .ret))))⟩
theorem dh46:cProg Go.Proofs.Tryz.prog ⟨[(0,⟨[],[0,3,4,7,21,22,23],[3,4,15]⟩)],[(0,⟨[],[3,4,7],[3,4,15]⟩)],[15]⟩ 46=some dc46:=by kernel_rfl
def db47_0 : DC := (.seq (.ops false [⟨some 31,.bin .lss (.tmp 30) (.tmp 29),none,[]⟩]) (.seq (.cond (.tmp 31) .skip (.exit 0)) (.seq (.block 1 none (.seq (.ops false [⟨some 32,.mov (.tmp 30),none,[]⟩,⟨some 8,.mov (.tmp 32),none,[]⟩]) (.seq (.ops true [⟨some 33,.mov (.tmp 7),none,[]⟩,⟨some 34,.mov (.tmp 8),none,[]⟩,⟨some 35,.mov (.tmp 7),none,[]⟩,⟨some 36,.mov (.tmp 8),none,[]⟩,⟨some 37,.iaddr 3 (.tmp 35) (.tmp 36),none,[2,3]⟩,⟨some 38,.faddr 0 1 false (.tmp 37),none,[4,2,3]⟩,⟨some 39,.load none (.tmp 38),none,[5,4,2,3]⟩,⟨some 40,.faddr 0 1 false (.tmp 3),none,[]⟩,⟨some 41,.load none (.tmp 40),none,[7]⟩,⟨some 42,.bin .add (.tmp 39) (.tmp 41),none,[6,5,4,2,3,8,7]⟩,⟨some 43,.mov (.tmp 7),none,[]⟩,⟨some 44,.mov (.tmp 8),none,[]⟩,⟨some 45,.iaddr 3 (.tmp 43) (.tmp 44),none,[10,11]⟩,⟨some 46,.faddr 1 1 false (.tmp 45),none,[12,10,11]⟩,⟨some 47,.load none (.tmp 46),none,[13,12,10,11]⟩,⟨some 48,.faddr 1 1 false (.tmp 3),none,[]⟩,⟨some 49,.load none (.tmp 48),none,[15]⟩,⟨some 50,.bin .add (.tmp 47) (.tmp 49),none,[14,13,12,10,11,16,15]⟩,⟨some 51,.mov (.tmp 7),none,[]⟩,⟨some 52,.mov (.tmp 8),none,[]⟩,⟨some 53,.iaddr 3 (.tmp 51) (.tmp 52),none,[18,19]⟩,⟨some 54,.faddr 2 1 false (.tmp 53),none,[20,18,19]⟩,⟨some 55,.load none (.tmp 54),none,[21,20,18,19]⟩,⟨some 56,.faddr 2 1 false (.tmp 3),none,[]⟩,⟨some 57,.load none (.tmp 56),none,[23]⟩,⟨some 58,.bin .add (.tmp 55) (.tmp 57),none,[22,21,20,18,19,24,23]⟩,⟨some 59,.build [.int .i64 0,.int .i64 0,.int .i64 0] [(0,(1,(.tmp 42))),(1,(1,(.tmp 50))),(2,(1,(.tmp 58)))],none,[9,6,5,4,2,3,8,7,17,14,13,12,10,11,16,15,25,22,21,20,18,19,24,23]⟩,⟨some 60,.iaddr 3 (.tmp 33) (.tmp 34),none,[0,1,2,3,4,5,6,7,8,9,10,11,12,13,14,15,16,17,18,19,20,21,22,23,24,25,26]⟩,⟨none,.store 3 (.tmp 60) (.tmp 59),none,[27,0,1,2,3,4,5,6,7,8,9,10,11,12,13,14,15,16,17,18,19,20,21,22,23,24,25,26]⟩]) (.seq (.ops false [⟨some 61,.mov (.tmp 7),none,[]⟩,⟨some 62,.mov (.tmp 8),none,[]⟩,⟨some 63,.iaddr 3 (.tmp 61) (.tmp 62),none,[]⟩,⟨some 64,.load (some 3) (.tmp 63),none,[]⟩,⟨some 65,.call (.func 106) [.tmp 64],none,[]⟩,⟨some 66,.bin .neq (.tmp 65) (.const (.int .i64 0)),none,[]⟩]) (.cond (.tmp 66) (.seq (.ops false [⟨some 4,.mov (.const (.slice none 0 0)),none,[]⟩,⟨some 5,.mov (.const (.int .i64 4)),none,[]⟩]) .ret) .skip))))) (.ops false [⟨some 67,.bin .add (.tmp 30) (.const (.int .i64 1)),none,[]⟩,⟨some 30,.mov (.tmp 67),none,[]⟩]))))
def dk47_0 : Keep := ⟨[],[3,7,29,30],[3,13,20]⟩
def dc47 : DFunc := ⟨69,2,[.tmp 4,.tmp 5],.seq (.ops false [⟨some 3,.box 3 (.tmp 1),none,[]⟩,⟨some 4,.mov (.const (.slice none 0 0)),none,[]⟩,⟨some 5,.mov (.const (.int .i64 0)),none,[]⟩]) (.seq (.seq (.ops true [⟨some 9,.mov (.tmp 0),none,[]⟩,⟨some 10,.call (.func 28) [.tmp 9],none,[0]⟩,⟨some 11,.load (some 3) (.tmp 3),none,[]⟩,⟨some 12,.call (.func 121) [.tmp 11,.const (.int .i64 2000)],none,[2,1,0]⟩,⟨some 13,.lit true 1 2 (.int .i64 0) [(0,(.tmp 10)),(1,(.tmp 12))],none,[1,0,3,2]⟩,⟨some 14,.call (.func 89) [.tmp 13],none,[4,1,0,3,2]⟩,⟨some 6,.mov (.tmp 14),none,[5,4,1,0,3,2]⟩]) (.seq (.ops false [⟨some 15,.mov (.tmp 6),none,[]⟩,⟨some 16,.bin .neq (.tmp 15) (.const (.int .i64 0)),none,[]⟩]) (.cond (.tmp 16) (.seq (.ops false [⟨some 17,.mov (.tmp 6),none,[]⟩,⟨some 4,.mov (.const (.slice none 0 0)),none,[]⟩,⟨some 5,.mov (.tmp 17),none,[]⟩]) .ret) .skip))) (.seq (.ops false [⟨some 18,.mov (.tmp 0),none,[]⟩,⟨some 19,.len (.tmp 18),none,[]⟩,⟨some 20,.mkslice 3 (.agg [.int .i64 0,.int .i64 0,.int .i64 0]) (.tmp 19) (.tmp 19),none,[]⟩,⟨some 7,.mov (.tmp 20),none,[]⟩]) (.seq (.ops false [⟨some 21,.mov (.tmp 7),none,[]⟩,⟨some 22,.mov (.tmp 0),none,[]⟩,⟨some 23,.copy 3 (.tmp 21) (.tmp 22),none,[]⟩]) (.seq (.seq (.ops false [⟨some 24,.load (some 3) (.tmp 3),none,[]⟩,⟨some 25,.build [.int .i64 0,.int .i64 0,.int .i64 0] [],none,[]⟩,⟨some 26,.eqA false [1,1,1] (.tmp 24) (.tmp 25),none,[]⟩]) (.cond (.tmp 26) (.seq (.ops false [⟨some 27,.mov (.tmp 7),none,[]⟩,⟨some 4,.mov (.tmp 27),none,[]⟩,⟨some 5,.mov (.const (.int .i64 0)),none,[]⟩]) .ret) .skip)) (.seq (.seq (.ops false [⟨some 28,.mov (.tmp 7),none,[]⟩,⟨some 29,.len (.tmp 28),none,[]⟩,⟨some 30,.mov (.const (.int .i64 0)),none,[]⟩]) (.block 0 (some ⟨[],[7],[3,13,20]⟩) (.loop dk47_0 db47_0))) (.seq (.ops false [⟨some 68,.mov (.tmp 7),none,[]⟩,⟨some 4,.mov (.tmp 68),none,[]⟩,⟨some 5,.mov (.const (.int .i64 0)),none,[]⟩]) .ret))))))⟩
theorem dh47:cProg Go.Proofs.Tryz.prog ⟨[(0,⟨[],[3,7,29,30],[3,13,20]⟩)],[(0,⟨[],[7],[3,13,20]⟩)],[13]⟩ 47=some dc47:=by kernel_rfl
end Sh

namespace Sh
open Go Go.Proofs
def GC:Nat→Option DV:=fun g=>if g=0 then some (.agg [.func 214 [],.func 215 []]) else if g=1 then some (.agg (Lib.pow10Tab.map (DV.int .u64))) else if g=2 then some (.agg [.undef]) else none
abbrev PC:=PureCall Tryz.prog GC
end Sh

namespace Sh
open Go
structure Pt where
 x:Int
 y:Int
def P0:Pt:=⟨0,0⟩
structure V3 where
 x:Int
 y:Int
 z:Int
def V0:V3:=⟨0,0,0⟩
def firstE:List Int→Int
 |[]=>0
 |a :: r=>if a≠0 then a else firstE r
theorem firstE_drop (l:List Int) (i:Nat) (h:i < l.length):firstE (l.drop i)=if l.getD i 0≠0 then l.getD i 0 else firstE (l.drop (i+1)):=by
 rw [List.drop_eq_getElem_cons h];simp [firstE,List.getD_eq_getElem?_getD,h]
def withE (n l h:Int):Int:=if n < l∨h < n then 3 else 0
def whenE (b:Bool) (e:Int):Int:=if b then e else 0
theorem drop_getD {α:Type} (l:List α) (i:Nat) (d:α) (h:i < l.length):l.drop i=l.getD i d :: l.drop (i+1):=by
 rw [List.drop_eq_getElem_cons h];simp [List.getD_eq_getElem?_getD,h]
theorem take_snoc {α:Type} (l:List α) (i:Nat) (d:α) (h:i < l.length):l.take (i+1)=l.take i++[l.getD i d]:=by
 rw [List.take_add_one];simp [List.getD_eq_getElem?_getD,h]
theorem getD_in {α:Type} {l:List α} {i:Nat} (d:α) (h:i < l.length):l.getD i d ∈ l:=by
 have:l.getD i d=l[i]:=by simp [List.getD_eq_getElem?_getD,h]
 rw [this];exact List.getElem_mem h
theorem take_map_succ {α β:Type} (f:α→β) (l:List α) (i:Nat) (d:α) (h:i < l.length):(l.take (i+1)).map f=(l.take i).map f++[f (l.getD i d)]:=by
 rw [take_snoc l i d h,List.map_append];rfl
theorem window_full {α:Type} (l:List α):window l 0 l.length=l:=by simp [window]
theorem int_eq {a b:Int} (h:a=b):DV.int .i64 a=.int .i64 b:=by rw [h]
theorem bool_eq {a b:Bool} (h:a=b):DV.bool a=.bool b:=by rw [h]
theorem idxA {α:Type} {enc:α→DV} {l:List α} {i n:Nat} {x:DV} (h:i < l.length) (hx:x.cells.length=n):0≤(i:Int)∧(i:Int) < ((l.map enc).length:Nat)∧x.cells.length=n:=⟨by omega,by simpa using h,hx⟩
theorem idxB {α:Type} {enc:α→DV} {l:List α} {i:Int} {n:Nat} {x:DV} (h0:0≤i) (h:i < l.length) (hx:x.cells.length=n):0≤i∧i < ((l.map enc).length:Nat)∧x.cells.length=n:=⟨h0,by simpa using h,hx⟩
theorem wrap_succ (i:Nat) (h:i < 4611686018427387904):IntKind.i64.wrap ((i:Int)+1)=((i+1:Nat):Int):=by
 rw [wrap_W,W_in (by omega) (by omega)];omega
theorem wrap_in {n:Int} (h1 : -9223372036854775808≤n) (h2:n≤9223372036854775807):IntKind.i64.wrap n=n:=W_in h1 h2
theorem mul_bd {a b A B:Int} (h1 : -A≤a) (h2:a≤A) (h3 : -B≤b) (h4:b≤B) : -(A * B)≤a * b∧a * b≤A * B:=by
 have hA:0≤A:=by omega
 have hB:0≤B:=by omega
 have ha:a.natAbs≤A.natAbs:=by omega
 have hb:b.natAbs≤B.natAbs:=by omega
 have h:=Nat.mul_le_mul ha hb
 rw [← Int.natAbs_mul,← Int.natAbs_mul] at h
 have hAB:0≤A * B:=Int.mul_nonneg hA hB
 omega
theorem firstE_cons {a:Int} {l:List Int} (h:firstE (a :: l)=0):a=0∧firstE l=0:=by
 unfold firstE at h
 split at h
 ·exact absurd h ‹_›
 ·rename_i h1;exact ⟨Classical.not_not.1 h1,h⟩
theorem withE_zero {n l h:Int} (e:withE n l h=0):l≤n∧n≤h:=by
 unfold withE at e;split at e
 ·cases e
 ·omega
theorem whenE_zero {b:Bool} {e:Int} (h:whenE b e=0) (he:e≠0):b=false:=by
 cases b
 ·rfl
 ·exact absurd h he
theorem firstE_mem {l:List Int} (h:firstE l=0):∀ e ∈ l,e=0:=by
 induction l with
 |nil=>simp
 |cons a r ih =>
  obtain ⟨h1,h2⟩:=firstE_cons h
  intro e he
  rcases List.mem_cons.1 he with rfl|he
  ·exact h1
  ·exact ih h2 e he
def sumI (l:List Int):Int:=l.foldr (·+·) 0
theorem sumI_append (a b:List Int):sumI (a++b)=sumI a+sumI b:=by
 induction a with
 |nil=>simp [sumI]
 |cons x r ih=>simp only [sumI,List.cons_append,List.foldr_cons] at ih ⊢;omega
theorem sumI_one (a:Int):sumI [a]=a:=by simp [sumI]
def rng {α:Type} (m:Nat) (f:Nat→α):List α:=(List.range m).map f
theorem rng_len {α:Type} (m:Nat) (f:Nat→α):(rng m f).length=m:=by simp [rng]
theorem rng_getD {α:Type} {m i:Nat} (f:Nat→α) (d:α) (h:i < m):(rng m f).getD i d=f i:=by
 simp [rng,List.getD_eq_getElem?_getD,h]
theorem rng_set {α:Type} (m j:Nat) (f:Nat→α) (v:α):(rng m f).set j v=rng m (fun k=>if k=j then v else f k):=by
 apply List.ext_getElem
 ·simp [rng]
 ·intro i h1 h2
  simp only [rng,List.getElem_set,List.getElem_map,List.getElem_range]
  by_cases e:j=i
  ·subst e;simp
  ·rw [if_neg e,if_neg (Ne.symm e)]
theorem rng_congr {α:Type} {m:Nat} {f g:Nat→α} (h:∀ k,k < m→f k=g k):rng m f=rng m g:=by
 unfold rng;exact List.map_congr_left (fun k hk=>h k (List.mem_range.1 hk))
theorem rng_succ {α:Type} (m:Nat) (f:Nat→α):rng (m+1) f=rng m f++[f m]:=by
 simp [rng,List.range_succ]
theorem rng_const {α:Type} (m:Nat) (v:α):List.replicate m v=rng m (fun _=>v):=by
 apply List.ext_getElem<;>simp [rng]
theorem rng_map {α β:Type} (m:Nat) (f:Nat→α) (g:α→β):(rng m f).map g=rng m (fun k=>g (f k)):=by simp [rng]
section
variable {ev:Operand→DV} {lk:Nat→Option DObj} {o kk q i:Nat} {ks:List Nat} {z v:DV} {m k x:Operand} {es:List (DV×DV)}
theorem ev_lookup_some (hm:ev m=.dict q) (hl:lk q=some (.dict es)) (hp:keyB kk ks (ev k)=true) (hd:dfind (keyEq kk ks) (ev k) es 0=some (some (i,v))):evalOp ev lk o (.lookup kk ks false z m k)=.ok none v []:=by
 simp [evalOp,hm,hl,hp,hd]
theorem ev_lookup_none (hm:ev m=.dict q) (hl:lk q=some (.dict es)) (hp:keyB kk ks (ev k)=true) (hd:dfind (keyEq kk ks) (ev k) es 0=some none):evalOp ev lk o (.lookup kk ks false z m k)=.ok none z []:=by
 simp [evalOp,hm,hl,hp,hd]
theorem ev_mapset_none {kv vv:DV} (hm:ev m=.dict q) (hl:lk q=some (.dict es)) (hk:ev k=kv) (hv:ev x=vv) (hp:(keyB kk ks kv && pureB vv)=true) (hd:dfind (keyEq kk ks) kv es 0=some none):evalOp ev lk o (.mapset kk ks m k x)=.ok none (.tuple []) [(q,.dict (es++[(kv,vv)]))]:=by
 simp only [evalOp,hm,hl,hk,hv,hp,hd,cond_true]
end
def mx (a b:Int):Int:=if a < b then b else a
def isD (c:UInt8):Bool:=decide (48≤c.toNat) && decide (c.toNat≤57)
def valD:List UInt8→Int→Int
 |[],n=>n
 |c :: r,n=>valD r (10 * n+((c.toNat:Int) - 48))
def badD (s:List UInt8):Bool:=decide (s=[]) || decide (9 < s.length) || (decide (1 < s.length) && decide (s.getD 0 0=48))
def digS (s:List UInt8):Int×Bool:=if badD s || !s.all isD then (0,false) else (valD s 0,true)
theorem valD_append (a b:List UInt8) (n:Int):valD (a++b) n=valD b (valD a n):=by
 induction a generalizing n with
 |nil=>rfl
 |cons c r ih=>exact ih _
theorem valD_bd:∀ (s:List UInt8) (n:Int) (k:Nat),s.all isD=true→0≤n→n < 10 ^ k→0≤valD s n∧valD s n < 10 ^ (k+s.length)
 |[],n,k,_,h0,h1=>⟨h0,h1⟩
 |c :: r,n,k,h,h0,h1=>by
  rw [List.all_cons,Bool.and_eq_true] at h
  have hc:=h.1
  unfold isD at hc
  rw [Bool.and_eq_true,decide_eq_true_eq,decide_eq_true_eq] at hc
  have h2:(10:Int) ^ (k+1)=10 ^ k * 10:=Int.pow_succ ..
  have:=valD_bd r (10 * n+((c.toNat:Int) - 48)) (k+1) h.2 (by omega) (by omega)
  rw [List.length_cons,show k+(r.length+1)=k+1+r.length by omega]
  exact this
def glue (p:List UInt8):List (List UInt8)→List (List UInt8)
 |[]=>[p]
 |h :: t=>(p++h) :: t
def splitC (b:UInt8):List UInt8→List (List UInt8)
 |[]=>[[]]
 |c :: r=>if c=b then [] :: splitC b r else glue [c] (splitC b r)
theorem splitC_ne (b:UInt8):∀ s,splitC b s≠[]
 |[]=>by simp [splitC]
 |c :: r=>by
  unfold splitC
  split
  ·simp
  ·cases splitC b r<;>simp [glue]
theorem splitC_len (b:UInt8):∀ s:List UInt8,(splitC b s).length≤s.length+1∧∀ x ∈ splitC b s,x.length≤s.length
 |[]=>⟨Nat.le_refl _,fun x hx=>by simp [splitC] at hx;subst hx;exact Nat.le_refl _⟩
 |c :: r=>by
  obtain ⟨h1,h2⟩:=splitC_len b r
  have hn:=splitC_ne b r
  unfold splitC
  split
  ·refine ⟨by simp;omega,fun x hx=>?_⟩
   rcases List.mem_cons.1 hx with rfl|hx
   ·simp
   ·have:=h2 x hx;simp;omega
  ·cases hs:splitC b r with
   |nil=>exact absurd hs hn
   |cons h t =>
    rw [hs] at h1 h2
    refine ⟨by simp [glue] at h1 ⊢;omega,fun x hx=>?_⟩
    simp only [glue] at hx
    rcases List.mem_cons.1 hx with rfl|hx
    ·have:=h2 h (List.mem_cons_self ..);simp;omega
    ·have:=h2 x (List.mem_cons_of_mem _ hx);simp;omega
theorem firstE_zeros:∀ {l:List Int},(∀ x ∈ l,x=0)→firstE l=0
 |[],_=>rfl
 |x :: r,h=>by
  have h0:=h x (List.mem_cons_self ..)
  have ih:=firstE_zeros (l:=r) (fun y hy=>h y (List.mem_cons_of_mem _ hy))
  simp [firstE,h0,ih]
def wn (ns:List Int):List UInt8:=Lib.joinTail [32] (ns.map Lib.itoa)
theorem wn_append (a b:List Int):wn (a++b)=wn a++wn b:=by simp [wn,Lib.joinTail]
theorem wn_cons (n:Int) (r:List Int):wn (n :: r)=32 :: (Lib.itoa n++wn r):=by simp [wn,Lib.joinTail]
theorem wn_nil:wn []=[]:=rfl
def linesC:List UInt8→List (List UInt8)
 |[]=>[]
 |c :: r=>if c=10 then [c] :: linesC r else glue [c] (linesC r)
theorem lines_idx:∀ s:List UInt8,s≠[]→(Lib.indexByte s 10 = -1∧linesC s=[s])∨∃ i:Nat,Lib.indexByte s 10=i∧i < s.length∧linesC s=s.take (i+1) :: linesC (s.drop (i+1))
 |[],h=>absurd rfl h
 |b :: l,_=>by
  by_cases hb:b=10
  ·subst hb
   exact .inr ⟨0,rfl,by simp,by simp [linesC]⟩
  ·have hbe:(b == (10:UInt8))=false:=beq_eq_false_iff_ne.2 hb
   have e1:Lib.indexByte (b :: l) 10=if Lib.indexByte l 10 == -1 then -1 else Lib.indexByte l 10+1:=by rw [Lib.indexByte,hbe];rfl
   have e2:linesC (b :: l)=glue [b] (linesC l):=by rw [linesC,if_neg hb]
   by_cases hl:l=[]
   ·subst hl
    exact .inl ⟨by rw [e1];rfl,by rw [e2];rfl⟩
   ·rcases lines_idx l hl with ⟨h1,h2⟩|⟨i,h1,h2,h3⟩
    ·exact .inl ⟨by rw [e1,h1];rfl,by rw [e2,h2];rfl⟩
    ·refine .inr ⟨i+1,?_,by simp;omega,?_⟩
     ·have hn:((i:Int) == -1)=false:=beq_eq_false_iff_ne.2 (by omega)
      rw [e1,h1,hn];simp
     ·rw [e2,h3];rfl
theorem window_take (s:List UInt8) (k:Nat) (h:k≤s.length):window s 0 k=s.take k:=by simp [window]
theorem window_drop (s:List UInt8) (k:Nat):window s k (s.length - k)=s.drop k:=by unfold window;rw [List.take_of_length_le (by simp)]
def linesOf:List (List UInt8)→List (List UInt8)
 |[]=>[]
 |[l]=>if l=[] then [] else [l]
 |h :: t=>(h++[10]) :: linesOf t
theorem linesOf_cons (h:List UInt8) {t:List (List UInt8)} (ht:t≠[]):linesOf (h :: t)=(h++[10]) :: linesOf t:=by
 cases t with
 |nil=>exact absurd rfl ht
 |cons a r=>rfl
theorem lines_split:∀ s:List UInt8,linesC s=linesOf (splitC 10 s)
 |[]=>rfl
 |c :: r=>by
  have ih:=lines_split r
  have hn:=splitC_ne 10 r
  unfold linesC splitC
  by_cases h:c=10
  ·rw [if_pos h,if_pos h,linesOf_cons _ hn,ih,h];rfl
  ·rw [if_neg h,if_neg h,ih]
   cases hs:splitC 10 r with
   |nil=>exact absurd hs hn
   |cons a t =>
    cases t with
    |nil =>
     simp only [linesOf,glue]
     by_cases ha:a=[]
     ·subst ha;rfl
     ·rw [if_neg ha];rfl
    |cons b u =>
     show glue [c] ((a++[10]) :: linesOf (b :: u))=(([c]++a)++[10]) :: linesOf (b :: u)
     simp [glue]
theorem linesOf_len:∀ (rows:List (List UInt8)) (m:Nat),rows.length=m+1→(linesOf rows).length=m+(if rows.getD m []=[] then 0 else 1)
 |[],m,h=>by simp at h
 |[l],m,h=>by
  have:m=0:=by simp at h;omega
  subst this
  unfold linesOf
  by_cases hl:l=[]<;>simp [hl]
 |h :: a :: t,m,hm=>by
  obtain ⟨k,rfl⟩:∃ k,m=k+1:=⟨m - 1,by simp at hm;omega⟩
  have:=linesOf_len (a :: t) k (by simpa using hm)
  rw [linesOf_cons h (by simp),List.length_cons,this]
  simp only [List.getD_cons_succ];omega
theorem linesOf_get:∀ (rows:List (List UInt8)) (m i:Nat),rows.length=m+1→i < m→(linesOf rows).getD i []=rows.getD i []++[10]
 |[],m,i,h,_=>by simp at h
 |[l],m,i,h,hi=>by simp at h;omega
 |h :: a :: t,m,i,hm,hi=>by
  obtain ⟨k,rfl⟩:∃ k,m=k+1:=⟨m - 1,by omega⟩
  rw [linesOf_cons h (by simp)]
  cases i with
  |zero=>rfl
  |succ i =>
   rw [List.getD_cons_succ,List.getD_cons_succ]
   exact linesOf_get (a :: t) k i (by simpa using hm) (by omega)
theorem linesOf_last:∀ (rows:List (List UInt8)) (m:Nat),rows.length=m+1→rows.getD m []≠[]→(linesOf rows).getD m []=rows.getD m []
 |[],m,h,_=>by simp at h
 |[l],m,h,hl=>by
  have:m=0:=by simp at h;omega
  subst this
  have hl:l≠[]:=hl
  unfold linesOf
  rw [if_neg hl]
 |h :: a :: t,m,hm,hl=>by
  obtain ⟨k,rfl⟩:∃ k,m=k+1:=⟨m - 1,by simp at hm;omega⟩
  rw [linesOf_cons h (by simp)]
  exact linesOf_last (a :: t) k (by simpa using hm) hl
theorem splitC_not (b:UInt8):∀ (s:List UInt8),∀ x ∈ splitC b s,b ∉ x
 |[],x,hx=>by simp [splitC] at hx;subst hx;simp
 |c :: r,x,hx=>by
  have ih:=splitC_not b r
  unfold splitC at hx
  by_cases h:c=b
  ·rw [if_pos h] at hx
   rcases List.mem_cons.1 hx with rfl|hx
   ·simp
   ·exact ih x hx
  ·rw [if_neg h] at hx
   cases hs:splitC b r with
   |nil=>exact absurd hs (splitC_ne b r)
   |cons a t =>
    rw [hs] at hx ih
    simp only [glue] at hx
    rcases List.mem_cons.1 hx with rfl|hx
    ·have:=ih a (List.mem_cons_self ..)
     simp only [List.cons_append,List.nil_append,List.mem_cons,not_or]
     exact ⟨fun e=>h e.symm,this⟩
    ·exact ih x (List.mem_cons_of_mem _ hx)
theorem cut_yes (l:List UInt8):Lib.trimSuffix (l++[10]) [10]=l∧Lib.hasSuffix (l++[10]) [10]=true:=by
 have h:Lib.hasSuffix (l++[10]) [10]=true:=by unfold Lib.hasSuffix;simp
 refine ⟨?_,h⟩
 unfold Lib.trimSuffix
 rw [if_pos h];simp
theorem cut_no (l:List UInt8) (h:(10:UInt8) ∉ l):Lib.trimSuffix l [10]=l∧Lib.hasSuffix l [10]=false:=by
 have h2:Lib.hasSuffix l [10]=false:=by
  cases e:Lib.hasSuffix l [10] with
  |false=>rfl
  |true =>
   unfold Lib.hasSuffix at e
   rw [List.isSuffixOf_iff_suffix] at e
   obtain ⟨t,rfl⟩:=e
   exact absurd (by simp:(10:UInt8) ∈ t++[10]) h
 refine ⟨?_,h2⟩
 unfold Lib.trimSuffix
 rw [h2];rfl
theorem get_bytes (s:List UInt8) (i:Nat):(⟨s.toArray⟩:ByteArray).get! i=s.getD i 0:=by
 simp [ByteArray.get!,List.getD_eq_getElem?_getD,Array.getElem!_eq_getD]
 rfl
theorem sdecode_ascii (s:List UInt8) (i:Nat) (h:(s.getD i 0).toNat < 128):sdecode s i=((s.getD i 0).toNat,1):=by
 unfold sdecode
 rw [Lib.decode_at,get_bytes,Lib.decodeN,if_pos h]
theorem sdecode_other (s:List UInt8) (i:Nat) (h:¬ (s.getD i 0).toNat < 128):128≤(sdecode s i).1:=by
 unfold sdecode
 rw [Lib.decode_at,get_bytes]
 rcases Lib.decodeN_shape ((⟨s.toArray⟩:ByteArray).size - i) (s.getD i 0).toNat (((⟨s.toArray⟩:ByteArray).get! (i+1)).toNat) (((⟨s.toArray⟩:ByteArray).get! (i+2)).toNat) (((⟨s.toArray⟩:ByteArray).get! (i+3)).toNat) with h1|h1|h1|h1|h1
 ·exact absurd h1.1 h
 ·rw [h1.2.2.2.2];exact h1.2.2.2.1
 ·obtain ⟨_,_,_,_,h2,_,h3⟩:=h1;rw [h3];show 128≤_;omega
 ·obtain ⟨_,_,_,_,_,h2,_,h3⟩:=h1;rw [h3];show 128≤_;omega
 ·rw [h1];decide
theorem isD_iff (c:UInt8):isD c=true ↔ 48≤c.toNat∧c.toNat≤57:=by unfold isD;rw [Bool.and_eq_true,decide_eq_true_eq,decide_eq_true_eq]
theorem rune_yes (s:List UInt8) (i:Nat) (h:isD (s.getD i 0)=true):sdecode s i=((s.getD i 0).toNat,1):=sdecode_ascii s i (by have:=(isD_iff _).1 h;omega)
theorem rune_no (s:List UInt8) (i:Nat) (h:isD (s.getD i 0)=false):(sdecode s i).1 < 48∨57 < (sdecode s i).1:=by
 by_cases h1:(s.getD i 0).toNat < 128
 ·rw [sdecode_ascii s i h1]
  show (s.getD i 0).toNat < 48∨57 < (s.getD i 0).toNat
  false_or_by_contra
  have:=(isD_iff (s.getD i 0)).2 ⟨by omega,by omega⟩
  rw [h] at this;cases this
 ·have:=sdecode_other s i h1;omega
theorem wrap_i32 {n:Int} (h1 : -2147483648≤n) (h2:n≤2147483647):IntKind.i32.wrap n=n:=by
 unfold IntKind.wrap
 simp only [IntKind.bits,IntKind.signed]
 simp;omega
end Sh

namespace Sh
open Go Go.Proofs
def iL (l:List Int):DV:=.list (l.map (DV.int .i64))
theorem c_when (b:Bool) (e:Int):PC 104 [.bool b,DV.int .i64 (e)] (DV.int .i64 (whenE b e)):=by
 refine pureCall_ofR dh104 rfl ?_
 conv=>whnf
 refine ⟨fun hb=>?_,fun hb=>?_⟩<;>try (exact absurd hb (by decide))
 all_goals conv=>whnf
 all_goals subst hb;rfl
theorem c_within (n l h:Int):PC 103 [DV.int .i64 (n),DV.int .i64 (l),DV.int .i64 (h)] (DV.int .i64 (withE n l h)):=by
 refine pureCall_ofR dh103 rfl ?_
 conv=>whnf
 refine ⟨fun hb=>?_,fun hb=>?_⟩<;>try (exact absurd hb (by decide))
 all_goals conv=>whnf
 ·refine .inl ?_
  conv=>whnf
  refine ⟨_,c_when ..,?_⟩
  conv=>whnf
  exact int_eq (by simp_all [withE,whenE];split<;>split<;>omega)
 ·refine .inl ?_
  conv=>whnf
  refine ⟨_,c_when ..,?_⟩
  conv=>whnf
  exact int_eq (by simp_all [withE,whenE])
theorem c_first (l:List Int) (hl:l.length < 4611686018427387904):PC 89 [iL l] (DV.int .i64 (firstE l)):=by
 refine pureCall_ofR dh89 rfl ?_
 conv=>whnf
 refine dwp_loopR (P:=Tryz.prog) (G:=GC) (k:=dk89_0) (b:=db89_0) (α:=Nat) (fun i=>[(5,iL l),(6,.int .i64 (l.map (DV.int .i64)).length),(7,.int .i64 i)]) (fun _=>[]) (fun i=>i≤l.length∧firstE l=firstE (l.drop i)) (fun i=>l.length - i) 0 ⟨rfl,rfl,rfl⟩ ⟨Nat.zero_le _,rfl⟩ ?_
 intro i ⟨h1,h2⟩
 conv=>whnf
 refine ⟨fun hb=>?_,fun hb=>?_⟩<;>try (exact absurd hb (by decide))
 ·have hi:i < l.length:=by simpa using hb
  have hd:=firstE_drop l i hi
  conv=>whnf
  rw [getD_enc _ _ (i) 0 hi]
  refine ⟨idxA hi rfl,?_⟩
  conv=>whnf
  refine ⟨fun hb=>?_,fun hb=>?_⟩<;>try (exact absurd hb (by decide))
  ·conv=>whnf
   exact int_eq (by simp_all)
  ·conv=>whnf
   rw [wrap_succ i (by omega)]
   exact ⟨i+1,rfl,rfl,rfl,⟨hi,by simp_all⟩,by omega⟩
 ·conv=>whnf
  have:i=l.length:=by simp at hb;omega
  subst this
  exact int_eq (by rw [h2];simp [firstE])
end Sh

namespace Sh
open Go
def subV (a b:V3):V3:=⟨a.x - b.x,a.y - b.y,a.z - b.z⟩
def dotV (a b:V3):Int:=a.x * b.x+a.y * b.y+a.z * b.z
def crsV (a b:V3):V3:=⟨a.y * b.z - a.z * b.y,a.z * b.x - a.x * b.z,a.x * b.y - a.y * b.x⟩
def bdV (n:Int) (v:V3):Prop:=(-n≤v.x∧v.x≤n)∧(-n≤v.y∧v.y≤n)∧(-n≤v.z∧v.z≤n)
theorem bdV_le {m n:Int} {v:V3} (h:bdV m v) (hn:m≤n):bdV n v:=by
 obtain ⟨⟨a,b⟩,⟨c,d⟩,e,f⟩:=h
 exact ⟨⟨by omega,by omega⟩,⟨by omega,by omega⟩,by omega,by omega⟩
theorem subV_bd {m n:Int} {a b:V3} (ha:bdV m a) (hb:bdV n b):bdV (m+n) (subV a b):=by
 obtain ⟨⟨a1,a2⟩,⟨a3,a4⟩,a5,a6⟩:=ha
 obtain ⟨⟨b1,b2⟩,⟨b3,b4⟩,b5,b6⟩:=hb
 unfold subV
 exact ⟨⟨by simp only;omega,by simp only;omega⟩,⟨by simp only;omega,by simp only;omega⟩,by simp only;omega,by simp only;omega⟩
theorem crsV_bd {m n:Int} {a b:V3} (ha:bdV m a) (hb:bdV n b):bdV (2 * (m * n)) (crsV a b):=by
 obtain ⟨⟨a1,a2⟩,⟨a3,a4⟩,a5,a6⟩:=ha
 obtain ⟨⟨b1,b2⟩,⟨b3,b4⟩,b5,b6⟩:=hb
 have h1:=mul_bd a3 a4 b5 b6
 have h2:=mul_bd a5 a6 b3 b4
 have h3:=mul_bd a5 a6 b1 b2
 have h4:=mul_bd a1 a2 b5 b6
 have h5:=mul_bd a1 a2 b3 b4
 have h6:=mul_bd a3 a4 b1 b2
 unfold crsV
 exact ⟨⟨by simp only;omega,by simp only;omega⟩,⟨by simp only;omega,by simp only;omega⟩,by simp only;omega,by simp only;omega⟩
def sgn (n:Int):Int:=if 0 < n then 1 else if n < 0 then -1 else 0
def aft (s:List V3) (i:Nat):V3:=s.getD ((i+1) % s.length) V0
def nrmV (s:List V3):V3:=crsV (subV (s.getD 1 V0) (s.getD 0 V0)) (subV (s.getD 2 V0) (s.getD 1 V0))
def sideV (s:List V3) (i:Nat):V3:=subV (aft s i) (s.getD i V0)
def flatK (s:List V3) (i:Nat) (o:V3):Bool:=decide (0≤dotV (nrmV s) (crsV (sideV s i) (subV o (s.getD i V0))))
def flatA (s:List V3) (i:Nat):Bool:=decide (dotV (nrmV s) (subV (s.getD i V0) (s.getD 0 V0))=0) && decide (0 < dotV (nrmV s) (crsV (sideV s i) (subV (aft s (i+1)) (aft s i))))
def flatI (s:List V3) (i:Nat):Bool:=flatA s i && s.all (flatK s i)
def flat_ (s:List V3):Bool:=(List.range s.length).all (flatI s)
def chkCor (v:V3):Int:=firstE [withE v.x (-1000) 1000,withE v.y (-1000) 1000,withE v.z 0 1000]
def chkSun (v:V3):Int:=firstE [withE v.x (-1000) 1000,withE v.y (-1000) 1000,withE v.z 1 1000]
def sizeS (s:List V3):Int:=firstE [whenE (decide ((s.length:Int) < 3)) 16,whenE (decide (6 < (s.length:Int))) 5,firstE (s.map chkCor)]
def chkShp (s:List V3):Int:=if sizeS s≠0 then sizeS s else whenE (!flat_ s) 1
def chkShps (l:List (List V3)):Int:=if 8 < (l.length:Int) then 5 else firstE (l.map chkShp)
def chkSpot (p:Pt):Int:=firstE [withE p.x (-1000) 1000,withE p.y (-1000) 1000]
def OkS (s:List V3):Prop:=3≤s.length∧s.length≤6∧∀ v ∈ s,bdV 1000 v∧0≤v.z
theorem chkCor_zero {v:V3} (h:chkCor v=0):bdV 1000 v∧0≤v.z:=by
 unfold chkCor at h
 obtain ⟨h1,h⟩:=firstE_cons h
 obtain ⟨h2,h⟩:=firstE_cons h
 obtain ⟨h3,h⟩:=firstE_cons h
 have h1:=withE_zero h1
 have h2:=withE_zero h2
 have h3:=withE_zero h3
 exact ⟨⟨h1,h2,by omega,h3.2⟩,h3.1⟩
theorem chkSun_zero {v:V3} (h:chkSun v=0):bdV 1000 v∧1≤v.z:=by
 unfold chkSun at h
 obtain ⟨h1,h⟩:=firstE_cons h
 obtain ⟨h2,h⟩:=firstE_cons h
 obtain ⟨h3,h⟩:=firstE_cons h
 have h1:=withE_zero h1
 have h2:=withE_zero h2
 have h3:=withE_zero h3
 exact ⟨⟨h1,h2,by omega,h3.2⟩,h3.1⟩
theorem sizeS_zero {s:List V3} (h:sizeS s=0):OkS s:=by
 unfold sizeS at h
 obtain ⟨h1,h⟩:=firstE_cons h
 obtain ⟨h2,h⟩:=firstE_cons h
 obtain ⟨h3,h⟩:=firstE_cons h
 have h1:=of_decide_eq_false (whenE_zero h1 (by decide))
 have h2:=of_decide_eq_false (whenE_zero h2 (by decide))
 exact ⟨by omega,by omega,fun v hv=>chkCor_zero (firstE_mem h3 _ (List.mem_map_of_mem hv))⟩
theorem chkShp_size {s:List V3} (h:chkShp s=0):sizeS s=0∧flat_ s=true:=by
 unfold chkShp at h
 split at h
 ·exact absurd h ‹_›
 ·refine ⟨Classical.not_not.1 ‹_›,?_⟩
  have:=whenE_zero h (by decide)
  simpa using this
theorem chkShp_zero {s:List V3} (h:chkShp s=0):OkS s:=sizeS_zero (chkShp_size h).1
theorem chkShps_zero {l:List (List V3)} (h:chkShps l=0):l.length≤8∧∀ s ∈ l,chkShp s=0:=by
 unfold chkShps at h
 split at h
 ·cases h
 ·exact ⟨by omega,fun s hs=>firstE_mem h _ (List.mem_map_of_mem hs)⟩
theorem chkSpot_zero {p:Pt} (h:chkSpot p=0):(-1000≤p.x∧p.x≤1000)∧(-1000≤p.y∧p.y≤1000):=by
 unfold chkSpot at h
 obtain ⟨h1,h⟩:=firstE_cons h
 obtain ⟨h2,h⟩:=firstE_cons h
 exact ⟨withE_zero h1,withE_zero h2⟩
theorem OkS.at {s:List V3} (h:OkS s) {i:Nat} (hi:i < s.length):bdV 1000 (s.getD i V0):=(h.2.2 _ (getD_in V0 hi)).1
theorem OkS.aft {s:List V3} (h:OkS s) (i:Nat):bdV 1000 (aft s i):=by
 have:=h.1
 exact h.at (Nat.mod_lt _ (by omega))
theorem OkS.nrm {s:List V3} (h:OkS s):bdV 8000000 (nrmV s):=by
 have h0:=h.1
 have h1:=h.at (i:=0) (by omega)
 have h2:=h.at (i:=1) (by omega)
 have h3:=h.at (i:=2) (by omega)
 exact bdV_le (crsV_bd (subV_bd h2 h1) (subV_bd h3 h2)) (by decide)
theorem OkS.side {s:List V3} (h:OkS s) {i:Nat} (hi:i < s.length):bdV 2000 (sideV s i):=bdV_le (subV_bd (h.aft i) (h.at hi)) (by decide)
def gndV (p:Pt):V3:=⟨p.x,p.y,0⟩
def turnV (s:List V3) (sun:V3) (p:Pt) (i:Nat):Int:=dotV sun (crsV (subV (s.getD i V0) (gndV p)) (subV (aft s i) (gndV p)))
def frontB (s:List V3) (sun:V3) (p:Pt):Bool:=decide (sgn (dotV (nrmV s) sun)≠0) && decide (sgn (dotV (nrmV s) sun)=sgn (dotV (nrmV s) (subV (s.getD 0 V0) (gndV p))))
def turnsL (s:List V3) (sun:V3) (p:Pt):List Int:=rng s.length (turnV s sun p)
def hidB (s:List V3) (sun:V3) (p:Pt):Bool:=frontB s sun p && ((turnsL s sun p).all (fun n=>decide (n≤0)) || (turnsL s sun p).all (fun n=>decide (0≤n)))
def hidng (l:List (List V3)) (sun:V3) (p:Pt) (k:Nat):List Int:=((List.range k).filter fun i=>hidB (l.getD i []) sun p).map fun i:Nat=>(i:Int)
theorem hidng_succ (l:List (List V3)) (sun:V3) (p:Pt) (k:Nat):hidng l sun p (k+1)=hidng l sun p k++if hidB (l.getD k []) sun p then [(k:Int)] else []:=by
 unfold hidng
 rw [List.range_succ,List.filter_append,List.map_append]
 simp only [List.filter_cons,List.filter_nil]
 cases hidB (l.getD k []) sun p<;>rfl
theorem hidng_len (l:List (List V3)) (sun:V3) (p:Pt) (k:Nat):(hidng l sun p k).length≤k:=by
 unfold hidng;rw [List.length_map]
 have:=List.length_filter_le (fun i=>hidB (l.getD i []) sun p) (List.range k)
 rwa [List.length_range] at this
end Sh

namespace Sh
open Go
structure Bx where
 f:Pt
 t:Pt
def B0:Bx:=⟨P0,P0⟩
def sizeB (c:Bx):Int:=(c.t.x - c.f.x) * (c.t.y - c.f.y)
def spanE (c:Bx):Int:=whenE (decide (c.t.x≤c.f.x) || decide (c.t.y≤c.f.y)) 14
def frstB (c:Bx):Int:=firstE [chkSpot c.f,chkSpot c.t,spanE c]
def chkBx (c:Bx):Int:=if frstB c≠0 then frstB c else whenE (decide (256 < sizeB c)) 5
structure OkB (c:Bx):Prop where
 x0 : -1000≤c.f.x
 y0 : -1000≤c.f.y
 x1:c.t.x≤1000
 y1:c.t.y≤1000
 x:c.f.x < c.t.x
 y:c.f.y < c.t.y
theorem frstB_zero {c:Bx} (h:frstB c=0):OkB c:=by
 unfold frstB spanE at h
 obtain ⟨h1,h⟩:=firstE_cons h
 obtain ⟨h2,h⟩:=firstE_cons h
 obtain ⟨h3,h⟩:=firstE_cons h
 have h1:=chkSpot_zero h1
 have h2:=chkSpot_zero h2
 have h3:=whenE_zero h3 (by decide)
 simp only [Bool.or_eq_false_iff,decide_eq_false_iff_not] at h3
 exact ⟨h1.1.1,h1.2.1,h2.1.2,h2.2.2,by omega,by omega⟩
theorem chkBx_zero {c:Bx} (h:chkBx c=0):OkB c∧sizeB c≤256:=by
 unfold chkBx at h
 split at h
 ·exact absurd h ‹_›
 ·rename_i h1
  refine ⟨frstB_zero (Classical.not_not.1 h1),?_⟩
  have:=of_decide_eq_false (whenE_zero h (by decide))
  omega
theorem OkB.size {c:Bx} (h:OkB c):1≤sizeB c∧sizeB c≤4000000:=by
 obtain ⟨a,b,d,e,f,g⟩:=h
 unfold sizeB
 have h1:1 * 1≤(c.t.x - c.f.x) * (c.t.y - c.f.y):=Int.mul_le_mul (by omega) (by omega) (by omega) (by omega)
 have h2:(c.t.x - c.f.x) * (c.t.y - c.f.y)≤2000 * 2000:=Int.mul_le_mul (by omega) (by omega) (by omega) (by omega)
 omega
def wB (c:Bx):Nat:=(c.t.x - c.f.x).toNat
def hB (c:Bx):Nat:=(c.t.y - c.f.y).toNat
def spotB (c:Bx) (j i:Nat):Pt:=⟨c.f.x+i,c.f.y+j⟩
def rowB (c:Bx) (j i:Nat):List Pt:=(List.range' i (wB c - i)).map (spotB c j)
def restB (c:Bx) (j:Nat):List Pt:=(List.range' j (hB c - j)).flatMap fun j=>rowB c j 0
def spotsL (c:Bx):List Pt:=restB c 0
theorem rowB_cons {c:Bx} {j i:Nat} (h:i < wB c):rowB c j i=spotB c j i :: rowB c j (i+1):=by
 unfold rowB
 rw [show wB c - i=(wB c - (i+1))+1 by omega,List.range'_succ,List.map_cons]
theorem rowB_nil {c:Bx} {j i:Nat} (h:wB c≤i):rowB c j i=[]:=by
 unfold rowB;rw [show wB c - i=0 by omega];rfl
theorem restB_cons {c:Bx} {j:Nat} (h:j < hB c):restB c j=rowB c j 0++restB c (j+1):=by
 unfold restB
 rw [show hB c - j=(hB c - (j+1))+1 by omega,List.range'_succ,List.flatMap_cons]
theorem restB_nil {c:Bx} {j:Nat} (h:hB c≤j):restB c j=[]:=by
 unfold restB;rw [show hB c - j=0 by omega];rfl
theorem rowB_len (c:Bx) (j i:Nat):(rowB c j i).length=wB c - i:=by simp [rowB]
theorem restB_len (c:Bx):∀ n j,hB c - j=n→(restB c j).length=n * wB c
 |0,j,h=>by rw [restB_nil (by omega)];simp
 |n+1,j,h=>by
  rw [restB_cons (by omega),List.length_append,rowB_len,restB_len c n (j+1) (by omega),Nat.succ_mul]
  omega
theorem spotsL_len {c:Bx} (h:OkB c):((spotsL c).length:Int)=sizeB c:=by
 unfold spotsL
 rw [restB_len c (hB c) 0 (by omega)]
 unfold hB wB sizeB
 have:=h.x
 have:=h.y
 rw [Int.natCast_mul,Int.toNat_of_nonneg (by omega),Int.toNat_of_nonneg (by omega),Int.mul_comm]
theorem mem_spots {c:Bx} {p:Pt} (h:p ∈ spotsL c):(c.f.x≤p.x∧p.x < c.t.x)∧(c.f.y≤p.y∧p.y < c.t.y):=by
 unfold spotsL restB rowB at h
 simp only [List.mem_flatMap,List.mem_map,List.mem_range'_1] at h
 obtain ⟨j,hj,i,hi,rfl⟩:=h
 unfold wB at hi
 unfold hB at hj
 unfold spotB
 simp only
 omega
theorem OkB.spot {c:Bx} (h:OkB c) {p:Pt} (hp:p ∈ spotsL c):(-1000≤p.x∧p.x≤1000)∧(-1000≤p.y∧p.y≤1000):=by
 have:=mem_spots hp
 have:=h.x0;have:=h.x1;have:=h.y0;have:=h.y1
 omega
def anyHid (l:List (List V3)) (sun:V3) (p:Pt):Bool:=l.any fun s=>hidB s sun p
def litL (l:List (List V3)) (sun:V3) (ps:List Pt):List Pt:=ps.filter fun p=>!anyHid l sun p
def lightS (l:List (List V3)) (sun:V3) (c:Bx):Int:=(litL l sun (spotsL c)).length
def shdL (s:List V3) (sun:V3) (ps:List Pt):List Pt:=ps.filter fun p=>hidB s sun p
def cutI (l:List (List V3)) (sun:V3) (i:Nat) (ps:List Pt):List Pt:=ps.filter fun p=>!anyHid (l.take i) sun p && hidB (l.getD i []) sun p
def cutS (l:List (List V3)) (sun:V3) (c:Bx):List Int:=rng l.length fun i=>((cutI l sun i (spotsL c)).length:Int)
end Sh

namespace Sh
open Go
def gcdI (a b:Int):Int:=(Int.gcd a b:Nat)
def lowR (n d:Int):Int×Int:=(n.tdiv (gcdI n d),d.tdiv (gcdI n d))
theorem gcdI_pos {n d:Int} (h:0 < d):1≤gcdI n d∧gcdI n d≤d:=by
 unfold gcdI
 have h1:0 < Int.gcd n d:=Int.gcd_pos_of_ne_zero_right n (by omega)
 have h2:((Int.gcd n d:Nat):Int) ∣ d:=Int.gcd_dvd_right n d
 have:=Int.le_of_dvd h h2
 omega
theorem gcd_step {a b:Nat} (h:b≠0):Nat.gcd b (a % b)=Nat.gcd a b:=by
 rw [Nat.gcd_comm a b,Nat.gcd_rec b a,Nat.gcd_comm]
def absI (n:Int):Int:=if -n > n then -n else n
theorem absI_eq (n:Int):absI n=(n.natAbs:Int):=by unfold absI;split<;>omega
def castX (v sun:V3):Int:=v.x * sun.z - v.z * sun.x
def castY (v sun:V3):Int:=v.y * sun.z - v.z * sun.y
theorem castX_bd {v sun:V3} (hv:bdV 1000 v) (hs:bdV 1000 sun) : -2000000≤castX v sun∧castX v sun≤2000000:=by
 have h1:=mul_bd hv.1.1 hv.1.2 hs.2.2.1 hs.2.2.2
 have h2:=mul_bd hv.2.2.1 hv.2.2.2 hs.1.1 hs.1.2
 unfold castX;omega
theorem castY_bd {v sun:V3} (hv:bdV 1000 v) (hs:bdV 1000 sun) : -2000000≤castY v sun∧castY v sun≤2000000:=by
 have h1:=mul_bd hv.2.1.1 hv.2.1.2 hs.2.2.1 hs.2.2.2
 have h2:=mul_bd hv.2.2.1 hv.2.2.2 hs.2.1.1 hs.2.1.2
 unfold castY;omega
def cornR (v sun:V3):(Int×Int)×(Int×Int):=(lowR (castX v sun) sun.z,lowR (castY v sun) sun.z)
def areaT (s:List V3) (sun:V3) (i:Nat):Int:=castX (s.getD i V0) sun * castY (aft s i) sun - castX (aft s i) sun * castY (s.getD i V0) sun
def areaI (s:List V3) (sun:V3) (k:Nat):Int:=sumI (rng k (areaT s sun))
def areaR (s:List V3) (sun:V3):Int×Int:=lowR (absI (areaI s sun s.length)) (2 * sun.z * sun.z)
theorem areaI_succ (s:List V3) (sun:V3) (k:Nat):areaI s sun (k+1)=areaI s sun k+areaT s sun k:=by
 unfold areaI;rw [rng_succ,sumI_append,sumI_one]
theorem areaT_bd {s:List V3} (h:OkS s) {sun:V3} (hs:bdV 1000 sun) {i:Nat} (hi:i < s.length) : -8000000000000≤areaT s sun i∧areaT s sun i≤8000000000000:=by
 have a:=castX_bd (h.at hi) hs
 have b:=castY_bd (h.aft i) hs
 have c:=castX_bd (h.aft i) hs
 have d:=castY_bd (h.at hi) hs
 have h1:=mul_bd a.1 a.2 b.1 b.2
 have h2:=mul_bd c.1 c.2 d.1 d.2
 unfold areaT;omega
theorem areaI_bd {s:List V3} (h:OkS s) {sun:V3} (hs:bdV 1000 sun):∀ {k:Nat},k≤s.length → -48000000000000≤areaI s sun k∧areaI s sun k≤48000000000000:=by
 have key:∀ k:Nat,k≤s.length → -(k * 8000000000000:Int)≤areaI s sun k∧areaI s sun k≤k * 8000000000000:=by
  intro k
  induction k with
  |zero=>intro _;simp [areaI,rng,sumI]
  |succ k ih =>
   intro hk
   have ih:=ih (by omega)
   have:=areaT_bd h hs (i:=k) (by omega)
   rw [areaI_succ]
   omega
 intro k hk
 have:=key k hk
 have:=h.2.1
 omega
def acr (p:Pt) (sun:V3):Int:=p.x * sun.z - p.y * sun.y
def chkTilt (p:Pt):Int:=firstE [withE p.x 1 100,withE p.y (-100) 100]
def chkPitch (p:Pt):Int:=firstE [withE p.x 1 1000,withE p.y (-1000) 1000]
def samePt (a b:Pt):Bool:=decide (a.x=b.x) && decide (a.y=b.y)
def tiltI (l:List Pt) (i:Nat):Int:=firstE [chkTilt (l.getD i P0),whenE ((l.take i).any fun p=>samePt p (l.getD i P0)) 9]
def sizeT_ (l:List Pt):Int:=firstE [whenE (decide ((l.length:Int)=0)) 12,whenE (decide (16 < (l.length:Int))) 5]
def chkTilts (l:List Pt):Int:=if sizeT_ l≠0 then sizeT_ l else firstE (rng l.length (tiltI l))
theorem rng_mem {α:Type} {m i:Nat} (f:Nat→α) (h:i < m):f i ∈ rng m f:=by
 unfold rng;exact List.mem_map_of_mem (List.mem_range.2 h)
theorem chkTilts_zero {l:List Pt} (h:chkTilts l=0):1≤l.length∧l.length≤16∧∀ p ∈ l,chkTilt p=0:=by
 unfold chkTilts at h
 split at h
 ·exact absurd h ‹_›
 ·rename_i h1
  have h1:=Classical.not_not.1 h1
  unfold sizeT_ at h1
  obtain ⟨a,h1⟩:=firstE_cons h1
  obtain ⟨b,_⟩:=firstE_cons h1
  have a:=of_decide_eq_false (whenE_zero a (by decide))
  have b:=of_decide_eq_false (whenE_zero b (by decide))
  refine ⟨by omega,by omega,fun p hp=>?_⟩
  obtain ⟨i,hi,rfl⟩:=List.mem_iff_getElem.1 hp
  have:=firstE_mem h _ (rng_mem (tiltI l) hi)
  have:=(firstE_cons this).1
  rwa [show l.getD i P0=l[i] by simp [List.getD_eq_getElem?_getD,hi]] at this
theorem acr_bd {p:Pt} (hx : -1000≤p.x∧p.x≤1000) (hy : -1000≤p.y∧p.y≤1000) {sun:V3} (hs:bdV 1000 sun) : -2000000≤acr p sun∧acr p sun≤2000000:=by
 have h1:=mul_bd hx.1 hx.2 hs.2.2.1 hs.2.2.2
 have h2:=mul_bd hy.1 hy.2 hs.2.1.1 hs.2.1.2
 unfold acr;omega
def roomI (p:Pt) (sun:V3):Int:=absI (acr p sun)
def widI (t:Pt) (sun:V3):Int:=2 * absI (acr t sun)
def freeB (t p:Pt) (sun:V3):Bool:=decide (widI t sun≤roomI p sun)
def shdR (t p:Pt) (sun:V3):Int×Int:=if freeB t p sun then (0,1) else lowR (widI t sun - roomI p sun) (widI t sun)
def rulB (l:List Pt) (p:Pt) (sun:V3):Nat→Int
 |0 => -1
 |k+1=>if freeB (l.getD k P0) p sun && (decide (rulB l p sun k < 0) || decide (acr (l.getD (rulB l p sun k).toNat P0) sun < acr (l.getD k P0) sun)) then (k:Int) else rulB l p sun k
theorem rulB_bd (l:List Pt) (p:Pt) (sun:V3):∀ k:Nat,-1≤rulB l p sun k∧rulB l p sun k < k
 |0=>by simp [rulB]
 |k+1=>by
  have:=rulB_bd l p sun k
  unfold rulB
  split<;>omega
def ruleS (l:List Pt) (p:Pt) (sun:V3):Int:=rulB l p sun l.length
end Sh

namespace Sh
open Go
end Sh

namespace Sh
open Go
end Sh

namespace Sh
open Go
def sI (s:List V3) (i:Nat):V3:=s.getD (i % s.length) V0
theorem aft_sI (s:List V3) (i:Nat):aft s i=sI s (i+1):=rfl
theorem getD_sI {s:List V3} {i:Nat} (h:i < s.length):s.getD i V0=sI s i:=by unfold sI;rw [Nat.mod_eq_of_lt h]
theorem dot_sub (n a b:V3):dotV n (subV a b)=dotV n a - dotV n b:=by unfold dotV subV;grind
structure Flat (n:V3) (s:List V3):Prop where
 len:3≤s.length
 on:∀ i,dotV n (subV (sI s i) (sI s 0))=0
 cv:∀ i,0 < dotV n (crsV (subV (sI s (i+1)) (sI s i)) (subV (sI s (i+2)) (sI s (i+1))))
 all:∀ i,∀ o ∈ s,0≤dotV n (crsV (subV (sI s (i+1)) (sI s i)) (subV o (sI s i)))
theorem sI_mod (s:List V3) (i m:Nat):sI s (i % s.length+m)=sI s (i+m):=by
 unfold sI;rw [Nat.mod_add_mod]
theorem flat_spec {s:List V3} (h3:3≤s.length):flat_ s=true ↔ Flat (nrmV s) s:=by
 have hk:0 < s.length:=by omega
 unfold flat_
 rw [List.all_eq_true]
 have h0:s.getD 0 V0=sI s 0:=getD_sI hk
 constructor
 ·intro h
  have key:∀ i,dotV (nrmV s) (subV (sI s i) (sI s 0))=0∧0 < dotV (nrmV s) (crsV (subV (sI s (i+1)) (sI s i)) (subV (sI s (i+2)) (sI s (i+1))))∧∀ o ∈ s,0≤dotV (nrmV s) (crsV (subV (sI s (i+1)) (sI s i)) (subV o (sI s i))):=by
   intro i
   have hi:=Nat.mod_lt i hk
   have h1:=h (i % s.length) (List.mem_range.2 hi)
   unfold flatI flatA at h1
   rw [Bool.and_eq_true,Bool.and_eq_true,List.all_eq_true] at h1
   obtain ⟨⟨a,b⟩,c⟩:=h1
   have a:=of_decide_eq_true a
   have b:=of_decide_eq_true b
   have e0:s.getD (i % s.length) V0=sI s i:=rfl
   have e1:aft s (i % s.length)=sI s (i+1):=by rw [aft_sI,sI_mod]
   have e2:aft s (i % s.length+1)=sI s (i+2):=by rw [aft_sI,Nat.add_assoc,sI_mod]
   unfold sideV at b
   rw [e0,h0] at a
   rw [e0,e1,e2] at b
   refine ⟨a,b,fun o ho=>?_⟩
   have:=of_decide_eq_true (c o ho)
   unfold sideV at this
   rw [e0,e1] at this
   exact this
  exact ⟨h3,fun i=>(key i).1,fun i=>(key i).2.1,fun i=>(key i).2.2⟩
 ·intro h i hi
  have hi:=List.mem_range.1 hi
  unfold flatI flatA
  rw [Bool.and_eq_true,Bool.and_eq_true,List.all_eq_true]
  refine ⟨⟨decide_eq_true ?_,decide_eq_true ?_⟩,fun o ho=>decide_eq_true ?_⟩
  ·rw [h0,getD_sI hi];exact h.on i
  ·unfold sideV
   rw [aft_sI,aft_sI,getD_sI hi];exact h.cv i
  ·unfold sideV
   rw [aft_sI,getD_sI hi];exact h.all i o ho
def Along (n m:V3) (e:Int):Prop:=∃ a b:Int,0 < a∧0 < b∧∀ z,a * dotV m z=e * (b * dotV n z)
theorem along_sgn {n m:V3} {e:Int} (he:e=1∨e = -1) (h:Along n m e) (z:V3):sgn (dotV m z)=e * sgn (dotV n z):=by
 obtain ⟨a,b,ha,hb,h⟩:=h
 have h:=h z
 generalize dotV m z=x at *
 generalize dotV n z=y at *
 unfold sgn
 have hx:(0 < x ↔ 0 < a * x)∧(x < 0 ↔ a * x < 0):=by
  refine ⟨⟨fun h=>Int.mul_pos ha h,fun h=>?_⟩,⟨fun h=>Int.mul_neg_of_pos_of_neg ha h,fun h=>?_⟩⟩
  ·rcases Int.lt_trichotomy x 0 with k|k|k
   ·have:=Int.mul_neg_of_pos_of_neg ha k;omega
   ·rw [k] at h;simp at h
   ·exact k
  ·rcases Int.lt_trichotomy x 0 with k|k|k
   ·exact k
   ·rw [k] at h;simp at h
   ·have:=Int.mul_pos ha k;omega
 have hy:(0 < y ↔ 0 < b * y)∧(y < 0 ↔ b * y < 0):=by
  refine ⟨⟨fun h=>Int.mul_pos hb h,fun h=>?_⟩,⟨fun h=>Int.mul_neg_of_pos_of_neg hb h,fun h=>?_⟩⟩
  ·rcases Int.lt_trichotomy y 0 with k|k|k
   ·have:=Int.mul_neg_of_pos_of_neg hb k;omega
   ·rw [k] at h;simp at h
   ·exact k
  ·rcases Int.lt_trichotomy y 0 with k|k|k
   ·exact k
   ·rw [k] at h;simp at h
   ·have:=Int.mul_pos hb k;omega
 generalize a * x=X at *
 generalize b * y=Y at *
 rcases he with rfl|rfl<;>(split<;>split<;>(try split)<;>omega)
theorem along_pos {n m:V3} {e:Int} (he:e=1∨e = -1) (h:Along n m e) (z:V3):(0 < dotV m z ↔ 0 < e * dotV n z)∧(0≤dotV m z ↔ 0≤e * dotV n z)∧(dotV m z=0 ↔ dotV n z=0):=by
 have:=along_sgn he h z
 unfold sgn at this
 generalize dotV m z=x at *
 generalize dotV n z=y at *
 rcases he with rfl|rfl<;>(split at this<;>split at this<;>(try split at this)<;>(try split at this)<;>omega)
end Sh

namespace Sh
open Go
theorem v3_ext {a b:V3} (h1:a.x=b.x) (h2:a.y=b.y) (h3:a.z=b.z):a=b:=by cases a;cases b;simp_all
theorem Flat.step {n:V3} {s:List V3} (h:Flat n s) (i j:Nat):dotV n (subV (sI s i) (sI s j))=0:=by
 have h1:=h.on i
 have h2:=h.on j
 rw [dot_sub] at *
 omega
theorem Flat.to {n m:V3} {s:List V3} (h:Flat n s) (k:Along n m 1):Flat m s:=by
 have hp:=fun z=>along_pos (.inl rfl) k z
 refine ⟨h.len,fun i=>(hp _).2.2.2 (h.on i),fun i=>(hp _).1.2 ?_,fun i o ho=>(hp _).2.1.2 ?_⟩
 ·rw [Int.one_mul];exact h.cv i
 ·rw [Int.one_mul];exact h.all i o ho
theorem bool_iff {a b:Bool} (h:a=true ↔ b=true):a=b:=by cases a<;>cases b<;>simp_all
theorem nrm_sI {s:List V3} (h:3≤s.length):nrmV s=crsV (subV (sI s 1) (sI s 0)) (subV (sI s 2) (sI s 1)):=by
 unfold nrmV
 rw [getD_sI (by omega:0 < s.length),getD_sI (by omega:1 < s.length),getD_sI (by omega:2 < s.length)]
end Sh

namespace Sh
open Go
def addV (a b:V3):V3:=⟨a.x+b.x,a.y+b.y,a.z+b.z⟩
def movS (s:List V3) (d:V3):List V3:=s.map fun v=>addV v d
def corOk (s:List V3):Bool:=s.all fun v=>decide (chkCor v=0)
def movR (s:List V3) (d:V3):List V3×Int:=if corOk (movS s d) then (movS s d,0) else ([],4)
theorem movS_len (s:List V3) (d:V3):(movS s d).length=s.length:=List.length_map _
theorem mov_sI {s:List V3} (hk:0 < s.length) (d:V3) (i:Nat):sI (movS s d) i=addV (sI s i) d:=by
 unfold sI
 rw [movS_len]
 have:=Nat.mod_lt i hk
 simp [movS,List.getD_eq_getElem?_getD,this]
theorem sub_add (a b d:V3):subV (addV a d) (addV b d)=subV a b:=by unfold subV addV;refine v3_ext ?_ ?_ ?_<;>(simp only;omega)
theorem mov_nrm {s:List V3} (h:3≤s.length) (d:V3):nrmV (movS s d)=nrmV s:=by
 rw [nrm_sI (by rw [movS_len];exact h),nrm_sI h]
 simp only [mov_sI (by omega:0 < s.length),sub_add]
theorem mov_flat {s:List V3} (h:3≤s.length) (d:V3):flat_ (movS s d)=flat_ s:=by
 refine bool_iff ?_
 rw [flat_spec (by rw [movS_len];exact h),flat_spec h,mov_nrm h]
 constructor
 ·intro k
  refine ⟨h,fun i=>?_,fun i=>?_,fun i o ho=>?_⟩
  ·have:=k.on i;simpa only [mov_sI (by omega:0 < s.length),sub_add] using this
  ·have:=k.cv i;simpa only [mov_sI (by omega:0 < s.length),sub_add] using this
  ·have:=k.all i (addV o d) (List.mem_map_of_mem ho);simpa only [mov_sI (by omega:0 < s.length),sub_add] using this
 ·intro k
  refine ⟨by rw [movS_len];exact h,fun i=>?_,fun i=>?_,fun i o ho=>?_⟩
  ·have:=k.on i;simpa only [mov_sI (by omega:0 < s.length),sub_add] using this
  ·have:=k.cv i;simpa only [mov_sI (by omega:0 < s.length),sub_add] using this
  ·obtain ⟨v,hv,rfl⟩:=List.mem_map.1 ho
   have:=k.all i v hv;simpa only [mov_sI (by omega:0 < s.length),sub_add] using this
theorem sizeS_of {s:List V3} (h3:3≤s.length) (h6:s.length≤6):sizeS s=firstE (s.map chkCor):=by
 unfold sizeS whenE
 rw [decide_eq_false (by omega),decide_eq_false (by omega)]
 show firstE [0,0,firstE (s.map chkCor)]=_
 simp [firstE]
 intro h;exact h.symm
theorem corOk_iff {s:List V3}:corOk s=true ↔ firstE (s.map chkCor)=0:=by
 unfold corOk
 rw [List.all_eq_true]
 constructor
 ·intro h
  exact firstE_zeros fun x hx=>by
   obtain ⟨v,hv,rfl⟩:=List.mem_map.1 hx
   exact of_decide_eq_true (h v hv)
 ·intro h v hv
  exact decide_eq_true (firstE_mem h _ (List.mem_map_of_mem hv))
theorem mov_chk {s:List V3} (h:chkShp s=0) (d:V3):chkShp (movS s d)=0 ↔ corOk (movS s d)=true:=by
 have hs:=chkShp_zero h
 have hf:=(chkShp_size h).2
 have hz:=sizeS_of (s:=movS s d) (by rw [movS_len];exact hs.1) (by rw [movS_len];exact hs.2.1)
 rw [corOk_iff]
 unfold chkShp
 rw [hz,mov_flat hs.1,hf]
 by_cases e:firstE ((movS s d).map chkCor)=0
 ·rw [e];simp [whenE]
 ·rw [if_pos e]
end Sh

namespace Sh
open Go Go.Proofs
def encPt (p:Pt):DV:=.agg [DV.int .i64 (p.x),DV.int .i64 (p.y)]
def encV (v:V3):DV:=.agg [DV.int .i64 (v.x),DV.int .i64 (v.y),DV.int .i64 (v.z)]
def shp (s:List V3):DV:=.list (s.map encV)
def shps (l:List (List V3)):DV:=.list (l.map shp)
def pts (l:List Pt):DV:=.list (l.map encPt)
def encR (r:Int×Int):DV:=.agg [DV.int .i64 (r.1),DV.int .i64 (r.2)]
abbrev G9:Int:=1000000000
theorem int3_eq {a b c a' b' c':Int} (h1:a=a') (h2:b=b') (h3:c=c'):DV.agg [DV.int .i64 (a),DV.int .i64 (b),DV.int .i64 (c)]=.agg [DV.int .i64 (a'),DV.int .i64 (b'),DV.int .i64 (c')]:=by rw [h1,h2,h3]
theorem sub_w {a b:Int} (h1 : -G9≤a∧a≤G9) (h2 : -G9≤b∧b≤G9):IntKind.i64.wrap (a - b)=a - b:=W_in (by unfold G9 at *;omega) (by unfold G9 at *;omega)
theorem mul_w {a b:Int} (h1 : -G9≤a∧a≤G9) (h2 : -G9≤b∧b≤G9):IntKind.i64.wrap (a * b)=a * b ∧ -1000000000000000000≤a * b∧a * b≤1000000000000000000:=by
 have h:=mul_bd h1.1 h1.2 h2.1 h2.2
 have e:G9 * G9=1000000000000000000:=rfl
 rw [e] at h
 exact ⟨W_in (by omega) (by omega),by omega,by omega⟩
theorem c_less (a b:V3) (ha:bdV G9 a) (hb:bdV G9 b):PC 147 [encV a,encV b] (encV (subV a b)):=by
 have e1:=sub_w ha.1 hb.1
 have e2:=sub_w ha.2.1 hb.2.1
 have e3:=sub_w ha.2.2 hb.2.2
 refine pureCall_ofR dh147 rfl ?_
 conv=>whnf
 repeat' (first
  |(refine ⟨fun hg=>?_,fun hg=>?_⟩<;>first|contradiction|(conv=>whnf))
  |(refine Or.inl ?_;conv=>whnf)
  |(refine And.intro ?_ ?_;kernel_rfl;conv=>whnf))
 exact int3_eq e1 e2 e3
theorem dot_w {a b:V3} (ha:bdV G9 a) (hb:bdV G9 b):IntKind.i64.wrap (IntKind.i64.wrap (IntKind.i64.wrap (a.x * b.x)+IntKind.i64.wrap (a.y * b.y))+IntKind.i64.wrap (a.z * b.z))=dotV a b:=by
 have m1:=mul_w ha.1 hb.1
 have m2:=mul_w ha.2.1 hb.2.1
 have m3:=mul_w ha.2.2 hb.2.2
 rw [m1.1,m2.1,m3.1]
 have w1:IntKind.i64.wrap (a.x * b.x+a.y * b.y)=a.x * b.x+a.y * b.y:=W_in (by omega) (by omega)
 rw [w1]
 exact W_in (by omega) (by omega)
theorem c_dot (a b:V3) (ha:bdV G9 a) (hb:bdV G9 b):PC 146 [encV a,encV b] (DV.int .i64 (dotV a b)):=by
 refine pureCall_ofR dh146 rfl ?_
 conv=>whnf
 repeat' (first
  |(refine ⟨fun hg=>?_,fun hg=>?_⟩<;>first|contradiction|(conv=>whnf))
  |(refine Or.inl ?_;conv=>whnf)
  |(refine And.intro ?_ ?_;kernel_rfl;conv=>whnf))
 exact int_eq (dot_w ha hb)
theorem crs_w {a b c d:Int} (ha : -G9≤a∧a≤G9) (hb : -G9≤b∧b≤G9) (hc : -G9≤c∧c≤G9) (hd : -G9≤d∧d≤G9):IntKind.i64.wrap (IntKind.i64.wrap (a * b) - IntKind.i64.wrap (c * d))=a * b - c * d:=by
 have m1:=mul_w ha hb
 have m2:=mul_w hc hd
 rw [m1.1,m2.1]
 exact W_in (by omega) (by omega)
theorem c_cross (a b:V3) (ha:bdV G9 a) (hb:bdV G9 b):PC 148 [encV a,encV b] (encV (crsV a b)):=by
 refine pureCall_ofR dh148 rfl ?_
 conv=>whnf
 repeat' (first
  |(refine ⟨fun hg=>?_,fun hg=>?_⟩<;>first|contradiction|(conv=>whnf))
  |(refine Or.inl ?_;conv=>whnf)
  |(refine And.intro ?_ ?_;kernel_rfl;conv=>whnf))
 exact int3_eq (crs_w ha.2.1 hb.2.2 ha.2.2 hb.2.1) (crs_w ha.2.2 hb.1 ha.1 hb.2.2) (crs_w ha.1 hb.2.1 ha.2.1 hb.1)
theorem c_sign (n:Int):PC 145 [DV.int .i64 (n)] (DV.int .i64 (sgn n)):=by
 refine pureCall_ofR dh145 rfl ?_
 conv=>whnf
 repeat' (first
  |(refine ⟨fun hg=>?_,fun hg=>?_⟩<;>first|contradiction|(conv=>whnf))
  |(refine Or.inl ?_;conv=>whnf)
  |(refine And.intro ?_ ?_;kernel_rfl;conv=>whnf))
 all_goals (refine int_eq ?_;unfold sgn;simp only [decide_eq_true_eq,decide_eq_false_iff_not,Bool.not_true,Bool.not_false] at *;grind)
theorem c_checkParts (v:V3) (m:Int) (hm:0≤m∧m≤1000000):PC 121 [encV v,DV.int .i64 (m)] (DV.int .i64 (firstE [withE v.x (-m) m,withE v.y (-m) m,withE v.z (-m) m])):=by
 have e:IntKind.i64.wrap (-m) = -m:=W_in (by omega) (by omega)
 refine pureCall_ofR dh121 rfl ?_
 conv=>whnf
 repeat' (first
  |(refine ⟨fun hg=>?_,fun hg=>?_⟩<;>first|contradiction|(conv=>whnf))
  |(refine Or.inl ?_;conv=>whnf)
  |(rw [e];refine ⟨_,c_within ..,?_⟩;conv=>whnf)
  |(refine ⟨_,c_within ..,?_⟩;conv=>whnf)
  |(refine ⟨_,c_first [_,_,_] (by simp),?_⟩;conv=>whnf)
  |(refine And.intro ?_ ?_;kernel_rfl;conv=>whnf))
 rfl
theorem c_CheckSun (v:V3):PC 27 [encV v] (DV.int .i64 (chkSun v)):=by
 refine pureCall_ofR dh27 rfl ?_
 conv=>whnf
 repeat' (first
  |(refine ⟨fun hg=>?_,fun hg=>?_⟩<;>first|contradiction|(conv=>whnf))
  |(refine Or.inl ?_;conv=>whnf)
  |(refine ⟨_,c_within ..,?_⟩;conv=>whnf)
  |(refine ⟨_,c_first [_,_,_] (by simp),?_⟩;conv=>whnf)
  |(refine And.intro ?_ ?_;kernel_rfl;conv=>whnf))
 rfl
theorem c_checkCorner (v:V3):PC 106 [encV v] (DV.int .i64 (chkCor v)):=by
 refine pureCall_ofR dh106 rfl ?_
 conv=>whnf
 repeat' (first
  |(refine ⟨fun hg=>?_,fun hg=>?_⟩<;>first|contradiction|(conv=>whnf))
  |(refine Or.inl ?_;conv=>whnf)
  |(refine ⟨_,c_within ..,?_⟩;conv=>whnf)
  |(refine ⟨_,c_first [_,_,_] (by simp),?_⟩;conv=>whnf)
  |(refine And.intro ?_ ?_;kernel_rfl;conv=>whnf))
 rfl
theorem c_checkSpot (p:Pt):PC 90 [encPt p] (DV.int .i64 (chkSpot p)):=by
 refine pureCall_ofR dh90 rfl ?_
 conv=>whnf
 repeat' (first
  |(refine ⟨fun hg=>?_,fun hg=>?_⟩<;>first|contradiction|(conv=>whnf))
  |(refine Or.inl ?_;conv=>whnf)
  |(refine ⟨_,c_within ..,?_⟩;conv=>whnf)
  |(refine ⟨_,c_first [_,_] (by simp),?_⟩;conv=>whnf)
  |(refine And.intro ?_ ?_;kernel_rfl;conv=>whnf))
 rfl
theorem c_checkTilt (p:Pt):PC 122 [encPt p] (DV.int .i64 (chkTilt p)):=by
 refine pureCall_ofR dh122 rfl ?_
 conv=>whnf
 repeat' (first
  |(refine ⟨fun hg=>?_,fun hg=>?_⟩<;>first|contradiction|(conv=>whnf))
  |(refine Or.inl ?_;conv=>whnf)
  |(refine ⟨_,c_within ..,?_⟩;conv=>whnf)
  |(refine ⟨_,c_first [_,_] (by simp),?_⟩;conv=>whnf)
  |(refine And.intro ?_ ?_;kernel_rfl;conv=>whnf))
 rfl
theorem c_checkPitch (p:Pt):PC 124 [encPt p] (DV.int .i64 (chkPitch p)):=by
 refine pureCall_ofR dh124 rfl ?_
 conv=>whnf
 repeat' (first
  |(refine ⟨fun hg=>?_,fun hg=>?_⟩<;>first|contradiction|(conv=>whnf))
  |(refine Or.inl ?_;conv=>whnf)
  |(refine ⟨_,c_within ..,?_⟩;conv=>whnf)
  |(refine ⟨_,c_first [_,_] (by simp),?_⟩;conv=>whnf)
  |(refine And.intro ?_ ?_;kernel_rfl;conv=>whnf))
 rfl
end Sh

namespace Sh
open Go Go.Proofs
theorem bd9 {n:Int} {v:V3} (h:bdV n v) (hn:n≤G9):bdV G9 v:=bdV_le h hn
theorem c_normal (s:List V3) (h:OkS s):PC 144 [shp s] (encV (nrmV s)):=by
 have h3:=h.1
 have b0:=h.at (i:=0) (by omega)
 have b1:=h.at (i:=1) (by omega)
 have b2:=h.at (i:=2) (by omega)
 have k1:=c_less (s.getD 1 V0) (s.getD 0 V0) (bd9 b1 (by decide)) (bd9 b0 (by decide))
 have k2:=c_less (s.getD 2 V0) (s.getD 1 V0) (bd9 b2 (by decide)) (bd9 b1 (by decide))
 have k3:=c_cross _ _ (bd9 (subV_bd b1 b0) (by decide)) (bd9 (subV_bd b2 b1) (by decide))
 refine pureCall_ofR dh144 rfl ?_
 conv=>whnf
 repeat' (first
  |(refine ⟨fun hg=>?_,fun hg=>?_⟩<;>first|contradiction|(conv=>whnf))
  |(refine Or.inl ?_;conv=>whnf)
  |(rw [getD_enc' _ _ 0 V0 (by decide) (by omega)];refine ⟨idxB (by decide) (by omega) rfl,?_⟩;conv=>whnf)
  |(rw [getD_enc' _ _ 1 V0 (by decide) (by omega)];refine ⟨idxB (by decide) (by omega) rfl,?_⟩;conv=>whnf)
  |(rw [getD_enc' _ _ 2 V0 (by decide) (by omega)];refine ⟨idxB (by decide) (by omega) rfl,?_⟩;conv=>whnf)
  |(refine ⟨_,k1,?_⟩;conv=>whnf)
  |(refine ⟨_,k2,?_⟩;conv=>whnf)
  |(refine ⟨_,k3,?_⟩;conv=>whnf)
  |(refine And.intro ?_ ?_;kernel_rfl;conv=>whnf))
 rfl
theorem mod_w (i k n:Nat) (hn:0 < n) (hi:i+k < 1073741824):(IntKind.i64.wrap ((i:Int)+(k:Int))).tmod (n:Int)=(((i+k) % n:Nat):Int):=by
 rw [show IntKind.i64.wrap ((i:Int)+(k:Int))=((i+k:Nat):Int) from W_in (by omega) (by omega)]
 rw [Int.tmod_eq_emod_of_nonneg (by omega)];omega
theorem mod_w1 (i n:Nat) (hn:0 < n) (hi:i < 1000000000):(IntKind.i64.wrap ((i:Int)+1)).tmod (n:Int)=(((i+1) % n:Nat):Int):=mod_w i 1 n hn (by omega)
theorem c_after (s:List V3) (h:0 < s.length) (i:Nat) (hi:i < 1000000000):PC 120 [shp s,DV.int .i64 (i)] (encV (aft s i)):=by
 have e0:((s.map encV).length:Int)=s.length:=by simp
 have hm:=Nat.mod_lt (i+1) h
 refine pureCall_ofR dh120 rfl ?_
 conv=>whnf
 rw [e0]
 refine ⟨by omega,?_⟩
 conv=>whnf
 rw [mod_w1 i _ h hi]
 rw [getD_enc _ _ ((i+1) % s.length) V0 hm]
 refine ⟨idxA hm rfl,?_⟩
 conv=>whnf
 repeat' (first
  |(refine ⟨fun hg=>?_,fun hg=>?_⟩<;>first|contradiction|(conv=>whnf))
  |(refine Or.inl ?_;conv=>whnf)
  |(refine And.intro ?_ ?_;kernel_rfl;conv=>whnf))
 rfl
theorem c_isFlat (s:List V3) (h:OkS s):PC 107 [shp s] (.bool (flat_ s)):=by
 have e0:((s.map encV).length:Int)=s.length:=by simp
 have h3:=h.1
 have h6:=h.2.1
 have b0:=h.at (i:=0) (by omega)
 have hn:=h.nrm
 refine pureCall_ofR dh107 rfl ?_
 conv=>whnf
 repeat' (first
  |(refine ⟨fun hg=>?_,fun hg=>?_⟩<;>first|contradiction|(conv=>whnf))
  |(refine Or.inl ?_;conv=>whnf)
  |(refine ⟨_,c_normal _ h,?_⟩;conv=>whnf)
  |(refine And.intro ?_ ?_;kernel_rfl;conv=>whnf))
 refine dwp_loopU (P:=Tryz.prog) (G:=GC) (k:=dk107_1) (b:=db107_1) (α:=Nat) (fun i=>[(14,DV.int .i64 (i))]) (fun _=>[(3,.box 3 (encV (nrmV s)))]) (fun i=>i≤s.length∧(List.range i).all (flatI s)=true) (fun i=>s.length - i) 0 ⟨Nat.zero_le _,rfl⟩ ?_
 conv=>whnf
 refine ⟨rfl,rfl,?_⟩
 conv=>whnf
 refine ⟨rfl,?_⟩
 intro i ⟨h1,h2⟩
 conv=>whnf
 refine ⟨fun hb=>?_,fun hb=>?_⟩
 ·have hi:i < s.length:=by simpa using hb
  have bi:=h.at hi
  have bs:=h.side hi
  have bx:=subV_bd (h.aft (i+1)) (h.aft i)
  have k1:=c_after s (by omega) i (by omega)
  have k2:=c_after s (by omega) (i+1) (by omega)
  have k3:=c_less (aft s i) (s.getD i V0) (bd9 (h.aft i) (by decide)) (bd9 bi (by decide))
  have k4:=c_less (aft s (i+1)) (aft s i) (bd9 (h.aft (i+1)) (by decide)) (bd9 (h.aft i) (by decide))
  have k5:=c_less (s.getD i V0) (s.getD 0 V0) (bd9 bi (by decide)) (bd9 b0 (by decide))
  have k6:=c_dot _ _ (bd9 hn (by decide)) (bd9 (subV_bd bi b0) (by decide))
  have k7:=c_cross _ _ (bd9 bs (by decide)) (bd9 bx (by decide))
  have k8:=c_dot _ _ (bd9 hn (by decide)) (bd9 (crsV_bd bs bx) (by decide))
  have hw:=wrap_succ i (by omega)
  have hI:(List.range (i+1)).all (flatI s)=flatI s i:=by rw [List.range_succ,List.all_append,h2];simp
  have hF:flatI s i=false→flat_ s=false:=fun e=>by
   unfold flat_
   rw [List.all_eq_false]
   exact ⟨i,List.mem_range.2 hi,by rw [e];simp⟩
  clear hb
  conv=>whnf
  rw [getD_enc _ _ (i) V0 hi]
  refine ⟨idxA hi rfl,?_⟩
  conv=>whnf
  repeat' (first
   |(refine ⟨fun hg=>?_,fun hg=>?_⟩<;>first|contradiction|(conv=>whnf))
   |(refine Or.inl ?_;conv=>whnf)
   |(refine ⟨_,k1,?_⟩;conv=>whnf)
   |(rw [hw];refine ⟨_,k2,?_⟩;conv=>whnf)
   |(refine ⟨_,k3,?_⟩;conv=>whnf)
   |(refine ⟨_,k4,?_⟩;conv=>whnf)
   |(rw [getD_enc' _ _ 0 V0 (by decide) (by omega)];refine ⟨idxB (by decide) (by omega) rfl,?_⟩;conv=>whnf)
   |(refine ⟨_,k5,?_⟩;conv=>whnf)
   |(refine ⟨_,k6,?_⟩;conv=>whnf)
   |(refine ⟨_,k7,?_⟩;conv=>whnf)
   |(refine ⟨_,k8,?_⟩;conv=>whnf)
   |(refine And.intro ?_ ?_;kernel_rfl;conv=>whnf))
  ·have hg:=of_decide_eq_true (show decide (dotV (nrmV s) (crsV (sideV s i) (subV (aft s (i+1)) (aft s i)))≤0)=true from hg)
   show DV.bool false=DV.bool (flat_ s)
   rw [hF (by unfold flatI flatA;rw [decide_eq_false (by omega:¬ 0 < dotV (nrmV s) (crsV (sideV s i) (subV (aft s (i+1)) (aft s i)))),Bool.and_false,Bool.false_and])]
  ·have hg2:=of_decide_eq_false (show decide (dotV (nrmV s) (crsV (sideV s i) (subV (aft s (i+1)) (aft s i)))≤0)=false from hg)
   have hg1:=of_decide_eq_false ‹decide (dotV (nrmV s) (subV (s.getD i V0) (s.getD 0 V0))≠0)=false›
   have hA:flatA s i=true:=by
    unfold flatA
    rw [decide_eq_true (Classical.not_not.1 hg1),decide_eq_true (by omega)];rfl
   clear hg hg1 hg2
   refine dwp_loopU (P:=Tryz.prog) (G:=GC) (k:=dk107_0) (b:=db107_0) (α:=Nat) (fun j=>[(50,DV.int .i64 (j))]) (fun _=>[(3,.box 3 (encV (nrmV s))),(5,.box 3 (encV (s.getD i V0))),(6,.box 3 (encV (sideV s i))),(7,.box 3 (encV (subV (aft s (i+1)) (aft s i))))]) (fun j=>j≤s.length∧(s.take j).all (flatK s i)=true) (fun j=>s.length - j) 0 ⟨Nat.zero_le _,rfl⟩ ?_
   conv=>whnf
   refine ⟨rfl,rfl,?_⟩
   conv=>whnf
   refine ⟨rfl,?_⟩
   intro j ⟨j1,j2⟩
   conv=>whnf
   refine ⟨fun hb=>?_,fun hb=>?_⟩
   ·have hj:j < s.length:=by simpa using hb
    have bj:=h.at hj
    have k9:=c_less (s.getD j V0) (s.getD i V0) (bd9 bj (by decide)) (bd9 bi (by decide))
    have k10:=c_cross _ _ (bd9 bs (by decide)) (bd9 (subV_bd bj bi) (by decide))
    have k11:=c_dot _ _ (bd9 hn (by decide)) (bd9 (crsV_bd bs (subV_bd bj bi)) (by decide))
    have hJ:(s.take (j+1)).all (flatK s i)=flatK s i (s.getD j V0):=by rw [take_snoc s j V0 hj,List.all_append,j2];simp
    clear hb
    conv=>whnf
    rw [getD_enc _ _ (j) V0 hj]
    refine ⟨idxA hj rfl,?_⟩
    conv=>whnf
    repeat' (first
     |(refine ⟨fun hg=>?_,fun hg=>?_⟩<;>first|contradiction|(conv=>whnf))
     |(refine Or.inl ?_;conv=>whnf)
     |(refine ⟨_,k9,?_⟩;conv=>whnf)
     |(refine ⟨_,k10,?_⟩;conv=>whnf)
     |(refine ⟨_,k11,?_⟩;conv=>whnf)
     |(refine And.intro ?_ ?_;kernel_rfl;conv=>whnf))
    ·have hg:=of_decide_eq_true hg
     show DV.bool false=DV.bool (flat_ s)
     rw [hF (by
      unfold flatI
      have:s.all (flatK s i)=false:=by
       rw [List.all_eq_false]
       exact ⟨_,getD_in V0 hj,by unfold flatK;rw [decide_eq_false (by omega)];simp⟩
      rw [this,Bool.and_false])]
    ·have hg:=of_decide_eq_false hg
     rw [wrap_succ j (by omega)]
     exact ⟨j+1,rfl,rfl,rfl,⟨hj,by rw [hJ];exact decide_eq_true (by omega)⟩,by omega⟩
   ·have hj:j=s.length:=by have:=of_decide_eq_false hb;rw [e0] at this;omega
    rw [hj,List.take_length] at j2
    clear hb
    conv=>whnf
    rw [wrap_succ i (by omega)]
    exact ⟨i+1,rfl,rfl,rfl,⟨hi,by rw [hI];unfold flatI;rw [hA,j2];rfl⟩,by omega⟩
  ·have hg:=of_decide_eq_true (show decide (dotV (nrmV s) (subV (s.getD i V0) (s.getD 0 V0))≠0)=true from ‹decide (dotV (nrmV s) (subV (s.getD i V0) (s.getD 0 V0))≠0)=!false›)
   show DV.bool false=DV.bool (flat_ s)
   rw [hF (by unfold flatI flatA;rw [decide_eq_false hg,Bool.false_and,Bool.false_and])]
 ·have hi:i=s.length:=by have:=of_decide_eq_false hb;rw [e0] at this;omega
  rw [hi] at h2
  clear hb
  conv=>whnf
  show DV.bool true=DV.bool (flat_ s)
  rw [show flat_ s=true from h2]
end Sh

namespace Sh
open Go Go.Proofs
def oI {α:Type} (g:α→Int) (l:List α) (i:Nat):List DV:=(l.take i).map fun c=>DV.int .i64 (g c)
theorem oI_len {α:Type} (g:α→Int) (l:List α) (i:Nat) (h:i≤l.length):(oI g l i).length=i:=by simp [oI];omega
theorem oI_succ {α:Type} (g:α→Int) (l:List α) (i:Nat) (d:α) (h:i < l.length):oI g l (i+1)=oI g l i++[DV.int .i64 (g (l.getD i d))]:=take_map_succ _ l i d h
theorem oI_all {α:Type} (g:α→Int) (l:List α):oI g l l.length=(l.map g).map (DV.int .i64):=by simp [oI]
theorem c_mapV (l:List (V3)) (f:FuncId) (g:V3→Int) (hl:l.length < 1073741824) (hf:∀ c ∈ l,PC f [encV c] (DV.int .i64 (g c))):PC 105 [.list (l.map encV),.func f []] (iL (l.map g)):=by
 have e0:((l.map encV).length:Int)=l.length:=by simp
 refine pureCall_ofR dh105 rfl ?_
 conv=>whnf
 refine dwp_loopU (P:=Tryz.prog) (G:=GC) (k:=dk105_0) (b:=db105_0) (α:=Nat) (fun i=>[(5,.own 5 0 (oI g l i).length (oI g l i).length),(10,DV.int .i64 (i))]) (fun i=>[(5,.row 1 (oI g l i) false)]) (fun i=>i≤l.length) (fun i=>l.length - i) 0 (Nat.zero_le _) ?_
 conv=>whnf
 refine ⟨rfl,rfl,?_⟩
 conv=>whnf
 refine ⟨rfl,?_⟩
 intro i h1
 conv=>whnf
 refine ⟨fun hb=>?_,fun hb=>?_⟩
 ·have hi:i < l.length:=by simpa using hb
  clear hb
  conv=>whnf
  rw [getD_enc _ _ (i) V0 hi]
  refine ⟨idxA hi rfl,?_⟩
  conv=>whnf
  refine .inl ?_
  conv=>whnf
  refine ⟨_,hf _ (getD_in V0 hi),?_⟩
  conv=>whnf
  refine ⟨⟨rfl,rfl,rfl,by rw [oI_len g l i h1];simp;omega,fun e he=>by simp at he;subst he;rfl⟩,?_⟩
  conv=>whnf
  rw [wrap_succ i (by omega)]
  refine ⟨i+1,rfl,?_,?_,hi,by omega⟩
  ·rw [oI_succ g l i V0 hi];rfl
  ·rw [oI_succ g l i V0 hi];rfl
 ·have hi:i=l.length:=by have:=of_decide_eq_false hb;rw [e0] at this;omega
  conv=>whnf
  exact ⟨rfl,by rw [window_full,hi,oI_all];rfl⟩
theorem c_mapS (l:List (List V3)) (f:FuncId) (g:List V3→Int) (hl:l.length < 1073741824) (hf:∀ c ∈ l,PC f [shp c] (DV.int .i64 (g c))):PC 151 [.list (l.map shp),.func f []] (iL (l.map g)):=by
 have e0:((l.map shp).length:Int)=l.length:=by simp
 refine pureCall_ofR dh151 rfl ?_
 conv=>whnf
 refine dwp_loopU (P:=Tryz.prog) (G:=GC) (k:=dk151_0) (b:=db151_0) (α:=Nat) (fun i=>[(5,.own 5 0 (oI g l i).length (oI g l i).length),(10,DV.int .i64 (i))]) (fun i=>[(5,.row 1 (oI g l i) false)]) (fun i=>i≤l.length) (fun i=>l.length - i) 0 (Nat.zero_le _) ?_
 conv=>whnf
 refine ⟨rfl,rfl,?_⟩
 conv=>whnf
 refine ⟨rfl,?_⟩
 intro i h1
 conv=>whnf
 refine ⟨fun hb=>?_,fun hb=>?_⟩
 ·have hi:i < l.length:=by simpa using hb
  clear hb
  conv=>whnf
  rw [getD_enc _ _ (i) [] hi]
  refine ⟨idxA hi rfl,?_⟩
  conv=>whnf
  refine .inl ?_
  conv=>whnf
  refine ⟨_,hf _ (getD_in [] hi),?_⟩
  conv=>whnf
  refine ⟨⟨rfl,rfl,rfl,by rw [oI_len g l i h1];simp;omega,fun e he=>by simp at he;subst he;rfl⟩,?_⟩
  conv=>whnf
  rw [wrap_succ i (by omega)]
  refine ⟨i+1,rfl,?_,?_,hi,by omega⟩
  ·rw [oI_succ g l i [] hi];rfl
  ·rw [oI_succ g l i [] hi];rfl
 ·have hi:i=l.length:=by have:=of_decide_eq_false hb;rw [e0] at this;omega
  conv=>whnf
  exact ⟨rfl,by rw [window_full,hi,oI_all];rfl⟩
theorem c_CheckShape (s:List V3) (hl:s.length < 1073741824):PC 28 [shp s] (DV.int .i64 (chkShp s)):=by
 have e0:((s.map encV).length:Int)=s.length:=by simp
 have kM:=c_mapV s 106 chkCor hl (fun c _=>c_checkCorner c)
 have kF:=c_first (s.map chkCor) (by rw [List.length_map];omega)
 refine pureCall_ofR dh28 rfl ?_
 conv=>whnf
 repeat' (first
  |(refine ⟨fun hg=>?_,fun hg=>?_⟩<;>first|contradiction|(conv=>whnf))
  |(refine Or.inl ?_;conv=>whnf)
  |(refine ⟨_,c_when ..,?_⟩;conv=>whnf)
  |(refine ⟨_,kM ..,?_⟩;conv=>whnf)
  |(refine ⟨_,kF ..,?_⟩;conv=>whnf)
  |(refine ⟨_,c_first [_,_,_] (by simp),?_⟩;conv=>whnf)
  |(refine And.intro ?_ ?_;kernel_rfl;conv=>whnf))
 ·have hg:=of_decide_eq_true hg
  exact int_eq (by unfold chkShp sizeS;rw [← e0,if_pos hg])
 ·have hg:=of_decide_eq_false hg
  have hz:sizeS s=0:=by unfold sizeS;rw [← e0];exact Classical.not_not.1 hg
  repeat' (first
   |(refine ⟨fun hg=>?_,fun hg=>?_⟩<;>first|contradiction|(conv=>whnf))
   |(refine Or.inl ?_;conv=>whnf)
   |(refine ⟨_,c_isFlat s (sizeS_zero hz),?_⟩;conv=>whnf)
   |(refine ⟨_,c_when ..,?_⟩;conv=>whnf)
   |(refine And.intro ?_ ?_;kernel_rfl;conv=>whnf))
  exact int_eq (by unfold chkShp;rw [if_neg (by omega)])
theorem c_checkShapes (l:List (List V3)) (hl:l.length < 1073741824) (hs:∀ s ∈ l,s.length < 1073741824):PC 92 [shps l] (DV.int .i64 (chkShps l)):=by
 have e0:((l.map shp).length:Int)=l.length:=by simp
 have kM:=c_mapS l 28 chkShp hl (fun s h=>c_CheckShape s (hs s h))
 have kF:=c_first (l.map chkShp) (by rw [List.length_map];omega)
 refine pureCall_ofR dh92 rfl ?_
 conv=>whnf
 repeat' (first
  |(refine ⟨fun hg=>?_,fun hg=>?_⟩<;>first|contradiction|(conv=>whnf))
  |(refine Or.inl ?_;conv=>whnf)
  |(refine ⟨_,kM ..,?_⟩;conv=>whnf)
  |(refine ⟨_,kF ..,?_⟩;conv=>whnf)
  |(refine And.intro ?_ ?_;kernel_rfl;conv=>whnf))
 ·have hg:=of_decide_eq_true hg
  exact int_eq (by unfold chkShps;rw [← e0,if_pos hg])
 ·have hg:=of_decide_eq_false hg
  exact int_eq (by unfold chkShps;rw [← e0,if_neg hg])
end Sh

namespace Sh
open Go Go.Proofs
def maxK (l:List Int):Nat→Int
 |0=>l.getD 0 0
 |k+1=>minmaxI true (maxK l k) (l.getD (k+1) 0)
def maxI (l:List Int):Int:=maxK l (l.length - 1)
def minK (l:List Int):Nat→Int
 |0=>l.getD 0 0
 |k+1=>minmaxI false (minK l k) (l.getD (k+1) 0)
def minI (l:List Int):Int:=minK l (l.length - 1)
theorem maxK_le (l:List Int) (b:Int):∀ k,maxK l k≤b ↔ ∀ i,i≤k→l.getD i 0≤b
 |0=>⟨fun h i hi=>by have:i=0:=by omega
                     subst this;exact h,fun h=>h 0 (Nat.le_refl _)⟩
 |k+1=>by
  have ih:=maxK_le l b k
  have e:maxK l (k+1)≤b ↔ maxK l k≤b∧l.getD (k+1) 0≤b:=by
   show minmaxI true _ _≤b ↔ _
   unfold minmaxI
   simp only [cond_true]
   split<;>omega
  rw [e,ih]
  constructor
  ·intro ⟨h1,h2⟩ i hi
   by_cases h:i=k+1
   ·subst h;exact h2
   ·exact h1 i (by omega)
  ·intro h;exact ⟨fun i hi=>h i (by omega),h _ (Nat.le_refl _)⟩
theorem minK_ge (l:List Int) (b:Int):∀ k,b≤minK l k ↔ ∀ i,i≤k→b≤l.getD i 0
 |0=>⟨fun h i hi=>by have:i=0:=by omega
                     subst this;exact h,fun h=>h 0 (Nat.le_refl _)⟩
 |k+1=>by
  have ih:=minK_ge l b k
  have e:b≤minK l (k+1) ↔ b≤minK l k∧b≤l.getD (k+1) 0:=by
   show b≤minmaxI false _ _ ↔ _
   unfold minmaxI
   simp only [cond_false]
   split<;>omega
  rw [e,ih]
  constructor
  ·intro ⟨h1,h2⟩ i hi
   by_cases h:i=k+1
   ·subst h;exact h2
   ·exact h1 i (by omega)
  ·intro h;exact ⟨fun i hi=>h i (by omega),h _ (Nat.le_refl _)⟩
theorem all_getD (l:List Int) (q:Int→Bool) (hn:l≠[]):l.all q=true ↔ ∀ i,i≤l.length - 1→q (l.getD i 0)=true:=by
 have h0:=List.length_pos_iff.2 hn
 rw [List.all_eq_true]
 constructor
 ·intro h i hi;exact h _ (getD_in 0 (by omega))
 ·intro h x hx
  obtain ⟨i,hi,rfl⟩:=List.mem_iff_getElem.1 hx
  have:=h i (by omega)
  rwa [show l.getD i 0=l[i] by simp [List.getD_eq_getElem?_getD,hi]] at this
theorem max_all (l:List Int) (hn:l≠[]):decide (maxI l≤0)=l.all fun n=>decide (n≤0):=by
 refine bool_iff ?_
 rw [all_getD l _ hn,decide_eq_true_eq]
 simp only [decide_eq_true_eq]
 exact maxK_le l 0 _
theorem min_all (l:List Int) (hn:l≠[]):decide (0≤minI l)=l.all fun n=>decide (0≤n):=by
 refine bool_iff ?_
 rw [all_getD l _ hn,decide_eq_true_eq]
 simp only [decide_eq_true_eq]
 exact minK_ge l 0 _
theorem s_Max (l:List Int) (hn:l≠[]) (hl:l.length < 1073741824):PC 149 [iL l] (DV.int .i64 (maxI l)):=by
 have e0:((l.map (DV.int .i64)).length:Int)=l.length:=by simp
 have h0:0 < l.length:=List.length_pos_iff.2 hn
 refine pureCall_ofR dh149 rfl ?_
 conv=>whnf
 refine ⟨fun hb=>?_,fun hb=>?_⟩
 ·have:=of_decide_eq_true hb;rw [e0] at this;omega
 clear hb
 conv=>whnf
 rw [getD_enc' _ _ 0 0 (by decide) (by omega)]
 refine ⟨idxB (by decide) (by omega) rfl,?_⟩
 conv=>whnf
 refine dwp_loopU (P:=Tryz.prog) (G:=GC) (k:=dk149_0) (b:=db149_0) (α:=Nat) (fun i=>[(3,DV.int .i64 (maxK l i)),(4,DV.int .i64 ((i+1:Nat)))]) (fun _=>[]) (fun i=>i+1≤l.length) (fun i=>l.length - i) 0 h0 ?_
 conv=>whnf
 refine ⟨rfl,rfl,?_⟩
 conv=>whnf
 refine ⟨rfl,?_⟩
 intro i h1
 conv=>whnf
 refine ⟨fun hb=>?_,fun hb=>?_⟩
 ·have hi:i+1 < l.length:=by have:=of_decide_eq_true hb;rw [e0] at this;omega
  clear hb
  conv=>whnf
  rw [getD_enc _ _ (i+1) 0 hi]
  refine ⟨idxA hi rfl,?_⟩
  conv=>whnf
  repeat' (first
   |(refine ⟨fun hg=>?_,fun hg=>?_⟩<;>first|contradiction|(conv=>whnf))
   |(refine Or.inl ?_;conv=>whnf)
   |(refine And.intro ?_ ?_;kernel_rfl;conv=>whnf))
  rw [wrap_succ (i+1) (by omega)]
  exact ⟨i+1,rfl,rfl,rfl,hi,by omega⟩
 ·have hi:i+1=l.length:=by have:=of_decide_eq_false hb;rw [e0] at this;omega
  conv=>whnf
  show DV.int .i64 _=_
  exact int_eq (by unfold maxI;rw [show l.length - 1=i by omega])
theorem s_Min (l:List Int) (hn:l≠[]) (hl:l.length < 1073741824):PC 150 [iL l] (DV.int .i64 (minI l)):=by
 have e0:((l.map (DV.int .i64)).length:Int)=l.length:=by simp
 have h0:0 < l.length:=List.length_pos_iff.2 hn
 refine pureCall_ofR dh150 rfl ?_
 conv=>whnf
 refine ⟨fun hb=>?_,fun hb=>?_⟩
 ·have:=of_decide_eq_true hb;rw [e0] at this;omega
 clear hb
 conv=>whnf
 rw [getD_enc' _ _ 0 0 (by decide) (by omega)]
 refine ⟨idxB (by decide) (by omega) rfl,?_⟩
 conv=>whnf
 refine dwp_loopU (P:=Tryz.prog) (G:=GC) (k:=dk150_0) (b:=db150_0) (α:=Nat) (fun i=>[(3,DV.int .i64 (minK l i)),(4,DV.int .i64 ((i+1:Nat)))]) (fun _=>[]) (fun i=>i+1≤l.length) (fun i=>l.length - i) 0 h0 ?_
 conv=>whnf
 refine ⟨rfl,rfl,?_⟩
 conv=>whnf
 refine ⟨rfl,?_⟩
 intro i h1
 conv=>whnf
 refine ⟨fun hb=>?_,fun hb=>?_⟩
 ·have hi:i+1 < l.length:=by have:=of_decide_eq_true hb;rw [e0] at this;omega
  clear hb
  conv=>whnf
  rw [getD_enc _ _ (i+1) 0 hi]
  refine ⟨idxA hi rfl,?_⟩
  conv=>whnf
  repeat' (first
   |(refine ⟨fun hg=>?_,fun hg=>?_⟩<;>first|contradiction|(conv=>whnf))
   |(refine Or.inl ?_;conv=>whnf)
   |(refine And.intro ?_ ?_;kernel_rfl;conv=>whnf))
  rw [wrap_succ (i+1) (by omega)]
  exact ⟨i+1,rfl,rfl,rfl,hi,by omega⟩
 ·have hi:i+1=l.length:=by have:=of_decide_eq_false hb;rw [e0] at this;omega
  conv=>whnf
  show DV.int .i64 _=_
  exact int_eq (by unfold minI;rw [show l.length - 1=i by omega])
end Sh

namespace Sh
open Go Go.Proofs
theorem sgn_cases (n:Int):sgn n=1∨sgn n=0∨sgn n = -1:=by unfold sgn;split<;>(try split)<;>simp
def tR (s:List V3) (sun:V3) (p:Pt) (i:Nat):List DV:=rng i fun k=>DV.int .i64 (turnV s sun p k)
theorem tR_len (s:List V3) (sun:V3) (p:Pt) (i:Nat):(tR s sun p i).length=i:=rng_len _ _
theorem tR_succ (s:List V3) (sun:V3) (p:Pt) (i:Nat):tR s sun p (i+1)=tR s sun p i++[DV.int .i64 (turnV s sun p i)]:=rng_succ _ _
theorem tR_all (s:List V3) (sun:V3) (p:Pt):tR s sun p s.length=(turnsL s sun p).map (DV.int .i64):=by unfold tR turnsL;rw [rng_map]
theorem gnd_bd {p:Pt} (hp:(-1000≤p.x∧p.x≤1000)∧(-1000≤p.y∧p.y≤1000)):bdV 1000 (gndV p):=⟨hp.1,hp.2,by show (-1000:Int)≤0;decide,by show (0:Int)≤1000;decide⟩
theorem c_hides (s:List V3) (sun:V3) (p:Pt) (hs:OkS s) (hu:bdV 1000 sun) (hp:(-1000≤p.x∧p.x≤1000)∧(-1000≤p.y∧p.y≤1000)):PC 91 [shp s,encV sun,encPt p] (.bool (hidB s sun p)):=by
 have e0:((s.map encV).length:Int)=s.length:=by simp
 have h3:=hs.1
 have h6:=hs.2.1
 have hg9:=gnd_bd hp
 have b0:=hs.at (i:=0) (by omega)
 have hn:=hs.nrm
 have k1:=c_dot _ _ (bd9 hn (by decide)) (bd9 hu (by decide))
 have k2:=c_less _ _ (bd9 b0 (by decide)) (bd9 hg9 (by decide))
 have k3:=c_dot _ _ (bd9 hn (by decide)) (bd9 (subV_bd b0 hg9) (by decide))
 have hX:=sgn_cases (dotV (nrmV s) sun)
 have hY:=sgn_cases (dotV (nrmV s) (subV (s.getD 0 V0) (gndV p)))
 have hfr:frontB s sun p=(decide (sgn (dotV (nrmV s) sun)≠0) && decide (sgn (dotV (nrmV s) sun)=sgn (dotV (nrmV s) (subV (s.getD 0 V0) (gndV p))))):=rfl
 have hhb:hidB s sun p=(frontB s sun p && ((turnsL s sun p).all (fun n=>decide (n≤0)) || (turnsL s sun p).all (fun n=>decide (0≤n)))):=rfl
 have k4:=c_sign (dotV (nrmV s) sun)
 have k5:=c_sign (dotV (nrmV s) (subV (s.getD 0 V0) (gndV p)))
 generalize sgn (dotV (nrmV s) sun)=X at *
 generalize sgn (dotV (nrmV s) (subV (s.getD 0 V0) (gndV p)))=Y at *
 refine pureCall_ofR dh91 rfl ?_
 conv=>whnf
 repeat' (first
  |(refine ⟨fun hg=>?_,fun hg=>?_⟩<;>first|contradiction|(conv=>whnf))
  |(refine Or.inl ?_;conv=>whnf)
  |(refine ⟨_,c_normal _ hs,?_⟩;conv=>whnf)
  |(refine ⟨_,k1,?_⟩;conv=>whnf)
  |(refine ⟨_,k4,?_⟩;conv=>whnf)
  |(rw [getD_enc' _ _ 0 V0 (by decide) (by omega)];refine ⟨idxB (by decide) (by omega) rfl,?_⟩;conv=>whnf)
  |(refine ⟨_,k2,?_⟩;conv=>whnf)
  |(refine ⟨_,k3,?_⟩;conv=>whnf)
  |(refine ⟨_,k5,?_⟩;conv=>whnf)
  |(refine And.intro ?_ ?_;kernel_rfl;conv=>whnf))
 ·have hf:frontB s sun p=false:=by
   clear k1 k2 k3 k4 k5 hhb
   rw [hfr]
   rcases hX with rfl|rfl|rfl<;>rcases hY with rfl|rfl|rfl<;>simp_all
  show DV.bool false=_
  rw [hhb,hf,Bool.false_and]
 all_goals
  have hf:frontB s sun p=true:=by
   clear k1 k2 k3 k4 k5 hhb
   rw [hfr]
   rcases hX with rfl|rfl|rfl<;>rcases hY with rfl|rfl|rfl<;>simp_all
  rw [hf,Bool.true_and] at hhb
  clear hX hY hfr k1 k2 k3 k4 k5
  refine dwp_loopU (P:=Tryz.prog) (G:=GC) (k:=dk91_0) (b:=db91_0) (α:=Nat) (fun i=>[(10,.own 10 0 (tR s sun p i).length (tR s sun p i).length),(43,DV.int .i64 (i))]) (fun i=>[(4,.box 3 (encV sun)),(5,.box 2 (encPt p)),(7,.box 3 (encV (gndV p))),(8,.box 3 (encV (nrmV s))),(9,.box 2 (.agg [DV.int .i64 (X),DV.int .i64 (Y)])),(10,.row 1 (tR s sun p i) false)]) (fun i=>i≤s.length) (fun i=>s.length - i) 0 (Nat.zero_le _) ?_
  conv=>whnf
  refine ⟨rfl,rfl,?_⟩
  conv=>whnf
  refine ⟨rfl,?_⟩
  intro i h1
  conv=>whnf
  refine ⟨fun hb=>?_,fun hb=>?_⟩
  ·have hi:i < s.length:=by simpa using hb
   have bi:=hs.at hi
   have ba:=hs.aft i
   have j1:=c_less _ _ (bd9 bi (by decide)) (bd9 hg9 (by decide))
   have j2:=c_less _ _ (bd9 ba (by decide)) (bd9 hg9 (by decide))
   have j3:=c_cross _ _ (bd9 (subV_bd bi hg9) (by decide)) (bd9 (subV_bd ba hg9) (by decide))
   have j4:=c_dot _ _ (bd9 hu (by decide)) (bd9 (crsV_bd (subV_bd bi hg9) (subV_bd ba hg9)) (by decide))
   have j5:=c_after s (by omega) i (by omega)
   clear hb
   conv=>whnf
   rw [getD_enc _ _ (i) V0 hi]
   refine ⟨idxA hi rfl,?_⟩
   conv=>whnf
   repeat' (first
    |(refine ⟨fun hg=>?_,fun hg=>?_⟩<;>first|contradiction|(conv=>whnf))
    |(refine Or.inl ?_;conv=>whnf)
    |(refine ⟨_,j1 ..,?_⟩;conv=>whnf)
    |(refine ⟨_,j5 ..,?_⟩;conv=>whnf)
    |(refine ⟨_,j2 ..,?_⟩;conv=>whnf)
    |(refine ⟨_,j3 ..,?_⟩;conv=>whnf)
    |(refine ⟨_,j4 ..,?_⟩;conv=>whnf)
    |(refine ⟨⟨rfl,rfl,rfl,by rw [tR_len];simp;omega,fun e he=>by simp at he;subst he;rfl⟩,?_⟩;conv=>whnf)
    |(refine And.intro ?_ ?_;kernel_rfl;conv=>whnf))
   rw [wrap_succ i (by omega)]
   refine ⟨i+1,rfl,?_,?_,hi,by omega⟩
   ·rw [tR_succ s sun p i];rfl
   ·rw [tR_succ s sun p i];rfl
  ·have hi:i=s.length:=by have:=of_decide_eq_false hb;rw [e0] at this;omega
   have hne:turnsL s sun p≠[]:=fun e=>by
    have h0:=congrArg List.length e
    unfold turnsL at h0
    rw [rng_len,List.length_nil] at h0
    omega
   have hlen:(turnsL s sun p).length < 1073741824:=by unfold turnsL;rw [rng_len];omega
   have m1:=s_Max _ hne hlen
   have m2:=s_Min _ hne hlen
   have q1:=max_all _ hne
   have q2:=min_all _ hne
   clear hb
   conv=>whnf
   refine .inl ?_
   conv=>whnf
   refine ⟨rfl,?_⟩
   rw [window_full,hi,tR_all]
   refine ⟨_,m1,?_⟩
   conv=>whnf
   repeat' (first
    |(refine ⟨fun hg=>?_,fun hg=>?_⟩<;>first|contradiction|(conv=>whnf))
    |(refine Or.inl ?_;conv=>whnf)
    |(refine And.intro ?_ ?_;kernel_rfl;conv=>whnf))
   ·rw [window_full]
    refine ⟨_,m2,?_⟩
    conv=>whnf
    repeat' (first
     |(refine ⟨fun hg=>?_,fun hg=>?_⟩<;>first|contradiction|(conv=>whnf))
     |(refine Or.inl ?_;conv=>whnf)
     |(refine And.intro ?_ ?_;kernel_rfl;conv=>whnf))
    show DV.bool (decide (0≤minI (turnsL s sun p)))=_
    rw [hhb,← q1,← q2,show decide (maxI (turnsL s sun p)≤0)=false from hg,Bool.false_or]
   ·show DV.bool true=_
    rw [hhb,← q1,show decide (maxI (turnsL s sun p)≤0)=true from hg,Bool.true_or]
end Sh

namespace Sh
open Go Go.Proofs
def hdE (s:List V3) (sun:V3) (p:Pt):Int:=firstE [chkShp s,chkSun sun,chkSpot p]
def hgE (l:List (List V3)) (sun:V3) (p:Pt):Int:=firstE [chkShps l,chkSun sun,chkSpot p]
def hdS (s:List V3) (sun:V3) (p:Pt):Bool×Int:=if hdE s sun p≠0 then (false,hdE s sun p) else (hidB s sun p,0)
def hgS (l:List (List V3)) (sun:V3) (p:Pt):List Int×Int:=if hgE l sun p≠0 then ([],hgE l sun p) else (hidng l sun p l.length,0)
theorem hdE_zero {s:List V3} {sun:V3} {p:Pt} (h:hdE s sun p=0):OkS s∧bdV 1000 sun∧((-1000≤p.x∧p.x≤1000)∧(-1000≤p.y∧p.y≤1000)):=by
 unfold hdE at h
 obtain ⟨h1,h⟩:=firstE_cons h
 obtain ⟨h2,h⟩:=firstE_cons h
 obtain ⟨h3,h⟩:=firstE_cons h
 exact ⟨chkShp_zero h1,(chkSun_zero h2).1,chkSpot_zero h3⟩
theorem hgE_zero {l:List (List V3)} {sun:V3} {p:Pt} (h:hgE l sun p=0):(l.length≤8∧∀ s ∈ l,OkS s)∧bdV 1000 sun∧((-1000≤p.x∧p.x≤1000)∧(-1000≤p.y∧p.y≤1000)):=by
 unfold hgE at h
 obtain ⟨h1,h⟩:=firstE_cons h
 obtain ⟨h2,h⟩:=firstE_cons h
 obtain ⟨h3,h⟩:=firstE_cons h
 exact ⟨⟨(chkShps_zero h1).1,fun s hs=>chkShp_zero ((chkShps_zero h1).2 s hs)⟩,(chkSun_zero h2).1,chkSpot_zero h3⟩
theorem c_Hides (s:List V3) (sun:V3) (p:Pt) (hl:s.length < 1073741824):PC 15 [shp s,encV sun,encPt p] (.tuple [.bool (hdS s sun p).1,DV.int .i64 ((hdS s sun p).2)]):=by
 have k1:=c_CheckShape s hl
 have k2:=c_CheckSun sun
 have k3:=c_checkSpot p
 have k4:=c_first [chkShp s,chkSun sun,chkSpot p] (by simp)
 refine pureCall_ofR dh15 rfl ?_
 conv=>whnf
 repeat' (first
  |(refine ⟨fun hg=>?_,fun hg=>?_⟩<;>first|contradiction|(conv=>whnf))
  |(refine Or.inl ?_;conv=>whnf)
  |(refine ⟨_,k1,?_⟩;conv=>whnf)
  |(refine ⟨_,k2,?_⟩;conv=>whnf)
  |(refine ⟨_,k3,?_⟩;conv=>whnf)
  |(refine ⟨_,k4,?_⟩;conv=>whnf)
  |(refine And.intro ?_ ?_;kernel_rfl;conv=>whnf))
 ·have hg:hdE s sun p≠0:=of_decide_eq_true hg
  have e:hdS s sun p=(false,hdE s sun p):=if_pos hg
  rw [e];rfl
 ·have hg:¬ hdE s sun p≠0:=of_decide_eq_false hg
  have e:hdS s sun p=(hidB s sun p,0):=if_neg hg
  obtain ⟨h1,h2,h3⟩:=hdE_zero (Classical.not_not.1 hg)
  have k5:=c_hides s sun p h1 h2 h3
  repeat' (first
   |(refine ⟨fun hg=>?_,fun hg=>?_⟩<;>first|contradiction|(conv=>whnf))
   |(refine Or.inl ?_;conv=>whnf)
   |(refine ⟨_,k5,?_⟩;conv=>whnf)
   |(refine And.intro ?_ ?_;kernel_rfl;conv=>whnf))
  rw [e];rfl
def hdR (l:List (List V3)) (sun:V3) (p:Pt) (i:Nat):List DV:=(hidng l sun p i).map (DV.int .i64)
theorem hdR_len (l:List (List V3)) (sun:V3) (p:Pt) (i:Nat):(hdR l sun p i).length≤i:=by unfold hdR;rw [List.length_map];exact hidng_len l sun p i
theorem hdR_yes {l:List (List V3)} {sun:V3} {p:Pt} {i:Nat} (h:hidB (l.getD i []) sun p=true):hdR l sun p (i+1)=hdR l sun p i++[DV.int .i64 (i)]:=by unfold hdR;rw [hidng_succ,h];simp
theorem hdR_no {l:List (List V3)} {sun:V3} {p:Pt} {i:Nat} (h:hidB (l.getD i []) sun p=false):hdR l sun p (i+1)=hdR l sun p i:=by unfold hdR;rw [hidng_succ,h];simp
theorem c_Hiding (l:List (List V3)) (sun:V3) (p:Pt) (hl:l.length < 1073741824) (hs:∀ s ∈ l,s.length < 1073741824):PC 18 [shps l,encV sun,encPt p] (.tuple [iL (hgS l sun p).1,DV.int .i64 ((hgS l sun p).2)]):=by
 have e0:((l.map shp).length:Int)=l.length:=by simp
 have k1:=c_checkShapes l hl hs
 have k2:=c_CheckSun sun
 have k3:=c_checkSpot p
 have k4:=c_first [chkShps l,chkSun sun,chkSpot p] (by simp)
 refine pureCall_ofR dh18 rfl ?_
 conv=>whnf
 repeat' (first
  |(refine ⟨fun hg=>?_,fun hg=>?_⟩<;>first|contradiction|(conv=>whnf))
  |(refine Or.inl ?_;conv=>whnf)
  |(refine ⟨_,k1,?_⟩;conv=>whnf)
  |(refine ⟨_,k2,?_⟩;conv=>whnf)
  |(refine ⟨_,k3,?_⟩;conv=>whnf)
  |(refine ⟨_,k4,?_⟩;conv=>whnf)
  |(refine And.intro ?_ ?_;kernel_rfl;conv=>whnf))
 ·have hg:hgE l sun p≠0:=of_decide_eq_true hg
  have e:hgS l sun p=([],hgE l sun p):=if_pos hg
  rw [e];rfl
 ·have hg:¬ hgE l sun p≠0:=of_decide_eq_false hg
  have e:hgS l sun p=(hidng l sun p l.length,0):=if_neg hg
  obtain ⟨⟨h8,h1⟩,h2,h3⟩:=hgE_zero (Classical.not_not.1 hg)
  refine dwp_loopU (P:=Tryz.prog) (G:=GC) (k:=dk18_0) (b:=db18_0) (α:=Nat) (fun i=>[(9,.own 9 0 (hdR l sun p i).length (hdR l sun p i).length),(25,DV.int .i64 (i))]) (fun i=>[(4,.box 3 (encV sun)),(5,.box 2 (encPt p)),(9,.row 1 (hdR l sun p i) false)]) (fun i=>i≤l.length) (fun i=>l.length - i) 0 (Nat.zero_le _) ?_
  conv=>whnf
  refine ⟨rfl,rfl,?_⟩
  conv=>whnf
  refine ⟨rfl,?_⟩
  intro i j1
  conv=>whnf
  refine ⟨fun hb=>?_,fun hb=>?_⟩
  ·have hi:i < l.length:=by simpa using hb
   have k5:=c_hides _ sun p (h1 _ (getD_in [] hi)) h2 h3
   have hln:=hdR_len l sun p i
   clear hb
   conv=>whnf
   rw [getD_enc _ _ (i) [] hi]
   refine ⟨idxA hi rfl,?_⟩
   conv=>whnf
   repeat' (first
    |(refine ⟨fun hg=>?_,fun hg=>?_⟩<;>first|contradiction|(conv=>whnf))
    |(refine Or.inl ?_;conv=>whnf)
    |(refine ⟨_,k5,?_⟩;conv=>whnf)
    |(refine ⟨⟨rfl,rfl,rfl,by simp;omega,fun e he=>by simp at he;subst he;rfl⟩,?_⟩;conv=>whnf)
    |(refine And.intro ?_ ?_;kernel_rfl;conv=>whnf))
   ·rw [wrap_succ i (by omega)]
    refine ⟨i+1,rfl,?_,?_,hi,by omega⟩
    ·rw [hdR_yes hg];rfl
    ·rw [hdR_yes hg];rfl
   ·rw [wrap_succ i (by omega)]
    refine ⟨i+1,rfl,?_,?_,hi,by omega⟩
    ·rw [hdR_no hg];rfl
    ·rw [hdR_no hg];rfl
  ·have hi:i=l.length:=by have:=of_decide_eq_false hb;rw [e0] at this;omega
   clear hb
   conv=>whnf
   rw [e]
   exact ⟨rfl,by rw [window_full,hi];rfl⟩
end Sh

namespace Sh
open Go Go.Proofs
def encB (c:Bx):DV:=.agg [DV.int .i64 (c.f.x),DV.int .i64 (c.f.y),DV.int .i64 (c.t.x),DV.int .i64 (c.t.y)]
theorem sz_w {c:Bx} (h1:(-1000≤c.f.x∧c.f.x≤1000)∧(-1000≤c.f.y∧c.f.y≤1000)) (h2:(-1000≤c.t.x∧c.t.x≤1000)∧(-1000≤c.t.y∧c.t.y≤1000)):IntKind.i64.wrap (IntKind.i64.wrap (c.t.x - c.f.x) * IntKind.i64.wrap (c.t.y - c.f.y))=sizeB c:=by
 have:=mul_bd (a:=c.t.x - c.f.x) (b:=c.t.y - c.f.y) (A:=2000) (B:=2000) (by omega) (by omega) (by omega) (by omega)
 rw [wrap_in (n:=c.t.x - c.f.x) (by omega) (by omega),wrap_in (n:=c.t.y - c.f.y) (by omega) (by omega),wrap_in (by omega) (by omega)]
 rfl
theorem c_size (c:Bx) (h1:(-1000≤c.f.x∧c.f.x≤1000)∧(-1000≤c.f.y∧c.f.y≤1000)) (h2:(-1000≤c.t.x∧c.t.x≤1000)∧(-1000≤c.t.y∧c.t.y≤1000)):PC 115 [encB c] (DV.int .i64 (sizeB c)):=by
 refine pureCall_ofR dh115 rfl ?_
 conv=>whnf
 exact int_eq (sz_w h1 h2)
theorem spot2 {c:Bx} {x:Int} (h:firstE [chkSpot c.f,chkSpot c.t,x]=0):((-1000≤c.f.x∧c.f.x≤1000)∧(-1000≤c.f.y∧c.f.y≤1000))∧((-1000≤c.t.x∧c.t.x≤1000)∧(-1000≤c.t.y∧c.t.y≤1000)):=by
 obtain ⟨h1,h⟩:=firstE_cons h
 obtain ⟨h2,h⟩:=firstE_cons h
 exact ⟨chkSpot_zero h1,chkSpot_zero h2⟩
theorem chk_pos {c:Bx} (h:frstB c≠0):frstB c=chkBx c:=by unfold chkBx;rw [if_pos h]
theorem c_CheckCell (c:Bx):PC 42 [encB c] (DV.int .i64 (chkBx c)):=by
 have k1:=c_checkSpot c.f
 have k2:=c_checkSpot c.t
 have hf:frstB c=firstE [chkSpot c.f,chkSpot c.t,whenE (decide (c.t.x≤c.f.x) || decide (c.t.y≤c.f.y)) 14]:=rfl
 refine pureCall_ofR dh42 rfl ?_
 conv=>whnf
 repeat' (first
  |(refine ⟨fun hg=>?_,fun hg=>?_⟩<;>first|contradiction|(conv=>whnf))
  |(refine Or.inl ?_;conv=>whnf)
  |(refine ⟨_,k1,?_⟩;conv=>whnf)
  |(refine ⟨_,k2,?_⟩;conv=>whnf)
  |(refine ⟨_,c_when ..,?_⟩;conv=>whnf)
  |(refine ⟨_,c_first [_,_,_] (by simp),?_⟩;conv=>whnf)
  |(refine And.intro ?_ ?_;kernel_rfl;conv=>whnf))
 all_goals
  first
   |rw [‹decide (c.t.x≤c.f.x)=false›,Bool.false_or] at hf
   |rw [show decide (c.t.x≤c.f.x)=true from ‹_›,Bool.true_or] at hf
 ·have hg:=of_decide_eq_true hg
  exact int_eq (hf.symm.trans (chk_pos (fun e=>hg (hf.symm.trans e))))
 ·have hg:=of_decide_eq_false hg
  have hz:frstB c=0:=hf.trans (Classical.not_not.1 hg)
  obtain ⟨b1,b2⟩:=spot2 (show firstE [chkSpot c.f,chkSpot c.t,spanE c]=0 from hz)
  repeat' (first
   |(refine ⟨fun hg=>?_,fun hg=>?_⟩<;>first|contradiction|(conv=>whnf))
   |(refine Or.inl ?_;conv=>whnf)
   |(refine ⟨_,c_size c b1 b2,?_⟩;conv=>whnf)
   |(refine ⟨_,c_when ..,?_⟩;conv=>whnf)
   |(refine And.intro ?_ ?_;kernel_rfl;conv=>whnf))
  exact int_eq (by unfold chkBx;rw [if_neg (by omega)])
 ·have hg:=of_decide_eq_true hg
  exact int_eq (hf.symm.trans (chk_pos (fun e=>hg (hf.symm.trans e))))
 ·have hg:=of_decide_eq_false hg
  have hz:frstB c=0:=hf.trans (Classical.not_not.1 hg)
  obtain ⟨b1,b2⟩:=spot2 (show firstE [chkSpot c.f,chkSpot c.t,spanE c]=0 from hz)
  repeat' (first
   |(refine ⟨fun hg=>?_,fun hg=>?_⟩<;>first|contradiction|(conv=>whnf))
   |(refine Or.inl ?_;conv=>whnf)
   |(refine ⟨_,c_size c b1 b2,?_⟩;conv=>whnf)
   |(refine ⟨_,c_when ..,?_⟩;conv=>whnf)
   |(refine And.intro ?_ ?_;kernel_rfl;conv=>whnf))
  exact int_eq (by unfold chkBx;rw [if_neg (by omega)])
end Sh

namespace Sh
open Go Go.Proofs
theorem wrap_off {a:Int} (j:Nat) (h1 : -1000≤a) (h2:a+j≤1000):IntKind.i64.wrap (a+(j:Int)+1)=a+((j+1:Nat):Int):=by
 rw [wrap_in (by omega) (by omega)];omega
theorem OkB.hw {c:Bx} (h:OkB c):(wB c:Int)=c.t.x - c.f.x∧(hB c:Int)=c.t.y - c.f.y∧wB c≤2000∧hB c≤2000:=by
 have:=h.x;have:=h.y;have:=h.x0;have:=h.x1;have:=h.y0;have:=h.y1
 unfold wB hB
 omega
def shR (s:List V3) (sun:V3) (ps:List Pt) (i:Nat):List DV:=(shdL s sun (ps.take i)).map encPt
theorem shR_len (s:List V3) (sun:V3) (ps:List Pt) (i:Nat):(shR s sun ps i).length≤ps.length:=by
 unfold shR shdL
 rw [List.length_map]
 have:=List.length_filter_le (fun p=>hidB s sun p) (ps.take i)
 have:=List.length_take_le' i ps
 omega
theorem shR_yes {s:List V3} {sun:V3} {ps:List Pt} {i:Nat} (hi:i < ps.length) (h:hidB s sun (ps.getD i P0)=true):shR s sun ps (i+1)=shR s sun ps i++[encPt (ps.getD i P0)]:=by
 unfold shR shdL;rw [take_snoc ps i P0 hi,List.filter_append,List.map_append,List.filter_cons,h];simp
theorem shR_no {s:List V3} {sun:V3} {ps:List Pt} {i:Nat} (hi:i < ps.length) (h:hidB s sun (ps.getD i P0)=false):shR s sun ps (i+1)=shR s sun ps i:=by
 unfold shR shdL;rw [take_snoc ps i P0 hi,List.filter_append,List.map_append,List.filter_cons,h];simp
theorem OkB.spN {c:Bx} (h:OkB c):(spotsL c).length≤4000000:=by
 have:=spotsL_len h;have:=h.size;omega
end Sh

namespace Sh
open Go Go.Proofs
def ltN (l:List (List V3)) (sun:V3) (ps:List Pt) (i:Nat):Int:=(litL l sun (ps.take i)).length
theorem ltN_bd (l:List (List V3)) (sun:V3) (ps:List Pt) (i:Nat):0≤ltN l sun ps i∧ltN l sun ps i≤ps.length:=by
 unfold ltN litL
 have:=List.length_filter_le (fun p=>!anyHid l sun p) (ps.take i)
 have:=List.length_take_le' i ps
 omega
theorem ltN_succ {l:List (List V3)} {sun:V3} {ps:List Pt} {i:Nat} (hi:i < ps.length):ltN l sun ps (i+1)=ltN l sun ps i+if anyHid l sun (ps.getD i P0) then 0 else 1:=by
 unfold ltN litL
 rw [take_snoc ps i P0 hi,List.filter_append,List.length_append,List.filter_cons]
 cases anyHid l sun (ps.getD i P0)<;>simp
def ctN (l:List (List V3)) (sun:V3) (ps:List Pt) (i j:Nat):Int:=(cutI l sun i (ps.take j)).length
end Sh

namespace Sh
open Go Go.Proofs
def one1 (ps:List Pt):List (List DV):=ps.map fun p=>[encPt p]
theorem spotsIt (c:Bx) (h:OkB c):ISeq Tryz.prog GC 152 [.ip (encB c)] (one1 (spotsL c)):=by
 obtain ⟨ew,eh,lw,lh⟩:=h.hw
 have hx0:=h.x0;have hx1:=h.x1;have hy0:=h.y0;have hy1:=h.y1
 have zY:c.f.y+((0:Nat):Int)=c.f.y:=Int.add_zero _
 have zX:c.f.x+((0:Nat):Int)=c.f.x:=Int.add_zero _
 refine iseq_of dh152 rfl rfl (by kernel_rfl) (fun x hx=>by obtain ⟨v,_,rfl⟩:=List.mem_map.1 hx;rfl) (fun gl=>?_)
 conv=>whnf
 refine dwp_loopUY (P:=Tryz.prog) (G:=GC) (k:=dk152_1) (b:=db152_1) (α:=Nat) (fun j=>[(3,DV.int .i64 (c.f.y+j))]) (fun j=>[(0,.ghost (one1 (restB c j)) true gl)]) (fun j=>j≤hB c) (fun j=>hB c - j) 0 (Nat.zero_le _) ?_
 conv=>whnf
 refine ⟨rfl,rfl,?_⟩
 conv=>whnf
 refine ⟨by rw [zY];rfl,?_⟩
 intro j j1
 conv=>whnf
 refine ⟨fun hb=>?_,fun hb=>?_⟩
 ·have hj:j < hB c:=by have:=of_decide_eq_true hb;omega
  clear hb
  conv=>whnf
  refine dwp_loopUY (P:=Tryz.prog) (G:=GC) (k:=dk152_0) (b:=db152_0) (α:=Nat) (fun i=>[(4,DV.int .i64 (c.f.x+i))]) (fun i=>[(0,.ghost (one1 (rowB c j i++restB c (j+1))) true gl)]) (fun i=>i≤wB c) (fun i=>wB c - i) 0 (Nat.zero_le _) ?_
  conv=>whnf
  refine ⟨rfl,by rw [restB_cons hj];rfl,?_⟩
  conv=>whnf
  refine ⟨by rw [zX];rfl,?_⟩
  intro i i1
  conv=>whnf
  refine ⟨fun hb=>?_,fun hb=>?_⟩
  ·have hi:i < wB c:=by have:=of_decide_eq_true hb;omega
   rw [show one1 (rowB c j i++restB c (j+1))=[encPt (spotB c j i)] :: one1 (rowB c j (i+1)++restB c (j+1)) by rw [rowB_cons hi];rfl]
   clear hb
   conv=>whnf
   refine ⟨rfl,fun b=>?_⟩
   conv=>whnf
   refine ⟨fun hg=>?_,fun hg=>?_⟩
   ·have hg:b=false:=by simpa using hg
    subst hg
    conv=>whnf
    intro e;cases e
   ·have hg:b=true:=by simpa using hg
    subst hg
    conv=>whnf
    rw [wrap_off i (by omega) (by omega)]
    exact ⟨i+1,rfl,rfl,rfl,hi,by omega⟩
  ·have hi:i=wB c:=by have:=of_decide_eq_false hb;omega
   clear hb
   conv=>whnf
   rw [wrap_off j (by omega) (by omega),hi,rowB_nil (Nat.le_refl _)]
   exact ⟨j+1,rfl,rfl,rfl,hj,by omega⟩
 ·have hj:j=hB c:=by have:=of_decide_eq_false hb;omega
  clear hb
  conv=>whnf
  intro _
  rw [hj,restB_nil (Nat.le_refl _)]
  rfl
theorem c_spots (c:Bx):PC 108 [encB c] (.func 152 [.ip (encB c)]):=by
 refine pureCall_ofR dh108 rfl ?_
 conv=>whnf
 rfl
end Sh

namespace Sh
open Go Go.Proofs
theorem one1_get {ps:List Pt} {i:Nat} {z:List DV} (h:(one1 ps)[i]?=some z):i < ps.length∧z=[encPt (ps.getD i P0)]:=by
 unfold one1 at h
 rw [List.getElem?_map,Option.map_eq_some_iff] at h
 obtain ⟨p,hp,rfl⟩:=h
 obtain ⟨hi,rfl⟩:=List.getElem?_eq_some_iff.1 hp
 refine ⟨hi,?_⟩
 rw [List.getD_eq_getElem?_getD,hp];rfl
theorem one1_len {ps:List Pt}:∀ z ∈ one1 ps,z.length=1:=fun z hz=>by obtain ⟨v,_,rfl⟩:=List.mem_map.1 hz;rfl
def shE (s:List V3) (sun:V3) (c:Bx):Int:=firstE [chkShp s,chkSun sun,chkBx c]
def shS (s:List V3) (sun:V3) (c:Bx):List Pt×Int:=if shE s sun c≠0 then ([],shE s sun c) else (shdL s sun (spotsL c),0)
theorem shE_zero {s:List V3} {sun:V3} {c:Bx} (h:shE s sun c=0):OkS s∧bdV 1000 sun∧OkB c:=by
 unfold shE at h
 obtain ⟨h1,h⟩:=firstE_cons h
 obtain ⟨h2,h⟩:=firstE_cons h
 obtain ⟨h3,h⟩:=firstE_cons h
 exact ⟨chkShp_zero h1,(chkSun_zero h2).1,(chkBx_zero h3).1⟩
def shH (s:List V3) (sun:V3) (c:Bx):List DV→Heap
 |[]=>[(3,.box 1 (shp s)),(4,.box 3 (encV sun)),(5,.box 4 (encB c)),(9,.box 1 (.full []))]
 |x :: r=>[(3,.box 1 (shp s)),(4,.box 3 (encV sun)),(5,.box 4 (encB c)),(9,.box 1 (.own 32 0 (x :: r).length (x :: r).length)),(32,.row 2 (x :: r) false)]
theorem c_Shadow (s:List V3) (sun:V3) (c:Bx) (hl:s.length < 1073741824):PC 31 [shp s,encV sun,encB c] (.tuple [pts (shS s sun c).1,DV.int .i64 ((shS s sun c).2)]):=by
 have k1:=c_CheckShape s hl
 have k2:=c_CheckSun sun
 have k3:=c_CheckCell c
 have k4:=c_first [chkShp s,chkSun sun,chkBx c] (by simp)
 refine pureCall_ofR dh31 rfl ?_
 conv=>whnf
 repeat' (first
  |(refine ⟨fun hg=>?_,fun hg=>?_⟩<;>first|contradiction|(conv=>whnf))
  |(refine Or.inl ?_;conv=>whnf)
  |(refine ⟨_,k1,?_⟩;conv=>whnf)
  |(refine ⟨_,k2,?_⟩;conv=>whnf)
  |(refine ⟨_,k3,?_⟩;conv=>whnf)
  |(refine ⟨_,k4,?_⟩;conv=>whnf)
  |(refine And.intro ?_ ?_;kernel_rfl;conv=>whnf))
 ·have hg:shE s sun c≠0:=of_decide_eq_true hg
  have e:shS s sun c=([],shE s sun c):=if_pos hg
  rw [e];rfl
 ·have hg:¬ shE s sun c≠0:=of_decide_eq_false hg
  have e:shS s sun c=(shdL s sun (spotsL c),0):=if_neg hg
  obtain ⟨h1,h2,h3⟩:=shE_zero (Classical.not_not.1 hg)
  have hn:=h3.spN
  have hsp:∀ p ∈ spotsL c,(-1000≤p.x∧p.x≤1000)∧(-1000≤p.y∧p.y≤1000):=fun p hp=>h3.spot hp
  have hit:=spotsIt c h3
  have k6:=c_spots c
  repeat' (first
   |(refine ⟨fun hg=>?_,fun hg=>?_⟩<;>first|contradiction|(conv=>whnf))
   |(refine Or.inl ?_;conv=>whnf)
   |(refine ⟨_,k6,?_⟩;conv=>whnf)
   |(refine And.intro ?_ ?_;kernel_rfl;conv=>whnf))
  rw [e]
  generalize spotsL c=ps at *
  refine range_R (P:=Tryz.prog) (G:=GC) (x:=db31_0x) (y:=db31_0) (k:=dk31_0) (one1 ps) (fun i=>shH s sun c (shR s sun ps i)) [(3,.bptr 3 0),(4,.bptr 4 0),(6,.full []),(7,DV.int .i64 (0)),(9,.bptr 9 0)] hit rfl one1_len rfl rfl rfl rfl ?_ ?_
  ·intro i z hz
   obtain ⟨hi,rfl⟩:=one1_get hz
   have k5:=c_hides s sun _ h1 h2 (hsp _ (getD_in P0 hi))
   have hln:=shR_len s sun ps i
   have hy:=shR_yes (s:=s) (sun:=sun) hi
   have hno:=shR_no (s:=s) (sun:=sun) hi
   dsimp only
   generalize shR s sun ps i=R at *
   generalize shR s sun ps (i+1)=R' at *
   cases R with
   |nil =>
    conv=>whnf
    repeat' (first
     |(refine ⟨fun hg=>?_,fun hg=>?_⟩<;>first|contradiction|(conv=>whnf))
     |(refine Or.inl ?_;conv=>whnf)
     |(refine ⟨_,k5,?_⟩;conv=>whnf)
     |(refine ⟨⟨by simp,fun e he=>by simp at he;subst he;rfl,fun e he=>by simp at he,.inl rfl⟩,?_⟩;conv=>whnf)
     |(refine And.intro ?_ ?_;kernel_rfl;conv=>whnf))
    ·rw [hy hg]
     rfl
    ·rw [hno hg]
     rfl
   |cons a r =>
    conv=>whnf
    repeat' (first
     |(refine ⟨fun hg=>?_,fun hg=>?_⟩<;>first|contradiction|(conv=>whnf))
     |(refine Or.inl ?_;conv=>whnf)
     |(refine ⟨_,k5,?_⟩;conv=>whnf)
     |(refine ⟨⟨rfl,rfl,rfl,by simp at hln ⊢;omega,fun e he=>by simp at he;subst he;rfl⟩,?_⟩;conv=>whnf)
     |(refine And.intro ?_ ?_;kernel_rfl;conv=>whnf))
    ·rw [hy hg]
     rfl
    ·rw [hno hg]
     rfl
  ·rw [show (one1 ps).length=ps.length from List.length_map _]
   have hR:shR s sun ps ps.length=(shdL s sun ps).map encPt:=by unfold shR;rw [List.take_length]
   rw [show pts (shdL s sun ps)=.list (shR s sun ps ps.length) by rw [hR];rfl]
   generalize shR s sun ps ps.length=R
   cases R with
   |nil =>
    conv=>whnf
    rfl
   |cons a r =>
    conv=>whnf
    refine ⟨rfl,?_⟩
    rw [window_full]
    rfl
end Sh

namespace Sh
open Go Go.Proofs
def lgE (l:List (List V3)) (sun:V3) (c:Bx):Int:=firstE [chkShps l,chkSun sun,chkBx c]
def lgS (l:List (List V3)) (sun:V3) (c:Bx):Int×Int:=if lgE l sun c≠0 then (0,lgE l sun c) else (lightS l sun c,0)
theorem lgE_zero {l:List (List V3)} {sun:V3} {c:Bx} (h:lgE l sun c=0):(l.length≤8∧∀ s ∈ l,OkS s)∧bdV 1000 sun∧OkB c:=by
 unfold lgE at h
 obtain ⟨h1,h⟩:=firstE_cons h
 obtain ⟨h2,h⟩:=firstE_cons h
 obtain ⟨h3,h⟩:=firstE_cons h
 exact ⟨⟨(chkShps_zero h1).1,fun s hs=>chkShp_zero ((chkShps_zero h1).2 s hs)⟩,(chkSun_zero h2).1,(chkBx_zero h3).1⟩
theorem any_snoc {l:List (List V3)} {sun:V3} {p:Pt} {k:Nat} (hk:k < l.length) (h:anyHid (l.take k) sun p=false):anyHid (l.take (k+1)) sun p=hidB (l.getD k []) sun p:=by
 unfold anyHid at *
 rw [take_snoc l k [] hk,List.any_append,h];simp
theorem any_at {l:List (List V3)} {sun:V3} {p:Pt} {k:Nat} (hk:k < l.length) (h:hidB (l.getD k []) sun p=true):anyHid l sun p=true:=by
 unfold anyHid
 rw [List.any_eq_true]
 exact ⟨_,getD_in [] hk,h⟩
theorem c_light (l:List (List V3)) (sun:V3) (c:Bx) (h8:l.length≤8) (h1:∀ s ∈ l,OkS s) (h2:bdV 1000 sun) (h3:OkB c):PC 110 [shps l,encV sun,encB c] (DV.int .i64 (lightS l sun c)):=by
 have e0:((l.map shp).length:Int)=l.length:=by simp
 have hn:=h3.spN
 have hsp:∀ p ∈ spotsL c,(-1000≤p.x∧p.x≤1000)∧(-1000≤p.y∧p.y≤1000):=fun p hp=>h3.spot hp
 have hit:=spotsIt c h3
 have k6:=c_spots c
 unfold lightS
 refine pureCall_ofR dh110 rfl ?_
 conv=>whnf
 repeat' (first
  |(refine ⟨fun hg=>?_,fun hg=>?_⟩<;>first|contradiction|(conv=>whnf))
  |(refine Or.inl ?_;conv=>whnf)
  |(refine ⟨_,k6,?_⟩;conv=>whnf)
  |(refine And.intro ?_ ?_;kernel_rfl;conv=>whnf))
 generalize spotsL c=ps at *
 refine range_R (P:=Tryz.prog) (G:=GC) (x:=db110_1x) (y:=db110_1) (k:=dk110_1) (one1 ps) (fun i=>[(3,.box 1 (shps l)),(4,.box 3 (encV sun)),(5,.box 4 (encB c)),(7,.box 1 (DV.int .i64 (ltN l sun ps i)))]) [(3,.bptr 3 0),(4,.bptr 4 0),(6,DV.int .i64 (0)),(7,.bptr 7 0)] hit rfl one1_len rfl rfl rfl rfl ?_ ?_
 ·intro i z hz
  obtain ⟨hi,rfl⟩:=one1_get hz
  have hln:=ltN_bd l sun ps i
  have hs:=ltN_succ (l:=l) (sun:=sun) hi
  have hpp:=hsp _ (getD_in P0 hi)
  dsimp only
  generalize ps.getD i P0=p at *
  conv=>whnf
  refine dwp_loopU (P:=Tryz.prog) (G:=GC) (k:=dk110_0) (b:=db110_0) (α:=Nat) (fun k=>[(16,DV.int .i64 (k))]) (fun k=>[(3,.box 1 (shps l)),(4,.box 3 (encV sun)),(5,.box 4 (encB c)),(7,.box 1 (DV.int .i64 (ltN l sun ps i))),(8,.box 2 (encPt p))]) (fun k=>k≤l.length∧anyHid (l.take k) sun p=false) (fun k=>l.length - k) 0 ⟨Nat.zero_le _,rfl⟩ ?_
  conv=>whnf
  refine ⟨rfl,rfl,?_⟩
  conv=>whnf
  refine ⟨rfl,?_⟩
  intro k ⟨q1,q2⟩
  conv=>whnf
  refine ⟨fun hb=>?_,fun hb=>?_⟩
  ·have hk:k < l.length:=by simpa using hb
   have k5:=c_hides _ sun p (h1 _ (getD_in [] hk)) h2 hpp
   clear hb
   conv=>whnf
   rw [getD_enc _ _ (k) [] hk]
   refine ⟨idxA hk rfl,?_⟩
   conv=>whnf
   repeat' (first
    |(refine ⟨fun hg=>?_,fun hg=>?_⟩<;>first|contradiction|(conv=>whnf))
    |(refine Or.inl ?_;conv=>whnf)
    |(refine ⟨_,k5,?_⟩;conv=>whnf)
    |(refine And.intro ?_ ?_;kernel_rfl;conv=>whnf))
   ·rw [any_at hk hg] at hs
    rw [hs]
    show _=_
    rw [show (ltN l sun ps i+if true=true then 0 else 1)=ltN l sun ps i from Int.add_zero _]
    rfl
   ·rw [wrap_succ k (by omega)]
    exact ⟨k+1,rfl,rfl,rfl,⟨hk,by rw [any_snoc hk q2,show hidB (l.getD k []) sun p=false from hg]⟩,by omega⟩
  ·have hk:k=l.length:=by have:=of_decide_eq_false hb;rw [e0] at this;omega
   rw [hk,List.take_length] at q2
   clear hb
   conv=>whnf
   rw [q2] at hs
   rw [hs,wrap_in (by omega) (by omega)]
   exact ⟨rfl,rfl⟩
 ·rw [show (one1 ps).length=ps.length from List.length_map _]
  conv=>whnf
  exact int_eq (by unfold ltN;rw [List.take_length])
theorem c_Light (l:List (List V3)) (sun:V3) (c:Bx) (hl:l.length < 1073741824) (hs:∀ s ∈ l,s.length < 1073741824):PC 33 [shps l,encV sun,encB c] (.tuple [DV.int .i64 ((lgS l sun c).1),DV.int .i64 ((lgS l sun c).2)]):=by
 have k1:=c_checkShapes l hl hs
 have k2:=c_CheckSun sun
 have k3:=c_CheckCell c
 have k4:=c_first [chkShps l,chkSun sun,chkBx c] (by simp)
 refine pureCall_ofR dh33 rfl ?_
 conv=>whnf
 repeat' (first
  |(refine ⟨fun hg=>?_,fun hg=>?_⟩<;>first|contradiction|(conv=>whnf))
  |(refine Or.inl ?_;conv=>whnf)
  |(refine ⟨_,k1,?_⟩;conv=>whnf)
  |(refine ⟨_,k2,?_⟩;conv=>whnf)
  |(refine ⟨_,k3,?_⟩;conv=>whnf)
  |(refine ⟨_,k4,?_⟩;conv=>whnf)
  |(refine And.intro ?_ ?_;kernel_rfl;conv=>whnf))
 ·have hg:lgE l sun c≠0:=of_decide_eq_true hg
  have e:lgS l sun c=(0,lgE l sun c):=if_pos hg
  rw [e];rfl
 ·have hg:¬ lgE l sun c≠0:=of_decide_eq_false hg
  have e:lgS l sun c=(lightS l sun c,0):=if_neg hg
  obtain ⟨⟨h8,h1⟩,h2,h3⟩:=lgE_zero (Classical.not_not.1 hg)
  have k5:=c_light l sun c h8 h1 h2 h3
  repeat' (first
   |(refine ⟨fun hg=>?_,fun hg=>?_⟩<;>first|contradiction|(conv=>whnf))
   |(refine Or.inl ?_;conv=>whnf)
   |(refine ⟨_,k5,?_⟩;conv=>whnf)
   |(refine And.intro ?_ ?_;kernel_rfl;conv=>whnf))
  rw [e];rfl
end Sh

namespace Sh
open Go Go.Proofs
def OkP (p:Pt):Prop:=(-1000≤p.x∧p.x≤1000)∧(-1000≤p.y∧p.y≤1000)
theorem chkTilt_ok {p:Pt} (h:chkTilt p=0):OkP p:=by
 unfold chkTilt at h
 obtain ⟨h1,h⟩:=firstE_cons h
 obtain ⟨h2,h⟩:=firstE_cons h
 have:=withE_zero h1;have:=withE_zero h2
 exact ⟨by omega,by omega⟩
theorem chkPitch_ok {p:Pt} (h:chkPitch p=0):OkP p:=by
 unfold chkPitch at h
 obtain ⟨h1,h⟩:=firstE_cons h
 obtain ⟨h2,h⟩:=firstE_cons h
 have:=withE_zero h1;have:=withE_zero h2
 exact ⟨by omega,by omega⟩
theorem acr_w {p:Pt} {sun:V3} (hp:OkP p) (hs:bdV 1000 sun):IntKind.i64.wrap (IntKind.i64.wrap (p.x * sun.z) - IntKind.i64.wrap (p.y * sun.y))=acr p sun:=by
 have h1:=mul_bd hp.1.1 hp.1.2 hs.2.2.1 hs.2.2.2
 have h2:=mul_bd hp.2.1 hp.2.2 hs.2.1.1 hs.2.1.2
 rw [wrap_in (n:=p.x * sun.z) (by omega) (by omega),wrap_in (n:=p.y * sun.y) (by omega) (by omega),wrap_in (by omega) (by omega)]
 rfl
theorem c_across (p:Pt) (sun:V3) (hp:OkP p) (hs:bdV 1000 sun):PC 123 [encPt p,encV sun] (DV.int .i64 (acr p sun)):=by
 refine pureCall_ofR dh123 rfl ?_
 conv=>whnf
 exact int_eq (acr_w hp hs)
theorem abs_w {n:Int} (h : -2000000≤n∧n≤2000000):(if IntKind.i64.wrap (-n) > n then IntKind.i64.wrap (-n) else n)=absI n:=by
 rw [wrap_in (by omega) (by omega)];rfl
theorem c_room (p:Pt) (sun:V3) (hp:OkP p) (hs:bdV 1000 sun):PC 125 [encPt p,encV sun] (DV.int .i64 (roomI p sun)):=by
 have k1:=c_across p sun hp hs
 have hb:=acr_bd hp.1 hp.2 hs
 refine pureCall_ofR dh125 rfl ?_
 conv=>whnf
 repeat' (first
  |(refine ⟨fun hg=>?_,fun hg=>?_⟩<;>first|contradiction|(conv=>whnf))
  |(refine Or.inl ?_;conv=>whnf)
  |(refine ⟨_,k1,?_⟩;conv=>whnf)
  |(refine And.intro ?_ ?_;kernel_rfl;conv=>whnf))
 exact int_eq (abs_w hb)
theorem wid_w {n:Int} (h : -2000000≤n∧n≤2000000):IntKind.i64.wrap (2 * absI n)=2 * absI n:=by
 have:=absI_eq n
 exact wrap_in (by omega) (by omega)
def encCh (p:Pt) (k g:Int):DV:=.agg [DV.int .i64 (p.x),DV.int .i64 (p.y),DV.int .i64 (g),DV.int .i64 (k)]
theorem c_chosen (p:Pt) (k:Int) (sun:V3) (hp:OkP p) (hs:bdV 1000 sun):PC 126 [encPt p,DV.int .i64 (k),encV sun] (encCh p k (acr p sun)):=by
 have hw:=acr_w hp hs
 refine pureCall_ofR dh126 rfl ?_
 conv=>whnf
 repeat' (first
  |(refine ⟨fun hg=>?_,fun hg=>?_⟩<;>first|contradiction|(conv=>whnf))
  |(refine Or.inl ?_;conv=>whnf)
  |(refine And.intro ?_ ?_;kernel_rfl;conv=>whnf))
 rw [hw]
 rfl
theorem c_width (p:Pt) (k g:Int) (h : -2000000≤g∧g≤2000000):PC 127 [encCh p k g] (DV.int .i64 (2 * absI g)):=by
 refine pureCall_ofR dh127 rfl ?_
 conv=>whnf
 exact int_eq ((congrArg (fun n=>IntKind.i64.wrap (2 * n)) (abs_w h)).trans (wid_w h))
def gnS (p:Pt) (sun:V3):Int×Int:=if firstE [chkTilt p,chkSun sun]≠0 then (0,firstE [chkTilt p,chkSun sun]) else (acr p sun,0)
def rmS (p:Pt) (sun:V3):Int×Int:=if firstE [chkPitch p,chkSun sun]≠0 then (0,firstE [chkPitch p,chkSun sun]) else (roomI p sun,0)
theorem c_Gain (p:Pt) (sun:V3):PC 55 [encPt p,encV sun] (.tuple [DV.int .i64 ((gnS p sun).1),DV.int .i64 ((gnS p sun).2)]):=by
 have k1:=c_checkTilt p
 have k2:=c_CheckSun sun
 have k3:=c_first [chkTilt p,chkSun sun] (by simp)
 refine pureCall_ofR dh55 rfl ?_
 conv=>whnf
 repeat' (first
  |(refine ⟨fun hg=>?_,fun hg=>?_⟩<;>first|contradiction|(conv=>whnf))
  |(refine Or.inl ?_;conv=>whnf)
  |(refine ⟨_,k1,?_⟩;conv=>whnf)
  |(refine ⟨_,k2,?_⟩;conv=>whnf)
  |(refine ⟨_,k3,?_⟩;conv=>whnf)
  |(refine And.intro ?_ ?_;kernel_rfl;conv=>whnf))
 ·have e:gnS p sun=(0,firstE [chkTilt p,chkSun sun]):=if_pos (of_decide_eq_true hg)
  rw [e];rfl
 ·have hg:=of_decide_eq_false hg
  have e:gnS p sun=(acr p sun,0):=if_neg hg
  obtain ⟨z1,h⟩:=firstE_cons (Classical.not_not.1 hg)
  obtain ⟨z2,h⟩:=firstE_cons h
  have k4:=c_across p sun (chkTilt_ok z1) (chkSun_zero z2).1
  repeat' (first
   |(refine ⟨fun hg=>?_,fun hg=>?_⟩<;>first|contradiction|(conv=>whnf))
   |(refine Or.inl ?_;conv=>whnf)
   |(refine ⟨_,k4,?_⟩;conv=>whnf)
   |(refine And.intro ?_ ?_;kernel_rfl;conv=>whnf))
  rw [e];rfl
theorem c_Room (p:Pt) (sun:V3):PC 56 [encPt p,encV sun] (.tuple [DV.int .i64 ((rmS p sun).1),DV.int .i64 ((rmS p sun).2)]):=by
 have k1:=c_checkPitch p
 have k2:=c_CheckSun sun
 have k3:=c_first [chkPitch p,chkSun sun] (by simp)
 refine pureCall_ofR dh56 rfl ?_
 conv=>whnf
 repeat' (first
  |(refine ⟨fun hg=>?_,fun hg=>?_⟩<;>first|contradiction|(conv=>whnf))
  |(refine Or.inl ?_;conv=>whnf)
  |(refine ⟨_,k1,?_⟩;conv=>whnf)
  |(refine ⟨_,k2,?_⟩;conv=>whnf)
  |(refine ⟨_,k3,?_⟩;conv=>whnf)
  |(refine And.intro ?_ ?_;kernel_rfl;conv=>whnf))
 ·have e:rmS p sun=(0,firstE [chkPitch p,chkSun sun]):=if_pos (of_decide_eq_true hg)
  rw [e];rfl
 ·have hg:=of_decide_eq_false hg
  have e:rmS p sun=(roomI p sun,0):=if_neg hg
  obtain ⟨z1,h⟩:=firstE_cons (Classical.not_not.1 hg)
  obtain ⟨z2,h⟩:=firstE_cons h
  have k4:=c_room p sun (chkPitch_ok z1) (chkSun_zero z2).1
  repeat' (first
   |(refine ⟨fun hg=>?_,fun hg=>?_⟩<;>first|contradiction|(conv=>whnf))
   |(refine Or.inl ?_;conv=>whnf)
   |(refine ⟨_,k4,?_⟩;conv=>whnf)
   |(refine And.intro ?_ ?_;kernel_rfl;conv=>whnf))
  rw [e];rfl
def frE (t p:Pt) (sun:V3):Int:=firstE [chkTilt t,chkPitch p,chkSun sun]
def frS (t p:Pt) (sun:V3):Bool×Int:=if frE t p sun≠0 then (false,frE t p sun) else (freeB t p sun,0)
theorem frE_zero {t p:Pt} {sun:V3} (h:frE t p sun=0):OkP t∧OkP p∧bdV 1000 sun∧1≤sun.z:=by
 unfold frE at h
 obtain ⟨z1,h⟩:=firstE_cons h
 obtain ⟨z2,h⟩:=firstE_cons h
 obtain ⟨z3,h⟩:=firstE_cons h
 exact ⟨chkTilt_ok z1,chkPitch_ok z2,chkSun_zero z3⟩
theorem c_Free (t p:Pt) (sun:V3):PC 57 [encPt t,encPt p,encV sun] (.tuple [.bool (frS t p sun).1,DV.int .i64 ((frS t p sun).2)]):=by
 have k1:=c_checkTilt t
 have k2:=c_checkPitch p
 have k3:=c_CheckSun sun
 have k4:=c_first [chkTilt t,chkPitch p,chkSun sun] (by simp)
 refine pureCall_ofR dh57 rfl ?_
 conv=>whnf
 repeat' (first
  |(refine ⟨fun hg=>?_,fun hg=>?_⟩<;>first|contradiction|(conv=>whnf))
  |(refine Or.inl ?_;conv=>whnf)
  |(refine ⟨_,k1,?_⟩;conv=>whnf)
  |(refine ⟨_,k2,?_⟩;conv=>whnf)
  |(refine ⟨_,k3,?_⟩;conv=>whnf)
  |(refine ⟨_,k4,?_⟩;conv=>whnf)
  |(refine And.intro ?_ ?_;kernel_rfl;conv=>whnf))
 ·have e:frS t p sun=(false,frE t p sun):=if_pos (of_decide_eq_true hg)
  rw [e];rfl
 ·have hg:=of_decide_eq_false hg
  have e:frS t p sun=(freeB t p sun,0):=if_neg hg
  obtain ⟨h1,h2,h3,h4⟩:=frE_zero (show frE t p sun=0 from Classical.not_not.1 hg)
  have k5:=c_chosen t 0 sun h1 h3
  have k6:=c_width t 0 _ (acr_bd h1.1 h1.2 h3)
  have k7:=c_room p sun h2 h3
  repeat' (first
   |(refine ⟨fun hg=>?_,fun hg=>?_⟩<;>first|contradiction|(conv=>whnf))
   |(refine Or.inl ?_;conv=>whnf)
   |(refine ⟨_,k5,?_⟩;conv=>whnf)
   |(refine ⟨_,k6,?_⟩;conv=>whnf)
   |(refine ⟨_,k7,?_⟩;conv=>whnf)
   |(refine And.intro ?_ ?_;kernel_rfl;conv=>whnf))
  rw [e];rfl
end Sh
