/-
  Chapter 4's functions, walked over pure data: the library of the walk, the functions' code over data, and what each computes. (part 5)
-/
import Derived.Test.YtbkginjiknnobaaGreatDoorP4
import Derived.Test.YtbkginjiknnobaaGreatDoorProg
import Derived.Lib.ItoaNum
import Derived.Lay
import Derived.Test.YtbkginjiknnobaaGreatDoorRows
import Derived.Test.YtbkginjiknnobaaGreatDoorCards
import Derived.Test.YtbkginjiknnobaaGreatDoorTie
set_option linter.unusedVariables false
set_option linter.unusedSimpArgs false
set_option maxRecDepth 100000
namespace Sh
open Go
def dc14 : DFunc := ⟨19,2,[.tmp 4,.tmp 5],.seq (.ops false [⟨some 2,.box 3 (.tmp 0),none,[]⟩,⟨some 4,.mov (.const (.int .i64 0)),none,[]⟩,⟨some 5,.mov (.const (.int .i64 0)),none,[]⟩]) (.seq (.seq (.ops false [⟨some 7,.load (some 3) (.tmp 2),none,[]⟩,⟨some 8,.call (.func 25) [.tmp 7],none,[]⟩,⟨some 9,.mov (.tmp 1),none,[]⟩,⟨some 10,.call (.func 79) [.tmp 9],none,[]⟩,⟨some 11,.lit true 1 2 (.int .i64 0) [(0,(.tmp 8)),(1,(.tmp 10))],none,[]⟩,⟨some 12,.call (.func 78) [.tmp 11],none,[]⟩,⟨some 6,.mov (.tmp 12),none,[]⟩]) (.seq (.ops false [⟨some 13,.mov (.tmp 6),none,[]⟩,⟨some 14,.bin .neq (.tmp 13) (.const (.int .i64 0)),none,[]⟩]) (.cond (.tmp 14) (.seq (.ops false [⟨some 15,.mov (.tmp 6),none,[]⟩,⟨some 4,.mov (.const (.int .i64 0)),none,[]⟩,⟨some 5,.mov (.tmp 15),none,[]⟩]) .ret) .skip))) (.seq (.ops false [⟨some 16,.load (some 3) (.tmp 2),none,[]⟩,⟨some 17,.mov (.tmp 1),none,[]⟩,⟨some 18,.call (.func 80) [.tmp 16,.tmp 17],none,[]⟩,⟨some 4,.mov (.tmp 18),none,[]⟩,⟨some 5,.mov (.const (.int .i64 0)),none,[]⟩]) .ret))⟩
theorem dh14:cProg Go.Proofs.Tryz.prog ⟨[],[],[11]⟩ 14=some dc14:=by kernel_rfl
def dc16 : DFunc := ⟨27,2,[.tmp 4,.tmp 5,.tmp 6],.seq (.ops false [⟨some 2,.box 3 (.tmp 0),none,[]⟩,⟨some 4,.mov (.const (.int .i64 0)),none,[]⟩,⟨some 5,.mov (.const (.bool false)),none,[]⟩,⟨some 6,.mov (.const (.int .i64 0)),none,[]⟩]) (.seq (.seq (.ops false [⟨some 10,.load (some 3) (.tmp 2),none,[]⟩,⟨some 11,.call (.func 25) [.tmp 10],none,[]⟩,⟨some 12,.mov (.tmp 1),none,[]⟩,⟨some 13,.call (.func 81) [.tmp 12],none,[]⟩,⟨some 14,.lit true 1 2 (.int .i64 0) [(0,(.tmp 11)),(1,(.tmp 13))],none,[]⟩,⟨some 15,.call (.func 78) [.tmp 14],none,[]⟩,⟨some 7,.mov (.tmp 15),none,[]⟩]) (.seq (.ops false [⟨some 16,.mov (.tmp 7),none,[]⟩,⟨some 17,.bin .neq (.tmp 16) (.const (.int .i64 0)),none,[]⟩]) (.cond (.tmp 17) (.seq (.ops false [⟨some 18,.mov (.tmp 7),none,[]⟩,⟨some 4,.mov (.const (.int .i64 0)),none,[]⟩,⟨some 5,.mov (.const (.bool false)),none,[]⟩,⟨some 6,.mov (.tmp 18),none,[]⟩]) .ret) .skip))) (.seq (.ops false [⟨some 20,.load (some 3) (.tmp 2),none,[]⟩,⟨some 21,.mov (.tmp 1),none,[]⟩,⟨some 22,.call (.func 82) [.tmp 20,.tmp 21],none,[]⟩,⟨some 19,.mov (.tmp 22),none,[]⟩,⟨some 23,.extract (.tmp 19) 0,none,[]⟩,⟨some 24,.extract (.tmp 19) 1,none,[]⟩,⟨some 8,.mov (.tmp 23),none,[]⟩,⟨some 9,.mov (.tmp 24),none,[]⟩]) (.seq (.ops false [⟨some 25,.mov (.tmp 8),none,[]⟩,⟨some 26,.mov (.tmp 9),none,[]⟩,⟨some 4,.mov (.tmp 25),none,[]⟩,⟨some 5,.mov (.tmp 26),none,[]⟩,⟨some 6,.mov (.const (.int .i64 0)),none,[]⟩]) .ret)))⟩
theorem dh16:cProg Go.Proofs.Tryz.prog ⟨[],[],[14]⟩ 16=some dc16:=by kernel_rfl
def db23_0 : DC := (.seq (.ops false [⟨some 25,.bin .lss (.tmp 24) (.tmp 23),none,[]⟩]) (.seq (.cond (.tmp 25) .skip (.exit 0)) (.seq (.block 1 none (.seq (.ops false [⟨some 26,.mov (.tmp 24),none,[]⟩,⟨some 27,.iaddr 2 (.tmp 22) (.tmp 24),none,[]⟩,⟨some 28,.load (some 2) (.tmp 27),none,[]⟩,⟨some 6,.alloc (.agg [.int .i64 0,.int .i64 0]) 2,none,[]⟩,⟨some 5,.mov (.tmp 26),none,[]⟩,⟨none,.store 2 (.tmp 6) (.tmp 28),none,[]⟩]) (.seq (.seq (.ops true [⟨some 29,.faddr 0 1 false (.tmp 6),none,[]⟩,⟨some 30,.load none (.tmp 29),none,[0]⟩,⟨some 31,.call (.func 88) [.tmp 30,.const (.int .i64 0),.const (.int .i64 100)],none,[1,0]⟩,⟨some 32,.faddr 1 1 false (.tmp 6),none,[]⟩,⟨some 33,.load none (.tmp 32),none,[3]⟩,⟨some 34,.call (.func 88) [.tmp 33,.const (.int .i64 0),.const (.int .i64 200)],none,[4,3,2,1,0]⟩,⟨some 35,.mov (.tmp 5),none,[]⟩,⟨some 36,.bin .eql (.tmp 35) (.const (.int .i64 0)),none,[6]⟩,⟨some 37,.mov (.tmp 36),none,[7,6,5,4,3,2,1,0]⟩,⟨some 38,.load (some 2) (.tmp 6),some (37,true),[8,7,6,5,4,3,2,1,0]⟩,⟨some 39,.faddr 1 1 false (.tmp 6),some (37,true),[8,7,6,5,4,3,2,1,0]⟩,⟨some 40,.load none (.tmp 39),some (37,true),[10,8,7,6,5,4,3,2,1,0]⟩,⟨some 41,.build [.int .i64 0,.int .i64 0] [(1,(1,(.tmp 40)))],some (37,true),[11,10,8,7,6,5,4,3,2,1,0]⟩,⟨some 42,.eqA true [1,1] (.tmp 38) (.tmp 41),some (37,true),[9,8,7,6,5,4,3,2,1,0,12,11,10]⟩,⟨some 43,.pick (.tmp 37) (.tmp 42) (.const (.bool false)),none,[8,7,6,5,4,3,2,1,0,13,9,12,11,10]⟩,⟨some 44,.mov (.tmp 43),none,[14,8,7,6,5,4,3,2,1,0,13,9,12,11,10]⟩,⟨some 45,.faddr 0 1 false (.tmp 6),some (44,false),[15,14,8,7,6,5,4,3,2,1,0,13,9,12,11,10]⟩,⟨some 46,.load none (.tmp 45),some (44,false),[16,15,14,8,7,6,5,4,3,2,1,0,13,9,12,11,10]⟩,⟨some 47,.faddr 0 1 false (.tmp 4),some (44,false),[15,14,8,7,6,5,4,3,2,1,0,13,9,12,11,10]⟩,⟨some 48,.load none (.tmp 47),some (44,false),[18,15,14,8,7,6,5,4,3,2,1,0,13,9,12,11,10]⟩,⟨some 49,.bin .leq (.tmp 46) (.tmp 48),some (44,false),[17,16,15,14,8,7,6,5,4,3,2,1,0,13,9,12,11,10,19,18]⟩,⟨some 50,.pick (.tmp 44) (.const (.bool true)) (.tmp 49),none,[15,14,8,7,6,5,4,3,2,1,0,13,9,12,11,10,20,17,16,19,18]⟩,⟨some 51,.mov (.tmp 50),none,[21,15,14,8,7,6,5,4,3,2,1,0,13,9,12,11,10,20,17,16,19,18]⟩,⟨some 52,.faddr 1 1 false (.tmp 6),some (51,false),[22,21,15,14,8,7,6,5,4,3,2,1,0,13,9,12,11,10,20,17,16,19,18]⟩,⟨some 53,.load none (.tmp 52),some (51,false),[23,22,21,15,14,8,7,6,5,4,3,2,1,0,13,9,12,11,10,20,17,16,19,18]⟩,⟨some 54,.faddr 1 1 false (.tmp 4),some (51,false),[22,21,15,14,8,7,6,5,4,3,2,1,0,13,9,12,11,10,20,17,16,19,18]⟩,⟨some 55,.load none (.tmp 54),some (51,false),[25,22,21,15,14,8,7,6,5,4,3,2,1,0,13,9,12,11,10,20,17,16,19,18]⟩,⟨some 56,.bin .gtr (.tmp 53) (.tmp 55),some (51,false),[24,23,22,21,15,14,8,7,6,5,4,3,2,1,0,13,9,12,11,10,20,17,16,19,18,26,25]⟩,⟨some 57,.pick (.tmp 51) (.const (.bool true)) (.tmp 56),none,[22,21,15,14,8,7,6,5,4,3,2,1,0,13,9,12,11,10,20,17,16,19,18,27,24,23,26,25]⟩,⟨some 58,.call (.func 87) [.tmp 57,.const (.int .i64 11)],none,[28,22,21,15,14,8,7,6,5,4,3,2,1,0,13,9,12,11,10,20,17,16,19,18,27,24,23,26,25]⟩,⟨some 59,.lit true 1 3 (.int .i64 0) [(0,(.tmp 31)),(1,(.tmp 34)),(2,(.tmp 58))],none,[2,1,0,5,4,3,29,28,22,21,15,14,8,7,6,13,9,12,11,10,20,17,16,19,18,27,24,23,26,25]⟩,⟨some 60,.call (.func 78) [.tmp 59],none,[30,2,1,0,5,4,3,29,28,22,21,15,14,8,7,6,13,9,12,11,10,20,17,16,19,18,27,24,23,26,25]⟩,⟨some 7,.mov (.tmp 60),none,[31,30,2,1,0,5,4,3,29,28,22,21,15,14,8,7,6,13,9,12,11,10,20,17,16,19,18,27,24,23,26,25]⟩]) (.seq (.ops false [⟨some 61,.mov (.tmp 7),none,[]⟩,⟨some 62,.bin .neq (.tmp 61) (.const (.int .i64 0)),none,[]⟩]) (.cond (.tmp 62) (.seq (.ops false [⟨some 63,.mov (.tmp 7),none,[]⟩,⟨some 2,.mov (.tmp 63),none,[]⟩]) .ret) .skip))) (.ops false [⟨some 64,.load (some 2) (.tmp 6),none,[]⟩,⟨none,.store 2 (.tmp 4) (.tmp 64),none,[]⟩])))) (.ops false [⟨some 65,.bin .add (.tmp 24) (.const (.int .i64 1)),none,[]⟩,⟨some 24,.mov (.tmp 65),none,[]⟩]))))
def dk23_0 : Keep := ⟨[],[4,22,23,24],[4,16]⟩
def dc23 : DFunc := ⟨70,1,[.tmp 2],.seq (.ops false [⟨some 2,.mov (.const (.int .i64 0)),none,[]⟩]) (.seq (.seq (.ops false [⟨some 8,.mov (.tmp 0),none,[]⟩,⟨some 9,.len (.tmp 8),none,[]⟩,⟨some 10,.bin .lss (.tmp 9) (.const (.int .i64 2)),none,[]⟩,⟨some 11,.call (.func 87) [.tmp 10,.const (.int .i64 16)],none,[]⟩,⟨some 12,.mov (.tmp 0),none,[]⟩,⟨some 13,.len (.tmp 12),none,[]⟩,⟨some 14,.bin .gtr (.tmp 13) (.const (.int .i64 8)),none,[]⟩,⟨some 15,.call (.func 87) [.tmp 14,.const (.int .i64 5)],none,[]⟩,⟨some 16,.lit true 1 2 (.int .i64 0) [(0,(.tmp 11)),(1,(.tmp 15))],none,[]⟩,⟨some 17,.call (.func 78) [.tmp 16],none,[]⟩,⟨some 3,.mov (.tmp 17),none,[]⟩]) (.seq (.ops false [⟨some 18,.mov (.tmp 3),none,[]⟩,⟨some 19,.bin .neq (.tmp 18) (.const (.int .i64 0)),none,[]⟩]) (.cond (.tmp 19) (.seq (.ops false [⟨some 20,.mov (.tmp 3),none,[]⟩,⟨some 2,.mov (.tmp 20),none,[]⟩]) .ret) .skip))) (.seq (.ops false [⟨some 21,.build [.int .i64 0,.int .i64 0] [(0,(1,(.const (.int .i64 (-1))))),(1,(1,(.const (.int .i64 200))))],none,[]⟩,⟨some 4,.alloc (.agg [.int .i64 0,.int .i64 0]) 2,none,[]⟩,⟨none,.store 2 (.tmp 4) (.tmp 21),none,[]⟩]) (.seq (.seq (.ops false [⟨some 22,.mov (.tmp 0),none,[]⟩,⟨some 23,.len (.tmp 22),none,[]⟩,⟨some 24,.mov (.const (.int .i64 0)),none,[]⟩]) (.block 0 (some ⟨[],[4],[4,16]⟩) (.loop dk23_0 db23_0))) (.seq (.ops false [⟨some 66,.faddr 1 1 false (.tmp 4),none,[]⟩,⟨some 67,.load none (.tmp 66),none,[]⟩,⟨some 68,.bin .neq (.tmp 67) (.const (.int .i64 0)),none,[]⟩,⟨some 69,.call (.func 87) [.tmp 68,.const (.int .i64 32)],none,[]⟩,⟨some 2,.mov (.tmp 69),none,[]⟩]) .ret))))⟩
theorem dh23:cProg Go.Proofs.Tryz.prog ⟨[(0,⟨[],[4,22,23,24],[4,16]⟩)],[(0,⟨[],[4],[4,16]⟩)],[16,59]⟩ 23=some dc23:=by kernel_rfl
def dc25 : DFunc := ⟨14,1,[.tmp 2],.seq (.ops false [⟨some 1,.box 3 (.tmp 0),none,[]⟩,⟨some 2,.mov (.const (.int .i64 0)),none,[]⟩]) (.seq (.ops true [⟨some 3,.faddr 0 1 false (.tmp 1),none,[]⟩,⟨some 4,.load none (.tmp 3),none,[0]⟩,⟨some 5,.call (.func 23) [.tmp 4],none,[1,0]⟩,⟨some 6,.faddr 1 1 false (.tmp 1),none,[]⟩,⟨some 7,.load none (.tmp 6),none,[3]⟩,⟨some 8,.call (.func 88) [.tmp 7,.const (.int .i64 0),.const (.int .i64 1000)],none,[4,3,2,1,0]⟩,⟨some 9,.faddr 2 1 false (.tmp 1),none,[]⟩,⟨some 10,.load none (.tmp 9),none,[6]⟩,⟨some 11,.call (.func 88) [.tmp 10,.const (.int .i64 0),.const (.int .i64 10)],none,[7,6,5,4,3,2,1,0]⟩,⟨some 12,.lit true 1 3 (.int .i64 0) [(0,(.tmp 5)),(1,(.tmp 8)),(2,(.tmp 11))],none,[2,1,0,5,4,3,8,7,6]⟩,⟨some 13,.call (.func 78) [.tmp 12],none,[9,2,1,0,5,4,3,8,7,6]⟩,⟨some 2,.mov (.tmp 13),none,[10,9,2,1,0,5,4,3,8,7,6]⟩]) .ret)⟩
theorem dh25:cProg Go.Proofs.Tryz.prog ⟨[],[],[12]⟩ 25=some dc25:=by kernel_rfl
def dc28 : DFunc := ⟨19,2,[.tmp 4,.tmp 5],.seq (.ops false [⟨some 4,.mov (.const (.int .i64 0)),none,[]⟩,⟨some 5,.mov (.const (.int .i64 0)),none,[]⟩]) (.seq (.seq (.ops false [⟨some 7,.mov (.tmp 0),none,[]⟩,⟨some 8,.call (.func 36) [.tmp 7],none,[]⟩,⟨some 9,.mov (.tmp 1),none,[]⟩,⟨some 10,.call (.func 81) [.tmp 9],none,[]⟩,⟨some 11,.lit true 1 2 (.int .i64 0) [(0,(.tmp 8)),(1,(.tmp 10))],none,[]⟩,⟨some 12,.call (.func 78) [.tmp 11],none,[]⟩,⟨some 6,.mov (.tmp 12),none,[]⟩]) (.seq (.ops false [⟨some 13,.mov (.tmp 6),none,[]⟩,⟨some 14,.bin .neq (.tmp 13) (.const (.int .i64 0)),none,[]⟩]) (.cond (.tmp 14) (.seq (.ops false [⟨some 15,.mov (.tmp 6),none,[]⟩,⟨some 4,.mov (.const (.int .i64 0)),none,[]⟩,⟨some 5,.mov (.tmp 15),none,[]⟩]) .ret) .skip))) (.seq (.ops false [⟨some 16,.mov (.tmp 0),none,[]⟩,⟨some 17,.mov (.tmp 1),none,[]⟩,⟨some 18,.call (.func 89) [.tmp 16,.tmp 17],none,[]⟩,⟨some 4,.mov (.tmp 18),none,[]⟩,⟨some 5,.mov (.const (.int .i64 0)),none,[]⟩]) .ret))⟩
theorem dh28:cProg Go.Proofs.Tryz.prog ⟨[],[],[11]⟩ 28=some dc28:=by kernel_rfl
def dc30 : DFunc := ⟨22,2,[.tmp 4,.tmp 5],.seq (.ops false [⟨some 4,.mov (.const (.int .i64 0)),none,[]⟩,⟨some 5,.mov (.const (.int .i64 0)),none,[]⟩]) (.seq (.seq (.ops false [⟨some 7,.mov (.tmp 0),none,[]⟩,⟨some 8,.call (.func 36) [.tmp 7],none,[]⟩,⟨some 9,.mov (.tmp 1),none,[]⟩,⟨some 10,.call (.func 79) [.tmp 9],none,[]⟩,⟨some 11,.lit true 1 2 (.int .i64 0) [(0,(.tmp 8)),(1,(.tmp 10))],none,[]⟩,⟨some 12,.call (.func 78) [.tmp 11],none,[]⟩,⟨some 6,.mov (.tmp 12),none,[]⟩]) (.seq (.ops false [⟨some 13,.mov (.tmp 6),none,[]⟩,⟨some 14,.bin .neq (.tmp 13) (.const (.int .i64 0)),none,[]⟩]) (.cond (.tmp 14) (.seq (.ops false [⟨some 15,.mov (.tmp 6),none,[]⟩,⟨some 4,.mov (.const (.int .i64 0)),none,[]⟩,⟨some 5,.mov (.tmp 15),none,[]⟩]) .ret) .skip))) (.seq (.ops false [⟨some 16,.mov (.tmp 0),none,[]⟩,⟨some 17,.mov (.tmp 1),none,[]⟩,⟨some 18,.call (.func 90) [.tmp 16,.tmp 17],none,[]⟩,⟨some 19,.mov (.tmp 1),none,[]⟩,⟨some 20,.iaddr 1 (.tmp 18) (.tmp 19),none,[]⟩,⟨some 21,.load none (.tmp 20),none,[]⟩,⟨some 4,.mov (.tmp 21),none,[]⟩,⟨some 5,.mov (.const (.int .i64 0)),none,[]⟩]) .ret))⟩
theorem dh30:cProg Go.Proofs.Tryz.prog ⟨[],[],[11]⟩ 30=some dc30:=by kernel_rfl
def db31_0 : DC := (.seq (.ops false [⟨some 24,.bin .lss (.tmp 23) (.tmp 22),none,[]⟩]) (.seq (.cond (.tmp 24) .skip (.exit 0)) (.seq (.block 1 none (.seq (.ops false [⟨some 25,.mov (.tmp 23),none,[]⟩,⟨some 26,.iaddr 3 (.tmp 21) (.tmp 23),none,[]⟩,⟨some 27,.load (some 3) (.tmp 26),none,[]⟩,⟨some 9,.alloc (.agg [.full [],.int .i64 0,.int .i64 0]) 3,none,[]⟩,⟨some 8,.mov (.tmp 25),none,[]⟩,⟨none,.store 3 (.tmp 9) (.tmp 27),none,[]⟩]) (.seq (.ops false [⟨some 29,.load (some 3) (.tmp 9),none,[]⟩,⟨some 30,.mov (.tmp 1),none,[]⟩,⟨some 31,.call (.func 82) [.tmp 29,.tmp 30],none,[]⟩,⟨some 28,.mov (.tmp 31),none,[]⟩,⟨some 32,.extract (.tmp 28) 0,none,[]⟩,⟨some 33,.extract (.tmp 28) 1,none,[]⟩,⟨some 10,.mov (.tmp 32),none,[]⟩,⟨some 11,.mov (.tmp 33),none,[]⟩]) (.seq (.ops false [⟨some 34,.mov (.tmp 11),none,[]⟩,⟨some 35,.un .not (.tmp 34),none,[]⟩]) (.cond (.tmp 35) (.ops false [⟨some 36,.mov (.tmp 7),none,[]⟩,⟨some 37,.mov (.tmp 8),none,[]⟩,⟨some 38,.lit true 1 1 (.int .i64 0) [(0,(.tmp 37))],none,[]⟩,⟨some 39,.append false 1 (.tmp 36) (.tmp 38),none,[]⟩,⟨some 7,.mov (.tmp 39),none,[]⟩]) .skip))))) (.ops false [⟨some 40,.bin .add (.tmp 23) (.const (.int .i64 1)),none,[]⟩,⟨some 23,.mov (.tmp 40),none,[]⟩]))))
def dk31_0 : Keep := ⟨[(7,1)],[1,7,21,22,23],[7,16]⟩
def dc31 : DFunc := ⟨42,2,[.tmp 4,.tmp 5],.seq (.ops false [⟨some 4,.mov (.const (.slice none 0 0)),none,[]⟩,⟨some 5,.mov (.const (.int .i64 0)),none,[]⟩]) (.seq (.seq (.ops false [⟨some 12,.mov (.tmp 0),none,[]⟩,⟨some 13,.call (.func 36) [.tmp 12],none,[]⟩,⟨some 14,.mov (.tmp 1),none,[]⟩,⟨some 15,.call (.func 81) [.tmp 14],none,[]⟩,⟨some 16,.lit true 1 2 (.int .i64 0) [(0,(.tmp 13)),(1,(.tmp 15))],none,[]⟩,⟨some 17,.call (.func 78) [.tmp 16],none,[]⟩,⟨some 6,.mov (.tmp 17),none,[]⟩]) (.seq (.ops false [⟨some 18,.mov (.tmp 6),none,[]⟩,⟨some 19,.bin .neq (.tmp 18) (.const (.int .i64 0)),none,[]⟩]) (.cond (.tmp 19) (.seq (.ops false [⟨some 20,.mov (.tmp 6),none,[]⟩,⟨some 4,.mov (.const (.slice none 0 0)),none,[]⟩,⟨some 5,.mov (.tmp 20),none,[]⟩]) .ret) .skip))) (.seq (.ops false [⟨some 7,.mov (.const (.slice none 0 0)),none,[]⟩]) (.seq (.seq (.ops false [⟨some 21,.mov (.tmp 0),none,[]⟩,⟨some 22,.len (.tmp 21),none,[]⟩,⟨some 23,.mov (.const (.int .i64 0)),none,[]⟩]) (.block 0 (some ⟨[],[7],[7,16]⟩) (.loop dk31_0 db31_0))) (.seq (.ops false [⟨some 41,.mov (.tmp 7),none,[]⟩,⟨some 4,.mov (.tmp 41),none,[]⟩,⟨some 5,.mov (.const (.int .i64 0)),none,[]⟩]) .ret))))⟩
theorem dh31:cProg Go.Proofs.Tryz.prog ⟨[(0,⟨[(7,1)],[1,7,21,22,23],[7,16]⟩)],[(0,⟨[],[7],[7,16]⟩)],[16,38]⟩ 31=some dc31:=by kernel_rfl
def dc36 : DFunc := ⟨13,1,[.tmp 2],.seq (.ops false [⟨some 2,.mov (.const (.int .i64 0)),none,[]⟩]) (.seq (.seq (.ops false [⟨some 4,.mov (.tmp 0),none,[]⟩,⟨some 5,.len (.tmp 4),none,[]⟩,⟨some 6,.call (.func 93) [.tmp 5,.const (.int .i64 8)],none,[]⟩,⟨some 3,.mov (.tmp 6),none,[]⟩]) (.seq (.ops false [⟨some 7,.mov (.tmp 3),none,[]⟩,⟨some 8,.bin .neq (.tmp 7) (.const (.int .i64 0)),none,[]⟩]) (.cond (.tmp 8) (.seq (.ops false [⟨some 9,.mov (.tmp 3),none,[]⟩,⟨some 2,.mov (.tmp 9),none,[]⟩]) .ret) .skip))) (.seq (.ops false [⟨some 10,.mov (.tmp 0),none,[]⟩,⟨some 11,.call (.func 94) [.tmp 10,.func 25],none,[]⟩,⟨some 12,.call (.func 78) [.tmp 11],none,[]⟩,⟨some 2,.mov (.tmp 12),none,[]⟩]) .ret))⟩
theorem dh36:cProg Go.Proofs.Tryz.prog ⟨[],[],[]⟩ 36=some dc36:=by kernel_rfl
def dc39 : DFunc := ⟨12,1,[.tmp 2,.tmp 3],.seq (.ops false [⟨some 2,.mov (.const (.int .i64 0)),none,[]⟩,⟨some 3,.mov (.const (.int .i64 0)),none,[]⟩]) (.seq (.seq (.ops false [⟨some 5,.mov (.tmp 0),none,[]⟩,⟨some 6,.call (.func 50) [.tmp 5],none,[]⟩,⟨some 4,.mov (.tmp 6),none,[]⟩]) (.seq (.ops false [⟨some 7,.mov (.tmp 4),none,[]⟩,⟨some 8,.bin .neq (.tmp 7) (.const (.int .i64 0)),none,[]⟩]) (.cond (.tmp 8) (.seq (.ops false [⟨some 9,.mov (.tmp 4),none,[]⟩,⟨some 2,.mov (.const (.int .i64 0)),none,[]⟩,⟨some 3,.mov (.tmp 9),none,[]⟩]) .ret) .skip))) (.seq (.ops false [⟨some 10,.mov (.tmp 0),none,[]⟩,⟨some 11,.call (.func 95) [.tmp 10],none,[]⟩,⟨some 2,.mov (.tmp 11),none,[]⟩,⟨some 3,.mov (.const (.int .i64 0)),none,[]⟩]) .ret))⟩
theorem dh39:cProg Go.Proofs.Tryz.prog ⟨[],[],[]⟩ 39=some dc39:=by kernel_rfl
def dc41 : DFunc := ⟨22,2,[.tmp 4,.tmp 5],.seq (.ops false [⟨some 4,.mov (.const (.int .i64 0)),none,[]⟩,⟨some 5,.mov (.const (.int .i64 0)),none,[]⟩]) (.seq (.seq (.ops false [⟨some 7,.mov (.tmp 0),none,[]⟩,⟨some 8,.call (.func 50) [.tmp 7],none,[]⟩,⟨some 9,.mov (.tmp 1),none,[]⟩,⟨some 10,.call (.func 79) [.tmp 9],none,[]⟩,⟨some 11,.lit true 1 2 (.int .i64 0) [(0,(.tmp 8)),(1,(.tmp 10))],none,[]⟩,⟨some 12,.call (.func 78) [.tmp 11],none,[]⟩,⟨some 6,.mov (.tmp 12),none,[]⟩]) (.seq (.ops false [⟨some 13,.mov (.tmp 6),none,[]⟩,⟨some 14,.bin .neq (.tmp 13) (.const (.int .i64 0)),none,[]⟩]) (.cond (.tmp 14) (.seq (.ops false [⟨some 15,.mov (.tmp 6),none,[]⟩,⟨some 4,.mov (.const (.int .i64 0)),none,[]⟩,⟨some 5,.mov (.tmp 15),none,[]⟩]) .ret) .skip))) (.seq (.ops false [⟨some 16,.mov (.tmp 0),none,[]⟩,⟨some 17,.mov (.tmp 1),none,[]⟩,⟨some 18,.call (.func 96) [.tmp 16,.tmp 17],none,[]⟩,⟨some 19,.mov (.tmp 1),none,[]⟩,⟨some 20,.iaddr 1 (.tmp 18) (.tmp 19),none,[]⟩,⟨some 21,.load none (.tmp 20),none,[]⟩,⟨some 4,.mov (.tmp 21),none,[]⟩,⟨some 5,.mov (.const (.int .i64 0)),none,[]⟩]) .ret))⟩
theorem dh41:cProg Go.Proofs.Tryz.prog ⟨[],[],[11]⟩ 41=some dc41:=by kernel_rfl
def dc42 : DFunc := ⟨20,2,[.tmp 4,.tmp 5],.seq (.ops false [⟨some 4,.mov (.const (.int .i64 0)),none,[]⟩,⟨some 5,.mov (.const (.int .i64 0)),none,[]⟩]) (.seq (.ops false [⟨some 9,.mov (.tmp 0),none,[]⟩,⟨some 10,.mov (.tmp 1),none,[]⟩,⟨some 11,.call (.func 41) [.tmp 9,.tmp 10],none,[]⟩,⟨some 8,.mov (.tmp 11),none,[]⟩,⟨some 12,.extract (.tmp 8) 0,none,[]⟩,⟨some 13,.extract (.tmp 8) 1,none,[]⟩,⟨some 6,.mov (.tmp 12),none,[]⟩,⟨some 7,.mov (.tmp 13),none,[]⟩]) (.seq (.seq (.ops false [⟨some 14,.mov (.tmp 7),none,[]⟩,⟨some 15,.bin .neq (.tmp 14) (.const (.int .i64 0)),none,[]⟩]) (.cond (.tmp 15) (.seq (.ops false [⟨some 16,.mov (.tmp 7),none,[]⟩,⟨some 4,.mov (.const (.int .i64 0)),none,[]⟩,⟨some 5,.mov (.tmp 16),none,[]⟩]) .ret) .skip)) (.seq (.ops false [⟨some 17,.mov (.tmp 1),none,[]⟩,⟨some 18,.mov (.tmp 6),none,[]⟩,⟨some 19,.bin .mul (.tmp 17) (.tmp 18),none,[]⟩,⟨some 4,.mov (.tmp 19),none,[]⟩,⟨some 5,.mov (.const (.int .i64 0)),none,[]⟩]) .ret)))⟩
theorem dh42:cProg Go.Proofs.Tryz.prog ⟨[],[],[]⟩ 42=some dc42:=by kernel_rfl
def dc43 : DFunc := ⟨14,1,[.tmp 2,.tmp 3],.seq (.ops false [⟨some 2,.mov (.const (.slice none 0 0)),none,[]⟩,⟨some 3,.mov (.const (.int .i64 0)),none,[]⟩]) (.seq (.seq (.ops false [⟨some 5,.mov (.tmp 0),none,[]⟩,⟨some 6,.call (.func 50) [.tmp 5],none,[]⟩,⟨some 4,.mov (.tmp 6),none,[]⟩]) (.seq (.ops false [⟨some 7,.mov (.tmp 4),none,[]⟩,⟨some 8,.bin .neq (.tmp 7) (.const (.int .i64 0)),none,[]⟩]) (.cond (.tmp 8) (.seq (.ops false [⟨some 9,.mov (.tmp 4),none,[]⟩,⟨some 2,.mov (.const (.slice none 0 0)),none,[]⟩,⟨some 3,.mov (.tmp 9),none,[]⟩]) .ret) .skip))) (.seq (.ops false [⟨some 10,.mov (.tmp 0),none,[]⟩,⟨some 11,.mov (.tmp 0),none,[]⟩,⟨some 12,.call (.func 95) [.tmp 11],none,[]⟩,⟨some 13,.call (.func 96) [.tmp 10,.tmp 12],none,[]⟩,⟨some 2,.mov (.tmp 13),none,[]⟩,⟨some 3,.mov (.const (.int .i64 0)),none,[]⟩]) .ret))⟩
theorem dh43:cProg Go.Proofs.Tryz.prog ⟨[],[],[]⟩ 43=some dc43:=by kernel_rfl
def db44_0 : DC := (.seq (.ops false [⟨some 26,.bin .lss (.tmp 25) (.tmp 24),none,[]⟩]) (.seq (.cond (.tmp 26) .skip (.exit 0)) (.seq (.block 1 none (.seq (.ops false [⟨some 27,.mov (.tmp 25),none,[]⟩,⟨some 8,.mov (.tmp 27),none,[]⟩]) (.seq (.ops false [⟨some 29,.mov (.tmp 0),none,[]⟩,⟨some 30,.mov (.tmp 8),none,[]⟩,⟨some 31,.mov (.tmp 8),none,[]⟩,⟨some 32,.bin .add (.tmp 31) (.const (.int .i64 1)),none,[]⟩,⟨some 33,.slice 1 (.tmp 29) (some (.tmp 30)) (some (.tmp 32)) none,none,[]⟩,⟨some 34,.call (.func 55) [.tmp 33],none,[]⟩,⟨some 28,.mov (.tmp 34),none,[]⟩,⟨some 35,.extract (.tmp 28) 0,none,[]⟩,⟨some 36,.extract (.tmp 28) 1,none,[]⟩,⟨some 37,.extract (.tmp 28) 2,none,[]⟩,⟨some 9,.mov (.tmp 35),none,[]⟩,⟨some 10,.mov (.tmp 36),none,[]⟩,⟨some 11,.mov (.tmp 37),none,[]⟩]) (.ops false [⟨some 38,.mov (.tmp 7),none,[]⟩,⟨some 39,.mov (.tmp 10),none,[]⟩,⟨some 40,.bin .add (.tmp 38) (.tmp 39),none,[]⟩,⟨some 7,.mov (.tmp 40),none,[]⟩])))) (.ops false [⟨some 41,.bin .add (.tmp 25) (.const (.int .i64 1)),none,[]⟩,⟨some 25,.mov (.tmp 41),none,[]⟩]))))
def dk44_0 : Keep := ⟨[],[0,7,24,25],[]⟩
def dc44 : DFunc := ⟨43,1,[.tmp 2,.tmp 3],.seq (.ops false [⟨some 2,.mov (.const (.int .i64 0)),none,[]⟩,⟨some 3,.mov (.const (.int .i64 0)),none,[]⟩]) (.seq (.ops false [⟨some 13,.mov (.tmp 0),none,[]⟩,⟨some 14,.call (.func 55) [.tmp 13],none,[]⟩,⟨some 12,.mov (.tmp 14),none,[]⟩,⟨some 15,.extract (.tmp 12) 0,none,[]⟩,⟨some 16,.extract (.tmp 12) 1,none,[]⟩,⟨some 17,.extract (.tmp 12) 2,none,[]⟩,⟨some 4,.mov (.tmp 15),none,[]⟩,⟨some 5,.mov (.tmp 16),none,[]⟩,⟨some 6,.mov (.tmp 17),none,[]⟩]) (.seq (.seq (.ops false [⟨some 18,.mov (.tmp 6),none,[]⟩,⟨some 19,.bin .neq (.tmp 18) (.const (.int .i64 0)),none,[]⟩]) (.cond (.tmp 19) (.seq (.ops false [⟨some 20,.mov (.tmp 6),none,[]⟩,⟨some 2,.mov (.const (.int .i64 0)),none,[]⟩,⟨some 3,.mov (.tmp 20),none,[]⟩]) .ret) .skip)) (.seq (.ops false [⟨some 21,.mov (.tmp 5),none,[]⟩,⟨some 22,.un .neg (.tmp 21),none,[]⟩,⟨some 7,.mov (.tmp 22),none,[]⟩]) (.seq (.seq (.ops false [⟨some 23,.mov (.tmp 0),none,[]⟩,⟨some 24,.len (.tmp 23),none,[]⟩,⟨some 25,.mov (.const (.int .i64 0)),none,[]⟩]) (.block 0 (some ⟨[],[7],[]⟩) (.loop dk44_0 db44_0))) (.seq (.ops false [⟨some 42,.mov (.tmp 7),none,[]⟩,⟨some 2,.mov (.tmp 42),none,[]⟩,⟨some 3,.mov (.const (.int .i64 0)),none,[]⟩]) .ret)))))⟩
theorem dh44:cProg Go.Proofs.Tryz.prog ⟨[(0,⟨[],[0,7,24,25],[]⟩)],[(0,⟨[],[7],[]⟩)],[]⟩ 44=some dc44:=by kernel_rfl
def dc50 : DFunc := ⟨13,1,[.tmp 2],.seq (.ops false [⟨some 2,.mov (.const (.int .i64 0)),none,[]⟩]) (.seq (.seq (.ops false [⟨some 4,.mov (.tmp 0),none,[]⟩,⟨some 5,.len (.tmp 4),none,[]⟩,⟨some 6,.call (.func 93) [.tmp 5,.const (.int .i64 6)],none,[]⟩,⟨some 3,.mov (.tmp 6),none,[]⟩]) (.seq (.ops false [⟨some 7,.mov (.tmp 3),none,[]⟩,⟨some 8,.bin .neq (.tmp 7) (.const (.int .i64 0)),none,[]⟩]) (.cond (.tmp 8) (.seq (.ops false [⟨some 9,.mov (.tmp 3),none,[]⟩,⟨some 2,.mov (.tmp 9),none,[]⟩]) .ret) .skip))) (.seq (.ops false [⟨some 10,.mov (.tmp 0),none,[]⟩,⟨some 11,.call (.func 98) [.tmp 10,.func 36],none,[]⟩,⟨some 12,.call (.func 78) [.tmp 11],none,[]⟩,⟨some 2,.mov (.tmp 12),none,[]⟩]) .ret))⟩
theorem dh50:cProg Go.Proofs.Tryz.prog ⟨[],[],[]⟩ 50=some dc50:=by kernel_rfl
def dc51 : DFunc := ⟨39,3,[.cell 6 (some 2),.tmp 7],.seq (.ops false [⟨some 6,.alloc (.agg [.int .i64 0,.int .i64 0]) 2,none,[]⟩,⟨some 7,.mov (.const (.int .i64 0)),none,[]⟩]) (.seq (.seq (.ops false [⟨some 9,.mov (.tmp 0),none,[]⟩,⟨some 10,.call (.func 50) [.tmp 9],none,[]⟩,⟨some 11,.mov (.tmp 1),none,[]⟩,⟨some 12,.call (.func 79) [.tmp 11],none,[]⟩,⟨some 13,.mov (.tmp 2),none,[]⟩,⟨some 14,.call (.func 88) [.tmp 13,.const (.int .i64 0),.const (.int .i64 1000)],none,[]⟩,⟨some 15,.lit true 1 3 (.int .i64 0) [(0,(.tmp 10)),(1,(.tmp 12)),(2,(.tmp 14))],none,[]⟩,⟨some 16,.call (.func 78) [.tmp 15],none,[]⟩,⟨some 8,.mov (.tmp 16),none,[]⟩]) (.seq (.ops false [⟨some 17,.mov (.tmp 8),none,[]⟩,⟨some 18,.bin .neq (.tmp 17) (.const (.int .i64 0)),none,[]⟩]) (.cond (.tmp 18) (.seq (.ops false [⟨some 19,.build [.int .i64 0,.int .i64 0] [],none,[]⟩,⟨some 20,.mov (.tmp 8),none,[]⟩,⟨none,.store 2 (.tmp 6) (.tmp 19),none,[]⟩,⟨some 7,.mov (.tmp 20),none,[]⟩]) .ret) .skip))) (.seq (.ops true [⟨some 21,.mov (.tmp 0),none,[]⟩,⟨some 22,.mov (.tmp 2),none,[]⟩,⟨some 23,.un .neg (.tmp 22),none,[1]⟩,⟨some 24,.call (.func 99) [.tmp 21,.tmp 23],none,[0,2,1]⟩,⟨some 25,.mov (.tmp 1),none,[]⟩,⟨some 26,.call (.func 96) [.tmp 24,.tmp 25],none,[3,0,2,1,4]⟩,⟨some 27,.mov (.tmp 1),none,[]⟩,⟨some 28,.iaddr 1 (.tmp 26) (.tmp 27),none,[5,3,0,2,1,4,6]⟩,⟨some 29,.load none (.tmp 28),none,[7,5,3,0,2,1,4,6]⟩,⟨some 30,.mov (.tmp 0),none,[]⟩,⟨some 31,.mov (.tmp 2),none,[]⟩,⟨some 32,.call (.func 99) [.tmp 30,.tmp 31],none,[9,10,5,3,0,2,1,4]⟩,⟨some 33,.mov (.tmp 1),none,[]⟩,⟨some 34,.call (.func 96) [.tmp 32,.tmp 33],none,[11,9,10,5,3,0,2,1,4,12]⟩,⟨some 35,.mov (.tmp 1),none,[]⟩,⟨some 36,.iaddr 1 (.tmp 34) (.tmp 35),none,[13,11,9,10,5,3,0,2,1,4,12,14]⟩,⟨some 37,.load none (.tmp 36),none,[15,13,11,9,10,5,3,0,2,1,4,12,14]⟩,⟨some 38,.build [.int .i64 0,.int .i64 0] [(0,(1,(.tmp 29))),(1,(1,(.tmp 37)))],none,[8,7,5,3,0,2,1,4,6,16,15,13,11,9,10,12,14]⟩,⟨none,.store 2 (.tmp 6) (.tmp 38),none,[17,8,7,5,3,0,2,1,4,6,16,15,13,11,9,10,12,14]⟩,⟨some 7,.mov (.const (.int .i64 0)),none,[18,17,8,7,5,3,0,2,1,4,6,16,15,13,11,9,10,12,14]⟩]) .ret))⟩
theorem dh51:cProg Go.Proofs.Tryz.prog ⟨[],[],[15]⟩ 51=some dc51:=by kernel_rfl
def db54_0 : DC := (.seq (.seq (.ops true [⟨some 47,.mov (.tmp 9),none,[]⟩,⟨some 48,.bin .add (.tmp 47) (.const (.int .i64 1)),none,[0]⟩,⟨some 49,.mov (.tmp 5),none,[]⟩,⟨some 50,.len (.tmp 49),none,[2]⟩,⟨some 51,.bin .lss (.tmp 48) (.tmp 50),none,[1,0,3,2]⟩,⟨some 52,.mov (.tmp 51),none,[4,1,0,3,2]⟩,⟨some 53,.mov (.tmp 5),some (52,true),[5,4,1,0,3,2]⟩,⟨some 54,.mov (.tmp 9),some (52,true),[5,4,1,0,3,2]⟩,⟨some 55,.bin .add (.tmp 54) (.const (.int .i64 1)),some (52,true),[7,5,4,1,0,3,2]⟩,⟨some 56,.iaddr 2 (.tmp 53) (.tmp 55),some (52,true),[6,5,4,1,0,3,2,8,7]⟩,⟨some 57,.faddr 1 1 false (.tmp 56),some (52,true),[9,6,5,4,1,0,3,2,8,7]⟩,⟨some 58,.load none (.tmp 57),some (52,true),[10,9,6,5,4,1,0,3,2,8,7]⟩,⟨some 59,.faddr 1 1 false (.tmp 8),some (52,true),[5,4,1,0,3,2]⟩,⟨some 60,.load none (.tmp 59),some (52,true),[12,5,4,1,0,3,2]⟩,⟨some 61,.bin .eql (.tmp 58) (.tmp 60),some (52,true),[11,10,9,6,5,4,1,0,3,2,8,7,13,12]⟩,⟨some 62,.pick (.tmp 52) (.tmp 61) (.const (.bool false)),none,[5,4,1,0,3,2,14,11,10,9,6,8,7,13,12]⟩]) (.cond (.tmp 62) .skip (.exit 2))) (.block 3 none (.ops false [⟨some 63,.mov (.tmp 9),none,[]⟩,⟨some 64,.bin .add (.tmp 63) (.const (.int .i64 1)),none,[]⟩,⟨some 9,.mov (.tmp 64),none,[]⟩])))
def dk54_0 : Keep := ⟨[],[5,6,8,9,21,22,23],[6,8,85,86]⟩
def db54_1 : DC := (.seq (.ops false [⟨some 24,.bin .lss (.tmp 23) (.tmp 22),none,[]⟩]) (.seq (.cond (.tmp 24) .skip (.exit 0)) (.seq (.block 1 (some ⟨[],[5,6,21,22,23],[6]⟩) (.seq (.ops false [⟨some 25,.mov (.tmp 23),none,[]⟩,⟨some 26,.iaddr 2 (.tmp 21) (.tmp 23),none,[]⟩,⟨some 27,.load (some 2) (.tmp 26),none,[]⟩,⟨some 8,.alloc (.agg [.int .i64 0,.int .i64 0]) 2,none,[]⟩,⟨some 7,.mov (.tmp 25),none,[]⟩,⟨none,.store 2 (.tmp 8) (.tmp 27),none,[]⟩]) (.seq (.seq (.ops true [⟨some 28,.faddr 1 1 false (.tmp 8),none,[]⟩,⟨some 29,.load none (.tmp 28),none,[0]⟩,⟨some 30,.bin .eql (.tmp 29) (.const (.int .i64 0)),none,[1,0]⟩,⟨some 31,.mov (.tmp 30),none,[2,1,0]⟩,⟨some 32,.mov (.tmp 7),some (31,false),[3,2,1,0]⟩,⟨some 33,.bin .gtr (.tmp 32) (.const (.int .i64 0)),some (31,false),[4,3,2,1,0]⟩,⟨some 34,.mov (.tmp 33),some (31,false),[5,4,3,2,1,0]⟩,⟨some 35,.mov (.tmp 5),some (34,true),[6,5,4,3,2,1,0]⟩,⟨some 36,.mov (.tmp 7),some (34,true),[6,5,4,3,2,1,0]⟩,⟨some 37,.bin .sub (.tmp 36) (.const (.int .i64 1)),some (34,true),[8,6,5,4,3,2,1,0]⟩,⟨some 38,.iaddr 2 (.tmp 35) (.tmp 37),some (34,true),[7,6,5,4,3,2,1,0,9,8]⟩,⟨some 39,.faddr 1 1 false (.tmp 38),some (34,true),[10,7,6,5,4,3,2,1,0,9,8]⟩,⟨some 40,.load none (.tmp 39),some (34,true),[11,10,7,6,5,4,3,2,1,0,9,8]⟩,⟨some 41,.faddr 1 1 false (.tmp 8),some (34,true),[6,5,4,3,2,1,0]⟩,⟨some 42,.load none (.tmp 41),some (34,true),[13,6,5,4,3,2,1,0]⟩,⟨some 43,.bin .geq (.tmp 40) (.tmp 42),some (34,true),[12,11,10,7,6,5,4,3,2,1,0,9,8,14,13]⟩,⟨some 44,.pick (.tmp 34) (.tmp 43) (.const (.bool false)),some (31,false),[6,5,4,3,2,1,0,15,12,11,10,7,9,8,14,13]⟩,⟨some 45,.pick (.tmp 31) (.const (.bool true)) (.tmp 44),none,[3,2,1,0,16,6,5,4,15,12,11,10,7,9,8,14,13]⟩]) (.cond (.tmp 45) (.exit 1) .skip)) (.seq (.ops false [⟨some 46,.mov (.tmp 7),none,[]⟩,⟨some 9,.mov (.tmp 46),none,[]⟩]) (.seq (.block 2 (some ⟨[],[5,6,8,9,21,22,23],[6,8,85,86]⟩) (.loop dk54_0 db54_0)) (.seq (.ops true [⟨some 65,.mov (.tmp 9),none,[]⟩,⟨some 66,.bin .add (.tmp 65) (.const (.int .i64 1)),none,[0]⟩,⟨some 67,.mov (.tmp 5),none,[]⟩,⟨some 68,.len (.tmp 67),none,[2]⟩,⟨some 69,.bin .eql (.tmp 66) (.tmp 68),none,[1,0,3,2]⟩,⟨some 70,.mov (.tmp 69),none,[4,1,0,3,2]⟩,⟨some 71,.mov (.tmp 5),some (70,false),[5,4,1,0,3,2]⟩,⟨some 72,.mov (.tmp 9),some (70,false),[5,4,1,0,3,2]⟩,⟨some 73,.bin .add (.tmp 72) (.const (.int .i64 1)),some (70,false),[7,5,4,1,0,3,2]⟩,⟨some 74,.iaddr 2 (.tmp 71) (.tmp 73),some (70,false),[6,5,4,1,0,3,2,8,7]⟩,⟨some 75,.faddr 1 1 false (.tmp 74),some (70,false),[9,6,5,4,1,0,3,2,8,7]⟩,⟨some 76,.load none (.tmp 75),some (70,false),[10,9,6,5,4,1,0,3,2,8,7]⟩,⟨some 77,.faddr 1 1 false (.tmp 8),some (70,false),[5,4,1,0,3,2]⟩,⟨some 78,.load none (.tmp 77),some (70,false),[12,5,4,1,0,3,2]⟩,⟨some 79,.bin .lss (.tmp 76) (.tmp 78),some (70,false),[11,10,9,6,5,4,1,0,3,2,8,7,13,12]⟩,⟨some 80,.pick (.tmp 70) (.const (.bool true)) (.tmp 79),none,[5,4,1,0,3,2,14,11,10,9,6,8,7,13,12]⟩]) (.cond (.tmp 80) (.ops false [⟨some 81,.mov (.tmp 6),none,[]⟩,⟨some 82,.faddr 0 1 true (.tmp 8),none,[]⟩,⟨some 83,.faddr 0 1 false (.tmp 82),none,[]⟩,⟨some 84,.load none (.tmp 83),none,[]⟩,⟨some 85,.lit true 1 1 (.int .i64 0) [(0,(.tmp 84))],none,[]⟩,⟨some 86,.append false 1 (.tmp 81) (.tmp 85),none,[]⟩,⟨some 6,.mov (.tmp 86),none,[]⟩]) .skip))))))) (.ops false [⟨some 87,.bin .add (.tmp 23) (.const (.int .i64 1)),none,[]⟩,⟨some 23,.mov (.tmp 87),none,[]⟩]))))
def dk54_1 : Keep := ⟨[(6,1)],[5,6,21,22,23],[6]⟩
def dc54 : DFunc := ⟨89,1,[.tmp 2,.tmp 3],.seq (.ops false [⟨some 2,.mov (.const (.slice none 0 0)),none,[]⟩,⟨some 3,.mov (.const (.int .i64 0)),none,[]⟩]) (.seq (.seq (.ops false [⟨some 10,.mov (.tmp 0),none,[]⟩,⟨some 11,.call (.func 50) [.tmp 10],none,[]⟩,⟨some 4,.mov (.tmp 11),none,[]⟩]) (.seq (.ops false [⟨some 12,.mov (.tmp 4),none,[]⟩,⟨some 13,.bin .neq (.tmp 12) (.const (.int .i64 0)),none,[]⟩]) (.cond (.tmp 13) (.seq (.ops false [⟨some 14,.mov (.tmp 4),none,[]⟩,⟨some 2,.mov (.const (.slice none 0 0)),none,[]⟩,⟨some 3,.mov (.tmp 14),none,[]⟩]) .ret) .skip))) (.seq (.ops false [⟨some 15,.mov (.tmp 0),none,[]⟩,⟨some 16,.mov (.tmp 0),none,[]⟩,⟨some 17,.call (.func 95) [.tmp 16],none,[]⟩,⟨some 18,.call (.func 96) [.tmp 15,.tmp 17],none,[]⟩,⟨some 19,.call (.func 101) [.tmp 18],none,[]⟩,⟨some 20,.call (.func 100) [.tmp 19],none,[]⟩,⟨some 5,.mov (.tmp 20),none,[]⟩]) (.seq (.ops false [⟨some 6,.mov (.const (.slice none 0 0)),none,[]⟩]) (.seq (.seq (.ops false [⟨some 21,.mov (.tmp 5),none,[]⟩,⟨some 22,.len (.tmp 21),none,[]⟩,⟨some 23,.mov (.const (.int .i64 0)),none,[]⟩]) (.block 0 (some ⟨[],[6],[6]⟩) (.loop dk54_1 db54_1))) (.seq (.ops false [⟨some 88,.mov (.tmp 6),none,[]⟩,⟨some 2,.mov (.tmp 88),none,[]⟩,⟨some 3,.mov (.const (.int .i64 0)),none,[]⟩]) .ret)))))⟩
theorem dh54:cProg Go.Proofs.Tryz.prog ⟨[(0,⟨[(6,1)],[5,6,21,22,23],[6]⟩),(2,⟨[],[5,6,8,9,21,22,23],[6,8,85,86]⟩)],[(2,⟨[],[5,6,8,9,21,22,23],[6,8,85,86]⟩),(1,⟨[],[5,6,21,22,23],[6]⟩),(0,⟨[],[6],[6]⟩)],[85]⟩ 54=some dc54:=by kernel_rfl
def dc55 : DFunc := ⟨23,1,[.tmp 2,.tmp 3,.tmp 4],.seq (.ops false [⟨some 2,.mov (.const (.int .i64 0)),none,[]⟩,⟨some 3,.mov (.const (.int .i64 0)),none,[]⟩,⟨some 4,.mov (.const (.int .i64 0)),none,[]⟩]) (.seq (.ops false [⟨some 9,.mov (.tmp 0),none,[]⟩,⟨some 10,.call (.func 43) [.tmp 9],none,[]⟩,⟨some 8,.mov (.tmp 10),none,[]⟩,⟨some 11,.extract (.tmp 8) 0,none,[]⟩,⟨some 12,.extract (.tmp 8) 1,none,[]⟩,⟨some 5,.mov (.tmp 11),none,[]⟩,⟨some 6,.mov (.tmp 12),none,[]⟩]) (.seq (.seq (.ops false [⟨some 13,.mov (.tmp 6),none,[]⟩,⟨some 14,.bin .neq (.tmp 13) (.const (.int .i64 0)),none,[]⟩]) (.cond (.tmp 14) (.seq (.ops false [⟨some 15,.mov (.tmp 6),none,[]⟩,⟨some 2,.mov (.const (.int .i64 0)),none,[]⟩,⟨some 3,.mov (.const (.int .i64 0)),none,[]⟩,⟨some 4,.mov (.tmp 15),none,[]⟩]) .ret) .skip)) (.seq (.ops false [⟨some 16,.mov (.tmp 5),none,[]⟩,⟨some 17,.call (.func 102) [.tmp 16],none,[]⟩,⟨some 7,.alloc (.agg [.int .i64 0,.int .i64 0]) 2,none,[]⟩,⟨none,.store 2 (.tmp 7) (.tmp 17),none,[]⟩]) (.seq (.ops true [⟨some 18,.faddr 0 1 true (.tmp 7),none,[]⟩,⟨some 19,.faddr 0 1 false (.tmp 18),none,[0]⟩,⟨some 20,.load none (.tmp 19),none,[1,0]⟩,⟨some 21,.faddr 1 1 false (.tmp 7),none,[]⟩,⟨some 22,.load none (.tmp 21),none,[3]⟩,⟨some 2,.mov (.tmp 20),none,[2,1,0]⟩,⟨some 3,.mov (.tmp 22),none,[4,3,5,2,1,0]⟩,⟨some 4,.mov (.const (.int .i64 0)),none,[6,4,3,5,2,1,0]⟩]) .ret))))⟩
theorem dh55:cProg Go.Proofs.Tryz.prog ⟨[],[],[]⟩ 55=some dc55:=by kernel_rfl
def db56_0 : DC := (.block 1 none (.seq (.ops false [⟨some 21,.mov (.tmp 4),none,[]⟩,⟨some 22,.mov (.tmp 7),none,[]⟩,⟨some 23,.mov (.tmp 7),none,[]⟩,⟨some 24,.len (.tmp 23),none,[]⟩,⟨some 25,.bin .sub (.tmp 24) (.const (.int .i64 1)),none,[]⟩,⟨some 26,.iaddr 1 (.tmp 22) (.tmp 25),none,[]⟩,⟨some 27,.load none (.tmp 26),none,[]⟩,⟨some 28,.iaddr 1 (.tmp 21) (.tmp 27),none,[]⟩,⟨some 29,.load none (.tmp 28),none,[]⟩,⟨some 8,.mov (.tmp 29),none,[]⟩]) (.seq (.seq (.ops false [⟨some 30,.mov (.tmp 8),none,[]⟩,⟨some 31,.mov (.tmp 4),none,[]⟩,⟨some 32,.len (.tmp 31),none,[]⟩,⟨some 33,.bin .sub (.tmp 32) (.const (.int .i64 1)),none,[]⟩,⟨some 34,.bin .mul (.tmp 30) (.tmp 33),none,[]⟩,⟨some 35,.mov (.tmp 6),none,[]⟩,⟨some 36,.bin .leq (.tmp 34) (.tmp 35),none,[]⟩]) (.cond (.tmp 36) (.exit 0) .skip)) (.ops false [⟨some 37,.mov (.tmp 7),none,[]⟩,⟨some 38,.mov (.tmp 6),none,[]⟩,⟨some 39,.mov (.tmp 8),none,[]⟩,⟨some 40,.bin .quo (.tmp 38) (.tmp 39),none,[]⟩,⟨some 41,.bin .add (.tmp 40) (.const (.int .i64 1)),none,[]⟩,⟨some 42,.lit true 1 1 (.int .i64 0) [(0,(.tmp 41))],none,[]⟩,⟨some 43,.append false 1 (.tmp 37) (.tmp 42),none,[]⟩,⟨some 7,.mov (.tmp 43),none,[]⟩]))))
def dk56_0 : Keep := ⟨[(7,1)],[4,6,7],[7,20]⟩
def dc56 : DFunc := ⟨45,1,[.tmp 2,.tmp 3],.seq (.ops false [⟨some 2,.mov (.const (.slice none 0 0)),none,[]⟩,⟨some 3,.mov (.const (.int .i64 0)),none,[]⟩]) (.seq (.ops false [⟨some 10,.mov (.tmp 0),none,[]⟩,⟨some 11,.call (.func 43) [.tmp 10],none,[]⟩,⟨some 9,.mov (.tmp 11),none,[]⟩,⟨some 12,.extract (.tmp 9) 0,none,[]⟩,⟨some 13,.extract (.tmp 9) 1,none,[]⟩,⟨some 4,.mov (.tmp 12),none,[]⟩,⟨some 5,.mov (.tmp 13),none,[]⟩]) (.seq (.seq (.ops false [⟨some 14,.mov (.tmp 5),none,[]⟩,⟨some 15,.bin .neq (.tmp 14) (.const (.int .i64 0)),none,[]⟩]) (.cond (.tmp 15) (.seq (.ops false [⟨some 16,.mov (.tmp 5),none,[]⟩,⟨some 2,.mov (.const (.slice none 0 0)),none,[]⟩,⟨some 3,.mov (.tmp 16),none,[]⟩]) .ret) .skip)) (.seq (.ops false [⟨some 17,.mov (.tmp 4),none,[]⟩,⟨some 18,.call (.func 102) [.tmp 17],none,[]⟩,⟨some 19,.field 1 1 false (.tmp 18),none,[]⟩,⟨some 6,.mov (.tmp 19),none,[]⟩]) (.seq (.ops false [⟨some 20,.lit false 1 1 (.int .i64 0) [(0,(.const (.int .i64 0)))],none,[]⟩,⟨some 7,.mov (.tmp 20),none,[]⟩]) (.seq .skip (.seq (.block 0 (some ⟨[],[7],[7,20]⟩) (.loop dk56_0 db56_0)) (.seq (.ops false [⟨some 44,.mov (.tmp 7),none,[]⟩,⟨some 2,.mov (.tmp 44),none,[]⟩,⟨some 3,.mov (.const (.int .i64 0)),none,[]⟩]) .ret)))))))⟩
theorem dh56:cProg Go.Proofs.Tryz.prog ⟨[(0,⟨[(7,1)],[4,6,7],[7,20]⟩)],[(0,⟨[],[7],[7,20]⟩)],[42]⟩ 56=some dc56:=by kernel_rfl
def db57_0 : DC := (.seq (.ops false [⟨some 35,.bin .lss (.tmp 34) (.tmp 33),none,[]⟩]) (.seq (.cond (.tmp 35) .skip (.exit 0)) (.seq (.block 1 none (.seq (.ops false [⟨some 36,.mov (.tmp 34),none,[]⟩,⟨some 37,.iaddr 1 (.tmp 32) (.tmp 34),none,[]⟩,⟨some 38,.load none (.tmp 37),none,[]⟩,⟨some 10,.mov (.tmp 36),none,[]⟩,⟨some 11,.mov (.tmp 38),none,[]⟩]) (.seq (.seq (.ops false [⟨some 39,.mov (.tmp 11),none,[]⟩,⟨some 40,.mov (.tmp 7),none,[]⟩,⟨some 41,.len (.tmp 40),none,[]⟩,⟨some 42,.bin .sub (.tmp 41) (.const (.int .i64 1)),none,[]⟩,⟨some 43,.call (.func 88) [.tmp 39,.const (.int .i64 0),.tmp 42],none,[]⟩,⟨some 44,.mov (.tmp 10),none,[]⟩,⟨some 45,.bin .eql (.tmp 44) (.const (.int .i64 0)),none,[]⟩,⟨some 46,.mov (.tmp 45),none,[]⟩,⟨some 47,.mov (.tmp 11),some (46,true),[]⟩,⟨some 48,.bin .neq (.tmp 47) (.const (.int .i64 0)),some (46,true),[]⟩,⟨some 49,.pick (.tmp 46) (.tmp 48) (.const (.bool false)),none,[]⟩,⟨some 50,.mov (.tmp 49),none,[]⟩,⟨some 51,.mov (.tmp 11),some (50,false),[]⟩,⟨some 52,.mov (.tmp 9),some (50,false),[]⟩,⟨some 53,.bin .leq (.tmp 51) (.tmp 52),some (50,false),[]⟩,⟨some 54,.pick (.tmp 50) (.const (.bool true)) (.tmp 53),none,[]⟩,⟨some 55,.call (.func 87) [.tmp 54,.const (.int .i64 11)],none,[]⟩,⟨some 56,.lit true 1 2 (.int .i64 0) [(0,(.tmp 43)),(1,(.tmp 55))],none,[]⟩,⟨some 57,.call (.func 78) [.tmp 56],none,[]⟩,⟨some 12,.mov (.tmp 57),none,[]⟩]) (.seq (.ops false [⟨some 58,.mov (.tmp 12),none,[]⟩,⟨some 59,.bin .neq (.tmp 58) (.const (.int .i64 0)),none,[]⟩]) (.cond (.tmp 59) (.seq (.ops false [⟨some 60,.mov (.tmp 12),none,[]⟩,⟨some 6,.mov (.tmp 60),none,[]⟩]) .ret) .skip))) (.ops false [⟨some 61,.mov (.tmp 11),none,[]⟩,⟨some 9,.mov (.tmp 61),none,[]⟩])))) (.ops false [⟨some 62,.bin .add (.tmp 34) (.const (.int .i64 1)),none,[]⟩,⟨some 34,.mov (.tmp 62),none,[]⟩]))))
def dk57_0 : Keep := ⟨[],[1,2,7,9,32,33,34],[27]⟩
def db57_1 : DC := (.seq (.ops false [⟨some 66,.bin .lss (.tmp 65) (.tmp 64),none,[]⟩]) (.seq (.cond (.tmp 66) .skip (.exit 2)) (.seq (.block 3 none (.seq (.ops false [⟨some 67,.mov (.tmp 65),none,[]⟩,⟨some 68,.iaddr 1 (.tmp 63) (.tmp 65),none,[]⟩,⟨some 69,.load none (.tmp 68),none,[]⟩,⟨some 13,.mov (.tmp 67),none,[]⟩,⟨some 14,.mov (.tmp 69),none,[]⟩]) (.seq (.ops false [⟨some 70,.mov (.tmp 7),none,[]⟩,⟨some 71,.len (.tmp 70),none,[]⟩,⟨some 72,.bin .sub (.tmp 71) (.const (.int .i64 1)),none,[]⟩,⟨some 15,.mov (.tmp 72),none,[]⟩]) (.seq (.seq (.ops false [⟨some 73,.mov (.tmp 13),none,[]⟩,⟨some 74,.bin .add (.tmp 73) (.const (.int .i64 1)),none,[]⟩,⟨some 75,.mov (.tmp 2),none,[]⟩,⟨some 76,.len (.tmp 75),none,[]⟩,⟨some 77,.bin .lss (.tmp 74) (.tmp 76),none,[]⟩]) (.cond (.tmp 77) (.ops false [⟨some 78,.mov (.tmp 2),none,[]⟩,⟨some 79,.mov (.tmp 13),none,[]⟩,⟨some 80,.bin .add (.tmp 79) (.const (.int .i64 1)),none,[]⟩,⟨some 81,.iaddr 1 (.tmp 78) (.tmp 80),none,[]⟩,⟨some 82,.load none (.tmp 81),none,[]⟩,⟨some 83,.bin .sub (.tmp 82) (.const (.int .i64 1)),none,[]⟩,⟨some 15,.mov (.tmp 83),none,[]⟩]) .skip)) (.seq (.ops false [⟨some 84,.mov (.tmp 7),none,[]⟩,⟨some 85,.mov (.tmp 14),none,[]⟩,⟨some 86,.iaddr 1 (.tmp 84) (.tmp 85),none,[]⟩,⟨some 87,.load none (.tmp 86),none,[]⟩,⟨some 88,.mov (.tmp 15),none,[]⟩,⟨some 89,.bin .mul (.tmp 87) (.tmp 88),none,[]⟩,⟨some 90,.mov (.tmp 1),none,[]⟩,⟨some 91,.bin .gtr (.tmp 89) (.tmp 90),none,[]⟩]) (.cond (.tmp 91) (.seq (.ops false [⟨some 6,.mov (.const (.int .i64 19)),none,[]⟩]) .ret) .skip)))))) (.ops false [⟨some 92,.bin .add (.tmp 65) (.const (.int .i64 1)),none,[]⟩,⟨some 65,.mov (.tmp 92),none,[]⟩]))))
def dk57_1 : Keep := ⟨[],[1,2,7,63,64,65],[27,56]⟩
def dc57 : DFunc := ⟨93,3,[.tmp 6],.seq (.ops false [⟨some 6,.mov (.const (.int .i64 0)),none,[]⟩]) (.seq (.ops false [⟨some 17,.mov (.tmp 0),none,[]⟩,⟨some 18,.call (.func 43) [.tmp 17],none,[]⟩,⟨some 16,.mov (.tmp 18),none,[]⟩,⟨some 19,.extract (.tmp 16) 0,none,[]⟩,⟨some 20,.extract (.tmp 16) 1,none,[]⟩,⟨some 7,.mov (.tmp 19),none,[]⟩,⟨some 8,.mov (.tmp 20),none,[]⟩]) (.seq (.seq (.ops false [⟨some 21,.mov (.tmp 8),none,[]⟩,⟨some 22,.mov (.tmp 1),none,[]⟩,⟨some 23,.call (.func 88) [.tmp 22,.const (.int .i64 0),.const (.int .i64 960000)],none,[]⟩,⟨some 24,.mov (.tmp 2),none,[]⟩,⟨some 25,.len (.tmp 24),none,[]⟩,⟨some 26,.call (.func 93) [.tmp 25,.const (.int .i64 801)],none,[]⟩,⟨some 27,.lit true 1 3 (.int .i64 0) [(0,(.tmp 21)),(1,(.tmp 23)),(2,(.tmp 26))],none,[]⟩,⟨some 28,.call (.func 78) [.tmp 27],none,[]⟩,⟨some 8,.mov (.tmp 28),none,[]⟩]) (.seq (.ops false [⟨some 29,.mov (.tmp 8),none,[]⟩,⟨some 30,.bin .neq (.tmp 29) (.const (.int .i64 0)),none,[]⟩]) (.cond (.tmp 30) (.seq (.ops false [⟨some 31,.mov (.tmp 8),none,[]⟩,⟨some 6,.mov (.tmp 31),none,[]⟩]) .ret) .skip))) (.seq (.ops false [⟨some 9,.mov (.const (.int .i64 (-1))),none,[]⟩]) (.seq (.seq (.ops false [⟨some 32,.mov (.tmp 2),none,[]⟩,⟨some 33,.len (.tmp 32),none,[]⟩,⟨some 34,.mov (.const (.int .i64 0)),none,[]⟩]) (.block 0 (some ⟨[],[1,2,7],[27]⟩) (.loop dk57_0 db57_0))) (.seq (.seq (.ops false [⟨some 63,.mov (.tmp 2),none,[]⟩,⟨some 64,.len (.tmp 63),none,[]⟩,⟨some 65,.mov (.const (.int .i64 0)),none,[]⟩]) (.block 2 (some ⟨[],[],[27,56]⟩) (.loop dk57_1 db57_1))) (.seq (.ops false [⟨some 6,.mov (.const (.int .i64 0)),none,[]⟩]) .ret))))))⟩
theorem dh57:cProg Go.Proofs.Tryz.prog ⟨[(0,⟨[],[1,2,7,9,32,33,34],[27]⟩),(2,⟨[],[1,2,7,63,64,65],[27,56]⟩)],[(0,⟨[],[1,2,7],[27]⟩),(2,⟨[],[],[27,56]⟩)],[27,56]⟩ 57=some dc57:=by kernel_rfl
end Sh

namespace Sh
open Go
def db67_0 : DC := (.seq (.ops false [⟨some 31,.bin .lss (.tmp 30) (.tmp 29),none,[]⟩]) (.seq (.cond (.tmp 31) .skip (.exit 2)) (.seq (.block 3 none (.seq (.ops false [⟨some 32,.iaddr 2 (.tmp 28) (.tmp 30),none,[]⟩,⟨some 33,.load (some 2) (.tmp 32),none,[]⟩,⟨some 10,.alloc (.agg [.int .i64 0,.int .i64 0]) 2,none,[]⟩,⟨none,.store 2 (.tmp 10) (.tmp 33),none,[]⟩]) (.ops false [⟨some 34,.mov (.tmp 8),none,[]⟩,⟨some 35,.faddr 0 1 false (.tmp 10),none,[]⟩,⟨some 36,.load none (.tmp 35),none,[]⟩,⟨some 37,.faddr 1 1 false (.tmp 10),none,[]⟩,⟨some 38,.load none (.tmp 37),none,[]⟩,⟨some 39,.lit true 1 2 (.int .i64 0) [(0,(.tmp 36)),(1,(.tmp 38))],none,[]⟩,⟨some 40,.append false 1 (.tmp 34) (.tmp 39),none,[]⟩,⟨some 8,.mov (.tmp 40),none,[]⟩]))) (.ops false [⟨some 41,.bin .add (.tmp 30) (.const (.int .i64 1)),none,[]⟩,⟨some 30,.mov (.tmp 41),none,[]⟩]))))
def dk67_0 : Keep := ⟨[(8,1)],[5,8,16,17,18,28,29,30],[7,8,26,43,46]⟩
def db67_1 : DC := (.seq (.ops false [⟨some 19,.bin .lss (.tmp 18) (.tmp 17),none,[]⟩]) (.seq (.cond (.tmp 19) .skip (.exit 0)) (.seq (.block 1 (some ⟨[],[5,16,17,18],[]⟩) (.seq (.ops false [⟨some 20,.iaddr 3 (.tmp 16) (.tmp 18),none,[]⟩,⟨some 21,.load (some 3) (.tmp 20),none,[]⟩,⟨some 7,.alloc (.agg [.full [],.int .i64 0,.int .i64 0]) 3,none,[]⟩,⟨none,.store 3 (.tmp 7) (.tmp 21),none,[]⟩]) (.seq (.ops false [⟨some 22,.faddr 1 1 false (.tmp 7),none,[]⟩,⟨some 23,.load none (.tmp 22),none,[]⟩,⟨some 24,.faddr 2 1 false (.tmp 7),none,[]⟩,⟨some 25,.load none (.tmp 24),none,[]⟩,⟨some 26,.lit false 1 2 (.int .i64 0) [(0,(.tmp 23)),(1,(.tmp 25))],none,[]⟩,⟨some 8,.mov (.tmp 26),none,[]⟩]) (.seq (.seq (.ops false [⟨some 27,.faddr 0 1 false (.tmp 7),none,[]⟩,⟨some 28,.load none (.tmp 27),none,[]⟩,⟨some 29,.len (.tmp 28),none,[]⟩,⟨some 30,.mov (.const (.int .i64 0)),none,[]⟩]) (.block 2 (some ⟨[],[5,8,16,17,18],[7,8,26,43,46]⟩) (.loop dk67_0 db67_0))) (.ops false [⟨some 42,.mov (.tmp 5),none,[]⟩,⟨some 43,.lit true 1 1 (.str []) [(0,(.const (.string ⟨#[99,101,108,108]⟩)))],none,[]⟩,⟨some 44,.mov (.tmp 8),none,[]⟩,⟨some 45,.call (.func 104) [.tmp 44,.func 105],none,[]⟩,⟨some 46,.append true 1 (.tmp 43) (.tmp 45),none,[]⟩,⟨some 47,.call (.func 103) [.tmp 46,.const (.string ⟨#[32]⟩)],none,[]⟩,⟨some 48,.bin .add (.tmp 47) (.const (.string ⟨#[10]⟩)),none,[]⟩,⟨some 49,.bin .add (.tmp 42) (.tmp 48),none,[]⟩,⟨some 5,.mov (.tmp 49),none,[]⟩]))))) (.ops false [⟨some 50,.bin .add (.tmp 18) (.const (.int .i64 1)),none,[]⟩,⟨some 18,.mov (.tmp 50),none,[]⟩]))))
def dk67_1 : Keep := ⟨[],[5,16,17,18],[]⟩
def dc67 : DFunc := ⟨52,1,[.tmp 2,.tmp 3],.seq (.ops false [⟨some 2,.mov (.const (.string ⟨#[]⟩)),none,[]⟩,⟨some 3,.mov (.const (.int .i64 0)),none,[]⟩]) (.seq (.seq (.ops false [⟨some 11,.mov (.tmp 0),none,[]⟩,⟨some 12,.call (.func 36) [.tmp 11],none,[]⟩,⟨some 4,.mov (.tmp 12),none,[]⟩]) (.seq (.ops false [⟨some 13,.mov (.tmp 4),none,[]⟩,⟨some 14,.bin .neq (.tmp 13) (.const (.int .i64 0)),none,[]⟩]) (.cond (.tmp 14) (.seq (.ops false [⟨some 15,.mov (.tmp 4),none,[]⟩,⟨some 2,.mov (.const (.string ⟨#[]⟩)),none,[]⟩,⟨some 3,.mov (.tmp 15),none,[]⟩]) .ret) .skip))) (.seq (.ops false [⟨some 5,.mov (.const (.string ⟨#[]⟩)),none,[]⟩]) (.seq (.seq (.ops false [⟨some 16,.mov (.tmp 0),none,[]⟩,⟨some 17,.len (.tmp 16),none,[]⟩,⟨some 18,.mov (.const (.int .i64 0)),none,[]⟩]) (.block 0 (some ⟨[],[5],[]⟩) (.loop dk67_1 db67_1))) (.seq (.ops false [⟨some 51,.mov (.tmp 5),none,[]⟩,⟨some 2,.mov (.tmp 51),none,[]⟩,⟨some 3,.mov (.const (.int .i64 0)),none,[]⟩]) .ret))))⟩
theorem dh67:cProg Go.Proofs.Tryz.prog ⟨[(0,⟨[],[5,16,17,18],[]⟩),(2,⟨[(8,1)],[5,8,16,17,18,28,29,30],[7,8,26,43,46]⟩)],[(2,⟨[],[5,8,16,17,18],[7,8,26,43,46]⟩),(1,⟨[],[5,16,17,18],[]⟩),(0,⟨[],[5],[]⟩)],[39,43,46]⟩ 67=some dc67:=by kernel_rfl
-- F 68 none
def dc74 : DFunc := ⟨3,0,[.cell 0 (some 3)],.seq (.ops false [⟨some 0,.alloc (.agg [.full [],.int .i64 0,.int .i64 0]) 3,none,[]⟩]) (.seq (.ops false [⟨some 1,.call (.func 112) [],none,[]⟩,⟨some 2,.build [.full [],.int .i64 0,.int .i64 0] [(0,(1,(.tmp 1))),(1,(1,(.const (.int .i64 1000)))),(2,(1,(.const (.int .i64 1))))],none,[]⟩,⟨none,.store 3 (.tmp 0) (.tmp 2),none,[]⟩]) .ret)⟩
theorem dh74:cProg Go.Proofs.Tryz.prog ⟨[],[],[]⟩ 74=some dc74:=by kernel_rfl
def dc75 : DFunc := ⟨5,0,[.tmp 0],.seq (.ops false [⟨some 0,.mov (.const (.slice none 0 0)),none,[]⟩]) (.seq (.ops false [⟨some 1,.call (.func 74) [],none,[]⟩,⟨some 2,.call (.func 112) [],none,[]⟩,⟨some 3,.build [.full [],.int .i64 0,.int .i64 0] [(0,(1,(.tmp 2))),(1,(1,(.const (.int .i64 500)))),(2,(1,(.const (.int .i64 1))))],none,[]⟩,⟨some 4,.lit true 3 2 (.agg [.full [],.int .i64 0,.int .i64 0]) [(0,(.tmp 1)),(1,(.tmp 3))],none,[]⟩,⟨some 0,.mov (.tmp 4),none,[]⟩]) .ret)⟩
theorem dh75:cProg Go.Proofs.Tryz.prog ⟨[],[],[4]⟩ 75=some dc75:=by kernel_rfl
def db76_0 : DC := (.seq (.seq (.ops false [⟨some 11,.mov (.tmp 5),none,[]⟩,⟨some 12,.mov (.tmp 0),none,[]⟩,⟨some 13,.len (.tmp 12),none,[]⟩,⟨some 14,.bin .lss (.tmp 11) (.tmp 13),none,[]⟩]) (.cond (.tmp 14) .skip (.exit 0))) (.seq (.block 1 none (.seq (.ops true [⟨some 17,.mov (.tmp 0),none,[]⟩,⟨some 18,.mov (.tmp 5),none,[]⟩,⟨some 19,.iaddr 1 (.tmp 17) (.tmp 18),none,[0,1]⟩,⟨some 20,.load none (.tmp 19),none,[2,0,1]⟩,⟨some 21,.mov (.tmp 1),none,[]⟩,⟨some 22,.mov (.tmp 5),none,[]⟩,⟨some 23,.iaddr 1 (.tmp 21) (.tmp 22),none,[4,5]⟩,⟨some 24,.load none (.tmp 23),none,[6,4,5]⟩,⟨some 25,.bin .neq (.tmp 20) (.tmp 24),none,[3,2,0,1,7,6,4,5]⟩]) (.cond (.tmp 25) (.seq (.ops false [⟨some 4,.mov (.const (.bool false)),none,[]⟩]) .ret) .skip))) (.ops false [⟨some 15,.mov (.tmp 5),none,[]⟩,⟨some 16,.bin .add (.tmp 15) (.const (.int .i64 1)),none,[]⟩,⟨some 5,.mov (.tmp 16),none,[]⟩])))
def dk76_0 : Keep := ⟨[],[0,1,5],[]⟩
def dc76 : DFunc := ⟨26,2,[.tmp 4],.seq (.ops false [⟨some 4,.mov (.const (.bool false)),none,[]⟩]) (.seq (.seq (.ops false [⟨some 6,.mov (.tmp 0),none,[]⟩,⟨some 7,.len (.tmp 6),none,[]⟩,⟨some 8,.mov (.tmp 1),none,[]⟩,⟨some 9,.len (.tmp 8),none,[]⟩,⟨some 10,.bin .neq (.tmp 7) (.tmp 9),none,[]⟩]) (.cond (.tmp 10) (.seq (.ops false [⟨some 4,.mov (.const (.bool false)),none,[]⟩]) .ret) .skip)) (.seq (.seq (.ops false [⟨some 5,.mov (.const (.int .i64 0)),none,[]⟩]) (.block 0 (some ⟨[],[],[]⟩) (.loop dk76_0 db76_0))) (.seq (.ops false [⟨some 4,.mov (.const (.bool true)),none,[]⟩]) .ret)))⟩
theorem dh76:cProg Go.Proofs.Tryz.prog ⟨[(0,⟨[],[0,1,5],[]⟩)],[(0,⟨[],[],[]⟩)],[]⟩ 76=some dc76:=by kernel_rfl
def dc77 : DFunc := ⟨33,2,[.tmp 4,.tmp 5],.seq (.ops false [⟨some 2,.box 1 (.tmp 0),none,[]⟩,⟨some 3,.box 1 (.tmp 1),none,[]⟩,⟨some 4,.mov (.const (.string ⟨#[]⟩)),none,[]⟩,⟨some 5,.mov (.const (.int .i64 0)),none,[]⟩]) (.seq (.seq (.ops true [⟨some 8,.load none (.tmp 2),none,[]⟩,⟨some 9,.len (.tmp 8),none,[0]⟩,⟨some 10,.call (.func 93) [.tmp 9,.const (.int .i64 801)],none,[1,0]⟩,⟨some 11,.load none (.tmp 2),none,[]⟩,⟨some 12,.call (.func 113) [.tmp 11],none,[3,2,1,0]⟩,⟨some 13,.load none (.tmp 3),none,[]⟩,⟨some 14,.len (.tmp 13),none,[5]⟩,⟨some 15,.load none (.tmp 2),none,[]⟩,⟨some 16,.len (.tmp 15),none,[7]⟩,⟨some 17,.bin .neq (.tmp 14) (.tmp 16),none,[6,5,8,7]⟩,⟨some 18,.call (.func 87) [.tmp 17,.const (.int .i64 2)],none,[9,6,5,8,7,4,3,2,1,0]⟩,⟨some 19,.load none (.tmp 3),none,[]⟩,⟨some 20,.call (.func 113) [.tmp 19],none,[11,10,9,6,5,8,7,4,3,2,1,0]⟩,⟨some 21,.lit true 1 4 (.int .i64 0) [(0,(.tmp 10)),(1,(.tmp 12)),(2,(.tmp 18)),(3,(.tmp 20))],none,[2,1,0,4,3,10,9,6,5,8,7,12,11]⟩,⟨some 22,.call (.func 78) [.tmp 21],none,[13,2,1,0,4,3,10,9,6,5,8,7,12,11]⟩,⟨some 6,.mov (.tmp 22),none,[14,13,2,1,0,4,3,10,9,6,5,8,7,12,11]⟩]) (.seq (.ops false [⟨some 23,.mov (.tmp 6),none,[]⟩,⟨some 24,.bin .neq (.tmp 23) (.const (.int .i64 0)),none,[]⟩]) (.cond (.tmp 24) (.seq (.ops false [⟨some 25,.mov (.tmp 6),none,[]⟩,⟨some 4,.mov (.const (.string ⟨#[]⟩)),none,[]⟩,⟨some 5,.mov (.tmp 25),none,[]⟩]) .ret) .skip))) (.seq (.ops false [⟨some 26,.sliceA 5 2 true (.global 0),none,[]⟩,⟨some 27,.mkfunc 115 [.tmp 2,.tmp 3],none,[]⟩,⟨some 28,.call (.func 114) [.tmp 26,.tmp 27],none,[]⟩,⟨some 7,.mov (.tmp 28),none,[]⟩]) (.seq (.ops false [⟨some 29,.mov (.tmp 7),none,[]⟩,⟨some 30,.iaddrA 5 2 true (.global 0) (.tmp 29),none,[]⟩,⟨some 31,.faddr 0 1 false (.tmp 30),none,[]⟩,⟨some 32,.load none (.tmp 31),none,[]⟩,⟨some 4,.mov (.tmp 32),none,[]⟩,⟨some 5,.mov (.const (.int .i64 0)),none,[]⟩]) .ret)))⟩
theorem dh77:cProg Go.Proofs.Tryz.prog ⟨[],[],[21]⟩ 77=some dc77:=by kernel_rfl
def db78_0 : DC := (.seq (.ops false [⟨some 8,.bin .lss (.tmp 7) (.tmp 6),none,[]⟩]) (.seq (.cond (.tmp 8) .skip (.exit 0)) (.seq (.block 1 none (.seq (.ops false [⟨some 9,.iaddr 1 (.tmp 5) (.tmp 7),none,[]⟩,⟨some 10,.load none (.tmp 9),none,[]⟩,⟨some 4,.mov (.tmp 10),none,[]⟩]) (.seq (.ops false [⟨some 11,.mov (.tmp 4),none,[]⟩,⟨some 12,.bin .neq (.tmp 11) (.const (.int .i64 0)),none,[]⟩]) (.cond (.tmp 12) (.seq (.ops false [⟨some 13,.mov (.tmp 4),none,[]⟩,⟨some 2,.mov (.tmp 13),none,[]⟩]) .ret) .skip)))) (.ops false [⟨some 14,.bin .add (.tmp 7) (.const (.int .i64 1)),none,[]⟩,⟨some 7,.mov (.tmp 14),none,[]⟩]))))
def dk78_0 : Keep := ⟨[],[5,6,7],[]⟩
def dc78 : DFunc := ⟨15,1,[.tmp 2],.seq (.ops false [⟨some 2,.mov (.const (.int .i64 0)),none,[]⟩]) (.seq (.seq (.ops false [⟨some 5,.mov (.tmp 0),none,[]⟩,⟨some 6,.len (.tmp 5),none,[]⟩,⟨some 7,.mov (.const (.int .i64 0)),none,[]⟩]) (.block 0 (some ⟨[],[],[]⟩) (.loop dk78_0 db78_0))) (.seq (.ops false [⟨some 2,.mov (.const (.int .i64 0)),none,[]⟩]) .ret))⟩
theorem dh78:cProg Go.Proofs.Tryz.prog ⟨[(0,⟨[],[5,6,7],[]⟩)],[(0,⟨[],[],[]⟩)],[]⟩ 78=some dc78:=by kernel_rfl
def dc79 : DFunc := ⟨5,1,[.tmp 2],.seq (.ops false [⟨some 2,.mov (.const (.int .i64 0)),none,[]⟩]) (.seq (.ops false [⟨some 3,.mov (.tmp 0),none,[]⟩,⟨some 4,.call (.func 88) [.tmp 3,.const (.int .i64 0),.const (.int .i64 800)],none,[]⟩,⟨some 2,.mov (.tmp 4),none,[]⟩]) .ret)⟩
theorem dh79:cProg Go.Proofs.Tryz.prog ⟨[],[],[]⟩ 79=some dc79:=by kernel_rfl
def dc80 : DFunc := ⟨13,2,[.tmp 4],.seq (.ops false [⟨some 2,.box 3 (.tmp 0),none,[]⟩,⟨some 4,.mov (.const (.int .i64 0)),none,[]⟩]) (.seq (.ops true [⟨some 5,.faddr 0 1 false (.tmp 2),none,[]⟩,⟨some 6,.load none (.tmp 5),none,[0]⟩,⟨some 7,.mov (.tmp 1),none,[]⟩,⟨some 8,.call (.func 116) [.tmp 6,.tmp 7],none,[1,0,2]⟩,⟨some 9,.faddr 1 1 false (.tmp 2),none,[]⟩,⟨some 10,.load none (.tmp 9),none,[4]⟩,⟨some 11,.bin .mul (.tmp 8) (.tmp 10),none,[3,1,0,2,5,4]⟩,⟨some 12,.bin .quo (.tmp 11) (.const (.int .i64 1000)),none,[6,3,1,0,2,5,4]⟩,⟨some 4,.mov (.tmp 12),none,[7,6,3,1,0,2,5,4]⟩]) .ret)⟩
theorem dh80:cProg Go.Proofs.Tryz.prog ⟨[],[],[]⟩ 80=some dc80:=by kernel_rfl
def dc81 : DFunc := ⟨5,1,[.tmp 2],.seq (.ops false [⟨some 2,.mov (.const (.int .i64 0)),none,[]⟩]) (.seq (.ops false [⟨some 3,.mov (.tmp 0),none,[]⟩,⟨some 4,.call (.func 88) [.tmp 3,.const (.int .i64 0),.const (.int .i64 200)],none,[]⟩,⟨some 2,.mov (.tmp 4),none,[]⟩]) .ret)⟩
theorem dh81:cProg Go.Proofs.Tryz.prog ⟨[],[],[]⟩ 81=some dc81:=by kernel_rfl
def db82_0 : DC := (.seq (.seq (.ops false [⟨some 10,.mov (.tmp 6),none,[]⟩,⟨some 11,.bin .geq (.tmp 10) (.const (.int .i64 0)),none,[]⟩]) (.cond (.tmp 11) .skip (.exit 0))) (.seq (.block 1 none (.seq (.ops false [⟨some 14,.load (some 3) (.tmp 2),none,[]⟩,⟨some 15,.mov (.tmp 6),none,[]⟩,⟨some 16,.call (.func 80) [.tmp 14,.tmp 15],none,[]⟩,⟨some 17,.mov (.tmp 1),none,[]⟩,⟨some 18,.bin .geq (.tmp 16) (.tmp 17),none,[]⟩]) (.cond (.tmp 18) (.seq (.ops false [⟨some 19,.mov (.tmp 6),none,[]⟩,⟨some 4,.mov (.tmp 19),none,[]⟩,⟨some 5,.mov (.const (.bool true)),none,[]⟩]) .ret) .skip))) (.ops false [⟨some 12,.mov (.tmp 6),none,[]⟩,⟨some 13,.bin .sub (.tmp 12) (.const (.int .i64 1)),none,[]⟩,⟨some 6,.mov (.tmp 13),none,[]⟩])))
def dk82_0 : Keep := ⟨[],[1,2,6],[2]⟩
def dc82 : DFunc := ⟨23,2,[.tmp 4,.tmp 5],.seq (.ops false [⟨some 2,.box 3 (.tmp 0),none,[]⟩,⟨some 4,.mov (.const (.int .i64 0)),none,[]⟩,⟨some 5,.mov (.const (.bool false)),none,[]⟩]) (.seq (.seq (.ops false [⟨some 7,.faddr 0 1 false (.tmp 2),none,[]⟩,⟨some 8,.load none (.tmp 7),none,[]⟩,⟨some 9,.call (.func 117) [.tmp 8],none,[]⟩,⟨some 6,.mov (.tmp 9),none,[]⟩]) (.block 0 (some ⟨[],[2],[2]⟩) (.loop dk82_0 db82_0))) (.seq (.ops false [⟨some 20,.faddr 2 1 false (.tmp 2),none,[]⟩,⟨some 21,.load none (.tmp 20),none,[]⟩,⟨some 22,.un .neg (.tmp 21),none,[]⟩,⟨some 4,.mov (.tmp 22),none,[]⟩,⟨some 5,.mov (.const (.bool false)),none,[]⟩]) .ret))⟩
theorem dh82:cProg Go.Proofs.Tryz.prog ⟨[(0,⟨[],[1,2,6],[2]⟩)],[(0,⟨[],[2],[2]⟩)],[]⟩ 82=some dc82:=by kernel_rfl
def dc87 : DFunc := ⟨7,2,[.tmp 4],.seq (.ops false [⟨some 4,.mov (.const (.int .i64 0)),none,[]⟩]) (.seq (.seq (.ops false [⟨some 5,.mov (.tmp 0),none,[]⟩]) (.cond (.tmp 5) (.seq (.ops false [⟨some 6,.mov (.tmp 1),none,[]⟩,⟨some 4,.mov (.tmp 6),none,[]⟩]) .ret) .skip)) (.seq (.ops false [⟨some 4,.mov (.const (.int .i64 0)),none,[]⟩]) .ret))⟩
theorem dh87:cProg Go.Proofs.Tryz.prog ⟨[],[],[]⟩ 87=some dc87:=by kernel_rfl
def dc88 : DFunc := ⟨16,3,[.tmp 6],.seq (.ops false [⟨some 6,.mov (.const (.int .i64 0)),none,[]⟩]) (.seq (.ops false [⟨some 7,.mov (.tmp 0),none,[]⟩,⟨some 8,.mov (.tmp 1),none,[]⟩,⟨some 9,.bin .lss (.tmp 7) (.tmp 8),none,[]⟩,⟨some 10,.mov (.tmp 9),none,[]⟩,⟨some 11,.mov (.tmp 0),some (10,false),[]⟩,⟨some 12,.mov (.tmp 2),some (10,false),[]⟩,⟨some 13,.bin .gtr (.tmp 11) (.tmp 12),some (10,false),[]⟩,⟨some 14,.pick (.tmp 10) (.const (.bool true)) (.tmp 13),none,[]⟩,⟨some 15,.call (.func 87) [.tmp 14,.const (.int .i64 3)],none,[]⟩,⟨some 6,.mov (.tmp 15),none,[]⟩]) .ret)⟩
theorem dh88:cProg Go.Proofs.Tryz.prog ⟨[],[],[]⟩ 88=some dc88:=by kernel_rfl
def db89_0 : DC := (.seq (.ops false [⟨some 13,.bin .lss (.tmp 12) (.tmp 11),none,[]⟩]) (.seq (.cond (.tmp 13) .skip (.exit 0)) (.seq (.block 1 none (.seq (.ops false [⟨some 14,.iaddr 3 (.tmp 10) (.tmp 12),none,[]⟩,⟨some 15,.load (some 3) (.tmp 14),none,[]⟩,⟨some 7,.alloc (.agg [.full [],.int .i64 0,.int .i64 0]) 3,none,[]⟩,⟨none,.store 3 (.tmp 7) (.tmp 15),none,[]⟩]) (.seq (.ops false [⟨some 17,.load (some 3) (.tmp 7),none,[]⟩,⟨some 18,.mov (.tmp 1),none,[]⟩,⟨some 19,.call (.func 82) [.tmp 17,.tmp 18],none,[]⟩,⟨some 16,.mov (.tmp 19),none,[]⟩,⟨some 20,.extract (.tmp 16) 0,none,[]⟩,⟨some 21,.extract (.tmp 16) 1,none,[]⟩,⟨some 8,.mov (.tmp 20),none,[]⟩,⟨some 9,.mov (.tmp 21),none,[]⟩]) (.ops false [⟨some 22,.mov (.tmp 5),none,[]⟩,⟨some 23,.mov (.tmp 8),none,[]⟩,⟨some 24,.bin .add (.tmp 22) (.tmp 23),none,[]⟩,⟨some 5,.mov (.tmp 24),none,[]⟩])))) (.ops false [⟨some 25,.bin .add (.tmp 12) (.const (.int .i64 1)),none,[]⟩,⟨some 12,.mov (.tmp 25),none,[]⟩]))))
def dk89_0 : Keep := ⟨[],[1,5,10,11,12],[]⟩
def dc89 : DFunc := ⟨27,2,[.tmp 4],.seq (.ops false [⟨some 4,.mov (.const (.int .i64 0)),none,[]⟩]) (.seq (.ops false [⟨some 5,.mov (.const (.int .i64 0)),none,[]⟩]) (.seq (.seq (.ops false [⟨some 10,.mov (.tmp 0),none,[]⟩,⟨some 11,.len (.tmp 10),none,[]⟩,⟨some 12,.mov (.const (.int .i64 0)),none,[]⟩]) (.block 0 (some ⟨[],[5],[]⟩) (.loop dk89_0 db89_0))) (.seq (.ops false [⟨some 26,.mov (.tmp 5),none,[]⟩,⟨some 4,.mov (.tmp 26),none,[]⟩]) .ret)))⟩
theorem dh89:cProg Go.Proofs.Tryz.prog ⟨[(0,⟨[],[1,5,10,11,12],[]⟩)],[(0,⟨[],[5],[]⟩)],[]⟩ 89=some dc89:=by kernel_rfl
def db90_0 : DC := (.seq (.seq (.ops false [⟨some 19,.mov (.tmp 7),none,[]⟩,⟨some 20,.bin .geq (.tmp 19) (.const (.int .i64 0)),none,[]⟩,⟨some 21,.mov (.tmp 20),none,[]⟩,⟨some 22,.mov (.tmp 5),some (21,true),[]⟩,⟨some 23,.mov (.tmp 7),some (21,true),[]⟩,⟨some 24,.lookup 1 [] false (.int .i64 0) (.tmp 22) (.tmp 23),some (21,true),[]⟩,⟨some 25,.mov (.tmp 8),some (21,true),[]⟩,⟨some 26,.bin .lss (.tmp 24) (.tmp 25),some (21,true),[]⟩,⟨some 27,.pick (.tmp 21) (.tmp 26) (.const (.bool false)),none,[]⟩]) (.cond (.tmp 27) .skip (.exit 2))) (.block 3 none (.ops false [⟨some 28,.mov (.tmp 7),none,[]⟩,⟨some 29,.bin .sub (.tmp 28) (.const (.int .i64 1)),none,[]⟩,⟨some 7,.mov (.tmp 29),none,[]⟩])))
def dk90_0 : Keep := ⟨[],[5,6,7,8,15,16],[10,13]⟩
def db90_1 : DC := (.seq (.ops false [⟨some 17,.bin .lss (.tmp 16) (.tmp 15),none,[]⟩]) (.seq (.cond (.tmp 17) .skip (.exit 0)) (.seq (.block 1 (some ⟨[],[5,6,7,15,16],[10,13]⟩) (.seq (.ops false [⟨some 18,.mov (.tmp 16),none,[]⟩,⟨some 8,.mov (.tmp 18),none,[]⟩]) (.seq (.block 2 (some ⟨[],[5,6,7,8,15,16],[10,13]⟩) (.loop dk90_0 db90_0)) (.ops false [⟨some 30,.mov (.tmp 6),none,[]⟩,⟨some 31,.mov (.tmp 8),none,[]⟩,⟨some 32,.mov (.tmp 7),none,[]⟩,⟨some 33,.minmax true (.const (.int .i64 0)) [.tmp 32],none,[]⟩,⟨some 34,.iaddr 1 (.tmp 30) (.tmp 31),none,[]⟩,⟨none,.store 1 (.tmp 34) (.tmp 33),none,[]⟩])))) (.ops false [⟨some 35,.bin .add (.tmp 16) (.const (.int .i64 1)),none,[]⟩,⟨some 16,.mov (.tmp 35),none,[]⟩]))))
def dk90_1 : Keep := ⟨[],[5,6,7,15,16],[10,13]⟩
def dc90 : DFunc := ⟨37,2,[.tmp 4],.seq (.ops false [⟨some 4,.mov (.const (.slice none 0 0)),none,[]⟩]) (.seq (.ops false [⟨some 9,.mov (.tmp 0),none,[]⟩,⟨some 10,.call (.func 118) [.tmp 9],none,[]⟩,⟨some 5,.mov (.tmp 10),none,[]⟩]) (.seq (.ops false [⟨some 11,.mov (.tmp 1),none,[]⟩,⟨some 12,.bin .add (.tmp 11) (.const (.int .i64 1)),none,[]⟩,⟨some 13,.mkslice 1 (.int .i64 0) (.tmp 12) (.tmp 12),none,[]⟩,⟨some 6,.mov (.tmp 13),none,[]⟩]) (.seq (.ops false [⟨some 7,.mov (.const (.int .i64 200)),none,[]⟩]) (.seq (.seq (.ops false [⟨some 14,.mov (.tmp 6),none,[]⟩,⟨some 15,.len (.tmp 14),none,[]⟩,⟨some 16,.mov (.const (.int .i64 0)),none,[]⟩]) (.block 0 (some ⟨[],[6],[10,13]⟩) (.loop dk90_1 db90_1))) (.seq (.ops false [⟨some 36,.mov (.tmp 6),none,[]⟩,⟨some 4,.mov (.tmp 36),none,[]⟩]) .ret)))))⟩
theorem dh90:cProg Go.Proofs.Tryz.prog ⟨[(0,⟨[],[5,6,7,15,16],[10,13]⟩),(2,⟨[],[5,6,7,8,15,16],[10,13]⟩)],[(2,⟨[],[5,6,7,8,15,16],[10,13]⟩),(1,⟨[],[5,6,7,15,16],[10,13]⟩),(0,⟨[],[6],[10,13]⟩)],[]⟩ 90=some dc90:=by kernel_rfl
def dc93 : DFunc := ⟨14,2,[.tmp 4],.seq (.ops false [⟨some 4,.mov (.const (.int .i64 0)),none,[]⟩]) (.seq (.ops false [⟨some 5,.mov (.tmp 0),none,[]⟩,⟨some 6,.bin .eql (.tmp 5) (.const (.int .i64 0)),none,[]⟩,⟨some 7,.call (.func 87) [.tmp 6,.const (.int .i64 12)],none,[]⟩,⟨some 8,.mov (.tmp 0),none,[]⟩,⟨some 9,.mov (.tmp 1),none,[]⟩,⟨some 10,.bin .gtr (.tmp 8) (.tmp 9),none,[]⟩,⟨some 11,.call (.func 87) [.tmp 10,.const (.int .i64 5)],none,[]⟩,⟨some 12,.lit true 1 2 (.int .i64 0) [(0,(.tmp 7)),(1,(.tmp 11))],none,[]⟩,⟨some 13,.call (.func 78) [.tmp 12],none,[]⟩,⟨some 4,.mov (.tmp 13),none,[]⟩]) .ret)⟩
theorem dh93:cProg Go.Proofs.Tryz.prog ⟨[],[],[12]⟩ 93=some dc93:=by kernel_rfl
def db94_0 : DC := (.seq (.ops false [⟨some 11,.bin .lss (.tmp 10) (.tmp 9),none,[]⟩]) (.seq (.cond (.tmp 11) .skip (.exit 0)) (.seq (.block 1 none (.seq (.ops false [⟨some 12,.iaddr 3 (.tmp 8) (.tmp 10),none,[]⟩,⟨some 13,.load (some 3) (.tmp 12),none,[]⟩,⟨some 7,.alloc (.agg [.full [],.int .i64 0,.int .i64 0]) 3,none,[]⟩,⟨none,.store 3 (.tmp 7) (.tmp 13),none,[]⟩]) (.ops false [⟨some 14,.mov (.tmp 5),none,[]⟩,⟨some 15,.mov (.tmp 1),none,[]⟩,⟨some 16,.load (some 3) (.tmp 7),none,[]⟩,⟨some 17,.call (.tmp 15) [.tmp 16],none,[]⟩,⟨some 18,.lit true 1 1 (.int .i64 0) [(0,(.tmp 17))],none,[]⟩,⟨some 19,.append false 1 (.tmp 14) (.tmp 18),none,[]⟩,⟨some 5,.mov (.tmp 19),none,[]⟩]))) (.ops false [⟨some 20,.bin .add (.tmp 10) (.const (.int .i64 1)),none,[]⟩,⟨some 10,.mov (.tmp 20),none,[]⟩]))))
def dk94_0 : Keep := ⟨[(5,1)],[1,5,8,9,10],[5]⟩
def dc94 : DFunc := ⟨22,2,[.tmp 4],.seq (.ops false [⟨some 4,.mov (.const (.slice none 0 0)),none,[]⟩]) (.seq (.ops false [⟨some 5,.mov (.const (.slice none 0 0)),none,[]⟩]) (.seq (.seq (.ops false [⟨some 8,.mov (.tmp 0),none,[]⟩,⟨some 9,.len (.tmp 8),none,[]⟩,⟨some 10,.mov (.const (.int .i64 0)),none,[]⟩]) (.block 0 (some ⟨[],[5],[5]⟩) (.loop dk94_0 db94_0))) (.seq (.ops false [⟨some 21,.mov (.tmp 5),none,[]⟩,⟨some 4,.mov (.tmp 21),none,[]⟩]) .ret)))⟩
theorem dh94:cProg Go.Proofs.Tryz.prog ⟨[(0,⟨[(5,1)],[1,5,8,9,10],[5]⟩)],[(0,⟨[],[5],[5]⟩)],[18]⟩ 94=some dc94:=by kernel_rfl
def dc95 : DFunc := ⟨6,1,[.tmp 2],.seq (.ops false [⟨some 2,.mov (.const (.int .i64 0)),none,[]⟩]) (.seq (.ops false [⟨some 3,.mov (.tmp 0),none,[]⟩,⟨some 4,.call (.func 120) [.tmp 3,.func 121],none,[]⟩,⟨some 5,.call (.func 119) [.tmp 4],none,[]⟩,⟨some 2,.mov (.tmp 5),none,[]⟩]) .ret)⟩
theorem dh95:cProg Go.Proofs.Tryz.prog ⟨[],[],[]⟩ 95=some dc95:=by kernel_rfl
def db96_0 : DC := (.seq (.ops false [⟨some 24,.bin .lss (.tmp 23) (.tmp 22),none,[]⟩]) (.seq (.cond (.tmp 24) .skip (.exit 2)) (.seq (.block 3 none (.seq (.ops false [⟨some 25,.mov (.tmp 23),none,[]⟩,⟨some 26,.iaddr 1 (.tmp 21) (.tmp 23),none,[]⟩,⟨some 27,.load none (.tmp 26),none,[]⟩,⟨some 8,.mov (.tmp 25),none,[]⟩,⟨some 9,.mov (.tmp 27),none,[]⟩]) (.ops false [⟨some 28,.mov (.tmp 5),none,[]⟩,⟨some 29,.mov (.tmp 8),none,[]⟩,⟨some 30,.iaddr 1 (.tmp 28) (.tmp 29),none,[]⟩,⟨some 31,.load none (.tmp 30),none,[]⟩,⟨some 32,.mov (.tmp 9),none,[]⟩,⟨some 33,.bin .add (.tmp 31) (.tmp 32),none,[]⟩,⟨some 34,.iaddr 1 (.tmp 28) (.tmp 29),none,[]⟩,⟨none,.store 1 (.tmp 34) (.tmp 33),none,[]⟩]))) (.ops false [⟨some 35,.bin .add (.tmp 23) (.const (.int .i64 1)),none,[]⟩,⟨some 23,.mov (.tmp 35),none,[]⟩]))))
def dk96_0 : Keep := ⟨[],[1,5,13,14,15,21,22,23],[12]⟩
def db96_1 : DC := (.seq (.ops false [⟨some 16,.bin .lss (.tmp 15) (.tmp 14),none,[]⟩]) (.seq (.cond (.tmp 16) .skip (.exit 0)) (.seq (.block 1 (some ⟨[],[1,5,13,14,15],[12]⟩) (.seq (.ops false [⟨some 17,.iaddr 1 (.tmp 13) (.tmp 15),none,[]⟩,⟨some 18,.load none (.tmp 17),none,[]⟩,⟨some 7,.mov (.tmp 18),none,[]⟩]) (.seq (.ops false [⟨some 19,.mov (.tmp 7),none,[]⟩,⟨some 20,.mov (.tmp 1),none,[]⟩,⟨some 21,.call (.func 90) [.tmp 19,.tmp 20],none,[]⟩,⟨some 22,.len (.tmp 21),none,[]⟩,⟨some 23,.mov (.const (.int .i64 0)),none,[]⟩]) (.block 2 (some ⟨[],[1,5,13,14,15],[12]⟩) (.loop dk96_0 db96_0))))) (.ops false [⟨some 36,.bin .add (.tmp 15) (.const (.int .i64 1)),none,[]⟩,⟨some 15,.mov (.tmp 36),none,[]⟩]))))
def dk96_1 : Keep := ⟨[],[1,5,13,14,15],[12]⟩
def dc96 : DFunc := ⟨38,2,[.tmp 4],.seq (.ops false [⟨some 4,.mov (.const (.slice none 0 0)),none,[]⟩]) (.seq (.ops false [⟨some 10,.mov (.tmp 1),none,[]⟩,⟨some 11,.bin .add (.tmp 10) (.const (.int .i64 1)),none,[]⟩,⟨some 12,.mkslice 1 (.int .i64 0) (.tmp 11) (.tmp 11),none,[]⟩,⟨some 5,.mov (.tmp 12),none,[]⟩]) (.seq (.seq (.ops false [⟨some 13,.mov (.tmp 0),none,[]⟩,⟨some 14,.len (.tmp 13),none,[]⟩,⟨some 15,.mov (.const (.int .i64 0)),none,[]⟩]) (.block 0 (some ⟨[],[5],[12]⟩) (.loop dk96_1 db96_1))) (.seq (.ops false [⟨some 37,.mov (.tmp 5),none,[]⟩,⟨some 4,.mov (.tmp 37),none,[]⟩]) .ret)))⟩
theorem dh96:cProg Go.Proofs.Tryz.prog ⟨[(0,⟨[],[1,5,13,14,15],[12]⟩),(2,⟨[],[1,5,13,14,15,21,22,23],[12]⟩)],[(2,⟨[],[1,5,13,14,15],[12]⟩),(1,⟨[],[1,5,13,14,15],[12]⟩),(0,⟨[],[5],[12]⟩)],[]⟩ 96=some dc96:=by kernel_rfl
def db98_0 : DC := (.seq (.ops false [⟨some 11,.bin .lss (.tmp 10) (.tmp 9),none,[]⟩]) (.seq (.cond (.tmp 11) .skip (.exit 0)) (.seq (.block 1 none (.seq (.ops false [⟨some 12,.iaddr 1 (.tmp 8) (.tmp 10),none,[]⟩,⟨some 13,.load none (.tmp 12),none,[]⟩,⟨some 7,.mov (.tmp 13),none,[]⟩]) (.ops false [⟨some 14,.mov (.tmp 5),none,[]⟩,⟨some 15,.mov (.tmp 1),none,[]⟩,⟨some 16,.mov (.tmp 7),none,[]⟩,⟨some 17,.call (.tmp 15) [.tmp 16],none,[]⟩,⟨some 18,.lit true 1 1 (.int .i64 0) [(0,(.tmp 17))],none,[]⟩,⟨some 19,.append false 1 (.tmp 14) (.tmp 18),none,[]⟩,⟨some 5,.mov (.tmp 19),none,[]⟩]))) (.ops false [⟨some 20,.bin .add (.tmp 10) (.const (.int .i64 1)),none,[]⟩,⟨some 10,.mov (.tmp 20),none,[]⟩]))))
def dk98_0 : Keep := ⟨[(5,1)],[1,5,8,9,10],[5]⟩
def dc98 : DFunc := ⟨22,2,[.tmp 4],.seq (.ops false [⟨some 4,.mov (.const (.slice none 0 0)),none,[]⟩]) (.seq (.ops false [⟨some 5,.mov (.const (.slice none 0 0)),none,[]⟩]) (.seq (.seq (.ops false [⟨some 8,.mov (.tmp 0),none,[]⟩,⟨some 9,.len (.tmp 8),none,[]⟩,⟨some 10,.mov (.const (.int .i64 0)),none,[]⟩]) (.block 0 (some ⟨[],[5],[5]⟩) (.loop dk98_0 db98_0))) (.seq (.ops false [⟨some 21,.mov (.tmp 5),none,[]⟩,⟨some 4,.mov (.tmp 21),none,[]⟩]) .ret)))⟩
theorem dh98:cProg Go.Proofs.Tryz.prog ⟨[(0,⟨[(5,1)],[1,5,8,9,10],[5]⟩)],[(0,⟨[],[5],[5]⟩)],[18]⟩ 98=some dc98:=by kernel_rfl
def dc99 : DFunc := ⟨8,2,[.tmp 4],.seq (.ops false [⟨some 3,.box 1 (.tmp 1),none,[]⟩,⟨some 4,.mov (.const (.slice none 0 0)),none,[]⟩]) (.seq (.ops false [⟨some 5,.mov (.tmp 0),none,[]⟩,⟨some 6,.mkfunc 123 [.tmp 3],none,[]⟩,⟨some 7,.call (.func 122) [.tmp 5,.tmp 6],none,[]⟩,⟨some 4,.mov (.tmp 7),none,[]⟩]) .ret)⟩
theorem dh99:cProg Go.Proofs.Tryz.prog ⟨[],[],[]⟩ 99=some dc99:=by kernel_rfl
def dc100 : DFunc := ⟨5,1,[.tmp 2],.seq (.ops false [⟨some 2,.mov (.const (.slice none 0 0)),none,[]⟩]) (.seq (.ops false [⟨some 3,.mov (.tmp 0),none,[]⟩,⟨some 4,.call (.func 124) [.const (.slice none 0 0),.tmp 3],none,[]⟩,⟨some 2,.mov (.tmp 4),none,[]⟩]) .ret)⟩
theorem dh100:cProg Go.Proofs.Tryz.prog ⟨[],[],[]⟩ 100=some dc100:=by kernel_rfl
def dc101 : DFunc := ⟨4,1,[.tmp 2],.seq (.ops false [⟨some 1,.box 1 (.tmp 0),none,[]⟩,⟨some 2,.mov (.const .nilFunc),none,[]⟩]) (.seq (.ops false [⟨some 3,.mkfunc 125 [.tmp 1],none,[]⟩,⟨some 2,.mov (.tmp 3),none,[]⟩]) .ret)⟩
theorem dh101:cProg Go.Proofs.Tryz.prog ⟨[],[],[]⟩ 101=some dc101:=by kernel_rfl
def db102_0x : DC := (.ops false [⟨some 5,.alloc (.agg [.int .i64 0,.int .i64 0]) 2,none,[]⟩,⟨none,.store 2 (.tmp 5) (.tmp 8),none,[]⟩])
def db102_0 : DC := (.block 1 none (.seq (.ops false [⟨some 9,.load none (.tmp 3),none,[]⟩,⟨some 10,.load (some 2) (.tmp 5),none,[]⟩,⟨some 11,.load (some 2) (.tmp 4),none,[]⟩,⟨some 12,.call (.tmp 9) [.tmp 10,.tmp 11],none,[]⟩,⟨some 13,.bin .lss (.tmp 12) (.const (.int .i64 0)),none,[]⟩]) (.cond (.tmp 13) (.ops false [⟨some 14,.load (some 2) (.tmp 5),none,[]⟩,⟨none,.store 2 (.tmp 4) (.tmp 14),none,[]⟩]) .skip)))
def dk102_0 : Keep := ⟨[],[2,3,4],[2,3,4]⟩
def dc102 : DFunc := ⟨16,1,[.cell 2 (some 2)],.seq (.ops false [⟨some 2,.alloc (.agg [.int .i64 0,.int .i64 0]) 2,none,[]⟩]) (.seq (.ops false [⟨some 3,.alloc .nilfunc 1,none,[]⟩,⟨none,.store 1 (.tmp 3) (.func 126),none,[]⟩]) (.seq (.ops false [⟨some 4,.alloc (.agg [.int .i64 0,.int .i64 0]) 2,none,[]⟩]) (.seq (.seq (.ops false [⟨some 6,.mov (.tmp 0),none,[]⟩,⟨some 7,.call (.func 101) [.tmp 6],none,[]⟩]) (.block 0 (some ⟨[],[2,4],[2,3,4]⟩) (.rangeF dk102_0 (.tmp 7) [8] db102_0x db102_0))) (.seq (.ops false [⟨some 15,.load (some 2) (.tmp 4),none,[]⟩,⟨none,.store 2 (.tmp 2) (.tmp 15),none,[]⟩]) .ret))))⟩
theorem dh102:cProg Go.Proofs.Tryz.prog ⟨[(0,⟨[],[2,3,4],[2,3,4]⟩)],[(0,⟨[],[2,4],[2,3,4]⟩)],[]⟩ 102=some dc102:=by kernel_rfl
def db104_0 : DC := (.seq (.ops false [⟨some 11,.bin .lss (.tmp 10) (.tmp 9),none,[]⟩]) (.seq (.cond (.tmp 11) .skip (.exit 0)) (.seq (.block 1 none (.seq (.ops false [⟨some 12,.iaddr 1 (.tmp 8) (.tmp 10),none,[]⟩,⟨some 13,.load none (.tmp 12),none,[]⟩,⟨some 7,.mov (.tmp 13),none,[]⟩]) (.ops false [⟨some 14,.mov (.tmp 5),none,[]⟩,⟨some 15,.mov (.tmp 1),none,[]⟩,⟨some 16,.mov (.tmp 7),none,[]⟩,⟨some 17,.call (.tmp 15) [.tmp 16],none,[]⟩,⟨some 18,.lit true 1 1 (.str []) [(0,(.tmp 17))],none,[]⟩,⟨some 19,.append false 1 (.tmp 14) (.tmp 18),none,[]⟩,⟨some 5,.mov (.tmp 19),none,[]⟩]))) (.ops false [⟨some 20,.bin .add (.tmp 10) (.const (.int .i64 1)),none,[]⟩,⟨some 10,.mov (.tmp 20),none,[]⟩]))))
def dk104_0 : Keep := ⟨[(5,1)],[1,5,8,9,10],[5]⟩
def dc104 : DFunc := ⟨22,2,[.tmp 4],.seq (.ops false [⟨some 4,.mov (.const (.slice none 0 0)),none,[]⟩]) (.seq (.ops false [⟨some 5,.mov (.const (.slice none 0 0)),none,[]⟩]) (.seq (.seq (.ops false [⟨some 8,.mov (.tmp 0),none,[]⟩,⟨some 9,.len (.tmp 8),none,[]⟩,⟨some 10,.mov (.const (.int .i64 0)),none,[]⟩]) (.block 0 (some ⟨[],[5],[5]⟩) (.loop dk104_0 db104_0))) (.seq (.ops false [⟨some 21,.mov (.tmp 5),none,[]⟩,⟨some 4,.mov (.tmp 21),none,[]⟩]) .ret)))⟩
theorem dh104:cProg Go.Proofs.Tryz.prog ⟨[(0,⟨[(5,1)],[1,5,8,9,10],[5]⟩)],[(0,⟨[],[5],[5]⟩)],[18]⟩ 104=some dc104:=by kernel_rfl
def dc112 : DFunc := ⟨5,0,[.tmp 0],.seq (.ops false [⟨some 0,.mov (.const (.slice none 0 0)),none,[]⟩]) (.seq (.ops false [⟨some 1,.build [.int .i64 0,.int .i64 0] [(1,(1,(.const (.int .i64 10))))],none,[]⟩,⟨some 2,.build [.int .i64 0,.int .i64 0] [(0,(1,(.const (.int .i64 4)))),(1,(1,(.const (.int .i64 8))))],none,[]⟩,⟨some 3,.build [.int .i64 0,.int .i64 0] [(0,(1,(.const (.int .i64 6))))],none,[]⟩,⟨some 4,.lit true 2 3 (.agg [.int .i64 0,.int .i64 0]) [(0,(.tmp 1)),(1,(.tmp 2)),(2,(.tmp 3))],none,[]⟩,⟨some 0,.mov (.tmp 4),none,[]⟩]) .ret)⟩
theorem dh112:cProg Go.Proofs.Tryz.prog ⟨[],[],[4]⟩ 112=some dc112:=by kernel_rfl
def dc113 : DFunc := ⟨6,1,[.tmp 2],.seq (.ops false [⟨some 2,.mov (.const (.int .i64 0)),none,[]⟩]) (.seq (.ops false [⟨some 3,.mov (.tmp 0),none,[]⟩,⟨some 4,.call (.func 136) [.tmp 3,.func 137],none,[]⟩,⟨some 5,.call (.func 78) [.tmp 4],none,[]⟩,⟨some 2,.mov (.tmp 5),none,[]⟩]) .ret)⟩
theorem dh113:cProg Go.Proofs.Tryz.prog ⟨[],[],[]⟩ 113=some dc113:=by kernel_rfl
def db114_0 : DC := (.seq (.ops false [⟨some 9,.bin .lss (.tmp 8) (.tmp 7),none,[]⟩]) (.seq (.cond (.tmp 9) .skip (.exit 0)) (.seq (.block 1 none (.seq (.ops false [⟨some 10,.mov (.tmp 8),none,[]⟩,⟨some 5,.mov (.tmp 10),none,[]⟩]) (.seq (.ops false [⟨some 11,.mov (.tmp 1),none,[]⟩,⟨some 12,.mov (.tmp 0),none,[]⟩,⟨some 13,.mov (.tmp 5),none,[]⟩,⟨some 14,.iaddr 2 (.tmp 12) (.tmp 13),none,[]⟩,⟨some 15,.load (some 2) (.tmp 14),none,[]⟩,⟨some 16,.call (.tmp 11) [.tmp 15],none,[]⟩]) (.cond (.tmp 16) (.seq (.ops false [⟨some 17,.mov (.tmp 5),none,[]⟩,⟨some 4,.mov (.tmp 17),none,[]⟩]) .ret) .skip)))) (.ops false [⟨some 18,.bin .add (.tmp 8) (.const (.int .i64 1)),none,[]⟩,⟨some 8,.mov (.tmp 18),none,[]⟩]))))
def dk114_0 : Keep := ⟨[],[0,1,7,8],[]⟩
def dc114 : DFunc := ⟨19,2,[.tmp 4],.seq (.ops false [⟨some 4,.mov (.const (.int .i64 0)),none,[]⟩]) (.seq (.seq (.ops false [⟨some 6,.mov (.tmp 0),none,[]⟩,⟨some 7,.len (.tmp 6),none,[]⟩,⟨some 8,.mov (.const (.int .i64 0)),none,[]⟩]) (.block 0 (some ⟨[],[],[]⟩) (.loop dk114_0 db114_0))) (.seq (.ops false [⟨some 4,.mov (.const (.int .i64 (-1))),none,[]⟩]) .ret))⟩
theorem dh114:cProg Go.Proofs.Tryz.prog ⟨[(0,⟨[],[0,1,7,8],[]⟩)],[(0,⟨[],[],[]⟩)],[]⟩ 114=some dc114:=by kernel_rfl
def dc115 : DFunc := ⟨10,3,[.tmp 4],.seq (.ops false [⟨some 3,.box 2 (.tmp 0),none,[]⟩,⟨some 4,.mov (.const (.bool false)),none,[]⟩]) (.seq (.ops false [⟨some 5,.faddr 1 1 false (.tmp 3),none,[]⟩,⟨some 6,.load none (.tmp 5),none,[]⟩,⟨some 7,.load none (.tmp 1),none,[]⟩,⟨some 8,.load none (.tmp 2),none,[]⟩,⟨some 9,.call (.tmp 6) [.tmp 7,.tmp 8],none,[]⟩,⟨some 4,.mov (.tmp 9),none,[]⟩]) .ret)⟩
theorem dh115:cProg Go.Proofs.Tryz.prog ⟨[],[],[]⟩ 115=some dc115:=by kernel_rfl
def db116_0 : DC := (.seq (.seq (.ops false [⟨some 9,.mov (.tmp 5),none,[]⟩,⟨some 10,.mov (.tmp 0),none,[]⟩,⟨some 11,.len (.tmp 10),none,[]⟩,⟨some 12,.bin .lss (.tmp 9) (.tmp 11),none,[]⟩]) (.cond (.tmp 12) .skip (.exit 0))) (.seq (.block 1 none (.seq (.ops true [⟨some 15,.mov (.tmp 0),none,[]⟩,⟨some 16,.mov (.tmp 5),none,[]⟩,⟨some 17,.bin .sub (.tmp 16) (.const (.int .i64 1)),none,[1]⟩,⟨some 18,.iaddr 2 (.tmp 15) (.tmp 17),none,[0,2,1]⟩,⟨some 19,.load (some 2) (.tmp 18),none,[3,0,2,1]⟩,⟨some 20,.mov (.tmp 0),none,[]⟩,⟨some 21,.mov (.tmp 5),none,[]⟩,⟨some 22,.iaddr 2 (.tmp 20) (.tmp 21),none,[5,6]⟩,⟨some 23,.load (some 2) (.tmp 22),none,[7,5,6]⟩,⟨some 6,.alloc (.agg [.int .i64 0,.int .i64 0]) 2,none,[]⟩,⟨some 7,.alloc (.agg [.int .i64 0,.int .i64 0]) 2,none,[]⟩,⟨none,.store 2 (.tmp 6) (.tmp 19),none,[9,4,3,0,2,1,10]⟩,⟨none,.store 2 (.tmp 7) (.tmp 23),none,[10,8,7,5,6,11,9,4,3,0,2,1]⟩]) (.seq (.seq (.ops false [⟨some 24,.faddr 1 1 false (.tmp 6),none,[]⟩,⟨some 25,.load none (.tmp 24),none,[]⟩,⟨some 26,.faddr 1 1 false (.tmp 7),none,[]⟩,⟨some 27,.load none (.tmp 26),none,[]⟩,⟨some 28,.build [.int .i64 0,.int .i64 0] [(0,(1,(.tmp 25))),(1,(1,(.tmp 27)))],none,[]⟩,⟨some 8,.alloc (.agg [.int .i64 0,.int .i64 0]) 2,none,[]⟩,⟨none,.store 2 (.tmp 8) (.tmp 28),none,[]⟩]) (.seq (.ops false [⟨some 29,.load (some 2) (.tmp 8),none,[]⟩,⟨some 30,.build [.int .i64 0,.int .i64 0] [],none,[]⟩,⟨some 31,.eqA false [1,1] (.tmp 29) (.tmp 30),none,[]⟩]) (.cond (.tmp 31) (.seq (.ops false [⟨some 4,.mov (.const (.int .i64 0)),none,[]⟩]) .ret) .skip))) (.seq (.ops false [⟨some 32,.mov (.tmp 1),none,[]⟩,⟨some 33,.faddr 0 1 false (.tmp 7),none,[]⟩,⟨some 34,.load none (.tmp 33),none,[]⟩,⟨some 35,.bin .lss (.tmp 32) (.tmp 34),none,[]⟩]) (.cond (.tmp 35) (.seq (.ops true [⟨some 36,.faddr 1 1 false (.tmp 6),none,[]⟩,⟨some 37,.load none (.tmp 36),none,[0]⟩,⟨some 38,.faddr 1 1 false (.tmp 7),none,[]⟩,⟨some 39,.load none (.tmp 38),none,[2]⟩,⟨some 40,.faddr 1 1 false (.tmp 6),none,[]⟩,⟨some 41,.load none (.tmp 40),none,[4]⟩,⟨some 42,.bin .sub (.tmp 39) (.tmp 41),none,[3,2,5,4]⟩,⟨some 43,.mov (.tmp 1),none,[]⟩,⟨some 44,.faddr 0 1 false (.tmp 6),none,[]⟩,⟨some 45,.load none (.tmp 44),none,[8]⟩,⟨some 46,.bin .sub (.tmp 43) (.tmp 45),none,[7,9,8]⟩,⟨some 47,.bin .mul (.tmp 42) (.tmp 46),none,[6,3,2,5,4,10,7,9,8]⟩,⟨some 48,.faddr 0 1 false (.tmp 7),none,[]⟩,⟨some 49,.load none (.tmp 48),none,[12]⟩,⟨some 50,.faddr 0 1 false (.tmp 6),none,[]⟩,⟨some 51,.load none (.tmp 50),none,[14]⟩,⟨some 52,.bin .sub (.tmp 49) (.tmp 51),none,[13,12,15,14]⟩,⟨some 53,.call (.func 138) [.tmp 47,.tmp 52],none,[11,6,3,2,5,4,10,7,9,8,16,13,12,15,14]⟩,⟨some 54,.bin .add (.tmp 37) (.tmp 53),none,[1,0,17,11,6,3,2,5,4,10,7,9,8,16,13,12,15,14]⟩,⟨some 4,.mov (.tmp 54),none,[18,1,0,17,11,6,3,2,5,4,10,7,9,8,16,13,12,15,14]⟩]) .ret) .skip))))) (.ops false [⟨some 13,.mov (.tmp 5),none,[]⟩,⟨some 14,.bin .add (.tmp 13) (.const (.int .i64 1)),none,[]⟩,⟨some 5,.mov (.tmp 14),none,[]⟩])))
def dk116_0 : Keep := ⟨[],[0,1,5],[]⟩
def dc116 : DFunc := ⟨55,2,[.tmp 4],.seq (.ops false [⟨some 4,.mov (.const (.int .i64 0)),none,[]⟩]) (.seq (.seq (.ops false [⟨some 5,.mov (.const (.int .i64 1)),none,[]⟩]) (.block 0 (some ⟨[],[],[]⟩) (.loop dk116_0 db116_0))) (.seq (.ops false [⟨some 4,.mov (.const (.int .i64 0)),none,[]⟩]) .ret))⟩
theorem dh116:cProg Go.Proofs.Tryz.prog ⟨[(0,⟨[],[0,1,5],[]⟩)],[(0,⟨[],[],[]⟩)],[]⟩ 116=some dc116:=by kernel_rfl
def dc117 : DFunc := ⟨10,1,[.tmp 2],.seq (.ops false [⟨some 2,.mov (.const (.int .i64 0)),none,[]⟩]) (.seq (.ops false [⟨some 3,.mov (.tmp 0),none,[]⟩,⟨some 4,.mov (.tmp 0),none,[]⟩,⟨some 5,.len (.tmp 4),none,[]⟩,⟨some 6,.bin .sub (.tmp 5) (.const (.int .i64 1)),none,[]⟩,⟨some 7,.iaddr 2 (.tmp 3) (.tmp 6),none,[]⟩,⟨some 8,.faddr 0 1 false (.tmp 7),none,[]⟩,⟨some 9,.load none (.tmp 8),none,[]⟩,⟨some 2,.mov (.tmp 9),none,[]⟩]) .ret)⟩
theorem dh117:cProg Go.Proofs.Tryz.prog ⟨[],[],[]⟩ 117=some dc117:=by kernel_rfl
def db118_0 : DC := (.seq (.ops false [⟨some 25,.bin .lss (.tmp 24) (.tmp 23),none,[]⟩]) (.seq (.cond (.tmp 25) .skip (.exit 2)) (.seq (.block 3 none (.seq (.ops false [⟨some 26,.mov (.tmp 24),none,[]⟩,⟨some 7,.mov (.tmp 26),none,[]⟩]) (.ops false [⟨some 27,.mov (.tmp 6),none,[]⟩,⟨some 28,.mov (.tmp 7),none,[]⟩,⟨some 29,.load (some 3) (.tmp 5),none,[]⟩,⟨some 30,.mov (.tmp 7),none,[]⟩,⟨some 31,.call (.func 80) [.tmp 29,.tmp 30],none,[]⟩,⟨some 32,.iaddr 1 (.tmp 27) (.tmp 28),none,[]⟩,⟨none,.store 1 (.tmp 32) (.tmp 31),none,[]⟩]))) (.ops false [⟨some 33,.bin .add (.tmp 24) (.const (.int .i64 1)),none,[]⟩,⟨some 24,.mov (.tmp 33),none,[]⟩]))))
def dk118_0 : Keep := ⟨[],[3,5,6,11,12,13,23,24],[5,10,21]⟩
def db118_1 : DC := (.seq (.seq (.ops false [⟨some 40,.mov (.tmp 8),none,[]⟩,⟨some 41,.bin .geq (.tmp 40) (.const (.int .i64 0)),none,[]⟩,⟨some 42,.mov (.tmp 41),none,[]⟩,⟨some 43,.mov (.tmp 6),some (42,true),[]⟩,⟨some 44,.mov (.tmp 8),some (42,true),[]⟩,⟨some 45,.iaddr 1 (.tmp 43) (.tmp 44),some (42,true),[]⟩,⟨some 46,.load none (.tmp 45),some (42,true),[]⟩,⟨some 47,.mov (.tmp 9),some (42,true),[]⟩,⟨some 48,.bin .lss (.tmp 46) (.tmp 47),some (42,true),[]⟩,⟨some 49,.pick (.tmp 42) (.tmp 48) (.const (.bool false)),none,[]⟩]) (.cond (.tmp 49) .skip (.exit 6))) (.block 7 none (.ops false [⟨some 50,.mov (.tmp 8),none,[]⟩,⟨some 51,.bin .sub (.tmp 50) (.const (.int .i64 1)),none,[]⟩,⟨some 8,.mov (.tmp 51),none,[]⟩])))
def dk118_1 : Keep := ⟨[],[3,5,6,8,9,11,12,13,37],[5,10,21]⟩
def db118_2 : DC := (.seq (.ops false [⟨some 38,.bin .lss (.tmp 37) (.const (.int .i64 201)),none,[]⟩]) (.seq (.cond (.tmp 38) .skip (.exit 4)) (.seq (.block 5 (some ⟨[],[3,5,6,8,11,12,13,37],[5,10,21]⟩) (.seq (.ops false [⟨some 39,.mov (.tmp 37),none,[]⟩,⟨some 9,.mov (.tmp 39),none,[]⟩]) (.seq (.block 6 (some ⟨[],[3,5,6,8,9,11,12,13,37],[5,10,21]⟩) (.loop dk118_1 db118_1)) (.seq (.seq (.ops false [⟨some 52,.mov (.tmp 8),none,[]⟩,⟨some 53,.bin .lss (.tmp 52) (.const (.int .i64 0)),none,[]⟩]) (.cond (.tmp 53) (.seq (.ops false [⟨some 54,.mov (.tmp 3),none,[]⟩,⟨some 55,.mov (.tmp 9),none,[]⟩,⟨some 56,.lookup 1 [] false (.int .i64 0) (.tmp 54) (.tmp 55),none,[]⟩,⟨some 57,.faddr 2 1 false (.tmp 5),none,[]⟩,⟨some 58,.load none (.tmp 57),none,[]⟩,⟨some 59,.bin .sub (.tmp 56) (.tmp 58),none,[]⟩,⟨none,.mapset 1 [] (.tmp 54) (.tmp 55) (.tmp 59),none,[]⟩]) (.exit 5)) .skip)) (.ops false [⟨some 60,.mov (.tmp 3),none,[]⟩,⟨some 61,.mov (.tmp 9),none,[]⟩,⟨some 62,.lookup 1 [] false (.int .i64 0) (.tmp 60) (.tmp 61),none,[]⟩,⟨some 63,.mov (.tmp 8),none,[]⟩,⟨some 64,.bin .add (.tmp 62) (.tmp 63),none,[]⟩,⟨none,.mapset 1 [] (.tmp 60) (.tmp 61) (.tmp 64),none,[]⟩]))))) (.ops false [⟨some 65,.bin .add (.tmp 37) (.const (.int .i64 1)),none,[]⟩,⟨some 37,.mov (.tmp 65),none,[]⟩]))))
def dk118_2 : Keep := ⟨[],[3,5,6,8,11,12,13,37],[5,10,21]⟩
def db118_3 : DC := (.seq (.ops false [⟨some 14,.bin .lss (.tmp 13) (.tmp 12),none,[]⟩]) (.seq (.cond (.tmp 14) .skip (.exit 0)) (.seq (.block 1 (some ⟨[],[3,11,12,13],[10]⟩) (.seq (.ops false [⟨some 15,.iaddr 3 (.tmp 11) (.tmp 13),none,[]⟩,⟨some 16,.load (some 3) (.tmp 15),none,[]⟩,⟨some 5,.alloc (.agg [.full [],.int .i64 0,.int .i64 0]) 3,none,[]⟩,⟨none,.store 3 (.tmp 5) (.tmp 16),none,[]⟩]) (.seq (.ops false [⟨some 17,.faddr 0 1 false (.tmp 5),none,[]⟩,⟨some 18,.load none (.tmp 17),none,[]⟩,⟨some 19,.call (.func 117) [.tmp 18],none,[]⟩,⟨some 20,.bin .add (.tmp 19) (.const (.int .i64 1)),none,[]⟩,⟨some 21,.mkslice 1 (.int .i64 0) (.tmp 20) (.tmp 20),none,[]⟩,⟨some 6,.mov (.tmp 21),none,[]⟩]) (.seq (.seq (.ops false [⟨some 22,.mov (.tmp 6),none,[]⟩,⟨some 23,.len (.tmp 22),none,[]⟩,⟨some 24,.mov (.const (.int .i64 0)),none,[]⟩]) (.block 2 (some ⟨[],[3,5,6,11,12,13],[5,10,21]⟩) (.loop dk118_0 db118_0))) (.seq (.ops false [⟨some 34,.mov (.tmp 6),none,[]⟩,⟨some 35,.len (.tmp 34),none,[]⟩,⟨some 36,.bin .sub (.tmp 35) (.const (.int .i64 1)),none,[]⟩,⟨some 8,.mov (.tmp 36),none,[]⟩]) (.seq (.ops false [⟨some 37,.mov (.const (.int .i64 0)),none,[]⟩]) (.block 4 (some ⟨[],[3,11,12,13],[5,10,21]⟩) (.loop dk118_2 db118_2)))))))) (.ops false [⟨some 66,.bin .add (.tmp 13) (.const (.int .i64 1)),none,[]⟩,⟨some 13,.mov (.tmp 66),none,[]⟩]))))
def dk118_3 : Keep := ⟨[],[3,11,12,13],[10]⟩
def dc118 : DFunc := ⟨68,1,[.tmp 2],.seq (.ops false [⟨some 2,.mov (.const (.map none)),none,[]⟩]) (.seq (.ops false [⟨some 10,.makemap,none,[]⟩,⟨some 3,.mov (.tmp 10),none,[]⟩]) (.seq (.seq (.ops false [⟨some 11,.mov (.tmp 0),none,[]⟩,⟨some 12,.len (.tmp 11),none,[]⟩,⟨some 13,.mov (.const (.int .i64 0)),none,[]⟩]) (.block 0 (some ⟨[],[3],[10]⟩) (.loop dk118_3 db118_3))) (.seq (.ops false [⟨some 67,.mov (.tmp 3),none,[]⟩,⟨some 2,.mov (.tmp 67),none,[]⟩]) .ret)))⟩
theorem dh118:cProg Go.Proofs.Tryz.prog ⟨[(0,⟨[],[3,11,12,13],[10]⟩),(2,⟨[],[3,5,6,11,12,13,23,24],[5,10,21]⟩),(4,⟨[],[3,5,6,8,11,12,13,37],[5,10,21]⟩),(6,⟨[],[3,5,6,8,9,11,12,13,37],[5,10,21]⟩)],[(2,⟨[],[3,5,6,11,12,13],[5,10,21]⟩),(6,⟨[],[3,5,6,8,9,11,12,13,37],[5,10,21]⟩),(5,⟨[],[3,5,6,8,11,12,13,37],[5,10,21]⟩),(4,⟨[],[3,11,12,13],[5,10,21]⟩),(1,⟨[],[3,11,12,13],[10]⟩),(0,⟨[],[3],[10]⟩)],[]⟩ 118=some dc118:=by kernel_rfl
def db119_0 : DC := (.seq (.seq (.ops false [⟨some 12,.mov (.tmp 4),none,[]⟩,⟨some 13,.mov (.tmp 0),none,[]⟩,⟨some 14,.len (.tmp 13),none,[]⟩,⟨some 15,.bin .lss (.tmp 12) (.tmp 14),none,[]⟩]) (.cond (.tmp 15) .skip (.exit 0))) (.seq (.block 1 none (.ops false [⟨some 18,.mov (.tmp 3),none,[]⟩,⟨some 19,.mov (.tmp 0),none,[]⟩,⟨some 20,.mov (.tmp 4),none,[]⟩,⟨some 21,.iaddr 1 (.tmp 19) (.tmp 20),none,[]⟩,⟨some 22,.load none (.tmp 21),none,[]⟩,⟨some 23,.minmax true (.tmp 18) [.tmp 22],none,[]⟩,⟨some 3,.mov (.tmp 23),none,[]⟩])) (.ops false [⟨some 16,.mov (.tmp 4),none,[]⟩,⟨some 17,.bin .add (.tmp 16) (.const (.int .i64 1)),none,[]⟩,⟨some 4,.mov (.tmp 17),none,[]⟩])))
def dk119_0 : Keep := ⟨[],[0,3,4],[]⟩
def dc119 : DFunc := ⟨25,1,[.tmp 2],.seq (.ops false [⟨some 2,.mov (.const (.int .i64 0)),none,[]⟩]) (.seq (.seq (.ops false [⟨some 5,.mov (.tmp 0),none,[]⟩,⟨some 6,.len (.tmp 5),none,[]⟩,⟨some 7,.bin .lss (.tmp 6) (.const (.int .i64 1)),none,[]⟩]) (.cond (.tmp 7) (.ops false [⟨some 8,.bad,none,[]⟩,⟨none,.bad,none,[]⟩]) .skip)) (.seq (.ops false [⟨some 9,.mov (.tmp 0),none,[]⟩,⟨some 10,.iaddr 1 (.tmp 9) (.const (.int .i64 0)),none,[]⟩,⟨some 11,.load none (.tmp 10),none,[]⟩,⟨some 3,.mov (.tmp 11),none,[]⟩]) (.seq (.seq (.ops false [⟨some 4,.mov (.const (.int .i64 1)),none,[]⟩]) (.block 0 (some ⟨[],[3],[]⟩) (.loop dk119_0 db119_0))) (.seq (.ops false [⟨some 24,.mov (.tmp 3),none,[]⟩,⟨some 2,.mov (.tmp 24),none,[]⟩]) .ret))))⟩
theorem dh119:cProg Go.Proofs.Tryz.prog ⟨[(0,⟨[],[0,3,4],[]⟩)],[(0,⟨[],[3],[]⟩)],[]⟩ 119=some dc119:=by kernel_rfl
def db120_0 : DC := (.seq (.ops false [⟨some 11,.bin .lss (.tmp 10) (.tmp 9),none,[]⟩]) (.seq (.cond (.tmp 11) .skip (.exit 0)) (.seq (.block 1 none (.seq (.ops false [⟨some 12,.iaddr 1 (.tmp 8) (.tmp 10),none,[]⟩,⟨some 13,.load none (.tmp 12),none,[]⟩,⟨some 7,.mov (.tmp 13),none,[]⟩]) (.ops false [⟨some 14,.mov (.tmp 5),none,[]⟩,⟨some 15,.mov (.tmp 1),none,[]⟩,⟨some 16,.mov (.tmp 7),none,[]⟩,⟨some 17,.call (.tmp 15) [.tmp 16],none,[]⟩,⟨some 18,.lit true 1 1 (.int .i64 0) [(0,(.tmp 17))],none,[]⟩,⟨some 19,.append false 1 (.tmp 14) (.tmp 18),none,[]⟩,⟨some 5,.mov (.tmp 19),none,[]⟩]))) (.ops false [⟨some 20,.bin .add (.tmp 10) (.const (.int .i64 1)),none,[]⟩,⟨some 10,.mov (.tmp 20),none,[]⟩]))))
def dk120_0 : Keep := ⟨[(5,1)],[1,5,8,9,10],[5]⟩
def dc120 : DFunc := ⟨22,2,[.tmp 4],.seq (.ops false [⟨some 4,.mov (.const (.slice none 0 0)),none,[]⟩]) (.seq (.ops false [⟨some 5,.mov (.const (.slice none 0 0)),none,[]⟩]) (.seq (.seq (.ops false [⟨some 8,.mov (.tmp 0),none,[]⟩,⟨some 9,.len (.tmp 8),none,[]⟩,⟨some 10,.mov (.const (.int .i64 0)),none,[]⟩]) (.block 0 (some ⟨[],[5],[5]⟩) (.loop dk120_0 db120_0))) (.seq (.ops false [⟨some 21,.mov (.tmp 5),none,[]⟩,⟨some 4,.mov (.tmp 21),none,[]⟩]) .ret)))⟩
theorem dh120:cProg Go.Proofs.Tryz.prog ⟨[(0,⟨[(5,1)],[1,5,8,9,10],[5]⟩)],[(0,⟨[],[5],[5]⟩)],[18]⟩ 120=some dc120:=by kernel_rfl
def dc121 : DFunc := ⟨5,1,[.tmp 2],.seq (.ops false [⟨some 2,.mov (.const (.int .i64 0)),none,[]⟩]) (.seq (.ops false [⟨some 3,.mov (.tmp 0),none,[]⟩,⟨some 4,.call (.func 89) [.tmp 3,.const (.int .i64 0)],none,[]⟩,⟨some 2,.mov (.tmp 4),none,[]⟩]) .ret)⟩
theorem dh121:cProg Go.Proofs.Tryz.prog ⟨[],[],[]⟩ 121=some dc121:=by kernel_rfl
def db122_0 : DC := (.seq (.ops false [⟨some 11,.bin .lss (.tmp 10) (.tmp 9),none,[]⟩]) (.seq (.cond (.tmp 11) .skip (.exit 0)) (.seq (.block 1 none (.seq (.ops false [⟨some 12,.iaddr 1 (.tmp 8) (.tmp 10),none,[]⟩,⟨some 13,.load none (.tmp 12),none,[]⟩,⟨some 7,.mov (.tmp 13),none,[]⟩]) (.ops false [⟨some 14,.mov (.tmp 5),none,[]⟩,⟨some 15,.mov (.tmp 1),none,[]⟩,⟨some 16,.mov (.tmp 7),none,[]⟩,⟨some 17,.call (.tmp 15) [.tmp 16],none,[]⟩,⟨some 18,.lit true 1 1 (.full []) [(0,(.tmp 17))],none,[]⟩,⟨some 19,.append false 1 (.tmp 14) (.tmp 18),none,[]⟩,⟨some 5,.mov (.tmp 19),none,[]⟩]))) (.ops false [⟨some 20,.bin .add (.tmp 10) (.const (.int .i64 1)),none,[]⟩,⟨some 10,.mov (.tmp 20),none,[]⟩]))))
def dk122_0 : Keep := ⟨[(5,1)],[1,5,8,9,10],[5]⟩
def dc122 : DFunc := ⟨22,2,[.tmp 4],.seq (.ops false [⟨some 4,.mov (.const (.slice none 0 0)),none,[]⟩]) (.seq (.ops false [⟨some 5,.mov (.const (.slice none 0 0)),none,[]⟩]) (.seq (.seq (.ops false [⟨some 8,.mov (.tmp 0),none,[]⟩,⟨some 9,.len (.tmp 8),none,[]⟩,⟨some 10,.mov (.const (.int .i64 0)),none,[]⟩]) (.block 0 (some ⟨[],[5],[5]⟩) (.loop dk122_0 db122_0))) (.seq (.ops false [⟨some 21,.mov (.tmp 5),none,[]⟩,⟨some 4,.mov (.tmp 21),none,[]⟩]) .ret)))⟩
theorem dh122:cProg Go.Proofs.Tryz.prog ⟨[(0,⟨[(5,1)],[1,5,8,9,10],[5]⟩)],[(0,⟨[],[5],[5]⟩)],[18]⟩ 122=some dc122:=by kernel_rfl
def db123_0 : DC := (.seq (.ops false [⟨some 15,.bin .lss (.tmp 14) (.tmp 13),none,[]⟩]) (.seq (.cond (.tmp 15) .skip (.exit 0)) (.seq (.block 1 none (.seq (.ops false [⟨some 16,.mov (.tmp 14),none,[]⟩,⟨some 5,.mov (.tmp 16),none,[]⟩]) (.ops true [⟨some 17,.mov (.tmp 4),none,[]⟩,⟨some 18,.mov (.tmp 5),none,[]⟩,⟨some 19,.mov (.tmp 4),none,[]⟩,⟨some 20,.mov (.tmp 5),none,[]⟩,⟨some 21,.iaddr 3 (.tmp 19) (.tmp 20),none,[2,3]⟩,⟨some 22,.faddr 1 1 false (.tmp 21),none,[4,2,3]⟩,⟨some 23,.load none (.tmp 22),none,[5,4,2,3]⟩,⟨some 24,.load none (.tmp 1),none,[]⟩,⟨some 25,.bin .add (.tmp 23) (.tmp 24),none,[6,5,4,2,3,7]⟩,⟨some 26,.minmax true (.const (.int .i64 0)) [.tmp 25],none,[8,6,5,4,2,3,7]⟩,⟨some 27,.minmax false (.const (.int .i64 1000)) [.tmp 26],none,[9,8,6,5,4,2,3,7]⟩,⟨some 28,.iaddr 3 (.tmp 17) (.tmp 18),none,[0,1,2,3,4,5,6,7,8,9,10]⟩,⟨some 29,.faddr 1 1 false (.tmp 28),none,[11,0,1,2,3,4,5,6,7,8,9,10]⟩,⟨none,.store 1 (.tmp 29) (.tmp 27),none,[12,11,0,1,2,3,4,5,6,7,8,9,10]⟩]))) (.ops false [⟨some 30,.bin .add (.tmp 14) (.const (.int .i64 1)),none,[]⟩,⟨some 14,.mov (.tmp 30),none,[]⟩]))))
def dk123_0 : Keep := ⟨[],[1,4,13,14],[8]⟩
def dc123 : DFunc := ⟨32,2,[.tmp 3],.seq (.ops false [⟨some 3,.mov (.const (.slice none 0 0)),none,[]⟩]) (.seq (.ops false [⟨some 6,.mov (.tmp 0),none,[]⟩,⟨some 7,.len (.tmp 6),none,[]⟩,⟨some 8,.mkslice 3 (.agg [.full [],.int .i64 0,.int .i64 0]) (.tmp 7) (.tmp 7),none,[]⟩,⟨some 4,.mov (.tmp 8),none,[]⟩]) (.seq (.ops false [⟨some 9,.mov (.tmp 4),none,[]⟩,⟨some 10,.mov (.tmp 0),none,[]⟩,⟨some 11,.copy 3 (.tmp 9) (.tmp 10),none,[]⟩]) (.seq (.seq (.ops false [⟨some 12,.mov (.tmp 4),none,[]⟩,⟨some 13,.len (.tmp 12),none,[]⟩,⟨some 14,.mov (.const (.int .i64 0)),none,[]⟩]) (.block 0 (some ⟨[],[4],[8]⟩) (.loop dk123_0 db123_0))) (.seq (.ops false [⟨some 31,.mov (.tmp 4),none,[]⟩,⟨some 3,.mov (.tmp 31),none,[]⟩]) .ret))))⟩
theorem dh123:cProg Go.Proofs.Tryz.prog ⟨[(0,⟨[],[1,4,13,14],[8]⟩)],[(0,⟨[],[4],[8]⟩)],[]⟩ 123=some dc123:=by kernel_rfl
def db124_0x : DC := (.ops false [⟨some 5,.alloc (.agg [.int .i64 0,.int .i64 0]) 2,none,[]⟩,⟨none,.store 2 (.tmp 5) (.tmp 7),none,[]⟩])
def db124_0 : DC := (.block 1 none (.ops false [⟨some 8,.load none (.tmp 2),none,[]⟩,⟨some 9,.load (some 2) (.tmp 5),none,[]⟩,⟨some 10,.lit true 2 1 (.agg [.int .i64 0,.int .i64 0]) [(0,(.tmp 9))],none,[]⟩,⟨some 11,.append false 2 (.tmp 8) (.tmp 10),none,[]⟩,⟨none,.store 1 (.tmp 2) (.tmp 11),none,[]⟩]))
def dk124_0 : Keep := ⟨[],[2,4],[2,11]⟩
def dc124 : DFunc := ⟨13,2,[.tmp 4],.seq (.ops false [⟨some 2,.box 1 (.tmp 0),none,[]⟩,⟨some 4,.mov (.const (.slice none 0 0)),none,[]⟩]) (.seq (.seq (.ops false [⟨some 6,.mov (.tmp 1),none,[]⟩]) (.block 0 (some ⟨[],[2],[2,11]⟩) (.rangeF dk124_0 (.tmp 6) [7] db124_0x db124_0))) (.seq (.ops false [⟨some 12,.load none (.tmp 2),none,[]⟩,⟨some 4,.mov (.tmp 12),none,[]⟩]) .ret))⟩
theorem dh124:cProg Go.Proofs.Tryz.prog ⟨[(0,⟨[],[2,4],[2,11]⟩)],[(0,⟨[],[2],[2,11]⟩)],[10]⟩ 124=some dc124:=by kernel_rfl
def db125_0 : DC := (.seq (.ops false [⟨some 8,.bin .lss (.tmp 7) (.tmp 6),none,[]⟩]) (.seq (.cond (.tmp 8) .skip (.exit 0)) (.seq (.block 1 none (.seq (.ops false [⟨some 9,.mov (.tmp 7),none,[]⟩,⟨some 10,.iaddr 1 (.tmp 5) (.tmp 7),none,[]⟩,⟨some 11,.load none (.tmp 10),none,[]⟩,⟨some 3,.mov (.tmp 9),none,[]⟩,⟨some 4,.mov (.tmp 11),none,[]⟩]) (.seq (.ops false [⟨some 12,.mov (.tmp 0),none,[]⟩,⟨some 13,.mov (.tmp 3),none,[]⟩,⟨some 14,.build [.int .i64 0] [(0,(1,(.tmp 13)))],none,[]⟩,⟨some 15,.mov (.tmp 3),none,[]⟩,⟨some 16,.mov (.tmp 4),none,[]⟩,⟨some 17,.bin .mul (.tmp 15) (.tmp 16),none,[]⟩,⟨some 18,.build [.int .i64 0,.int .i64 0] [(0,(1,(.tmp 14))),(1,(1,(.tmp 17)))],none,[]⟩,⟨some 19,.call (.tmp 12) [.tmp 18],none,[]⟩,⟨some 20,.un .not (.tmp 19),none,[]⟩]) (.cond (.tmp 20) .ret .skip)))) (.ops false [⟨some 21,.bin .add (.tmp 7) (.const (.int .i64 1)),none,[]⟩,⟨some 7,.mov (.tmp 21),none,[]⟩]))))
def dk125_0 : Keep := ⟨[],[0,5,6,7],[0]⟩
def dc125 : DFunc := ⟨22,2,[],.seq (.ops false [⟨some 5,.load none (.tmp 1),none,[]⟩,⟨some 6,.len (.tmp 5),none,[]⟩,⟨some 7,.mov (.const (.int .i64 0)),none,[]⟩]) (.block 0 (some ⟨[],[],[0]⟩) (.loop dk125_0 db125_0))⟩
theorem dh125:cProg Go.Proofs.Tryz.prog ⟨[(0,⟨[],[0,5,6,7],[0]⟩)],[(0,⟨[],[],[0]⟩)],[]⟩ 125=some dc125:=by kernel_rfl
def dc126 : DFunc := ⟨19,2,[.tmp 4],.seq (.ops false [⟨some 2,.box 2 (.tmp 0),none,[]⟩,⟨some 3,.box 2 (.tmp 1),none,[]⟩,⟨some 4,.mov (.const (.int .i64 0)),none,[]⟩]) (.seq (.ops true [⟨some 5,.faddr 1 1 false (.tmp 3),none,[]⟩,⟨some 6,.load none (.tmp 5),none,[0]⟩,⟨some 7,.faddr 1 1 false (.tmp 2),none,[]⟩,⟨some 8,.load none (.tmp 7),none,[2]⟩,⟨some 9,.call (.func 140) [.tmp 6,.tmp 8],none,[1,0,3,2]⟩,⟨some 10,.faddr 0 1 true (.tmp 2),none,[]⟩,⟨some 11,.faddr 0 1 false (.tmp 10),none,[5]⟩,⟨some 12,.load none (.tmp 11),none,[6,5]⟩,⟨some 13,.faddr 0 1 true (.tmp 3),none,[]⟩,⟨some 14,.faddr 0 1 false (.tmp 13),none,[8]⟩,⟨some 15,.load none (.tmp 14),none,[9,8]⟩,⟨some 16,.call (.func 140) [.tmp 12,.tmp 15],none,[7,6,5,10,9,8,4,1,0,3,2]⟩,⟨some 17,.lit true 1 2 (.int .i64 0) [(0,(.tmp 9)),(1,(.tmp 16))],none,[4,1,0,3,2,11,7,6,5,10,9,8]⟩,⟨some 18,.call (.func 139) [.tmp 17],none,[12,4,1,0,3,2,11,7,6,5,10,9,8]⟩,⟨some 4,.mov (.tmp 18),none,[13,12,4,1,0,3,2,11,7,6,5,10,9,8]⟩]) .ret)⟩
theorem dh126:cProg Go.Proofs.Tryz.prog ⟨[],[],[17]⟩ 126=some dc126:=by kernel_rfl
def db136_0 : DC := (.seq (.ops false [⟨some 11,.bin .lss (.tmp 10) (.tmp 9),none,[]⟩]) (.seq (.cond (.tmp 11) .skip (.exit 0)) (.seq (.block 1 none (.seq (.ops false [⟨some 12,.iaddr 1 (.tmp 8) (.tmp 10),none,[]⟩,⟨some 13,.load none (.tmp 12),none,[]⟩,⟨some 7,.mov (.tmp 13),none,[]⟩]) (.ops false [⟨some 14,.mov (.tmp 5),none,[]⟩,⟨some 15,.mov (.tmp 1),none,[]⟩,⟨some 16,.mov (.tmp 7),none,[]⟩,⟨some 17,.call (.tmp 15) [.tmp 16],none,[]⟩,⟨some 18,.lit true 1 1 (.int .i64 0) [(0,(.tmp 17))],none,[]⟩,⟨some 19,.append false 1 (.tmp 14) (.tmp 18),none,[]⟩,⟨some 5,.mov (.tmp 19),none,[]⟩]))) (.ops false [⟨some 20,.bin .add (.tmp 10) (.const (.int .i64 1)),none,[]⟩,⟨some 10,.mov (.tmp 20),none,[]⟩]))))
def dk136_0 : Keep := ⟨[(5,1)],[1,5,8,9,10],[5]⟩
def dc136 : DFunc := ⟨22,2,[.tmp 4],.seq (.ops false [⟨some 4,.mov (.const (.slice none 0 0)),none,[]⟩]) (.seq (.ops false [⟨some 5,.mov (.const (.slice none 0 0)),none,[]⟩]) (.seq (.seq (.ops false [⟨some 8,.mov (.tmp 0),none,[]⟩,⟨some 9,.len (.tmp 8),none,[]⟩,⟨some 10,.mov (.const (.int .i64 0)),none,[]⟩]) (.block 0 (some ⟨[],[5],[5]⟩) (.loop dk136_0 db136_0))) (.seq (.ops false [⟨some 21,.mov (.tmp 5),none,[]⟩,⟨some 4,.mov (.tmp 21),none,[]⟩]) .ret)))⟩
theorem dh136:cProg Go.Proofs.Tryz.prog ⟨[(0,⟨[(5,1)],[1,5,8,9,10],[5]⟩)],[(0,⟨[],[5],[5]⟩)],[18]⟩ 136=some dc136:=by kernel_rfl
def dc137 : DFunc := ⟨5,1,[.tmp 2],.seq (.ops false [⟨some 2,.mov (.const (.int .i64 0)),none,[]⟩]) (.seq (.ops false [⟨some 3,.mov (.tmp 0),none,[]⟩,⟨some 4,.call (.func 88) [.tmp 3,.const (.int .i64 0),.const (.int .i64 1200)],none,[]⟩,⟨some 2,.mov (.tmp 4),none,[]⟩]) .ret)⟩
theorem dh137:cProg Go.Proofs.Tryz.prog ⟨[],[],[]⟩ 137=some dc137:=by kernel_rfl
def dc138 : DFunc := ⟨17,2,[.tmp 4],.seq (.ops false [⟨some 4,.mov (.const (.int .i64 0)),none,[]⟩]) (.seq (.ops false [⟨some 6,.mov (.tmp 0),none,[]⟩,⟨some 7,.mov (.tmp 1),none,[]⟩,⟨some 8,.bin .quo (.tmp 6) (.tmp 7),none,[]⟩,⟨some 5,.mov (.tmp 8),none,[]⟩]) (.seq (.seq (.ops false [⟨some 9,.mov (.tmp 5),none,[]⟩,⟨some 10,.mov (.tmp 1),none,[]⟩,⟨some 11,.bin .mul (.tmp 9) (.tmp 10),none,[]⟩,⟨some 12,.mov (.tmp 0),none,[]⟩,⟨some 13,.bin .gtr (.tmp 11) (.tmp 12),none,[]⟩]) (.cond (.tmp 13) (.ops false [⟨some 14,.mov (.tmp 5),none,[]⟩,⟨some 15,.bin .sub (.tmp 14) (.const (.int .i64 1)),none,[]⟩,⟨some 5,.mov (.tmp 15),none,[]⟩]) .skip)) (.seq (.ops false [⟨some 16,.mov (.tmp 5),none,[]⟩,⟨some 4,.mov (.tmp 16),none,[]⟩]) .ret)))⟩
theorem dh138:cProg Go.Proofs.Tryz.prog ⟨[],[],[]⟩ 138=some dc138:=by kernel_rfl
def db139_0 : DC := (.seq (.ops false [⟨some 9,.bin .lss (.tmp 8) (.tmp 7),none,[]⟩]) (.seq (.cond (.tmp 9) .skip (.exit 0)) (.seq (.block 1 none (.seq (.ops false [⟨some 10,.iaddr 1 (.tmp 6) (.tmp 8),none,[]⟩,⟨some 11,.load none (.tmp 10),none,[]⟩,⟨some 5,.mov (.tmp 11),none,[]⟩]) (.seq (.ops false [⟨some 12,.mov (.tmp 5),none,[]⟩,⟨some 13,.mov (.tmp 3),none,[]⟩,⟨some 14,.bin .neq (.tmp 12) (.tmp 13),none,[]⟩]) (.cond (.tmp 14) (.seq (.ops false [⟨some 15,.mov (.tmp 5),none,[]⟩,⟨some 2,.mov (.tmp 15),none,[]⟩]) .ret) .skip)))) (.ops false [⟨some 16,.bin .add (.tmp 8) (.const (.int .i64 1)),none,[]⟩,⟨some 8,.mov (.tmp 16),none,[]⟩]))))
def dk139_0 : Keep := ⟨[],[3,6,7,8],[]⟩
def dc139 : DFunc := ⟨18,1,[.tmp 2],.seq (.ops false [⟨some 2,.mov (.const (.int .i64 0)),none,[]⟩]) (.seq (.ops false [⟨some 3,.mov (.const (.int .i64 0)),none,[]⟩]) (.seq (.seq (.ops false [⟨some 6,.mov (.tmp 0),none,[]⟩,⟨some 7,.len (.tmp 6),none,[]⟩,⟨some 8,.mov (.const (.int .i64 0)),none,[]⟩]) (.block 0 (some ⟨[],[3],[]⟩) (.loop dk139_0 db139_0))) (.seq (.ops false [⟨some 17,.mov (.tmp 3),none,[]⟩,⟨some 2,.mov (.tmp 17),none,[]⟩]) .ret)))⟩
theorem dh139:cProg Go.Proofs.Tryz.prog ⟨[(0,⟨[],[3,6,7,8],[]⟩)],[(0,⟨[],[3],[]⟩)],[]⟩ 139=some dc139:=by kernel_rfl
def dc140 : DFunc := ⟨20,2,[.tmp 4],.seq (.ops false [⟨some 4,.mov (.const (.int .i64 0)),none,[]⟩]) (.seq (.ops false [⟨some 7,.mov (.tmp 0),none,[]⟩,⟨some 8,.call (.func 149) [.tmp 7],none,[]⟩,⟨some 5,.mov (.tmp 8),none,[]⟩]) (.seq (.ops false [⟨some 9,.mov (.tmp 1),none,[]⟩,⟨some 10,.call (.func 149) [.tmp 9],none,[]⟩,⟨some 6,.mov (.tmp 10),none,[]⟩]) (.seq (.seq (.ops false [⟨some 11,.mov (.tmp 5),none,[]⟩]) (.cond (.tmp 11) (.seq (.seq (.ops false [⟨some 12,.mov (.tmp 6),none,[]⟩]) (.cond (.tmp 12) (.seq (.ops false [⟨some 4,.mov (.const (.int .i64 0)),none,[]⟩]) .ret) .skip)) (.seq (.ops false [⟨some 4,.mov (.const (.int .i64 (-1))),none,[]⟩]) .ret)) .skip)) (.seq (.seq (.ops false [⟨some 13,.mov (.tmp 6),none,[]⟩]) (.cond (.tmp 13) (.seq (.ops false [⟨some 4,.mov (.const (.int .i64 1)),none,[]⟩]) .ret) .skip)) (.seq (.seq (.ops false [⟨some 14,.mov (.tmp 0),none,[]⟩,⟨some 15,.mov (.tmp 1),none,[]⟩,⟨some 16,.bin .lss (.tmp 14) (.tmp 15),none,[]⟩]) (.cond (.tmp 16) (.seq (.ops false [⟨some 4,.mov (.const (.int .i64 (-1))),none,[]⟩]) .ret) .skip)) (.seq (.seq (.ops false [⟨some 17,.mov (.tmp 0),none,[]⟩,⟨some 18,.mov (.tmp 1),none,[]⟩,⟨some 19,.bin .gtr (.tmp 17) (.tmp 18),none,[]⟩]) (.cond (.tmp 19) (.seq (.ops false [⟨some 4,.mov (.const (.int .i64 1)),none,[]⟩]) .ret) .skip)) (.seq (.ops false [⟨some 4,.mov (.const (.int .i64 0)),none,[]⟩]) .ret)))))))⟩
theorem dh140:cProg Go.Proofs.Tryz.prog ⟨[],[],[]⟩ 140=some dc140:=by kernel_rfl
def dc149 : DFunc := ⟨6,1,[.tmp 2],.seq (.ops false [⟨some 2,.mov (.const (.bool false)),none,[]⟩]) (.seq (.ops false [⟨some 3,.mov (.tmp 0),none,[]⟩,⟨some 4,.mov (.tmp 0),none,[]⟩,⟨some 5,.bin .neq (.tmp 3) (.tmp 4),none,[]⟩,⟨some 2,.mov (.tmp 5),none,[]⟩]) .ret)⟩
theorem dh149:cProg Go.Proofs.Tryz.prog ⟨[],[],[]⟩ 149=some dc149:=by kernel_rfl
def dc190 : DFunc := ⟨8,2,[.tmp 4],.seq (.ops false [⟨some 4,.mov (.const (.bool false)),none,[]⟩]) (.seq (.ops false [⟨some 5,.mov (.tmp 0),none,[]⟩,⟨some 6,.mov (.tmp 1),none,[]⟩,⟨some 7,.call (.func 191) [.tmp 5,.tmp 6],none,[]⟩,⟨some 4,.mov (.tmp 7),none,[]⟩]) .ret)⟩
theorem dh190:cProg Go.Proofs.Tryz.prog ⟨[],[],[]⟩ 190=some dc190:=by kernel_rfl
def db191_0 : DC := (.seq (.ops false [⟨some 14,.bin .lss (.tmp 13) (.tmp 12),none,[]⟩]) (.seq (.cond (.tmp 14) .skip (.exit 0)) (.seq (.block 1 none (.seq (.ops false [⟨some 15,.mov (.tmp 13),none,[]⟩,⟨some 5,.mov (.tmp 15),none,[]⟩]) (.seq (.ops true [⟨some 16,.mov (.tmp 0),none,[]⟩,⟨some 17,.mov (.tmp 5),none,[]⟩,⟨some 18,.iaddr 1 (.tmp 16) (.tmp 17),none,[0,1]⟩,⟨some 19,.load none (.tmp 18),none,[2,0,1]⟩,⟨some 20,.mov (.tmp 1),none,[]⟩,⟨some 21,.mov (.tmp 5),none,[]⟩,⟨some 22,.iaddr 1 (.tmp 20) (.tmp 21),none,[4,5]⟩,⟨some 23,.load none (.tmp 22),none,[6,4,5]⟩,⟨some 24,.bin .neq (.tmp 19) (.tmp 23),none,[3,2,0,1,7,6,4,5]⟩]) (.cond (.tmp 24) (.seq (.ops false [⟨some 4,.mov (.const (.bool false)),none,[]⟩]) .ret) .skip)))) (.ops false [⟨some 25,.bin .add (.tmp 13) (.const (.int .i64 1)),none,[]⟩,⟨some 13,.mov (.tmp 25),none,[]⟩]))))
def dk191_0 : Keep := ⟨[],[0,1,12,13],[]⟩
def dc191 : DFunc := ⟨26,2,[.tmp 4],.seq (.ops false [⟨some 4,.mov (.const (.bool false)),none,[]⟩]) (.seq (.seq (.ops false [⟨some 6,.mov (.tmp 0),none,[]⟩,⟨some 7,.len (.tmp 6),none,[]⟩,⟨some 8,.mov (.tmp 1),none,[]⟩,⟨some 9,.len (.tmp 8),none,[]⟩,⟨some 10,.bin .neq (.tmp 7) (.tmp 9),none,[]⟩]) (.cond (.tmp 10) (.seq (.ops false [⟨some 4,.mov (.const (.bool false)),none,[]⟩]) .ret) .skip)) (.seq (.seq (.ops false [⟨some 11,.mov (.tmp 0),none,[]⟩,⟨some 12,.len (.tmp 11),none,[]⟩,⟨some 13,.mov (.const (.int .i64 0)),none,[]⟩]) (.block 0 (some ⟨[],[],[]⟩) (.loop dk191_0 db191_0))) (.seq (.ops false [⟨some 4,.mov (.const (.bool true)),none,[]⟩]) .ret)))⟩
theorem dh191:cProg Go.Proofs.Tryz.prog ⟨[(0,⟨[],[0,1,12,13],[]⟩)],[(0,⟨[],[],[]⟩)],[]⟩ 191=some dc191:=by kernel_rfl
def db192_0 : DC := (.seq (.ops false [⟨some 10,.bin .lss (.tmp 9) (.tmp 8),none,[]⟩]) (.seq (.cond (.tmp 10) .skip (.exit 0)) (.seq (.block 1 none (.seq (.ops false [⟨some 11,.mov (.tmp 9),none,[]⟩,⟨some 12,.iaddr 1 (.tmp 7) (.tmp 9),none,[]⟩,⟨some 13,.load none (.tmp 12),none,[]⟩,⟨some 5,.mov (.tmp 11),none,[]⟩,⟨some 6,.mov (.tmp 13),none,[]⟩]) (.seq (.ops false [⟨some 14,.mov (.tmp 6),none,[]⟩,⟨some 15,.mov (.tmp 0),none,[]⟩,⟨some 16,.mov (.tmp 5),none,[]⟩,⟨some 17,.iaddr 1 (.tmp 15) (.tmp 16),none,[]⟩,⟨some 18,.load none (.tmp 17),none,[]⟩,⟨some 19,.bin .gtr (.tmp 14) (.tmp 18),none,[]⟩]) (.cond (.tmp 19) (.seq (.ops false [⟨some 4,.mov (.const (.bool true)),none,[]⟩]) .ret) .skip)))) (.ops false [⟨some 20,.bin .add (.tmp 9) (.const (.int .i64 1)),none,[]⟩,⟨some 9,.mov (.tmp 20),none,[]⟩]))))
def dk192_0 : Keep := ⟨[],[0,7,8,9],[]⟩
def dc192 : DFunc := ⟨21,2,[.tmp 4],.seq (.ops false [⟨some 4,.mov (.const (.bool false)),none,[]⟩]) (.seq (.seq (.ops false [⟨some 7,.mov (.tmp 1),none,[]⟩,⟨some 8,.len (.tmp 7),none,[]⟩,⟨some 9,.mov (.const (.int .i64 0)),none,[]⟩]) (.block 0 (some ⟨[],[],[]⟩) (.loop dk192_0 db192_0))) (.seq (.ops false [⟨some 4,.mov (.const (.bool false)),none,[]⟩]) .ret))⟩
theorem dh192:cProg Go.Proofs.Tryz.prog ⟨[(0,⟨[],[0,7,8,9],[]⟩)],[(0,⟨[],[],[]⟩)],[]⟩ 192=some dc192:=by kernel_rfl
def dc193 : DFunc := ⟨8,2,[.tmp 4],.seq (.ops false [⟨some 4,.mov (.const (.bool false)),none,[]⟩]) (.seq (.ops false [⟨some 5,.mov (.tmp 1),none,[]⟩,⟨some 6,.call (.func 119) [.tmp 5],none,[]⟩,⟨some 7,.bin .eql (.tmp 6) (.const (.int .i64 0)),none,[]⟩,⟨some 4,.mov (.tmp 7),none,[]⟩]) .ret)⟩
theorem dh193:cProg Go.Proofs.Tryz.prog ⟨[],[],[]⟩ 193=some dc193:=by kernel_rfl
def dc194 : DFunc := ⟨12,2,[.tmp 4],.seq (.ops false [⟨some 4,.mov (.const (.bool false)),none,[]⟩]) (.seq (.ops true [⟨some 5,.mov (.tmp 1),none,[]⟩,⟨some 6,.iaddr 1 (.tmp 5) (.const (.int .i64 0)),none,[0]⟩,⟨some 7,.load none (.tmp 6),none,[1,0]⟩,⟨some 8,.mov (.tmp 0),none,[]⟩,⟨some 9,.iaddr 1 (.tmp 8) (.const (.int .i64 0)),none,[3]⟩,⟨some 10,.load none (.tmp 9),none,[4,3]⟩,⟨some 11,.bin .lss (.tmp 7) (.tmp 10),none,[2,1,0,5,4,3]⟩,⟨some 4,.mov (.tmp 11),none,[6,2,1,0,5,4,3]⟩]) .ret)⟩
theorem dh194:cProg Go.Proofs.Tryz.prog ⟨[],[],[]⟩ 194=some dc194:=by kernel_rfl
def dc195 : DFunc := ⟨5,2,[.tmp 4],.seq (.ops false [⟨some 4,.mov (.const (.bool false)),none,[]⟩]) (.seq (.ops false [⟨some 4,.mov (.const (.bool true)),none,[]⟩]) .ret)⟩
theorem dh195:cProg Go.Proofs.Tryz.prog ⟨[],[],[]⟩ 195=some dc195:=by kernel_rfl
end Sh

namespace Sh
open Go
structure Pt where
 x:Int
 y:Int
structure Cel where
 tb:List Pt
 li:Int
 dr:Int
def P0:Pt:=⟨0,0⟩
def C0:Cel:=⟨[],0,0⟩
def firstE:List Int→Int
 |[]=>0
 |a :: r=>if a≠0 then a else firstE r
theorem firstE_drop (l:List Int) (i:Nat) (h:i < l.length):firstE (l.drop i)=if l.getD i 0≠0 then l.getD i 0 else firstE (l.drop (i+1)):=by
 rw [List.drop_eq_getElem_cons h];simp [firstE,List.getD_eq_getElem?_getD,h]
def withE (n l h:Int):Int:=if n < l∨h < n then 3 else 0
def whenE (b:Bool) (e:Int):Int:=if b then e else 0
def floorW (n d:Int):Int:=if n < W (W (n.tdiv d) * d) then W (W (n.tdiv d) - 1) else W (n.tdiv d)
def chkStep (f:Bool) (b p:Pt):Int:=firstE [withE p.x 0 100,withE p.y 0 200,whenE ((f && !decide (p.x=0)) || (decide (p.x≤b.x) || decide (b.y < p.y))) 11]
def chkL:Bool→Pt→List Pt→Int
 |_,b,[]=>whenE (decide (b.y≠0)) 32
 |f,b,p :: r=>if chkStep f b p≠0 then chkStep f b p else chkL false p r
def sizeE (n:Int):Int:=firstE [whenE (decide (n < 2)) 16,whenE (decide (8 < n)) 5]
def chkTab (t:List Pt):Int:=if sizeE t.length≠0 then sizeE t.length else chkL true ⟨-1,200⟩ t
def chkCell (c:Cel):Int:=firstE [chkTab c.tb,withE c.li 0 1000,withE c.dr 0 10]
def countE (n m:Int):Int:=firstE [whenE (decide (n=0)) 12,whenE (decide (m < n)) 5]
def chkChain (l:List Cel):Int:=if countE l.length 8≠0 then countE l.length 8 else firstE (l.map chkCell)
def chkField (f:List (List Cel)):Int:=if countE f.length 6≠0 then countE f.length 6 else firstE (f.map chkChain)
def befP (t:List Pt):Nat→Pt
 |0=>⟨-1,200⟩
 |i+1=>t.getD i P0
theorem drop_getD {α:Type} (l:List α) (i:Nat) (d:α) (h:i < l.length):l.drop i=l.getD i d :: l.drop (i+1):=by
 rw [List.drop_eq_getElem_cons h];simp [List.getD_eq_getElem?_getD,h]
theorem take_snoc {α:Type} (l:List α) (i:Nat) (d:α) (h:i < l.length):l.take (i+1)=l.take i++[l.getD i d]:=by
 rw [List.take_add_one];simp [List.getD_eq_getElem?_getD,h]
theorem getD_in {α:Type} {l:List α} {i:Nat} (d:α) (h:i < l.length):l.getD i d ∈ l:=by
 have:l.getD i d=l[i]:=by simp [List.getD_eq_getElem?_getD,h]
 rw [this];exact List.getElem_mem h
theorem take_map_succ {α β:Type} (f:α→β) (l:List α) (i:Nat) (d:α) (h:i < l.length):(l.take (i+1)).map f=(l.take i).map f++[f (l.getD i d)]:=by
 rw [take_snoc l i d h,List.map_append];rfl
theorem window_full {α:Type} (l:List α):window l 0 l.length=l:=by simp [window]
theorem int_eq {a b:Int} (h:a=b):DV.int .i64 a=.int .i64 b:=by rw [h]
theorem bool_eq {a b:Bool} (h:a=b):DV.bool a=.bool b:=by rw [h]
theorem idxA {α:Type} {enc:α→DV} {l:List α} {i n:Nat} {x:DV} (h:i < l.length) (hx:x.cells.length=n):0≤(i:Int)∧(i:Int) < ((l.map enc).length:Nat)∧x.cells.length=n:=⟨by omega,by simpa using h,hx⟩
theorem idxB {α:Type} {enc:α→DV} {l:List α} {i:Int} {n:Nat} {x:DV} (h0:0≤i) (h:i < l.length) (hx:x.cells.length=n):0≤i∧i < ((l.map enc).length:Nat)∧x.cells.length=n:=⟨h0,by simpa using h,hx⟩
theorem wrap_succ (i:Nat) (h:i < 4611686018427387904):IntKind.i64.wrap ((i:Int)+1)=((i+1:Nat):Int):=by
 rw [wrap_W,W_in (by omega) (by omega)];omega
theorem wrap_pred (i:Nat) (h0:0 < i) (h:i < 4611686018427387904):IntKind.i64.wrap ((i:Int) - 1)=((i - 1:Nat):Int):=by
 rw [wrap_W,W_in (by omega) (by omega)];omega
end Sh

namespace Sh
open Go Go.Proofs
def GC:Nat→Option DV:=fun g=>if g=0 then some (.agg [.str [115,97,109,101],.func 190 [],.str [109,111,114,101],.func 192 [],.str [111,112,101,110],.func 193 [],.str [100,97,114,107],.func 194 [],.str [98,121,112,97,115,115,101,100],.func 195 []]) else if g=2 then some (.agg (Lib.pow10Tab.map (DV.int .u64))) else if g=1 then some (.agg [.undef]) else none
abbrev PC:=PureCall Tryz.prog GC
def iL (l:List Int):DV:=.list (l.map (DV.int .i64))
def encPt (p:Pt):DV:=.agg [DV.int .i64 (p.x),DV.int .i64 (p.y)]
def tbl (t:List Pt):DV:=.list (t.map encPt)
def encC (c:Cel):DV:=.agg [tbl c.tb,DV.int .i64 (c.li),DV.int .i64 (c.dr)]
def chn (l:List Cel):DV:=.list (l.map encC)
def fld (f:List (List Cel)):DV:=.list (f.map chn)
theorem c_when (b:Bool) (e:Int):PC 87 [.bool b,DV.int .i64 (e)] (DV.int .i64 (whenE b e)):=by
 refine pureCall_ofR dh87 rfl ?_
 conv=>whnf
 refine ⟨fun hb=>?_,fun hb=>?_⟩<;>try (exact absurd hb (by decide))
 all_goals conv=>whnf
 all_goals subst hb;rfl
theorem c_within (n l h:Int):PC 88 [DV.int .i64 (n),DV.int .i64 (l),DV.int .i64 (h)] (DV.int .i64 (withE n l h)):=by
 refine pureCall_ofR dh88 rfl ?_
 conv=>whnf
 refine ⟨fun hb=>?_,fun hb=>?_⟩<;>try (exact absurd hb (by decide))
 all_goals conv=>whnf
 ·refine .inl ?_
  conv=>whnf
  refine ⟨_,c_when ..,?_⟩
  conv=>whnf
  exact int_eq (by simp_all [withE,whenE];split<;>split<;>omega)
 ·refine .inl ?_
  conv=>whnf
  refine ⟨_,c_when ..,?_⟩
  conv=>whnf
  exact int_eq (by simp_all [withE,whenE])
theorem c_first (l:List Int) (hl:l.length < 4611686018427387904):PC 78 [iL l] (DV.int .i64 (firstE l)):=by
 refine pureCall_ofR dh78 rfl ?_
 conv=>whnf
 refine dwp_loopR (P:=Tryz.prog) (G:=GC) (k:=dk78_0) (b:=db78_0) (α:=Nat) (fun i=>[(5,iL l),(6,.int .i64 (l.map (DV.int .i64)).length),(7,.int .i64 i)]) (fun _=>[]) (fun i=>i≤l.length∧firstE l=firstE (l.drop i)) (fun i=>l.length - i) 0 ⟨rfl,rfl,rfl⟩ ⟨Nat.zero_le _,rfl⟩ ?_
 intro i ⟨h1,h2⟩
 conv=>whnf
 refine ⟨fun hb=>?_,fun hb=>?_⟩<;>try (exact absurd hb (by decide))
 ·have hi:i < l.length:=by simpa using hb
  have hd:=firstE_drop l i hi
  conv=>whnf
  rw [getD_enc _ _ (i) 0 hi]
  refine ⟨idxA hi rfl,?_⟩
  conv=>whnf
  refine ⟨fun hb=>?_,fun hb=>?_⟩<;>try (exact absurd hb (by decide))
  ·conv=>whnf
   exact int_eq (by simp_all)
  ·conv=>whnf
   rw [wrap_succ i (by omega)]
   exact ⟨i+1,rfl,rfl,rfl,⟨hi,by simp_all⟩,by omega⟩
 ·conv=>whnf
  have:i=l.length:=by simp at hb;omega
  subst this
  exact int_eq (by rw [h2];simp [firstE])
theorem c_counted (n m:Int):PC 93 [DV.int .i64 (n),DV.int .i64 (m)] (DV.int .i64 (countE n m)):=by
 refine pureCall_ofR dh93 rfl ?_
 conv=>whnf
 refine .inl ?_
 conv=>whnf
 refine ⟨_,c_when ..,?_⟩
 conv=>whnf
 refine .inl ?_
 conv=>whnf
 refine ⟨_,c_when ..,?_⟩
 conv=>whnf
 refine .inl ?_
 conv=>whnf
 refine ⟨_,c_first [_,_] (by simp),?_⟩
 conv=>whnf
 rfl
theorem c_floor (n d:Int) (h:d≠0):PC 138 [DV.int .i64 (n),DV.int .i64 (d)] (DV.int .i64 (floorW n d)):=by
 refine pureCall_ofR dh138 rfl ?_
 conv=>whnf
 refine ⟨h,?_⟩
 conv=>whnf
 refine ⟨fun hb=>?_,fun hb=>?_⟩<;>try (exact absurd hb (by decide))
 ·conv=>whnf
  have hb:=of_decide_eq_true hb
  exact int_eq (by simp only [wrap_W] at hb ⊢;rw [floorW,if_pos hb])
 ·conv=>whnf
  have hb:=of_decide_eq_false hb
  exact int_eq (by simp only [wrap_W] at hb ⊢;rw [floorW,if_neg hb])
theorem c_checkVolt (n:Int):PC 79 [DV.int .i64 (n)] (DV.int .i64 (withE n 0 800)):=by
 refine pureCall_ofR dh79 rfl ?_
 conv=>whnf
 refine .inl ?_
 conv=>whnf
 refine ⟨_,c_within ..,?_⟩
 conv=>whnf
 rfl
theorem c_checkAmp (n:Int):PC 81 [DV.int .i64 (n)] (DV.int .i64 (withE n 0 200)):=by
 refine pureCall_ofR dh81 rfl ?_
 conv=>whnf
 refine .inl ?_
 conv=>whnf
 refine ⟨_,c_within ..,?_⟩
 conv=>whnf
 rfl
end Sh

namespace Sh
open Go Go.Proofs Go.Proofs.YtbkginjiknnobaaGreatDoor
theorem A_laid:laidOutB Tryz.prog=true:=by kernel_rfl
theorem own:ownKnob Tryz.prog.godebug=none:=by kernel_rfl
theorem cl3:Tryz.prog.cellsOf 3=1:=by kernel_rfl
theorem cl9:Tryz.prog.cellsOf 9=1:=by kernel_rfl
theorem cl114:Tryz.prog.cellsOf 114=1:=by kernel_rfl
theorem cl23:Tryz.prog.cellsOf 23=1:=by kernel_rfl
theorem cl25:Tryz.prog.cellsOf 25=3:=by kernel_rfl
theorem cl48:Tryz.prog.cellsOf 48=1:=by kernel_rfl
theorem cl108:Tryz.prog.cellsOf 108=2:=by kernel_rfl
theorem cl165:Tryz.prog.cellsOf 165=2:=by kernel_rfl
theorem cl166:Tryz.prog.cellsOf 166=10:=by kernel_rfl
section
variable {H:Type} {enc:TypeId×Value→H} {W:World}
theorem opPt:Opens enc Tryz.prog W 108 (fun p:Pt=>(encPt p).cells) (fun _=>True) :=
 (opens_struct2 Tryz.underlying108 1 1 cl3 cl3 cl108 rfl rfl (opens_int Tryz.underlying3) (opens_int Tryz.underlying3)).map (fun a=>Pt.mk a.1 a.2) (fun _=>rfl) (fun _ _=>trivial)
theorem opTbl:Opens enc Tryz.prog W 23 (fun t:List Pt=>[tbl t]) (fun t=>t.length≤maxLen) :=
 (opens_slice Tryz.underlying23 2 cl108 (by decide) opPt).map id (fun _=>rfl) (fun _ h=>h.1)
theorem opCel:Opens enc Tryz.prog W 25 (fun c:Cel=>(encC c).cells) (fun _=>True) :=
 (opens_struct3 Tryz.underlying25 1 1 1 cl23 cl3 cl3 cl25 rfl rfl rfl opTbl (opens_int Tryz.underlying3) (opens_int Tryz.underlying3)).map (fun a=>Cel.mk a.1 a.2.1 a.2.2) (fun _=>rfl) (fun _ _=>trivial)
theorem opChn:Opens enc Tryz.prog W 48 (fun l:List Cel=>[chn l]) (fun l=>l.length≤maxLen) :=
 (opens_slice Tryz.underlying48 3 cl25 (by decide) opCel).map id (fun _=>rfl) (fun _ h=>h.1)
theorem opFld:Opens enc Tryz.prog W 62 (fun f:List (List Cel)=>[fld f]) (fun f=>f.length≤maxLen) :=
 (opens_slice Tryz.underlying62 1 cl48 (by decide) (f:=chn) opChn).map id (fun _=>rfl) (fun _ h=>h.1)
theorem opU2:Opens enc Tryz.prog W 93 (fun p:Int×Int=>[DV.int .u16 p.1,DV.int .u16 p.2]) (fun p=>(0≤p.1∧p.1≤65535)∧(0≤p.2∧p.2≤65535)) :=
 (opens_two (c:=1) (e:=92) (P:=Tryz.prog) (t:=93) Tryz.underlying93 (show Tryz.prog.cellsOf 92=1 by kernel_rfl) (show Tryz.prog.cellsOf 93=2 * 1 by kernel_rfl) (opens_int Tryz.underlying92)).map id (fun _=>rfl) (fun _ h=>⟨wf_u16 h.1,wf_u16 h.2⟩)
theorem opInts:Opens enc Tryz.prog W 53 (fun l:List Int=>[iL l]) (fun l=>l.length≤maxLen) :=
 (opens_slice Tryz.underlying53 1 cl3 (by decide) (f:=DV.int .i64) (opens_int Tryz.underlying3)).map id (fun _=>rfl) (fun _ h=>h.1)
end
theorem known_word {W:World} (s:List UInt8) {b:UInt8} {r:List UInt8} {f0:FuncId} (hone:((List.range Tryz.prog.funcs.size).filter fun f=>(Tryz.prog.funcs[f]?).any (·.name.toUTF8.data.toList == b :: r))=[f0]) :
  Known (funcToken Tryz.prog) Tryz.prog W 165 (.agg [.lit (.string s),.held (b :: r)]) [.str s,.func f0 []] :=
 known_struct2 (d0:=[.str s]) (d1:=[.func f0 []]) Tryz.underlying165 1 1 cl9 cl114 cl165 rfl rfl (known_string Tryz.underlying9 s) (known_func Tryz.underlying114 hone)
def wName (k:UInt8):List UInt8:=[111,109,98,105,110,101,114,47,99,117,114,118,101,46,119,111,114,100,115,36,k]
def wordsX:List (DataW (List UInt8)):=[.agg [.lit (.string [115,97,109,101]),.held (99 :: wName 49)],.agg [.lit (.string [109,111,114,101]),.held (99 :: wName 50)],.agg [.lit (.string [111,112,101,110]),.held (99 :: wName 51)],.agg [.lit (.string [100,97,114,107]),.held (99 :: wName 52)],.agg [.lit (.string [98,121,112,97,115,115,101,100]),.held (99 :: wName 53)]]
def wordsD:List (List DV):=[[.str [115,97,109,101],.func 190 []],[.str [109,111,114,101],.func 192 []],[.str [111,112,101,110],.func 193 []],[.str [100,97,114,107],.func 194 []],[.str [98,121,112,97,115,115,101,100],.func 195 []]]
theorem known_words {W:World}:Known (funcToken Tryz.prog) Tryz.prog W 166 (.agg wordsX) wordsD.flatten:=by
 refine known_array (c:=2) Tryz.underlying166 cl165 cl166 rfl ?_
 intro i x ds e1 e2
 match i,e1,e2 with
 |0,e1,e2=>cases Option.some.inj e1;cases Option.some.inj e2;exact known_word _ (by kernel_rfl)
 |1,e1,e2=>cases Option.some.inj e1;cases Option.some.inj e2;exact known_word _ (by kernel_rfl)
 |2,e1,e2=>cases Option.some.inj e1;cases Option.some.inj e2;exact known_word _ (by kernel_rfl)
 |3,e1,e2=>cases Option.some.inj e1;cases Option.some.inj e2;exact known_word _ (by kernel_rfl)
 |4,e1,e2=>cases Option.some.inj e1;cases Option.some.inj e2;exact known_word _ (by kernel_rfl)
section
variable {L:List (String×DataW Unit)}
theorem words_at (hm:("combiner/curve.words",Rows.laid_combiner_curve_words) ∈ L) {W:World} (h:laidMetH Tryz.prog L W):∃ cs:Array Value,W.var? Tryz.prog "combiner/curve.words"=some cs∧RelL (memOf W) wordsD.flatten cs.toList:=by
 obtain ⟨g,t,cs,fuel,p,hg,ht,hv,hd⟩:=h.funcs (n := "combiner/curve.words") hm
 obtain rfl:=Option.some.inj ((show Tryz.prog.globalNamed "combiner/curve.words"=some 0 by kernel_rfl).symm.trans hg)
 obtain rfl:=Option.some.inj ((show (Tryz.prog.globals[0]?).map (·.type)=some 166 by kernel_rfl).symm.trans ht)
 have hd':DataW.trod (funcToken Tryz.prog) Tryz.prog W 0 (fun _=>true) true fuel 166 cs.toList=some (.agg wordsX,p):=hd
 exact ⟨cs,hv,known_words _ _ _ _ _ hd'⟩
theorem pow_at (e:(L.filter fun x=>x.1 == "internal/strconv.uint64pow10")=[("internal/strconv.uint64pow10",Lib.tabData .u64 Lib.pow10Tab)]) {W:World} (h:laidMetH Tryz.prog L W):Lib.TabIs Tryz.prog W "internal/strconv.uint64pow10" .u64 Lib.pow10Tab:=by
 have h1:=h.filter fun x=>x.1 == "internal/strconv.uint64pow10"
 rw [e,MakeChecks.laidMetH_plain _ _ _ (by kernel_rfl)] at h1
 exact Lib.tabIs_of_head (g:=2) (t:=212) (e:=203) (n:=20) (by kernel_rfl) (by kernel_rfl) Tryz.underlying212 Tryz.underlying203 (by kernel_rfl) (by kernel_rfl) h1
theorem len_at {W:World} (hsh:W.ShapedOpen Tryz.prog):(∃ m,W.cell? ⟨1,0,none⟩=some (.int .i64 m))∧blockLen W 1=some 1 :=
 open_var (t:=3) (zero:=#[.int .i64 0]) hsh (of_decide_eq_true (by kernel_rfl)) (by kernel_rfl) rfl (by kernel_rfl) (by kernel_rfl) Tryz.underlying3
theorem gokC (hm:("combiner/curve.words",Rows.laid_combiner_curve_words) ∈ L) (e:(L.filter fun x=>x.1 == "internal/strconv.uint64pow10")=[("internal/strconv.uint64pow10",Lib.tabData .u64 Lib.pow10Tab)]) {W:World} (h:laidMetH Tryz.prog L W) (hsh:W.ShapedOpen Tryz.prog):GOk GC (memOf W)∧Tabs GC W:=by
 obtain ⟨cs,hv,hr⟩:=words_at hm h
 have hp:=pow_at e h
 have hm:=len_at hsh
 unfold Lib.TabIs at hp
 have g0:Tryz.prog.globalNamed "combiner/curve.words"=some 0:=by kernel_rfl
 have g2:Tryz.prog.globalNamed "internal/strconv.uint64pow10"=some 2:=by kernel_rfl
 refine ⟨fun g d hg=>?_,fun g d hg=>?_⟩
 all_goals unfold GC at hg
 all_goals split at hg
 ·next e =>
  subst e
  obtain rfl:=Option.some.inj hg
  exact gok_of (cs:=cs) (fun i=>World.var?_cell g0 hv i) hr
 ·split at hg
  ·next e =>
   subst e
   obtain rfl:=Option.some.inj hg
   exact gok_of (fun i=>World.var?_cell g2 hp i) (by simpa using relL_ints Lib.pow10Tab)
  ·split at hg
   ·next e =>
    subst e
    obtain rfl:=Option.some.inj hg
    exact gok_open hm.1
   ·cases hg
 ·next e =>
  subst e
  obtain rfl:=Option.some.inj hg
  refine ⟨?_,fun ho=>by cases ho⟩
  rw [len_of g0 hv,← Array.length_toList,← hr.1]
  rfl
 ·split at hg
  ·next e =>
   subst e
   obtain rfl:=Option.some.inj hg
   refine ⟨?_,fun ho=>by cases ho⟩
   rw [len_of g2 hp]
   rfl
  ·split at hg
   ·next e =>
    subst e
    obtain rfl:=Option.some.inj hg
    exact ⟨hm.2,fun _=>hm.1⟩
   ·cases hg
end
noncomputable def startW (os:Os):World:=(World.doorLaid Tryz.prog 600 os).layVars Tryz.prog [("unicode/utf8.first",Go.Pinned.utf8First)]
end Sh

namespace Sh
open Go
theorem mul_bd {a b A B:Int} (h1 : -A≤a) (h2:a≤A) (h3 : -B≤b) (h4:b≤B) : -(A * B)≤a * b∧a * b≤A * B:=by
 have hA:0≤A:=by omega
 have hB:0≤B:=by omega
 have ha:a.natAbs≤A.natAbs:=by omega
 have hb:b.natAbs≤B.natAbs:=by omega
 have h:=Nat.mul_le_mul ha hb
 rw [← Int.natAbs_mul,← Int.natAbs_mul] at h
 have hAB:0≤A * B:=Int.mul_nonneg hA hB
 omega
def okStep (b p:Pt):Prop:=(0≤p.x∧p.x≤100∧0≤p.y∧p.y≤200)∧b.x < p.x∧p.y≤b.y
def okL:Pt→List Pt→Prop
 |b,[]=>b.y=0
 |b,p :: r=>okStep b p∧okL p r
def OkT (t:List Pt):Prop:=2≤t.length∧t.length≤8∧∃ p r,t=p :: r∧p.x=0∧0≤p.y∧p.y≤200∧okL p r
def OkC (c:Cel):Prop:=OkT c.tb∧0≤c.li∧c.li≤1000∧0≤c.dr∧c.dr≤10
theorem firstE_cons {a:Int} {l:List Int} (h:firstE (a :: l)=0):a=0∧firstE l=0:=by
 unfold firstE at h
 split at h
 ·exact absurd h ‹_›
 ·rename_i h1;exact ⟨Classical.not_not.1 h1,h⟩
theorem withE_zero {n l h:Int} (e:withE n l h=0):l≤n∧n≤h:=by
 unfold withE at e;split at e
 ·cases e
 ·omega
theorem whenE_zero {b:Bool} {e:Int} (h:whenE b e=0) (he:e≠0):b=false:=by
 cases b
 ·rfl
 ·exact absurd h he
theorem chkStep_zero {f:Bool} {b p:Pt} (h:chkStep f b p=0):okStep b p∧(f=true→p.x=0):=by
 unfold chkStep at h
 obtain ⟨h1,h⟩:=firstE_cons h
 obtain ⟨h2,h⟩:=firstE_cons h
 obtain ⟨h3,h⟩:=firstE_cons h
 have h1:=withE_zero h1
 have h2:=withE_zero h2
 have h3:=whenE_zero h3 (by decide)
 simp only [Bool.or_eq_false_iff,Bool.and_eq_false_iff,decide_eq_false_iff_not,Bool.not_eq_false',decide_eq_true_eq] at h3
 obtain ⟨h3,h4,h5⟩:=h3
 refine ⟨⟨⟨h1.1,h1.2,h2.1,h2.2⟩,by omega,by omega⟩,fun hf=>?_⟩
 rcases h3 with h3|h3
 ·rw [hf] at h3;cases h3
 ·exact h3
theorem chkL_zero:∀ {f:Bool} {b:Pt} {l:List Pt},chkL f b l=0→okL b l
 |f,b,[],h=>by
  have:=whenE_zero h (by decide)
  simpa [okL] using this
 |f,b,p :: r,h=>by
  unfold chkL at h
  split at h
  ·exact absurd h ‹_›
  ·rename_i h1
   exact ⟨(chkStep_zero (Classical.not_not.1 h1)).1,chkL_zero h⟩
theorem sizeE_zero {n:Int} (h:sizeE n=0):2≤n∧n≤8:=by
 unfold sizeE at h
 obtain ⟨h1,h⟩:=firstE_cons h
 obtain ⟨h2,h⟩:=firstE_cons h
 have h1:=whenE_zero h1 (by decide)
 have h2:=whenE_zero h2 (by decide)
 simp at h1 h2
 omega
theorem chkTab_zero {t:List Pt} (h:chkTab t=0):OkT t:=by
 unfold chkTab at h
 split at h
 ·exact absurd h ‹_›
 ·rename_i h1
  have h1:=sizeE_zero (Classical.not_not.1 h1)
  refine ⟨by omega,by omega,?_⟩
  cases t with
  |nil=>simp at h1
  |cons p r =>
   unfold chkL at h
   split at h
   ·exact absurd h ‹_›
   ·rename_i h2
    obtain ⟨h3,h4⟩:=chkStep_zero (Classical.not_not.1 h2)
    exact ⟨p,r,rfl,h4 rfl,h3.1.2.2.1,h3.1.2.2.2,chkL_zero h⟩
theorem chkCell_zero {c:Cel} (h:chkCell c=0):OkC c:=by
 unfold chkCell at h
 obtain ⟨h1,h⟩:=firstE_cons h
 obtain ⟨h2,h⟩:=firstE_cons h
 obtain ⟨h3,h⟩:=firstE_cons h
 have h2:=withE_zero h2
 have h3:=withE_zero h3
 exact ⟨chkTab_zero h1,h2.1,h2.2,h3.1,h3.2⟩
theorem firstE_mem {l:List Int} (h:firstE l=0):∀ e ∈ l,e=0:=by
 induction l with
 |nil=>simp
 |cons a r ih =>
  obtain ⟨h1,h2⟩:=firstE_cons h
  intro e he
  rcases List.mem_cons.1 he with rfl|he
  ·exact h1
  ·exact ih h2 e he
def OkH (l:List Cel):Prop:=1≤l.length∧l.length≤8∧∀ c ∈ l,OkC c
theorem countE_zero {n m:Int} (h:countE n m=0):n≠0∧n≤m:=by
 unfold countE at h
 obtain ⟨h1,h⟩:=firstE_cons h
 obtain ⟨h2,h⟩:=firstE_cons h
 have h1:=whenE_zero h1 (by decide)
 have h2:=whenE_zero h2 (by decide)
 simp at h1 h2
 omega
theorem chkChain_zero {l:List Cel} (h:chkChain l=0):OkH l:=by
 unfold chkChain at h
 split at h
 ·exact absurd h ‹_›
 ·rename_i h1
  have h1:=countE_zero (Classical.not_not.1 h1)
  exact ⟨by omega,by omega,fun c hc=>chkCell_zero (firstE_mem h _ (List.mem_map_of_mem hc))⟩
def OkF (f:List (List Cel)):Prop:=1≤f.length∧f.length≤6∧∀ l ∈ f,OkH l
theorem chkField_zero {f:List (List Cel)} (h:chkField f=0):OkF f:=by
 unfold chkField at h
 split at h
 ·exact absurd h ‹_›
 ·rename_i h1
  have h1:=countE_zero (Classical.not_not.1 h1)
  exact ⟨by omega,by omega,fun c hc=>chkChain_zero (firstE_mem h _ (List.mem_map_of_mem hc))⟩
def segI (a b:Pt) (v:Int):Int:=a.y+(b.y - a.y) * (v - a.x) / (b.x - a.x)
def curT:List Pt→Int→Int
 |a :: b :: r,v=>if v < b.x then segI a b v else curT (b :: r) v
 |_,_=>0
def curC (c:Cel) (v:Int):Int:=curT c.tb v * c.li / 1000
def lastX:List Pt→Int
 |[]=>0
 |[p]=>p.x
 |_ :: r=>lastX r
theorem segI_bd {a b:Pt} {v:Int} (h:okStep a b) (h1:a.x≤v) (h2:v≤b.x):b.y≤segI a b v∧segI a b v≤a.y:=by
 obtain ⟨_,hx,hy⟩:=h
 unfold segI
 have hd:0 < b.x - a.x:=by omega
 have e1:(b.y - a.y) * (v - a.x)≤0:=Int.mul_nonpos_of_nonpos_of_nonneg (by omega) (by omega)
 have e2:(b.y - a.y) * (b.x - a.x)≤(b.y - a.y) * (v - a.x):=Int.mul_le_mul_of_nonpos_left (by omega) (by omega)
 have e3:(b.y - a.y) * (v - a.x) / (b.x - a.x)≤0:=by
  have:=Int.ediv_le_ediv hd e1
  simpa using this
 have e4:b.y - a.y≤(b.y - a.y) * (v - a.x) / (b.x - a.x):=by
  have:=Int.ediv_le_ediv hd e2
  rwa [Int.mul_ediv_cancel _ (by omega)] at this
 omega
theorem curT_bd:∀ {r:List Pt} {b:Pt} {v:Int},okL b r→0≤b.y→b.x≤v→0≤curT (b :: r) v∧curT (b :: r) v≤b.y
 |[],b,v,h,h0,_=>by simp [curT];exact h0
 |p :: r,b,v,h,h0,hv=>by
  unfold curT
  obtain ⟨h1,h2⟩:=h
  split
  ·have:=segI_bd h1 hv (by omega)
   have:=h1.1.2.2.1
   omega
  ·have:=curT_bd h2 h1.1.2.2.1 (by omega:p.x≤v)
   have:=h1.2.2
   omega
theorem okL_zero:∀ {r:List Pt} {b:Pt} {v:Int},okL b r→b.y=0→b.x≤v→curT (b :: r) v=0:=fun h h0 hv=>by
 have:=curT_bd h (by omega) hv
 omega
theorem OkT.cur_bd {t:List Pt} (h:OkT t) {v:Int} (hv:0≤v):0≤curT t v∧curT t v≤200:=by
 obtain ⟨_,_,p,r,rfl,h1,h2,h3,h4⟩:=h
 have:=curT_bd h4 h2 (by omega:p.x≤v)
 omega
theorem lastX_bd:∀ {r:List Pt} {p:Pt},okL p r→p.x≤100→p.x≤lastX (p :: r)∧lastX (p :: r)≤100
 |[],p,_,h=>⟨Int.le_refl _,h⟩
 |q :: r,p,hq,h=>by
  have h1:=lastX_bd hq.2 hq.1.1.2.1
  have h2:=hq.1.2.1
  have h3:lastX (p :: q :: r)=lastX (q :: r):=rfl
  omega
theorem OkT.last_bd {t:List Pt} (h:OkT t):1≤lastX t∧lastX t≤100:=by
 obtain ⟨h0,_,p,r,rfl,h1,h2,h3,h4⟩:=h
 cases r with
 |nil=>simp at h0
 |cons q r =>
  have:=lastX_bd h4.2 h4.1.1.2.1
  have h5:=h4.1.2.1
  have h6:lastX (p :: q :: r)=lastX (q :: r):=rfl
  omega
theorem lastX_getD:∀ (t:List Pt),t≠[]→lastX t=(t.getD (t.length - 1) P0).x
 |[],h=>absurd rfl h
 |[p],_=>rfl
 |p :: q :: r,_=>by
  have:=lastX_getD (q :: r) (by simp)
  show lastX (q :: r)=_
  rw [this];simp
theorem OkC.cur_bd {c:Cel} (h:OkC c) {v:Int} (hv:0≤v):0≤curC c v∧curC c v≤200:=by
 obtain ⟨h1,h2,h3,h4,h5⟩:=h
 have hb:=h1.cur_bd hv
 unfold curC
 have e1:0≤curT c.tb v * c.li:=Int.mul_nonneg hb.1 h2
 have e2:curT c.tb v * c.li≤200 * 1000:=Int.mul_le_mul hb.2 h3 h2 (by omega)
 generalize curT c.tb v * c.li=z at *
 omega
def vDown (c:Cel) (n:Int):Nat→Int×Bool
 |0=>(-c.dr,false)
 |j+1=>if n≤curC c (j:Int) then ((j:Int),true) else vDown c n j
def voltC (c:Cel) (n:Int):Int×Bool:=vDown c n ((lastX c.tb).toNat+1)
theorem vDown_bd (c:Cel) (n:Int):∀ j,(0≤(vDown c n j).1∧(vDown c n j).1 < j)∨(vDown c n j).1 = -c.dr
 |0=>.inr rfl
 |j+1=>by
  unfold vDown
  split
  ·left;simp;omega
  ·rcases vDown_bd c n j with h|h
   ·left;omega
   ·exact .inr h
theorem OkC.volt_bd {c:Cel} (h:OkC c) (n:Int) : -10≤(voltC c n).1∧(voltC c n).1≤100:=by
 have h1:=h.1.last_bd
 have h2:=h.2.2.2
 have:=vDown_bd c n ((lastX c.tb).toNat+1)
 unfold voltC
 omega
def sumI (l:List Int):Int:=l.foldr (·+·) 0
theorem sumI_append (a b:List Int):sumI (a++b)=sumI a+sumI b:=by
 induction a with
 |nil=>simp [sumI]
 |cons x r ih=>simp only [sumI,List.cons_append,List.foldr_cons] at ih ⊢;omega
theorem sumI_one (a:Int):sumI [a]=a:=by simp [sumI]
theorem sumI_bd {l:List Int} {A B:Int} (h:∀ x ∈ l,A≤x∧x≤B):l.length * A≤sumI l∧sumI l≤l.length * B:=by
 induction l with
 |nil=>simp [sumI]
 |cons x r ih =>
  have h1:=ih (fun y hy=>h y (List.mem_cons_of_mem _ hy))
  have h2:=h x (List.mem_cons_self ..)
  have e:sumI (x :: r)=x+sumI r:=rfl
  simp only [List.length_cons,Int.natCast_add,Int.add_mul]
  omega
def chV (l:List Cel) (n:Int):Int:=sumI (l.map fun c=>(voltC c n).1)
def chVi (l:List Cel) (n:Int) (i:Nat):Int:=sumI ((l.take i).map fun c=>(voltC c n).1)
theorem chVi_succ (l:List Cel) (n:Int) (i:Nat) (h:i < l.length):chVi l n (i+1)=chVi l n i+(voltC (l.getD i C0) n).1:=by
 unfold chVi;rw [take_map_succ _ l i C0 h,sumI_append,sumI_one]
theorem chVi_all (l:List Cel) (n:Int):chVi l n l.length=chV l n:=by unfold chVi chV;rw [List.take_length]
theorem chVi_bd {l:List Cel} (h:OkH l) (n:Int) (i:Nat) : -80≤chVi l n i∧chVi l n i≤800:=by
 have h1:=sumI_bd (l:=(l.take i).map fun c=>(voltC c n).1) (A := -10) (B:=100) (fun x hx=>by
  obtain ⟨c,hc,rfl⟩:=List.mem_map.1 hx
  exact (h.2.2 c (List.mem_of_mem_take hc)).volt_bd n)
 have h2:((l.take i).map fun c=>(voltC c n).1).length≤8:=by have:=h.2.1;simp;omega
 unfold chVi
 omega
theorem chV_bd {l:List Cel} (h:OkH l) (n:Int) : -80≤chV l n∧chV l n≤800:=by rw [← chVi_all];exact chVi_bd h n _
def byp (l:List Cel) (n:Int) (k:Nat):List Int:=((List.range k).filter fun i=>!(voltC (l.getD i C0) n).2).map fun i:Nat=>(i:Int)
theorem byp_succ (l:List Cel) (n:Int) (k:Nat):byp l n (k+1)=byp l n k++if (voltC (l.getD k C0) n).2 then [] else [(k:Int)]:=by
 unfold byp
 rw [List.range_succ,List.filter_append,List.map_append]
 simp only [List.filter_cons,List.filter_nil]
 cases (voltC (l.getD k C0) n).2<;>rfl
theorem byp_len (l:List Cel) (n:Int) (k:Nat):(byp l n k).length≤k:=by
 unfold byp;rw [List.length_map]
 have:=List.length_filter_le (fun i=>!(voltC (l.getD i C0) n).2) (List.range k)
 rwa [List.length_range] at this
theorem floor_div {n d:Int} (hd:0 < d) (h1 : -1000000000≤n) (h2:n≤1000000000) (h3:d≤1000000000):floorW n d=n / d:=by
 have e0:=Int.mul_tdiv_add_tmod n d
 have hq : -1000000000≤n.tdiv d∧n.tdiv d≤1000000000:=by
  have:=Int.natAbs_tdiv_le_natAbs n d
  omega
 have w1:W (n.tdiv d)=n.tdiv d:=W_in (by omega) (by omega)
 have hm:n.tdiv d * d=n - n.tmod d:=by rw [Int.mul_comm];omega
 have hr : -d < n.tmod d∧n.tmod d < d:=by
  rcases Int.le_total 0 n with h|h
  ·have:=Int.tmod_nonneg d h;have:=Int.tmod_lt_of_pos n hd;omega
  ·have e:=Int.neg_tmod (-n) d
   rw [Int.neg_neg] at e
   have:=Int.tmod_nonneg d (by omega:0 ≤ -n);have:=Int.tmod_lt_of_pos (-n) hd;omega
 have w2:W (W (n.tdiv d) * d)=n.tdiv d * d:=by rw [w1];exact W_in (by omega) (by omega)
 unfold floorW
 rw [w2,w1,hm]
 split
 ·have hn:n.tmod d < 0:=by omega
  rw [W_in (by omega) (by omega)]
  have e2:n / d=(n.tdiv d - 1):=by
   rw [Int.ediv_eq_iff_of_pos hd,Int.sub_mul]
   omega
  omega
 ·have hn:0≤n.tmod d:=by omega
  have e2:n / d=n.tdiv d:=by
   rw [Int.ediv_eq_iff_of_pos hd]
   omega
  omega
end Sh

namespace Sh
open Go Go.Proofs
theorem c_CheckTable (t:List Pt) (hl:t.length < 1073741824):PC 23 [tbl t] (DV.int .i64 (chkTab t)):=by
 have e0:((t.map encPt).length:Int)=t.length:=by simp
 refine pureCall_ofR dh23 rfl ?_
 conv=>whnf
 refine .inl ?_
 conv=>whnf
 refine ⟨_,c_when ..,?_⟩
 conv=>whnf
 refine .inl ?_
 conv=>whnf
 refine ⟨_,c_when ..,?_⟩
 conv=>whnf
 refine .inl ?_
 conv=>whnf
 refine ⟨_,c_first [_,_] (by simp),?_⟩
 conv=>whnf
 refine ⟨fun hb=>?_,fun hb=>?_⟩<;>try (exact absurd hb (by decide))
 ·have hb:=of_decide_eq_true hb
  conv=>whnf
  exact int_eq (by rw [e0] at hb ⊢;unfold chkTab sizeE;rw [if_pos hb])
 ·have hb0:=of_decide_eq_false hb
  clear hb
  conv=>whnf
  refine dwp_loopR (P:=Tryz.prog) (G:=GC) (k:=dk23_0) (b:=db23_0) (α:=Nat) (fun i=>[(4,.bptr 4 0),(22,tbl t),(23,.int .i64 (t.map encPt).length),(24,.int .i64 i)]) (fun i=>[(4,.box 2 (encPt (befP t i)))]) (fun i=>i≤t.length∧chkL true ⟨-1,200⟩ t=chkL (decide (i=0)) (befP t i) (t.drop i)) (fun i=>t.length - i) 0 ⟨rfl,rfl,rfl⟩ ⟨Nat.zero_le _,rfl⟩ ?_
  intro i ⟨h1,h2⟩
  conv=>whnf
  refine ⟨fun hb=>?_,fun hb=>?_⟩
  ·have hi:i < t.length:=by simpa using hb
   conv=>whnf
   rw [getD_enc _ _ (i) P0 hi]
   refine ⟨idxA hi rfl,?_⟩
   conv=>whnf
   repeat' (first
    |(refine ⟨fun hg=>?_,fun hg=>?_⟩<;>first|contradiction|(conv=>whnf))
    |(refine Or.inl ?_;conv=>whnf)
    |(refine ⟨_,c_within ..,?_⟩;conv=>whnf)
    |(refine ⟨_,c_when ..,?_⟩;conv=>whnf)
    |(refine ⟨_,c_first [_,_,_] (by simp),?_⟩;conv=>whnf)
    |(refine And.intro ?_ ?_;kernel_rfl;conv=>whnf))
   all_goals have hs:chkL true ⟨-1,200⟩ t=if chkStep (decide (i=0)) (befP t i) (t.getD i P0)≠0 then chkStep (decide (i=0)) (befP t i) (t.getD i P0) else chkL false (t.getD i P0) (t.drop (i+1)):=by rw [h2,drop_getD t i P0 hi];rfl
   all_goals have hk:chkTab t=chkL true ⟨-1,200⟩ t:=by unfold chkTab sizeE;rw [e0] at hb0;rw [if_neg hb0]
   all_goals (try rw [wrap_succ i (by omega)])
   all_goals first
    |(refine ⟨i+1,rfl,rfl,rfl,⟨hi,?_⟩,Nat.sub_lt_sub_left hi (Nat.lt_succ_self i)⟩;rw [hs];clear hk hs h2 hb0 e0 hb h1 hl;simp only [Bool.cond_true,Bool.cond_false,Bool.not_false,Bool.not_true,decide_true,Bool.and_true,Int.natCast_eq_zero] at *;grind [chkStep,befP])
    |(refine int_eq ?_;rw [hk,hs];clear hk hs h2 hb0 e0 hb h1 hl;simp only [Bool.cond_true,Bool.cond_false,Bool.not_false,Bool.not_true,decide_true,Bool.and_true,Int.natCast_eq_zero] at *;grind [chkStep])
  ·have hi:i=t.length:=by have:=of_decide_eq_false hb;rw [e0] at this;omega
   have hk:chkTab t=chkL true ⟨-1,200⟩ t:=by unfold chkTab sizeE;rw [e0] at hb0;rw [if_neg hb0]
   rw [hk,h2,hi,List.drop_length]
   conv=>whnf
   refine .inl ?_
   conv=>whnf
   refine ⟨_,c_when ..,?_⟩
   conv=>whnf
   rfl
theorem curT_drop (t:List Pt) (i:Nat) (v:Int) (h:i+1 < t.length):curT (t.drop i) v=if v < (t.getD (i+1) P0).x then segI (t.getD i P0) (t.getD (i+1) P0) v else curT (t.drop (i+1)) v:=by
 rw [drop_getD t i P0 (by omega),drop_getD t (i+1) P0 h];rfl
theorem okL_drop:∀ {t:List Pt} {i:Nat},(∃ p r,t=p :: r∧0≤p.x∧p.x≤100∧0≤p.y∧p.y≤200∧okL p r)→i < t.length→∃ p r,t.drop i=p :: r∧0≤p.x∧p.x≤100∧0≤p.y∧p.y≤200∧okL p r
 |t,0,h,_=>h
 |t,i+1,h,hi=>by
  obtain ⟨p,r,rfl,h1,h2,h3,h4,h5⟩:=h
  cases r with
  |nil=>simp at hi
  |cons q r =>
   have:=h5.1.1
   exact okL_drop (t:=q :: r) (i:=i) ⟨q,r,rfl,this.1,this.2.1,this.2.2.1,this.2.2.2,h5.2⟩ (by simpa using hi)
theorem OkT.at {t:List Pt} (h:OkT t) {i:Nat} (hi:i < t.length):0≤(t.getD i P0).x∧(t.getD i P0).x≤100∧0≤(t.getD i P0).y∧(t.getD i P0).y≤200∧okL (t.getD i P0) (t.drop (i+1)):=by
 obtain ⟨_,_,p,r,e,h1,h2,h3,h4⟩:=h
 obtain ⟨q,s,e2,g1,g2,g3,g4,g5⟩:=okL_drop (t:=t) (i:=i) ⟨p,r,e,by omega,by omega,h2,h3,h4⟩ hi
 rw [drop_getD t i P0 hi] at e2
 cases e2
 exact ⟨g1,g2,g3,g4,g5⟩
theorem OkT.step {t:List Pt} (h:OkT t) {i:Nat} (hi:i+1 < t.length):okStep (t.getD i P0) (t.getD (i+1) P0):=by
 have:=(h.at (i:=i) (by omega)).2.2.2.2
 rw [drop_getD t (i+1) P0 hi] at this
 exact this.1
theorem seg_floor {a b:Pt} {v:Int} (ha:0≤a.x∧a.x≤100∧0≤a.y∧a.y≤200) (hs:okStep a b) (h0:0≤v) (h1:v≤1000) :
  W (a.y+floorW (W (W (b.y - a.y) * W (v - a.x))) (W (b.x - a.x)))=segI a b v:=by
 have hb:=hs.1
 have hs2:=hs.2
 have m:=mul_bd (a:=b.y - a.y) (b:=v - a.x) (A:=200) (B:=1000) (by omega) (by omega) (by omega) (by omega)
 have e1:W (b.y - a.y)=b.y - a.y:=W_in (by omega) (by omega)
 have e2:W (v - a.x)=v - a.x:=W_in (by omega) (by omega)
 have e3:W (b.x - a.x)=b.x - a.x:=W_in (by omega) (by omega)
 have e4:W ((b.y - a.y) * (v - a.x))=(b.y - a.y) * (v - a.x):=W_in (by omega) (by omega)
 rw [e1,e2,e3,e4,floor_div (by omega) (by omega) (by omega) (by omega)]
 have d1:(b.y - a.y) * (v - a.x) / (b.x - a.x)≤200000:=by
  have:=Int.ediv_le_ediv (c:=b.x - a.x) (by omega) (show (b.y - a.y) * (v - a.x)≤200000 * (b.x - a.x) by omega)
  rwa [Int.mul_ediv_cancel _ (by omega)] at this
 have d2 : -200000≤(b.y - a.y) * (v - a.x) / (b.x - a.x):=by
  have:=Int.ediv_le_ediv (c:=b.x - a.x) (by omega) (show -200000 * (b.x - a.x)≤(b.y - a.y) * (v - a.x) by omega)
  rwa [Int.mul_ediv_cancel _ (by omega)] at this
 rw [W_in (by omega) (by omega)];rfl
theorem c_Table_current (t:List Pt) (v:Int) (h:OkT t) (h0:0≤v) (h1:v≤1000):PC 116 [tbl t,DV.int .i64 (v)] (DV.int .i64 (curT t v)):=by
 have e0:((t.map encPt).length:Int)=t.length:=by simp
 have hlen:=h.2.1
 have hlen2:=h.1
 refine pureCall_ofR dh116 rfl ?_
 conv=>whnf
 refine dwp_loopR (P:=Tryz.prog) (G:=GC) (k:=dk116_0) (b:=db116_0) (α:=Nat) (fun i=>[(0,tbl t),(1,DV.int .i64 (v)),(5,.int .i64 ((i+1:Nat):Int))]) (fun _=>[]) (fun i=>i+1≤t.length∧(t.getD i P0).x≤v∧curT t v=curT (t.drop i) v) (fun i=>t.length - i) 0 ⟨rfl,rfl,rfl⟩ ⟨by omega,?_,rfl⟩ ?_
 ·obtain ⟨p,r,rfl,q1,_⟩:=h.2.2
  show p.x≤v
  omega
 intro i ⟨h2,h3,h4⟩
 conv=>whnf
 refine ⟨fun hb=>?_,fun hb=>?_⟩
 ·have hi:i+1 < t.length:=by have:=of_decide_eq_true hb;rw [e0] at this;omega
  have hst:=h.step hi
  have hat:=h.at (i:=i) (by omega)
  have hat2:=h.at hi
  have hcd:=curT_drop t i v hi
  conv=>whnf
  rw [show IntKind.i64.wrap (((i+1:Nat):Int) - 1)=(i:Int) by rw [wrap_W,W_in (by omega) (by omega)];omega]
  rw [getD_enc _ _ (i) P0 (by omega:i < t.length)]
  refine ⟨idxA (by omega:i < t.length) rfl,?_⟩
  conv=>whnf
  rw [getD_enc _ _ (i+1) P0 hi]
  refine ⟨idxA hi rfl,?_⟩
  conv=>whnf
  refine ⟨by kernel_rfl,?_⟩
  conv=>whnf
  refine ⟨fun hg=>?_,fun hg=>?_⟩
  ·have hz:(t.getD i P0).y=0:=by simp at hg;exact hg.1
   conv=>whnf
   exact int_eq (by rw [h4,drop_getD t i P0 (by omega)];exact (okL_zero hat.2.2.2.2 hz h3).symm)
  ·clear hg
   conv=>whnf
   refine ⟨fun hg=>?_,fun hg=>?_⟩
   ·have hv:=of_decide_eq_true hg
    have hd:W ((t.getD (i+1) P0).x - (t.getD i P0).x)≠0:=by have:=hst.2.1;rw [W_in (by omega) (by omega)];omega
    conv=>whnf
    refine .inl ?_
    conv=>whnf
    refine ⟨_,c_floor _ _ hd,?_⟩
    conv=>whnf
    repeat' (first
     |(refine ⟨fun hg=>?_,fun hg=>?_⟩<;>first|contradiction|(conv=>whnf))
     |(refine Or.inl ?_;conv=>whnf)
     |(refine And.intro ?_ ?_;kernel_rfl;conv=>whnf))
    exact int_eq (by rw [h4,hcd,if_pos hv];exact seg_floor ⟨hat.1,hat.2.1,hat.2.2.1,hat.2.2.2.1⟩ hst h0 h1)
   ·have hv:=of_decide_eq_false hg
    conv=>whnf
    rw [show ((i+1:Nat):Int)=(((i+1):Nat):Int) from rfl,wrap_succ (i+1) (by omega)]
    exact ⟨i+1,rfl,rfl,rfl,⟨hi,by omega,by rw [h4,hcd,if_neg hv]⟩,by omega⟩
 ·have hi:i+1=t.length:=by have:=of_decide_eq_false hb;rw [e0] at this;omega
  conv=>whnf
  exact int_eq (by rw [h4,drop_getD t i P0 (by omega),hi,List.drop_length];rfl)
end Sh

namespace Sh
open Go Go.Proofs
theorem c_Table_last (t:List Pt) (h:OkT t):PC 117 [tbl t] (DV.int .i64 (lastX t)):=by
 have e0:((t.map encPt).length:Int)=t.length:=by simp
 have hlen:=h.2.1
 have hlen2:=h.1
 refine pureCall_ofR dh117 rfl ?_
 conv=>whnf
 rw [e0,wrap_pred t.length (by omega) (by omega),getD_enc _ _ (t.length - 1) P0 (by omega)]
 refine ⟨⟨by omega,by omega,rfl⟩,?_⟩
 conv=>whnf
 exact int_eq (lastX_getD t (by intro e;rw [e] at hlen2;simp at hlen2)).symm
theorem OkC.prod {c:Cel} (h:OkC c) {v:Int} (h0:0≤v):0≤curT c.tb v * c.li∧curT c.tb v * c.li≤200000:=by
 have hb:=h.1.cur_bd h0
 exact ⟨Int.mul_nonneg hb.1 h.2.1,Int.mul_le_mul hb.2 h.2.2.1 h.2.1 (by omega)⟩
theorem c_Cell_current (c:Cel) (v:Int) (h:OkC c) (h0:0≤v) (h1:v≤1000):PC 80 [encC c,DV.int .i64 (v)] (DV.int .i64 (curC c v)):=by
 have hp:=h.prod h0
 refine pureCall_ofR dh80 rfl ?_
 conv=>whnf
 repeat' (first
  |(refine ⟨fun hg=>?_,fun hg=>?_⟩<;>first|contradiction|(conv=>whnf))
  |(refine Or.inl ?_;conv=>whnf)
  |(refine ⟨_,c_Table_current _ _ h.1 h0 h1,?_⟩;conv=>whnf)
  |(refine And.intro ?_ ?_;kernel_rfl;conv=>whnf))
 refine ⟨by decide,?_⟩
 conv=>whnf
 repeat' (first
  |(refine ⟨fun hg=>?_,fun hg=>?_⟩<;>first|contradiction|(conv=>whnf))
  |(refine Or.inl ?_;conv=>whnf)
  |(refine And.intro ?_ ?_;kernel_rfl;conv=>whnf))
 have e1:IntKind.i64.wrap (curT c.tb v * c.li)=curT c.tb v * c.li:=W_in (by omega) (by omega)
 have e2:(curT c.tb v * c.li).tdiv 1000=curT c.tb v * c.li / 1000:=Int.tdiv_eq_ediv_of_nonneg hp.1
 exact int_eq (by rw [e1,e2,wrap_W,W_in (by omega) (by omega)];rfl)
theorem OkC.len {c:Cel} (h:OkC c):c.tb.length≤8:=h.1.2.1
theorem c_CheckCell (c:Cel) (hl:c.tb.length < 1073741824):PC 25 [encC c] (DV.int .i64 (chkCell c)):=by
 refine pureCall_ofR dh25 rfl ?_
 conv=>whnf
 repeat' (first
  |(refine ⟨fun hg=>?_,fun hg=>?_⟩<;>first|contradiction|(conv=>whnf))
  |(refine Or.inl ?_;conv=>whnf)
  |(refine ⟨_,c_CheckTable _ hl,?_⟩;conv=>whnf)
  |(refine ⟨_,c_within ..,?_⟩;conv=>whnf)
  |(refine ⟨_,c_first [_,_,_] (by simp),?_⟩;conv=>whnf)
  |(refine And.intro ?_ ?_;kernel_rfl;conv=>whnf))
 rfl
def encVB (p:Int×Bool):DV:=.tuple [DV.int .i64 (p.1),.bool p.2]
theorem c_Cell_volt (c:Cel) (n:Int) (h:OkC c):PC 82 [encC c,DV.int .i64 (n)] (encVB (voltC c n)):=by
 have hb:=h.1.last_bd
 refine pureCall_ofR dh82 rfl ?_
 conv=>whnf
 repeat' (first
  |(refine ⟨fun hg=>?_,fun hg=>?_⟩<;>first|contradiction|(conv=>whnf))
  |(refine Or.inl ?_;conv=>whnf)
  |(refine ⟨_,c_Table_last _ h.1,?_⟩;conv=>whnf)
  |(refine And.intro ?_ ?_;kernel_rfl;conv=>whnf))
 refine dwp_loopR (P:=Tryz.prog) (G:=GC) (k:=dk82_0) (b:=db82_0) (α:=Nat) (fun j=>[(1,DV.int .i64 (n)),(2,.bptr 2 0),(6,DV.int .i64 ((j:Int) - 1))]) (fun _=>[(2,.box 3 (encC c))]) (fun j=>j≤101∧voltC c n=vDown c n j) (fun j=>j) ((lastX c.tb).toNat+1) ⟨rfl,?_,rfl⟩ ⟨by omega,rfl⟩ ?_
 ·show [(1,DV.int .i64 n),(2,DV.bptr 2 0),(6,DV.int .i64 (lastX c.tb))]=_
  rw [show (((lastX c.tb).toNat+1:Nat):Int) - 1=lastX c.tb by omega]
 intro j ⟨h1,h2⟩
 conv=>whnf
 refine ⟨fun hb=>?_,fun hb=>?_⟩
 ·have hj:=of_decide_eq_true hb
  obtain ⟨k,rfl⟩:∃ k,j=k+1:=⟨j - 1,by omega⟩
  have e1:((k+1:Nat):Int) - 1=k:=by omega
  rw [e1]
  conv=>whnf
  repeat' (first
   |(refine ⟨fun hg=>?_,fun hg=>?_⟩<;>first|contradiction|(conv=>whnf))
   |(refine Or.inl ?_;conv=>whnf)
   |(refine ⟨_,c_Cell_current _ _ h (by omega) (by omega),?_⟩;conv=>whnf)
   |(refine And.intro ?_ ?_;kernel_rfl;conv=>whnf))
  ·have hg:=of_decide_eq_true hg
   show DV.tuple [DV.int .i64 (k),.bool true]=encVB (voltC c n)
   rw [h2,vDown,if_pos hg];rfl
  ·have hg:=of_decide_eq_false hg
   rw [show IntKind.i64.wrap ((k:Int) - 1)=(k:Int) - 1 from W_in (by omega) (by omega)]
   exact ⟨k,rfl,rfl,rfl,⟨by omega,by rw [h2,vDown,if_neg hg]⟩,by omega⟩
 ·have hj:=of_decide_eq_false hb
  have:j=0:=by omega
  subst this
  conv=>whnf
  have:=h.2.2.2
  show DV.tuple [DV.int .i64 (IntKind.i64.wrap (-c.dr)),.bool false]=encVB (voltC c n)
  rw [h2,show IntKind.i64.wrap (-c.dr) = -c.dr from W_in (by omega) (by omega)];rfl
def encE2 (p:Int×Int):DV:=.tuple [DV.int .i64 (p.1),DV.int .i64 (p.2)]
def encE3 (p:Int×Bool×Int):DV:=.tuple [DV.int .i64 (p.1),.bool p.2.1,DV.int .i64 (p.2.2)]
def currentS (c:Cel) (v:Int):Int×Int:=if firstE [chkCell c,withE v 0 800]≠0 then (0,firstE [chkCell c,withE v 0 800]) else (curC c v,0)
def voltS (c:Cel) (n:Int):Int×Bool×Int:=if firstE [chkCell c,withE n 0 200]≠0 then (0,false,firstE [chkCell c,withE n 0 200]) else ((voltC c n).1,(voltC c n).2,0)
theorem two_zero {a b:Int} (h:¬ firstE [a,b]≠0):a=0∧b=0:=by
 have h:=firstE_cons (Classical.not_not.1 h)
 exact ⟨h.1,(firstE_cons h.2).1⟩
theorem c_Current (c:Cel) (v:Int) (hl:c.tb.length < 1073741824):PC 14 [encC c,DV.int .i64 (v)] (encE2 (currentS c v)):=by
 refine pureCall_ofR dh14 rfl ?_
 conv=>whnf
 repeat' (first
  |(refine ⟨fun hg=>?_,fun hg=>?_⟩<;>first|contradiction|(conv=>whnf))
  |(refine Or.inl ?_;conv=>whnf)
  |(refine ⟨_,c_CheckCell _ hl,?_⟩;conv=>whnf)
  |(refine ⟨_,c_checkVolt ..,?_⟩;conv=>whnf)
  |(refine ⟨_,c_first [_,_] (by simp),?_⟩;conv=>whnf)
  |(refine And.intro ?_ ?_;kernel_rfl;conv=>whnf))
 ·have hg:=of_decide_eq_true hg
  show DV.tuple [_,_]=_
  rw [currentS,if_pos hg];rfl
 ·have hg:=of_decide_eq_false hg
  have hz:=two_zero hg
  have hv:=withE_zero hz.2
  repeat' (first
   |(refine ⟨fun hg=>?_,fun hg=>?_⟩<;>first|contradiction|(conv=>whnf))
   |(refine Or.inl ?_;conv=>whnf)
   |(refine ⟨_,c_Cell_current _ _ (chkCell_zero hz.1) (by omega) (by omega),?_⟩;conv=>whnf)
   |(refine And.intro ?_ ?_;kernel_rfl;conv=>whnf))
  show DV.tuple [_,_]=_
  rw [currentS,if_neg hg];rfl
theorem c_Volt (c:Cel) (n:Int) (hl:c.tb.length < 1073741824):PC 16 [encC c,DV.int .i64 (n)] (encE3 (voltS c n)):=by
 refine pureCall_ofR dh16 rfl ?_
 conv=>whnf
 repeat' (first
  |(refine ⟨fun hg=>?_,fun hg=>?_⟩<;>first|contradiction|(conv=>whnf))
  |(refine Or.inl ?_;conv=>whnf)
  |(refine ⟨_,c_CheckCell _ hl,?_⟩;conv=>whnf)
  |(refine ⟨_,c_checkAmp ..,?_⟩;conv=>whnf)
  |(refine ⟨_,c_first [_,_] (by simp),?_⟩;conv=>whnf)
  |(refine And.intro ?_ ?_;kernel_rfl;conv=>whnf))
 ·have hg:=of_decide_eq_true hg
  show DV.tuple [_,_,_]=_
  rw [voltS,if_pos hg];rfl
 ·have hg:=of_decide_eq_false hg
  have hz:=two_zero hg
  repeat' (first
   |(refine ⟨fun hg=>?_,fun hg=>?_⟩<;>first|contradiction|(conv=>whnf))
   |(refine Or.inl ?_;conv=>whnf)
   |(refine ⟨_,c_Cell_volt _ _ (chkCell_zero hz.1),?_⟩;conv=>whnf)
   |(refine And.intro ?_ ?_;kernel_rfl;conv=>whnf))
  show DV.tuple [_,_,_]=_
  rw [voltS,if_neg hg];rfl
end Sh

namespace Sh
open Go Go.Proofs
def oI {α:Type} (g:α→Int) (l:List α) (i:Nat):List DV:=(l.take i).map fun c=>DV.int .i64 (g c)
theorem oI_len {α:Type} (g:α→Int) (l:List α) (i:Nat) (h:i≤l.length):(oI g l i).length=i:=by simp [oI];omega
theorem oI_succ {α:Type} (g:α→Int) (l:List α) (i:Nat) (d:α) (h:i < l.length):oI g l (i+1)=oI g l i++[DV.int .i64 (g (l.getD i d))]:=take_map_succ _ l i d h
theorem oI_all {α:Type} (g:α→Int) (l:List α):oI g l l.length=(l.map g).map (DV.int .i64):=by simp [oI]
theorem c_mappedE (l:List Cel) (f:FuncId) (g:Cel→Int) (hl:l.length < 1073741824) (hf:∀ c ∈ l,PC f [encC c] (DV.int .i64 (g c))):PC 94 [chn l,.func f []] (iL (l.map g)):=by
 refine pureCall_ofR dh94 rfl ?_
 conv=>whnf
 refine dwp_loopR (P:=Tryz.prog) (G:=GC) (k:=dk94_0) (b:=db94_0) (α:=Nat) (fun i=>[(1,.func f []),(5,.own 5 0 (oI g l i).length (oI g l i).length),(8,chn l),(9,.int .i64 (l.map encC).length),(10,DV.int .i64 (i))]) (fun i=>[(5,.row 1 (oI g l i) false)]) (fun i=>i≤l.length) (fun i=>l.length - i) 0 ⟨rfl,rfl,rfl⟩ (Nat.zero_le _) ?_
 intro i h1
 conv=>whnf
 refine ⟨fun hb=>?_,fun hb=>?_⟩
 ·have hi:i < l.length:=by simpa using hb
  conv=>whnf
  rw [getD_enc _ _ (i) C0 hi]
  refine ⟨idxA hi rfl,?_⟩
  conv=>whnf
  refine .inl ?_
  conv=>whnf
  refine ⟨_,hf _ (getD_in C0 hi),?_⟩
  conv=>whnf
  refine ⟨⟨rfl,rfl,rfl,by rw [oI_len g l i h1];simp;omega,fun e he=>by simp at he;subst he;rfl⟩,?_⟩
  conv=>whnf
  rw [wrap_succ i (by omega)]
  refine ⟨i+1,rfl,?_,?_,hi,by omega⟩
  ·rw [oI_succ g l i C0 hi];rfl
  ·rw [oI_succ g l i C0 hi];rfl
 ·have hi:i=l.length:=by have:=of_decide_eq_false hb;simp at this;omega
  conv=>whnf
  exact ⟨rfl,by rw [window_full,hi,oI_all];rfl⟩
theorem c_CheckChain (l:List Cel) (hl:l.length < 1073741824) (hc:∀ c ∈ l,c.tb.length < 1073741824):PC 36 [chn l] (DV.int .i64 (chkChain l)):=by
 have e0:((l.map encC).length:Int)=l.length:=by simp
 refine pureCall_ofR dh36 rfl ?_
 conv=>whnf
 repeat' (first
  |(refine ⟨fun hg=>?_,fun hg=>?_⟩<;>first|contradiction|(conv=>whnf))
  |(refine Or.inl ?_;conv=>whnf)
  |(refine ⟨_,c_counted ..,?_⟩;conv=>whnf)
  |(refine And.intro ?_ ?_;kernel_rfl;conv=>whnf))
 ·have hg:=of_decide_eq_true hg
  exact int_eq (by rw [e0] at hg ⊢;unfold chkChain;rw [if_pos hg])
 ·have hg:=of_decide_eq_false hg
  repeat' (first
   |(refine ⟨fun hg=>?_,fun hg=>?_⟩<;>first|contradiction|(conv=>whnf))
   |(refine Or.inl ?_;conv=>whnf)
   |(refine ⟨_,c_mappedE l 25 chkCell hl (fun c h=>c_CheckCell c (hc c h)),?_⟩;conv=>whnf)
   |(refine ⟨_,c_first _ (by simp;omega),?_⟩;conv=>whnf)
   |(refine And.intro ?_ ?_;kernel_rfl;conv=>whnf))
  exact int_eq (by rw [e0] at hg;unfold chkChain;rw [if_neg hg])
theorem c_chainVolt (l:List Cel) (n:Int) (h:OkH l):PC 89 [chn l,DV.int .i64 (n)] (DV.int .i64 (chV l n)):=by
 have e0:((l.map encC).length:Int)=l.length:=by simp
 have hl:=h.2.1
 refine pureCall_ofR dh89 rfl ?_
 conv=>whnf
 refine dwp_loopR (P:=Tryz.prog) (G:=GC) (k:=dk89_0) (b:=db89_0) (α:=Nat) (fun i=>[(1,DV.int .i64 (n)),(5,DV.int .i64 (chVi l n i)),(10,chn l),(11,.int .i64 (l.map encC).length),(12,DV.int .i64 (i))]) (fun _=>[]) (fun i=>i≤l.length) (fun i=>l.length - i) 0 ⟨rfl,rfl,rfl⟩ (Nat.zero_le _) ?_
 intro i h1
 conv=>whnf
 refine ⟨fun hb=>?_,fun hb=>?_⟩
 ·have hi:i < l.length:=by simpa using hb
  have hc:=h.2.2 _ (getD_in C0 hi)
  have b1:=chVi_bd h n i
  have b2:=hc.volt_bd n
  conv=>whnf
  rw [getD_enc _ _ (i) C0 hi]
  refine ⟨idxA hi rfl,?_⟩
  conv=>whnf
  repeat' (first
   |(refine ⟨fun hg=>?_,fun hg=>?_⟩<;>first|contradiction|(conv=>whnf))
   |(refine Or.inl ?_;conv=>whnf)
   |(refine ⟨_,c_Cell_volt _ _ hc,?_⟩;conv=>whnf)
   |(refine And.intro ?_ ?_;kernel_rfl;conv=>whnf))
  rw [wrap_succ i (by omega),show IntKind.i64.wrap (chVi l n i+(voltC (l.getD i C0) n).1)=chVi l n (i+1) by rw [wrap_W,W_in (by omega) (by omega),chVi_succ l n i hi]]
  exact ⟨i+1,rfl,rfl,rfl,hi,by omega⟩
 ·have hi:i=l.length:=by have:=of_decide_eq_false hb;rw [e0] at this;omega
  conv=>whnf
  exact int_eq (by rw [hi,chVi_all])
def chainVoltS (l:List Cel) (n:Int):Int×Int:=if firstE [chkChain l,withE n 0 200]≠0 then (0,firstE [chkChain l,withE n 0 200]) else (chV l n,0)
theorem c_ChainVolt (l:List Cel) (n:Int) (hl:l.length < 1073741824) (hc:∀ c ∈ l,c.tb.length < 1073741824):PC 28 [chn l,DV.int .i64 (n)] (encE2 (chainVoltS l n)):=by
 refine pureCall_ofR dh28 rfl ?_
 conv=>whnf
 repeat' (first
  |(refine ⟨fun hg=>?_,fun hg=>?_⟩<;>first|contradiction|(conv=>whnf))
  |(refine Or.inl ?_;conv=>whnf)
  |(refine ⟨_,c_CheckChain _ hl hc,?_⟩;conv=>whnf)
  |(refine ⟨_,c_checkAmp ..,?_⟩;conv=>whnf)
  |(refine ⟨_,c_first [_,_] (by simp),?_⟩;conv=>whnf)
  |(refine And.intro ?_ ?_;kernel_rfl;conv=>whnf))
 ·have hg:=of_decide_eq_true hg
  show DV.tuple [_,_]=_
  rw [chainVoltS,if_pos hg];rfl
 ·have hg:=of_decide_eq_false hg
  have hz:=two_zero hg
  repeat' (first
   |(refine ⟨fun hg=>?_,fun hg=>?_⟩<;>first|contradiction|(conv=>whnf))
   |(refine Or.inl ?_;conv=>whnf)
   |(refine ⟨_,c_chainVolt _ _ (chkChain_zero hz.1),?_⟩;conv=>whnf)
   |(refine And.intro ?_ ?_;kernel_rfl;conv=>whnf))
  show DV.tuple [_,_]=_
  rw [chainVoltS,if_neg hg];rfl
end Sh

namespace Sh
open Go
theorem vDown_skip (c:Cel) (n:Int):∀ (L p:Nat),p≤L→(∀ j:Nat,p≤j→j < L→curC c j < n)→vDown c n L=vDown c n p
 |0,p,h,_=>by have:p=0:=by omega
              subst this;rfl
 |L+1,p,h,hj=>by
  by_cases e:p=L+1
  ·subst e;rfl
  ·have h1:=hj L (by omega) (by omega)
   rw [vDown,if_neg (by omega)]
   exact vDown_skip c n L p (by omega) (fun j h1 h2=>hj j h1 (by omega))
def rng {α:Type} (m:Nat) (f:Nat→α):List α:=(List.range m).map f
theorem rng_len {α:Type} (m:Nat) (f:Nat→α):(rng m f).length=m:=by simp [rng]
theorem rng_getD {α:Type} {m i:Nat} (f:Nat→α) (d:α) (h:i < m):(rng m f).getD i d=f i:=by
 simp [rng,List.getD_eq_getElem?_getD,h]
theorem rng_set {α:Type} (m j:Nat) (f:Nat→α) (v:α):(rng m f).set j v=rng m (fun k=>if k=j then v else f k):=by
 apply List.ext_getElem
 ·simp [rng]
 ·intro i h1 h2
  simp only [rng,List.getElem_set,List.getElem_map,List.getElem_range]
  by_cases e:j=i
  ·subst e;simp
  ·rw [if_neg e,if_neg (Ne.symm e)]
theorem rng_congr {α:Type} {m:Nat} {f g:Nat→α} (h:∀ k,k < m→f k=g k):rng m f=rng m g:=by
 unfold rng;exact List.map_congr_left (fun k hk=>h k (List.mem_range.1 hk))
theorem rng_succ {α:Type} (m:Nat) (f:Nat→α):rng (m+1) f=rng m f++[f m]:=by
 simp [rng,List.range_succ]
theorem rng_const {α:Type} (m:Nat) (v:α):List.replicate m v=rng m (fun _=>v):=by
 apply List.ext_getElem<;>simp [rng]
theorem rng_map {α β:Type} (m:Nat) (f:Nat→α) (g:α→β):(rng m f).map g=rng m (fun k=>g (f k)):=by simp [rng]
def ents (m:Nat) (f:Nat→Int):List (DV×DV):=rng m (fun k=>(DV.int .i64 (k:Int),DV.int .i64 (f k)))
theorem dfind_from (f:Nat→Int) (n:Nat):∀ (m s i:Nat),s≤n→dfind (keyEq 1 []) (DV.int .i64 (n:Int)) ((List.range' s m).map fun k:Nat=>(DV.int .i64 (k:Int),DV.int .i64 (f k))) i=if n < s+m then some (some (i+(n - s),DV.int .i64 (f n))) else some none
 |0,s,i,h=>by rw [if_neg (by omega)];rfl
 |m+1,s,i,h=>by
  rw [List.range'_succ,List.map_cons]
  unfold dfind
  by_cases e:n=s
  ·subst e
   simp only [keyEq,kindEq,kindNo]
   rw [if_pos (by omega)]
   simp
  ·have hd:keyEq 1 [] (DV.int .i64 (n:Int)) (DV.int .i64 (s:Int))=some false:=by
    simp only [keyEq,kindEq,kindNo]
    rw [decide_eq_false (by omega)];rfl
   rw [hd]
   simp only
   rw [dfind_from f n m (s+1) (i+1) (by omega)]
   by_cases e2:n < s+(m+1)
   ·rw [if_pos (by omega),if_pos e2]
    congr 3;omega
   ·rw [if_neg (by omega),if_neg e2]
theorem dfind_ents (f:Nat→Int) (n m:Nat):dfind (keyEq 1 []) (DV.int .i64 (n:Int)) (ents m f) 0=if n < m then some (some (n,DV.int .i64 (f n))) else some none:=by
 have:=dfind_from f n m 0 0 (Nat.zero_le _)
 unfold ents rng
 rw [List.range_eq_range',this]
 simp
def ES (l:List Cel) (i n:Nat):List (DV×DV):=ents (if i=0 then n else 201) (fun k=>chVi l k (if k < n then i+1 else i))
theorem ES_find {l:List Cel} {i n:Nat} (hn:n < 201):dfind (keyEq 1 []) (DV.int .i64 (n:Int)) (ES l i n) 0=if i=0 then some none else some (some (n,DV.int .i64 (chVi l n i))):=by
 unfold ES
 rw [dfind_ents]
 by_cases e:i=0
 ·rw [if_pos e,if_pos e,if_neg (by omega)]
 ·rw [if_neg e,if_neg e,if_pos hn];simp
theorem ES_set {l:List Cel} {i n:Nat} (hi:i≠0):(ES l i n).set n (DV.int .i64 (n:Int),DV.int .i64 (chVi l n (i+1)))=ES l i (n+1):=by
 unfold ES ents
 rw [rng_set,if_neg hi,if_neg hi]
 refine rng_congr (fun k hk=>?_)
 (try dsimp only)
 by_cases e:k=n
 ·subst e;simp
 ·rw [if_neg e]
  by_cases e2:k < n
  ·rw [if_pos e2,if_pos (by omega)]
  ·rw [if_neg e2,if_neg (by omega)]
theorem ES_app {l:List Cel} {n:Nat}:ES l 0 n++[(DV.int .i64 (n:Int),DV.int .i64 (chVi l n (0+1)))]=ES l 0 (n+1):=by
 unfold ES ents
 simp only [if_true]
 rw [rng_succ]
 congr 1
 ·exact rng_congr (fun k hk=>by (try dsimp only);rw [if_pos hk,if_pos (by omega)])
 ·simp
theorem ES_next (l:List Cel) (i:Nat):ES l i 201=ES l (i+1) 0:=by
 unfold ES ents
 by_cases e:i=0
 ·subst e
  simp only [if_true]
  exact rng_congr (fun k hk=>by (try dsimp only);rw [if_pos hk,if_neg (by omega)])
 ·rw [if_neg e,if_neg (by omega)]
  exact rng_congr (fun k hk=>by (try dsimp only);rw [if_pos hk,if_neg (by omega)])
theorem ES_all {l:List Cel} (h:l≠[]):ES l l.length 0=ents 201 (fun k=>chV l k):=by
 unfold ES
 rw [if_neg (by intro e;exact h (List.eq_nil_of_length_eq_zero e))]
 unfold ents
 exact rng_congr (fun k hk=>by (try dsimp only);rw [if_neg (by omega),chVi_all])
def atS (c:Cel) (L j:Nat):List DV:=rng L (fun k=>DV.int .i64 (if k < j then curC c k else 0))
theorem atS_len (c:Cel) (L j:Nat):(atS c L j).length=L:=rng_len _ _
theorem atS_set (c:Cel) (L j:Nat):(atS c L j).set j (DV.int .i64 (curC c j))=atS c L (j+1):=by
 unfold atS
 rw [rng_set]
 refine rng_congr (fun k hk=>?_)
 (try dsimp only)
 by_cases e:k=j
 ·subst e;simp
 ·rw [if_neg e]
  by_cases e2:k < j
  ·rw [if_pos e2,if_pos (by omega)]
  ·rw [if_neg e2,if_neg (by omega)]
theorem atS_zero (c:Cel) (L:Nat):List.replicate L (DV.int .i64 0)=atS c L 0:=by rw [rng_const];rfl
theorem atS_get {c:Cel} {L j:Nat} (h:j < L):(atS c L L).getD j .undef=DV.int .i64 (curC c j):=by
 unfold atS;rw [rng_getD _ _ h,if_pos h]
def hD (l:List Cel) (v:Int):Nat→Int
 |0 => -1
 |k+1=>if v≤chV l (k:Int) then (k:Int) else hD l v k
def curH (l:List Cel) (v:Int):Int:=if 0 < hD l v 201 then hD l v 201 else 0
theorem hD_skip (l:List Cel) (v:Int):∀ (L p:Nat),p≤L→(∀ j:Nat,p≤j→j < L→chV l j < v)→hD l v L=hD l v p
 |0,p,h,_=>by have:p=0:=by omega
              subst this;rfl
 |L+1,p,h,hj=>by
  by_cases e:p=L+1
  ·subst e;rfl
  ·have h1:=hj L (by omega) (by omega)
   rw [hD,if_neg (by omega)]
   exact hD_skip l v L p (by omega) (fun j h1 h2=>hj j h1 (by omega))
theorem hD_bd (l:List Cel) (v:Int):∀ k:Nat,-1≤hD l v k∧hD l v k < k
 |0=>by simp [hD]
 |k+1=>by
  unfold hD
  have:=hD_bd l v k
  split<;>omega
theorem curH_bd (l:List Cel) (v:Int):0≤curH l v∧curH l v≤200:=by
 have:=hD_bd l v 201
 unfold curH
 split<;>omega
def outS (f:Nat→Int) (E v:Nat):List DV:=rng E (fun k=>DV.int .i64 (if k < v then f k else 0))
theorem outS_len (f:Nat→Int) (E v:Nat):(outS f E v).length=E:=rng_len _ _
theorem outS_set (f:Nat→Int) (E v:Nat):(outS f E v).set v (DV.int .i64 (f v))=outS f E (v+1):=by
 unfold outS
 rw [rng_set]
 refine rng_congr (fun k hk=>?_)
 (try dsimp only)
 by_cases e:k=v
 ·subst e;simp
 ·rw [if_neg e]
  by_cases e2:k < v
  ·rw [if_pos e2,if_pos (by omega)]
  ·rw [if_neg e2,if_neg (by omega)]
theorem outS_zero (f:Nat→Int) (E:Nat):List.replicate E (DV.int .i64 0)=outS f E 0:=by rw [rng_const];rfl
theorem outS_all (f:Nat→Int) (E:Nat):outS f E E=(rng E f).map (DV.int .i64):=by
 rw [rng_map];exact rng_congr (fun k hk=>by (try dsimp only);rw [if_pos hk])
section
variable {ev:Operand→DV} {lk:Nat→Option DObj} {o kk q i:Nat} {ks:List Nat} {z v:DV} {m k x:Operand} {es:List (DV×DV)}
theorem ev_lookup_some (hm:ev m=.dict q) (hl:lk q=some (.dict es)) (hp:keyB kk ks (ev k)=true) (hd:dfind (keyEq kk ks) (ev k) es 0=some (some (i,v))):evalOp ev lk o (.lookup kk ks false z m k)=.ok none v []:=by
 simp [evalOp,hm,hl,hp,hd]
theorem ev_lookup_none (hm:ev m=.dict q) (hl:lk q=some (.dict es)) (hp:keyB kk ks (ev k)=true) (hd:dfind (keyEq kk ks) (ev k) es 0=some none):evalOp ev lk o (.lookup kk ks false z m k)=.ok none z []:=by
 simp [evalOp,hm,hl,hp,hd]
theorem ev_mapset_some {kv vv:DV} (hm:ev m=.dict q) (hl:lk q=some (.dict es)) (hk:ev k=kv) (hv:ev x=vv) (hp:(keyB kk ks kv && pureB vv)=true) (hd:dfind (keyEq kk ks) kv es 0=some (some (i,v))):evalOp ev lk o (.mapset kk ks m k x)=.ok none (.tuple []) [(q,.dict (es.set i (kv,vv)))]:=by
 simp only [evalOp,hm,hl,hk,hv,hp,hd,cond_true]
theorem ev_mapset_none {kv vv:DV} (hm:ev m=.dict q) (hl:lk q=some (.dict es)) (hk:ev k=kv) (hv:ev x=vv) (hp:(keyB kk ks kv && pureB vv)=true) (hd:dfind (keyEq kk ks) kv es 0=some none):evalOp ev lk o (.mapset kk ks m k x)=.ok none (.tuple []) [(q,.dict (es++[(kv,vv)]))]:=by
 simp only [evalOp,hm,hl,hk,hv,hp,hd,cond_true]
end
end Sh

namespace Sh
open Go Go.Proofs
theorem c_volts (l:List Cel) (h:OkH l):HCall Tryz.prog GC 118 [chn l] [] (.dict 10) [(10,.dict (ents 201 fun k=>chV l k))]:=by
 have e0:((l.map encC).length:Int)=l.length:=by simp
 have hl:=h.2.1
 refine hCall_ofR dh118 rfl (by kernel_rfl) (by kernel_rfl) ?_
 conv=>whnf
 refine dwp_loopR (P:=Tryz.prog) (G:=GC) (k:=dk118_3) (b:=db118_3) (α:=Nat) (fun i=>[(3,.dict 10),(11,chn l),(12,.int .i64 (l.map encC).length),(13,DV.int .i64 (i))]) (fun i=>[(10,.dict (ES l i 0))]) (fun i=>i≤l.length) (fun i=>l.length - i) 0 ⟨rfl,rfl,rfl⟩ (Nat.zero_le _) ?_
 intro i h1
 conv=>whnf
 refine ⟨fun hb=>?_,fun hb=>?_⟩
 ·have hi:i < l.length:=by simpa using hb
  have hc:=h.2.2 _ (getD_in C0 hi)
  have hx:=hc.1.last_bd
  obtain ⟨L,hL⟩:∃ L:Nat,(L:Int)=lastX (l.getD i C0).tb+1:=⟨(lastX (l.getD i C0).tb+1).toNat,by omega⟩
  conv=>whnf
  rw [getD_enc _ _ (i) C0 hi]
  refine ⟨idxA hi rfl,?_⟩
  conv=>whnf
  repeat' (first
   |(refine ⟨fun hg=>?_,fun hg=>?_⟩<;>first|contradiction|(conv=>whnf))
   |(refine Or.inl ?_;conv=>whnf)
   |(refine ⟨_,c_Table_last _ hc.1,?_⟩;conv=>whnf)
   |(refine And.intro ?_ ?_;kernel_rfl;conv=>whnf))
  rw [show IntKind.i64.wrap (lastX (l.getD i C0).tb+1)=(L:Int) by rw [wrap_W,W_in (by omega) (by omega)];omega]
  simp only [Int.toNat_natCast]
  rw [atS_zero (l.getD i C0)]
  refine ⟨⟨by omega,by omega,by omega,rfl,rfl⟩,?_⟩
  generalize hcd:l.getD i C0=c at *
  conv=>whnf
  refine ⟨(atS_len c L 0).symm,?_⟩
  conv=>whnf
  refine dwp_loopR (P:=Tryz.prog) (G:=GC) (k:=dk118_0) (b:=db118_0) (α:=Nat) (fun j=>[(3,.dict 10),(5,.bptr 5 0),(6,.own 21 0 L L),(11,chn l),(12,.int .i64 (l.map encC).length),(13,DV.int .i64 (i)),(23,DV.int .i64 (L)),(24,DV.int .i64 (j))]) (fun j=>[(5,.box 3 (encC c)),(10,.dict (ES l i 0)),(21,.row 1 (atS c L j) false)]) (fun j=>j≤L) (fun j=>L - j) 0 ⟨rfl,rfl,rfl⟩ (Nat.zero_le _) ?_
  intro j hj
  conv=>whnf
  refine ⟨fun hb=>?_,fun hb=>?_⟩
  ·have hj:=of_decide_eq_true hb
   conv=>whnf
   repeat' (first
    |(refine ⟨fun hg=>?_,fun hg=>?_⟩<;>first|contradiction|(conv=>whnf))
    |(refine Or.inl ?_;conv=>whnf)
    |(refine ⟨_,c_Cell_current _ _ hc (by omega) (by omega),?_⟩;conv=>whnf)
    |(refine And.intro ?_ ?_;kernel_rfl;conv=>whnf))
   refine ⟨⟨(atS_len c L j).symm,by omega,by omega⟩,?_⟩
   conv=>whnf
   refine ⟨⟨(atS_len c L j).symm,by decide,rfl⟩,?_⟩
   conv=>whnf
   rw [wrap_succ j (by omega)]
   refine ⟨j+1,rfl,rfl,?_,by omega,by omega⟩
   show [(5,DObj.box 3 (encC c)),(10,DObj.dict (ES l i 0)),(21,DObj.row 1 ((atS c L j).set (0+j) (DV.int .i64 (curC c j))) false)]=_
   rw [Nat.zero_add,atS_set]
  ·have hj:=of_decide_eq_false hb
   have hj:j=L:=by omega
   subst hj
   conv=>whnf
   refine ⟨(atS_len c j j).symm,?_⟩
   conv=>whnf
   refine dwp_loopR (P:=Tryz.prog) (G:=GC) (k:=dk118_2) (b:=db118_2) (α:=Nat×Nat) (fun s=>[(3,.dict 10),(5,.bptr 5 0),(6,.own 21 0 j j),(8,DV.int .i64 ((s.2:Int) - 1)),(11,chn l),(12,.int .i64 (l.map encC).length),(13,DV.int .i64 (i)),(37,DV.int .i64 (s.1))]) (fun s=>[(5,.box 3 (encC c)),(10,.dict (ES l i s.1)),(21,.row 1 (atS c j j) false)])
    (fun s=>s.1≤201∧s.2≤j∧∀ k:Nat,s.2≤k→k < j→curC c k < s.1) (fun s=>201 - s.1) (0,j) ⟨rfl,?_,rfl⟩ ⟨by omega,Nat.le_refl _,fun k h1 h2=>by simp at h1;omega⟩ ?_
   ·rw [show IntKind.i64.wrap ((j:Int) - 1)=(j:Int) - 1 from W_in (by omega) (by omega)];rfl
   rintro ⟨n,p⟩ ⟨hn,hp,hall⟩
   dsimp only at hn hp hall ⊢
   conv=>whnf
   refine ⟨fun hb=>?_,fun hb=>?_⟩
   ·have hn2:=of_decide_eq_true hb
    have hn3:n < 201:=by omega
    conv=>whnf
    refine dwp_loopR (P:=Tryz.prog) (G:=GC) (k:=dk118_1) (b:=db118_1) (α:=Nat) (fun p=>[(3,.dict 10),(5,.bptr 5 0),(6,.own 21 0 j j),(8,DV.int .i64 ((p:Int) - 1)),(9,DV.int .i64 (n)),(11,chn l),(12,.int .i64 (l.map encC).length),(13,DV.int .i64 (i)),(37,DV.int .i64 (n))]) (fun _=>[(5,.box 3 (encC c)),(10,.dict (ES l i n)),(21,.row 1 (atS c j j) false)])
     (fun p=>p≤j∧∀ k:Nat,p≤k→k < j→curC c k < n) (fun p=>p) p ⟨rfl,rfl,rfl⟩ ⟨hp,hall⟩ ?_
    clear hp hall p
    intro p ⟨hp,hall⟩
    conv=>whnf
    refine ⟨fun hg=>?_,fun hg=>?_⟩
    ·have hg:=of_decide_eq_true hg
     obtain ⟨k,rfl⟩:∃ k,p=k+1:=⟨p - 1,by omega⟩
     have e1:((k+1:Nat):Int) - 1=k:=by omega
     rw [e1]
     conv=>whnf
     refine ⟨⟨(atS_len c j j).symm,by omega,by omega⟩,?_⟩
     conv=>whnf
     rw [Int.toNat_natCast,Nat.zero_add,atS_get (by omega:k < j)]
     refine ⟨⟨(atS_len c j j).symm,by decide⟩,?_⟩
     conv=>whnf
     refine ⟨fun hg=>?_,fun hg=>?_⟩
     ·have hg:curC c k < n:=of_decide_eq_true hg
      conv=>whnf
      rw [show IntKind.i64.wrap ((k:Int) - 1)=(k:Int) - 1 from W_in (by omega) (by omega)]
      refine ⟨k,rfl,rfl,rfl,⟨by omega,fun q h1 h2=>?_⟩,by omega⟩
      by_cases e:q=k
      ·subst e;exact hg
      ·exact hall q (by omega) h2
     ·have hg:¬ curC c k < n:=of_decide_eq_false hg
      have hv:voltC c n=((k:Int),true):=by
       unfold voltC
       rw [show (lastX c.tb).toNat+1=j by omega,vDown_skip c n j (k+1) hp hall,vDown,if_pos (by omega)]
      conv=>whnf
      refine ⟨fun hg=>absurd (of_decide_eq_true hg) (by omega),fun hg=>?_⟩
      conv=>whnf
      have b1:=chVi_bd h n i
      have b2:=hc.volt_bd n
      have hs:IntKind.i64.wrap (chVi l n i+(k:Int))=chVi l n (i+1):=by
       rw [wrap_W,chVi_succ l n i hi,hcd,hv,W_in (by rw [hv] at b2;omega) (by rw [hv] at b2;omega)]
      by_cases hi0:i=0
      ·subst hi0
       rw [ev_lookup_none (q:=10) (es:=ES l 0 n) ?_ ?_ ?_ ?_]
       ·conv=>whnf
        rw [show IntKind.i64.wrap (0+(k:Int))=chVi l n (0+1) from hs]
        rw [ev_mapset_none (q:=10) (es:=ES l 0 n) (kv:=DV.int .i64 (n)) (vv:=DV.int .i64 (chVi l n (0+1))) ?_ ?_ ?_ ?_ ?_ ?_]
        ·rw [ES_app]
         conv=>whnf
         rw [wrap_succ n (by omega)]
         refine ⟨(n+1,k+1),rfl,?_,rfl,⟨by simp;omega,hp,fun q h1 h2=>by have:=hall q h1 h2;simp;omega⟩,by simp;omega⟩
         dsimp only;rw [e1];rfl
        ·rfl
        ·rfl
        ·rfl
        ·rfl
        ·rfl
        ·exact (ES_find hn3).trans (if_pos rfl)
       ·rfl
       ·rfl
       ·rfl
       ·exact (ES_find hn3).trans (if_pos rfl)
      ·rw [ev_lookup_some (q:=10) (es:=ES l i n) (i:=n) (v:=DV.int .i64 (chVi l n i)) ?_ ?_ ?_ ?_]
       ·conv=>whnf
        rw [hs]
        rw [ev_mapset_some (q:=10) (es:=ES l i n) (i:=n) (v:=DV.int .i64 (chVi l n i)) (kv:=DV.int .i64 (n)) (vv:=DV.int .i64 (chVi l n (i+1))) ?_ ?_ ?_ ?_ ?_ ?_]
        ·rw [ES_set hi0]
         conv=>whnf
         rw [wrap_succ n (by omega)]
         refine ⟨(n+1,k+1),rfl,?_,rfl,⟨by simp;omega,hp,fun q h1 h2=>by have:=hall q h1 h2;simp;omega⟩,by simp;omega⟩
         dsimp only;rw [e1];rfl
        ·rfl
        ·rfl
        ·rfl
        ·rfl
        ·rfl
        ·exact (ES_find hn3).trans (if_neg hi0)
       ·rfl
       ·rfl
       ·rfl
       ·exact (ES_find hn3).trans (if_neg hi0)
    ·have hg:=of_decide_eq_false hg
     have:p=0:=by omega
     subst this
     have hv:voltC c n=(-c.dr,false):=by
      unfold voltC
      rw [show (lastX c.tb).toNat+1=j by omega,vDown_skip c n j 0 hp hall];rfl
     conv=>whnf
     have b1:=chVi_bd h n i
     have b2:=hc.volt_bd n
     have hs:IntKind.i64.wrap (chVi l n i - c.dr)=chVi l n (i+1):=by
      rw [hv] at b2;simp only at b2
      rw [wrap_W,chVi_succ l n i hi,hcd,hv,W_in (by omega) (by omega)];simp only;omega
     refine ⟨fun hg=>Bool.noConfusion hg,fun _=>?_⟩
     conv=>whnf
     refine ⟨fun hg=>?_,fun hg=>absurd (of_decide_eq_false hg) (by omega)⟩
     conv=>whnf
     by_cases hi0:i=0
     ·subst hi0
      rw [ev_lookup_none (q:=10) (es:=ES l 0 n) ?_ ?_ ?_ ?_]
      ·conv=>whnf
       rw [show IntKind.i64.wrap (0 - c.dr)=chVi l n (0+1) from hs]
       rw [ev_mapset_none (q:=10) (es:=ES l 0 n) (kv:=DV.int .i64 (n)) (vv:=DV.int .i64 (chVi l n (0+1))) ?_ ?_ ?_ ?_ ?_ ?_]
       ·rw [ES_app]
        conv=>whnf
        rw [wrap_succ n (by omega)]
        refine ⟨(n+1,0),rfl,?_,rfl,⟨by simp;omega,Nat.zero_le _,fun q h1 h2=>by have:=hall q h1 h2;simp;omega⟩,by simp;omega⟩
        rfl
       ·rfl
       ·rfl
       ·rfl
       ·rfl
       ·rfl
       ·exact (ES_find hn3).trans (if_pos rfl)
      ·rfl
      ·rfl
      ·rfl
      ·exact (ES_find hn3).trans (if_pos rfl)
     ·rw [ev_lookup_some (q:=10) (es:=ES l i n) (i:=n) (v:=DV.int .i64 (chVi l n i)) ?_ ?_ ?_ ?_]
      ·conv=>whnf
       rw [hs]
       rw [ev_mapset_some (q:=10) (es:=ES l i n) (i:=n) (v:=DV.int .i64 (chVi l n i)) (kv:=DV.int .i64 (n)) (vv:=DV.int .i64 (chVi l n (i+1))) ?_ ?_ ?_ ?_ ?_ ?_]
       ·rw [ES_set hi0]
        conv=>whnf
        rw [wrap_succ n (by omega)]
        refine ⟨(n+1,0),rfl,?_,rfl,⟨by simp;omega,Nat.zero_le _,fun q h1 h2=>by have:=hall q h1 h2;simp;omega⟩,by simp;omega⟩
        rfl
       ·rfl
       ·rfl
       ·rfl
       ·rfl
       ·rfl
       ·exact (ES_find hn3).trans (if_neg hi0)
      ·rfl
      ·rfl
      ·rfl
      ·exact (ES_find hn3).trans (if_neg hi0)
   ·have hn2:=of_decide_eq_false hb
    have:n=201:=by omega
    subst this
    conv=>whnf
    rw [wrap_succ i (by omega)]
    refine ⟨i+1,rfl,rfl,?_,hi,by omega⟩
    show [(10,DObj.dict (ES l i 201))]=_
    rw [ES_next]
 ·have hi:i=l.length:=by have:=of_decide_eq_false hb;rw [e0] at this;omega
  conv=>whnf
  have hne:l≠[]:=by intro e;have:=h.1;rw [e] at this;simp at this
  refine ⟨?_,rfl⟩
  show [(10,DObj.dict (ES l i 0))]=_
  rw [hi,ES_all hne]
end Sh

namespace Sh
open Go Go.Proofs
theorem c_currents (l:List Cel) (h:OkH l) (E:Nat) (hE:E≤1000) (hE1:1≤E):PC 90 [chn l,DV.int .i64 ((E:Int) - 1)] (iL (rng E fun v=>curH l v)):=by
 have hl:=h.2.1
 refine pureCall_ofR dh90 rfl ?_
 conv=>whnf
 refine .inr ⟨[(10,10)],_,_,_,_,c_volts l h,⟨rfl,by kernel_rfl,?_,?_⟩,?_⟩
 ·trivial
 ·exact ⟨.inr rfl,trivial⟩
 conv=>whnf
 rw [show IntKind.i64.wrap ((E:Int) - 1+1)=(E:Int) by rw [wrap_W,W_in (by omega) (by omega)];omega]
 refine ⟨⟨by omega,by omega,by omega,rfl,rfl⟩,?_⟩
 rw [Int.toNat_natCast,outS_zero (fun v=>curH l v)]
 conv=>whnf
 refine ⟨(outS_len _ E 0).symm,?_⟩
 conv=>whnf
 refine dwp_loopR (P:=Tryz.prog) (G:=GC) (k:=dk90_1) (b:=db90_1) (α:=Nat×Nat) (fun s=>[(5,.dict 10),(6,.own 13 0 E E),(7,DV.int .i64 ((s.2:Int) - 1)),(15,DV.int .i64 (E)),(16,DV.int .i64 (s.1))]) (fun s=>[(10,.dict (ents 201 fun k=>chV l k)),(13,.row 1 (outS (fun v=>curH l v) E s.1) false)])
  (fun s=>s.1≤E∧s.2≤201∧∀ k:Nat,s.2≤k→k < 201→chV l k < s.1) (fun s=>E - s.1) (0,201) ⟨rfl,rfl,rfl⟩ ⟨by omega,Nat.le_refl _,fun k h1 h2=>by simp at h1;omega⟩ ?_
 rintro ⟨v,p⟩ ⟨hn,hp,hall⟩
 dsimp only at hn hp hall ⊢
 conv=>whnf
 refine ⟨fun hb=>?_,fun hb=>?_⟩
 ·have hv:=of_decide_eq_true hb
  conv=>whnf
  refine dwp_loopR (P:=Tryz.prog) (G:=GC) (k:=dk90_0) (b:=db90_0) (α:=Nat) (fun p=>[(5,.dict 10),(6,.own 13 0 E E),(7,DV.int .i64 ((p:Int) - 1)),(8,DV.int .i64 (v)),(15,DV.int .i64 (E)),(16,DV.int .i64 (v))]) (fun _=>[(10,.dict (ents 201 fun k=>chV l k)),(13,.row 1 (outS (fun v=>curH l v) E v) false)])
   (fun p=>p≤201∧∀ k:Nat,p≤k→k < 201→chV l k < v) (fun p=>p) p ⟨rfl,rfl,rfl⟩ ⟨hp,hall⟩ ?_
  clear hp hall p
  intro p ⟨hp,hall⟩
  conv=>whnf
  refine ⟨fun hg=>?_,fun hg=>?_⟩
  ·have hg:=of_decide_eq_true hg
   obtain ⟨k,rfl⟩:∃ k,p=k+1:=⟨p - 1,by omega⟩
   have e1:((k+1:Nat):Int) - 1=k:=by omega
   rw [e1]
   conv=>whnf
   rw [ev_lookup_some (q:=10) (es:=ents 201 fun k=>chV l k) (i:=k) (v:=DV.int .i64 (chV l k)) ?_ ?_ ?_ ?_]
   ·conv=>whnf
    refine ⟨fun hg=>?_,fun hg=>?_⟩
    ·have hg:chV l k < v:=of_decide_eq_true hg
     conv=>whnf
     rw [show IntKind.i64.wrap ((k:Int) - 1)=(k:Int) - 1 from W_in (by omega) (by omega)]
     refine ⟨k,rfl,rfl,rfl,⟨by omega,fun q h1 h2=>?_⟩,by omega⟩
     by_cases e:q=k
     ·subst e;exact hg
     ·exact hall q (by omega) h2
    ·have hg:¬ chV l k < v:=of_decide_eq_false hg
     have hc:curH l v=if 0 < (k:Int) then (k:Int) else 0:=by
      have e:hD l v 201=(k:Int):=by rw [hD_skip l v 201 (k+1) hp hall,hD,if_pos (by omega)]
      rw [curH,e]
     conv=>whnf
     refine ⟨⟨(outS_len _ E v).symm,by omega,by omega⟩,?_⟩
     conv=>whnf
     refine ⟨⟨(outS_len _ E v).symm,by decide,rfl⟩,?_⟩
     conv=>whnf
     rw [wrap_succ v (by omega)]
     refine ⟨(v+1,k+1),rfl,?_,?_,⟨by simp;omega,hp,fun q h1 h2=>by have:=hall q h1 h2;simp;omega⟩,by simp;omega⟩
     ·dsimp only;rw [e1];rfl
     ·show [(10,DObj.dict _),(13,DObj.row 1 ((outS (fun v=>curH l v) E v).set (0+v) (DV.int .i64 (if 0 < (k:Int) then (k:Int) else 0))) false)]=_
      rw [← hc,Nat.zero_add,outS_set (fun v=>curH l v)]
   ·rfl
   ·rfl
   ·rfl
   ·exact (dfind_ents _ _ _).trans (if_pos (by omega))
  ·have hg:=of_decide_eq_false hg
   have:p=0:=by omega
   subst this
   have hc:curH l v=0:=by
    have e:hD l v 201 = -1:=by rw [hD_skip l v 201 0 hp hall];rfl
    rw [curH,e];rfl
   conv=>whnf
   refine ⟨fun hg=>Bool.noConfusion hg,fun _=>?_⟩
   conv=>whnf
   refine ⟨⟨(outS_len _ E v).symm,by omega,by omega⟩,?_⟩
   conv=>whnf
   refine ⟨⟨(outS_len _ E v).symm,by decide,rfl⟩,?_⟩
   conv=>whnf
   rw [wrap_succ v (by omega)]
   refine ⟨(v+1,0),rfl,rfl,?_,⟨by simp;omega,hp,fun q h1 h2=>by have:=hall q h1 h2;simp;omega⟩,by simp;omega⟩
   show [(10,DObj.dict _),(13,DObj.row 1 ((outS (fun v=>curH l v) E v).set (0+v) (DV.int .i64 (0))) false)]=_
   rw [← hc,Nat.zero_add,outS_set (fun v=>curH l v)]
 ·have hv:=of_decide_eq_false hb
  have:v=E:=by omega
  subst this
  conv=>whnf
  refine ⟨(outS_len _ v v).symm,?_⟩
  show DV.list (window (outS (fun v=>curH l v) v v) 0 v)=_
  have:=window_full (outS (fun w=>curH l w) v v)
  rw [outS_len] at this
  rw [this,outS_all];rfl
def chainCurrentS (l:List Cel) (v:Int):Int×Int:=if firstE [chkChain l,withE v 0 800]≠0 then (0,firstE [chkChain l,withE v 0 800]) else (curH l v,0)
theorem c_ChainCurrent (l:List Cel) (v:Int) (hl:l.length < 1073741824) (hc:∀ c ∈ l,c.tb.length < 1073741824):PC 30 [chn l,DV.int .i64 (v)] (encE2 (chainCurrentS l v)):=by
 refine pureCall_ofR dh30 rfl ?_
 conv=>whnf
 repeat' (first
  |(refine ⟨fun hg=>?_,fun hg=>?_⟩<;>first|contradiction|(conv=>whnf))
  |(refine Or.inl ?_;conv=>whnf)
  |(refine ⟨_,c_CheckChain _ hl hc,?_⟩;conv=>whnf)
  |(refine ⟨_,c_checkVolt ..,?_⟩;conv=>whnf)
  |(refine ⟨_,c_first [_,_] (by simp),?_⟩;conv=>whnf)
  |(refine And.intro ?_ ?_;kernel_rfl;conv=>whnf))
 ·have hg:=of_decide_eq_true hg
  show DV.tuple [_,_]=_
  rw [chainCurrentS,if_pos hg];rfl
 ·have hg:=of_decide_eq_false hg
  have hz:=two_zero hg
  have hv:=withE_zero hz.2
  obtain ⟨u,rfl⟩:∃ u:Nat,(u:Int)=v:=⟨v.toNat,by omega⟩
  have hcur:=c_currents l (chkChain_zero hz.1) (u+1) (by omega) (by omega)
  rw [show ((u+1:Nat):Int) - 1=u by omega] at hcur
  have hu:u < (rng (u+1) fun v=>curH l v).length:=by rw [rng_len];omega
  repeat' (first
   |(refine ⟨fun hg=>?_,fun hg=>?_⟩<;>first|contradiction|(conv=>whnf))
   |(refine Or.inl ?_;conv=>whnf)
   |(refine ⟨_,hcur ..,?_⟩;conv=>whnf)
   |(refine And.intro ?_ ?_;kernel_rfl;conv=>whnf))
  rw [getD_enc _ _ (u) 0 hu]
  refine ⟨idxA hu rfl,?_⟩
  conv=>whnf
  repeat' (first
   |(refine ⟨fun hg=>?_,fun hg=>?_⟩<;>first|contradiction|(conv=>whnf))
   |(refine Or.inl ?_;conv=>whnf)
   |(refine And.intro ?_ ?_;kernel_rfl;conv=>whnf))
  show DV.tuple [_,_]=_
  rw [chainCurrentS,if_neg hg,rng_getD _ _ (by omega:u < u+1)];rfl
end Sh

namespace Sh
open Go Go.Proofs
end Sh

namespace Sh
open Go Go.Proofs
def bypD (l:List Cel) (n:Int) (i:Nat):List DV:=(byp l n i).map (DV.int .i64)
theorem bypD_len (l:List Cel) (n:Int) (i:Nat):(bypD l n i).length≤i:=by unfold bypD;rw [List.length_map];exact byp_len l n i
theorem bypD_false {l:List Cel} {n:Int} {i:Nat} (h:(voltC (l.getD i C0) n).2=false):bypD l n (i+1)=bypD l n i++[DV.int .i64 (i)]:=by
 unfold bypD;rw [byp_succ,h,List.map_append];rfl
theorem bypD_true {l:List Cel} {n:Int} {i:Nat} (h:(voltC (l.getD i C0) n).2=true):bypD l n (i+1)=bypD l n i:=by
 unfold bypD;rw [byp_succ,h];simp
def encL2 (p:List Int×Int):DV:=.tuple [iL p.1,DV.int .i64 (p.2)]
def bypS (l:List Cel) (n:Int):List Int×Int:=if firstE [chkChain l,withE n 0 200]≠0 then ([],firstE [chkChain l,withE n 0 200]) else (byp l n l.length,0)
theorem c_Bypassed (l:List Cel) (n:Int) (hl:l.length < 1073741824) (hcs:∀ c ∈ l,c.tb.length < 1073741824):PC 31 [chn l,DV.int .i64 (n)] (encL2 (bypS l n)):=by
 have e0:((l.map encC).length:Int)=l.length:=by simp
 refine pureCall_ofR dh31 rfl ?_
 conv=>whnf
 repeat' (first
  |(refine ⟨fun hg=>?_,fun hg=>?_⟩<;>first|contradiction|(conv=>whnf))
  |(refine Or.inl ?_;conv=>whnf)
  |(refine ⟨_,c_CheckChain _ hl hcs,?_⟩;conv=>whnf)
  |(refine ⟨_,c_checkAmp ..,?_⟩;conv=>whnf)
  |(refine ⟨_,c_first [_,_] (by simp),?_⟩;conv=>whnf)
  |(refine And.intro ?_ ?_;kernel_rfl;conv=>whnf))
 ·have hg:=of_decide_eq_true hg
  show DV.tuple [_,_]=_
  rw [bypS,if_pos hg];rfl
 ·have hg:=of_decide_eq_false hg
  have hz:=two_zero hg
  have h:=chkChain_zero hz.1
  refine dwp_loopR (P:=Tryz.prog) (G:=GC) (k:=dk31_0) (b:=db31_0) (α:=Nat) (fun i=>[(1,DV.int .i64 (n)),(7,.own 7 0 (bypD l n i).length (bypD l n i).length),(21,chn l),(22,.int .i64 (l.map encC).length),(23,DV.int .i64 (i))]) (fun i=>[(7,.row 1 (bypD l n i) false)]) (fun i=>i≤l.length) (fun i=>l.length - i) 0 ⟨rfl,rfl,rfl⟩ (Nat.zero_le _) ?_
  intro i h1
  conv=>whnf
  refine ⟨fun hb=>?_,fun hb=>?_⟩
  ·have hi:i < l.length:=by simpa using hb
   have hc:=h.2.2 _ (getD_in C0 hi)
   have hbl:=bypD_len l n i
   conv=>whnf
   rw [getD_enc _ _ (i) C0 hi]
   refine ⟨idxA hi rfl,?_⟩
   conv=>whnf
   repeat' (first
    |(refine ⟨fun hg=>?_,fun hg=>?_⟩<;>first|contradiction|(conv=>whnf))
    |(refine Or.inl ?_;conv=>whnf)
    |(refine ⟨_,c_Cell_volt _ _ hc,?_⟩;conv=>whnf)
    |(refine And.intro ?_ ?_;kernel_rfl;conv=>whnf))
   ·have hg:(voltC (l.getD i C0) n).2=false:=by simpa using hg
    refine ⟨⟨rfl,rfl,rfl,by simp;omega,fun e he=>by simp at he;subst he;rfl⟩,?_⟩
    conv=>whnf
    rw [wrap_succ i (by omega)]
    refine ⟨i+1,rfl,?_,?_,hi,by omega⟩
    ·rw [bypD_false hg];rfl
    ·rw [bypD_false hg];rfl
   ·have hg:(voltC (l.getD i C0) n).2=true:=by simpa using hg
    rw [wrap_succ i (by omega)]
    refine ⟨i+1,rfl,?_,?_,hi,by omega⟩
    ·rw [bypD_true hg];rfl
    ·rw [bypD_true hg];rfl
  ·have hi:i=l.length:=by have:=of_decide_eq_false hb;rw [e0] at this;omega
   conv=>whnf
   refine ⟨rfl,?_⟩
   rw [window_full,hi]
   show DV.tuple [_,_]=_
   rw [bypS,if_neg hg];rfl
theorem q_SameInts (a b:List Int) (hl:a.length < 4611686018427387904):PC 76 [iL a,iL b] (.bool (decide (a=b))):=by
 have e0:((a.map (DV.int .i64)).length:Int)=a.length:=by simp
 have e1:((b.map (DV.int .i64)).length:Int)=b.length:=by simp
 refine pureCall_ofR dh76 rfl ?_
 conv=>whnf
 repeat' (first
  |(refine ⟨fun hg=>?_,fun hg=>?_⟩<;>first|contradiction|(conv=>whnf))
  |(refine Or.inl ?_;conv=>whnf)
  |(refine And.intro ?_ ?_;kernel_rfl;conv=>whnf))
 ·have hg:=of_decide_eq_true hg
  rw [e0,e1] at hg
  exact bool_eq (by symm;rw [decide_eq_false_iff_not];intro e;rw [e] at hg;exact hg rfl)
 ·have hg:=of_decide_eq_false hg
  rw [e0,e1] at hg
  have hab:a.length=b.length:=by omega
  refine dwp_loopR (P:=Tryz.prog) (G:=GC) (k:=dk76_0) (b:=db76_0) (α:=Nat) (fun i=>[(0,iL a),(1,iL b),(5,DV.int .i64 (i))]) (fun _=>[]) (fun i=>i≤a.length∧a.take i=b.take i) (fun i=>a.length - i) 0 ⟨rfl,rfl,rfl⟩ ⟨Nat.zero_le _,rfl⟩ ?_
  intro i ⟨h1,h2⟩
  conv=>whnf
  refine ⟨fun hb=>?_,fun hb=>?_⟩
  ·have hi:i < a.length:=by simpa using hb
   conv=>whnf
   rw [getD_enc _ _ (i) 0 hi]
   refine ⟨idxA hi rfl,?_⟩
   conv=>whnf
   rw [getD_enc _ _ (i) 0 (by omega:i < b.length)]
   refine ⟨idxA (by omega:i < b.length) rfl,?_⟩
   conv=>whnf
   repeat' (first
    |(refine ⟨fun hg=>?_,fun hg=>?_⟩<;>first|contradiction|(conv=>whnf))
    |(refine Or.inl ?_;conv=>whnf)
    |(refine And.intro ?_ ?_;kernel_rfl;conv=>whnf))
   ·have hg:=of_decide_eq_true hg
    exact bool_eq (by symm;rw [decide_eq_false_iff_not];intro e;rw [e] at hg;exact hg rfl)
   ·have hg:=Classical.not_not.1 (of_decide_eq_false hg)
    rw [wrap_succ i (by omega)]
    exact ⟨i+1,rfl,rfl,rfl,⟨hi,by rw [take_snoc a i 0 hi,take_snoc b i 0 (by omega),h2,hg]⟩,by omega⟩
  ·have hi:i=a.length:=by have:=of_decide_eq_false hb;rw [e0] at this;omega
   conv=>whnf
   refine bool_eq ?_
   symm
   rw [decide_eq_true_eq]
   rw [hi,List.take_length,hab,List.take_length] at h2
   exact h2
end Sh

namespace Sh
open Go
def mx (a b:Int):Int:=if a < b then b else a
theorem mx_ge (a b:Int):a≤mx a b∧b≤mx a b:=by unfold mx;split<;>omega
def mxL (l:List Int):Int:=l.foldl mx 0
theorem mxL_succ (l:List Int) (i:Nat) (h:i < l.length):mxL (l.take (i+1))=mx (mxL (l.take i)) (l.getD i 0):=by
 unfold mxL;rw [take_snoc l i 0 h,List.foldl_append];rfl
theorem mxL_bd {l:List Int} {B:Int} (hB:0≤B) (h:∀ x ∈ l,x≤B):0≤mxL l∧mxL l≤B:=by
 have key:∀ (l:List Int) (a:Int),0≤a→a≤B→(∀ x ∈ l,x≤B)→0≤l.foldl mx a∧l.foldl mx a≤B:=by
  intro l
  induction l with
  |nil=>intro a h1 h2 _;exact ⟨h1,h2⟩
  |cons x r ih =>
   intro a h1 h2 h3
   have h4:=h3 x (List.mem_cons_self ..)
   have:=mx_ge a x
   refine ih (mx a x) (by omega) (by unfold mx;split<;>omega) (fun y hy=>h3 y (List.mem_cons_of_mem _ hy))
 exact key l 0 (Int.le_refl _) hB h
def endF (f:List (List Cel)):Int:=mxL (f.map fun l=>chV l 0)
theorem OkC.volt0 {c:Cel} (h:OkC c):voltC c 0=(lastX c.tb,true):=by
 have h1:=h.1.last_bd
 have h2:=h.cur_bd (v:=((lastX c.tb).toNat:Int)) (by omega)
 unfold voltC vDown
 rw [if_pos h2.1]
 congr 1;omega
theorem chV0_pos {l:List Cel} (h:OkH l):0≤chV l 0:=by
 have:=sumI_bd (l:=l.map fun c=>(voltC c 0).1) (A:=0) (B:=100) (fun x hx=>by
  obtain ⟨c,hc,rfl⟩:=List.mem_map.1 hx
  have hk:=h.2.2 c hc
  rw [hk.volt0]
  have:=hk.1.last_bd
  exact ⟨by simp only;omega,by simp only;omega⟩)
 unfold chV
 omega
theorem endF_bd {f:List (List Cel)} (h:OkF f):0≤endF f∧endF f≤800:=by
 refine mxL_bd (by decide) (fun x hx=>?_)
 obtain ⟨l,hl,rfl⟩:=List.mem_map.1 hx
 exact (chV_bd (h.2.2 l hl) 0).2
def curF (f:List (List Cel)) (v:Int):Int:=sumI (f.map fun l=>curH l v)
def curFi (f:List (List Cel)) (v:Int) (i:Nat):Int:=sumI ((f.take i).map fun l=>curH l v)
theorem curFi_succ (f:List (List Cel)) (v:Int) (i:Nat) (h:i < f.length):curFi f v (i+1)=curFi f v i+curH (f.getD i []) v:=by
 unfold curFi;rw [take_map_succ _ f i [] h,sumI_append,sumI_one]
theorem curFi_all (f:List (List Cel)) (v:Int):curFi f v f.length=curF f v:=by unfold curFi curF;rw [List.take_length]
theorem curFi_bd (f:List (List Cel)) (hf:f.length≤6) (v:Int) (i:Nat):0≤curFi f v i∧curFi f v i≤1200:=by
 have h1:=sumI_bd (l:=(f.take i).map fun l=>curH l v) (A:=0) (B:=200) (fun x hx=>by
  obtain ⟨l,_,rfl⟩:=List.mem_map.1 hx
  exact curH_bd l v)
 have h2:((f.take i).map fun l=>curH l v).length≤6:=by simp;omega
 unfold curFi
 omega
theorem curF_bd (f:List (List Cel)) (hf:f.length≤6) (v:Int):0≤curF f v∧curF f v≤1200:=by rw [← curFi_all];exact curFi_bd f hf v _
def fsS (f:List (List Cel)) (E i n:Nat):List DV:=rng E (fun k=>DV.int .i64 (curFi f k (if k < n then i+1 else i)))
theorem fsS_len (f:List (List Cel)) (E i n:Nat):(fsS f E i n).length=E:=rng_len _ _
theorem fsS_get {f:List (List Cel)} {E i n:Nat} (h:n < E):(fsS f E i n).getD n .undef=DV.int .i64 (curFi f n i):=by
 unfold fsS;rw [rng_getD _ _ h,if_neg (by omega)]
theorem fsS_set (f:List (List Cel)) (E i n:Nat):(fsS f E i n).set n (DV.int .i64 (curFi f n (i+1)))=fsS f E i (n+1):=by
 unfold fsS
 rw [rng_set]
 refine rng_congr (fun k hk=>?_)
 (try dsimp only)
 by_cases e:k=n
 ·subst e;simp
 ·rw [if_neg e]
  by_cases e2:k < n
  ·rw [if_pos e2,if_pos (by omega)]
  ·rw [if_neg e2,if_neg (by omega)]
theorem fsS_next (f:List (List Cel)) (E i:Nat):fsS f E i E=fsS f E (i+1) 0:=by
 unfold fsS
 exact rng_congr (fun k hk=>by (try dsimp only);rw [if_pos hk,if_neg (by omega)])
theorem fsS_zero (f:List (List Cel)) (E:Nat):List.replicate E (DV.int .i64 0)=fsS f E 0 0:=by
 rw [rng_const];unfold fsS
 exact rng_congr (fun k hk=>by (try dsimp only);rw [if_neg (by omega)];rfl)
theorem fsS_all (f:List (List Cel)) (E:Nat):fsS f E f.length 0=(rng E fun k=>curF f k).map (DV.int .i64):=by
 rw [rng_map];unfold fsS
 exact rng_congr (fun k hk=>by (try dsimp only);rw [if_neg (by omega),curFi_all])
end Sh

namespace Sh
open Go Go.Proofs
theorem c_mappedF (l:List (List Cel)) (f:FuncId) (g:List Cel→Int) (hl:l.length < 1073741824) (hf:∀ c ∈ l,PC f [chn c] (DV.int .i64 (g c))):PC 98 [fld l,.func f []] (iL (l.map g)):=by
 refine pureCall_ofR dh98 rfl ?_
 conv=>whnf
 refine dwp_loopR (P:=Tryz.prog) (G:=GC) (k:=dk98_0) (b:=db98_0) (α:=Nat) (fun i=>[(1,.func f []),(5,.own 5 0 (oI g l i).length (oI g l i).length),(8,fld l),(9,.int .i64 (l.map chn).length),(10,DV.int .i64 (i))]) (fun i=>[(5,.row 1 (oI g l i) false)]) (fun i=>i≤l.length) (fun i=>l.length - i) 0 ⟨rfl,rfl,rfl⟩ (Nat.zero_le _) ?_
 intro i h1
 conv=>whnf
 refine ⟨fun hb=>?_,fun hb=>?_⟩
 ·have hi:i < l.length:=by simpa using hb
  conv=>whnf
  rw [getD_enc _ _ (i) [] hi]
  refine ⟨idxA hi rfl,?_⟩
  conv=>whnf
  refine .inl ?_
  conv=>whnf
  refine ⟨_,hf _ (getD_in [] hi),?_⟩
  conv=>whnf
  refine ⟨⟨rfl,rfl,rfl,by rw [oI_len g l i h1];simp;omega,fun e he=>by simp at he;subst he;rfl⟩,?_⟩
  conv=>whnf
  rw [wrap_succ i (by omega)]
  refine ⟨i+1,rfl,?_,?_,hi,by omega⟩
  ·rw [oI_succ g l i [] hi];rfl
  ·rw [oI_succ g l i [] hi];rfl
 ·have hi:i=l.length:=by have:=of_decide_eq_false hb;simp at this;omega
  conv=>whnf
  exact ⟨rfl,by rw [window_full,hi,oI_all];rfl⟩
theorem c_mappedFi (l:List (List Cel)) (f:FuncId) (g:List Cel→Int) (hl:l.length < 1073741824) (hf:∀ c ∈ l,PC f [chn c] (DV.int .i64 (g c))):PC 120 [fld l,.func f []] (iL (l.map g)):=by
 refine pureCall_ofR dh120 rfl ?_
 conv=>whnf
 refine dwp_loopR (P:=Tryz.prog) (G:=GC) (k:=dk120_0) (b:=db120_0) (α:=Nat) (fun i=>[(1,.func f []),(5,.own 5 0 (oI g l i).length (oI g l i).length),(8,fld l),(9,.int .i64 (l.map chn).length),(10,DV.int .i64 (i))]) (fun i=>[(5,.row 1 (oI g l i) false)]) (fun i=>i≤l.length) (fun i=>l.length - i) 0 ⟨rfl,rfl,rfl⟩ (Nat.zero_le _) ?_
 intro i h1
 conv=>whnf
 refine ⟨fun hb=>?_,fun hb=>?_⟩
 ·have hi:i < l.length:=by simpa using hb
  conv=>whnf
  rw [getD_enc _ _ (i) [] hi]
  refine ⟨idxA hi rfl,?_⟩
  conv=>whnf
  refine .inl ?_
  conv=>whnf
  refine ⟨_,hf _ (getD_in [] hi),?_⟩
  conv=>whnf
  refine ⟨⟨rfl,rfl,rfl,by rw [oI_len g l i h1];simp;omega,fun e he=>by simp at he;subst he;rfl⟩,?_⟩
  conv=>whnf
  rw [wrap_succ i (by omega)]
  refine ⟨i+1,rfl,?_,?_,hi,by omega⟩
  ·rw [oI_succ g l i [] hi];rfl
  ·rw [oI_succ g l i [] hi];rfl
 ·have hi:i=l.length:=by have:=of_decide_eq_false hb;simp at this;omega
  conv=>whnf
  exact ⟨rfl,by rw [window_full,hi,oI_all];rfl⟩
theorem c_CheckField (f:List (List Cel)) (hl:f.length < 1073741824) (hc:∀ l ∈ f,l.length < 1073741824∧∀ c ∈ l,c.tb.length < 1073741824):PC 50 [fld f] (DV.int .i64 (chkField f)):=by
 have e0:((f.map chn).length:Int)=f.length:=by simp
 refine pureCall_ofR dh50 rfl ?_
 conv=>whnf
 repeat' (first
  |(refine ⟨fun hg=>?_,fun hg=>?_⟩<;>first|contradiction|(conv=>whnf))
  |(refine Or.inl ?_;conv=>whnf)
  |(refine ⟨_,c_counted ..,?_⟩;conv=>whnf)
  |(refine And.intro ?_ ?_;kernel_rfl;conv=>whnf))
 ·have hg:=of_decide_eq_true hg
  exact int_eq (by rw [e0] at hg ⊢;unfold chkField;rw [if_pos hg])
 ·have hg:=of_decide_eq_false hg
  repeat' (first
   |(refine ⟨fun hg=>?_,fun hg=>?_⟩<;>first|contradiction|(conv=>whnf))
   |(refine Or.inl ?_;conv=>whnf)
   |(refine ⟨_,c_mappedF f 36 chkChain hl (fun l h=>c_CheckChain l (hc l h).1 (hc l h).2),?_⟩;conv=>whnf)
   |(refine ⟨_,c_first _ (by simp;omega),?_⟩;conv=>whnf)
   |(refine And.intro ?_ ?_;kernel_rfl;conv=>whnf))
  exact int_eq (by rw [e0] at hg;unfold chkField;rw [if_neg hg])
theorem slices_Max (l:List Int) (h0:l≠[]) (hp:0≤l.getD 0 0) (hl:l.length < 1073741824):PC 119 [iL l] (DV.int .i64 (mxL l)):=by
 have e0:((l.map (DV.int .i64)).length:Int)=l.length:=by simp
 have hlen:0 < l.length:=List.length_pos_iff.2 h0
 refine pureCall_ofR dh119 rfl ?_
 conv=>whnf
 refine ⟨fun hg=>?_,fun hg=>?_⟩
 ·exact absurd (of_decide_eq_true hg) (by omega)
 ·clear hg
  conv=>whnf
  rw [getD_enc' _ _ (0) 0 (by decide) (by omega:(0:Int) < l.length)]
  refine ⟨idxB (by decide) (by omega:(0:Int) < l.length) rfl,?_⟩
  conv=>whnf
  refine dwp_loopR (P:=Tryz.prog) (G:=GC) (k:=dk119_0) (b:=db119_0) (α:=Nat) (fun i=>[(0,iL l),(3,DV.int .i64 (mxL (l.take (i+1)))),(4,.int .i64 ((i+1:Nat):Int))]) (fun _=>[]) (fun i=>i+1≤l.length) (fun i=>l.length - i) 0 ⟨rfl,?_,rfl⟩ hlen ?_
  ·have e:mxL (l.take (0+1))=l.getD (Int.toNat 0) 0:=by rw [mxL_succ l 0 hlen];show mx 0 (l.getD 0 0)=l.getD 0 0;unfold mx;split<;>omega
   rw [e];rfl
  intro i h1
  conv=>whnf
  refine ⟨fun hb=>?_,fun hb=>?_⟩
  ·have hi:i+1 < l.length:=by have:=of_decide_eq_true hb;rw [e0] at this;omega
   conv=>whnf
   rw [getD_enc _ _ (i+1) 0 hi]
   refine ⟨idxA hi rfl,?_⟩
   conv=>whnf
   rw [wrap_succ (i+1) (by omega)]
   refine ⟨i+1,rfl,?_,rfl,by omega,by omega⟩
   rw [mxL_succ l (i+1) hi];rfl
  ·have hi:i+1=l.length:=by have:=of_decide_eq_false hb;rw [e0] at this;omega
   conv=>whnf
   exact int_eq (by rw [hi,List.take_length])
theorem c_end1 (l:List Cel) (h:OkH l):PC 121 [chn l] (DV.int .i64 (chV l 0)):=by
 refine pureCall_ofR dh121 rfl ?_
 conv=>whnf
 repeat' (first
  |(refine ⟨fun hg=>?_,fun hg=>?_⟩<;>first|contradiction|(conv=>whnf))
  |(refine Or.inl ?_;conv=>whnf)
  |(refine ⟨_,c_chainVolt _ _ h,?_⟩;conv=>whnf)
  |(refine And.intro ?_ ?_;kernel_rfl;conv=>whnf))
 rfl
theorem c_end (f:List (List Cel)) (h:OkF f):PC 95 [fld f] (DV.int .i64 (endF f)):=by
 have hl:=h.1
 have hl2:=h.2.1
 have hne:f≠[]:=by intro e;rw [e] at hl;simp at hl
 refine pureCall_ofR dh95 rfl ?_
 conv=>whnf
 repeat' (first
  |(refine ⟨fun hg=>?_,fun hg=>?_⟩<;>first|contradiction|(conv=>whnf))
  |(refine Or.inl ?_;conv=>whnf)
  |(refine ⟨_,c_mappedFi f 121 (fun l=>chV l 0) (by omega) (fun l hm=>c_end1 l (h.2.2 l hm)),?_⟩;conv=>whnf)
  |(refine And.intro ?_ ?_;kernel_rfl;conv=>whnf))
 have h0:0≤(f.map fun l=>chV l 0).getD 0 0:=by
  have e:(f.map fun l=>chV l 0).getD 0 0=chV (f.getD 0 []) 0:=by simp [List.getD_eq_getElem?_getD,(by omega:0 < f.length)]
  rw [e];exact chV0_pos (h.2.2 _ (getD_in [] (by omega)))
 repeat' (first
  |(refine ⟨fun hg=>?_,fun hg=>?_⟩<;>first|contradiction|(conv=>whnf))
  |(refine Or.inl ?_;conv=>whnf)
  |(refine ⟨_,slices_Max (f.map fun l=>chV l 0) (by simpa using hne) h0 (by simp;omega),?_⟩;conv=>whnf)
  |(refine And.intro ?_ ?_;kernel_rfl;conv=>whnf))
 rfl
end Sh

namespace Sh
open Go Go.Proofs
theorem c_curve (f:List (List Cel)) (h:OkF f) (E:Nat) (hE:E≤1000) (hE1:1≤E):PC 96 [fld f,DV.int .i64 ((E:Int) - 1)] (iL (rng E fun v=>curF f v)):=by
 have e0:((f.map chn).length:Int)=f.length:=by simp
 have hl:=h.2.1
 refine pureCall_ofR dh96 rfl ?_
 conv=>whnf
 rw [show IntKind.i64.wrap ((E:Int) - 1+1)=(E:Int) by rw [wrap_W,W_in (by omega) (by omega)];omega]
 refine ⟨⟨by omega,by omega,by omega,rfl,rfl⟩,?_⟩
 rw [Int.toNat_natCast,fsS_zero f]
 conv=>whnf
 refine dwp_loopR (P:=Tryz.prog) (G:=GC) (k:=dk96_1) (b:=db96_1) (α:=Nat) (fun i=>[(1,DV.int .i64 ((E:Int) - 1)),(5,.own 12 0 E E),(13,fld f),(14,.int .i64 (f.map chn).length),(15,DV.int .i64 (i))]) (fun i=>[(12,.row 1 (fsS f E i 0) false)]) (fun i=>i≤f.length) (fun i=>f.length - i) 0 ⟨rfl,rfl,rfl⟩ (Nat.zero_le _) ?_
 intro i h1
 conv=>whnf
 refine ⟨fun hb=>?_,fun hb=>?_⟩
 ·have hi:i < f.length:=by simpa using hb
  have hc:=h.2.2 _ (getD_in [] hi)
  conv=>whnf
  rw [getD_enc _ _ (i) [] hi]
  refine ⟨idxA hi rfl,?_⟩
  conv=>whnf
  repeat' (first
   |(refine ⟨fun hg=>?_,fun hg=>?_⟩<;>first|contradiction|(conv=>whnf))
   |(refine Or.inl ?_;conv=>whnf)
   |(refine ⟨_,c_currents _ hc E hE hE1,?_⟩;conv=>whnf)
   |(refine And.intro ?_ ?_;kernel_rfl;conv=>whnf))
  have hcl:(rng E fun v=>curH (f.getD i []) v).length=E:=rng_len _ _
  have hcl2:(((rng E fun v=>curH (f.getD i []) v).map (DV.int .i64)).length:Int)=(E:Int):=by rw [List.length_map,hcl]
  refine dwp_loopR (P:=Tryz.prog) (G:=GC) (k:=dk96_0) (b:=db96_0) (α:=Nat) (fun v=>[(1,DV.int .i64 ((E:Int) - 1)),(5,.own 12 0 E E),(13,fld f),(14,.int .i64 (f.map chn).length),(15,DV.int .i64 (i)),(21,iL (rng E fun v=>curH (f.getD i []) v)),(22,.int .i64 ((rng E fun v=>curH (f.getD i []) v).map (DV.int .i64)).length),(23,DV.int .i64 (v))]) (fun v=>[(12,.row 1 (fsS f E i v) false)]) (fun v=>v≤E) (fun v=>E - v) 0 ⟨rfl,rfl,rfl⟩ (Nat.zero_le _) ?_
  intro v hv
  conv=>whnf
  refine ⟨fun hb=>?_,fun hb=>?_⟩
  ·have hv2:v < E:=by have:=of_decide_eq_true hb;rw [hcl2] at this;omega
   have b1:=curFi_bd f hl v i
   have b2:=curH_bd (f.getD i []) v
   have hs:IntKind.i64.wrap (curFi f v i+curH (f.getD i []) v)=curFi f v (i+1):=by rw [wrap_W,W_in (by omega) (by omega),curFi_succ f v i hi]
   conv=>whnf
   rw [getD_enc _ _ (v) 0 (by omega:v < (rng E fun v=>curH (f.getD i []) v).length)]
   refine ⟨idxA (by omega:v < (rng E fun v=>curH (f.getD i []) v).length) rfl,?_⟩
   conv=>whnf
   rw [rng_getD _ _ hv2]
   refine ⟨⟨(fsS_len _ _ _ _).symm,by omega,by omega⟩,?_⟩
   conv=>whnf
   rw [Int.toNat_natCast,Nat.zero_add,fsS_get hv2]
   refine ⟨⟨(fsS_len _ _ _ _).symm,by decide⟩,?_⟩
   conv=>whnf
   rw [hs]
   refine ⟨⟨(fsS_len _ _ _ _).symm,by omega,by omega⟩,?_⟩
   conv=>whnf
   refine ⟨⟨(fsS_len _ _ _ _).symm,by decide,rfl⟩,?_⟩
   conv=>whnf
   rw [wrap_succ v (by omega)]
   refine ⟨v+1,rfl,rfl,?_,by omega,by omega⟩
   show [(12,DObj.row 1 ((fsS f E i v).set (0+v) (DV.int .i64 (curFi f v (i+1)))) false)]=_
   rw [Nat.zero_add,fsS_set]
  ·have hv2:v=E:=by have:=of_decide_eq_false hb;rw [hcl2] at this;omega
   subst hv2
   conv=>whnf
   rw [wrap_succ i (by omega)]
   refine ⟨i+1,rfl,rfl,?_,hi,by omega⟩
   show [(12,DObj.row 1 (fsS f v i v) false)]=_
   rw [fsS_next]
 ·have hi:i=f.length:=by have:=of_decide_eq_false hb;rw [e0] at this;omega
  conv=>whnf
  refine ⟨(fsS_len _ _ _ _).symm,?_⟩
  show DV.list (window (fsS f E i 0) 0 E)=_
  have:=window_full (fsS f E i 0)
  rw [fsS_len] at this
  rw [this,hi,fsS_all];rfl
end Sh

namespace Sh
open Go Go.Proofs
def LenF (f:List (List Cel)):Prop:=f.length < 1073741824∧∀ l ∈ f,l.length < 1073741824∧∀ c ∈ l,c.tb.length < 1073741824
def endS (f:List (List Cel)):Int×Int:=if chkField f≠0 then (0,chkField f) else (endF f,0)
def fcurS (f:List (List Cel)) (v:Int):Int×Int:=if firstE [chkField f,withE v 0 800]≠0 then (0,firstE [chkField f,withE v 0 800]) else (curF f v,0)
def powS (f:List (List Cel)) (v:Int):Int×Int:=if firstE [chkField f,withE v 0 800]≠0 then (0,firstE [chkField f,withE v 0 800]) else (v * curF f v,0)
def crv (f:List (List Cel)):List Int:=rng ((endF f).toNat+1) fun v=>curF f v
def curveS (f:List (List Cel)):List Int×Int:=if chkField f≠0 then ([],chkField f) else (crv f,0)
theorem c_End (f:List (List Cel)) (hl:LenF f):PC 39 [fld f] (encE2 (endS f)):=by
 refine pureCall_ofR dh39 rfl ?_
 conv=>whnf
 repeat' (first
  |(refine ⟨fun hg=>?_,fun hg=>?_⟩<;>first|contradiction|(conv=>whnf))
  |(refine Or.inl ?_;conv=>whnf)
  |(refine ⟨_,c_CheckField _ hl.1 hl.2,?_⟩;conv=>whnf)
  |(refine And.intro ?_ ?_;kernel_rfl;conv=>whnf))
 ·have hg:=of_decide_eq_true hg
  show DV.tuple [_,_]=_
  rw [endS,if_pos hg];rfl
 ·have hg:=of_decide_eq_false hg
  repeat' (first
   |(refine ⟨fun hg=>?_,fun hg=>?_⟩<;>first|contradiction|(conv=>whnf))
   |(refine Or.inl ?_;conv=>whnf)
   |(refine ⟨_,c_end _ (chkField_zero (Classical.not_not.1 hg)),?_⟩;conv=>whnf)
   |(refine And.intro ?_ ?_;kernel_rfl;conv=>whnf))
  show DV.tuple [_,_]=_
  rw [endS,if_neg hg];rfl
theorem c_FieldCurrent (f:List (List Cel)) (v:Int) (hl:LenF f):PC 41 [fld f,DV.int .i64 (v)] (encE2 (fcurS f v)):=by
 refine pureCall_ofR dh41 rfl ?_
 conv=>whnf
 repeat' (first
  |(refine ⟨fun hg=>?_,fun hg=>?_⟩<;>first|contradiction|(conv=>whnf))
  |(refine Or.inl ?_;conv=>whnf)
  |(refine ⟨_,c_CheckField _ hl.1 hl.2,?_⟩;conv=>whnf)
  |(refine ⟨_,c_checkVolt ..,?_⟩;conv=>whnf)
  |(refine ⟨_,c_first [_,_] (by simp),?_⟩;conv=>whnf)
  |(refine And.intro ?_ ?_;kernel_rfl;conv=>whnf))
 ·have hg:=of_decide_eq_true hg
  show DV.tuple [_,_]=_
  rw [fcurS,if_pos hg];rfl
 ·have hg:=of_decide_eq_false hg
  have hz:=two_zero hg
  have hv:=withE_zero hz.2
  obtain ⟨u,rfl⟩:∃ u:Nat,(u:Int)=v:=⟨v.toNat,by omega⟩
  have hcur:=c_curve f (chkField_zero hz.1) (u+1) (by omega) (by omega)
  rw [show ((u+1:Nat):Int) - 1=u by omega] at hcur
  have hu:u < (rng (u+1) fun v=>curF f v).length:=by rw [rng_len];omega
  repeat' (first
   |(refine ⟨fun hg=>?_,fun hg=>?_⟩<;>first|contradiction|(conv=>whnf))
   |(refine Or.inl ?_;conv=>whnf)
   |(refine ⟨_,hcur ..,?_⟩;conv=>whnf)
   |(refine And.intro ?_ ?_;kernel_rfl;conv=>whnf))
  rw [getD_enc _ _ (u) 0 hu]
  refine ⟨idxA hu rfl,?_⟩
  conv=>whnf
  repeat' (first
   |(refine ⟨fun hg=>?_,fun hg=>?_⟩<;>first|contradiction|(conv=>whnf))
   |(refine Or.inl ?_;conv=>whnf)
   |(refine And.intro ?_ ?_;kernel_rfl;conv=>whnf))
  show DV.tuple [_,_]=_
  rw [fcurS,if_neg hg,rng_getD _ _ (by omega:u < u+1)];rfl
theorem fcurS_e (f:List (List Cel)) (v:Int):(fcurS f v).2=firstE [chkField f,withE v 0 800]:=by
 unfold fcurS
 split
 ·rfl
 ·rename_i h;exact (Classical.not_not.1 h).symm
theorem c_Power (f:List (List Cel)) (v:Int) (hl:LenF f):PC 42 [fld f,DV.int .i64 (v)] (encE2 (powS f v)):=by
 refine pureCall_ofR dh42 rfl ?_
 conv=>whnf
 repeat' (first
  |(refine ⟨fun hg=>?_,fun hg=>?_⟩<;>first|contradiction|(conv=>whnf))
  |(refine Or.inl ?_;conv=>whnf)
  |(refine ⟨_,c_FieldCurrent _ _ hl,?_⟩;conv=>whnf)
  |(refine And.intro ?_ ?_;kernel_rfl;conv=>whnf))
 ·have hg:=of_decide_eq_true hg
  rw [fcurS_e] at hg ⊢
  show DV.tuple [_,_]=_
  rw [powS,if_pos hg];rfl
 ·have hg:=of_decide_eq_false hg
  rw [fcurS_e] at hg
  have hz:=two_zero hg
  have hv:=withE_zero hz.2
  have hb:=curF_bd f (chkField_zero hz.1).2.1 v
  have hm:=mul_bd (a:=v) (b:=curF f v) (A:=800) (B:=1200) (by omega) (by omega) (by omega) (by omega)
  show DV.tuple [DV.int .i64 (IntKind.i64.wrap (v * (fcurS f v).1)),_]=_
  have e:(fcurS f v).1=curF f v:=by unfold fcurS;rw [if_neg hg]
  rw [e,powS,if_neg hg,wrap_W,W_in (by omega) (by omega)];rfl
theorem c_Curve (f:List (List Cel)) (hl:LenF f):PC 43 [fld f] (encL2 (curveS f)):=by
 refine pureCall_ofR dh43 rfl ?_
 conv=>whnf
 repeat' (first
  |(refine ⟨fun hg=>?_,fun hg=>?_⟩<;>first|contradiction|(conv=>whnf))
  |(refine Or.inl ?_;conv=>whnf)
  |(refine ⟨_,c_CheckField _ hl.1 hl.2,?_⟩;conv=>whnf)
  |(refine And.intro ?_ ?_;kernel_rfl;conv=>whnf))
 ·have hg:=of_decide_eq_true hg
  show DV.tuple [_,_]=_
  rw [curveS,if_pos hg];rfl
 ·have hg:=of_decide_eq_false hg
  have hok:=chkField_zero (Classical.not_not.1 hg)
  have hb:=endF_bd hok
  have hcur:=c_curve f hok ((endF f).toNat+1) (by omega) (by omega)
  rw [show (((endF f).toNat+1:Nat):Int) - 1=endF f by omega] at hcur
  repeat' (first
   |(refine ⟨fun hg=>?_,fun hg=>?_⟩<;>first|contradiction|(conv=>whnf))
   |(refine Or.inl ?_;conv=>whnf)
   |(refine ⟨_,c_end _ hok,?_⟩;conv=>whnf)
   |(refine ⟨_,hcur ..,?_⟩;conv=>whnf)
   |(refine And.intro ?_ ?_;kernel_rfl;conv=>whnf))
  show DV.tuple [_,_]=_
  rw [curveS,if_neg hg];rfl
theorem cmp_isNaN (a:Int):PC 149 [DV.int .i64 (a)] (.bool false):=by
 refine pureCall_ofR dh149 rfl ?_
 conv=>whnf
 exact bool_eq (by simp)
theorem cmp_Compare (a b:Int):PC 140 [DV.int .i64 (a),DV.int .i64 (b)] (DV.int .i64 (if a < b then -1 else if b < a then 1 else 0)):=by
 refine pureCall_ofR dh140 rfl ?_
 conv=>whnf
 repeat' (first
  |(refine ⟨fun hg=>?_,fun hg=>?_⟩<;>first|contradiction|(conv=>whnf))
  |(refine Or.inl ?_;conv=>whnf)
  |(refine ⟨_,cmp_isNaN ..,?_⟩;conv=>whnf)
  |(refine And.intro ?_ ?_;kernel_rfl;conv=>whnf))
 all_goals simp only [decide_eq_true_eq,decide_eq_false_iff_not] at hg
 ·exact int_eq (by rw [if_pos hg])
 ·rename_i hq
  have hq:=of_decide_eq_false hq
  exact int_eq (by rw [if_neg hq,if_pos hg])
 ·rename_i hq
  have hq:=of_decide_eq_false hq
  exact int_eq (by rw [if_neg hq,if_neg hg])
end Sh

namespace Sh
open Go Go.Proofs
def encPk (p:Int×Int):DV:=.agg [DV.int .i64 (p.1),DV.int .i64 (p.2)]
def pw (l:List Int) (v:Nat):Int×Int:=((v:Int),(v:Int) * l.getD v 0)
def pws (l:List Int):List (List DV):=rng l.length fun v=>[encPk (pw l v)]
def OkL (l:List Int):Prop:=l.length≤1000∧∀ x ∈ l,0≤x∧x≤1200
theorem OkL.at {l:List Int} (h:OkL l) {v:Nat} (hv:v < l.length):0≤l.getD v 0∧l.getD v 0≤1200:=h.2 _ (getD_in 0 hv)
theorem OkL.pw {l:List Int} (h:OkL l) {v:Nat} (hv:v < l.length):0≤(v:Int) * l.getD v 0∧(v:Int) * l.getD v 0≤1200000:=by
 have h1:=h.at hv
 have h2:=h.1
 exact ⟨Int.mul_nonneg (by omega) h1.1,Int.mul_le_mul (by omega:(v:Int)≤1000) h1.2 h1.1 (by omega)⟩
theorem rng_drop {α:Type} {m i:Nat} (f:Nat→α) (h:i < m):(rng m f).drop i=f i :: (rng m f).drop (i+1):=by
 have hl:i < (rng m f).length:=by rw [rng_len];exact h
 rw [List.drop_eq_getElem_cons hl];simp [rng]
theorem powersIt (l:List Int) (h:OkL l):ISeq Tryz.prog GC 125 [.ip (iL l)] (pws l):=by
 have e0:((l.map (DV.int .i64)).length:Int)=l.length:=by simp
 have hlen:=h.1
 refine iseq_of dh125 rfl rfl (by kernel_rfl) (fun x hx=>by obtain ⟨v,_,rfl⟩:=List.mem_map.1 hx;rfl) (fun gl=>?_)
 conv=>whnf
 refine dwp_loopY (P:=Tryz.prog) (G:=GC) (k:=dk125_0) (b:=db125_0) (α:=Nat) (fun i=>[(0,.dict 0),(5,iL l),(6,.int .i64 (l.map (DV.int .i64)).length),(7,DV.int .i64 (i))]) (fun i=>[(0,.ghost ((pws l).drop i) true gl)]) (fun i=>i≤l.length) (fun i=>l.length - i) 0 ⟨rfl,rfl,rfl⟩ (Nat.zero_le _) ?_
 intro i h1
 conv=>whnf
 refine ⟨fun hb=>?_,fun hb=>?_⟩
 ·have hi:i < l.length:=by simpa using hb
  have hp:=h.pw hi
  rw [show (pws l).drop i=[encPk (pw l i)] :: (pws l).drop (i+1) from rng_drop _ hi]
  conv=>whnf
  rw [getD_enc _ _ (i) 0 hi]
  refine ⟨idxA hi rfl,?_⟩
  conv=>whnf
  refine ⟨?_,fun b=>?_⟩
  ·show [DV.agg [DV.int .i64 (i),DV.int .i64 (IntKind.i64.wrap ((i:Int) * l.getD i 0))]]=_
   rw [wrap_W,W_in (by omega) (by omega)];rfl
  ·conv=>whnf
   refine ⟨fun hg=>?_,fun hg=>?_⟩
   ·have hg:b=false:=by simpa using hg
    subst hg
    conv=>whnf
    intro e;cases e
   ·have hg:b=true:=by simpa using hg
    subst hg
    conv=>whnf
    rw [wrap_succ i (by omega)]
    exact ⟨i+1,rfl,rfl,rfl,hi,by omega⟩
 ·have hi:i=l.length:=by have:=of_decide_eq_false hb;rw [e0] at this;omega
  conv=>whnf
  intro _
  rw [hi]
  exact List.drop_of_length_le (by unfold pws;rw [rng_len];exact Nat.le_refl _)
theorem c_powers (l:List Int):PC 101 [iL l] (.func 125 [.ip (iL l)]):=by
 refine pureCall_ofR dh101 rfl ?_
 conv=>whnf
 rfl
theorem cmp_Or (l:List Int) (hl:l.length < 4611686018427387904):PC 139 [iL l] (DV.int .i64 (firstE l)):=by
 have e0:((l.map (DV.int .i64)).length:Int)=l.length:=by simp
 refine pureCall_ofR dh139 rfl ?_
 conv=>whnf
 refine dwp_loopR (P:=Tryz.prog) (G:=GC) (k:=dk139_0) (b:=db139_0) (α:=Nat) (fun i=>[(3,DV.int .i64 (0)),(6,iL l),(7,.int .i64 (l.map (DV.int .i64)).length),(8,DV.int .i64 (i))]) (fun _=>[]) (fun i=>i≤l.length∧firstE l=firstE (l.drop i)) (fun i=>l.length - i) 0 ⟨rfl,rfl,rfl⟩ ⟨Nat.zero_le _,rfl⟩ ?_
 intro i ⟨h1,h2⟩
 conv=>whnf
 refine ⟨fun hb=>?_,fun hb=>?_⟩
 ·have hi:i < l.length:=by simpa using hb
  have hd:=firstE_drop l i hi
  conv=>whnf
  rw [getD_enc _ _ (i) 0 hi]
  refine ⟨idxA hi rfl,?_⟩
  conv=>whnf
  repeat' (first
   |(refine ⟨fun hg=>?_,fun hg=>?_⟩<;>first|contradiction|(conv=>whnf))
   |(refine Or.inl ?_;conv=>whnf)
   |(refine And.intro ?_ ?_;kernel_rfl;conv=>whnf))
  ·have hg:=of_decide_eq_true hg
   exact int_eq (by rw [h2,hd,if_pos hg])
  ·have hg:=of_decide_eq_false hg
   rw [wrap_succ i (by omega)]
   exact ⟨i+1,rfl,rfl,rfl,⟨hi,by rw [h2,hd,if_neg hg]⟩,by omega⟩
 ·have hi:i=l.length:=by have:=of_decide_eq_false hb;rw [e0] at this;omega
  conv=>whnf
  exact int_eq (by rw [h2,hi,List.drop_length];rfl)
def cmpI (a b:Int):Int:=if a < b then -1 else if b < a then 1 else 0
theorem c_compare (p o:Int×Int):PC 126 [encPk p,encPk o] (DV.int .i64 (firstE [cmpI o.2 p.2,cmpI p.1 o.1])):=by
 refine pureCall_ofR dh126 rfl ?_
 conv=>whnf
 repeat' (first
  |(refine ⟨fun hg=>?_,fun hg=>?_⟩<;>first|contradiction|(conv=>whnf))
  |(refine Or.inl ?_;conv=>whnf)
  |(refine ⟨_,cmp_Compare ..,?_⟩;conv=>whnf)
  |(refine ⟨_,cmp_Or [_,_] (by simp),?_⟩;conv=>whnf)
  |(refine And.intro ?_ ?_;kernel_rfl;conv=>whnf))
 rfl
def hiA (l:List Int):Nat→Nat
 |0=>0
 |i+1=>if (pw l (hiA l i)).2 < (pw l i).2 then i else hiA l i
theorem hiA_le (l:List Int):∀ i,hiA l i≤i
 |0=>Nat.le_refl _
 |i+1=>by
  have:=hiA_le l i
  unfold hiA;split<;>omega
theorem better_iff (o p:Int×Int):firstE [cmpI o.2 p.2,cmpI p.1 o.1] < 0 ↔ o.2 < p.2∨(o.2=p.2∧p.1 < o.1):=by
 simp only [firstE,cmpI]
 grind
theorem c_highest (l:List Int) (h:OkL l):PC 102 [iL l] (encPk (pw l (hiA l l.length))):=by
 refine pureCall_ofR dh102 rfl ?_
 conv=>whnf
 repeat' (first
  |(refine ⟨fun hg=>?_,fun hg=>?_⟩<;>first|contradiction|(conv=>whnf))
  |(refine Or.inl ?_;conv=>whnf)
  |(refine ⟨_,c_powers ..,?_⟩;conv=>whnf)
  |(refine And.intro ?_ ?_;kernel_rfl;conv=>whnf))
 refine range_R (P:=Tryz.prog) (G:=GC) (x:=db102_0x) (y:=db102_0) (k:=dk102_0) (pws l) (fun i=>[(2,.box 2 (.agg [DV.int .i64 (0),DV.int .i64 (0)])),(3,.box 1 (.func 126 [])),(4,.box 2 (encPk (pw l (hiA l i))))]) [(2,.bptr 2 0),(3,.bptr 3 0),(4,.bptr 4 0)] (powersIt l h) rfl (fun z hz=>by obtain ⟨v,_,rfl⟩:=List.mem_map.1 hz;rfl) rfl rfl rfl ?_ ?_ ?_
 ·have e:encPk (pw l (hiA l 0))=.agg [DV.int .i64 (0),DV.int .i64 (0)]:=by show DV.agg [DV.int .i64 ((0:Nat)),DV.int .i64 (((0:Nat):Int) * l.getD 0 0)]=_;simp
  rw [e];rfl
 ·intro i z hz
  have hi:i < l.length:=by
   have:=(List.getElem?_eq_some_iff.1 hz).1
   unfold pws at this;rwa [rng_len] at this
  have hz2:z=[encPk (pw l i)]:=by
   have:=rng_drop (fun v=>[encPk (pw l v)]) hi
   have h3:=congrArg (fun l=>l[0]?) this
   simp only [List.getElem?_drop,Nat.add_zero,List.getElem?_cons_zero] at h3
   have h4:(rng l.length fun v=>[encPk (pw l v)])[i]?=some z:=hz
   rw [h3] at h4
   exact (Option.some.inj h4).symm
  subst hz2
  have hle:=hiA_le l i
  conv=>whnf
  repeat' (first
   |(refine ⟨fun hg=>?_,fun hg=>?_⟩<;>first|contradiction|(conv=>whnf))
   |(refine Or.inl ?_;conv=>whnf)
   |(refine ⟨_,c_compare ..,?_⟩;conv=>whnf)
   |(refine And.intro ?_ ?_;kernel_rfl;conv=>whnf))
  ·have hg:=(better_iff (pw l (hiA l i)) (pw l i)).1 (of_decide_eq_true hg)
   have hlt:(pw l (hiA l i)).2 < (pw l i).2:=by
    rcases hg with hg|⟨_,hg⟩
    ·exact hg
    ·have hg:(i:Int) < (hiA l i:Nat):=hg
     omega
   have e:hiA l (i+1)=i:=by rw [hiA,if_pos hlt]
   rw [e];rfl
  ·have hg:¬ _:=fun hh=>(of_decide_eq_false hg) ((better_iff (pw l (hiA l i)) (pw l i)).2 hh)
   have hlt:¬ (pw l (hiA l i)).2 < (pw l i).2:=fun hh=>hg (.inl hh)
   have e:hiA l (i+1)=hiA l i:=by rw [hiA,if_neg hlt]
   rw [e];rfl
 ·rw [show (pws l).length=l.length from rng_len _ _]
  conv=>whnf
  rfl
theorem crv_ok {f:List (List Cel)} (h:OkF f):OkL (crv f)∧crv f≠[]:=by
 have hb:=endF_bd h
 refine ⟨⟨by unfold crv;rw [rng_len];omega,fun x hx=>?_⟩,?_⟩
 ·obtain ⟨v,_,rfl⟩:=List.mem_map.1 hx
  exact curF_bd f h.2.1 v
 ·intro e
  have:(crv f).length=(endF f).toNat+1:=rng_len _ _
  rw [e] at this;simp at this
def hiF (f:List (List Cel)):Int×Int:=pw (crv f) (hiA (crv f) (crv f).length)
def highS (f:List (List Cel)):Int×Int×Int:=if chkField f≠0 then (0,0,chkField f) else ((hiF f).1,(hiF f).2,0)
theorem curveS_e (f:List (List Cel)):(curveS f).2=chkField f:=by
 unfold curveS
 split
 ·rfl
 ·rename_i h;exact (Classical.not_not.1 h).symm
theorem curveS_l {f:List (List Cel)} (h:chkField f=0):(curveS f).1=crv f:=by unfold curveS;rw [if_neg (by omega)]
theorem c_Highest (f:List (List Cel)) (hl:LenF f):PC 55 [fld f] (.tuple [DV.int .i64 ((highS f).1),DV.int .i64 ((highS f).2.1),DV.int .i64 ((highS f).2.2)]):=by
 refine pureCall_ofR dh55 rfl ?_
 conv=>whnf
 repeat' (first
  |(refine ⟨fun hg=>?_,fun hg=>?_⟩<;>first|contradiction|(conv=>whnf))
  |(refine Or.inl ?_;conv=>whnf)
  |(refine ⟨_,c_Curve _ hl,?_⟩;conv=>whnf)
  |(refine And.intro ?_ ?_;kernel_rfl;conv=>whnf))
 ·have hg:=of_decide_eq_true hg
  rw [curveS_e] at hg ⊢
  show DV.tuple [_,_,_]=_
  rw [highS,if_pos hg]
 ·have hg:=of_decide_eq_false hg
  rw [curveS_e] at hg
  have hz:=Classical.not_not.1 hg
  rw [curveS_l hz]
  have hok:=crv_ok (chkField_zero hz)
  repeat' (first
   |(refine ⟨fun hg=>?_,fun hg=>?_⟩<;>first|contradiction|(conv=>whnf))
   |(refine Or.inl ?_;conv=>whnf)
   |(refine ⟨_,c_highest _ hok.1,?_⟩;conv=>whnf)
   |(refine And.intro ?_ ?_;kernel_rfl;conv=>whnf))
  show DV.tuple [_,_,_]=_
  rw [highS,if_neg hg];rfl
end Sh

namespace Sh
open Go
def toE (l:List Int) (p:Int):Nat→Nat→Nat
 |0,t=>t
 |n+1,t=>if t+1 < l.length∧(pw l (t+1)).2=p then toE l p n (t+1) else t
def toF (l:List Int) (i:Nat):Nat:=toE l (pw l i).2 (l.length - i) i
def isPk (l:List Int) (i:Nat):Bool:=(!decide ((pw l i).2=0) && (decide (i=0) || decide ((pw l (i - 1)).2 < (pw l i).2))) && (decide (toF l i+1=l.length) || decide ((pw l (toF l i+1)).2 < (pw l i).2))
def pks (l:List Int) (k:Nat):List Int:=((List.range k).filter (isPk l)).map fun i:Nat=>(i:Int)
def pkD (l:List Int) (k:Nat):List DV:=(pks l k).map (DV.int .i64)
theorem pkD_len (l:List Int) (k:Nat):(pkD l k).length≤k:=by
 unfold pkD pks;rw [List.length_map,List.length_map]
 have:=List.length_filter_le (isPk l) (List.range k)
 rwa [List.length_range] at this
theorem pkD_true {l:List Int} {k:Nat} (h:isPk l k=true):pkD l (k+1)=pkD l k++[DV.int .i64 (k:Int)]:=by
 unfold pkD pks
 rw [List.range_succ,List.filter_append,List.map_append,List.map_append,List.filter_cons,h];rfl
theorem pkD_false {l:List Int} {k:Nat} (h:isPk l k=false):pkD l (k+1)=pkD l k:=by
 unfold pkD pks
 rw [List.range_succ,List.filter_append,List.map_append,List.map_append,List.filter_cons,h];simp
end Sh

namespace Sh
open Go Go.Proofs
def pkR (l:List Int) (i:Nat):List DV:=rng i fun v=>encPk (pw l v)
theorem pkR_len (l:List Int) (i:Nat):(pkR l i).length=i:=rng_len _ _
theorem pkR_succ (l:List Int) (i:Nat):pkR l (i+1)=pkR l i++[encPk (pw l i)]:=rng_succ _ _
def apH (l:List Int):Nat→Heap
 |0=>[(2,.box 1 (.full []))]
 |i+1=>[(2,.box 1 (.own 11 0 (pkR l (i+1)).length (pkR l (i+1)).length)),(11,.row 2 (pkR l (i+1)) false)]
theorem pws_get {l:List Int} {i:Nat} {z:List DV} (hz:(pws l)[i]?=some z):i < l.length∧z=[encPk (pw l i)]:=by
 have hi:i < l.length:=by
  have:=(List.getElem?_eq_some_iff.1 hz).1
  unfold pws at this;rwa [rng_len] at this
 have:=rng_drop (fun v=>[encPk (pw l v)]) hi
 have h3:=congrArg (fun l=>l[0]?) this
 simp only [List.getElem?_drop,Nat.add_zero,List.getElem?_cons_zero] at h3
 have h4:(rng l.length fun v=>[encPk (pw l v)])[i]?=some z:=hz
 rw [h3] at h4
 exact ⟨hi,(Option.some.inj h4).symm⟩
theorem appendSeq (l:List Int) (h:OkL l) (hn:l≠[]):HCall Tryz.prog GC 124 [.full [],.func 125 [.ip (iL l)]] [] (.list (pkR l l.length)) []:=by
 have hlen:=h.1
 refine hCall_ofR dh124 rfl (by kernel_rfl) (by kernel_rfl) ?_
 conv=>whnf
 refine range_R (P:=Tryz.prog) (G:=GC) (x:=db124_0x) (y:=db124_0) (k:=dk124_0) (pws l) (apH l) [(2,.bptr 2 0),(4,.full [])] (powersIt l h) rfl (fun z hz=>by obtain ⟨v,_,rfl⟩:=List.mem_map.1 hz;rfl) rfl rfl rfl rfl ?_ ?_
 ·intro i z hz
  obtain ⟨hi,rfl⟩:=pws_get hz
  cases i with
  |zero =>
   conv=>whnf
   refine ⟨⟨by simp,fun e he=>by simp at he;subst he;rfl,fun e he=>by simp at he,.inl rfl⟩,?_⟩
   conv=>whnf
   exact ⟨rfl,rfl⟩
  |succ i =>
   conv=>whnf
   refine ⟨⟨rfl,rfl,rfl,by rw [pkR_len];simp;omega,fun e he=>by simp at he;subst he;rfl⟩,?_⟩
   conv=>whnf
   refine ⟨rfl,?_⟩
   show _=[(2,DObj.box 1 (.own 11 0 (pkR l (i+1+1)).length (pkR l (i+1+1)).length)),(11,.row 2 (pkR l (i+1+1)) false)]
   rw [pkR_succ l (i+1)];rfl
 ·rw [show (pws l).length=l.length from rng_len _ _]
  obtain ⟨n,hl⟩:∃ n,l.length=n+1:=⟨l.length - 1,by have:=List.length_pos_iff.2 hn;omega⟩
  rw [hl]
  conv=>whnf
  refine ⟨rfl,?_⟩
  rw [forceS_eq]
  show (if (pkR l (n+1)).length=(pkR l (n+1)).length then DV.list (window (pkR l (n+1)) 0 (pkR l (n+1)).length) else .undef)=_
  rw [if_pos rfl,window_full]
theorem collect (l:List Int) (h:OkL l) (hn:l≠[]):PC 100 [.func 125 [.ip (iL l)]] (.list (pkR l l.length)):=by
 refine pureCall_ofR dh100 rfl ?_
 conv=>whnf
 refine .inr ⟨[],_,_,_,_,appendSeq l h hn,⟨rfl,by kernel_rfl,?_,?_⟩,?_⟩
 ·trivial
 ·trivial
 conv=>whnf
 rfl
def peaksS (f:List (List Cel)):List Int×Int:=if chkField f≠0 then ([],chkField f) else (pks (crv f) (crv f).length,0)
theorem c_Peaks (f:List (List Cel)) (hl:LenF f):PC 54 [fld f] (encL2 (peaksS f)):=by
 refine pureCall_ofR dh54 rfl ?_
 conv=>whnf
 repeat' (first
  |(refine ⟨fun hg=>?_,fun hg=>?_⟩<;>first|contradiction|(conv=>whnf))
  |(refine Or.inl ?_;conv=>whnf)
  |(refine ⟨_,c_CheckField _ hl.1 hl.2,?_⟩;conv=>whnf)
  |(refine And.intro ?_ ?_;kernel_rfl;conv=>whnf))
 ·have hg:=of_decide_eq_true hg
  show DV.tuple [_,_]=_
  rw [peaksS,if_pos hg];rfl
 ·have hg:=of_decide_eq_false hg
  have hok:=chkField_zero (Classical.not_not.1 hg)
  have hb:=endF_bd hok
  have hcur:=c_curve f hok ((endF f).toNat+1) (by omega) (by omega)
  rw [show (((endF f).toNat+1:Nat):Int) - 1=endF f by omega] at hcur
  have hcr:=(crv_ok hok).1
  have hcn:=(crv_ok hok).2
  repeat' (first
   |(refine ⟨fun hg=>?_,fun hg=>?_⟩<;>first|contradiction|(conv=>whnf))
   |(refine Or.inl ?_;conv=>whnf)
   |(refine ⟨_,c_end _ hok,?_⟩;conv=>whnf)
   |(refine ⟨_,hcur ..,?_⟩;conv=>whnf)
   |(refine ⟨_,c_powers (crv f),?_⟩;conv=>whnf)
   |(refine ⟨_,collect (crv f) hcr hcn,?_⟩;conv=>whnf)
   |(refine And.intro ?_ ?_;kernel_rfl;conv=>whnf))
  have ep:peaksS f=(pks (crv f) (crv f).length,0):=by rw [peaksS,if_neg hg]
  rw [ep]
  clear hcur
  generalize crv f=L at *
  have hlen:=hcr.1
  have e0:((pkR L L.length).length:Int)=L.length:=by rw [pkR_len]
  have hget:∀ i,i < L.length→(pkR L L.length).getD (Int.toNat ((i:Nat):Int)) .undef=encPk (pw L i):=fun i hi=>by rw [Int.toNat_natCast];exact rng_getD _ _ hi
  refine dwp_loopR (P:=Tryz.prog) (G:=GC) (k:=dk54_1) (b:=db54_1) (α:=Nat) (fun i=>[(5,.list (pkR L L.length)),(6,.own 6 0 (pkD L i).length (pkD L i).length),(21,.list (pkR L L.length)),(22,.int .i64 (pkR L L.length).length),(23,DV.int .i64 (i))]) (fun i=>[(6,.row 1 (pkD L i) false)]) (fun i=>i≤L.length) (fun i=>L.length - i) 0 ⟨rfl,rfl,rfl⟩ (Nat.zero_le _) ?_
  intro i h1
  have hpl:=pkD_len L i
  conv=>whnf
  refine ⟨fun hb=>?_,fun hb=>?_⟩
  ·have hi:i < L.length:=by have:=of_decide_eq_true hb;rw [e0] at this;omega
   have p1:=hcr.pw hi
   conv=>whnf
   rw [hget i hi]
   refine ⟨⟨by omega,by rw [e0];omega,rfl⟩,?_⟩
   conv=>whnf
   repeat' (first
    |(refine ⟨fun hg=>?_,fun hg=>?_⟩<;>first|contradiction|(conv=>whnf))
    |(refine Or.inl ?_;conv=>whnf)
    |(rw [wrap_pred i (by simp only [decide_eq_true_eq,Int.natCast_pos] at *;omega) (by omega),hget (i - 1) (by omega)];refine ⟨⟨by omega,by rw [e0];omega,rfl⟩,?_⟩;conv=>whnf)
    |(refine And.intro ?_ ?_;kernel_rfl;conv=>whnf))
   all_goals (try rw [wrap_succ i (by omega)])
   any_goals
    have hpre:(!decide ((pw L i).2=0) && (decide (i=0) || decide ((pw L (i - 1)).2 < (pw L i).2)))=true:=by
     simp only [Bool.cond_true,Bool.cond_false,Bool.not_true,Bool.not_false,decide_eq_true_eq,decide_eq_false_iff_not,Int.natCast_pos] at *
     grind
    clear hg
    refine dwp_loopR (P:=Tryz.prog) (G:=GC) (k:=dk54_0) (b:=db54_0) (α:=Nat) (fun t=>[(5,.list (pkR L L.length)),(6,.own 6 0 (pkD L i).length (pkD L i).length),(8,.bptr 8 0),(9,DV.int .i64 (t)),(21,.list (pkR L L.length)),(22,.int .i64 (pkR L L.length).length),(23,DV.int .i64 (i))]) (fun _=>[(6,.row 1 (pkD L i) false),(8,.box 2 (encPk (pw L i)))]) (fun t=>t < L.length∧i≤t∧toE L (pw L i).2 (L.length - t) t=toF L i) (fun t=>L.length - t) i ⟨rfl,rfl,rfl⟩ ⟨hi,Nat.le_refl _,rfl⟩ ?_
    intro t ⟨ht,hit,hto⟩
    obtain ⟨m,hm⟩:∃ m,L.length - t=m+1:=⟨L.length - t - 1,by omega⟩
    rw [hm,toE] at hto
    have e1:IntKind.i64.wrap ((t:Int)+1)=((t+1:Nat):Int):=wrap_succ t (by omega)
    conv=>whnf
    rw [e1]
    refine ⟨fun hg=>?_,fun hg=>?_⟩
    ·have hlt:t+1 < L.length:=by have:=of_decide_eq_true hg;rw [e0] at this;omega
     clear hg
     conv=>whnf
     rw [e1,hget (t+1) hlt]
     refine ⟨⟨by omega,by rw [e0];omega,rfl⟩,?_⟩
     conv=>whnf
     refine ⟨by kernel_rfl,?_⟩
     conv=>whnf
     refine ⟨fun hg=>?_,fun hg=>?_⟩
     ·have hg:(pw L (t+1)).2=(pw L i).2:=of_decide_eq_true hg
      conv=>whnf
      rw [e1]
      rw [if_pos ⟨hlt,hg⟩] at hto
      exact ⟨t+1,rfl,rfl,rfl,⟨hlt,by omega,by rw [show L.length - (t+1)=m by omega];exact hto⟩,by omega⟩
     ·have hg:¬ (pw L (t+1)).2=(pw L i).2:=of_decide_eq_false hg
      rw [if_neg (fun hh=>hg hh.2)] at hto
      have hto:=hto.symm
      clear hg
      conv=>whnf
      rw [e1]
      refine ⟨fun hg=>?_,fun hg=>?_⟩
      ·have hq:=of_decide_eq_false hg
       rw [e0] at hq
       have hlt:t+1 < L.length:=by omega
       conv=>whnf
       rw [e1,hget (t+1) hlt]
       refine ⟨⟨by omega,by rw [e0];omega,rfl⟩,?_⟩
       repeat' (first
        |(refine ⟨fun hg=>?_,fun hg=>?_⟩<;>first|contradiction|(conv=>whnf))
        |(refine Or.inl ?_;conv=>whnf)
        |(refine And.intro ?_ ?_;kernel_rfl;conv=>whnf))
       ·have hq2:(pw L (t+1)).2 < (pw L i).2:=of_decide_eq_true hg
        have hpk:isPk L i=true:=by unfold isPk;rw [hpre,hto,decide_eq_true hq2];simp
        refine ⟨⟨rfl,rfl,rfl,by simp;omega,fun e he=>by simp at he;subst he;rfl⟩,?_⟩
        conv=>whnf
        rw [wrap_succ i (by omega)]
        refine ⟨i+1,rfl,?_,?_,hi,by omega⟩
        ·rw [pkD_true hpk];rfl
        ·rw [pkD_true hpk];rfl
       ·have hq2:¬ (pw L (t+1)).2 < (pw L i).2:=of_decide_eq_false hg
        have hpk:isPk L i=false:=by unfold isPk;rw [hpre,hto,decide_eq_false hq2,decide_eq_false (by omega:¬ t+1=L.length)];rfl
        rw [wrap_succ i (by omega)]
        refine ⟨i+1,rfl,?_,?_,hi,by omega⟩
        ·rw [pkD_false hpk];rfl
        ·rw [pkD_false hpk];rfl
      ·have hq:=of_decide_eq_true (show decide _=true from hg)
       rw [e0] at hq
       have hpk:isPk L i=true:=by unfold isPk;rw [hpre,hto,decide_eq_true (by omega:t+1=L.length)];rfl
       repeat' (first
        |(refine ⟨fun hg=>?_,fun hg=>?_⟩<;>first|contradiction|(conv=>whnf))
        |(refine Or.inl ?_;conv=>whnf)
        |(refine And.intro ?_ ?_;kernel_rfl;conv=>whnf))
       refine ⟨⟨rfl,rfl,rfl,by simp;omega,fun e he=>by simp at he;subst he;rfl⟩,?_⟩
       conv=>whnf
       rw [wrap_succ i (by omega)]
       refine ⟨i+1,rfl,?_,?_,hi,by omega⟩
       ·rw [pkD_true hpk];rfl
       ·rw [pkD_true hpk];rfl
    ·have hlt:¬ t+1 < L.length:=by have:=of_decide_eq_false hg;rw [e0] at this;omega
     rw [if_neg (fun hh=>hlt hh.1)] at hto
     have hto:=hto.symm
     clear hg
     conv=>whnf
     refine ⟨by kernel_rfl,?_⟩
     conv=>whnf
     refine ⟨fun hg=>Bool.noConfusion hg,fun _=>?_⟩
     conv=>whnf
     rw [e1]
     refine ⟨fun hg=>?_,fun hg=>?_⟩
     ·have hq:=of_decide_eq_false hg
      rw [e0] at hq
      exfalso;omega
     ·have hq:=of_decide_eq_true (show decide _=true from hg)
      rw [e0] at hq
      have hpk:isPk L i=true:=by unfold isPk;rw [hpre,hto,decide_eq_true (by omega:t+1=L.length)];rfl
      repeat' (first
       |(refine ⟨fun hg=>?_,fun hg=>?_⟩<;>first|contradiction|(conv=>whnf))
       |(refine Or.inl ?_;conv=>whnf)
       |(refine And.intro ?_ ?_;kernel_rfl;conv=>whnf))
      refine ⟨⟨rfl,rfl,rfl,by simp;omega,fun e he=>by simp at he;subst he;rfl⟩,?_⟩
      conv=>whnf
      rw [wrap_succ i (by omega)]
      refine ⟨i+1,rfl,?_,?_,hi,by omega⟩
      ·rw [pkD_true hpk];rfl
      ·rw [pkD_true hpk];rfl
   all_goals
    have hpk:isPk L i=false:=by
     unfold isPk
     simp only [Bool.cond_true,Bool.cond_false,Bool.not_true,Bool.not_false,decide_eq_true_eq,decide_eq_false_iff_not,Int.natCast_pos] at *
     grind
    refine ⟨i+1,rfl,?_,?_,hi,by omega⟩
    ·rw [pkD_false hpk];rfl
    ·rw [pkD_false hpk];rfl
  ·have hi:i=L.length:=by have:=of_decide_eq_false hb;rw [e0] at this;omega
   conv=>whnf
   refine ⟨rfl,?_⟩
   rw [window_full,hi]
   rfl
end Sh

namespace Sh
open Go
def ats (l:List Int) (m:Int):Nat→Nat
 |0=>0
 |k+1=>(m / l.getD (ats l m k) 0+1).toNat
def goes (l:List Int) (m:Int) (k:Nat):Prop:=m < l.getD (ats l m k) 0 * ((l.length:Int) - 1)
instance (l:List Int) (m:Int) (k:Nat):Decidable (goes l m k):=inferInstanceAs (Decidable (_ < _))
def stp (l:List Int) (m:Int):Nat→Nat→Nat
 |0,k=>k
 |n+1,k=>if goes l m k then stp l m n (k+1) else k
def certL (l:List Int) (m:Int):List Int:=rng (stp l m l.length 0+1) fun k=>(ats l m k:Int)
theorem ats_next {l:List Int} {m:Int} (hm:∀ v:Nat,v < l.length→(v:Int) * l.getD v 0≤m) (h0:0≤m) {k:Nat} (hk:ats l m k < l.length) (hg:goes l m k) :
  0 < l.getD (ats l m k) 0∧ats l m k < ats l m (k+1)∧ats l m (k+1) < l.length∧((ats l m (k+1):Nat):Int)=m / l.getD (ats l m k) 0+1:=by
 unfold goes at hg
 have h1:=hm _ hk
 have hc:0 < l.getD (ats l m k) 0:=by
  false_or_by_contra
  rename_i hc
  have:l.getD (ats l m k) 0 * ((l.length:Int) - 1)≤0:=Int.mul_nonpos_of_nonpos_of_nonneg (by omega) (by omega)
  omega
 have e:ats l m (k+1)=(m / l.getD (ats l m k) 0+1).toNat:=rfl
 generalize hcc:l.getD (ats l m k) 0=c at *
 have d1:(ats l m k:Int)≤m / c:=Int.le_ediv_of_mul_le hc h1
 have d2:m / c < (l.length:Int) - 1:=Int.ediv_lt_of_lt_mul hc (by rw [Int.mul_comm];exact hg)
 refine ⟨hc,?_,?_,?_⟩<;>omega
end Sh

namespace Sh
open Go Go.Proofs
theorem hiA_max (l:List Int):∀ k v:Nat,v < k→(pw l v).2≤(pw l (hiA l k)).2
 |0,v,h=>absurd h (Nat.not_lt_zero v)
 |k+1,v,h=>by
  unfold hiA
  by_cases e:v=k
  ·subst e
   split
   ·exact Int.le_refl _
   ·omega
  ·have:=hiA_max l k v (by omega)
   split<;>omega
def clD (l:List Int) (m:Int) (k:Nat):List DV:=rng (k+1) fun j=>DV.int .i64 ((ats l m j:Nat))
theorem clD_len (l:List Int) (m:Int) (k:Nat):(clD l m k).length=k+1:=rng_len _ _
theorem clD_succ (l:List Int) (m:Int) (k:Nat):clD l m (k+1)=clD l m k++[DV.int .i64 ((ats l m (k+1):Nat))]:=rng_succ _ _
theorem clD_last (l:List Int) (m:Int) (k:Nat):(clD l m k).getD k .undef=DV.int .i64 ((ats l m k:Nat)):=rng_getD _ _ (by omega)
def certS (f:List (List Cel)):List Int×Int:=if chkField f≠0 then ([],chkField f) else (certL (crv f) (hiF f).2,0)
theorem hiF_bd {f:List (List Cel)} (h:OkF f):0≤(hiF f).2∧(hiF f).2≤1200000∧∀ v:Nat,v < (crv f).length→(v:Int) * (crv f).getD v 0≤(hiF f).2:=by
 have hc:=crv_ok h
 have hpos:=List.length_pos_iff.2 hc.2
 have hle:=hiA_le (crv f) (crv f).length
 have h0:=hiA_max (crv f) (crv f).length 0 hpos
 have hlt:hiA (crv f) (crv f).length < (crv f).length:=by
  have hA:∀ i,i≤(crv f).length→hiA (crv f) i < (crv f).length:=by
   intro i
   induction i with
   |zero=>intro _;exact hpos
   |succ i ih=>intro hi;unfold hiA;split;omega;exact ih (by omega)
  exact hA _ (Nat.le_refl _)
 have hp:=hc.1.pw hlt
 exact ⟨hp.1,by show (_:Int)≤_;have:=hp.2;unfold hiF;show _ * _≤_;omega,fun v hv=>hiA_max _ _ v hv⟩
theorem c_Certificate (f:List (List Cel)) (hl:LenF f):PC 56 [fld f] (encL2 (certS f)):=by
 refine pureCall_ofR dh56 rfl ?_
 conv=>whnf
 repeat' (first
  |(refine ⟨fun hg=>?_,fun hg=>?_⟩<;>first|contradiction|(conv=>whnf))
  |(refine Or.inl ?_;conv=>whnf)
  |(refine ⟨_,c_Curve _ hl,?_⟩;conv=>whnf)
  |(refine And.intro ?_ ?_;kernel_rfl;conv=>whnf))
 ·have hg:=of_decide_eq_true hg
  rw [curveS_e] at hg ⊢
  show DV.tuple [_,_]=_
  rw [certS,if_pos hg];rfl
 ·have hg:=of_decide_eq_false hg
  rw [curveS_e] at hg
  have hz:=Classical.not_not.1 hg
  rw [curveS_l hz]
  have hF:=chkField_zero hz
  have hok:=crv_ok hF
  have hm:=hiF_bd hF
  have ec:certS f=(certL (crv f) (hiF f).2,0):=by rw [certS,if_neg hg]
  rw [ec]
  have hh:(pw (crv f) (hiA (crv f) (crv f).length)).2=(hiF f).2:=rfl
  repeat' (first
   |(refine ⟨fun hg=>?_,fun hg=>?_⟩<;>first|contradiction|(conv=>whnf))
   |(refine Or.inl ?_;conv=>whnf)
   |(refine ⟨_,c_highest _ hok.1,?_⟩;conv=>whnf)
   |(refine And.intro ?_ ?_;kernel_rfl;conv=>whnf))
  rw [hh]
  clear hh ec
  generalize (hiF f).2=m at *
  generalize crv f=L at *
  have hlen:=hok.1.1
  have hpos:=List.length_pos_iff.2 hok.2
  have e0:((L.map (DV.int .i64)).length:Int)=L.length:=by simp
  refine dwp_loopR (P:=Tryz.prog) (G:=GC) (k:=dk56_0) (b:=db56_0) (α:=Nat) (fun k=>[(4,iL L),(6,DV.int .i64 (m)),(7,.own 20 0 (clD L m k).length (clD L m k).length)]) (fun k=>[(20,.row 1 (clD L m k) false)]) (fun k=>k≤ats L m k∧ats L m k < L.length∧stp L m (L.length - k) k=stp L m L.length 0) (fun k=>L.length - k) 0 ⟨rfl,rfl,rfl⟩ ⟨Nat.le_refl _,hpos,rfl⟩ ?_
  intro k ⟨hk1,hk2,hk3⟩
  have hb:=hok.1.at hk2
  obtain ⟨n,hn⟩:∃ n,L.length - k=n+1:=⟨L.length - k - 1,by omega⟩
  rw [hn,stp] at hk3
  have w1:IntKind.i64.wrap (((clD L m k).length:Int) - 1)=(k:Int):=by rw [clD_len,wrap_W,W_in (by omega) (by omega)];omega
  conv=>whnf
  refine ⟨rfl,?_⟩
  conv=>whnf
  rw [w1]
  refine ⟨⟨rfl,by omega,by rw [clD_len];omega⟩,?_⟩
  conv=>whnf
  rw [Int.toNat_natCast,Nat.zero_add,clD_last]
  refine ⟨⟨rfl,by decide⟩,?_⟩
  conv=>whnf
  rw [getD_enc _ _ (ats L m k) 0 hk2]
  refine ⟨idxA hk2 rfl,?_⟩
  conv=>whnf
  have w2:IntKind.i64.wrap (((L.map (DV.int .i64)).length:Int) - 1)=(L.length:Int) - 1:=by rw [e0,wrap_W,W_in (by omega) (by omega)]
  rw [w2]
  have hmul:=mul_bd (a:=L.getD (ats L m k) 0) (b:=(L.length:Int) - 1) (A:=1200) (B:=1000) (by omega) (by omega) (by omega) (by omega)
  rw [show IntKind.i64.wrap (L.getD (ats L m k) 0 * ((L.length:Int) - 1))=L.getD (ats L m k) 0 * ((L.length:Int) - 1) from W_in (by omega) (by omega)]
  refine ⟨fun hg=>?_,fun hg=>?_⟩
  ·have hg:¬ goes L m k:=by have:=of_decide_eq_true hg;unfold goes;omega
   rw [if_neg hg] at hk3
   conv=>whnf
   refine ⟨rfl,?_⟩
   rw [window_full]
   show DV.tuple [.list (clD L m k),DV.int .i64 (0)]=_
   unfold certL
   rw [← hk3]
   show _=DV.tuple [.list ((rng (k+1) fun k=>(ats L m k:Int)).map (DV.int .i64)),DV.int .i64 (0)]
   rw [rng_map];rfl
  ·have hg:goes L m k:=by have:=of_decide_eq_false hg;unfold goes;omega
   rw [if_pos hg] at hk3
   have hnx:=ats_next hm.2.2 hm.1 hk2 hg
   have w3:IntKind.i64.wrap (m.tdiv (L.getD (ats L m k) 0))=m / L.getD (ats L m k) 0:=by
    rw [Int.tdiv_eq_ediv_of_nonneg hm.1,wrap_W,W_in (by omega) (by omega)]
   conv=>whnf
   refine ⟨by omega,?_⟩
   conv=>whnf
   rw [w3,show IntKind.i64.wrap (m / L.getD (ats L m k) 0+1)=((ats L m (k+1):Nat):Int) by rw [wrap_W,W_in (by omega) (by omega)];omega]
   refine ⟨⟨rfl,rfl,rfl,by rw [clD_len];simp;omega,fun e he=>by simp at he;subst he;rfl⟩,?_⟩
   conv=>whnf
   refine ⟨k+1,rfl,?_,?_,⟨by omega,hnx.2.2.1,by rw [show L.length - (k+1)=n by omega];exact hk3⟩,by omega⟩
   ·rw [clD_succ];rfl
   ·rw [clD_succ];rfl
end Sh
