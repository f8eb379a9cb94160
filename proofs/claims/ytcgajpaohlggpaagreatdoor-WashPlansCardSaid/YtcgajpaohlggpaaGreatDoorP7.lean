/-
  Chapter 8's functions, walked over pure data: the library of the walk, the functions' code over data, and what each computes. (part 7)
-/
import Derived.Test.YtcgajpaohlggpaaGreatDoorP6
import Derived.Test.YtcgajpaohlggpaaGreatDoorProg
set_option linter.unusedVariables false
set_option linter.unusedSimpArgs false
set_option maxRecDepth 100000
namespace Sh
open Go
def dc23 : DFunc := ⟨23,1,[.tmp 2],.seq (.ops false [⟨some 1,.box 6 (.tmp 0),none,[]⟩,⟨some 2,.mov (.const (.int .i64 0)),none,[]⟩]) (.seq (.ops true [⟨some 3,.faddr 0 1 false (.tmp 1),none,[]⟩,⟨some 4,.load none (.tmp 3),none,[0]⟩,⟨some 5,.call (.func 94) [.tmp 4,.const (.int .i64 1),.const (.int .i64 1000)],none,[1,0]⟩,⟨some 6,.faddr 1 1 false (.tmp 1),none,[]⟩,⟨some 7,.load none (.tmp 6),none,[3]⟩,⟨some 8,.call (.func 94) [.tmp 7,.const (.int .i64 0),.const (.int .i64 1000)],none,[4,3,2,1,0]⟩,⟨some 9,.faddr 2 1 false (.tmp 1),none,[]⟩,⟨some 10,.load none (.tmp 9),none,[6]⟩,⟨some 11,.call (.func 94) [.tmp 10,.const (.int .i64 0),.const (.int .i64 1000)],none,[7,6,5,4,3,2,1,0]⟩,⟨some 12,.faddr 3 1 false (.tmp 1),none,[]⟩,⟨some 13,.load none (.tmp 12),none,[9]⟩,⟨some 14,.call (.func 30) [.tmp 13],none,[10,9,8,7,6,5,4,3,2,1,0]⟩,⟨some 15,.faddr 4 1 false (.tmp 1),none,[]⟩,⟨some 16,.load none (.tmp 15),none,[12]⟩,⟨some 17,.call (.func 94) [.tmp 16,.const (.int .i64 0),.const (.int .i64 1000)],none,[13,12,11,10,9,8,7,6,5,4,3,2,1,0]⟩,⟨some 18,.faddr 5 1 false (.tmp 1),none,[]⟩,⟨some 19,.load none (.tmp 18),none,[15]⟩,⟨some 20,.call (.func 94) [.tmp 19,.const (.int .i64 0),.const (.int .i64 1000000)],none,[16,15,14,13,12,11,10,9,8,7,6,5,4,3,2,1,0]⟩,⟨some 21,.lit true 1 6 (.int .i64 0) [(0,(.tmp 5)),(1,(.tmp 8)),(2,(.tmp 11)),(3,(.tmp 14)),(4,(.tmp 17)),(5,(.tmp 20))],none,[2,1,0,5,4,3,8,7,6,11,10,9,14,13,12,17,16,15]⟩,⟨some 22,.call (.func 48) [.tmp 21],none,[18,2,1,0,5,4,3,8,7,6,11,10,9,14,13,12,17,16,15]⟩,⟨some 2,.mov (.tmp 22),none,[19,18,2,1,0,5,4,3,8,7,6,11,10,9,14,13,12,17,16,15]⟩]) .ret)⟩
theorem dh23:cProg Go.Proofs.Tryz.prog ⟨[],[],[21]⟩ 23=some dc23:=by kernel_rfl
def db25_0 : DC := (.seq (.seq (.ops false [⟨some 10,.mov (.tmp 7),none,[]⟩,⟨some 11,.faddr 3 1 false (.tmp 2),none,[]⟩,⟨some 12,.load none (.tmp 11),none,[]⟩,⟨some 13,.len (.tmp 12),none,[]⟩,⟨some 14,.bin .lss (.tmp 10) (.tmp 13),none,[]⟩]) (.cond (.tmp 14) .skip (.exit 0))) (.seq (.block 1 none (.seq (.seq (.ops false [⟨some 17,.mov (.tmp 1),none,[]⟩,⟨some 18,.mov (.tmp 7),none,[]⟩,⟨some 19,.call (.func 83) [.tmp 17,.tmp 18],none,[]⟩]) (.cond (.tmp 19) (.ops false [⟨some 6,.mov (.const (.int .i64 0)),none,[]⟩]) .skip)) (.seq (.ops false [⟨some 20,.mov (.tmp 5),none,[]⟩,⟨some 21,.mov (.tmp 6),none,[]⟩,⟨some 22,.lit true 1 1 (.int .i64 0) [(0,(.tmp 21))],none,[]⟩,⟨some 23,.append false 1 (.tmp 20) (.tmp 22),none,[]⟩,⟨some 5,.mov (.tmp 23),none,[]⟩]) (.ops true [⟨some 24,.load (some 6) (.tmp 2),none,[]⟩,⟨some 25,.faddr 3 1 false (.tmp 2),none,[]⟩,⟨some 26,.load none (.tmp 25),none,[1]⟩,⟨some 27,.mov (.tmp 7),none,[]⟩,⟨some 28,.iaddr 3 (.tmp 26) (.tmp 27),none,[2,1,3]⟩,⟨some 29,.load (some 3) (.tmp 28),none,[4,2,1,3]⟩,⟨some 30,.mov (.tmp 6),none,[]⟩,⟨some 31,.call (.func 96) [.tmp 24,.tmp 29,.tmp 30],none,[0,5,4,2,1,3,6]⟩,⟨some 6,.mov (.tmp 31),none,[7,0,5,4,2,1,3,6]⟩])))) (.ops false [⟨some 15,.mov (.tmp 7),none,[]⟩,⟨some 16,.bin .add (.tmp 15) (.const (.int .i64 1)),none,[]⟩,⟨some 7,.mov (.tmp 16),none,[]⟩])))
def dk25_0 : Keep := ⟨[(5,1)],[1,2,5,6,7],[2,5,34,35]⟩
def dc25 : DFunc := ⟨36,2,[.tmp 4],.seq (.ops false [⟨some 2,.box 6 (.tmp 0),none,[]⟩,⟨some 4,.mov (.const (.slice none 0 0)),none,[]⟩]) (.seq (.ops false [⟨some 5,.mov (.const (.slice none 0 0)),none,[]⟩]) (.seq (.ops false [⟨some 8,.faddr 2 1 false (.tmp 2),none,[]⟩,⟨some 9,.load none (.tmp 8),none,[]⟩,⟨some 6,.mov (.tmp 9),none,[]⟩]) (.seq (.seq (.ops false [⟨some 7,.mov (.const (.int .i64 0)),none,[]⟩]) (.block 0 (some ⟨[],[5,6],[2,5,34,35]⟩) (.loop dk25_0 db25_0))) (.seq (.ops false [⟨some 32,.mov (.tmp 5),none,[]⟩,⟨some 33,.mov (.tmp 6),none,[]⟩,⟨some 34,.lit true 1 1 (.int .i64 0) [(0,(.tmp 33))],none,[]⟩,⟨some 35,.append false 1 (.tmp 32) (.tmp 34),none,[]⟩,⟨some 4,.mov (.tmp 35),none,[]⟩]) .ret))))⟩
theorem dh25:cProg Go.Proofs.Tryz.prog ⟨[(0,⟨[(5,1)],[1,2,5,6,7],[2,5,34,35]⟩)],[(0,⟨[],[5,6],[2,5,34,35]⟩)],[22,34]⟩ 25=some dc25:=by kernel_rfl
def db26_0 : DC := (.seq (.seq (.ops false [⟨some 11,.mov (.tmp 7),none,[]⟩,⟨some 12,.faddr 3 1 false (.tmp 2),none,[]⟩,⟨some 13,.load none (.tmp 12),none,[]⟩,⟨some 14,.len (.tmp 13),none,[]⟩,⟨some 15,.bin .lss (.tmp 11) (.tmp 14),none,[]⟩]) (.cond (.tmp 15) .skip (.exit 0))) (.seq (.block 1 none (.ops true [⟨some 18,.mov (.tmp 5),none,[]⟩,⟨some 19,.faddr 3 1 false (.tmp 2),none,[]⟩,⟨some 20,.load none (.tmp 19),none,[1]⟩,⟨some 21,.mov (.tmp 7),none,[]⟩,⟨some 22,.iaddr 3 (.tmp 20) (.tmp 21),none,[2,1,3]⟩,⟨some 23,.faddr 2 1 false (.tmp 22),none,[4,2,1,3]⟩,⟨some 24,.load none (.tmp 23),none,[5,4,2,1,3]⟩,⟨some 25,.mov (.tmp 6),none,[]⟩,⟨some 26,.mov (.tmp 7),none,[]⟩,⟨some 27,.iaddr 1 (.tmp 25) (.tmp 26),none,[7,8]⟩,⟨some 28,.load none (.tmp 27),none,[9,7,8]⟩,⟨some 29,.bin .sub (.const (.int .i64 1000)) (.tmp 28),none,[10,9,7,8]⟩,⟨some 30,.bin .mul (.tmp 24) (.tmp 29),none,[6,5,4,2,1,3,11,10,9,7,8]⟩,⟨some 31,.bin .quo (.tmp 30) (.const (.int .i64 1000)),none,[12,6,5,4,2,1,3,11,10,9,7,8]⟩,⟨some 32,.lit true 1 1 (.int .i64 0) [(0,(.tmp 31))],none,[13,12,6,5,4,2,1,3,11,10,9,7,8]⟩,⟨some 33,.append false 1 (.tmp 18) (.tmp 32),none,[0,14,13,12,6,5,4,2,1,3,11,10,9,7,8]⟩,⟨some 5,.mov (.tmp 33),none,[15,0,14,13,12,6,5,4,2,1,3,11,10,9,7,8]⟩])) (.ops false [⟨some 16,.mov (.tmp 7),none,[]⟩,⟨some 17,.bin .add (.tmp 16) (.const (.int .i64 1)),none,[]⟩,⟨some 7,.mov (.tmp 17),none,[]⟩])))
def dk26_0 : Keep := ⟨[(5,1)],[2,5,6,7],[2,5]⟩
def dc26 : DFunc := ⟨35,2,[.tmp 4],.seq (.ops false [⟨some 2,.box 6 (.tmp 0),none,[]⟩,⟨some 4,.mov (.const (.slice none 0 0)),none,[]⟩]) (.seq (.ops false [⟨some 5,.mov (.const (.slice none 0 0)),none,[]⟩]) (.seq (.ops false [⟨some 8,.load (some 6) (.tmp 2),none,[]⟩,⟨some 9,.mov (.tmp 1),none,[]⟩,⟨some 10,.call (.func 25) [.tmp 8,.tmp 9],none,[]⟩,⟨some 6,.mov (.tmp 10),none,[]⟩]) (.seq (.seq (.ops false [⟨some 7,.mov (.const (.int .i64 0)),none,[]⟩]) (.block 0 (some ⟨[],[5],[2,5]⟩) (.loop dk26_0 db26_0))) (.seq (.ops false [⟨some 34,.mov (.tmp 5),none,[]⟩,⟨some 4,.mov (.tmp 34),none,[]⟩]) .ret))))⟩
theorem dh26:cProg Go.Proofs.Tryz.prog ⟨[(0,⟨[(5,1)],[2,5,6,7],[2,5]⟩)],[(0,⟨[],[5],[2,5]⟩)],[32]⟩ 26=some dc26:=by kernel_rfl
def dc27 : DFunc := ⟨20,2,[.tmp 4],.seq (.ops false [⟨some 2,.box 6 (.tmp 0),none,[]⟩,⟨some 4,.mov (.const (.int .i64 0)),none,[]⟩]) (.seq (.ops true [⟨some 5,.faddr 4 1 false (.tmp 2),none,[]⟩,⟨some 6,.load none (.tmp 5),none,[0]⟩,⟨some 7,.load (some 6) (.tmp 2),none,[]⟩,⟨some 8,.mov (.tmp 1),none,[]⟩,⟨some 9,.faddr 3 1 false (.tmp 2),none,[]⟩,⟨some 10,.load none (.tmp 9),none,[4]⟩,⟨some 11,.len (.tmp 10),none,[5,4]⟩,⟨some 12,.call (.func 97) [.tmp 7,.tmp 8,.const (.int .i64 0),.tmp 11],none,[2,3,6,5,4]⟩,⟨some 13,.bin .mul (.tmp 6) (.tmp 12),none,[1,0,7,2,3,6,5,4]⟩,⟨some 14,.faddr 5 1 false (.tmp 2),none,[]⟩,⟨some 15,.load none (.tmp 14),none,[9]⟩,⟨some 16,.mov (.tmp 1),none,[]⟩,⟨some 17,.len (.tmp 16),none,[11]⟩,⟨some 18,.bin .mul (.tmp 15) (.tmp 17),none,[10,9,12,11]⟩,⟨some 19,.bin .sub (.tmp 13) (.tmp 18),none,[8,1,0,7,2,3,6,5,4,13,10,9,12,11]⟩,⟨some 4,.mov (.tmp 19),none,[14,8,1,0,7,2,3,6,5,4,13,10,9,12,11]⟩]) .ret)⟩
theorem dh27:cProg Go.Proofs.Tryz.prog ⟨[],[],[]⟩ 27=some dc27:=by kernel_rfl
def db30_0 : DC := (.seq (.seq (.ops false [⟨some 19,.mov (.tmp 4),none,[]⟩,⟨some 20,.mov (.tmp 0),none,[]⟩,⟨some 21,.len (.tmp 20),none,[]⟩,⟨some 22,.bin .lss (.tmp 19) (.tmp 21),none,[]⟩]) (.cond (.tmp 22) .skip (.exit 0))) (.seq (.block 1 none (.seq (.ops true [⟨some 25,.mov (.tmp 0),none,[]⟩,⟨some 26,.mov (.tmp 4),none,[]⟩,⟨some 27,.iaddr 3 (.tmp 25) (.tmp 26),none,[0,1]⟩,⟨some 28,.faddr 0 1 false (.tmp 27),none,[2,0,1]⟩,⟨some 29,.load none (.tmp 28),none,[3,2,0,1]⟩,⟨some 30,.call (.func 94) [.tmp 29,.const (.int .i64 0),.const (.int .i64 1000)],none,[4,3,2,0,1]⟩,⟨some 31,.mov (.tmp 0),none,[]⟩,⟨some 32,.mov (.tmp 4),none,[]⟩,⟨some 33,.iaddr 3 (.tmp 31) (.tmp 32),none,[6,7]⟩,⟨some 34,.faddr 1 1 false (.tmp 33),none,[8,6,7]⟩,⟨some 35,.load none (.tmp 34),none,[9,8,6,7]⟩,⟨some 36,.call (.func 94) [.tmp 35,.const (.int .i64 0),.const (.int .i64 1000)],none,[10,9,8,6,7,5,4,3,2,0,1]⟩,⟨some 37,.mov (.tmp 0),none,[]⟩,⟨some 38,.mov (.tmp 4),none,[]⟩,⟨some 39,.iaddr 3 (.tmp 37) (.tmp 38),none,[12,13]⟩,⟨some 40,.faddr 2 1 false (.tmp 39),none,[14,12,13]⟩,⟨some 41,.load none (.tmp 40),none,[15,14,12,13]⟩,⟨some 42,.call (.func 94) [.tmp 41,.const (.int .i64 0),.const (.int .i64 100000)],none,[16,15,14,12,13,11,10,9,8,6,7,5,4,3,2,0,1]⟩,⟨some 43,.lit true 1 3 (.int .i64 0) [(0,(.tmp 30)),(1,(.tmp 36)),(2,(.tmp 42))],none,[5,4,3,2,0,1,11,10,9,8,6,7,17,16,15,14,12,13]⟩,⟨some 44,.call (.func 48) [.tmp 43],none,[18,5,4,3,2,0,1,11,10,9,8,6,7,17,16,15,14,12,13]⟩,⟨some 5,.mov (.tmp 44),none,[19,18,5,4,3,2,0,1,11,10,9,8,6,7,17,16,15,14,12,13]⟩]) (.seq (.ops false [⟨some 45,.mov (.tmp 5),none,[]⟩,⟨some 46,.bin .neq (.tmp 45) (.const (.int .i64 0)),none,[]⟩]) (.cond (.tmp 46) (.seq (.ops false [⟨some 47,.mov (.tmp 5),none,[]⟩,⟨some 2,.mov (.tmp 47),none,[]⟩]) .ret) .skip)))) (.ops false [⟨some 23,.mov (.tmp 4),none,[]⟩,⟨some 24,.bin .add (.tmp 23) (.const (.int .i64 1)),none,[]⟩,⟨some 4,.mov (.tmp 24),none,[]⟩])))
def dk30_0 : Keep := ⟨[],[0,4],[14]⟩
def dc30 : DFunc := ⟨48,1,[.tmp 2],.seq (.ops false [⟨some 2,.mov (.const (.int .i64 0)),none,[]⟩]) (.seq (.seq (.ops false [⟨some 6,.mov (.tmp 0),none,[]⟩,⟨some 7,.len (.tmp 6),none,[]⟩,⟨some 8,.bin .eql (.tmp 7) (.const (.int .i64 0)),none,[]⟩,⟨some 9,.call (.func 95) [.tmp 8,.const (.int .i64 12)],none,[]⟩,⟨some 10,.mov (.tmp 0),none,[]⟩,⟨some 11,.len (.tmp 10),none,[]⟩,⟨some 12,.bin .gtr (.tmp 11) (.const (.int .i64 64)),none,[]⟩,⟨some 13,.call (.func 95) [.tmp 12,.const (.int .i64 5)],none,[]⟩,⟨some 14,.lit true 1 2 (.int .i64 0) [(0,(.tmp 9)),(1,(.tmp 13))],none,[]⟩,⟨some 15,.call (.func 48) [.tmp 14],none,[]⟩,⟨some 3,.mov (.tmp 15),none,[]⟩]) (.seq (.ops false [⟨some 16,.mov (.tmp 3),none,[]⟩,⟨some 17,.bin .neq (.tmp 16) (.const (.int .i64 0)),none,[]⟩]) (.cond (.tmp 17) (.seq (.ops false [⟨some 18,.mov (.tmp 3),none,[]⟩,⟨some 2,.mov (.tmp 18),none,[]⟩]) .ret) .skip))) (.seq (.seq (.ops false [⟨some 4,.mov (.const (.int .i64 0)),none,[]⟩]) (.block 0 (some ⟨[],[],[14]⟩) (.loop dk30_0 db30_0))) (.seq (.ops false [⟨some 2,.mov (.const (.int .i64 0)),none,[]⟩]) .ret)))⟩
theorem dh30:cProg Go.Proofs.Tryz.prog ⟨[(0,⟨[],[0,4],[14]⟩)],[(0,⟨[],[],[14]⟩)],[14,43]⟩ 30=some dc30:=by kernel_rfl
def db48_0 : DC := (.seq (.seq (.ops false [⟨some 4,.mov (.tmp 3),none,[]⟩,⟨some 5,.mov (.tmp 0),none,[]⟩,⟨some 6,.len (.tmp 5),none,[]⟩,⟨some 7,.bin .lss (.tmp 4) (.tmp 6),none,[]⟩]) (.cond (.tmp 7) .skip (.exit 0))) (.seq (.block 1 none (.seq (.ops false [⟨some 10,.mov (.tmp 0),none,[]⟩,⟨some 11,.mov (.tmp 3),none,[]⟩,⟨some 12,.iaddr 1 (.tmp 10) (.tmp 11),none,[]⟩,⟨some 13,.load none (.tmp 12),none,[]⟩,⟨some 14,.bin .neq (.tmp 13) (.const (.int .i64 0)),none,[]⟩]) (.cond (.tmp 14) (.seq (.ops false [⟨some 15,.mov (.tmp 0),none,[]⟩,⟨some 16,.mov (.tmp 3),none,[]⟩,⟨some 17,.iaddr 1 (.tmp 15) (.tmp 16),none,[]⟩,⟨some 18,.load none (.tmp 17),none,[]⟩,⟨some 2,.mov (.tmp 18),none,[]⟩]) .ret) .skip))) (.ops false [⟨some 8,.mov (.tmp 3),none,[]⟩,⟨some 9,.bin .add (.tmp 8) (.const (.int .i64 1)),none,[]⟩,⟨some 3,.mov (.tmp 9),none,[]⟩])))
def dk48_0 : Keep := ⟨[],[0,3],[]⟩
def dc48 : DFunc := ⟨19,1,[.tmp 2],.seq (.ops false [⟨some 2,.mov (.const (.int .i64 0)),none,[]⟩]) (.seq (.seq (.ops false [⟨some 3,.mov (.const (.int .i64 0)),none,[]⟩]) (.block 0 (some ⟨[],[],[]⟩) (.loop dk48_0 db48_0))) (.seq (.ops false [⟨some 2,.mov (.const (.int .i64 0)),none,[]⟩]) .ret))⟩
theorem dh48:cProg Go.Proofs.Tryz.prog ⟨[(0,⟨[],[0,3],[]⟩)],[(0,⟨[],[],[]⟩)],[]⟩ 48=some dc48:=by kernel_rfl
def db83_0 : DC := (.seq (.seq (.ops false [⟨some 6,.mov (.tmp 5),none,[]⟩,⟨some 7,.mov (.tmp 0),none,[]⟩,⟨some 8,.len (.tmp 7),none,[]⟩,⟨some 9,.bin .lss (.tmp 6) (.tmp 8),none,[]⟩]) (.cond (.tmp 9) .skip (.exit 0))) (.seq (.block 1 none (.seq (.ops false [⟨some 12,.mov (.tmp 0),none,[]⟩,⟨some 13,.mov (.tmp 5),none,[]⟩,⟨some 14,.iaddr 1 (.tmp 12) (.tmp 13),none,[]⟩,⟨some 15,.load none (.tmp 14),none,[]⟩,⟨some 16,.mov (.tmp 1),none,[]⟩,⟨some 17,.bin .eql (.tmp 15) (.tmp 16),none,[]⟩]) (.cond (.tmp 17) (.seq (.ops false [⟨some 4,.mov (.const (.bool true)),none,[]⟩]) .ret) .skip))) (.ops false [⟨some 10,.mov (.tmp 5),none,[]⟩,⟨some 11,.bin .add (.tmp 10) (.const (.int .i64 1)),none,[]⟩,⟨some 5,.mov (.tmp 11),none,[]⟩])))
def dk83_0 : Keep := ⟨[],[0,1,5],[]⟩
def dc83 : DFunc := ⟨18,2,[.tmp 4],.seq (.ops false [⟨some 4,.mov (.const (.bool false)),none,[]⟩]) (.seq (.seq (.ops false [⟨some 5,.mov (.const (.int .i64 0)),none,[]⟩]) (.block 0 (some ⟨[],[],[]⟩) (.loop dk83_0 db83_0))) (.seq (.ops false [⟨some 4,.mov (.const (.bool false)),none,[]⟩]) .ret))⟩
theorem dh83:cProg Go.Proofs.Tryz.prog ⟨[(0,⟨[],[0,1,5],[]⟩)],[(0,⟨[],[],[]⟩)],[]⟩ 83=some dc83:=by kernel_rfl
def dc94 : DFunc := ⟨16,3,[.tmp 6],.seq (.ops false [⟨some 6,.mov (.const (.int .i64 0)),none,[]⟩]) (.seq (.ops false [⟨some 7,.mov (.tmp 0),none,[]⟩,⟨some 8,.mov (.tmp 1),none,[]⟩,⟨some 9,.bin .lss (.tmp 7) (.tmp 8),none,[]⟩,⟨some 10,.mov (.tmp 9),none,[]⟩,⟨some 11,.mov (.tmp 0),some (10,false),[]⟩,⟨some 12,.mov (.tmp 2),some (10,false),[]⟩,⟨some 13,.bin .gtr (.tmp 11) (.tmp 12),some (10,false),[]⟩,⟨some 14,.pick (.tmp 10) (.const (.bool true)) (.tmp 13),none,[]⟩,⟨some 15,.call (.func 95) [.tmp 14,.const (.int .i64 3)],none,[]⟩,⟨some 6,.mov (.tmp 15),none,[]⟩]) .ret)⟩
theorem dh94:cProg Go.Proofs.Tryz.prog ⟨[],[],[]⟩ 94=some dc94:=by kernel_rfl
def dc95 : DFunc := ⟨7,2,[.tmp 4],.seq (.ops false [⟨some 4,.mov (.const (.int .i64 0)),none,[]⟩]) (.seq (.seq (.ops false [⟨some 5,.mov (.tmp 0),none,[]⟩]) (.cond (.tmp 5) (.seq (.ops false [⟨some 6,.mov (.tmp 1),none,[]⟩,⟨some 4,.mov (.tmp 6),none,[]⟩]) .ret) .skip)) (.seq (.ops false [⟨some 4,.mov (.const (.int .i64 0)),none,[]⟩]) .ret))⟩
theorem dh95:cProg Go.Proofs.Tryz.prog ⟨[],[],[]⟩ 95=some dc95:=by kernel_rfl
def dc96 : DFunc := ⟨22,3,[.tmp 6],.seq (.ops false [⟨some 3,.box 6 (.tmp 0),none,[]⟩,⟨some 4,.box 3 (.tmp 1),none,[]⟩,⟨some 6,.mov (.const (.int .i64 0)),none,[]⟩]) (.seq (.seq (.ops false [⟨some 7,.faddr 1 1 false (.tmp 4),none,[]⟩,⟨some 8,.load none (.tmp 7),none,[]⟩,⟨some 9,.faddr 0 1 false (.tmp 3),none,[]⟩,⟨some 10,.load none (.tmp 9),none,[]⟩,⟨some 11,.bin .geq (.tmp 8) (.tmp 10),none,[]⟩]) (.cond (.tmp 11) (.ops false [⟨some 12,.mov (.tmp 2),none,[]⟩,⟨some 13,.faddr 1 1 false (.tmp 3),none,[]⟩,⟨some 14,.load none (.tmp 13),none,[]⟩,⟨some 15,.bin .mul (.tmp 12) (.tmp 14),none,[]⟩,⟨some 16,.bin .quo (.tmp 15) (.const (.int .i64 1000)),none,[]⟩,⟨some 2,.mov (.tmp 16),none,[]⟩]) .skip)) (.seq (.ops false [⟨some 17,.mov (.tmp 2),none,[]⟩,⟨some 18,.faddr 0 1 false (.tmp 4),none,[]⟩,⟨some 19,.load none (.tmp 18),none,[]⟩,⟨some 20,.bin .add (.tmp 17) (.tmp 19),none,[]⟩,⟨some 21,.minmax false (.const (.int .i64 1000)) [.tmp 20],none,[]⟩,⟨some 6,.mov (.tmp 21),none,[]⟩]) .ret))⟩
theorem dh96:cProg Go.Proofs.Tryz.prog ⟨[],[],[]⟩ 96=some dc96:=by kernel_rfl
def db97_0 : DC := (.seq (.seq (.ops false [⟨some 16,.mov (.tmp 11),none,[]⟩,⟨some 17,.mov (.tmp 3),none,[]⟩,⟨some 18,.bin .lss (.tmp 16) (.tmp 17),none,[]⟩]) (.cond (.tmp 18) .skip (.exit 0))) (.seq (.block 1 none (.ops false [⟨some 21,.mov (.tmp 10),none,[]⟩,⟨some 22,.mov (.tmp 9),none,[]⟩,⟨some 23,.mov (.tmp 11),none,[]⟩,⟨some 24,.iaddr 1 (.tmp 22) (.tmp 23),none,[]⟩,⟨some 25,.load none (.tmp 24),none,[]⟩,⟨some 26,.bin .add (.tmp 21) (.tmp 25),none,[]⟩,⟨some 10,.mov (.tmp 26),none,[]⟩])) (.ops false [⟨some 19,.mov (.tmp 11),none,[]⟩,⟨some 20,.bin .add (.tmp 19) (.const (.int .i64 1)),none,[]⟩,⟨some 11,.mov (.tmp 20),none,[]⟩])))
def dk97_0 : Keep := ⟨[],[3,9,10,11],[4]⟩
def dc97 : DFunc := ⟨28,4,[.tmp 8],.seq (.ops false [⟨some 4,.box 6 (.tmp 0),none,[]⟩,⟨some 8,.mov (.const (.int .i64 0)),none,[]⟩]) (.seq (.ops false [⟨some 12,.load (some 6) (.tmp 4),none,[]⟩,⟨some 13,.mov (.tmp 1),none,[]⟩,⟨some 14,.call (.func 26) [.tmp 12,.tmp 13],none,[]⟩,⟨some 9,.mov (.tmp 14),none,[]⟩]) (.seq (.ops false [⟨some 10,.mov (.const (.int .i64 0)),none,[]⟩]) (.seq (.seq (.ops false [⟨some 15,.mov (.tmp 2),none,[]⟩,⟨some 11,.mov (.tmp 15),none,[]⟩]) (.block 0 (some ⟨[],[10],[4]⟩) (.loop dk97_0 db97_0))) (.seq (.ops false [⟨some 27,.mov (.tmp 10),none,[]⟩,⟨some 8,.mov (.tmp 27),none,[]⟩]) .ret))))⟩
theorem dh97:cProg Go.Proofs.Tryz.prog ⟨[(0,⟨[],[3,9,10,11],[4]⟩)],[(0,⟨[],[10],[4]⟩)],[]⟩ 97=some dc97:=by kernel_rfl
end Sh

namespace Sh
open Go Go.Proofs
theorem q_When (b:Bool) (e:Int):PC 95 [.bool b,DV.int .i64 (e)] (DV.int .i64 (whenE b e)):=by
 refine pureCall_ofR dh95 rfl ?_
 conv=>whnf
 refine ⟨fun hb=>?_,fun hb=>?_⟩<;>try (exact absurd hb (by decide))
 all_goals conv=>whnf
 all_goals subst hb;rfl
theorem q_CheckRange (n l h:Int):PC 94 [DV.int .i64 (n),DV.int .i64 (l),DV.int .i64 (h)] (DV.int .i64 (withE n l h)):=by
 refine pureCall_ofR dh94 rfl ?_
 conv=>whnf
 refine ⟨fun hb=>?_,fun hb=>?_⟩<;>try (exact absurd hb (by decide))
 all_goals conv=>whnf
 ·refine .inl ?_
  conv=>whnf
  refine ⟨_,q_When ..,?_⟩
  conv=>whnf
  exact int_eq (by simp_all [withE,whenE];split<;>split<;>omega)
 ·refine .inl ?_
  conv=>whnf
  refine ⟨_,q_When ..,?_⟩
  conv=>whnf
  exact int_eq (by simp_all [withE,whenE])
theorem q_First (l:List Int) (hl:l.length < 4611686018427387904):PC 48 [iL l] (DV.int .i64 (firstE l)):=by
 refine pureCall_ofR dh48 rfl ?_
 conv=>whnf
 refine dwp_loopR (P:=Tryz.prog) (G:=GC) (k:=dk48_0) (b:=db48_0) (α:=Nat) (fun i=>[(0,iL l),(3,DV.int .i64 (i))]) (fun _=>[]) (fun i=>i≤l.length∧firstE l=firstE (l.drop i)) (fun i=>l.length - i) 0 ⟨rfl,rfl,rfl⟩ ⟨Nat.zero_le _,rfl⟩ ?_
 intro i ⟨h1,h2⟩
 conv=>whnf
 refine ⟨fun hb=>?_,fun hb=>?_⟩<;>try (exact absurd hb (by decide))
 ·have hi:i < l.length:=by simpa using hb
  have hd:=firstE_drop l i hi
  conv=>whnf
  rw [getD_enc _ _ (i) 0 hi]
  refine ⟨idxA hi rfl,?_⟩
  conv=>whnf
  refine ⟨fun hb=>?_,fun hb=>?_⟩<;>try (exact absurd hb (by decide))
  ·conv=>whnf
   rw [getD_enc _ _ (i) 0 hi]
   refine ⟨idxA hi rfl,?_⟩
   conv=>whnf
   exact int_eq (by simp_all)
  ·conv=>whnf
   rw [wrap_succ i (by omega)]
   exact ⟨i+1,rfl,rfl,rfl,⟨hi,by simp_all⟩,by omega⟩
 ·conv=>whnf
  have:i=l.length:=by simp at hb;omega
  subst this
  exact int_eq (by rw [h2];simp [firstE])
end Sh

namespace Sh
open Go
theorem lightF_cons (s:Sn) (so:Int) (d:Dy) (r:List Dy):lightF s so (d :: r)=lgtS d so :: lightF s (aftS s d so) r:=rfl
theorem soilF_clean (s:Sn) (ws:List Int):∀ (l:List Dy) (i:Nat) (so:Int),(∀ k:Nat,i≤k→(k:Int) ∉ ws)→List.zipWith lgtS l (soilF s ws i so l)=lightF s so l
 |[],i,so,_=>rfl
 |d :: r,i,so,h=>by
  have hw:wshS ws i so=so:=by unfold wshS;rw [if_neg (h i (Nat.le_refl _))]
  unfold soilF
  rw [hw,List.zipWith_cons_cons,soilF_clean s ws r (i+1) _ (fun k hk=>h k (by omega)),lightF_cons]
theorem yldS_nil (s:Sn):yldS s []=lightF s s.soil s.days:=soilF_clean s [] _ _ _ (fun k _=>by simp)
theorem sumI_cons (a:Int) (l:List Int):sumI (a :: l)=a+sumI l:=rfl
end Sh

namespace Sh
open Go
theorem cmpI_neg {a b:Int}:cmpI a b < 0 ↔ a < b:=by unfold cmpI;split<;>(try split)<;>omega
theorem cmpI_zero {a b:Int}:cmpI a b=0 ↔ a=b:=by unfold cmpI;split<;>(try split)<;>omega
end Sh

namespace Sh
open Go Go.Proofs
theorem firstE_two (a b:Int) (r:List Int):firstE (a :: b :: r)=if firstE [a,b]≠0 then firstE [a,b] else firstE r:=by
 simp only [firstE]
 split
 ·rfl
 ·split<;>rfl
theorem r_CheckDays (l:List Dy) (hl:l.length < 1073741824):PC 30 [dysV l] (DV.int .i64 (chkDs l)):=by
 have e0:((l.map encD).length:Int)=l.length:=by simp
 have hk:chkDs l=if firstE [whenE (decide (((l.map encD).length:Int)=0)) 12,whenE (decide ((64:Int) < ((l.map encD).length:Int))) 5]≠0 then firstE [whenE (decide (((l.map encD).length:Int)=0)) 12,whenE (decide ((64:Int) < ((l.map encD).length:Int))) 5] else firstE (l.map chkDy):=by
  unfold chkDs
  rw [firstE_two,firstE_one,e0,show decide ((l.length:Int)=0)=decide (l.length=0) by rw [decide_eq_decide];omega,show decide ((64:Int) < l.length)=decide (64 < l.length) by rw [decide_eq_decide];omega]
 refine pureCall_ofR dh30 rfl ?_
 conv=>whnf
 repeat' (first
  |(refine ⟨fun hg=>?_,fun hg=>?_⟩<;>first|contradiction|(conv=>whnf))
  |(refine Or.inl ?_;conv=>whnf)
  |(refine ⟨_,q_When ..,?_⟩;conv=>whnf)
  |(refine ⟨_,q_First [_,_] (by simp),?_⟩;conv=>whnf)
  |(refine And.intro ?_ ?_;kernel_rfl;conv=>whnf))
 ·have hg:=of_decide_eq_true hg
  exact int_eq (by rw [hk,if_pos hg])
 ·have hg:=of_decide_eq_false hg
  rw [if_neg hg] at hk
  clear hg
  refine dwp_loopU (P:=Tryz.prog) (G:=GC) (k:=dk30_0) (b:=db30_0) (α:=Nat) (fun i=>[(4,DV.int .i64 (i))]) (fun _=>[]) (fun i=>i≤l.length∧chkDs l=firstE ((l.map chkDy).drop i)) (fun i=>l.length - i) 0 ⟨Nat.zero_le _,hk⟩ ?_
  conv=>whnf
  refine ⟨rfl,rfl,?_⟩
  conv=>whnf
  refine ⟨rfl,?_⟩
  intro i ⟨h1,h2⟩
  conv=>whnf
  refine ⟨fun hb=>?_,fun hb=>?_⟩
  ·have hi:i < l.length:=by simpa using hb
   have hd:=firstE_drop (l.map chkDy) i (by simpa using hi)
   rw [show (l.map chkDy).getD i 0=chkDy (l.getD i D0) by simp [List.getD_eq_getElem?_getD,hi]] at hd
   clear hb
   conv=>whnf
   repeat' (first
    |(refine ⟨fun hg=>?_,fun hg=>?_⟩<;>first|contradiction|(conv=>whnf))
    |(refine Or.inl ?_;conv=>whnf)
    |(refine ⟨_,q_CheckRange ..,?_⟩;conv=>whnf)
    |(refine ⟨_,q_First [_,_,_] (by simp),?_⟩;conv=>whnf)
    |(rw [getD_enc _ _ i D0 hi];refine ⟨idxA hi rfl,?_⟩;conv=>whnf)
    |(refine And.intro ?_ ?_;kernel_rfl;conv=>whnf))
   ·have hg:chkDy (l.getD i D0)≠0:=of_decide_eq_true hg
    rw [if_pos hg] at hd
    exact int_eq (by rw [h2,hd];rfl)
   ·have hg:¬ chkDy (l.getD i D0)≠0:=of_decide_eq_false hg
    rw [if_neg hg] at hd
    rw [wrap_succ i (by omega)]
    exact ⟨i+1,rfl,rfl,rfl,⟨hi,by rw [h2,hd]⟩,by omega⟩
  ·have hi:i=l.length:=by have:=of_decide_eq_false hb;rw [e0] at this;omega
   clear hb
   conv=>whnf
   exact int_eq (by rw [h2,hi,List.drop_of_length_le (by simp)];rfl)
theorem r_CheckSeason (s:Sn) (hl:s.days.length < 1073741824):PC 23 [encS s] (DV.int .i64 (chkSn s)):=by
 have k1:=r_CheckDays s.days hl
 refine pureCall_ofR dh23 rfl ?_
 conv=>whnf
 repeat' (first
  |(refine ⟨fun hg=>?_,fun hg=>?_⟩<;>first|contradiction|(conv=>whnf))
  |(refine Or.inl ?_;conv=>whnf)
  |(refine ⟨_,k1,?_⟩;conv=>whnf)
  |(refine ⟨_,q_CheckRange ..,?_⟩;conv=>whnf)
  |(refine ⟨_,q_First [_,_,_,_,_,_] (by simp),?_⟩;conv=>whnf)
  |(refine And.intro ?_ ?_;kernel_rfl;conv=>whnf))
 rfl
end Sh

namespace Sh
open Go Go.Proofs
theorem q_HasInt (l:List Int) (n:Int) (hl:l.length < 4611686018427387904):PC 83 [iL l,DV.int .i64 (n)] (.bool (decide (n ∈ l))):=by
 have e0:((l.map (DV.int .i64)).length:Int)=l.length:=by simp
 refine pureCall_ofR dh83 rfl ?_
 conv=>whnf
 refine dwp_loopR (P:=Tryz.prog) (G:=GC) (k:=dk83_0) (b:=db83_0) (α:=Nat) (fun i=>[(0,iL l),(1,DV.int .i64 (n)),(5,DV.int .i64 (i))]) (fun _=>[]) (fun i=>i≤l.length∧n ∉ l.take i) (fun i=>l.length - i) 0 ⟨rfl,rfl,rfl⟩ ⟨Nat.zero_le _,by simp⟩ ?_
 intro i ⟨h1,h2⟩
 conv=>whnf
 refine ⟨fun hb=>?_,fun hb=>?_⟩
 ·have hi:i < l.length:=by simpa using hb
  clear hb
  conv=>whnf
  rw [getD_enc _ _ (i) 0 hi]
  refine ⟨idxA hi rfl,?_⟩
  conv=>whnf
  refine ⟨fun hg=>?_,fun hg=>?_⟩
  ·have hg:l.getD i 0=n:=of_decide_eq_true hg
   conv=>whnf
   exact bool_eq (decide_eq_true (by rw [← hg];exact getD_in 0 hi)).symm
  ·have hg:¬ l.getD i 0=n:=of_decide_eq_false hg
   conv=>whnf
   rw [wrap_succ i (by omega)]
   refine ⟨i+1,rfl,rfl,rfl,⟨hi,?_⟩,by omega⟩
   rw [take_snoc l i 0 hi,List.mem_append]
   rintro (h|h)
   ·exact h2 h
   ·simp only [List.mem_cons,List.not_mem_nil,or_false] at h;exact hg h.symm
 ·have hi:i=l.length:=by have:=of_decide_eq_false hb;rw [e0] at this;omega
  rw [hi,List.take_length] at h2
  conv=>whnf
  exact bool_eq (decide_eq_false h2).symm
end Sh

namespace Sh
open Go
theorem cmpI_self (a:Int):cmpI a a=0:=cmpI_zero.2 rfl
theorem cmpI_swap (a b:Int):cmpI b a = -cmpI a b:=by unfold cmpI;split<;>(try split)<;>(try split)<;>omega
theorem cmpL_self:∀ a:List Int,cmpL a a=0
 |[]=>rfl
 |a :: r=>by unfold cmpL;rw [cmpI_self,if_neg (by simp)];exact cmpL_self r
theorem cmpL_swap:∀ a b:List Int,cmpL b a = -cmpL a b
 |[],[]=>rfl
 |[],_ :: _=>rfl
 |_ :: _,[]=>rfl
 |a :: r,b :: t=>by
  unfold cmpL
  rw [cmpI_swap a b]
  have:=cmpL_swap r t
  split<;>split<;>omega
theorem cmpL_zero:∀ {a b:List Int},cmpL a b=0→a=b
 |[],[],_=>rfl
 |[],_ :: _,h=>by cases h
 |_ :: _,[],h=>by cases h
 |a :: r,b :: t,h=>by
  unfold cmpL at h
  split at h
  ·rename_i h1;exact absurd h h1
  ·rename_i h1
   rw [cmpI_zero.1 (Classical.not_not.1 h1),cmpL_zero h]
theorem cmpL_trans:∀ {a b c:List Int},cmpL a b≤0→cmpL b c≤0→cmpL a c≤0
 |[],[],_,_,h=>h
 |[],_ :: _,[],_,h=>by unfold cmpL at h;omega
 |[],_ :: _,_ :: _,_,_=>by unfold cmpL;omega
 |_ :: _,[],_,h,_=>by unfold cmpL at h;omega
 |_ :: _,_ :: _,[],_,h=>by unfold cmpL at h;omega
 |a :: r,b :: t,c :: u,h1,h2=>by
  unfold cmpL at h1 h2 ⊢
  by_cases e1:a=b
  ·subst e1
   rw [cmpI_self,if_neg (by simp)] at h1
   split
   ·rename_i h3;rw [if_pos h3] at h2;exact h2
   ·rename_i h3;rw [if_neg h3] at h2;exact cmpL_trans h1 h2
  ·have e1':cmpI a b≠0:=fun h=>e1 (cmpI_zero.1 h)
   rw [if_pos e1'] at h1
   have hab:=cmpI_neg.1 (show cmpI a b < 0 by omega)
   have hbc:b≤c:=by
    by_cases e2:b=c
    ·omega
    ·have e2':cmpI b c≠0:=fun h=>e2 (cmpI_zero.1 h)
     rw [if_pos e2'] at h2
     have:=cmpI_neg.1 (show cmpI b c < 0 by omega);omega
   have:=cmpI_neg.2 (show a < c by omega)
   rw [if_pos (by omega)];omega
def leP (a b:Pl):Prop:=cmpP a b≤0
theorem leP_iff (a b:Pl):leP a b ↔ b.worth < a.worth∨(a.worth=b.worth∧(a.idx.length < b.idx.length∨(a.idx.length=b.idx.length∧cmpL a.idx b.idx≤0))):=by
 unfold leP cmpP
 have h1:=@cmpI_neg b.worth a.worth
 have h2:=@cmpI_zero b.worth a.worth
 have h3:=@cmpI_neg (a.idx.length:Int) (b.idx.length:Int)
 have h4:=@cmpI_zero (a.idx.length:Int) (b.idx.length:Int)
 split
 ·omega
 ·split<;>omega
theorem leP_refl (a:Pl):leP a a:=(leP_iff a a).2 (.inr ⟨rfl,.inr ⟨rfl,by rw [cmpL_self];exact Int.le_refl _⟩⟩)
theorem leP_trans {a b c:Pl} (h1:leP a b) (h2:leP b c):leP a c:=by
 rw [leP_iff] at *
 rcases h1 with h1|⟨h1,h1'⟩
 ·rcases h2 with h2|⟨h2,_⟩<;>exact .inl (by omega)
 ·rcases h2 with h2|⟨h2,h2'⟩
  ·exact .inl (by omega)
  ·refine .inr ⟨by omega,?_⟩
   rcases h1' with h1'|⟨h1',h1''⟩
   ·rcases h2' with h2'|⟨h2',_⟩<;>exact .inl (by omega)
   ·rcases h2' with h2'|⟨h2',h2''⟩
    ·exact .inl (by omega)
    ·exact .inr ⟨by omega,cmpL_trans h1'' h2''⟩
theorem leP_anti {a b:Pl} (h1:leP a b) (h2:leP b a):a=b:=by
 rw [leP_iff] at *
 have hw:a.worth=b.worth:=by omega
 have hl:cmpL a.idx b.idx≤0∧cmpL b.idx a.idx≤0:=by omega
 have hz:cmpL a.idx b.idx=0:=by rw [cmpL_swap a.idx b.idx] at hl;omega
 have hi:=cmpL_zero hz
 cases a;cases b;simp_all
theorem leP_of_not {a b:Pl} (h:¬ cmpP a b < 0):leP b a:=by
 rw [leP_iff]
 have:=(leP_iff a b)
 unfold leP at this
 by_cases e:cmpP a b=0
 ·have h1:=this.1 (by omega)
  have h2:a=b:=by
   unfold cmpP at e
   split at e
   ·rename_i h;exact absurd e h
   ·rename_i h3
    split at e
    ·rename_i h;exact absurd e h
    ·have hw:=cmpI_zero.1 (Classical.not_not.1 h3)
     have hi:=cmpL_zero e
     cases a;cases b;simp_all
  subst h2
  exact .inr ⟨rfl,.inr ⟨rfl,by rw [cmpL_self];exact Int.le_refl _⟩⟩
 ·have h1:=mt this.2 (by omega)
  have:=cmpL_swap a.idx b.idx
  omega
theorem leP_of_lt {a b:Pl} (h:cmpP a b < 0):leP a b:=Int.le_of_lt h
theorem minP_le:∀ (l:List Pl) (m:Pl),leP (minP m l) m∧∀ x ∈ l,leP (minP m l) x
 |[],m=>⟨leP_refl m,by simp⟩
 |x :: r,m=>by
  unfold minP
  obtain ⟨h1,h2⟩:=minP_le r (if cmpP x m < 0 then x else m)
  have h3:leP (if cmpP x m < 0 then x else m) m∧leP (if cmpP x m < 0 then x else m) x:=by
   split
   ·rename_i h;exact ⟨leP_of_lt h,leP_refl x⟩
   ·rename_i h;exact ⟨leP_refl m,leP_of_not h⟩
  refine ⟨leP_trans h1 h3.1,fun y hy=>?_⟩
  rcases List.mem_cons.1 hy with rfl|hy
  ·exact leP_trans h1 h3.2
  ·exact h2 y hy
theorem bestP_le {l:List Pl}:∀ x ∈ l,leP (bestP l) x:=by
 cases l with
 |nil=>simp
 |cons x r =>
  intro y hy
  rcases List.mem_cons.1 hy with rfl|hy
  ·exact (minP_le r y).1
  ·exact (minP_le r x).2 y hy
theorem bestP_eq {l:List Pl} {b:Pl} (hb:b ∈ l) (h:∀ x ∈ l,leP b x):bestP l=b :=
 leP_anti (bestP_le b hb) (h _ (bestP_mem (by rintro rfl;cases hb)))
theorem leP_cons {a b:Pl} (h:leP a b) (d c:Int):leP ⟨d :: a.idx,c+a.worth⟩ ⟨d :: b.idx,c+b.worth⟩:=by
 rw [leP_iff] at *
 show c+b.worth < c+a.worth∨(c+a.worth=c+b.worth∧((d :: a.idx).length < (d :: b.idx).length∨((d :: a.idx).length=(d :: b.idx).length∧cmpL (d :: a.idx) (d :: b.idx)≤0)))
 have e:cmpL (d :: a.idx) (d :: b.idx)=cmpL a.idx b.idx:=by
  show (if cmpI d d≠0 then cmpI d d else cmpL a.idx b.idx)=_
  rw [cmpI_self,if_neg (by simp)]
 rw [e,List.length_cons,List.length_cons]
 omega
theorem leP_add {a b:Pl} (h:leP a b) (c:Int):leP ⟨a.idx,c+a.worth⟩ ⟨b.idx,c+b.worth⟩:=by
 rw [leP_iff] at *
 show c+b.worth < c+a.worth∨(c+a.worth=c+b.worth∧(a.idx.length < b.idx.length∨(a.idx.length=b.idx.length∧cmpL a.idx b.idx≤0)))
 omega
end Sh

namespace Sh
open Go
theorem soilF_congr (s:Sn) (ws ws':List Int):∀ (l:List Dy) (i:Nat) (so:Int),(∀ k:Nat,i≤k→((k:Int) ∈ ws ↔ (k:Int) ∈ ws'))→soilF s ws i so l=soilF s ws' i so l
 |[],i,so,_=>rfl
 |d :: r,i,so,h=>by
  have hw:wshS ws i so=wshS ws' i so:=by
   unfold wshS
   by_cases e:(i:Int) ∈ ws
   ·rw [if_pos e,if_pos ((h i (Nat.le_refl _)).1 e)]
   ·rw [if_neg e,if_neg (fun e'=>e ((h i (Nat.le_refl _)).2 e'))]
  unfold soilF
  rw [hw,soilF_congr s ws ws' r (i+1) _ (fun k hk=>h k (by omega))]
def totF (s:Sn) (ws:List Int) (i:Nat) (so:Int) (l:List Dy):Int:=sumI (List.zipWith lgtS l (soilF s ws i so l))
theorem totF_nil (s:Sn) (i:Nat) (so:Int) (l:List Dy):totF s [] i so l=sumI (lightF s so l):=by unfold totF;rw [soilF_clean s [] l i so (fun k _=>by simp)]
theorem totF_cons (s:Sn) (ws:List Int) (i:Nat) (so:Int) (d:Dy) (r:List Dy):totF s ws i so (d :: r)=lgtS d (wshS ws i so)+totF s ws (i+1) (aftS s d (wshS ws i so)) r:=by
 show sumI (List.zipWith lgtS (d :: r) (wshS ws i so :: soilF s ws (i+1) (aftS s d (wshS ws i so)) r))=_
 rw [List.zipWith_cons_cons,sumI_cons];rfl
theorem totF_congr {s:Sn} {ws ws':List Int} {i:Nat} {so:Int} {l:List Dy} (h:∀ k:Nat,i≤k→((k:Int) ∈ ws ↔ (k:Int) ∈ ws')):totF s ws i so l=totF s ws' i so l:=by unfold totF;rw [soilF_congr s ws ws' l i so h]
theorem totF_head (s:Sn) (n:Nat) (e:Nat) (rest:List Int) (hi:Inc n e rest):∀ (l:List Dy) (i:Nat) (so:Int),i≤e→e < i+l.length →
  totF s ((e:Int) :: rest) i so l=sumI ((lightF s so l).take (e - i))+totF s rest e 0 (l.drop (e - i))
 |[],i,so,h1,h2=>by simp at h2;omega
 |d :: r,i,so,h1,h2=>by
  rw [totF_cons]
  by_cases e0:i=e
  ·subst e0
   have hw:wshS ((i:Int) :: rest) i so=0:=by unfold wshS;rw [if_pos (by simp)]
   have hw2:wshS rest i 0=0:=by unfold wshS;split<;>rfl
   rw [hw,Nat.sub_self,List.drop_zero,totF_cons,hw2,List.take_zero,show sumI []=0 from rfl,Int.zero_add]
   congr 1
   refine totF_congr fun k hk=>?_
   rw [List.mem_cons]
   constructor
   ·rintro (h|h)
    ·omega
    ·exact h
   ·exact .inr
  ·have hw:wshS ((e:Int) :: rest) i so=so:=by
    unfold wshS
    rw [if_neg]
    rw [List.mem_cons]
    rintro (h|h)
    ·omega
    ·have:=inc_gt hi _ h;omega
   rw [List.length_cons] at h2
   rw [hw,totF_head s n e rest hi r (i+1) _ (by omega) (by omega),show e - i=(e - (i+1))+1 by omega,lightF_cons,List.take_succ_cons,sumI_cons,List.drop_succ_cons]
   omega
def valE (s:Sn) (e:Nat) (rest:List Int):Int:=s.price * totF s rest e 0 (s.days.drop e) - s.cost * (rest.length+1)
def PV (s:Sn) (e:Nat) (rest:List Int):Pl:=⟨(e:Int) :: rest,valE s e rest⟩
theorem partS_all (s:Sn) (d:Nat):partS s d (s.days.length - d)=sumI (lightF s 0 (s.days.drop d)):=by
 unfold partS
 rw [List.take_of_length_le (by rw [lightF_len,List.length_drop];exact Nat.le_refl _)]
theorem valE_nil (s:Sn) (d:Nat):valE s d []=s.price * partS s d (s.days.length - d) - s.cost:=by
 unfold valE
 rw [totF_nil,partS_all,List.length_nil];simp
theorem valE_cons (s:Sn) (d f:Nat) (r:List Int) (h1:d < f) (h2:f < s.days.length) (hr:Inc s.days.length f r):valE s d ((f:Int) :: r)=s.price * partS s d (f - d) - s.cost+valE s f r:=by
 unfold valE partS
 rw [totF_head s s.days.length f r hr (s.days.drop d) d 0 (by omega) (by rw [List.length_drop];omega),List.drop_drop,show d+(f - d)=f by omega,List.length_cons,Int.mul_add,Int.natCast_add,Int.mul_add,Int.mul_add]
 simp only [Int.natCast_one,Int.mul_one,Int.mul_add]
 omega
def BestAt (s:Sn) (d:Nat) (p:Pl):Prop:=(∃ r,Inc s.days.length d r∧p=PV s d r)∧∀ r,Inc s.days.length d r→leP p (PV s d r)
theorem plans_best (s:Sn):∀ k,k≤s.days.length→∀ j,j≤k→if j=k then (plansF s k).getD j P00=P00 else BestAt s (s.days.length - k+j) ((plansF s k).getD j P00)
 |0,_,j,hj=>by
  have:j=0:=by omega
  subst this;rfl
 |k+1,hk,j,hj=>by
  have ih:=plans_best s k (by omega)
  unfold plansF
  cases j with
  |succ j =>
   have h:=ih j (by omega)
   rw [List.getD_cons_succ,show s.days.length - (k+1)+(j+1)=s.days.length - k+j by omega]
   by_cases e:j=k
   ·rw [if_pos e] at h;rw [if_pos (by omega)];exact h
   ·rw [if_neg e] at h;rw [if_neg (by omega)];exact h
  |zero =>
   rw [if_neg (by omega),Nat.add_zero,List.getD_cons_zero]
   obtain ⟨d,hd⟩:∃ d,d=s.days.length - (k+1):=⟨_,rfl⟩
   rw [← hd]
   have hn:s.days.length - d=k+1:=by omega
   -- each candidate
   have hcand:∀ i,i≤k→(⟨(d:Int) :: ((plansF s k).getD i P00).idx,s.price * partS s d (i+1) - s.cost+((plansF s k).getD i P00).worth⟩:Pl) ∈ candP s d (plansF s k):=fun i hi=>by
    unfold candP;rw [hn]
    exact List.mem_map.2 ⟨i,List.mem_range.2 (by omega),rfl⟩
   have hend:(⟨(d:Int) :: ((plansF s k).getD k P00).idx,s.price * partS s d (k+1) - s.cost+((plansF s k).getD k P00).worth⟩:Pl)=PV s d []:=by
    have h:=ih k (Nat.le_refl _)
    rw [if_pos rfl] at h
    rw [h]
    unfold PV
    rw [valE_nil,hn]
    show (⟨_,_+0⟩:Pl)=_
    rw [Int.add_zero];rfl
   have hmid:∀ i,i < k→∀ r,Inc s.days.length (((d+1+i:Nat)):Int) r→(⟨(d:Int) :: (PV s (d+1+i) r).idx,s.price * partS s d (i+1) - s.cost+(PV s (d+1+i) r).worth⟩:Pl)=PV s d (((d+1+i:Nat):Int) :: r):=fun i hi r hr=>by
    show (⟨_,_+valE s (d+1+i) r⟩:Pl)=⟨_,valE s d _⟩
    rw [valE_cons s d (d+1+i) r (by omega) (by omega) hr,show d+1+i - d=i+1 by omega];rfl
   have hix:s.days.length - k=d+1:=by omega
   have hne:candP s d (plansF s k)≠[]:=fun e=>by have:=hcand 0 (by omega);rw [e] at this;cases this
   have hb:=bestP_mem hne
   refine ⟨?_,fun r hr=>?_⟩
   ·generalize bestP (candP s d (plansF s k))=b at hb
    unfold candP at hb
    rw [hn] at hb
    obtain ⟨i,hi,rfl⟩:=List.mem_map.1 hb
    have hi:=List.mem_range.1 hi
    by_cases e:i=k
    ·subst e;exact ⟨[],trivial,hend⟩
    ·have h:=ih i (by omega)
     rw [if_neg e,hix] at h
     obtain ⟨⟨r,hr,hp⟩,_⟩:=h
     rw [hp]
     refine ⟨((d+1+i:Nat):Int) :: r,⟨by omega,by omega,hr⟩,hmid i (by omega) r hr⟩
   ·cases r with
    |nil=>rw [← hend];exact bestP_le _ (hcand k (Nat.le_refl _))
    |cons f r =>
     obtain ⟨h1,h2,h3⟩:=hr
     obtain ⟨f,rfl⟩:=Int.eq_ofNat_of_zero_le (show 0≤f by omega)
     have hdf:d < f:=by omega
     obtain ⟨i,rfl⟩:∃ i,f=d+1+i:=⟨f - (d+1),by omega⟩
     have hi:i < k:=by omega
     have h:=ih i (by omega)
     rw [if_neg (by omega),hix] at h
     have h4:=h.2 r h3
     have h5:=leP_cons h4 (d:Int) (s.price * partS s d (i+1) - s.cost)
     rw [hmid i hi r h3] at h5
     exact leP_trans (bestP_le _ (hcand i (by omega))) h5
def planW (s:Sn) (ws:List Int):Pl:=⟨ws,worthS s ws⟩
theorem worth_nil (s:Sn):worthS s []=s.price * sumI (lightF s s.soil s.days):=by
 unfold worthS
 rw [yldS_nil];simp
theorem worth_cons (s:Sn) (e:Nat) (r:List Int) (h:e < s.days.length) (hr:Inc s.days.length e r):worthS s ((e:Int) :: r)=s.price * sumI ((lightF s s.soil s.days).take e)+valE s e r:=by
 have h1:=totF_head s s.days.length e r hr s.days 0 s.soil (Nat.zero_le _) (by omega)
 unfold worthS valE
 rw [show sumI (yldS s ((e:Int) :: r))=totF s ((e:Int) :: r) 0 s.soil s.days from rfl,h1,Nat.sub_zero,List.length_cons,Int.mul_add]
 simp only [Int.natCast_add,Int.natCast_one]
 omega
theorem planned_best (s:Sn):(∃ ws,Inc s.days.length (-1) ws∧plannedS s=planW s ws)∧∀ ws,Inc s.days.length (-1) ws→leP (plannedS s) (planW s ws):=by
 have ih:=plans_best s s.days.length (Nat.le_refl _)
 have hmem:∀ x,x ∈ headC s++[⟨[],s.price * sumI (lightF s s.soil s.days)⟩] ↔ (∃ i,i < s.days.length∧x=⟨((plansS s).getD i P00).idx,s.price * sumI ((lightF s s.soil s.days).take i)+((plansS s).getD i P00).worth⟩)∨x=planW s []:=fun x=>by
  rw [List.mem_append,List.mem_singleton]
  unfold headC planW
  rw [worth_nil]
  constructor
  ·rintro (h|h)
   ·obtain ⟨i,hi,rfl⟩:=List.mem_map.1 h
    exact .inl ⟨i,List.mem_range.1 hi,rfl⟩
   ·exact .inr h
  ·rintro (⟨i,hi,rfl⟩|h)
   ·exact .inl (List.mem_map.2 ⟨i,List.mem_range.2 hi,rfl⟩)
   ·exact .inr h
 have hpv:∀ i r,i < s.days.length→Inc s.days.length i r→(⟨(PV s i r).idx,s.price * sumI ((lightF s s.soil s.days).take i)+(PV s i r).worth⟩:Pl)=planW s ((i:Int) :: r):=fun i r hi hr=>by
  unfold planW
  rw [worth_cons s i r hi hr];rfl
 have hat:∀ i,i < s.days.length→BestAt s i ((plansS s).getD i P00):=fun i hi=>by
  have h:=ih i (by omega)
  rw [if_neg (by omega),Nat.sub_self,Nat.zero_add] at h
  exact h
 refine ⟨?_,fun ws hws=>?_⟩
 ·have hb:plannedS s ∈ headC s++[⟨[],s.price * sumI (lightF s s.soil s.days)⟩]:=bestP_mem (by simp)
  rcases (hmem _).1 hb with ⟨i,hi,e⟩|e
  ·obtain ⟨⟨r,hr,hp⟩,_⟩:=hat i hi
   rw [hp,hpv i r hi hr] at e
   exact ⟨(i:Int) :: r,⟨by omega,by omega,hr⟩,e⟩
  ·exact ⟨[],trivial,e⟩
 ·cases ws with
  |nil=>exact bestP_le _ ((hmem _).2 (.inr rfl))
  |cons e r =>
   obtain ⟨h1,h2,h3⟩:=hws
   obtain ⟨e,rfl⟩:=Int.eq_ofNat_of_zero_le (show 0≤e by omega)
   have hi:e < s.days.length:=by omega
   have h4:=leP_add ((hat e hi).2 r h3) (s.price * sumI ((lightF s s.soil s.days).take e))
   rw [hpv e r hi h3] at h4
   exact leP_trans (bestP_le _ ((hmem _).2 (.inl ⟨e,hi,rfl⟩))) h4
theorem planned_sets (s:Sn):bestP ((setsS s.days.length).map (planW s))=plannedS s:=by
 obtain ⟨⟨ws,h1,h2⟩,h3⟩:=planned_best s
 refine bestP_eq (List.mem_map.2 ⟨ws,(mem_sets _ _).2 h1,h2.symm⟩) (fun x hx=>?_)
 obtain ⟨l,hl,rfl⟩:=List.mem_map.1 hx
 exact h3 l ((mem_sets _ _).1 hl)
end Sh

namespace Sh
open Go Go.Proofs
theorem r_after (s:Sn) (d:Dy) (so:Int) (hs:OkSn s) (hd:OkDy d) (h0:0≤so) (h1:so≤1000):PC 96 [encS s,encD d,DV.int .i64 (so)] (DV.int .i64 (aftS s d so)):=by
 obtain ⟨w0,w1,w2,w3,w4⟩:=aft_w hs hd h0 h1
 refine pureCall_ofR dh96 rfl ?_
 conv=>whnf
 refine ⟨fun hg=>?_,fun hg=>?_⟩
 ·have hg:s.enough≤d.rain:=of_decide_eq_true hg
  conv=>whnf
  repeat' (first
   |(refine ⟨fun hg=>?_,fun hg=>?_⟩<;>first|contradiction|(conv=>whnf))
   |(refine Or.inl ?_;conv=>whnf)
   |(refine ⟨by decide,?_⟩;conv=>whnf)
   |(refine And.intro ?_ ?_;kernel_rfl;conv=>whnf))
  rw [w4,w1,w2,min_min]
  refine int_eq ?_
  unfold aftS
  rw [if_pos hg]
 ·have hg:¬ s.enough≤d.rain:=of_decide_eq_false hg
  conv=>whnf
  rw [w3,min_min]
  refine int_eq ?_
  unfold aftS
  rw [if_neg hg]
end Sh

namespace Sh
open Go Go.Proofs
def cleanS (s:Sn) (ws:List Int) (i:Nat):List Int:=rng i (fun k=>wshS ws k (curS s ws k))
theorem cleanS_len (s:Sn) (ws:List Int) (i:Nat):(cleanS s ws i).length=i:=rng_len _ _
theorem cleanS_succ (s:Sn) (ws:List Int) (i:Nat):cleanS s ws (i+1)=cleanS s ws i++[wshS ws i (curS s ws i)]:=rng_succ _ _
theorem cleanS_last (s:Sn) (ws:List Int):cleanS s ws s.days.length++[curS s ws s.days.length]=soilsS s ws:=by
 rw [soils_dirt];unfold dirtS cleanS;rfl
theorem curS_succ (s:Sn) (ws:List Int) (i:Nat):curS s ws (i+1)=aftS s (s.days.getD i D0) (wshS ws i (curS s ws i)):=rfl
theorem r_Soils (s:Sn) (ws:List Int) (hs:OkSn s) (hw:ws.length < 1073741824):PC 25 [encS s,iL ws] (iL (soilsS s ws)):=by
 have e1:((s.days.map encD).length:Int)=s.days.length:=by simp
 have hn:=hs.n1
 rw [← cleanS_last]
 refine pureCall_ofR dh25 rfl ?_
 conv=>whnf
 refine dwp_loopU (P:=Tryz.prog) (G:=GC) (k:=dk25_0) (b:=db25_0) (α:=Nat) (fun i=>[(5,.own 5 0 (iD (cleanS s ws i)).length (iD (cleanS s ws i)).length),(6,DV.int .i64 (curS s ws i)),(7,DV.int .i64 (i))]) (fun i=>[(2,.box 6 (encS s)),(5,.row 1 (iD (cleanS s ws i)) false)]) (fun i=>i≤s.days.length) (fun i=>s.days.length - i) 0 (Nat.zero_le _) ?_
 conv=>whnf
 refine ⟨rfl,rfl,?_⟩
 conv=>whnf
 refine ⟨rfl,?_⟩
 intro i h1
 conv=>whnf
 refine ⟨fun hb=>?_,fun hb=>?_⟩
 ·have hi:i < s.days.length:=by simpa using hb
  have hd:=hs.ds _ (getD_in D0 hi)
  have hcb:=curS_bd hs ws i h1
  have hwb:=wshS_bd (ws:=ws) (i:=i) hcb.1 hcb.2
  have hsu:=cleanS_succ s ws i
  have hdl:=cleanS_len s ws i
  have hcs:=curS_succ s ws i
  clear hb
  have k2:=r_after s (s.days.getD i D0) (wshS ws i (curS s ws i)) hs hd hwb.1 hwb.2
  rw [← hcs] at k2
  have hin:(i:Int) ∈ ws→wshS ws i (curS s ws i)=0:=fun h=>by unfold wshS;rw [if_pos h]
  have hno:(i:Int) ∉ ws→wshS ws i (curS s ws i)=curS s ws i:=fun h=>by unfold wshS;rw [if_neg h]
  generalize wshS ws i (curS s ws i)=so at *
  generalize curS s ws i=cu at *
  generalize cleanS s ws i=R at *
  generalize hcn:curS s ws (i+1)=cn at *
  conv=>whnf
  refine .inl ?_
  conv=>whnf
  refine ⟨_,q_HasInt ws (i:Int) (by omega),?_⟩
  conv=>whnf
  refine ⟨fun hg=>?_,fun hg=>?_⟩
  ·have hg:(i:Int) ∈ ws:=of_decide_eq_true hg
   rw [hin hg] at k2 hsu
   conv=>whnf
   refine ⟨⟨rfl,rfl,rfl,by rw [iD_len];simp;omega,fun e he=>by simp at he;subst he;rfl⟩,?_⟩
   conv=>whnf
   rw [getD_enc _ _ (i) D0 hi]
   refine ⟨idxA hi rfl,?_⟩
   conv=>whnf
   repeat' (first
    |(refine ⟨fun hg=>?_,fun hg=>?_⟩<;>first|contradiction|(conv=>whnf))
    |(refine Or.inl ?_;conv=>whnf)
    |(refine ⟨_,k2,?_⟩;conv=>whnf)
    |(refine And.intro ?_ ?_;kernel_rfl;conv=>whnf))
   rw [wrap_succ i (by omega)]
   refine ⟨i+1,rfl,?_,?_,hi,by omega⟩
   ·rw [hsu,iD_app,hcn];rfl
   ·rw [hsu,iD_app];rfl
  ·have hg:(i:Int) ∉ ws:=of_decide_eq_false hg
   rw [hno hg] at k2 hsu
   conv=>whnf
   refine ⟨⟨rfl,rfl,rfl,by rw [iD_len];simp;omega,fun e he=>by simp at he;subst he;rfl⟩,?_⟩
   conv=>whnf
   rw [getD_enc _ _ (i) D0 hi]
   refine ⟨idxA hi rfl,?_⟩
   conv=>whnf
   repeat' (first
    |(refine ⟨fun hg=>?_,fun hg=>?_⟩<;>first|contradiction|(conv=>whnf))
    |(refine Or.inl ?_;conv=>whnf)
    |(refine ⟨_,k2,?_⟩;conv=>whnf)
    |(refine And.intro ?_ ?_;kernel_rfl;conv=>whnf))
   rw [wrap_succ i (by omega)]
   refine ⟨i+1,rfl,?_,?_,hi,by omega⟩
   ·rw [hsu,iD_app,hcn];rfl
   ·rw [hsu,iD_app];rfl
 ·have hi:i=s.days.length:=by have:=of_decide_eq_false hb;rw [e1] at this;omega
  have hdl:=cleanS_len s ws s.days.length
  rw [hi]
  generalize cleanS s ws s.days.length=R at *
  generalize curS s ws s.days.length=cu at *
  clear hb
  conv=>whnf
  refine ⟨⟨rfl,rfl,rfl,by rw [iD_len];simp;omega,fun e he=>by simp at he;subst he;rfl⟩,?_⟩
  conv=>whnf
  refine ⟨rfl,?_⟩
  rw [window_full,show (iL (R++[cu]))=.list (iD R++[DV.int .i64 (cu)]) by rw [← iD_app];rfl];rfl
end Sh

namespace Sh
open Go Go.Proofs
theorem r_Yields (s:Sn) (ws:List Int) (hs:OkSn s) (hw:ws.length < 1073741824):PC 26 [encS s,iL ws] (iL (yldS s ws)):=by
 have e1:((s.days.map encD).length:Int)=s.days.length:=by simp
 have hn:=hs.n1
 have hl:=yldS_len s ws
 have hsl:=soilsS_len s ws
 have k1:=r_Soils s ws hs hw
 refine pureCall_ofR dh26 rfl ?_
 conv=>whnf
 refine .inl ?_
 conv=>whnf
 refine ⟨_,k1 ..,?_⟩
 conv=>whnf
 refine dwp_loopU (P:=Tryz.prog) (G:=GC) (k:=dk26_0) (b:=db26_0) (α:=Nat) (fun i=>[(5,.own 5 0 (iD ((yldS s ws).take i)).length (iD ((yldS s ws).take i)).length),(7,DV.int .i64 (i))]) (fun i=>[(2,.box 6 (encS s)),(5,.row 1 (iD ((yldS s ws).take i)) false)]) (fun i=>i≤s.days.length) (fun i=>s.days.length - i) 0 (Nat.zero_le _) ?_
 conv=>whnf
 refine ⟨rfl,rfl,?_⟩
 conv=>whnf
 refine ⟨rfl,?_⟩
 intro i h1
 conv=>whnf
 refine ⟨fun hb=>?_,fun hb=>?_⟩
 ·have hi:i < s.days.length:=by simpa using hb
  have hd:=hs.ds _ (getD_in D0 hi)
  have hsb:=soilsS_bd hs ws _ (getD_in (i:=i) 0 (by omega))
  have hg:=yldS_get s ws i hi
  have hlw:=lgt_w hd hsb.1 hsb.2
  rw [← hg] at hlw
  clear hb
  conv=>whnf
  rw [getD_enc _ _ (i) D0 hi]
  refine ⟨idxA hi rfl,?_⟩
  conv=>whnf
  rw [getD_enc _ _ (i) 0 (by omega:i < (soilsS s ws).length)]
  refine ⟨idxA (by omega:i < (soilsS s ws).length) rfl,?_⟩
  conv=>whnf
  refine ⟨by decide,?_⟩
  conv=>whnf
  rw [show (encD (s.days.getD i D0))=.agg [DV.int .i64 ((s.days.getD i D0).dust),DV.int .i64 ((s.days.getD i D0).rain),DV.int .i64 ((s.days.getD i D0).light)] from rfl]
  conv=>whnf
  rw [hlw]
  refine ⟨⟨rfl,rfl,rfl,by rw [iD_take_len _ _ (by omega)];simp;omega,fun e he=>by simp at he;subst he;rfl⟩,?_⟩
  conv=>whnf
  refine ⟨by kernel_rfl,?_⟩
  conv=>whnf
  rw [wrap_succ i (by omega)]
  refine ⟨i+1,rfl,?_,?_,hi,by omega⟩
  ·rw [iD_take _ _ (by omega)];rfl
  ·rw [iD_take _ _ (by omega)];rfl
 ·have hi:i=s.days.length:=by have:=of_decide_eq_false hb;rw [e1] at this;omega
  clear hb
  conv=>whnf
  refine ⟨rfl,?_⟩
  rw [window_full,hi,List.take_of_length_le (by omega)];rfl
def ySum (s:Sn) (ws:List Int) (f t:Nat):Int:=sumI (((yldS s ws).drop f).take (t - f))
theorem ySum_all (s:Sn) (ws:List Int):ySum s ws 0 s.days.length=sumI (yldS s ws):=by
 unfold ySum;rw [List.drop_zero,List.take_of_length_le (by rw [yldS_len];omega)]
theorem ySum_succ (s:Sn) (ws:List Int) (f k:Nat) (h:f+k < s.days.length):ySum s ws f (f+(k+1))=ySum s ws f (f+k)+(yldS s ws).getD (f+k) 0:=by
 unfold ySum
 rw [Nat.add_sub_cancel_left,Nat.add_sub_cancel_left,sumI_take_succ _ _ (by rw [List.length_drop,yldS_len];omega)]
 simp [List.getD_eq_getElem?_getD]
theorem ySum_bd {s:Sn} (hs:OkSn s) (ws:List Int) (f t:Nat):0≤ySum s ws f t∧ySum s ws f t≤6400000:=by
 unfold ySum
 have h:=sumI_take_bd (l:=(yldS s ws).drop f) (B:=100000) (fun x hx=>yldS_bd hs ws x (List.mem_of_mem_drop hx)) (t - f)
 have hl:((yldS s ws).drop f).length≤64:=by rw [List.length_drop,yldS_len];have:=hs.n1;omega
 omega
theorem r_Sum (s:Sn) (ws:List Int) (f t:Nat) (hs:OkSn s) (hw:ws.length < 1073741824) (hft:f≤t) (ht:t≤s.days.length):PC 97 [encS s,iL ws,DV.int .i64 (f),DV.int .i64 (t)] (DV.int .i64 (ySum s ws f t)):=by
 have hn:=hs.n1
 have hl:=yldS_len s ws
 have k1:=r_Yields s ws hs hw
 have h0:ySum s ws f (f+0)=0:=by unfold ySum;simp only [Nat.add_zero,Nat.sub_self,List.take_zero];rfl
 refine pureCall_ofR dh97 rfl ?_
 conv=>whnf
 refine .inl ?_
 conv=>whnf
 refine ⟨_,k1 ..,?_⟩
 conv=>whnf
 refine dwp_loopU (P:=Tryz.prog) (G:=GC) (k:=dk97_0) (b:=db97_0) (α:=Nat) (fun i=>[(10,DV.int .i64 (ySum s ws f (f+i))),(11,DV.int .i64 ((f+i:Nat)))]) (fun i=>[(4,.box 6 (encS s))]) (fun i=>i≤t - f) (fun i=>t - f - i) 0 (Nat.zero_le _) ?_
 refine ⟨rfl,rfl,by rw [h0];rfl,?_⟩
 intro i h1
 conv=>whnf
 refine ⟨fun hb=>?_,fun hb=>?_⟩
 ·have hi:f+i < t:=by have:=of_decide_eq_true hb;omega
  have hsu:=ySum_succ s ws f i (by omega)
  have b1:=ySum_bd hs ws f (f+i)
  have b2:=ySum_bd hs ws f (f+(i+1))
  clear hb
  conv=>whnf
  rw [getD_enc _ _ ((f+i)) 0 (by omega:f+i < (yldS s ws).length)]
  refine ⟨idxA (by omega:f+i < (yldS s ws).length) rfl,?_⟩
  conv=>whnf
  rw [wrap_succ (f+i) (by omega),wrap_in (n:=ySum s ws f (f+i)+_) (by omega) (by omega),← hsu]
  exact ⟨i+1,rfl,rfl,rfl,by omega,by omega⟩
 ·have hi:f+i=t:=by have:=of_decide_eq_false hb;omega
  clear hb
  rw [hi]
  conv=>whnf
  rfl
theorem r_Worth (s:Sn) (ws:List Int) (hs:OkSn s) (hw:ws.length < 1073741824):PC 27 [encS s,iL ws] (DV.int .i64 (worthS s ws)):=by
 have k1:=r_Sum s ws 0 s.days.length hs hw (Nat.zero_le _) (Nat.le_refl _)
 rw [ySum_all] at k1
 have hq:=worth_w hs ws hw
 have e0:((ws.map (DV.int .i64)).length:Int)=ws.length:=by simp
 have e1:((s.days.map encD).length:Int)=s.days.length:=by simp
 rw [← e1] at k1
 refine pureCall_ofR dh27 rfl ?_
 conv=>whnf
 repeat' (first
  |(refine ⟨fun hg=>?_,fun hg=>?_⟩<;>first|contradiction|(exfalso;revert hg;simp;done)|(exfalso;exact absurd (of_decide_eq_true hg) (by assumption))|(exfalso;exact absurd (by assumption) (of_decide_eq_false hg))|(conv=>whnf))
  |(refine Or.inl ?_;conv=>whnf)
  |(refine ⟨_,k1,?_⟩;conv=>whnf)
  |(refine And.intro ?_ ?_;kernel_rfl;conv=>whnf))
 rw [← hq,← e0];rfl
end Sh

namespace Sh
open Go
def db38_0 : DC := (.seq (.seq (.ops false [⟨some 21,.mov (.tmp 7),none,[]⟩,⟨some 22,.mov (.tmp 4),none,[]⟩,⟨some 23,.len (.tmp 22),none,[]⟩,⟨some 24,.bin .lss (.tmp 21) (.tmp 23),none,[]⟩]) (.cond (.tmp 24) .skip (.exit 0))) (.seq (.block 1 none (.seq (.ops true [⟨some 27,.load (some 6) (.tmp 1),none,[]⟩,⟨some 28,.mov (.tmp 4),none,[]⟩,⟨some 29,.mov (.tmp 7),none,[]⟩,⟨some 30,.iaddr 1 (.tmp 28) (.tmp 29),none,[1,2]⟩,⟨some 31,.load none (.tmp 30),none,[3,1,2]⟩,⟨some 32,.call (.func 27) [.tmp 27,.tmp 31],none,[0,4,3,1,2]⟩,⟨some 8,.mov (.tmp 32),none,[5,0,4,3,1,2]⟩]) (.seq (.ops false [⟨some 33,.mov (.tmp 8),none,[]⟩,⟨some 34,.mov (.tmp 6),none,[]⟩,⟨some 35,.bin .gtr (.tmp 33) (.tmp 34),none,[]⟩,⟨some 36,.mov (.tmp 35),none,[]⟩,⟨some 37,.mov (.tmp 8),some (36,false),[]⟩,⟨some 38,.mov (.tmp 6),some (36,false),[]⟩,⟨some 39,.bin .eql (.tmp 37) (.tmp 38),some (36,false),[]⟩,⟨some 40,.mov (.tmp 39),some (36,false),[]⟩,⟨some 41,.mov (.tmp 4),some (40,true),[]⟩,⟨some 42,.mov (.tmp 7),some (40,true),[]⟩,⟨some 43,.iaddr 1 (.tmp 41) (.tmp 42),some (40,true),[]⟩,⟨some 44,.load none (.tmp 43),some (40,true),[]⟩,⟨some 45,.mov (.tmp 5),some (40,true),[]⟩,⟨some 46,.call (.func 111) [.tmp 44,.tmp 45],some (40,true),[]⟩,⟨some 47,.pick (.tmp 40) (.tmp 46) (.const (.bool false)),some (36,false),[]⟩,⟨some 48,.pick (.tmp 36) (.const (.bool true)) (.tmp 47),none,[]⟩]) (.cond (.tmp 48) (.ops false [⟨some 49,.mov (.tmp 4),none,[]⟩,⟨some 50,.mov (.tmp 7),none,[]⟩,⟨some 51,.iaddr 1 (.tmp 49) (.tmp 50),none,[]⟩,⟨some 52,.load none (.tmp 51),none,[]⟩,⟨some 53,.mov (.tmp 8),none,[]⟩,⟨some 5,.mov (.tmp 52),none,[]⟩,⟨some 6,.mov (.tmp 53),none,[]⟩]) .skip)))) (.ops false [⟨some 25,.mov (.tmp 7),none,[]⟩,⟨some 26,.bin .add (.tmp 25) (.const (.int .i64 1)),none,[]⟩,⟨some 7,.mov (.tmp 26),none,[]⟩])))
def dk38_0 : Keep := ⟨[],[1,4,5,6,7],[1]⟩
def dc38 : DFunc := ⟨56,1,[.tmp 2,.tmp 3],.seq (.ops false [⟨some 1,.box 6 (.tmp 0),none,[]⟩,⟨some 2,.mov (.const (.slice none 0 0)),none,[]⟩,⟨some 3,.mov (.const (.int .i64 0)),none,[]⟩]) (.seq (.ops false [⟨some 9,.faddr 3 1 false (.tmp 1),none,[]⟩,⟨some 10,.load none (.tmp 9),none,[]⟩,⟨some 11,.len (.tmp 10),none,[]⟩,⟨some 12,.call (.func 110) [.tmp 11],none,[]⟩,⟨some 4,.mov (.tmp 12),none,[]⟩]) (.seq (.ops true [⟨some 13,.mov (.tmp 4),none,[]⟩,⟨some 14,.iaddr 1 (.tmp 13) (.const (.int .i64 0)),none,[0]⟩,⟨some 15,.load none (.tmp 14),none,[1,0]⟩,⟨some 16,.load (some 6) (.tmp 1),none,[]⟩,⟨some 17,.mov (.tmp 4),none,[]⟩,⟨some 18,.iaddr 1 (.tmp 17) (.const (.int .i64 0)),none,[4]⟩,⟨some 19,.load none (.tmp 18),none,[5,4]⟩,⟨some 20,.call (.func 27) [.tmp 16,.tmp 19],none,[3,6,5,4]⟩,⟨some 5,.mov (.tmp 15),none,[2,1,0,7,3,6,5,4]⟩,⟨some 6,.mov (.tmp 20),none,[7,3,6,5,4,8,2,1,0]⟩]) (.seq (.seq (.ops false [⟨some 7,.mov (.const (.int .i64 1)),none,[]⟩]) (.block 0 (some ⟨[],[5,6],[1]⟩) (.loop dk38_0 db38_0))) (.seq (.ops false [⟨some 54,.mov (.tmp 5),none,[]⟩,⟨some 55,.mov (.tmp 6),none,[]⟩,⟨some 2,.mov (.tmp 54),none,[]⟩,⟨some 3,.mov (.tmp 55),none,[]⟩]) .ret))))⟩
theorem dh38:cProg Go.Proofs.Tryz.prog ⟨[(0,⟨[],[1,4,5,6,7],[1]⟩)],[(0,⟨[],[5,6],[1]⟩)],[]⟩ 38=some dc38:=by kernel_rfl
def db110_0 : DC := (.seq (.seq (.ops false [⟨some 15,.mov (.tmp 6),none,[]⟩,⟨some 16,.mov (.tmp 5),none,[]⟩,⟨some 17,.bin .lss (.tmp 15) (.tmp 16),none,[]⟩]) (.cond (.tmp 17) .skip (.exit 2))) (.seq (.block 3 none (.ops false [⟨some 20,.mov (.tmp 3),none,[]⟩,⟨some 21,.lit false 1 0 (.int .i64 0) [],none,[]⟩,⟨some 22,.mov (.tmp 3),none,[]⟩,⟨some 23,.mov (.tmp 6),none,[]⟩,⟨some 24,.iaddr 1 (.tmp 22) (.tmp 23),none,[]⟩,⟨some 25,.load none (.tmp 24),none,[]⟩,⟨some 26,.append false 1 (.tmp 21) (.tmp 25),none,[]⟩,⟨some 27,.mov (.tmp 4),none,[]⟩,⟨some 28,.lit true 1 1 (.int .i64 0) [(0,(.tmp 27))],none,[]⟩,⟨some 29,.append false 1 (.tmp 26) (.tmp 28),none,[]⟩,⟨some 30,.lit true 1 1 (.full []) [(0,(.tmp 29))],none,[]⟩,⟨some 31,.append false 1 (.tmp 20) (.tmp 30),none,[]⟩,⟨some 3,.mov (.tmp 31),none,[]⟩])) (.ops false [⟨some 18,.mov (.tmp 6),none,[]⟩,⟨some 19,.bin .add (.tmp 18) (.const (.int .i64 1)),none,[]⟩,⟨some 6,.mov (.tmp 19),none,[]⟩])))
def dk110_0 : Keep := ⟨[(3,1)],[0,3,4,5,6],[3,7]⟩
def db110_1 : DC := (.seq (.seq (.ops false [⟨some 8,.mov (.tmp 4),none,[]⟩,⟨some 9,.mov (.tmp 0),none,[]⟩,⟨some 10,.bin .lss (.tmp 8) (.tmp 9),none,[]⟩]) (.cond (.tmp 10) .skip (.exit 0))) (.seq (.block 1 (some ⟨[],[0,3,4],[3,7]⟩) (.seq (.ops false [⟨some 13,.mov (.tmp 3),none,[]⟩,⟨some 14,.len (.tmp 13),none,[]⟩,⟨some 5,.mov (.tmp 14),none,[]⟩]) (.seq (.ops false [⟨some 6,.mov (.const (.int .i64 0)),none,[]⟩]) (.block 2 (some ⟨[],[0,3,4],[3,7]⟩) (.loop dk110_0 db110_0))))) (.ops false [⟨some 11,.mov (.tmp 4),none,[]⟩,⟨some 12,.bin .add (.tmp 11) (.const (.int .i64 1)),none,[]⟩,⟨some 4,.mov (.tmp 12),none,[]⟩])))
def dk110_1 : Keep := ⟨[(3,1)],[0,3,4],[3,7]⟩
def dc110 : DFunc := ⟨33,1,[.tmp 2],.seq (.ops false [⟨some 2,.mov (.const (.slice none 0 0)),none,[]⟩]) (.seq (.ops false [⟨some 7,.lit false 1 1 (.full []) [(0,(.const (.slice none 0 0)))],none,[]⟩,⟨some 3,.mov (.tmp 7),none,[]⟩]) (.seq (.seq (.ops false [⟨some 4,.mov (.const (.int .i64 0)),none,[]⟩]) (.block 0 (some ⟨[],[3],[3,7]⟩) (.loop dk110_1 db110_1))) (.seq (.ops false [⟨some 32,.mov (.tmp 3),none,[]⟩,⟨some 2,.mov (.tmp 32),none,[]⟩]) .ret)))⟩
theorem dh110:cProg Go.Proofs.Tryz.prog ⟨[(0,⟨[(3,1)],[0,3,4],[3,7]⟩),(2,⟨[(3,1)],[0,3,4,5,6],[3,7]⟩)],[(2,⟨[],[0,3,4],[3,7]⟩),(1,⟨[],[0,3,4],[3,7]⟩),(0,⟨[],[3],[3,7]⟩)],[28,30]⟩ 110=some dc110:=by kernel_rfl
def db111_0 : DC := (.seq (.seq (.ops false [⟨some 16,.mov (.tmp 5),none,[]⟩,⟨some 17,.mov (.tmp 0),none,[]⟩,⟨some 18,.len (.tmp 17),none,[]⟩,⟨some 19,.bin .lss (.tmp 16) (.tmp 18),none,[]⟩]) (.cond (.tmp 19) .skip (.exit 0))) (.seq (.block 1 none (.seq (.ops true [⟨some 22,.mov (.tmp 0),none,[]⟩,⟨some 23,.mov (.tmp 5),none,[]⟩,⟨some 24,.iaddr 1 (.tmp 22) (.tmp 23),none,[0,1]⟩,⟨some 25,.load none (.tmp 24),none,[2,0,1]⟩,⟨some 26,.mov (.tmp 1),none,[]⟩,⟨some 27,.mov (.tmp 5),none,[]⟩,⟨some 28,.iaddr 1 (.tmp 26) (.tmp 27),none,[4,5]⟩,⟨some 29,.load none (.tmp 28),none,[6,4,5]⟩,⟨some 30,.bin .neq (.tmp 25) (.tmp 29),none,[3,2,0,1,7,6,4,5]⟩]) (.cond (.tmp 30) (.seq (.ops true [⟨some 31,.mov (.tmp 0),none,[]⟩,⟨some 32,.mov (.tmp 5),none,[]⟩,⟨some 33,.iaddr 1 (.tmp 31) (.tmp 32),none,[0,1]⟩,⟨some 34,.load none (.tmp 33),none,[2,0,1]⟩,⟨some 35,.mov (.tmp 1),none,[]⟩,⟨some 36,.mov (.tmp 5),none,[]⟩,⟨some 37,.iaddr 1 (.tmp 35) (.tmp 36),none,[4,5]⟩,⟨some 38,.load none (.tmp 37),none,[6,4,5]⟩,⟨some 39,.bin .lss (.tmp 34) (.tmp 38),none,[3,2,0,1,7,6,4,5]⟩,⟨some 4,.mov (.tmp 39),none,[8,3,2,0,1,7,6,4,5]⟩]) .ret) .skip))) (.ops false [⟨some 20,.mov (.tmp 5),none,[]⟩,⟨some 21,.bin .add (.tmp 20) (.const (.int .i64 1)),none,[]⟩,⟨some 5,.mov (.tmp 21),none,[]⟩])))
def dk111_0 : Keep := ⟨[],[0,1,5],[]⟩
def dc111 : DFunc := ⟨40,2,[.tmp 4],.seq (.ops false [⟨some 4,.mov (.const (.bool false)),none,[]⟩]) (.seq (.seq (.ops false [⟨some 6,.mov (.tmp 0),none,[]⟩,⟨some 7,.len (.tmp 6),none,[]⟩,⟨some 8,.mov (.tmp 1),none,[]⟩,⟨some 9,.len (.tmp 8),none,[]⟩,⟨some 10,.bin .neq (.tmp 7) (.tmp 9),none,[]⟩]) (.cond (.tmp 10) (.seq (.ops false [⟨some 11,.mov (.tmp 0),none,[]⟩,⟨some 12,.len (.tmp 11),none,[]⟩,⟨some 13,.mov (.tmp 1),none,[]⟩,⟨some 14,.len (.tmp 13),none,[]⟩,⟨some 15,.bin .lss (.tmp 12) (.tmp 14),none,[]⟩,⟨some 4,.mov (.tmp 15),none,[]⟩]) .ret) .skip)) (.seq (.seq (.ops false [⟨some 5,.mov (.const (.int .i64 0)),none,[]⟩]) (.block 0 (some ⟨[],[],[]⟩) (.loop dk111_0 db111_0))) (.seq (.ops false [⟨some 4,.mov (.const (.bool false)),none,[]⟩]) .ret)))⟩
theorem dh111:cProg Go.Proofs.Tryz.prog ⟨[(0,⟨[],[0,1,5],[]⟩)],[(0,⟨[],[],[]⟩)],[]⟩ 111=some dc111:=by kernel_rfl
end Sh

namespace Sh
open Go Go.Proofs
def soonB (a b:List Int):Bool:=if a.length≠b.length then decide (a.length < b.length) else decide (cmpL a b < 0)
theorem cmpI_ne {a b:Int} (h:a≠b):cmpI a b≠0:=fun e=>h (cmpI_zero.1 e)
theorem r_Sooner (a b:List Int) (ha:a.length < 1073741824):PC 111 [iL a,iL b] (.bool (soonB a b)):=by
 have e0:((a.map (DV.int .i64)).length:Int)=a.length:=by simp
 have e1:((b.map (DV.int .i64)).length:Int)=b.length:=by simp
 refine pureCall_ofR dh111 rfl ?_
 conv=>whnf
 rw [e0,e1]
 refine ⟨fun hg=>?_,fun hg=>?_⟩
 ·have hg:=of_decide_eq_true hg
  conv=>whnf
  refine bool_eq ?_
  unfold soonB
  rw [if_pos (by omega),decide_eq_decide]
  omega
 ·have hg:=of_decide_eq_false hg
  have hlen:a.length=b.length:=by omega
  have hk:soonB a b=decide (cmpL a b < 0):=by unfold soonB;rw [if_neg (by omega)]
  clear hg
  rw [hk]
  conv=>whnf
  refine dwp_loopU (P:=Tryz.prog) (G:=GC) (k:=dk111_0) (b:=db111_0) (α:=Nat) (fun i=>[(5,DV.int .i64 (i))]) (fun _=>[]) (fun i=>i≤a.length∧cmpL a b=cmpL (a.drop i) (b.drop i)) (fun i=>a.length - i) 0 ⟨Nat.zero_le _,rfl⟩ ?_
  conv=>whnf
  refine ⟨rfl,rfl,?_⟩
  conv=>whnf
  refine ⟨rfl,?_⟩
  intro i ⟨h1,h2⟩
  conv=>whnf
  refine ⟨fun hb=>?_,fun hb=>?_⟩
  ·have hi:i < a.length:=by simpa using hb
   clear hb
   have hd:=cmpL_drop a b i hi (by omega)
   conv=>whnf
   rw [getD_enc _ _ (i) 0 hi]
   refine ⟨idxA hi rfl,?_⟩
   conv=>whnf
   rw [getD_enc _ _ (i) 0 (by omega:i < b.length)]
   refine ⟨idxA (by omega:i < b.length) rfl,?_⟩
   conv=>whnf
   refine ⟨by kernel_rfl,?_⟩
   conv=>whnf
   refine ⟨fun hg=>?_,fun hg=>?_⟩
   ·have hg:a.getD i 0≠b.getD i 0:=of_decide_eq_true hg
    rw [if_pos (cmpI_ne hg)] at hd
    conv=>whnf
    rw [getD_enc _ _ (i) 0 hi]
    refine ⟨idxA hi rfl,?_⟩
    conv=>whnf
    rw [getD_enc _ _ (i) 0 (by omega:i < b.length)]
    refine ⟨idxA (by omega:i < b.length) rfl,?_⟩
    conv=>whnf
    refine ⟨by kernel_rfl,?_⟩
    conv=>whnf
    refine bool_eq ?_
    rw [h2,hd,decide_eq_decide]
    exact cmpI_neg.symm
   ·have hg:¬ a.getD i 0≠b.getD i 0:=of_decide_eq_false hg
    rw [if_neg (by rw [cmpI_zero.2 (by omega)];simp)] at hd
    conv=>whnf
    rw [wrap_succ i (by omega)]
    exact ⟨i+1,rfl,rfl,rfl,⟨hi,by rw [h2,hd]⟩,by omega⟩
  ·have hi:i=a.length:=by have:=of_decide_eq_false hb;rw [e0] at this;omega
   clear hb
   conv=>whnf
   refine bool_eq ?_
   rw [h2,hi,List.drop_of_length_le (Nat.le_refl _),List.drop_of_length_le (by omega)]
   rfl
def ssD (l:List (List Int)):List DV:=l.map iL
theorem ssD_len (l:List (List Int)):(ssD l).length=l.length:=List.length_map _
theorem ssD_app (l:List (List Int)) (x:List Int):ssD (l++[x])=ssD l++[iL x]:=by unfold ssD;rw [List.map_append];rfl
theorem ssD_get (l:List (List Int)) (i:Nat) (h:i < l.length):(ssD l).getD i .undef=iL (l.getD i []):=by unfold ssD;simp [List.getD_eq_getElem?_getD,h]
def setJ (i k:Nat):List (List Int):=setsS i++((setsS i).take k).map (·++[(i:Int)])
theorem setsS_len:∀ n,(setsS n).length=2 ^ n
 |0=>rfl
 |n+1=>by unfold setsS;rw [List.length_append,List.length_map,setsS_len n,Nat.pow_succ];omega
theorem setsS_el:∀ n,∀ x ∈ setsS n,x.length≤n
 |0,x,hx=>by unfold setsS at hx;simp at hx;subst hx;simp
 |n+1,x,hx=>by
  unfold setsS at hx
  rcases List.mem_append.1 hx with h|h
  ·have:=setsS_el n x h;omega
  ·obtain ⟨y,hy,rfl⟩:=List.mem_map.1 h
   have:=setsS_el n y hy
   simp;omega
theorem setJ_len (i k:Nat) (h:k≤2 ^ i):(setJ i k).length=2 ^ i+k:=by unfold setJ;rw [List.length_append,List.length_map,List.length_take,setsS_len];omega
theorem setJ_succ (i k:Nat) (h:k < 2 ^ i):setJ i (k+1)=setJ i k++[(setsS i).getD k []++[(i:Int)]]:=by
 unfold setJ
 rw [take_snoc _ _ [] (by rw [setsS_len];exact h),List.map_append,← List.append_assoc];rfl
theorem setJ_get (i k:Nat) (h:k < 2 ^ i) (j:Nat):(setJ i j).getD k []=(setsS i).getD k []:=by
 have hl:k < (setsS i).length:=by rw [setsS_len];exact h
 unfold setJ
 simp [List.getD_eq_getElem?_getD,List.getElem?_append_left hl]
theorem setJ_all (i:Nat):setJ i (2 ^ i)=setsS (i+1):=by
 unfold setJ
 rw [List.take_of_length_le (by rw [setsS_len];exact Nat.le_refl _)];rfl
theorem r_Sets (n:Nat) (hn:n≤12):PC 110 [DV.int .i64 (n)] (.list (ssD (setsS n))):=by
 refine pureCall_ofR dh110 rfl ?_
 conv=>whnf
 refine dwp_loopU (P:=Tryz.prog) (G:=GC) (k:=dk110_1) (b:=db110_1) (α:=Nat) (fun i=>[(3,.own 7 0 (ssD (setsS i)).length (ssD (setsS i)).length),(4,DV.int .i64 (i))]) (fun i=>[(7,.row 1 (ssD (setsS i)) false)]) (fun i=>i≤n) (fun i=>n - i) 0 (Nat.zero_le _) ?_
 conv=>whnf
 refine ⟨rfl,rfl,?_⟩
 conv=>whnf
 refine ⟨rfl,?_⟩
 intro i h1
 have hpow:2 ^ i≤4096:=Nat.le_trans (Nat.pow_le_pow_right (by decide) (show i≤12 by omega)) (by decide)
 conv=>whnf
 refine ⟨fun hb=>?_,fun hb=>?_⟩
 ·have hi:i < n:=by have:=of_decide_eq_true hb;omega
  clear hb
  conv=>whnf
  refine ⟨rfl,?_⟩
  have hsl:=setsS_len i
  have hsl2:=ssD_len (setsS i)
  rw [show ((ssD (setsS i)).length:Int)=((2 ^ i:Nat):Int) by rw [hsl2,hsl]]
  have hs0:setsS i=setJ i 0:=by unfold setJ;simp
  have hel:=setsS_el i
  conv=>whnf
  rw [hs0]
  generalize hP:2 ^ i=P at *
  refine dwp_loopU (P:=Tryz.prog) (G:=GC) (k:=dk110_0) (b:=db110_0) (α:=Nat) (fun k=>[(3,.own 7 0 (ssD (setJ i k)).length (ssD (setJ i k)).length),(6,DV.int .i64 (k))]) (fun k=>[(7,.row 1 (ssD (setJ i k)) false)]) (fun k=>k≤P) (fun k=>P - k) 0 (Nat.zero_le _) ?_
  conv=>whnf
  refine ⟨rfl,rfl,?_⟩
  conv=>whnf
  refine ⟨rfl,?_⟩
  intro k h2
  conv=>whnf
  refine ⟨fun hb=>?_,fun hb=>?_⟩
  ·have hk:k < P:=by have:=of_decide_eq_true hb;omega
   clear hb
   have hkl:k < (setsS i).length:=by omega
   have hjl:=setJ_len i k (by omega)
   have hjs:=setJ_succ i k (by omega)
   have hjg:=setJ_get i k (by omega) k
   have hex:=hel _ (getD_in (i:=k) [] hkl)
   have hsd:(ssD (setJ i k)).getD k .undef=iL ((setsS i).getD k []):=by rw [ssD_get _ _ (by omega),hjg]
   have hsdl:(ssD (setJ i k)).length=P+k:=by rw [ssD_len,hjl,hP]
   generalize (setsS i).getD k []=x at *
   generalize hR:setJ i k=R at *
   conv=>whnf
   refine ⟨⟨rfl,by omega,by omega⟩,?_⟩
   rw [Int.toNat_natCast,Nat.zero_add]
   conv=>whnf
   rw [hsd]
   refine ⟨⟨rfl,by decide⟩,?_⟩
   conv=>whnf
   refine ⟨⟨rfl,rfl,rfl,by rw [List.length_map];simp;omega,fun e he=>iD_ok x e he⟩,?_⟩
   conv=>whnf
   refine ⟨⟨rfl,rfl,rfl,by simp;omega,fun e he=>by simp at he;subst he;rfl⟩,?_⟩
   conv=>whnf
   rw [window_full]
   refine ⟨rfl,?_⟩
   conv=>whnf
   refine ⟨⟨rfl,rfl,rfl,by rw [hsdl];simp;omega,fun e he=>by simp at he;subst he;rfl⟩,?_⟩
   conv=>whnf
   rw [wrap_succ k (by omega)]
   have hfin:ssD R++[.list ([]++List.map (DV.int .i64) x++[DV.int .i64 (i)])]=ssD (setJ i (k+1)):=by
    rw [hjs,ssD_app];unfold iL;rw [List.map_append];rfl
   refine ⟨k+1,rfl,?_,?_,hk,by omega⟩
   ·rw [← hfin];rfl
   ·rw [← hfin];rfl
  ·have hk:k=P:=by have:=of_decide_eq_false hb;omega
   clear hb
   have hja:=setJ_all i
   rw [hP] at hja
   rw [hk,hja]
   conv=>whnf
   rw [wrap_succ i (by omega)]
   exact ⟨i+1,rfl,rfl,rfl,hi,by omega⟩
 ·have hi:i=n:=by have:=of_decide_eq_false hb;omega
  subst hi
  clear hb
  conv=>whnf
  refine ⟨rfl,?_⟩
  rw [window_full];rfl
end Sh

namespace Sh
open Go Go.Proofs
theorem cmpP_better (x m:Pl):(cmpP x m < 0) ↔ (m.worth < x.worth∨(x.worth=m.worth∧soonB x.idx m.idx=true)):=by
 unfold cmpP
 by_cases h:cmpI m.worth x.worth≠0
 ·rw [if_pos h,cmpI_neg]
  have hne:m.worth≠x.worth:=fun e=>h (cmpI_zero.2 e)
  constructor
  ·exact .inl
  ·rintro (h|⟨h,_⟩)
   ·exact h
   ·exact absurd h.symm hne
 ·rw [if_neg h]
  have heq:m.worth=x.worth:=cmpI_zero.1 (by omega)
  have hs:soonB x.idx m.idx=true ↔ (if cmpI x.idx.length m.idx.length≠0 then cmpI x.idx.length m.idx.length else cmpL x.idx m.idx) < 0:=by
   unfold soonB
   by_cases hl:x.idx.length≠m.idx.length
   ·rw [if_pos hl,if_pos (cmpI_ne (by omega)),cmpI_neg,decide_eq_true_eq];omega
   ·rw [if_neg hl,if_neg (by rw [cmpI_zero.2 (by omega)];simp),decide_eq_true_eq]
  rw [← hs]
  constructor
  ·exact fun h=>.inr ⟨heq.symm,h⟩
  ·rintro (h|⟨_,h⟩)
   ·omega
   ·exact h
theorem r_Planned (s:Sn) (hs:OkSn s) (hn:s.days.length≤12):PC 38 [encS s] (.tuple [iL (plannedS s).idx,DV.int .i64 ((plannedS s).worth)]):=by
 have e1:((s.days.map encD).length:Int)=s.days.length:=by simp
 have k1:=r_Sets s.days.length hn
 have hps:=planned_sets s
 have hsl:=setsS_len s.days.length
 have hpow:2 ^ s.days.length≤4096:=Nat.le_trans (Nat.pow_le_pow_right (by decide) hn) (by decide)
 have hel:=setsS_el s.days.length
 obtain ⟨x0,r,hL⟩:∃ x r,setsS s.days.length=x :: r:=by
  have h1:0 < 2 ^ s.days.length:=Nat.pow_pos (by decide)
  cases h:setsS s.days.length with
  |nil=>rw [h] at hsl;simp at hsl;omega
  |cons x r=>exact ⟨x,r,rfl⟩
 rw [hL] at hps hsl hel k1
 have hps:minP (planW s x0) (r.map (planW s))=plannedS s:=hps
 have hx0:x0.length≤s.days.length:=hel _ (by simp)
 have hrl:r.length < 4096:=by simp at hsl;omega
 have k2:=r_Worth s x0 hs (by omega)
 have e0:((ssD (x0 :: r)).length:Int)=r.length+1:=by unfold ssD;simp
 rw [← hps]
 refine pureCall_ofR dh38 rfl ?_
 conv=>whnf
 rw [e1]
 refine .inl ?_
 conv=>whnf
 refine ⟨_,k1 ..,?_⟩
 conv=>whnf
 rw [show (ssD (x0 :: r)).getD (Int.toNat 0) .undef=iL x0 from rfl]
 refine ⟨⟨by decide,by rw [e0];omega,rfl⟩,?_⟩
 conv=>whnf
 rw [show (ssD (x0 :: r)).getD (Int.toNat 0) .undef=iL x0 from rfl]
 refine ⟨⟨by decide,by rw [e0];omega,rfl⟩,?_⟩
 conv=>whnf
 refine .inl ?_
 conv=>whnf
 refine ⟨_,k2 ..,?_⟩
 conv=>whnf
 refine ⟨by kernel_rfl,?_⟩
 conv=>whnf
 refine dwp_loopU (P:=Tryz.prog) (G:=GC) (k:=dk38_0) (b:=db38_0) (α:=Nat) (fun k=>[(5,iL (minP (planW s x0) ((r.map (planW s)).take k)).idx),(6,DV.int .i64 ((minP (planW s x0) ((r.map (planW s)).take k)).worth)),(7,DV.int .i64 ((k+1:Nat)))]) (fun k=>[(1,.box 6 (encS s))]) (fun k=>k≤r.length) (fun k=>r.length - k) 0 (Nat.zero_le _) ?_
 conv=>whnf
 refine ⟨rfl,rfl,?_⟩
 conv=>whnf
 refine ⟨rfl,?_⟩
 intro k h1
 conv=>whnf
 refine ⟨fun hb=>?_,fun hb=>?_⟩
 ·have hk:k < r.length:=by have:=of_decide_eq_true hb;rw [e0] at this;omega
  have hk':k+1 < (x0 :: r).length:=by simp;omega
  clear hb
  have hm:=minP_take (planW s x0) (r.map (planW s)) k (by rw [List.length_map];exact hk)
  have hg:(r.map (planW s)).getD k P00=planW s ((x0 :: r).getD (k+1) []):=by
   show _=planW s (r.getD k [])
   simp [List.getD_eq_getElem?_getD,hk]
  have hxl:=hel _ (getD_in (i:=k+1) [] hk')
  rw [hg] at hm
  have k3:=r_Worth s ((x0 :: r).getD (k+1) []) hs (by omega)
  generalize minP (planW s x0) ((r.map (planW s)).take k)=m at *
  generalize hM:minP (planW s x0) ((r.map (planW s)).take (k+1))=M at *
  have k4:=r_Sooner ((x0 :: r).getD (k+1) []) m.idx (by omega)
  have hb:=cmpP_better (planW s ((x0 :: r).getD (k+1) [])) m
  have hgx:(ssD (x0 :: r)).getD (k+1) .undef=iL ((x0 :: r).getD (k+1) []):=ssD_get _ _ hk'
  have hcond:0≤((k+1:Nat):Int)∧((k+1:Nat):Int) < ((ssD (x0 :: r)).length:Int):=by rw [e0];omega
  have hb:cmpP (planW s ((x0 :: r).getD (k+1) [])) m < 0 ↔ (m.worth < worthS s ((x0 :: r).getD (k+1) [])∨(worthS s ((x0 :: r).getD (k+1) [])=m.worth∧soonB ((x0 :: r).getD (k+1) []) m.idx=true)):=hb
  generalize hx:(x0 :: r).getD (k+1) []=x at *
  generalize ssD (x0 :: r)=SS at *
  generalize hwx:worthS s x=wx at *
  conv=>whnf
  rw [Int.toNat_natCast,hgx]
  refine ⟨⟨hcond.1,hcond.2,rfl⟩,?_⟩
  conv=>whnf
  refine .inl ?_
  conv=>whnf
  refine ⟨_,k3 ..,?_⟩
  conv=>whnf
  refine ⟨by kernel_rfl,?_⟩
  conv=>whnf
  have stay:¬ cmpP (planW s x) m < 0→M=m:=fun h=>by rw [if_neg h] at hm;exact hm
  have move:cmpP (planW s x) m < 0→M=planW s x:=fun h=>by rw [if_pos h] at hm;exact hm
  have hwx':(planW s x).worth=wx:=hwx
  have hix:(planW s x).idx=x:=rfl
  refine ⟨fun g1=>?_,fun g1=>?_⟩
  ·have g1':=of_decide_eq_false g1
   conv=>whnf
   refine ⟨fun g2=>?_,fun g2=>?_⟩
   ·have g2':=of_decide_eq_true g2
    conv=>whnf
    rw [Int.toNat_natCast,hgx]
    refine ⟨⟨hcond.1,hcond.2,rfl⟩,?_⟩
    conv=>whnf
    refine .inl ?_
    conv=>whnf
    refine ⟨_,k4 ..,?_⟩
    conv=>whnf
    refine ⟨fun g3=>?_,fun g3=>?_⟩
    ·have g3:soonB x m.idx=true:=g3
     conv=>whnf
     rw [Int.toNat_natCast,hgx]
     refine ⟨⟨hcond.1,hcond.2,rfl⟩,?_⟩
     conv=>whnf
     rw [wrap_succ (k+1) (by omega)]
     have hmv:=move (hb.2 (.inr ⟨g2',g3⟩))
     refine ⟨k+1,rfl,?_,rfl,hk,by omega⟩
     rw [hM,hmv,hwx',hix];rfl
    ·have g3:soonB x m.idx=false:=g3
     conv=>whnf
     rw [wrap_succ (k+1) (by omega)]
     have hst:=stay (fun h=>(hb.1 h).elim g1' (fun q=>by have:=q.2;rw [g3] at this;cases this))
     refine ⟨k+1,rfl,?_,rfl,hk,by omega⟩
     rw [hM,hst];rfl
   ·have g2':=of_decide_eq_false g2
    conv=>whnf
    refine ⟨fun g3=>absurd g3 (by decide),fun _=>?_⟩
    conv=>whnf
    rw [wrap_succ (k+1) (by omega)]
    have hst:=stay (fun h=>(hb.1 h).elim g1' (fun q=>g2' q.1))
    refine ⟨k+1,rfl,?_,rfl,hk,by omega⟩
    rw [hM,hst];rfl
  ·have g1':=of_decide_eq_true g1
   conv=>whnf
   refine ⟨fun _=>?_,fun g3=>absurd g3 (by decide)⟩
   conv=>whnf
   rw [Int.toNat_natCast,hgx]
   refine ⟨⟨hcond.1,hcond.2,rfl⟩,?_⟩
   conv=>whnf
   rw [wrap_succ (k+1) (by omega)]
   have hmv:=move (hb.2 (.inl g1'))
   refine ⟨k+1,rfl,?_,rfl,hk,by omega⟩
   rw [hM,hmv,hwx',hix];rfl
 ·have hk:k=r.length:=by have:=of_decide_eq_false hb;rw [e0] at this;omega
  clear hb
  rw [hk,List.take_of_length_le (by rw [List.length_map];exact Nat.le_refl _)]
  conv=>whnf
  rfl
end Sh

namespace Sh
open Go
def dc19 : DFunc := ⟨17,1,[.cell 2 (some 6)],.seq (.ops false [⟨some 1,.box 6 (.tmp 0),none,[]⟩,⟨some 2,.alloc (.agg [.int .i64 0,.int .i64 0,.int .i64 0,.full [],.int .i64 0,.int .i64 0]) 6,none,[]⟩]) (.seq (.ops true [⟨some 3,.faddr 0 1 false (.tmp 1),none,[]⟩,⟨some 4,.load none (.tmp 3),none,[0]⟩,⟨some 5,.faddr 1 1 false (.tmp 1),none,[]⟩,⟨some 6,.load none (.tmp 5),none,[2]⟩,⟨some 7,.faddr 2 1 false (.tmp 1),none,[]⟩,⟨some 8,.load none (.tmp 7),none,[4]⟩,⟨some 9,.faddr 3 1 false (.tmp 1),none,[]⟩,⟨some 10,.load none (.tmp 9),none,[6]⟩,⟨some 11,.call (.func 29) [.tmp 10],none,[7,6]⟩,⟨some 12,.faddr 4 1 false (.tmp 1),none,[]⟩,⟨some 13,.load none (.tmp 12),none,[9]⟩,⟨some 14,.faddr 5 1 false (.tmp 1),none,[]⟩,⟨some 15,.load none (.tmp 14),none,[11]⟩,⟨some 16,.build [.int .i64 0,.int .i64 0,.int .i64 0,.full [],.int .i64 0,.int .i64 0] [(0,(1,(.tmp 4))),(1,(1,(.tmp 6))),(2,(1,(.tmp 8))),(3,(1,(.tmp 11))),(4,(1,(.tmp 13))),(5,(1,(.tmp 15)))],none,[1,0,3,2,5,4,8,7,6,10,9,12,11]⟩,⟨none,.store 6 (.tmp 2) (.tmp 16),none,[13,1,0,3,2,5,4,8,7,6,10,9,12,11]⟩]) .ret)⟩
theorem dh19:cProg Go.Proofs.Tryz.prog ⟨[],[],[]⟩ 19=some dc19:=by kernel_rfl
def db29_0 : DC := (.seq (.ops false [⟨some 9,.bin .lss (.tmp 8) (.tmp 7),none,[]⟩]) (.seq (.cond (.tmp 9) .skip (.exit 0)) (.seq (.block 1 none (.seq (.ops false [⟨some 10,.iaddr 3 (.tmp 6) (.tmp 8),none,[]⟩,⟨some 11,.load (some 3) (.tmp 10),none,[]⟩,⟨some 5,.alloc (.agg [.int .i64 0,.int .i64 0,.int .i64 0]) 3,none,[]⟩,⟨none,.store 3 (.tmp 5) (.tmp 11),none,[]⟩]) (.ops false [⟨some 12,.mov (.tmp 3),none,[]⟩,⟨some 13,.load (some 3) (.tmp 5),none,[]⟩,⟨some 14,.lit true 3 1 (.agg [.int .i64 0,.int .i64 0,.int .i64 0]) [(0,(.tmp 13))],none,[]⟩,⟨some 15,.append false 3 (.tmp 12) (.tmp 14),none,[]⟩,⟨some 3,.mov (.tmp 15),none,[]⟩]))) (.ops false [⟨some 16,.bin .add (.tmp 8) (.const (.int .i64 1)),none,[]⟩,⟨some 8,.mov (.tmp 16),none,[]⟩]))))
def dk29_0 : Keep := ⟨[(3,3)],[3,6,7,8],[3]⟩
def dc29 : DFunc := ⟨18,1,[.tmp 2],.seq (.ops false [⟨some 2,.mov (.const (.slice none 0 0)),none,[]⟩]) (.seq (.ops false [⟨some 3,.mov (.const (.slice none 0 0)),none,[]⟩]) (.seq (.seq (.ops false [⟨some 6,.mov (.tmp 0),none,[]⟩,⟨some 7,.len (.tmp 6),none,[]⟩,⟨some 8,.mov (.const (.int .i64 0)),none,[]⟩]) (.block 0 (some ⟨[],[3],[3]⟩) (.loop dk29_0 db29_0))) (.seq (.ops false [⟨some 17,.mov (.tmp 3),none,[]⟩,⟨some 2,.mov (.tmp 17),none,[]⟩]) .ret)))⟩
theorem dh29:cProg Go.Proofs.Tryz.prog ⟨[(0,⟨[(3,3)],[3,6,7,8],[3]⟩)],[(0,⟨[],[3],[3]⟩)],[14]⟩ 29=some dc29:=by kernel_rfl
end Sh

namespace Sh
open Go Go.Proofs
theorem l_given (l:List Dy) (hl:l.length < 1073741824):PC 29 [.list (l.map encD)] (.list (l.map encD)):=by
 have e0:((l.map encD).length:Int)=l.length:=by simp
 refine pureCall_ofR dh29 rfl ?_
 conv=>whnf
 refine dwp_loopU (P:=Tryz.prog) (G:=GC) (k:=dk29_0) (b:=db29_0) (α:=Nat) (fun i=>[(3,.own 3 0 ((l.take i).map encD).length ((l.take i).map encD).length),(8,DV.int .i64 (i))]) (fun i=>[(3,.row 3 ((l.take i).map encD) false)]) (fun i=>i≤l.length) (fun i=>l.length - i) 0 (Nat.zero_le _) ?_
 conv=>whnf
 refine ⟨rfl,rfl,?_⟩
 conv=>whnf
 refine ⟨rfl,?_⟩
 intro i h1
 conv=>whnf
 refine ⟨fun hb=>?_,fun hb=>?_⟩
 ·have hi:i < l.length:=by simpa using hb
  clear hb
  have hs:(l.take (i+1)).map encD=(l.take i).map encD++[encD (l.getD i D0)]:=by rw [take_snoc l i D0 hi,List.map_append];rfl
  have hln:((l.take i).map encD).length=i:=by simp;omega
  generalize hR':(l.take (i+1)).map encD=R' at *
  generalize hR:(l.take i).map encD=R at *
  conv=>whnf
  rw [getD_enc _ _ (i) D0 hi]
  refine ⟨idxA hi rfl,?_⟩
  conv=>whnf
  refine ⟨⟨rfl,rfl,rfl,by rw [hln];simp;omega,fun e he=>by simp at he;subst he;rfl⟩,?_⟩
  conv=>whnf
  rw [wrap_succ i (by omega)]
  refine ⟨i+1,rfl,?_,?_,hi,by omega⟩
  ·rw [hR',hs];rfl
  ·rw [hR',hs];rfl
 ·have hi:i=l.length:=by have:=of_decide_eq_false hb;rw [e0] at this;omega
  clear hb
  rw [hi,List.take_length]
  conv=>whnf
  refine ⟨rfl,?_⟩
  rw [window_full]
  first|rfl|(show DV.list _=_;rfl)
theorem l_own (s:Sn) (hl:s.days.length < 1073741824):PC 19 [encS s] (encS s):=by
 have k1:PC 29 [dysV s.days] (dysV s.days):=l_given s.days hl
 refine pureCall_ofR dh19 rfl ?_
 conv=>whnf
 refine .inl ?_
 conv=>whnf
 refine ⟨_,k1 ..,?_⟩
 conv=>whnf
 refine ⟨by kernel_rfl,?_⟩
 conv=>whnf
 rfl
end Sh

namespace Sh
open Go
end Sh

set_option maxHeartbeats 2000000
namespace Sh
open Go Go.Proofs
end Sh

namespace Sh
open Go
def dc5 : DFunc := ⟨57,1,[.tmp 2],.seq (.ops false [⟨some 1,.box 6 (.tmp 0),none,[]⟩,⟨some 2,.mov (.const (.bool false)),none,[]⟩]) (.seq (.seq (.ops false [⟨some 9,.load (some 6) (.tmp 1),none,[]⟩,⟨some 10,.call (.func 15) [.tmp 9],none,[]⟩,⟨some 11,.un .not (.tmp 10),none,[]⟩,⟨some 12,.mov (.tmp 11),none,[]⟩,⟨some 13,.faddr 3 1 false (.tmp 1),some (12,false),[]⟩,⟨some 14,.load none (.tmp 13),some (12,false),[]⟩,⟨some 15,.len (.tmp 14),some (12,false),[]⟩,⟨some 16,.bin .gtr (.tmp 15) (.const (.int .i64 7)),some (12,false),[]⟩,⟨some 17,.mov (.tmp 16),some (12,false),[]⟩,⟨some 18,.faddr 3 1 false (.tmp 1),some (17,true),[]⟩,⟨some 19,.load none (.tmp 18),some (17,true),[]⟩,⟨some 20,.len (.tmp 19),some (17,true),[]⟩,⟨some 21,.bin .leq (.tmp 20) (.const (.int .i64 64)),some (17,true),[]⟩,⟨some 22,.pick (.tmp 17) (.tmp 21) (.const (.bool false)),some (12,false),[]⟩,⟨some 23,.pick (.tmp 12) (.const (.bool true)) (.tmp 22),none,[]⟩]) (.cond (.tmp 23) (.seq (.ops false [⟨some 24,.call (.func 17) [],none,[]⟩,⟨some 2,.mov (.tmp 24),none,[]⟩]) .ret) .skip)) (.seq (.ops false [⟨some 26,.load (some 6) (.tmp 1),none,[]⟩,⟨some 27,.call (.func 19) [.tmp 26],none,[]⟩,⟨some 28,.call (.func 37) [.tmp 27],none,[]⟩,⟨some 25,.mov (.tmp 28),none,[]⟩,⟨some 29,.extract (.tmp 25) 0,none,[]⟩,⟨some 30,.extract (.tmp 25) 1,none,[]⟩,⟨some 31,.extract (.tmp 25) 2,none,[]⟩,⟨some 3,.mov (.tmp 29),none,[]⟩,⟨some 4,.mov (.tmp 30),none,[]⟩,⟨some 5,.mov (.tmp 31),none,[]⟩]) (.seq (.ops false [⟨some 32,.load (some 6) (.tmp 1),none,[]⟩,⟨some 33,.call (.func 23) [.tmp 32],none,[]⟩,⟨some 6,.mov (.tmp 33),none,[]⟩]) (.seq (.ops false [⟨some 7,.mov (.const (.slice none 0 0)),none,[]⟩]) (.seq (.ops false [⟨some 8,.mov (.const (.int .i64 0)),none,[]⟩]) (.seq (.seq (.ops false [⟨some 34,.mov (.tmp 6),none,[]⟩,⟨some 35,.bin .eql (.tmp 34) (.const (.int .i64 0)),none,[]⟩]) (.cond (.tmp 35) (.ops false [⟨some 37,.load (some 6) (.tmp 1),none,[]⟩,⟨some 38,.call (.func 38) [.tmp 37],none,[]⟩,⟨some 36,.mov (.tmp 38),none,[]⟩,⟨some 39,.extract (.tmp 36) 0,none,[]⟩,⟨some 40,.extract (.tmp 36) 1,none,[]⟩,⟨some 7,.mov (.tmp 39),none,[]⟩,⟨some 8,.mov (.tmp 40),none,[]⟩]) .skip)) (.seq (.ops false [⟨some 41,.mov (.tmp 3),none,[]⟩,⟨some 42,.mov (.tmp 7),none,[]⟩,⟨some 43,.call (.func 32) [.tmp 41,.tmp 42],none,[]⟩,⟨some 44,.mov (.tmp 43),none,[]⟩,⟨some 45,.mov (.tmp 4),some (44,true),[]⟩,⟨some 46,.mov (.tmp 8),some (44,true),[]⟩,⟨some 47,.bin .eql (.tmp 45) (.tmp 46),some (44,true),[]⟩,⟨some 48,.pick (.tmp 44) (.tmp 47) (.const (.bool false)),none,[]⟩,⟨some 49,.mov (.tmp 48),none,[]⟩,⟨some 50,.mov (.tmp 5),some (49,true),[]⟩,⟨some 51,.mov (.tmp 6),some (49,true),[]⟩,⟨some 52,.bin .eql (.tmp 50) (.tmp 51),some (49,true),[]⟩,⟨some 53,.pick (.tmp 49) (.tmp 52) (.const (.bool false)),none,[]⟩,⟨some 54,.mov (.tmp 53),none,[]⟩,⟨some 55,.call (.func 17) [],some (54,true),[]⟩,⟨some 56,.pick (.tmp 54) (.tmp 55) (.const (.bool false)),none,[]⟩,⟨some 2,.mov (.tmp 56),none,[]⟩]) .ret)))))))⟩
theorem dh5:cProg Go.Proofs.Tryz.prog ⟨[],[],[]⟩ 5=some dc5:=by kernel_rfl
end Sh

namespace Sh
open Go Go.Proofs
theorem l_WashPlans (aw:PC 17 [] (.bool true)) (s:Sn):PC 5 [encS s] (.bool true):=by
 have kS:=r_Short s
 have e0:((s.days.map encD).length:Int)=s.days.length:=by simp
 by_cases hsh:shB s.days.length=true
 case neg =>
  have hsh:shB s.days.length=false:=by simpa using hsh
  rw [hsh] at kS
  refine pureCall_ofR dh5 rfl ?_
  conv=>whnf
  repeat' (first
   |(refine ⟨fun hg=>?_,fun hg=>?_⟩<;>first|contradiction|(conv=>whnf))
   |(refine Or.inl ?_;conv=>whnf)
   |(refine ⟨_,kS ..,?_⟩;conv=>whnf)
   |(refine ⟨_,aw ..,?_⟩;conv=>whnf)
   |(refine And.intro ?_ ?_;kernel_rfl;conv=>whnf))
  all_goals rfl
 case pos =>
 have hl:=shB_spec hsh
 rw [hsh] at kS
 clear hsh
 have a1:=l_own s (by omega)
 have b1:=c_Planned s (by omega)
 have c1:=r_CheckSeason s (by omega)
 have d0:PC 32 [.list [],.list []] (.bool true):=by have:=q_SameInts [] [] (by decide);rwa [dec_same] at this
 by_cases h1:chkSn s=0
 ·have hs:OkSn s:=chkSn_zero h1
  rw [h1] at b1 c1
  rw [optW_z] at b1
  have hn:=hs.n1
  by_cases h7:s.days.length≤7
  ·have e1:=r_Planned s hs (by omega)
   have d1:=q_SameInts (plannedS s).idx (plannedS s).idx (by
    obtain ⟨ws,hi,he⟩:=(planned_best s).1
    rw [he]
    have:=inc_len hi (by omega)
    show ws.length < _
    omega)
   rw [dec_same] at d1
   generalize plannedS s=p at *
   refine pureCall_ofR dh5 rfl ?_
   conv=>whnf
   repeat' (first
    |(refine ⟨fun hg=>?_,fun hg=>?_⟩<;>first|contradiction|(exfalso;revert hg;simp;done)|(exfalso;exact absurd (of_decide_eq_true hg) (by assumption))|(exfalso;exact absurd (by assumption) (of_decide_eq_false hg))|(conv=>whnf))
    |(refine Or.inl ?_;conv=>whnf)
    |(refine ⟨_,kS,?_⟩;conv=>whnf)
    |(refine ⟨_,a1,?_⟩;conv=>whnf)
    |(refine ⟨_,b1,?_⟩;conv=>whnf)
    |(refine ⟨_,c1,?_⟩;conv=>whnf)
    |(refine ⟨_,e1,?_⟩;conv=>whnf)
    |(refine ⟨_,d1,?_⟩;conv=>whnf)
    |(refine ⟨_,aw,?_⟩;conv=>whnf)
    |(refine And.intro ?_ ?_;kernel_rfl;conv=>whnf))
   all_goals rfl
  ·generalize plannedS s=p at *
   refine pureCall_ofR dh5 rfl ?_
   conv=>whnf
   repeat' (first
    |(refine ⟨fun hg=>?_,fun hg=>?_⟩<;>first|contradiction|(replace hg:=of_decide_eq_true hg;first|(exfalso;omega;done)|(conv=>whnf))|(replace hg:=of_decide_eq_false hg;first|(exfalso;omega;done)|(conv=>whnf))|(skip;conv=>whnf)|(conv=>whnf))
    |(refine Or.inl ?_;conv=>whnf)
    |(refine ⟨_,kS ..,?_⟩;conv=>whnf)
    |(refine ⟨_,aw ..,?_⟩;conv=>whnf)
    |(refine And.intro ?_ ?_;kernel_rfl;conv=>whnf))
   all_goals first|rfl|(exfalso;simp only [cond_true,cond_false,List.length_map,decide_eq_true_eq,decide_eq_false_iff_not,Bool.not_true,Bool.not_false] at *;omega)
 ·rw [optW_n h1] at b1
  generalize chkSn s=E at *
  refine pureCall_ofR dh5 rfl ?_
  conv=>whnf
  repeat' (first
   |(refine ⟨fun hg=>?_,fun hg=>?_⟩<;>first|contradiction|(exfalso;revert hg;simp;done)|(exfalso;exact absurd (of_decide_eq_true hg) (by assumption))|(exfalso;exact absurd (by assumption) (of_decide_eq_false hg))|(conv=>whnf))
   |(refine Or.inl ?_;conv=>whnf)
   |(refine ⟨_,kS,?_⟩;conv=>whnf)
   |(refine ⟨_,a1,?_⟩;conv=>whnf)
   |(refine ⟨_,b1,?_⟩;conv=>whnf)
   |(refine ⟨_,c1,?_⟩;conv=>whnf)
   |(refine ⟨_,d0,?_⟩;conv=>whnf)
   |(refine ⟨_,aw,?_⟩;conv=>whnf)
   |(refine And.intro ?_ ?_;kernel_rfl;conv=>whnf))
  all_goals rfl
end Sh
