/-
  Chapter 8's functions, walked over pure data: the library of the walk, the functions' code over data, and what each computes. (part 7)
-/
import Derived.Test.YtcgajpaohlggpaaGreatDoorP6
import Derived.ChangeArms
import Derived.ChangeSame
import Derived.OpenShut
import Derived.WideShapes
import Derived.FnData
import Derived.LaidMore
import Derived.DataReads
import Derived.Test.YtcgajpaohlggpaaGreatDoorProg
import Derived.Lib.ItoaNum
import Derived.Lib.ItoaLen
import Derived.Lib.MapLaws
import Derived.Lib.Bytealg
import Derived.Lib.Join
import Derived.Lib.Strings
set_option linter.unusedVariables false
set_option linter.unusedSimpArgs false
namespace Sh
open Go
section
variable {H:Type} {enc:TypeId×Value→H} {P:Program} {W:World}
theorem arg_int {t:TypeId} {k:IntKind} {v:Value} {d:DataW H} {p:List MemPlace} {base b0:Nat} {sp:Nat→Bool} {hd:Bool} (ht:P.underlying t=some (.int k))
  (hv:Value.okWide P W .any b0 t v) (h:DataW.Trod enc P W base sp hd t v d p):∃ n,v=.int k n∧(Lit.int k n).wf=true:=by
 obtain ⟨n,rfl⟩:=WideShapes.okWide_int ht hv
 obtain ⟨fuel,hf⟩:=h
 obtain ⟨m,e,_,hw⟩:=DataW.trod_int ht hf
 simp only [Value.cells,List.cons.injEq,Value.int.injEq] at e
 exact ⟨n,rfl,by rw [e.1.2];exact hw⟩
end
end Sh

set_option maxRecDepth 100000
namespace Sh
open Go
def dc23 : DFunc := ⟨23,1,[.tmp 2],.seq (.ops false [⟨some 1,.box 6 (.tmp 0),none,[]⟩,⟨some 2,.mov (.const (.int .i64 0)),none,[]⟩]) (.seq (.ops true [⟨some 3,.faddr 0 1 false (.tmp 1),none,[]⟩,⟨some 4,.load none (.tmp 3),none,[0]⟩,⟨some 5,.call (.func 94) [.tmp 4,.const (.int .i64 1),.const (.int .i64 1000)],none,[1,0]⟩,⟨some 6,.faddr 1 1 false (.tmp 1),none,[]⟩,⟨some 7,.load none (.tmp 6),none,[3]⟩,⟨some 8,.call (.func 94) [.tmp 7,.const (.int .i64 0),.const (.int .i64 1000)],none,[4,3,2,1,0]⟩,⟨some 9,.faddr 2 1 false (.tmp 1),none,[]⟩,⟨some 10,.load none (.tmp 9),none,[6]⟩,⟨some 11,.call (.func 94) [.tmp 10,.const (.int .i64 0),.const (.int .i64 1000)],none,[7,6,5,4,3,2,1,0]⟩,⟨some 12,.faddr 3 1 false (.tmp 1),none,[]⟩,⟨some 13,.load none (.tmp 12),none,[9]⟩,⟨some 14,.call (.func 30) [.tmp 13],none,[10,9,8,7,6,5,4,3,2,1,0]⟩,⟨some 15,.faddr 4 1 false (.tmp 1),none,[]⟩,⟨some 16,.load none (.tmp 15),none,[12]⟩,⟨some 17,.call (.func 94) [.tmp 16,.const (.int .i64 0),.const (.int .i64 1000)],none,[13,12,11,10,9,8,7,6,5,4,3,2,1,0]⟩,⟨some 18,.faddr 5 1 false (.tmp 1),none,[]⟩,⟨some 19,.load none (.tmp 18),none,[15]⟩,⟨some 20,.call (.func 94) [.tmp 19,.const (.int .i64 0),.const (.int .i64 1000000)],none,[16,15,14,13,12,11,10,9,8,7,6,5,4,3,2,1,0]⟩,⟨some 21,.lit true 1 6 (.int .i64 0) [(0,(.tmp 5)),(1,(.tmp 8)),(2,(.tmp 11)),(3,(.tmp 14)),(4,(.tmp 17)),(5,(.tmp 20))],none,[2,1,0,5,4,3,8,7,6,11,10,9,14,13,12,17,16,15]⟩,⟨some 22,.call (.func 48) [.tmp 21],none,[18,2,1,0,5,4,3,8,7,6,11,10,9,14,13,12,17,16,15]⟩,⟨some 2,.mov (.tmp 22),none,[19,18,2,1,0,5,4,3,8,7,6,11,10,9,14,13,12,17,16,15]⟩]) .ret)⟩
theorem dh23:cProg Go.Proofs.Tryz.prog ⟨[],[],[21]⟩ 23=some dc23:=by kernel_rfl
def db24_0 : DC := (.seq (.seq (.ops false [⟨some 7,.mov (.tmp 5),none,[]⟩,⟨some 8,.mov (.tmp 1),none,[]⟩,⟨some 9,.len (.tmp 8),none,[]⟩,⟨some 10,.bin .lss (.tmp 7) (.tmp 9),none,[]⟩]) (.cond (.tmp 10) .skip (.exit 0))) (.seq (.block 1 none (.seq (.ops true [⟨some 13,.mov (.tmp 1),none,[]⟩,⟨some 14,.mov (.tmp 5),none,[]⟩,⟨some 15,.iaddr 1 (.tmp 13) (.tmp 14),none,[0,1]⟩,⟨some 16,.load none (.tmp 15),none,[2,0,1]⟩,⟨some 17,.bin .lss (.tmp 16) (.const (.int .i64 0)),none,[3,2,0,1]⟩,⟨some 18,.mov (.tmp 17),none,[4,3,2,0,1]⟩,⟨some 19,.mov (.tmp 1),some (18,false),[5,4,3,2,0,1]⟩,⟨some 20,.mov (.tmp 5),some (18,false),[5,4,3,2,0,1]⟩,⟨some 21,.iaddr 1 (.tmp 19) (.tmp 20),some (18,false),[6,5,4,3,2,0,1,7]⟩,⟨some 22,.load none (.tmp 21),some (18,false),[8,6,5,4,3,2,0,1,7]⟩,⟨some 23,.faddr 3 1 false (.tmp 2),some (18,false),[5,4,3,2,0,1]⟩,⟨some 24,.load none (.tmp 23),some (18,false),[10,5,4,3,2,0,1]⟩,⟨some 25,.len (.tmp 24),some (18,false),[11,10,5,4,3,2,0,1]⟩,⟨some 26,.bin .geq (.tmp 22) (.tmp 25),some (18,false),[9,8,6,5,4,3,2,0,1,7,12,11,10]⟩,⟨some 27,.pick (.tmp 18) (.const (.bool true)) (.tmp 26),none,[5,4,3,2,0,1,13,9,8,6,7,12,11,10]⟩,⟨some 28,.call (.func 95) [.tmp 27,.const (.int .i64 10)],none,[14,5,4,3,2,0,1,13,9,8,6,7,12,11,10]⟩,⟨some 29,.mov (.tmp 5),none,[]⟩,⟨some 30,.bin .gtr (.tmp 29) (.const (.int .i64 0)),none,[16]⟩,⟨some 31,.mov (.tmp 30),none,[17,16,15,14,5,4,3,2,0,1,13,9,8,6,7,12,11,10]⟩,⟨some 32,.mov (.tmp 1),some (31,true),[18,17,16,15,14,5,4,3,2,0,1,13,9,8,6,7,12,11,10]⟩,⟨some 33,.mov (.tmp 5),some (31,true),[18,17,16,15,14,5,4,3,2,0,1,13,9,8,6,7,12,11,10]⟩,⟨some 34,.iaddr 1 (.tmp 32) (.tmp 33),some (31,true),[19,18,17,16,15,14,5,4,3,2,0,1,13,9,8,6,7,12,11,10,20]⟩,⟨some 35,.load none (.tmp 34),some (31,true),[21,19,18,17,16,15,14,5,4,3,2,0,1,13,9,8,6,7,12,11,10,20]⟩,⟨some 36,.mov (.tmp 1),some (31,true),[18,17,16,15,14,5,4,3,2,0,1,13,9,8,6,7,12,11,10]⟩,⟨some 37,.mov (.tmp 5),some (31,true),[18,17,16,15,14,5,4,3,2,0,1,13,9,8,6,7,12,11,10]⟩,⟨some 38,.bin .sub (.tmp 37) (.const (.int .i64 1)),some (31,true),[24,18,17,16,15,14,5,4,3,2,0,1,13,9,8,6,7,12,11,10]⟩,⟨some 39,.minmax true (.const (.int .i64 0)) [.tmp 38],some (31,true),[25,24,18,17,16,15,14,5,4,3,2,0,1,13,9,8,6,7,12,11,10]⟩,⟨some 40,.iaddr 1 (.tmp 36) (.tmp 39),some (31,true),[23,18,17,16,15,14,5,4,3,2,0,1,13,9,8,6,7,12,11,10,26,25,24]⟩,⟨some 41,.load none (.tmp 40),some (31,true),[27,23,18,17,16,15,14,5,4,3,2,0,1,13,9,8,6,7,12,11,10,26,25,24]⟩,⟨some 42,.bin .leq (.tmp 35) (.tmp 41),some (31,true),[22,21,19,18,17,16,15,14,5,4,3,2,0,1,13,9,8,6,7,12,11,10,20,28,27,23,26,25,24]⟩,⟨some 43,.pick (.tmp 31) (.tmp 42) (.const (.bool false)),none,[18,17,16,15,14,5,4,3,2,0,1,13,9,8,6,7,12,11,10,29,22,21,19,20,28,27,23,26,25,24]⟩,⟨some 44,.call (.func 95) [.tmp 43,.const (.int .i64 11)],none,[30,18,17,16,15,14,5,4,3,2,0,1,13,9,8,6,7,12,11,10,29,22,21,19,20,28,27,23,26,25,24]⟩,⟨some 45,.lit true 1 2 (.int .i64 0) [(0,(.tmp 28)),(1,(.tmp 44))],none,[15,14,5,4,3,2,0,1,13,9,8,6,7,12,11,10,31,30,18,17,16,29,22,21,19,20,28,27,23,26,25,24]⟩,⟨some 46,.call (.func 48) [.tmp 45],none,[32,15,14,5,4,3,2,0,1,13,9,8,6,7,12,11,10,31,30,18,17,16,29,22,21,19,20,28,27,23,26,25,24]⟩,⟨some 6,.mov (.tmp 46),none,[33,32,15,14,5,4,3,2,0,1,13,9,8,6,7,12,11,10,31,30,18,17,16,29,22,21,19,20,28,27,23,26,25,24]⟩]) (.seq (.ops false [⟨some 47,.mov (.tmp 6),none,[]⟩,⟨some 48,.bin .neq (.tmp 47) (.const (.int .i64 0)),none,[]⟩]) (.cond (.tmp 48) (.seq (.ops false [⟨some 49,.mov (.tmp 6),none,[]⟩,⟨some 4,.mov (.tmp 49),none,[]⟩]) .ret) .skip)))) (.ops false [⟨some 11,.mov (.tmp 5),none,[]⟩,⟨some 12,.bin .add (.tmp 11) (.const (.int .i64 1)),none,[]⟩,⟨some 5,.mov (.tmp 12),none,[]⟩])))
def dk24_0 : Keep := ⟨[],[1,2,5],[2]⟩
def dc24 : DFunc := ⟨50,2,[.tmp 4],.seq (.ops false [⟨some 2,.box 6 (.tmp 0),none,[]⟩,⟨some 4,.mov (.const (.int .i64 0)),none,[]⟩]) (.seq (.seq (.ops false [⟨some 5,.mov (.const (.int .i64 0)),none,[]⟩]) (.block 0 (some ⟨[],[],[2]⟩) (.loop dk24_0 db24_0))) (.seq (.ops false [⟨some 4,.mov (.const (.int .i64 0)),none,[]⟩]) .ret))⟩
theorem dh24:cProg Go.Proofs.Tryz.prog ⟨[(0,⟨[],[1,2,5],[2]⟩)],[(0,⟨[],[],[2]⟩)],[45]⟩ 24=some dc24:=by kernel_rfl
def db25_0 : DC := (.seq (.seq (.ops false [⟨some 10,.mov (.tmp 7),none,[]⟩,⟨some 11,.faddr 3 1 false (.tmp 2),none,[]⟩,⟨some 12,.load none (.tmp 11),none,[]⟩,⟨some 13,.len (.tmp 12),none,[]⟩,⟨some 14,.bin .lss (.tmp 10) (.tmp 13),none,[]⟩]) (.cond (.tmp 14) .skip (.exit 0))) (.seq (.block 1 none (.seq (.seq (.ops false [⟨some 17,.mov (.tmp 1),none,[]⟩,⟨some 18,.mov (.tmp 7),none,[]⟩,⟨some 19,.call (.func 83) [.tmp 17,.tmp 18],none,[]⟩]) (.cond (.tmp 19) (.ops false [⟨some 6,.mov (.const (.int .i64 0)),none,[]⟩]) .skip)) (.seq (.ops false [⟨some 20,.mov (.tmp 5),none,[]⟩,⟨some 21,.mov (.tmp 6),none,[]⟩,⟨some 22,.lit true 1 1 (.int .i64 0) [(0,(.tmp 21))],none,[]⟩,⟨some 23,.append false 1 (.tmp 20) (.tmp 22),none,[]⟩,⟨some 5,.mov (.tmp 23),none,[]⟩]) (.ops true [⟨some 24,.load (some 6) (.tmp 2),none,[]⟩,⟨some 25,.faddr 3 1 false (.tmp 2),none,[]⟩,⟨some 26,.load none (.tmp 25),none,[1]⟩,⟨some 27,.mov (.tmp 7),none,[]⟩,⟨some 28,.iaddr 3 (.tmp 26) (.tmp 27),none,[2,1,3]⟩,⟨some 29,.load (some 3) (.tmp 28),none,[4,2,1,3]⟩,⟨some 30,.mov (.tmp 6),none,[]⟩,⟨some 31,.call (.func 96) [.tmp 24,.tmp 29,.tmp 30],none,[0,5,4,2,1,3,6]⟩,⟨some 6,.mov (.tmp 31),none,[7,0,5,4,2,1,3,6]⟩])))) (.ops false [⟨some 15,.mov (.tmp 7),none,[]⟩,⟨some 16,.bin .add (.tmp 15) (.const (.int .i64 1)),none,[]⟩,⟨some 7,.mov (.tmp 16),none,[]⟩])))
def dk25_0 : Keep := ⟨[(5,1)],[1,2,5,6,7],[2,5,34,35]⟩
def dc25 : DFunc := ⟨36,2,[.tmp 4],.seq (.ops false [⟨some 2,.box 6 (.tmp 0),none,[]⟩,⟨some 4,.mov (.const (.slice none 0 0)),none,[]⟩]) (.seq (.ops false [⟨some 5,.mov (.const (.slice none 0 0)),none,[]⟩]) (.seq (.ops false [⟨some 8,.faddr 2 1 false (.tmp 2),none,[]⟩,⟨some 9,.load none (.tmp 8),none,[]⟩,⟨some 6,.mov (.tmp 9),none,[]⟩]) (.seq (.seq (.ops false [⟨some 7,.mov (.const (.int .i64 0)),none,[]⟩]) (.block 0 (some ⟨[],[5,6],[2,5,34,35]⟩) (.loop dk25_0 db25_0))) (.seq (.ops false [⟨some 32,.mov (.tmp 5),none,[]⟩,⟨some 33,.mov (.tmp 6),none,[]⟩,⟨some 34,.lit true 1 1 (.int .i64 0) [(0,(.tmp 33))],none,[]⟩,⟨some 35,.append false 1 (.tmp 32) (.tmp 34),none,[]⟩,⟨some 4,.mov (.tmp 35),none,[]⟩]) .ret))))⟩
theorem dh25:cProg Go.Proofs.Tryz.prog ⟨[(0,⟨[(5,1)],[1,2,5,6,7],[2,5,34,35]⟩)],[(0,⟨[],[5,6],[2,5,34,35]⟩)],[22,34]⟩ 25=some dc25:=by kernel_rfl
def db26_0 : DC := (.seq (.seq (.ops false [⟨some 11,.mov (.tmp 7),none,[]⟩,⟨some 12,.faddr 3 1 false (.tmp 2),none,[]⟩,⟨some 13,.load none (.tmp 12),none,[]⟩,⟨some 14,.len (.tmp 13),none,[]⟩,⟨some 15,.bin .lss (.tmp 11) (.tmp 14),none,[]⟩]) (.cond (.tmp 15) .skip (.exit 0))) (.seq (.block 1 none (.ops true [⟨some 18,.mov (.tmp 5),none,[]⟩,⟨some 19,.faddr 3 1 false (.tmp 2),none,[]⟩,⟨some 20,.load none (.tmp 19),none,[1]⟩,⟨some 21,.mov (.tmp 7),none,[]⟩,⟨some 22,.iaddr 3 (.tmp 20) (.tmp 21),none,[2,1,3]⟩,⟨some 23,.faddr 2 1 false (.tmp 22),none,[4,2,1,3]⟩,⟨some 24,.load none (.tmp 23),none,[5,4,2,1,3]⟩,⟨some 25,.mov (.tmp 6),none,[]⟩,⟨some 26,.mov (.tmp 7),none,[]⟩,⟨some 27,.iaddr 1 (.tmp 25) (.tmp 26),none,[7,8]⟩,⟨some 28,.load none (.tmp 27),none,[9,7,8]⟩,⟨some 29,.bin .sub (.const (.int .i64 1000)) (.tmp 28),none,[10,9,7,8]⟩,⟨some 30,.bin .mul (.tmp 24) (.tmp 29),none,[6,5,4,2,1,3,11,10,9,7,8]⟩,⟨some 31,.bin .quo (.tmp 30) (.const (.int .i64 1000)),none,[12,6,5,4,2,1,3,11,10,9,7,8]⟩,⟨some 32,.lit true 1 1 (.int .i64 0) [(0,(.tmp 31))],none,[13,12,6,5,4,2,1,3,11,10,9,7,8]⟩,⟨some 33,.append false 1 (.tmp 18) (.tmp 32),none,[0,14,13,12,6,5,4,2,1,3,11,10,9,7,8]⟩,⟨some 5,.mov (.tmp 33),none,[15,0,14,13,12,6,5,4,2,1,3,11,10,9,7,8]⟩])) (.ops false [⟨some 16,.mov (.tmp 7),none,[]⟩,⟨some 17,.bin .add (.tmp 16) (.const (.int .i64 1)),none,[]⟩,⟨some 7,.mov (.tmp 17),none,[]⟩])))
def dk26_0 : Keep := ⟨[(5,1)],[2,5,6,7],[2,5]⟩
def dc26 : DFunc := ⟨35,2,[.tmp 4],.seq (.ops false [⟨some 2,.box 6 (.tmp 0),none,[]⟩,⟨some 4,.mov (.const (.slice none 0 0)),none,[]⟩]) (.seq (.ops false [⟨some 5,.mov (.const (.slice none 0 0)),none,[]⟩]) (.seq (.ops false [⟨some 8,.load (some 6) (.tmp 2),none,[]⟩,⟨some 9,.mov (.tmp 1),none,[]⟩,⟨some 10,.call (.func 25) [.tmp 8,.tmp 9],none,[]⟩,⟨some 6,.mov (.tmp 10),none,[]⟩]) (.seq (.seq (.ops false [⟨some 7,.mov (.const (.int .i64 0)),none,[]⟩]) (.block 0 (some ⟨[],[5],[2,5]⟩) (.loop dk26_0 db26_0))) (.seq (.ops false [⟨some 34,.mov (.tmp 5),none,[]⟩,⟨some 4,.mov (.tmp 34),none,[]⟩]) .ret))))⟩
theorem dh26:cProg Go.Proofs.Tryz.prog ⟨[(0,⟨[(5,1)],[2,5,6,7],[2,5]⟩)],[(0,⟨[],[5],[2,5]⟩)],[32]⟩ 26=some dc26:=by kernel_rfl
def db30_0 : DC := (.seq (.seq (.ops false [⟨some 19,.mov (.tmp 4),none,[]⟩,⟨some 20,.mov (.tmp 0),none,[]⟩,⟨some 21,.len (.tmp 20),none,[]⟩,⟨some 22,.bin .lss (.tmp 19) (.tmp 21),none,[]⟩]) (.cond (.tmp 22) .skip (.exit 0))) (.seq (.block 1 none (.seq (.ops true [⟨some 25,.mov (.tmp 0),none,[]⟩,⟨some 26,.mov (.tmp 4),none,[]⟩,⟨some 27,.iaddr 3 (.tmp 25) (.tmp 26),none,[0,1]⟩,⟨some 28,.faddr 0 1 false (.tmp 27),none,[2,0,1]⟩,⟨some 29,.load none (.tmp 28),none,[3,2,0,1]⟩,⟨some 30,.call (.func 94) [.tmp 29,.const (.int .i64 0),.const (.int .i64 1000)],none,[4,3,2,0,1]⟩,⟨some 31,.mov (.tmp 0),none,[]⟩,⟨some 32,.mov (.tmp 4),none,[]⟩,⟨some 33,.iaddr 3 (.tmp 31) (.tmp 32),none,[6,7]⟩,⟨some 34,.faddr 1 1 false (.tmp 33),none,[8,6,7]⟩,⟨some 35,.load none (.tmp 34),none,[9,8,6,7]⟩,⟨some 36,.call (.func 94) [.tmp 35,.const (.int .i64 0),.const (.int .i64 1000)],none,[10,9,8,6,7,5,4,3,2,0,1]⟩,⟨some 37,.mov (.tmp 0),none,[]⟩,⟨some 38,.mov (.tmp 4),none,[]⟩,⟨some 39,.iaddr 3 (.tmp 37) (.tmp 38),none,[12,13]⟩,⟨some 40,.faddr 2 1 false (.tmp 39),none,[14,12,13]⟩,⟨some 41,.load none (.tmp 40),none,[15,14,12,13]⟩,⟨some 42,.call (.func 94) [.tmp 41,.const (.int .i64 0),.const (.int .i64 100000)],none,[16,15,14,12,13,11,10,9,8,6,7,5,4,3,2,0,1]⟩,⟨some 43,.lit true 1 3 (.int .i64 0) [(0,(.tmp 30)),(1,(.tmp 36)),(2,(.tmp 42))],none,[5,4,3,2,0,1,11,10,9,8,6,7,17,16,15,14,12,13]⟩,⟨some 44,.call (.func 48) [.tmp 43],none,[18,5,4,3,2,0,1,11,10,9,8,6,7,17,16,15,14,12,13]⟩,⟨some 5,.mov (.tmp 44),none,[19,18,5,4,3,2,0,1,11,10,9,8,6,7,17,16,15,14,12,13]⟩]) (.seq (.ops false [⟨some 45,.mov (.tmp 5),none,[]⟩,⟨some 46,.bin .neq (.tmp 45) (.const (.int .i64 0)),none,[]⟩]) (.cond (.tmp 46) (.seq (.ops false [⟨some 47,.mov (.tmp 5),none,[]⟩,⟨some 2,.mov (.tmp 47),none,[]⟩]) .ret) .skip)))) (.ops false [⟨some 23,.mov (.tmp 4),none,[]⟩,⟨some 24,.bin .add (.tmp 23) (.const (.int .i64 1)),none,[]⟩,⟨some 4,.mov (.tmp 24),none,[]⟩])))
def dk30_0 : Keep := ⟨[],[0,4],[14]⟩
def dc30 : DFunc := ⟨48,1,[.tmp 2],.seq (.ops false [⟨some 2,.mov (.const (.int .i64 0)),none,[]⟩]) (.seq (.seq (.ops false [⟨some 6,.mov (.tmp 0),none,[]⟩,⟨some 7,.len (.tmp 6),none,[]⟩,⟨some 8,.bin .eql (.tmp 7) (.const (.int .i64 0)),none,[]⟩,⟨some 9,.call (.func 95) [.tmp 8,.const (.int .i64 12)],none,[]⟩,⟨some 10,.mov (.tmp 0),none,[]⟩,⟨some 11,.len (.tmp 10),none,[]⟩,⟨some 12,.bin .gtr (.tmp 11) (.const (.int .i64 64)),none,[]⟩,⟨some 13,.call (.func 95) [.tmp 12,.const (.int .i64 5)],none,[]⟩,⟨some 14,.lit true 1 2 (.int .i64 0) [(0,(.tmp 9)),(1,(.tmp 13))],none,[]⟩,⟨some 15,.call (.func 48) [.tmp 14],none,[]⟩,⟨some 3,.mov (.tmp 15),none,[]⟩]) (.seq (.ops false [⟨some 16,.mov (.tmp 3),none,[]⟩,⟨some 17,.bin .neq (.tmp 16) (.const (.int .i64 0)),none,[]⟩]) (.cond (.tmp 17) (.seq (.ops false [⟨some 18,.mov (.tmp 3),none,[]⟩,⟨some 2,.mov (.tmp 18),none,[]⟩]) .ret) .skip))) (.seq (.seq (.ops false [⟨some 4,.mov (.const (.int .i64 0)),none,[]⟩]) (.block 0 (some ⟨[],[],[14]⟩) (.loop dk30_0 db30_0))) (.seq (.ops false [⟨some 2,.mov (.const (.int .i64 0)),none,[]⟩]) .ret)))⟩
theorem dh30:cProg Go.Proofs.Tryz.prog ⟨[(0,⟨[],[0,4],[14]⟩)],[(0,⟨[],[],[14]⟩)],[14,43]⟩ 30=some dc30:=by kernel_rfl
def dc35 : DFunc := ⟨18,2,[.tmp 4],.seq (.ops false [⟨some 2,.box 6 (.tmp 0),none,[]⟩,⟨some 4,.mov (.const (.int .i64 0)),none,[]⟩]) (.seq (.ops true [⟨some 5,.load (some 6) (.tmp 2),none,[]⟩,⟨some 6,.mov (.tmp 1),none,[]⟩,⟨some 7,.lit true 1 1 (.int .i64 0) [(0,(.tmp 6))],none,[1]⟩,⟨some 8,.faddr 3 1 false (.tmp 2),none,[]⟩,⟨some 9,.load none (.tmp 8),none,[3]⟩,⟨some 10,.len (.tmp 9),none,[4,3]⟩,⟨some 11,.call (.func 97) [.tmp 5,.tmp 7,.const (.int .i64 0),.tmp 10],none,[0,2,1,5,4,3]⟩,⟨some 12,.load (some 6) (.tmp 2),none,[]⟩,⟨some 13,.faddr 3 1 false (.tmp 2),none,[]⟩,⟨some 14,.load none (.tmp 13),none,[8]⟩,⟨some 15,.len (.tmp 14),none,[9,8]⟩,⟨some 16,.call (.func 97) [.tmp 12,.const (.slice none 0 0),.const (.int .i64 0),.tmp 15],none,[7,10,9,8,6,0,2,1,5,4,3]⟩,⟨some 17,.bin .sub (.tmp 11) (.tmp 16),none,[6,0,2,1,5,4,3,11,7,10,9,8]⟩,⟨some 4,.mov (.tmp 17),none,[12,6,0,2,1,5,4,3,11,7,10,9,8]⟩]) .ret)⟩
theorem dh35:cProg Go.Proofs.Tryz.prog ⟨[],[],[7]⟩ 35=some dc35:=by kernel_rfl
def db36_0 : DC := (.seq (.seq (.ops false [⟨some 7,.mov (.tmp 6),none,[]⟩,⟨some 8,.mov (.tmp 1),none,[]⟩,⟨some 9,.len (.tmp 8),none,[]⟩,⟨some 10,.bin .lss (.tmp 7) (.tmp 9),none,[]⟩]) (.cond (.tmp 10) .skip (.exit 0))) (.seq (.block 1 none (.seq (.ops true [⟨some 13,.load (some 6) (.tmp 2),none,[]⟩,⟨some 14,.mov (.tmp 1),none,[]⟩,⟨some 15,.mov (.tmp 6),none,[]⟩,⟨some 16,.call (.func 105) [.tmp 14,.tmp 15],none,[1,2]⟩,⟨some 17,.faddr 3 1 false (.tmp 2),none,[]⟩,⟨some 18,.load none (.tmp 17),none,[4]⟩,⟨some 19,.len (.tmp 18),none,[5,4]⟩,⟨some 20,.call (.func 97) [.tmp 13,.tmp 16,.const (.int .i64 0),.tmp 19],none,[0,3,1,2,6,5,4]⟩,⟨some 21,.load (some 6) (.tmp 2),none,[]⟩,⟨some 22,.mov (.tmp 1),none,[]⟩,⟨some 23,.faddr 3 1 false (.tmp 2),none,[]⟩,⟨some 24,.load none (.tmp 23),none,[10]⟩,⟨some 25,.len (.tmp 24),none,[11,10]⟩,⟨some 26,.call (.func 97) [.tmp 21,.tmp 22,.const (.int .i64 0),.tmp 25],none,[8,9,12,11,10,7,0,3,1,2,6,5,4]⟩,⟨some 27,.bin .eql (.tmp 20) (.tmp 26),none,[7,0,3,1,2,6,5,4,13,8,9,12,11,10]⟩]) (.cond (.tmp 27) (.ops false [⟨some 28,.mov (.tmp 5),none,[]⟩,⟨some 29,.mov (.tmp 6),none,[]⟩,⟨some 30,.lit true 1 1 (.int .i64 0) [(0,(.tmp 29))],none,[]⟩,⟨some 31,.append false 1 (.tmp 28) (.tmp 30),none,[]⟩,⟨some 5,.mov (.tmp 31),none,[]⟩]) .skip))) (.ops false [⟨some 11,.mov (.tmp 6),none,[]⟩,⟨some 12,.bin .add (.tmp 11) (.const (.int .i64 1)),none,[]⟩,⟨some 6,.mov (.tmp 12),none,[]⟩])))
def dk36_0 : Keep := ⟨[(5,1)],[1,2,5,6],[2,5]⟩
def dc36 : DFunc := ⟨33,2,[.tmp 4],.seq (.ops false [⟨some 2,.box 6 (.tmp 0),none,[]⟩,⟨some 4,.mov (.const (.slice none 0 0)),none,[]⟩]) (.seq (.ops false [⟨some 5,.mov (.const (.slice none 0 0)),none,[]⟩]) (.seq (.seq (.ops false [⟨some 6,.mov (.const (.int .i64 0)),none,[]⟩]) (.block 0 (some ⟨[],[5],[2,5]⟩) (.loop dk36_0 db36_0))) (.seq (.ops false [⟨some 32,.mov (.tmp 5),none,[]⟩,⟨some 4,.mov (.tmp 32),none,[]⟩]) .ret)))⟩
theorem dh36:cProg Go.Proofs.Tryz.prog ⟨[(0,⟨[(5,1)],[1,2,5,6],[2,5]⟩)],[(0,⟨[],[5],[2,5]⟩)],[30]⟩ 36=some dc36:=by kernel_rfl
def db48_0 : DC := (.seq (.seq (.ops false [⟨some 4,.mov (.tmp 3),none,[]⟩,⟨some 5,.mov (.tmp 0),none,[]⟩,⟨some 6,.len (.tmp 5),none,[]⟩,⟨some 7,.bin .lss (.tmp 4) (.tmp 6),none,[]⟩]) (.cond (.tmp 7) .skip (.exit 0))) (.seq (.block 1 none (.seq (.ops false [⟨some 10,.mov (.tmp 0),none,[]⟩,⟨some 11,.mov (.tmp 3),none,[]⟩,⟨some 12,.iaddr 1 (.tmp 10) (.tmp 11),none,[]⟩,⟨some 13,.load none (.tmp 12),none,[]⟩,⟨some 14,.bin .neq (.tmp 13) (.const (.int .i64 0)),none,[]⟩]) (.cond (.tmp 14) (.seq (.ops false [⟨some 15,.mov (.tmp 0),none,[]⟩,⟨some 16,.mov (.tmp 3),none,[]⟩,⟨some 17,.iaddr 1 (.tmp 15) (.tmp 16),none,[]⟩,⟨some 18,.load none (.tmp 17),none,[]⟩,⟨some 2,.mov (.tmp 18),none,[]⟩]) .ret) .skip))) (.ops false [⟨some 8,.mov (.tmp 3),none,[]⟩,⟨some 9,.bin .add (.tmp 8) (.const (.int .i64 1)),none,[]⟩,⟨some 3,.mov (.tmp 9),none,[]⟩])))
def dk48_0 : Keep := ⟨[],[0,3],[]⟩
def dc48 : DFunc := ⟨19,1,[.tmp 2],.seq (.ops false [⟨some 2,.mov (.const (.int .i64 0)),none,[]⟩]) (.seq (.seq (.ops false [⟨some 3,.mov (.const (.int .i64 0)),none,[]⟩]) (.block 0 (some ⟨[],[],[]⟩) (.loop dk48_0 db48_0))) (.seq (.ops false [⟨some 2,.mov (.const (.int .i64 0)),none,[]⟩]) .ret))⟩
theorem dh48:cProg Go.Proofs.Tryz.prog ⟨[(0,⟨[],[0,3],[]⟩)],[(0,⟨[],[],[]⟩)],[]⟩ 48=some dc48:=by kernel_rfl
def db83_0 : DC := (.seq (.seq (.ops false [⟨some 6,.mov (.tmp 5),none,[]⟩,⟨some 7,.mov (.tmp 0),none,[]⟩,⟨some 8,.len (.tmp 7),none,[]⟩,⟨some 9,.bin .lss (.tmp 6) (.tmp 8),none,[]⟩]) (.cond (.tmp 9) .skip (.exit 0))) (.seq (.block 1 none (.seq (.ops false [⟨some 12,.mov (.tmp 0),none,[]⟩,⟨some 13,.mov (.tmp 5),none,[]⟩,⟨some 14,.iaddr 1 (.tmp 12) (.tmp 13),none,[]⟩,⟨some 15,.load none (.tmp 14),none,[]⟩,⟨some 16,.mov (.tmp 1),none,[]⟩,⟨some 17,.bin .eql (.tmp 15) (.tmp 16),none,[]⟩]) (.cond (.tmp 17) (.seq (.ops false [⟨some 4,.mov (.const (.bool true)),none,[]⟩]) .ret) .skip))) (.ops false [⟨some 10,.mov (.tmp 5),none,[]⟩,⟨some 11,.bin .add (.tmp 10) (.const (.int .i64 1)),none,[]⟩,⟨some 5,.mov (.tmp 11),none,[]⟩])))
def dk83_0 : Keep := ⟨[],[0,1,5],[]⟩
def dc83 : DFunc := ⟨18,2,[.tmp 4],.seq (.ops false [⟨some 4,.mov (.const (.bool false)),none,[]⟩]) (.seq (.seq (.ops false [⟨some 5,.mov (.const (.int .i64 0)),none,[]⟩]) (.block 0 (some ⟨[],[],[]⟩) (.loop dk83_0 db83_0))) (.seq (.ops false [⟨some 4,.mov (.const (.bool false)),none,[]⟩]) .ret))⟩
theorem dh83:cProg Go.Proofs.Tryz.prog ⟨[(0,⟨[],[0,1,5],[]⟩)],[(0,⟨[],[],[]⟩)],[]⟩ 83=some dc83:=by kernel_rfl
def dc94 : DFunc := ⟨16,3,[.tmp 6],.seq (.ops false [⟨some 6,.mov (.const (.int .i64 0)),none,[]⟩]) (.seq (.ops false [⟨some 7,.mov (.tmp 0),none,[]⟩,⟨some 8,.mov (.tmp 1),none,[]⟩,⟨some 9,.bin .lss (.tmp 7) (.tmp 8),none,[]⟩,⟨some 10,.mov (.tmp 9),none,[]⟩,⟨some 11,.mov (.tmp 0),some (10,false),[]⟩,⟨some 12,.mov (.tmp 2),some (10,false),[]⟩,⟨some 13,.bin .gtr (.tmp 11) (.tmp 12),some (10,false),[]⟩,⟨some 14,.pick (.tmp 10) (.const (.bool true)) (.tmp 13),none,[]⟩,⟨some 15,.call (.func 95) [.tmp 14,.const (.int .i64 3)],none,[]⟩,⟨some 6,.mov (.tmp 15),none,[]⟩]) .ret)⟩
theorem dh94:cProg Go.Proofs.Tryz.prog ⟨[],[],[]⟩ 94=some dc94:=by kernel_rfl
def dc95 : DFunc := ⟨7,2,[.tmp 4],.seq (.ops false [⟨some 4,.mov (.const (.int .i64 0)),none,[]⟩]) (.seq (.seq (.ops false [⟨some 5,.mov (.tmp 0),none,[]⟩]) (.cond (.tmp 5) (.seq (.ops false [⟨some 6,.mov (.tmp 1),none,[]⟩,⟨some 4,.mov (.tmp 6),none,[]⟩]) .ret) .skip)) (.seq (.ops false [⟨some 4,.mov (.const (.int .i64 0)),none,[]⟩]) .ret))⟩
theorem dh95:cProg Go.Proofs.Tryz.prog ⟨[],[],[]⟩ 95=some dc95:=by kernel_rfl
def dc96 : DFunc := ⟨22,3,[.tmp 6],.seq (.ops false [⟨some 3,.box 6 (.tmp 0),none,[]⟩,⟨some 4,.box 3 (.tmp 1),none,[]⟩,⟨some 6,.mov (.const (.int .i64 0)),none,[]⟩]) (.seq (.seq (.ops false [⟨some 7,.faddr 1 1 false (.tmp 4),none,[]⟩,⟨some 8,.load none (.tmp 7),none,[]⟩,⟨some 9,.faddr 0 1 false (.tmp 3),none,[]⟩,⟨some 10,.load none (.tmp 9),none,[]⟩,⟨some 11,.bin .geq (.tmp 8) (.tmp 10),none,[]⟩]) (.cond (.tmp 11) (.ops false [⟨some 12,.mov (.tmp 2),none,[]⟩,⟨some 13,.faddr 1 1 false (.tmp 3),none,[]⟩,⟨some 14,.load none (.tmp 13),none,[]⟩,⟨some 15,.bin .mul (.tmp 12) (.tmp 14),none,[]⟩,⟨some 16,.bin .quo (.tmp 15) (.const (.int .i64 1000)),none,[]⟩,⟨some 2,.mov (.tmp 16),none,[]⟩]) .skip)) (.seq (.ops false [⟨some 17,.mov (.tmp 2),none,[]⟩,⟨some 18,.faddr 0 1 false (.tmp 4),none,[]⟩,⟨some 19,.load none (.tmp 18),none,[]⟩,⟨some 20,.bin .add (.tmp 17) (.tmp 19),none,[]⟩,⟨some 21,.minmax false (.const (.int .i64 1000)) [.tmp 20],none,[]⟩,⟨some 6,.mov (.tmp 21),none,[]⟩]) .ret))⟩
theorem dh96:cProg Go.Proofs.Tryz.prog ⟨[],[],[]⟩ 96=some dc96:=by kernel_rfl
def db97_0 : DC := (.seq (.seq (.ops false [⟨some 16,.mov (.tmp 11),none,[]⟩,⟨some 17,.mov (.tmp 3),none,[]⟩,⟨some 18,.bin .lss (.tmp 16) (.tmp 17),none,[]⟩]) (.cond (.tmp 18) .skip (.exit 0))) (.seq (.block 1 none (.ops false [⟨some 21,.mov (.tmp 10),none,[]⟩,⟨some 22,.mov (.tmp 9),none,[]⟩,⟨some 23,.mov (.tmp 11),none,[]⟩,⟨some 24,.iaddr 1 (.tmp 22) (.tmp 23),none,[]⟩,⟨some 25,.load none (.tmp 24),none,[]⟩,⟨some 26,.bin .add (.tmp 21) (.tmp 25),none,[]⟩,⟨some 10,.mov (.tmp 26),none,[]⟩])) (.ops false [⟨some 19,.mov (.tmp 11),none,[]⟩,⟨some 20,.bin .add (.tmp 19) (.const (.int .i64 1)),none,[]⟩,⟨some 11,.mov (.tmp 20),none,[]⟩])))
def dk97_0 : Keep := ⟨[],[3,9,10,11],[4]⟩
def dc97 : DFunc := ⟨28,4,[.tmp 8],.seq (.ops false [⟨some 4,.box 6 (.tmp 0),none,[]⟩,⟨some 8,.mov (.const (.int .i64 0)),none,[]⟩]) (.seq (.ops false [⟨some 12,.load (some 6) (.tmp 4),none,[]⟩,⟨some 13,.mov (.tmp 1),none,[]⟩,⟨some 14,.call (.func 26) [.tmp 12,.tmp 13],none,[]⟩,⟨some 9,.mov (.tmp 14),none,[]⟩]) (.seq (.ops false [⟨some 10,.mov (.const (.int .i64 0)),none,[]⟩]) (.seq (.seq (.ops false [⟨some 15,.mov (.tmp 2),none,[]⟩,⟨some 11,.mov (.tmp 15),none,[]⟩]) (.block 0 (some ⟨[],[10],[4]⟩) (.loop dk97_0 db97_0))) (.seq (.ops false [⟨some 27,.mov (.tmp 10),none,[]⟩,⟨some 8,.mov (.tmp 27),none,[]⟩]) .ret))))⟩
theorem dh97:cProg Go.Proofs.Tryz.prog ⟨[(0,⟨[],[3,9,10,11],[4]⟩)],[(0,⟨[],[10],[4]⟩)],[]⟩ 97=some dc97:=by kernel_rfl
def db105_0 : DC := (.seq (.seq (.ops false [⟨some 7,.mov (.tmp 6),none,[]⟩,⟨some 8,.mov (.tmp 0),none,[]⟩,⟨some 9,.len (.tmp 8),none,[]⟩,⟨some 10,.bin .lss (.tmp 7) (.tmp 9),none,[]⟩]) (.cond (.tmp 10) .skip (.exit 0))) (.seq (.block 1 none (.seq (.ops false [⟨some 13,.mov (.tmp 6),none,[]⟩,⟨some 14,.mov (.tmp 1),none,[]⟩,⟨some 15,.bin .neq (.tmp 13) (.tmp 14),none,[]⟩]) (.cond (.tmp 15) (.ops false [⟨some 16,.mov (.tmp 5),none,[]⟩,⟨some 17,.mov (.tmp 0),none,[]⟩,⟨some 18,.mov (.tmp 6),none,[]⟩,⟨some 19,.iaddr 1 (.tmp 17) (.tmp 18),none,[]⟩,⟨some 20,.load none (.tmp 19),none,[]⟩,⟨some 21,.lit true 1 1 (.int .i64 0) [(0,(.tmp 20))],none,[]⟩,⟨some 22,.append false 1 (.tmp 16) (.tmp 21),none,[]⟩,⟨some 5,.mov (.tmp 22),none,[]⟩]) .skip))) (.ops false [⟨some 11,.mov (.tmp 6),none,[]⟩,⟨some 12,.bin .add (.tmp 11) (.const (.int .i64 1)),none,[]⟩,⟨some 6,.mov (.tmp 12),none,[]⟩])))
def dk105_0 : Keep := ⟨[(5,1)],[0,1,5,6],[5]⟩
def dc105 : DFunc := ⟨24,2,[.tmp 4],.seq (.ops false [⟨some 4,.mov (.const (.slice none 0 0)),none,[]⟩]) (.seq (.ops false [⟨some 5,.mov (.const (.slice none 0 0)),none,[]⟩]) (.seq (.seq (.ops false [⟨some 6,.mov (.const (.int .i64 0)),none,[]⟩]) (.block 0 (some ⟨[],[5],[5]⟩) (.loop dk105_0 db105_0))) (.seq (.ops false [⟨some 23,.mov (.tmp 5),none,[]⟩,⟨some 4,.mov (.tmp 23),none,[]⟩]) .ret)))⟩
theorem dh105:cProg Go.Proofs.Tryz.prog ⟨[(0,⟨[(5,1)],[0,1,5,6],[5]⟩)],[(0,⟨[],[5],[5]⟩)],[21]⟩ 105=some dc105:=by kernel_rfl
end Sh

namespace Sh
open Go
theorem wrap_pred (i:Nat) (h0:0 < i) (h:i < 4611686018427387904):IntKind.i64.wrap ((i:Int) - 1)=((i - 1:Nat):Int):=by
 rw [wrap_W,W_in (by omega) (by omega)];omega
section
variable {ev:Operand→DV} {lk:Nat→Option DObj} {o kk q i:Nat} {ks:List Nat} {z v:DV} {m k x:Operand} {es:List (DV×DV)}
end
end Sh

namespace Sh
open Go Go.Proofs
theorem q_When (b:Bool) (e:Int):PC 95 [.bool b,DV.int .i64 (e)] (DV.int .i64 (whenE b e)):=by
 refine pureCall_ofR dh95 rfl ?_
 conv=>whnf
 refine ⟨fun hb=>?_,fun hb=>?_⟩<;>try (exact absurd hb (by decide))
 all_goals conv=>whnf
 all_goals subst hb;rfl
theorem q_CheckRange (n l h:Int):PC 94 [DV.int .i64 (n),DV.int .i64 (l),DV.int .i64 (h)] (DV.int .i64 (withE n l h)):=by
 refine pureCall_ofR dh94 rfl ?_
 conv=>whnf
 refine ⟨fun hb=>?_,fun hb=>?_⟩<;>try (exact absurd hb (by decide))
 all_goals conv=>whnf
 ·refine .inl ?_
  conv=>whnf
  refine ⟨_,q_When ..,?_⟩
  conv=>whnf
  exact int_eq (by simp_all [withE,whenE];split<;>split<;>omega)
 ·refine .inl ?_
  conv=>whnf
  refine ⟨_,q_When ..,?_⟩
  conv=>whnf
  exact int_eq (by simp_all [withE,whenE])
theorem q_First (l:List Int) (hl:l.length < 4611686018427387904):PC 48 [iL l] (DV.int .i64 (firstE l)):=by
 refine pureCall_ofR dh48 rfl ?_
 conv=>whnf
 refine dwp_loopR (P:=Tryz.prog) (G:=GC) (k:=dk48_0) (b:=db48_0) (α:=Nat) (fun i=>[(0,iL l),(3,DV.int .i64 (i))]) (fun _=>[]) (fun i=>i≤l.length∧firstE l=firstE (l.drop i)) (fun i=>l.length - i) 0 ⟨rfl,rfl,rfl⟩ ⟨Nat.zero_le _,rfl⟩ ?_
 intro i ⟨h1,h2⟩
 conv=>whnf
 refine ⟨fun hb=>?_,fun hb=>?_⟩<;>try (exact absurd hb (by decide))
 ·have hi:i < l.length:=by simpa using hb
  have hd:=firstE_drop l i hi
  conv=>whnf
  rw [getD_enc _ _ (i) 0 hi]
  refine ⟨idxA hi rfl,?_⟩
  conv=>whnf
  refine ⟨fun hb=>?_,fun hb=>?_⟩<;>try (exact absurd hb (by decide))
  ·conv=>whnf
   rw [getD_enc _ _ (i) 0 hi]
   refine ⟨idxA hi rfl,?_⟩
   conv=>whnf
   exact int_eq (by simp_all)
  ·conv=>whnf
   rw [wrap_succ i (by omega)]
   exact ⟨i+1,rfl,rfl,rfl,⟨hi,by simp_all⟩,by omega⟩
 ·conv=>whnf
  have:i=l.length:=by simp at hb;omega
  subst this
  exact int_eq (by rw [h2];simp [firstE])
end Sh

namespace Sh
open Go Go.Proofs
theorem firstE_two (a b:Int) (r:List Int):firstE (a :: b :: r)=if firstE [a,b]≠0 then firstE [a,b] else firstE r:=by
 simp only [firstE]
 split
 ·rfl
 ·split<;>rfl
theorem r_CheckDays (l:List Dy) (hl:l.length < 1073741824):PC 30 [dysV l] (DV.int .i64 (chkDs l)):=by
 have e0:((l.map encD).length:Int)=l.length:=by simp
 have hk:chkDs l=if firstE [whenE (decide (((l.map encD).length:Int)=0)) 12,whenE (decide ((64:Int) < ((l.map encD).length:Int))) 5]≠0 then firstE [whenE (decide (((l.map encD).length:Int)=0)) 12,whenE (decide ((64:Int) < ((l.map encD).length:Int))) 5] else firstE (l.map chkDy):=by
  unfold chkDs
  rw [firstE_two,firstE_one,e0,show decide ((l.length:Int)=0)=decide (l.length=0) by rw [decide_eq_decide];omega,show decide ((64:Int) < l.length)=decide (64 < l.length) by rw [decide_eq_decide];omega]
 refine pureCall_ofR dh30 rfl ?_
 conv=>whnf
 repeat' (first
  |(refine ⟨fun hg=>?_,fun hg=>?_⟩<;>first|contradiction|(conv=>whnf))
  |(refine Or.inl ?_;conv=>whnf)
  |(refine ⟨_,q_When ..,?_⟩;conv=>whnf)
  |(refine ⟨_,q_First [_,_] (by simp),?_⟩;conv=>whnf)
  |(refine And.intro ?_ ?_;kernel_rfl;conv=>whnf))
 ·have hg:=of_decide_eq_true hg
  exact int_eq (by rw [hk,if_pos hg])
 ·have hg:=of_decide_eq_false hg
  rw [if_neg hg] at hk
  clear hg
  refine dwp_loopU (P:=Tryz.prog) (G:=GC) (k:=dk30_0) (b:=db30_0) (α:=Nat) (fun i=>[(4,DV.int .i64 (i))]) (fun _=>[]) (fun i=>i≤l.length∧chkDs l=firstE ((l.map chkDy).drop i)) (fun i=>l.length - i) 0 ⟨Nat.zero_le _,hk⟩ ?_
  conv=>whnf
  refine ⟨rfl,rfl,?_⟩
  conv=>whnf
  refine ⟨rfl,?_⟩
  intro i ⟨h1,h2⟩
  conv=>whnf
  refine ⟨fun hb=>?_,fun hb=>?_⟩
  ·have hi:i < l.length:=by simpa using hb
   have hd:=firstE_drop (l.map chkDy) i (by simpa using hi)
   rw [show (l.map chkDy).getD i 0=chkDy (l.getD i D0) by simp [List.getD_eq_getElem?_getD,hi]] at hd
   clear hb
   conv=>whnf
   repeat' (first
    |(refine ⟨fun hg=>?_,fun hg=>?_⟩<;>first|contradiction|(conv=>whnf))
    |(refine Or.inl ?_;conv=>whnf)
    |(refine ⟨_,q_CheckRange ..,?_⟩;conv=>whnf)
    |(refine ⟨_,q_First [_,_,_] (by simp),?_⟩;conv=>whnf)
    |(rw [getD_enc _ _ i D0 hi];refine ⟨idxA hi rfl,?_⟩;conv=>whnf)
    |(refine And.intro ?_ ?_;kernel_rfl;conv=>whnf))
   ·have hg:chkDy (l.getD i D0)≠0:=of_decide_eq_true hg
    rw [if_pos hg] at hd
    exact int_eq (by rw [h2,hd];rfl)
   ·have hg:¬ chkDy (l.getD i D0)≠0:=of_decide_eq_false hg
    rw [if_neg hg] at hd
    rw [wrap_succ i (by omega)]
    exact ⟨i+1,rfl,rfl,rfl,⟨hi,by rw [h2,hd]⟩,by omega⟩
  ·have hi:i=l.length:=by have:=of_decide_eq_false hb;rw [e0] at this;omega
   clear hb
   conv=>whnf
   exact int_eq (by rw [h2,hi,List.drop_of_length_le (by simp)];rfl)
theorem r_CheckSeason (s:Sn) (hl:s.days.length < 1073741824):PC 23 [encS s] (DV.int .i64 (chkSn s)):=by
 have k1:=r_CheckDays s.days hl
 refine pureCall_ofR dh23 rfl ?_
 conv=>whnf
 repeat' (first
  |(refine ⟨fun hg=>?_,fun hg=>?_⟩<;>first|contradiction|(conv=>whnf))
  |(refine Or.inl ?_;conv=>whnf)
  |(refine ⟨_,k1,?_⟩;conv=>whnf)
  |(refine ⟨_,q_CheckRange ..,?_⟩;conv=>whnf)
  |(refine ⟨_,q_First [_,_,_,_,_,_] (by simp),?_⟩;conv=>whnf)
  |(refine And.intro ?_ ?_;kernel_rfl;conv=>whnf))
 rfl
end Sh

namespace Sh
open Go Go.Proofs
theorem q_HasInt (l:List Int) (n:Int) (hl:l.length < 4611686018427387904):PC 83 [iL l,DV.int .i64 (n)] (.bool (decide (n ∈ l))):=by
 have e0:((l.map (DV.int .i64)).length:Int)=l.length:=by simp
 refine pureCall_ofR dh83 rfl ?_
 conv=>whnf
 refine dwp_loopR (P:=Tryz.prog) (G:=GC) (k:=dk83_0) (b:=db83_0) (α:=Nat) (fun i=>[(0,iL l),(1,DV.int .i64 (n)),(5,DV.int .i64 (i))]) (fun _=>[]) (fun i=>i≤l.length∧n ∉ l.take i) (fun i=>l.length - i) 0 ⟨rfl,rfl,rfl⟩ ⟨Nat.zero_le _,by simp⟩ ?_
 intro i ⟨h1,h2⟩
 conv=>whnf
 refine ⟨fun hb=>?_,fun hb=>?_⟩
 ·have hi:i < l.length:=by simpa using hb
  clear hb
  conv=>whnf
  rw [getD_enc _ _ (i) 0 hi]
  refine ⟨idxA hi rfl,?_⟩
  conv=>whnf
  refine ⟨fun hg=>?_,fun hg=>?_⟩
  ·have hg:l.getD i 0=n:=of_decide_eq_true hg
   conv=>whnf
   exact bool_eq (decide_eq_true (by rw [← hg];exact getD_in 0 hi)).symm
  ·have hg:¬ l.getD i 0=n:=of_decide_eq_false hg
   conv=>whnf
   rw [wrap_succ i (by omega)]
   refine ⟨i+1,rfl,rfl,rfl,⟨hi,?_⟩,by omega⟩
   rw [take_snoc l i 0 hi,List.mem_append]
   rintro (h|h)
   ·exact h2 h
   ·simp only [List.mem_cons,List.not_mem_nil,or_false] at h;exact hg h.symm
 ·have hi:i=l.length:=by have:=of_decide_eq_false hb;rw [e0] at this;omega
  rw [hi,List.take_length] at h2
  conv=>whnf
  exact bool_eq (decide_eq_false h2).symm
end Sh

namespace Sh
open Go Go.Proofs
theorem r_after (s:Sn) (d:Dy) (so:Int) (hs:OkSn s) (hd:OkDy d) (h0:0≤so) (h1:so≤1000):PC 96 [encS s,encD d,DV.int .i64 (so)] (DV.int .i64 (aftS s d so)):=by
 obtain ⟨w0,w1,w2,w3,w4⟩:=aft_w hs hd h0 h1
 refine pureCall_ofR dh96 rfl ?_
 conv=>whnf
 refine ⟨fun hg=>?_,fun hg=>?_⟩
 ·have hg:s.enough≤d.rain:=of_decide_eq_true hg
  conv=>whnf
  repeat' (first
   |(refine ⟨fun hg=>?_,fun hg=>?_⟩<;>first|contradiction|(conv=>whnf))
   |(refine Or.inl ?_;conv=>whnf)
   |(refine ⟨by decide,?_⟩;conv=>whnf)
   |(refine And.intro ?_ ?_;kernel_rfl;conv=>whnf))
  rw [w4,w1,w2,min_min]
  refine int_eq ?_
  unfold aftS
  rw [if_pos hg]
 ·have hg:¬ s.enough≤d.rain:=of_decide_eq_false hg
  conv=>whnf
  rw [w3,min_min]
  refine int_eq ?_
  unfold aftS
  rw [if_neg hg]
end Sh

namespace Sh
open Go Go.Proofs
theorem r_CheckWashes (s:Sn) (ws:List Int) (hl:s.days.length < 1073741824) (hw:ws.length < 1073741824):PC 24 [encS s,iL ws] (DV.int .i64 (chkWs s.days.length (-1) ws)):=by
 have e0:((ws.map (DV.int .i64)).length:Int)=ws.length:=by simp
 have e1:((s.days.map encD).length:Int)=s.days.length:=by simp
 refine pureCall_ofR dh24 rfl ?_
 conv=>whnf
 refine dwp_loopU (P:=Tryz.prog) (G:=GC) (k:=dk24_0) (b:=db24_0) (α:=Nat) (fun i=>[(5,DV.int .i64 (i))]) (fun _=>[(2,.box 6 (encS s))]) (fun i=>i≤ws.length∧chkWs s.days.length (-1) ws=chkWs s.days.length (lastW ws i) (ws.drop i)) (fun i=>ws.length - i) 0 ⟨Nat.zero_le _,rfl⟩ ?_
 conv=>whnf
 refine ⟨rfl,rfl,?_⟩
 conv=>whnf
 refine ⟨rfl,?_⟩
 intro i ⟨h1,h2⟩
 conv=>whnf
 refine ⟨fun hb=>?_,fun hb=>?_⟩
 ·have hi:i < ws.length:=by simpa using hb
  have hd:=chkWs_drop s.days.length ws i hi
  clear hb
  have hp:0 < i→lastW ws i=ws.getD (i - 1) 0:=fun h=>by unfold lastW;rw [if_neg (by omega)]
  have hz:i=0→lastW ws i = -1:=fun h=>by unfold lastW;rw [if_pos h]
  have hmx:0 < i→minmaxI true 0 (IntKind.i64.wrap ((i:Int) - 1))=((i - 1:Nat):Int):=fun h=>by
   rw [wrap_pred i h (by omega)]
   unfold minmaxI
   show (if ((i - 1:Nat):Int) > 0 then _ else _)=_
   split<;>omega
  have fin:∀ b c,b=decide (ws.getD i 0 < 0∨(s.days.length:Int)≤ws.getD i 0)→(¬ ws.getD i 0 < 0→c=decide (ws.getD i 0≤lastW ws i))→firstE [whenE b 10,whenE c 11]=wE s.days.length (ws.getD i 0) (lastW ws i):=fun b c g1 g2=>wE_first g1 g2
  have hdec:¬ ws.getD i 0 < 0→decide (((s.days.map encD).length:Int)≤ws.getD i 0)=decide (ws.getD i 0 < 0∨(s.days.length:Int)≤ws.getD i 0):=fun h=>by rw [e1,decide_eq_decide];omega
  have hyes:ws.getD i 0 < 0→true=decide (ws.getD i 0 < 0∨(s.days.length:Int)≤ws.getD i 0):=fun h=>(decide_eq_true (.inl h)).symm
  by_cases i0:(0:Int) < (i:Int)
  all_goals by_cases hx:ws.getD i 0 < 0
  all_goals
   conv=>whnf
   repeat' (first
    |(refine ⟨fun hg=>?_,fun hg=>?_⟩<;>first|contradiction|(exfalso;revert hg;simp;done)|(exfalso;exact absurd (of_decide_eq_true hg) (by assumption))|(exfalso;exact absurd (by assumption) (of_decide_eq_false hg))|(conv=>whnf))
    |(refine Or.inl ?_;conv=>whnf)
    |(refine ⟨_,q_When ..,?_⟩;conv=>whnf)
    |(refine ⟨_,q_First [_,_] (by simp),?_⟩;conv=>whnf)
    |(rw [getD_enc _ _ i 0 hi];refine ⟨idxA hi rfl,?_⟩;conv=>whnf)
    |(rw [hmx (by omega),getD_enc _ _ (i - 1) 0 (by omega)];refine ⟨idxA (by omega) rfl,?_⟩;conv=>whnf)
    |(refine And.intro ?_ ?_;kernel_rfl;conv=>whnf))
  all_goals
   first
   |contradiction
   |(have hg:firstE [whenE _ 10,whenE _ 11]≠0:=of_decide_eq_true hg
     rw [fin _ _ (by first|exact hyes hx|exact hdec hx) (fun hx'=>by first|exact absurd hx hx'|(rw [hp (by omega)];rfl)|(rw [hz (by omega)];symm;exact decide_eq_false (by omega)))] at hg ⊢
     rw [if_pos hg] at hd
     exact int_eq (by rw [h2,hd]))
   |(have hg:¬ firstE [whenE _ 10,whenE _ 11]≠0:=of_decide_eq_false hg
     rw [fin _ _ (by first|exact hyes hx|exact hdec hx) (fun hx'=>by first|exact absurd hx hx'|(rw [hp (by omega)];rfl)|(rw [hz (by omega)];symm;exact decide_eq_false (by omega)))] at hg
     rw [if_neg hg] at hd
     rw [wrap_succ i (by omega)]
     exact ⟨i+1,rfl,rfl,rfl,⟨hi,by rw [h2,hd]⟩,by omega⟩)
 ·have hi:i=ws.length:=by have:=of_decide_eq_false hb;rw [e0] at this;omega
  clear hb
  conv=>whnf
  exact int_eq (by rw [h2,hi,List.drop_of_length_le (Nat.le_refl _)];rfl)
end Sh

namespace Sh
open Go Go.Proofs
def cleanS (s:Sn) (ws:List Int) (i:Nat):List Int:=rng i (fun k=>wshS ws k (curS s ws k))
theorem cleanS_len (s:Sn) (ws:List Int) (i:Nat):(cleanS s ws i).length=i:=rng_len _ _
theorem cleanS_succ (s:Sn) (ws:List Int) (i:Nat):cleanS s ws (i+1)=cleanS s ws i++[wshS ws i (curS s ws i)]:=rng_succ _ _
theorem cleanS_last (s:Sn) (ws:List Int):cleanS s ws s.days.length++[curS s ws s.days.length]=soilsS s ws:=by
 rw [soils_dirt];unfold dirtS cleanS;rfl
theorem curS_succ (s:Sn) (ws:List Int) (i:Nat):curS s ws (i+1)=aftS s (s.days.getD i D0) (wshS ws i (curS s ws i)):=rfl
theorem r_Soils (s:Sn) (ws:List Int) (hs:OkSn s) (hw:ws.length < 1073741824):PC 25 [encS s,iL ws] (iL (soilsS s ws)):=by
 have e1:((s.days.map encD).length:Int)=s.days.length:=by simp
 have hn:=hs.n1
 rw [← cleanS_last]
 refine pureCall_ofR dh25 rfl ?_
 conv=>whnf
 refine dwp_loopU (P:=Tryz.prog) (G:=GC) (k:=dk25_0) (b:=db25_0) (α:=Nat) (fun i=>[(5,.own 5 0 (iD (cleanS s ws i)).length (iD (cleanS s ws i)).length),(6,DV.int .i64 (curS s ws i)),(7,DV.int .i64 (i))]) (fun i=>[(2,.box 6 (encS s)),(5,.row 1 (iD (cleanS s ws i)) false)]) (fun i=>i≤s.days.length) (fun i=>s.days.length - i) 0 (Nat.zero_le _) ?_
 conv=>whnf
 refine ⟨rfl,rfl,?_⟩
 conv=>whnf
 refine ⟨rfl,?_⟩
 intro i h1
 conv=>whnf
 refine ⟨fun hb=>?_,fun hb=>?_⟩
 ·have hi:i < s.days.length:=by simpa using hb
  have hd:=hs.ds _ (getD_in D0 hi)
  have hcb:=curS_bd hs ws i h1
  have hwb:=wshS_bd (ws:=ws) (i:=i) hcb.1 hcb.2
  have hsu:=cleanS_succ s ws i
  have hdl:=cleanS_len s ws i
  have hcs:=curS_succ s ws i
  clear hb
  have k2:=r_after s (s.days.getD i D0) (wshS ws i (curS s ws i)) hs hd hwb.1 hwb.2
  rw [← hcs] at k2
  have hin:(i:Int) ∈ ws→wshS ws i (curS s ws i)=0:=fun h=>by unfold wshS;rw [if_pos h]
  have hno:(i:Int) ∉ ws→wshS ws i (curS s ws i)=curS s ws i:=fun h=>by unfold wshS;rw [if_neg h]
  generalize wshS ws i (curS s ws i)=so at *
  generalize curS s ws i=cu at *
  generalize cleanS s ws i=R at *
  generalize hcn:curS s ws (i+1)=cn at *
  conv=>whnf
  refine .inl ?_
  conv=>whnf
  refine ⟨_,q_HasInt ws (i:Int) (by omega),?_⟩
  conv=>whnf
  refine ⟨fun hg=>?_,fun hg=>?_⟩
  ·have hg:(i:Int) ∈ ws:=of_decide_eq_true hg
   rw [hin hg] at k2 hsu
   conv=>whnf
   refine ⟨⟨rfl,rfl,rfl,by rw [iD_len];simp;omega,fun e he=>by simp at he;subst he;rfl⟩,?_⟩
   conv=>whnf
   rw [getD_enc _ _ (i) D0 hi]
   refine ⟨idxA hi rfl,?_⟩
   conv=>whnf
   repeat' (first
    |(refine ⟨fun hg=>?_,fun hg=>?_⟩<;>first|contradiction|(conv=>whnf))
    |(refine Or.inl ?_;conv=>whnf)
    |(refine ⟨_,k2,?_⟩;conv=>whnf)
    |(refine And.intro ?_ ?_;kernel_rfl;conv=>whnf))
   rw [wrap_succ i (by omega)]
   refine ⟨i+1,rfl,?_,?_,hi,by omega⟩
   ·rw [hsu,iD_app,hcn];rfl
   ·rw [hsu,iD_app];rfl
  ·have hg:(i:Int) ∉ ws:=of_decide_eq_false hg
   rw [hno hg] at k2 hsu
   conv=>whnf
   refine ⟨⟨rfl,rfl,rfl,by rw [iD_len];simp;omega,fun e he=>by simp at he;subst he;rfl⟩,?_⟩
   conv=>whnf
   rw [getD_enc _ _ (i) D0 hi]
   refine ⟨idxA hi rfl,?_⟩
   conv=>whnf
   repeat' (first
    |(refine ⟨fun hg=>?_,fun hg=>?_⟩<;>first|contradiction|(conv=>whnf))
    |(refine Or.inl ?_;conv=>whnf)
    |(refine ⟨_,k2,?_⟩;conv=>whnf)
    |(refine And.intro ?_ ?_;kernel_rfl;conv=>whnf))
   rw [wrap_succ i (by omega)]
   refine ⟨i+1,rfl,?_,?_,hi,by omega⟩
   ·rw [hsu,iD_app,hcn];rfl
   ·rw [hsu,iD_app];rfl
 ·have hi:i=s.days.length:=by have:=of_decide_eq_false hb;rw [e1] at this;omega
  have hdl:=cleanS_len s ws s.days.length
  rw [hi]
  generalize cleanS s ws s.days.length=R at *
  generalize curS s ws s.days.length=cu at *
  clear hb
  conv=>whnf
  refine ⟨⟨rfl,rfl,rfl,by rw [iD_len];simp;omega,fun e he=>by simp at he;subst he;rfl⟩,?_⟩
  conv=>whnf
  refine ⟨rfl,?_⟩
  rw [window_full,show (iL (R++[cu]))=.list (iD R++[DV.int .i64 (cu)]) by rw [← iD_app];rfl];rfl
end Sh

namespace Sh
open Go Go.Proofs
theorem r_Yields (s:Sn) (ws:List Int) (hs:OkSn s) (hw:ws.length < 1073741824):PC 26 [encS s,iL ws] (iL (yldS s ws)):=by
 have e1:((s.days.map encD).length:Int)=s.days.length:=by simp
 have hn:=hs.n1
 have hl:=yldS_len s ws
 have hsl:=soilsS_len s ws
 have k1:=r_Soils s ws hs hw
 refine pureCall_ofR dh26 rfl ?_
 conv=>whnf
 refine .inl ?_
 conv=>whnf
 refine ⟨_,k1 ..,?_⟩
 conv=>whnf
 refine dwp_loopU (P:=Tryz.prog) (G:=GC) (k:=dk26_0) (b:=db26_0) (α:=Nat) (fun i=>[(5,.own 5 0 (iD ((yldS s ws).take i)).length (iD ((yldS s ws).take i)).length),(7,DV.int .i64 (i))]) (fun i=>[(2,.box 6 (encS s)),(5,.row 1 (iD ((yldS s ws).take i)) false)]) (fun i=>i≤s.days.length) (fun i=>s.days.length - i) 0 (Nat.zero_le _) ?_
 conv=>whnf
 refine ⟨rfl,rfl,?_⟩
 conv=>whnf
 refine ⟨rfl,?_⟩
 intro i h1
 conv=>whnf
 refine ⟨fun hb=>?_,fun hb=>?_⟩
 ·have hi:i < s.days.length:=by simpa using hb
  have hd:=hs.ds _ (getD_in D0 hi)
  have hsb:=soilsS_bd hs ws _ (getD_in (i:=i) 0 (by omega))
  have hg:=yldS_get s ws i hi
  have hlw:=lgt_w hd hsb.1 hsb.2
  rw [← hg] at hlw
  clear hb
  conv=>whnf
  rw [getD_enc _ _ (i) D0 hi]
  refine ⟨idxA hi rfl,?_⟩
  conv=>whnf
  rw [getD_enc _ _ (i) 0 (by omega:i < (soilsS s ws).length)]
  refine ⟨idxA (by omega:i < (soilsS s ws).length) rfl,?_⟩
  conv=>whnf
  refine ⟨by decide,?_⟩
  conv=>whnf
  rw [show (encD (s.days.getD i D0))=.agg [DV.int .i64 ((s.days.getD i D0).dust),DV.int .i64 ((s.days.getD i D0).rain),DV.int .i64 ((s.days.getD i D0).light)] from rfl]
  conv=>whnf
  rw [hlw]
  refine ⟨⟨rfl,rfl,rfl,by rw [iD_take_len _ _ (by omega)];simp;omega,fun e he=>by simp at he;subst he;rfl⟩,?_⟩
  conv=>whnf
  refine ⟨by kernel_rfl,?_⟩
  conv=>whnf
  rw [wrap_succ i (by omega)]
  refine ⟨i+1,rfl,?_,?_,hi,by omega⟩
  ·rw [iD_take _ _ (by omega)];rfl
  ·rw [iD_take _ _ (by omega)];rfl
 ·have hi:i=s.days.length:=by have:=of_decide_eq_false hb;rw [e1] at this;omega
  clear hb
  conv=>whnf
  refine ⟨rfl,?_⟩
  rw [window_full,hi,List.take_of_length_le (by omega)];rfl
def ySum (s:Sn) (ws:List Int) (f t:Nat):Int:=sumI (((yldS s ws).drop f).take (t - f))
theorem ySum_all (s:Sn) (ws:List Int):ySum s ws 0 s.days.length=sumI (yldS s ws):=by
 unfold ySum;rw [List.drop_zero,List.take_of_length_le (by rw [yldS_len];omega)]
theorem ySum_succ (s:Sn) (ws:List Int) (f k:Nat) (h:f+k < s.days.length):ySum s ws f (f+(k+1))=ySum s ws f (f+k)+(yldS s ws).getD (f+k) 0:=by
 unfold ySum
 rw [Nat.add_sub_cancel_left,Nat.add_sub_cancel_left,sumI_take_succ _ _ (by rw [List.length_drop,yldS_len];omega)]
 simp [List.getD_eq_getElem?_getD]
theorem ySum_bd {s:Sn} (hs:OkSn s) (ws:List Int) (f t:Nat):0≤ySum s ws f t∧ySum s ws f t≤6400000:=by
 unfold ySum
 have h:=sumI_take_bd (l:=(yldS s ws).drop f) (B:=100000) (fun x hx=>yldS_bd hs ws x (List.mem_of_mem_drop hx)) (t - f)
 have hl:((yldS s ws).drop f).length≤64:=by rw [List.length_drop,yldS_len];have:=hs.n1;omega
 omega
theorem r_Sum (s:Sn) (ws:List Int) (f t:Nat) (hs:OkSn s) (hw:ws.length < 1073741824) (hft:f≤t) (ht:t≤s.days.length):PC 97 [encS s,iL ws,DV.int .i64 (f),DV.int .i64 (t)] (DV.int .i64 (ySum s ws f t)):=by
 have hn:=hs.n1
 have hl:=yldS_len s ws
 have k1:=r_Yields s ws hs hw
 have h0:ySum s ws f (f+0)=0:=by unfold ySum;simp only [Nat.add_zero,Nat.sub_self,List.take_zero];rfl
 refine pureCall_ofR dh97 rfl ?_
 conv=>whnf
 refine .inl ?_
 conv=>whnf
 refine ⟨_,k1 ..,?_⟩
 conv=>whnf
 refine dwp_loopU (P:=Tryz.prog) (G:=GC) (k:=dk97_0) (b:=db97_0) (α:=Nat) (fun i=>[(10,DV.int .i64 (ySum s ws f (f+i))),(11,DV.int .i64 ((f+i:Nat)))]) (fun i=>[(4,.box 6 (encS s))]) (fun i=>i≤t - f) (fun i=>t - f - i) 0 (Nat.zero_le _) ?_
 refine ⟨rfl,rfl,by rw [h0];rfl,?_⟩
 intro i h1
 conv=>whnf
 refine ⟨fun hb=>?_,fun hb=>?_⟩
 ·have hi:f+i < t:=by have:=of_decide_eq_true hb;omega
  have hsu:=ySum_succ s ws f i (by omega)
  have b1:=ySum_bd hs ws f (f+i)
  have b2:=ySum_bd hs ws f (f+(i+1))
  clear hb
  conv=>whnf
  rw [getD_enc _ _ ((f+i)) 0 (by omega:f+i < (yldS s ws).length)]
  refine ⟨idxA (by omega:f+i < (yldS s ws).length) rfl,?_⟩
  conv=>whnf
  rw [wrap_succ (f+i) (by omega),wrap_in (n:=ySum s ws f (f+i)+_) (by omega) (by omega),← hsu]
  exact ⟨i+1,rfl,rfl,rfl,by omega,by omega⟩
 ·have hi:f+i=t:=by have:=of_decide_eq_false hb;omega
  clear hb
  rw [hi]
  conv=>whnf
  rfl
end Sh

namespace Sh
open Go Go.Proofs
theorem r_Gain (s:Sn) (d:Int) (hs:OkSn s):PC 35 [encS s,DV.int .i64 (d)] (DV.int .i64 (gainS s d)):=by
 have k1:=r_Sum s [d] 0 s.days.length hs (by simp) (Nat.zero_le _) (Nat.le_refl _)
 have k2:=r_Sum s [] 0 s.days.length hs (by simp) (Nat.zero_le _) (Nat.le_refl _)
 rw [ySum_all] at k1 k2
 have hq:=gain_w hs d
 have e1:((s.days.map encD).length:Int)=s.days.length:=by simp
 rw [← e1] at k1 k2
 refine pureCall_ofR dh35 rfl ?_
 conv=>whnf
 repeat' (first
  |(refine ⟨fun hg=>?_,fun hg=>?_⟩<;>first|contradiction|(exfalso;revert hg;simp;done)|(exfalso;exact absurd (of_decide_eq_true hg) (by assumption))|(exfalso;exact absurd (by assumption) (of_decide_eq_false hg))|(conv=>whnf))
  |(refine Or.inl ?_;conv=>whnf)
  |(refine ⟨_,k1,?_⟩;conv=>whnf)
  |(refine ⟨_,k2,?_⟩;conv=>whnf)
  |(refine And.intro ?_ ?_;kernel_rfl;conv=>whnf))
 rw [hq];rfl
end Sh

namespace Sh
open Go Go.Proofs
def outE (l:List Int) (i k:Nat):List Int:=(l.take k).eraseIdx i
theorem outE_self (l:List Int) (i:Nat):outE l i (i+1)=outE l i i:=by
 unfold outE
 rw [show (l.take i).eraseIdx i=l.take i from List.eraseIdx_of_length_le (by rw [List.length_take];omega),List.eraseIdx_eq_take_drop_succ,List.take_take,Nat.min_eq_left (by omega),List.drop_of_length_le (by rw [List.length_take];omega),List.append_nil]
theorem outE_succ (l:List Int) (i k:Nat) (h:k≠i) (hk:k < l.length):outE l i (k+1)=outE l i k++[l.getD k 0]:=by
 unfold outE
 rw [take_snoc l k 0 hk]
 by_cases hi:i < k
 ·rw [List.eraseIdx_append_of_lt_length (by rw [List.length_take];omega)]
 ·have hl:(l.take k).length=k:=by rw [List.length_take];omega
  rw [List.eraseIdx_append_of_length_le (by omega),hl,show (l.take k).eraseIdx i=l.take k from List.eraseIdx_of_length_le (by omega)]
  rw [show ([l.getD k 0]:List Int).eraseIdx (i - k)=[l.getD k 0] from List.eraseIdx_of_length_le (by simp;omega)]
theorem outE_len (l:List Int) (i k:Nat):(outE l i k).length≤k:=by
 unfold outE
 refine Nat.le_trans (List.length_eraseIdx_le ..) ?_
 rw [List.length_take];omega
theorem r_without (l:List Int) (i:Nat) (hl:l.length < 1073741824) (hi:i < 4611686018427387904):PC 105 [iL l,DV.int .i64 (i)] (iL (l.eraseIdx i)):=by
 have e0:((l.map (DV.int .i64)).length:Int)=l.length:=by simp
 refine pureCall_ofR dh105 rfl ?_
 conv=>whnf
 refine dwp_loopU (P:=Tryz.prog) (G:=GC) (k:=dk105_0) (b:=db105_0) (α:=Nat) (fun k=>[(5,.own 5 0 (iD (outE l i k)).length (iD (outE l i k)).length),(6,DV.int .i64 (k))]) (fun k=>[(5,.row 1 (iD (outE l i k)) false)]) (fun k=>k≤l.length) (fun k=>l.length - k) 0 (Nat.zero_le _) ?_
 conv=>whnf
 refine ⟨rfl,rfl,?_⟩
 conv=>whnf
 refine ⟨rfl,?_⟩
 intro k h1
 conv=>whnf
 refine ⟨fun hb=>?_,fun hb=>?_⟩
 ·have hk:k < l.length:=by simpa using hb
  clear hb
  have hol:=outE_len l i k
  conv=>whnf
  refine ⟨fun hg=>?_,fun hg=>?_⟩
  ·have hg:(k:Int)≠(i:Int):=of_decide_eq_true hg
   have hs:=outE_succ l i k (by omega) hk
   generalize outE l i k=R at *
   conv=>whnf
   rw [getD_enc _ _ (k) 0 hk]
   refine ⟨idxA hk rfl,?_⟩
   conv=>whnf
   refine ⟨⟨rfl,rfl,rfl,by rw [iD_len];simp;omega,fun e he=>by simp at he;subst he;rfl⟩,?_⟩
   conv=>whnf
   rw [wrap_succ k (by omega)]
   refine ⟨k+1,rfl,?_,?_,hk,by omega⟩
   ·rw [hs,iD_app R];rfl
   ·rw [hs,iD_app R];rfl
  ·have hg:¬ (k:Int)≠(i:Int):=of_decide_eq_false hg
   have hk':k=i:=by omega
   have hs:=outE_self l i
   rw [← hk'] at hs
   conv=>whnf
   rw [wrap_succ k (by omega)]
   refine ⟨k+1,rfl,?_,?_,hk,by omega⟩
   ·rw [← hk',hs];rfl
   ·rw [← hk',hs];rfl
 ·have hk:k=l.length:=by have:=of_decide_eq_false hb;rw [e0] at this;omega
  clear hb
  conv=>whnf
  refine ⟨rfl,?_⟩
  rw [window_full,hk,show outE l i l.length=l.eraseIdx i by unfold outE;rw [List.take_length]];rfl
theorem r_Idle (s:Sn) (ws:List Int) (hs:OkSn s) (hw:ws.length < 1073741824):PC 36 [encS s,iL ws] (iL (idleS s ws ws.length)):=by
 have k1:=r_Sum s ws 0 s.days.length hs hw (Nat.zero_le _) (Nat.le_refl _)
 have k2:∀ i,i < ws.length→PC 97 [encS s,iL (ws.eraseIdx i),DV.int .i64 ((0:Nat)),DV.int .i64 (s.days.length)] (DV.int .i64 (sumI (yldS s (ws.eraseIdx i)))):=fun i hi=>by
  have h:=r_Sum s (ws.eraseIdx i) 0 s.days.length hs (by rw [List.length_eraseIdx,if_pos hi];omega) (Nat.zero_le _) (Nat.le_refl _)
  rwa [ySum_all] at h
 rw [ySum_all] at k1
 have e0:((ws.map (DV.int .i64)).length:Int)=ws.length:=by simp
 have e1:((s.days.map encD).length:Int)=s.days.length:=by simp
 rw [← e1] at k1 k2
 have hil:=idleS_len s ws
 have his:=idleS_succ s ws
 generalize sumI (yldS s ws)=A at *
 refine pureCall_ofR dh36 rfl ?_
 conv=>whnf
 refine dwp_loopU (P:=Tryz.prog) (G:=GC) (k:=dk36_0) (b:=db36_0) (α:=Nat) (fun i=>[(5,.own 5 0 (iD (idleS s ws i)).length (iD (idleS s ws i)).length),(6,DV.int .i64 (i))]) (fun i=>[(2,.box 6 (encS s)),(5,.row 1 (iD (idleS s ws i)) false)]) (fun i=>i≤ws.length) (fun i=>ws.length - i) 0 (Nat.zero_le _) ?_
 conv=>whnf
 refine ⟨rfl,rfl,?_⟩
 conv=>whnf
 refine ⟨rfl,?_⟩
 intro i h1
 conv=>whnf
 refine ⟨fun hb=>?_,fun hb=>?_⟩
 ·have hi:i < ws.length:=by simpa using hb
  clear hb
  have hir:=his i
  have hie:=hil i
  generalize hI':idleS s ws (i+1)=I' at *
  generalize idleS s ws i=I at *
  have k3:=k2 i hi
  have k4:=r_without ws i hw (by omega)
  conv=>whnf
  repeat' (first
   |(refine ⟨fun hg=>?_,fun hg=>?_⟩<;>first|contradiction|(exfalso;revert hg;simp;done)|(exfalso;exact absurd (of_decide_eq_true hg) (by assumption))|(exfalso;exact absurd (by assumption) (of_decide_eq_false hg))|(conv=>whnf))
   |(refine Or.inl ?_;conv=>whnf)
   |(refine ⟨_,k1,?_⟩;conv=>whnf)
   |(refine ⟨_,k3,?_⟩;conv=>whnf)
   |(refine ⟨_,k4,?_⟩;conv=>whnf)
   |(refine And.intro ?_ ?_;kernel_rfl;conv=>whnf))
  ·have hg:=of_decide_eq_true hg
   rw [if_pos hg] at hir
   refine ⟨⟨rfl,rfl,rfl,by rw [iD_len];simp;omega,fun e he=>by simp at he;subst he;rfl⟩,?_⟩
   conv=>whnf
   rw [wrap_succ i (by omega)]
   refine ⟨i+1,rfl,?_,?_,hi,by omega⟩
   ·rw [hI',hir,iD_app I];rfl
   ·rw [hI',hir,iD_app I];rfl
  ·have hg:=of_decide_eq_false hg
   rw [if_neg hg] at hir
   rw [wrap_succ i (by omega)]
   refine ⟨i+1,rfl,?_,?_,hi,by omega⟩
   ·rw [hI',hir];rfl
   ·rw [hI',hir];rfl
 ·have hi:i=ws.length:=by have:=of_decide_eq_false hb;rw [e0] at this;omega
  clear hb
  rw [hi]
  generalize idleS s ws ws.length=I at *
  conv=>whnf
  refine ⟨rfl,?_⟩
  rw [window_full];rfl
end Sh

namespace Sh
open Go
def dc19 : DFunc := ⟨17,1,[.cell 2 (some 6)],.seq (.ops false [⟨some 1,.box 6 (.tmp 0),none,[]⟩,⟨some 2,.alloc (.agg [.int .i64 0,.int .i64 0,.int .i64 0,.full [],.int .i64 0,.int .i64 0]) 6,none,[]⟩]) (.seq (.ops true [⟨some 3,.faddr 0 1 false (.tmp 1),none,[]⟩,⟨some 4,.load none (.tmp 3),none,[0]⟩,⟨some 5,.faddr 1 1 false (.tmp 1),none,[]⟩,⟨some 6,.load none (.tmp 5),none,[2]⟩,⟨some 7,.faddr 2 1 false (.tmp 1),none,[]⟩,⟨some 8,.load none (.tmp 7),none,[4]⟩,⟨some 9,.faddr 3 1 false (.tmp 1),none,[]⟩,⟨some 10,.load none (.tmp 9),none,[6]⟩,⟨some 11,.call (.func 29) [.tmp 10],none,[7,6]⟩,⟨some 12,.faddr 4 1 false (.tmp 1),none,[]⟩,⟨some 13,.load none (.tmp 12),none,[9]⟩,⟨some 14,.faddr 5 1 false (.tmp 1),none,[]⟩,⟨some 15,.load none (.tmp 14),none,[11]⟩,⟨some 16,.build [.int .i64 0,.int .i64 0,.int .i64 0,.full [],.int .i64 0,.int .i64 0] [(0,(1,(.tmp 4))),(1,(1,(.tmp 6))),(2,(1,(.tmp 8))),(3,(1,(.tmp 11))),(4,(1,(.tmp 13))),(5,(1,(.tmp 15)))],none,[1,0,3,2,5,4,8,7,6,10,9,12,11]⟩,⟨none,.store 6 (.tmp 2) (.tmp 16),none,[13,1,0,3,2,5,4,8,7,6,10,9,12,11]⟩]) .ret)⟩
theorem dh19:cProg Go.Proofs.Tryz.prog ⟨[],[],[]⟩ 19=some dc19:=by kernel_rfl
def dc20 : DFunc := ⟨6,1,[.tmp 2],.seq (.ops false [⟨some 2,.mov (.const (.slice none 0 0)),none,[]⟩]) (.seq (.ops false [⟨some 3,.lit true 1 0 (.int .i64 0) [],none,[]⟩,⟨some 4,.mov (.tmp 0),none,[]⟩,⟨some 5,.append true 1 (.tmp 3) (.tmp 4),none,[]⟩,⟨some 2,.mov (.tmp 5),none,[]⟩]) .ret)⟩
theorem dh20:cProg Go.Proofs.Tryz.prog ⟨[],[],[3,5]⟩ 20=some dc20:=by kernel_rfl
def db29_0 : DC := (.seq (.ops false [⟨some 9,.bin .lss (.tmp 8) (.tmp 7),none,[]⟩]) (.seq (.cond (.tmp 9) .skip (.exit 0)) (.seq (.block 1 none (.seq (.ops false [⟨some 10,.iaddr 3 (.tmp 6) (.tmp 8),none,[]⟩,⟨some 11,.load (some 3) (.tmp 10),none,[]⟩,⟨some 5,.alloc (.agg [.int .i64 0,.int .i64 0,.int .i64 0]) 3,none,[]⟩,⟨none,.store 3 (.tmp 5) (.tmp 11),none,[]⟩]) (.ops false [⟨some 12,.mov (.tmp 3),none,[]⟩,⟨some 13,.load (some 3) (.tmp 5),none,[]⟩,⟨some 14,.lit true 3 1 (.agg [.int .i64 0,.int .i64 0,.int .i64 0]) [(0,(.tmp 13))],none,[]⟩,⟨some 15,.append false 3 (.tmp 12) (.tmp 14),none,[]⟩,⟨some 3,.mov (.tmp 15),none,[]⟩]))) (.ops false [⟨some 16,.bin .add (.tmp 8) (.const (.int .i64 1)),none,[]⟩,⟨some 8,.mov (.tmp 16),none,[]⟩]))))
def dk29_0 : Keep := ⟨[(3,3)],[3,6,7,8],[3]⟩
def dc29 : DFunc := ⟨18,1,[.tmp 2],.seq (.ops false [⟨some 2,.mov (.const (.slice none 0 0)),none,[]⟩]) (.seq (.ops false [⟨some 3,.mov (.const (.slice none 0 0)),none,[]⟩]) (.seq (.seq (.ops false [⟨some 6,.mov (.tmp 0),none,[]⟩,⟨some 7,.len (.tmp 6),none,[]⟩,⟨some 8,.mov (.const (.int .i64 0)),none,[]⟩]) (.block 0 (some ⟨[],[3],[3]⟩) (.loop dk29_0 db29_0))) (.seq (.ops false [⟨some 17,.mov (.tmp 3),none,[]⟩,⟨some 2,.mov (.tmp 17),none,[]⟩]) .ret)))⟩
theorem dh29:cProg Go.Proofs.Tryz.prog ⟨[(0,⟨[(3,3)],[3,6,7,8],[3]⟩)],[(0,⟨[],[3],[3]⟩)],[14]⟩ 29=some dc29:=by kernel_rfl
end Sh

namespace Sh
open Go Go.Proofs
theorem l_given (l:List Dy) (hl:l.length < 1073741824):PC 29 [.list (l.map encD)] (.list (l.map encD)):=by
 have e0:((l.map encD).length:Int)=l.length:=by simp
 refine pureCall_ofR dh29 rfl ?_
 conv=>whnf
 refine dwp_loopU (P:=Tryz.prog) (G:=GC) (k:=dk29_0) (b:=db29_0) (α:=Nat) (fun i=>[(3,.own 3 0 ((l.take i).map encD).length ((l.take i).map encD).length),(8,DV.int .i64 (i))]) (fun i=>[(3,.row 3 ((l.take i).map encD) false)]) (fun i=>i≤l.length) (fun i=>l.length - i) 0 (Nat.zero_le _) ?_
 conv=>whnf
 refine ⟨rfl,rfl,?_⟩
 conv=>whnf
 refine ⟨rfl,?_⟩
 intro i h1
 conv=>whnf
 refine ⟨fun hb=>?_,fun hb=>?_⟩
 ·have hi:i < l.length:=by simpa using hb
  clear hb
  have hs:(l.take (i+1)).map encD=(l.take i).map encD++[encD (l.getD i D0)]:=by rw [take_snoc l i D0 hi,List.map_append];rfl
  have hln:((l.take i).map encD).length=i:=by simp;omega
  generalize hR':(l.take (i+1)).map encD=R' at *
  generalize hR:(l.take i).map encD=R at *
  conv=>whnf
  rw [getD_enc _ _ (i) D0 hi]
  refine ⟨idxA hi rfl,?_⟩
  conv=>whnf
  refine ⟨⟨rfl,rfl,rfl,by rw [hln];simp;omega,fun e he=>by simp at he;subst he;rfl⟩,?_⟩
  conv=>whnf
  rw [wrap_succ i (by omega)]
  refine ⟨i+1,rfl,?_,?_,hi,by omega⟩
  ·rw [hR',hs];rfl
  ·rw [hR',hs];rfl
 ·have hi:i=l.length:=by have:=of_decide_eq_false hb;rw [e0] at this;omega
  clear hb
  rw [hi,List.take_length]
  conv=>whnf
  refine ⟨rfl,?_⟩
  rw [window_full]
  first|rfl|(show DV.list _=_;rfl)
theorem l_own (s:Sn) (hl:s.days.length < 1073741824):PC 19 [encS s] (encS s):=by
 have k1:PC 29 [dysV s.days] (dysV s.days):=l_given s.days hl
 refine pureCall_ofR dh19 rfl ?_
 conv=>whnf
 refine .inl ?_
 conv=>whnf
 refine ⟨_,k1 ..,?_⟩
 conv=>whnf
 refine ⟨by kernel_rfl,?_⟩
 conv=>whnf
 rfl
theorem l_ints (l:List Int) (hl:l.length < 1073741824):PC 20 [iL l] (iL l):=by
 refine pureCall_ofR dh20 rfl ?_
 conv=>whnf
 refine ⟨⟨by simp;omega,fun e he=>iD_ok l e he,fun e he=>by simp at he⟩,?_⟩
 conv=>whnf
 rfl
end Sh

namespace Sh
open Go
end Sh

set_option maxHeartbeats 2000000
namespace Sh
open Go Go.Proofs
theorem chkSW_yes {s:Sn} {ws:List Int} (h:chkSn s=0):chkSW s ws=chkWs s.days.length (-1) ws:=by unfold chkSW;rw [if_neg (by omega)]
theorem chkSW_nos {s:Sn} {ws:List Int} (h:chkSn s≠0):chkSW s ws=chkSn s:=by unfold chkSW;rw [if_pos h]
end Sh

namespace Sh
open Go
def dc4 : DFunc := ⟨82,3,[.tmp 6],.seq (.ops false [⟨some 3,.box 6 (.tmp 0),none,[]⟩,⟨some 6,.mov (.const (.bool false)),none,[]⟩]) (.seq (.seq (.ops false [⟨some 15,.load (some 6) (.tmp 3),none,[]⟩,⟨some 16,.call (.func 15) [.tmp 15],none,[]⟩,⟨some 17,.un .not (.tmp 16),none,[]⟩,⟨some 18,.mov (.tmp 17),none,[]⟩,⟨some 19,.mov (.tmp 2),some (18,false),[]⟩,⟨some 20,.call (.func 16) [.tmp 19],some (18,false),[]⟩,⟨some 21,.un .not (.tmp 20),some (18,false),[]⟩,⟨some 22,.pick (.tmp 18) (.const (.bool true)) (.tmp 21),none,[]⟩]) (.cond (.tmp 22) (.seq (.ops false [⟨some 23,.call (.func 17) [],none,[]⟩,⟨some 6,.mov (.tmp 23),none,[]⟩]) .ret) .skip)) (.seq (.ops false [⟨some 25,.load (some 6) (.tmp 3),none,[]⟩,⟨some 26,.call (.func 19) [.tmp 25],none,[]⟩,⟨some 27,.mov (.tmp 1),none,[]⟩,⟨some 28,.call (.func 33) [.tmp 26,.tmp 27],none,[]⟩,⟨some 24,.mov (.tmp 28),none,[]⟩,⟨some 29,.extract (.tmp 24) 0,none,[]⟩,⟨some 30,.extract (.tmp 24) 1,none,[]⟩,⟨some 7,.mov (.tmp 29),none,[]⟩,⟨some 8,.mov (.tmp 30),none,[]⟩]) (.seq (.ops false [⟨some 32,.load (some 6) (.tmp 3),none,[]⟩,⟨some 33,.call (.func 19) [.tmp 32],none,[]⟩,⟨some 34,.mov (.tmp 2),none,[]⟩,⟨some 35,.call (.func 20) [.tmp 34],none,[]⟩,⟨some 36,.call (.func 34) [.tmp 33,.tmp 35],none,[]⟩,⟨some 31,.mov (.tmp 36),none,[]⟩,⟨some 37,.extract (.tmp 31) 0,none,[]⟩,⟨some 38,.extract (.tmp 31) 1,none,[]⟩,⟨some 9,.mov (.tmp 37),none,[]⟩,⟨some 10,.mov (.tmp 38),none,[]⟩]) (.seq (.ops false [⟨some 39,.load (some 6) (.tmp 3),none,[]⟩,⟨some 40,.call (.func 23) [.tmp 39],none,[]⟩,⟨some 11,.mov (.tmp 40),none,[]⟩]) (.seq (.ops false [⟨some 41,.mov (.tmp 11),none,[]⟩,⟨some 12,.mov (.tmp 41),none,[]⟩]) (.seq (.ops false [⟨some 13,.mov (.const (.int .i64 0)),none,[]⟩]) (.seq (.ops false [⟨some 14,.mov (.const (.slice none 0 0)),none,[]⟩]) (.seq (.seq (.ops false [⟨some 42,.mov (.tmp 11),none,[]⟩,⟨some 43,.bin .eql (.tmp 42) (.const (.int .i64 0)),none,[]⟩]) (.cond (.tmp 43) (.seq (.ops true [⟨some 44,.load (some 6) (.tmp 3),none,[]⟩,⟨some 45,.mov (.tmp 1),none,[]⟩,⟨some 46,.lit true 1 1 (.int .i64 0) [(0,(.tmp 45))],none,[1]⟩,⟨some 47,.call (.func 24) [.tmp 44,.tmp 46],none,[0,2,1]⟩,⟨some 48,.load (some 6) (.tmp 3),none,[]⟩,⟨some 49,.mov (.tmp 2),none,[]⟩,⟨some 50,.call (.func 24) [.tmp 48,.tmp 49],none,[4,5,3,0,2,1]⟩,⟨some 11,.mov (.tmp 47),none,[3,0,2,1,6,4,5]⟩,⟨some 12,.mov (.tmp 50),none,[6,4,5,3,0,2,1,7]⟩]) (.seq (.seq (.ops false [⟨some 51,.mov (.tmp 11),none,[]⟩,⟨some 52,.bin .eql (.tmp 51) (.const (.int .i64 0)),none,[]⟩]) (.cond (.tmp 52) (.ops false [⟨some 53,.load (some 6) (.tmp 3),none,[]⟩,⟨some 54,.mov (.tmp 1),none,[]⟩,⟨some 55,.call (.func 35) [.tmp 53,.tmp 54],none,[]⟩,⟨some 13,.mov (.tmp 55),none,[]⟩]) .skip)) (.seq (.ops false [⟨some 56,.mov (.tmp 12),none,[]⟩,⟨some 57,.bin .eql (.tmp 56) (.const (.int .i64 0)),none,[]⟩]) (.cond (.tmp 57) (.ops false [⟨some 58,.load (some 6) (.tmp 3),none,[]⟩,⟨some 59,.mov (.tmp 2),none,[]⟩,⟨some 60,.call (.func 36) [.tmp 58,.tmp 59],none,[]⟩,⟨some 14,.mov (.tmp 60),none,[]⟩]) .skip)))) .skip)) (.seq (.ops false [⟨some 61,.mov (.tmp 7),none,[]⟩,⟨some 62,.mov (.tmp 13),none,[]⟩,⟨some 63,.bin .eql (.tmp 61) (.tmp 62),none,[]⟩,⟨some 64,.mov (.tmp 63),none,[]⟩,⟨some 65,.mov (.tmp 8),some (64,true),[]⟩,⟨some 66,.mov (.tmp 11),some (64,true),[]⟩,⟨some 67,.bin .eql (.tmp 65) (.tmp 66),some (64,true),[]⟩,⟨some 68,.pick (.tmp 64) (.tmp 67) (.const (.bool false)),none,[]⟩,⟨some 69,.mov (.tmp 68),none,[]⟩,⟨some 70,.mov (.tmp 9),some (69,true),[]⟩,⟨some 71,.mov (.tmp 14),some (69,true),[]⟩,⟨some 72,.call (.func 32) [.tmp 70,.tmp 71],some (69,true),[]⟩,⟨some 73,.pick (.tmp 69) (.tmp 72) (.const (.bool false)),none,[]⟩,⟨some 74,.mov (.tmp 73),none,[]⟩,⟨some 75,.mov (.tmp 10),some (74,true),[]⟩,⟨some 76,.mov (.tmp 12),some (74,true),[]⟩,⟨some 77,.bin .eql (.tmp 75) (.tmp 76),some (74,true),[]⟩,⟨some 78,.pick (.tmp 74) (.tmp 77) (.const (.bool false)),none,[]⟩,⟨some 79,.mov (.tmp 78),none,[]⟩,⟨some 80,.call (.func 17) [],some (79,true),[]⟩,⟨some 81,.pick (.tmp 79) (.tmp 80) (.const (.bool false)),none,[]⟩,⟨some 6,.mov (.tmp 81),none,[]⟩]) .ret)))))))))⟩
theorem dh4:cProg Go.Proofs.Tryz.prog ⟨[],[],[46]⟩ 4=some dc4:=by kernel_rfl
end Sh

namespace Sh
open Go Go.Proofs
theorem l_WashGains (aw:PC 17 [] (.bool true)) (s:Sn) (d:Int) (ws:List Int):PC 4 [encS s,DV.int .i64 (d),iL ws] (.bool true):=by
 have kS:=r_Short s
 have kI:=r_ShortIx ws
 by_cases hsh:shB s.days.length=true
 case neg =>
  have hsh:shB s.days.length=false:=by simpa using hsh
  rw [hsh] at kS
  refine pureCall_ofR dh4 rfl ?_
  conv=>whnf
  repeat' (first
   |(refine ⟨fun hg=>?_,fun hg=>?_⟩<;>first|contradiction|(conv=>whnf))
   |(refine Or.inl ?_;conv=>whnf)
   |(refine ⟨_,kS ..,?_⟩;conv=>whnf)
   |(refine ⟨_,kI ..,?_⟩;conv=>whnf)
   |(refine ⟨_,aw ..,?_⟩;conv=>whnf)
   |(refine And.intro ?_ ?_;kernel_rfl;conv=>whnf))
  all_goals rfl
 case pos =>
 by_cases hix:decide ((ws.length:Int)≤12)=true
 case neg =>
  have hix:decide ((ws.length:Int)≤12)=false:=by simpa using hix
  rw [hsh] at kS
  rw [hix] at kI
  refine pureCall_ofR dh4 rfl ?_
  conv=>whnf
  repeat' (first
   |(refine ⟨fun hg=>?_,fun hg=>?_⟩<;>first|contradiction|(conv=>whnf))
   |(refine Or.inl ?_;conv=>whnf)
   |(refine ⟨_,kS ..,?_⟩;conv=>whnf)
   |(refine ⟨_,kI ..,?_⟩;conv=>whnf)
   |(refine ⟨_,aw ..,?_⟩;conv=>whnf)
   |(refine And.intro ?_ ?_;kernel_rfl;conv=>whnf))
  all_goals rfl
 case pos =>
 have hl:=shB_spec hsh
 have hw:=of_decide_eq_true hix
 rw [hsh] at kS
 rw [hix] at kI
 clear hsh hix
 have a1:=l_own s (by omega)
 have a2:=l_ints ws (by omega)
 have b1:=c_Gain s d (by omega)
 have b2:=c_Idle s ws (by omega) (by omega)
 have c1:=r_CheckSeason s (by omega)
 have c2:=r_CheckWashes s [d] (by omega) (by simp)
 have c3:=r_CheckWashes s ws (by omega) (by omega)
 have d0:PC 32 [.list [],.list []] (.bool true):=by have:=q_SameInts [] [] (by decide);rwa [dec_same] at this
 by_cases h1:chkSn s=0
 ·have hs:OkSn s:=chkSn_zero h1
  rw [chkSW_yes h1] at b1 b2
  rw [h1] at c1
  have e1:=r_Gain s d hs
  have e2:=r_Idle s ws hs (by omega)
  have hil:=idleS_len s ws ws.length
  have d1:=q_SameInts (idleS s ws ws.length) (idleS s ws ws.length) (by omega)
  rw [dec_same] at d1
  by_cases h2:chkWs s.days.length (-1) [d]=0
  ·rw [h2] at b1 c2
   rw [optI_z] at b1
   by_cases h3:chkWs s.days.length (-1) ws=0
   ·rw [h3] at b2 c3
    rw [optL_z] at b2
    generalize idleS s ws ws.length=S1 at *
    generalize gainS s d=S2 at *
    refine pureCall_ofR dh4 rfl ?_
    conv=>whnf
    repeat' (first
     |(refine ⟨fun hg=>?_,fun hg=>?_⟩<;>first|contradiction|(exfalso;revert hg;simp;done)|(exfalso;exact absurd (of_decide_eq_true hg) (by assumption))|(exfalso;exact absurd (by assumption) (of_decide_eq_false hg))|(conv=>whnf))
     |(refine Or.inl ?_;conv=>whnf)
     |(refine ⟨_,kS,?_⟩;conv=>whnf)
     |(refine ⟨_,kI,?_⟩;conv=>whnf)
     |(refine ⟨_,a1,?_⟩;conv=>whnf)
     |(refine ⟨_,a2,?_⟩;conv=>whnf)
     |(refine ⟨_,b1,?_⟩;conv=>whnf)
     |(refine ⟨_,b2,?_⟩;conv=>whnf)
     |(refine ⟨_,c1,?_⟩;conv=>whnf)
     |(refine ⟨_,c2,?_⟩;conv=>whnf)
     |(refine ⟨_,c3,?_⟩;conv=>whnf)
     |(refine ⟨_,e1,?_⟩;conv=>whnf)
     |(refine ⟨_,e2,?_⟩;conv=>whnf)
     |(refine ⟨_,d1,?_⟩;conv=>whnf)
     |(refine ⟨_,aw,?_⟩;conv=>whnf)
     |(refine And.intro ?_ ?_;kernel_rfl;conv=>whnf))
    all_goals rfl
   ·rw [optL_n h3] at b2
    generalize chkWs s.days.length (-1) ws=E at *
    generalize gainS s d=S2 at *
    refine pureCall_ofR dh4 rfl ?_
    conv=>whnf
    repeat' (first
     |(refine ⟨fun hg=>?_,fun hg=>?_⟩<;>first|contradiction|(exfalso;revert hg;simp;done)|(exfalso;exact absurd (of_decide_eq_true hg) (by assumption))|(exfalso;exact absurd (by assumption) (of_decide_eq_false hg))|(conv=>whnf))
     |(refine Or.inl ?_;conv=>whnf)
     |(refine ⟨_,kS,?_⟩;conv=>whnf)
     |(refine ⟨_,kI,?_⟩;conv=>whnf)
     |(refine ⟨_,a1,?_⟩;conv=>whnf)
     |(refine ⟨_,a2,?_⟩;conv=>whnf)
     |(refine ⟨_,b1,?_⟩;conv=>whnf)
     |(refine ⟨_,b2,?_⟩;conv=>whnf)
     |(refine ⟨_,c1,?_⟩;conv=>whnf)
     |(refine ⟨_,c2,?_⟩;conv=>whnf)
     |(refine ⟨_,c3,?_⟩;conv=>whnf)
     |(refine ⟨_,e1,?_⟩;conv=>whnf)
     |(refine ⟨_,d0,?_⟩;conv=>whnf)
     |(refine ⟨_,aw,?_⟩;conv=>whnf)
     |(refine And.intro ?_ ?_;kernel_rfl;conv=>whnf))
    all_goals rfl
  ·rw [optI_n h2] at b1
   generalize chkWs s.days.length (-1) [d]=E1 at *
   by_cases h3:chkWs s.days.length (-1) ws=0
   ·rw [h3] at b2 c3
    rw [optL_z] at b2
    generalize idleS s ws ws.length=S1 at *
    refine pureCall_ofR dh4 rfl ?_
    conv=>whnf
    repeat' (first
     |(refine ⟨fun hg=>?_,fun hg=>?_⟩<;>first|contradiction|(exfalso;revert hg;simp;done)|(exfalso;exact absurd (of_decide_eq_true hg) (by assumption))|(exfalso;exact absurd (by assumption) (of_decide_eq_false hg))|(conv=>whnf))
     |(refine Or.inl ?_;conv=>whnf)
     |(refine ⟨_,kS,?_⟩;conv=>whnf)
     |(refine ⟨_,kI,?_⟩;conv=>whnf)
     |(refine ⟨_,a1,?_⟩;conv=>whnf)
     |(refine ⟨_,a2,?_⟩;conv=>whnf)
     |(refine ⟨_,b1,?_⟩;conv=>whnf)
     |(refine ⟨_,b2,?_⟩;conv=>whnf)
     |(refine ⟨_,c1,?_⟩;conv=>whnf)
     |(refine ⟨_,c2,?_⟩;conv=>whnf)
     |(refine ⟨_,c3,?_⟩;conv=>whnf)
     |(refine ⟨_,e2,?_⟩;conv=>whnf)
     |(refine ⟨_,d1,?_⟩;conv=>whnf)
     |(refine ⟨_,aw,?_⟩;conv=>whnf)
     |(refine And.intro ?_ ?_;kernel_rfl;conv=>whnf))
    all_goals rfl
   ·rw [optL_n h3] at b2
    generalize chkWs s.days.length (-1) ws=E at *
    refine pureCall_ofR dh4 rfl ?_
    conv=>whnf
    repeat' (first
     |(refine ⟨fun hg=>?_,fun hg=>?_⟩<;>first|contradiction|(exfalso;revert hg;simp;done)|(exfalso;exact absurd (of_decide_eq_true hg) (by assumption))|(exfalso;exact absurd (by assumption) (of_decide_eq_false hg))|(conv=>whnf))
     |(refine Or.inl ?_;conv=>whnf)
     |(refine ⟨_,kS,?_⟩;conv=>whnf)
     |(refine ⟨_,kI,?_⟩;conv=>whnf)
     |(refine ⟨_,a1,?_⟩;conv=>whnf)
     |(refine ⟨_,a2,?_⟩;conv=>whnf)
     |(refine ⟨_,b1,?_⟩;conv=>whnf)
     |(refine ⟨_,b2,?_⟩;conv=>whnf)
     |(refine ⟨_,c1,?_⟩;conv=>whnf)
     |(refine ⟨_,c2,?_⟩;conv=>whnf)
     |(refine ⟨_,c3,?_⟩;conv=>whnf)
     |(refine ⟨_,d0,?_⟩;conv=>whnf)
     |(refine ⟨_,aw,?_⟩;conv=>whnf)
     |(refine And.intro ?_ ?_;kernel_rfl;conv=>whnf))
    all_goals rfl
 ·rw [chkSW_nos h1] at b1 b2
  rw [optI_n h1] at b1
  rw [optL_n h1] at b2
  generalize chkSn s=E at *
  refine pureCall_ofR dh4 rfl ?_
  conv=>whnf
  repeat' (first
   |(refine ⟨fun hg=>?_,fun hg=>?_⟩<;>first|contradiction|(exfalso;revert hg;simp;done)|(exfalso;exact absurd (of_decide_eq_true hg) (by assumption))|(exfalso;exact absurd (by assumption) (of_decide_eq_false hg))|(conv=>whnf))
   |(refine Or.inl ?_;conv=>whnf)
   |(refine ⟨_,kS,?_⟩;conv=>whnf)
   |(refine ⟨_,kI,?_⟩;conv=>whnf)
   |(refine ⟨_,a1,?_⟩;conv=>whnf)
   |(refine ⟨_,a2,?_⟩;conv=>whnf)
   |(refine ⟨_,b1,?_⟩;conv=>whnf)
   |(refine ⟨_,b2,?_⟩;conv=>whnf)
   |(refine ⟨_,c1,?_⟩;conv=>whnf)
   |(refine ⟨_,d0,?_⟩;conv=>whnf)
   |(refine ⟨_,aw,?_⟩;conv=>whnf)
   |(refine And.intro ?_ ?_;kernel_rfl;conv=>whnf))
  all_goals rfl
end Sh
