/-
  Chapter 8's functions, walked over pure data: the library of the walk, the functions' code over data, and what each computes. (part 7)
-/
import Derived.Test.YtcgajpaohlggpaaGreatDoorP6
import Derived.ChangeArms
import Derived.ChangeSame
import Derived.OpenShut
import Derived.WideShapes
import Derived.FnData
import Derived.LaidMore
import Derived.DataReads
import Derived.Test.YtcgajpaohlggpaaGreatDoorProg
set_option linter.unusedVariables false
set_option linter.unusedSimpArgs false
namespace Sh
open Go
section
variable {H:Type} {enc:TypeId×Value→H} {P:Program} {W:World}
theorem arg_int {t:TypeId} {k:IntKind} {v:Value} {d:DataW H} {p:List MemPlace} {base b0:Nat} {sp:Nat→Bool} {hd:Bool} (ht:P.underlying t=some (.int k))
  (hv:Value.okWide P W .any b0 t v) (h:DataW.Trod enc P W base sp hd t v d p):∃ n,v=.int k n∧(Lit.int k n).wf=true:=by
 obtain ⟨n,rfl⟩:=WideShapes.okWide_int ht hv
 obtain ⟨fuel,hf⟩:=h
 obtain ⟨m,e,_,hw⟩:=DataW.trod_int ht hf
 simp only [Value.cells,List.cons.injEq,Value.int.injEq] at e
 exact ⟨n,rfl,by rw [e.1.2];exact hw⟩
end
end Sh

set_option maxRecDepth 100000
namespace Sh
open Go
def dc23 : DFunc := ⟨23,1,[.tmp 2],.seq (.ops false [⟨some 1,.box 6 (.tmp 0),none,[]⟩,⟨some 2,.mov (.const (.int .i64 0)),none,[]⟩]) (.seq (.ops true [⟨some 3,.faddr 0 1 false (.tmp 1),none,[]⟩,⟨some 4,.load none (.tmp 3),none,[0]⟩,⟨some 5,.call (.func 94) [.tmp 4,.const (.int .i64 1),.const (.int .i64 1000)],none,[1,0]⟩,⟨some 6,.faddr 1 1 false (.tmp 1),none,[]⟩,⟨some 7,.load none (.tmp 6),none,[3]⟩,⟨some 8,.call (.func 94) [.tmp 7,.const (.int .i64 0),.const (.int .i64 1000)],none,[4,3,2,1,0]⟩,⟨some 9,.faddr 2 1 false (.tmp 1),none,[]⟩,⟨some 10,.load none (.tmp 9),none,[6]⟩,⟨some 11,.call (.func 94) [.tmp 10,.const (.int .i64 0),.const (.int .i64 1000)],none,[7,6,5,4,3,2,1,0]⟩,⟨some 12,.faddr 3 1 false (.tmp 1),none,[]⟩,⟨some 13,.load none (.tmp 12),none,[9]⟩,⟨some 14,.call (.func 30) [.tmp 13],none,[10,9,8,7,6,5,4,3,2,1,0]⟩,⟨some 15,.faddr 4 1 false (.tmp 1),none,[]⟩,⟨some 16,.load none (.tmp 15),none,[12]⟩,⟨some 17,.call (.func 94) [.tmp 16,.const (.int .i64 0),.const (.int .i64 1000)],none,[13,12,11,10,9,8,7,6,5,4,3,2,1,0]⟩,⟨some 18,.faddr 5 1 false (.tmp 1),none,[]⟩,⟨some 19,.load none (.tmp 18),none,[15]⟩,⟨some 20,.call (.func 94) [.tmp 19,.const (.int .i64 0),.const (.int .i64 1000000)],none,[16,15,14,13,12,11,10,9,8,7,6,5,4,3,2,1,0]⟩,⟨some 21,.lit true 1 6 (.int .i64 0) [(0,(.tmp 5)),(1,(.tmp 8)),(2,(.tmp 11)),(3,(.tmp 14)),(4,(.tmp 17)),(5,(.tmp 20))],none,[2,1,0,5,4,3,8,7,6,11,10,9,14,13,12,17,16,15]⟩,⟨some 22,.call (.func 48) [.tmp 21],none,[18,2,1,0,5,4,3,8,7,6,11,10,9,14,13,12,17,16,15]⟩,⟨some 2,.mov (.tmp 22),none,[19,18,2,1,0,5,4,3,8,7,6,11,10,9,14,13,12,17,16,15]⟩]) .ret)⟩
theorem dh23:cProg Go.Proofs.Tryz.prog ⟨[],[],[21]⟩ 23=some dc23:=by kernel_rfl
def db25_0 : DC := (.seq (.seq (.ops false [⟨some 10,.mov (.tmp 7),none,[]⟩,⟨some 11,.faddr 3 1 false (.tmp 2),none,[]⟩,⟨some 12,.load none (.tmp 11),none,[]⟩,⟨some 13,.len (.tmp 12),none,[]⟩,⟨some 14,.bin .lss (.tmp 10) (.tmp 13),none,[]⟩]) (.cond (.tmp 14) .skip (.exit 0))) (.seq (.block 1 none (.seq (.seq (.ops false [⟨some 17,.mov (.tmp 1),none,[]⟩,⟨some 18,.mov (.tmp 7),none,[]⟩,⟨some 19,.call (.func 83) [.tmp 17,.tmp 18],none,[]⟩]) (.cond (.tmp 19) (.ops false [⟨some 6,.mov (.const (.int .i64 0)),none,[]⟩]) .skip)) (.seq (.ops false [⟨some 20,.mov (.tmp 5),none,[]⟩,⟨some 21,.mov (.tmp 6),none,[]⟩,⟨some 22,.lit true 1 1 (.int .i64 0) [(0,(.tmp 21))],none,[]⟩,⟨some 23,.append false 1 (.tmp 20) (.tmp 22),none,[]⟩,⟨some 5,.mov (.tmp 23),none,[]⟩]) (.ops true [⟨some 24,.load (some 6) (.tmp 2),none,[]⟩,⟨some 25,.faddr 3 1 false (.tmp 2),none,[]⟩,⟨some 26,.load none (.tmp 25),none,[1]⟩,⟨some 27,.mov (.tmp 7),none,[]⟩,⟨some 28,.iaddr 3 (.tmp 26) (.tmp 27),none,[2,1,3]⟩,⟨some 29,.load (some 3) (.tmp 28),none,[4,2,1,3]⟩,⟨some 30,.mov (.tmp 6),none,[]⟩,⟨some 31,.call (.func 96) [.tmp 24,.tmp 29,.tmp 30],none,[0,5,4,2,1,3,6]⟩,⟨some 6,.mov (.tmp 31),none,[7,0,5,4,2,1,3,6]⟩])))) (.ops false [⟨some 15,.mov (.tmp 7),none,[]⟩,⟨some 16,.bin .add (.tmp 15) (.const (.int .i64 1)),none,[]⟩,⟨some 7,.mov (.tmp 16),none,[]⟩])))
def dk25_0 : Keep := ⟨[(5,1)],[1,2,5,6,7],[2,5,34,35]⟩
def dc25 : DFunc := ⟨36,2,[.tmp 4],.seq (.ops false [⟨some 2,.box 6 (.tmp 0),none,[]⟩,⟨some 4,.mov (.const (.slice none 0 0)),none,[]⟩]) (.seq (.ops false [⟨some 5,.mov (.const (.slice none 0 0)),none,[]⟩]) (.seq (.ops false [⟨some 8,.faddr 2 1 false (.tmp 2),none,[]⟩,⟨some 9,.load none (.tmp 8),none,[]⟩,⟨some 6,.mov (.tmp 9),none,[]⟩]) (.seq (.seq (.ops false [⟨some 7,.mov (.const (.int .i64 0)),none,[]⟩]) (.block 0 (some ⟨[],[5,6],[2,5,34,35]⟩) (.loop dk25_0 db25_0))) (.seq (.ops false [⟨some 32,.mov (.tmp 5),none,[]⟩,⟨some 33,.mov (.tmp 6),none,[]⟩,⟨some 34,.lit true 1 1 (.int .i64 0) [(0,(.tmp 33))],none,[]⟩,⟨some 35,.append false 1 (.tmp 32) (.tmp 34),none,[]⟩,⟨some 4,.mov (.tmp 35),none,[]⟩]) .ret))))⟩
theorem dh25:cProg Go.Proofs.Tryz.prog ⟨[(0,⟨[(5,1)],[1,2,5,6,7],[2,5,34,35]⟩)],[(0,⟨[],[5,6],[2,5,34,35]⟩)],[22,34]⟩ 25=some dc25:=by kernel_rfl
def db26_0 : DC := (.seq (.seq (.ops false [⟨some 11,.mov (.tmp 7),none,[]⟩,⟨some 12,.faddr 3 1 false (.tmp 2),none,[]⟩,⟨some 13,.load none (.tmp 12),none,[]⟩,⟨some 14,.len (.tmp 13),none,[]⟩,⟨some 15,.bin .lss (.tmp 11) (.tmp 14),none,[]⟩]) (.cond (.tmp 15) .skip (.exit 0))) (.seq (.block 1 none (.ops true [⟨some 18,.mov (.tmp 5),none,[]⟩,⟨some 19,.faddr 3 1 false (.tmp 2),none,[]⟩,⟨some 20,.load none (.tmp 19),none,[1]⟩,⟨some 21,.mov (.tmp 7),none,[]⟩,⟨some 22,.iaddr 3 (.tmp 20) (.tmp 21),none,[2,1,3]⟩,⟨some 23,.faddr 2 1 false (.tmp 22),none,[4,2,1,3]⟩,⟨some 24,.load none (.tmp 23),none,[5,4,2,1,3]⟩,⟨some 25,.mov (.tmp 6),none,[]⟩,⟨some 26,.mov (.tmp 7),none,[]⟩,⟨some 27,.iaddr 1 (.tmp 25) (.tmp 26),none,[7,8]⟩,⟨some 28,.load none (.tmp 27),none,[9,7,8]⟩,⟨some 29,.bin .sub (.const (.int .i64 1000)) (.tmp 28),none,[10,9,7,8]⟩,⟨some 30,.bin .mul (.tmp 24) (.tmp 29),none,[6,5,4,2,1,3,11,10,9,7,8]⟩,⟨some 31,.bin .quo (.tmp 30) (.const (.int .i64 1000)),none,[12,6,5,4,2,1,3,11,10,9,7,8]⟩,⟨some 32,.lit true 1 1 (.int .i64 0) [(0,(.tmp 31))],none,[13,12,6,5,4,2,1,3,11,10,9,7,8]⟩,⟨some 33,.append false 1 (.tmp 18) (.tmp 32),none,[0,14,13,12,6,5,4,2,1,3,11,10,9,7,8]⟩,⟨some 5,.mov (.tmp 33),none,[15,0,14,13,12,6,5,4,2,1,3,11,10,9,7,8]⟩])) (.ops false [⟨some 16,.mov (.tmp 7),none,[]⟩,⟨some 17,.bin .add (.tmp 16) (.const (.int .i64 1)),none,[]⟩,⟨some 7,.mov (.tmp 17),none,[]⟩])))
def dk26_0 : Keep := ⟨[(5,1)],[2,5,6,7],[2,5]⟩
def dc26 : DFunc := ⟨35,2,[.tmp 4],.seq (.ops false [⟨some 2,.box 6 (.tmp 0),none,[]⟩,⟨some 4,.mov (.const (.slice none 0 0)),none,[]⟩]) (.seq (.ops false [⟨some 5,.mov (.const (.slice none 0 0)),none,[]⟩]) (.seq (.ops false [⟨some 8,.load (some 6) (.tmp 2),none,[]⟩,⟨some 9,.mov (.tmp 1),none,[]⟩,⟨some 10,.call (.func 25) [.tmp 8,.tmp 9],none,[]⟩,⟨some 6,.mov (.tmp 10),none,[]⟩]) (.seq (.seq (.ops false [⟨some 7,.mov (.const (.int .i64 0)),none,[]⟩]) (.block 0 (some ⟨[],[5],[2,5]⟩) (.loop dk26_0 db26_0))) (.seq (.ops false [⟨some 34,.mov (.tmp 5),none,[]⟩,⟨some 4,.mov (.tmp 34),none,[]⟩]) .ret))))⟩
theorem dh26:cProg Go.Proofs.Tryz.prog ⟨[(0,⟨[(5,1)],[2,5,6,7],[2,5]⟩)],[(0,⟨[],[5],[2,5]⟩)],[32]⟩ 26=some dc26:=by kernel_rfl
def db30_0 : DC := (.seq (.seq (.ops false [⟨some 19,.mov (.tmp 4),none,[]⟩,⟨some 20,.mov (.tmp 0),none,[]⟩,⟨some 21,.len (.tmp 20),none,[]⟩,⟨some 22,.bin .lss (.tmp 19) (.tmp 21),none,[]⟩]) (.cond (.tmp 22) .skip (.exit 0))) (.seq (.block 1 none (.seq (.ops true [⟨some 25,.mov (.tmp 0),none,[]⟩,⟨some 26,.mov (.tmp 4),none,[]⟩,⟨some 27,.iaddr 3 (.tmp 25) (.tmp 26),none,[0,1]⟩,⟨some 28,.faddr 0 1 false (.tmp 27),none,[2,0,1]⟩,⟨some 29,.load none (.tmp 28),none,[3,2,0,1]⟩,⟨some 30,.call (.func 94) [.tmp 29,.const (.int .i64 0),.const (.int .i64 1000)],none,[4,3,2,0,1]⟩,⟨some 31,.mov (.tmp 0),none,[]⟩,⟨some 32,.mov (.tmp 4),none,[]⟩,⟨some 33,.iaddr 3 (.tmp 31) (.tmp 32),none,[6,7]⟩,⟨some 34,.faddr 1 1 false (.tmp 33),none,[8,6,7]⟩,⟨some 35,.load none (.tmp 34),none,[9,8,6,7]⟩,⟨some 36,.call (.func 94) [.tmp 35,.const (.int .i64 0),.const (.int .i64 1000)],none,[10,9,8,6,7,5,4,3,2,0,1]⟩,⟨some 37,.mov (.tmp 0),none,[]⟩,⟨some 38,.mov (.tmp 4),none,[]⟩,⟨some 39,.iaddr 3 (.tmp 37) (.tmp 38),none,[12,13]⟩,⟨some 40,.faddr 2 1 false (.tmp 39),none,[14,12,13]⟩,⟨some 41,.load none (.tmp 40),none,[15,14,12,13]⟩,⟨some 42,.call (.func 94) [.tmp 41,.const (.int .i64 0),.const (.int .i64 100000)],none,[16,15,14,12,13,11,10,9,8,6,7,5,4,3,2,0,1]⟩,⟨some 43,.lit true 1 3 (.int .i64 0) [(0,(.tmp 30)),(1,(.tmp 36)),(2,(.tmp 42))],none,[5,4,3,2,0,1,11,10,9,8,6,7,17,16,15,14,12,13]⟩,⟨some 44,.call (.func 48) [.tmp 43],none,[18,5,4,3,2,0,1,11,10,9,8,6,7,17,16,15,14,12,13]⟩,⟨some 5,.mov (.tmp 44),none,[19,18,5,4,3,2,0,1,11,10,9,8,6,7,17,16,15,14,12,13]⟩]) (.seq (.ops false [⟨some 45,.mov (.tmp 5),none,[]⟩,⟨some 46,.bin .neq (.tmp 45) (.const (.int .i64 0)),none,[]⟩]) (.cond (.tmp 46) (.seq (.ops false [⟨some 47,.mov (.tmp 5),none,[]⟩,⟨some 2,.mov (.tmp 47),none,[]⟩]) .ret) .skip)))) (.ops false [⟨some 23,.mov (.tmp 4),none,[]⟩,⟨some 24,.bin .add (.tmp 23) (.const (.int .i64 1)),none,[]⟩,⟨some 4,.mov (.tmp 24),none,[]⟩])))
def dk30_0 : Keep := ⟨[],[0,4],[14]⟩
def dc30 : DFunc := ⟨48,1,[.tmp 2],.seq (.ops false [⟨some 2,.mov (.const (.int .i64 0)),none,[]⟩]) (.seq (.seq (.ops false [⟨some 6,.mov (.tmp 0),none,[]⟩,⟨some 7,.len (.tmp 6),none,[]⟩,⟨some 8,.bin .eql (.tmp 7) (.const (.int .i64 0)),none,[]⟩,⟨some 9,.call (.func 95) [.tmp 8,.const (.int .i64 12)],none,[]⟩,⟨some 10,.mov (.tmp 0),none,[]⟩,⟨some 11,.len (.tmp 10),none,[]⟩,⟨some 12,.bin .gtr (.tmp 11) (.const (.int .i64 64)),none,[]⟩,⟨some 13,.call (.func 95) [.tmp 12,.const (.int .i64 5)],none,[]⟩,⟨some 14,.lit true 1 2 (.int .i64 0) [(0,(.tmp 9)),(1,(.tmp 13))],none,[]⟩,⟨some 15,.call (.func 48) [.tmp 14],none,[]⟩,⟨some 3,.mov (.tmp 15),none,[]⟩]) (.seq (.ops false [⟨some 16,.mov (.tmp 3),none,[]⟩,⟨some 17,.bin .neq (.tmp 16) (.const (.int .i64 0)),none,[]⟩]) (.cond (.tmp 17) (.seq (.ops false [⟨some 18,.mov (.tmp 3),none,[]⟩,⟨some 2,.mov (.tmp 18),none,[]⟩]) .ret) .skip))) (.seq (.seq (.ops false [⟨some 4,.mov (.const (.int .i64 0)),none,[]⟩]) (.block 0 (some ⟨[],[],[14]⟩) (.loop dk30_0 db30_0))) (.seq (.ops false [⟨some 2,.mov (.const (.int .i64 0)),none,[]⟩]) .ret)))⟩
theorem dh30:cProg Go.Proofs.Tryz.prog ⟨[(0,⟨[],[0,4],[14]⟩)],[(0,⟨[],[],[14]⟩)],[14,43]⟩ 30=some dc30:=by kernel_rfl
def db48_0 : DC := (.seq (.seq (.ops false [⟨some 4,.mov (.tmp 3),none,[]⟩,⟨some 5,.mov (.tmp 0),none,[]⟩,⟨some 6,.len (.tmp 5),none,[]⟩,⟨some 7,.bin .lss (.tmp 4) (.tmp 6),none,[]⟩]) (.cond (.tmp 7) .skip (.exit 0))) (.seq (.block 1 none (.seq (.ops false [⟨some 10,.mov (.tmp 0),none,[]⟩,⟨some 11,.mov (.tmp 3),none,[]⟩,⟨some 12,.iaddr 1 (.tmp 10) (.tmp 11),none,[]⟩,⟨some 13,.load none (.tmp 12),none,[]⟩,⟨some 14,.bin .neq (.tmp 13) (.const (.int .i64 0)),none,[]⟩]) (.cond (.tmp 14) (.seq (.ops false [⟨some 15,.mov (.tmp 0),none,[]⟩,⟨some 16,.mov (.tmp 3),none,[]⟩,⟨some 17,.iaddr 1 (.tmp 15) (.tmp 16),none,[]⟩,⟨some 18,.load none (.tmp 17),none,[]⟩,⟨some 2,.mov (.tmp 18),none,[]⟩]) .ret) .skip))) (.ops false [⟨some 8,.mov (.tmp 3),none,[]⟩,⟨some 9,.bin .add (.tmp 8) (.const (.int .i64 1)),none,[]⟩,⟨some 3,.mov (.tmp 9),none,[]⟩])))
def dk48_0 : Keep := ⟨[],[0,3],[]⟩
def dc48 : DFunc := ⟨19,1,[.tmp 2],.seq (.ops false [⟨some 2,.mov (.const (.int .i64 0)),none,[]⟩]) (.seq (.seq (.ops false [⟨some 3,.mov (.const (.int .i64 0)),none,[]⟩]) (.block 0 (some ⟨[],[],[]⟩) (.loop dk48_0 db48_0))) (.seq (.ops false [⟨some 2,.mov (.const (.int .i64 0)),none,[]⟩]) .ret))⟩
theorem dh48:cProg Go.Proofs.Tryz.prog ⟨[(0,⟨[],[0,3],[]⟩)],[(0,⟨[],[],[]⟩)],[]⟩ 48=some dc48:=by kernel_rfl
def db83_0 : DC := (.seq (.seq (.ops false [⟨some 6,.mov (.tmp 5),none,[]⟩,⟨some 7,.mov (.tmp 0),none,[]⟩,⟨some 8,.len (.tmp 7),none,[]⟩,⟨some 9,.bin .lss (.tmp 6) (.tmp 8),none,[]⟩]) (.cond (.tmp 9) .skip (.exit 0))) (.seq (.block 1 none (.seq (.ops false [⟨some 12,.mov (.tmp 0),none,[]⟩,⟨some 13,.mov (.tmp 5),none,[]⟩,⟨some 14,.iaddr 1 (.tmp 12) (.tmp 13),none,[]⟩,⟨some 15,.load none (.tmp 14),none,[]⟩,⟨some 16,.mov (.tmp 1),none,[]⟩,⟨some 17,.bin .eql (.tmp 15) (.tmp 16),none,[]⟩]) (.cond (.tmp 17) (.seq (.ops false [⟨some 4,.mov (.const (.bool true)),none,[]⟩]) .ret) .skip))) (.ops false [⟨some 10,.mov (.tmp 5),none,[]⟩,⟨some 11,.bin .add (.tmp 10) (.const (.int .i64 1)),none,[]⟩,⟨some 5,.mov (.tmp 11),none,[]⟩])))
def dk83_0 : Keep := ⟨[],[0,1,5],[]⟩
def dc83 : DFunc := ⟨18,2,[.tmp 4],.seq (.ops false [⟨some 4,.mov (.const (.bool false)),none,[]⟩]) (.seq (.seq (.ops false [⟨some 5,.mov (.const (.int .i64 0)),none,[]⟩]) (.block 0 (some ⟨[],[],[]⟩) (.loop dk83_0 db83_0))) (.seq (.ops false [⟨some 4,.mov (.const (.bool false)),none,[]⟩]) .ret))⟩
theorem dh83:cProg Go.Proofs.Tryz.prog ⟨[(0,⟨[],[0,1,5],[]⟩)],[(0,⟨[],[],[]⟩)],[]⟩ 83=some dc83:=by kernel_rfl
def dc94 : DFunc := ⟨16,3,[.tmp 6],.seq (.ops false [⟨some 6,.mov (.const (.int .i64 0)),none,[]⟩]) (.seq (.ops false [⟨some 7,.mov (.tmp 0),none,[]⟩,⟨some 8,.mov (.tmp 1),none,[]⟩,⟨some 9,.bin .lss (.tmp 7) (.tmp 8),none,[]⟩,⟨some 10,.mov (.tmp 9),none,[]⟩,⟨some 11,.mov (.tmp 0),some (10,false),[]⟩,⟨some 12,.mov (.tmp 2),some (10,false),[]⟩,⟨some 13,.bin .gtr (.tmp 11) (.tmp 12),some (10,false),[]⟩,⟨some 14,.pick (.tmp 10) (.const (.bool true)) (.tmp 13),none,[]⟩,⟨some 15,.call (.func 95) [.tmp 14,.const (.int .i64 3)],none,[]⟩,⟨some 6,.mov (.tmp 15),none,[]⟩]) .ret)⟩
theorem dh94:cProg Go.Proofs.Tryz.prog ⟨[],[],[]⟩ 94=some dc94:=by kernel_rfl
def dc95 : DFunc := ⟨7,2,[.tmp 4],.seq (.ops false [⟨some 4,.mov (.const (.int .i64 0)),none,[]⟩]) (.seq (.seq (.ops false [⟨some 5,.mov (.tmp 0),none,[]⟩]) (.cond (.tmp 5) (.seq (.ops false [⟨some 6,.mov (.tmp 1),none,[]⟩,⟨some 4,.mov (.tmp 6),none,[]⟩]) .ret) .skip)) (.seq (.ops false [⟨some 4,.mov (.const (.int .i64 0)),none,[]⟩]) .ret))⟩
theorem dh95:cProg Go.Proofs.Tryz.prog ⟨[],[],[]⟩ 95=some dc95:=by kernel_rfl
def dc96 : DFunc := ⟨22,3,[.tmp 6],.seq (.ops false [⟨some 3,.box 6 (.tmp 0),none,[]⟩,⟨some 4,.box 3 (.tmp 1),none,[]⟩,⟨some 6,.mov (.const (.int .i64 0)),none,[]⟩]) (.seq (.seq (.ops false [⟨some 7,.faddr 1 1 false (.tmp 4),none,[]⟩,⟨some 8,.load none (.tmp 7),none,[]⟩,⟨some 9,.faddr 0 1 false (.tmp 3),none,[]⟩,⟨some 10,.load none (.tmp 9),none,[]⟩,⟨some 11,.bin .geq (.tmp 8) (.tmp 10),none,[]⟩]) (.cond (.tmp 11) (.ops false [⟨some 12,.mov (.tmp 2),none,[]⟩,⟨some 13,.faddr 1 1 false (.tmp 3),none,[]⟩,⟨some 14,.load none (.tmp 13),none,[]⟩,⟨some 15,.bin .mul (.tmp 12) (.tmp 14),none,[]⟩,⟨some 16,.bin .quo (.tmp 15) (.const (.int .i64 1000)),none,[]⟩,⟨some 2,.mov (.tmp 16),none,[]⟩]) .skip)) (.seq (.ops false [⟨some 17,.mov (.tmp 2),none,[]⟩,⟨some 18,.faddr 0 1 false (.tmp 4),none,[]⟩,⟨some 19,.load none (.tmp 18),none,[]⟩,⟨some 20,.bin .add (.tmp 17) (.tmp 19),none,[]⟩,⟨some 21,.minmax false (.const (.int .i64 1000)) [.tmp 20],none,[]⟩,⟨some 6,.mov (.tmp 21),none,[]⟩]) .ret))⟩
theorem dh96:cProg Go.Proofs.Tryz.prog ⟨[],[],[]⟩ 96=some dc96:=by kernel_rfl
def db97_0 : DC := (.seq (.seq (.ops false [⟨some 16,.mov (.tmp 11),none,[]⟩,⟨some 17,.mov (.tmp 3),none,[]⟩,⟨some 18,.bin .lss (.tmp 16) (.tmp 17),none,[]⟩]) (.cond (.tmp 18) .skip (.exit 0))) (.seq (.block 1 none (.ops false [⟨some 21,.mov (.tmp 10),none,[]⟩,⟨some 22,.mov (.tmp 9),none,[]⟩,⟨some 23,.mov (.tmp 11),none,[]⟩,⟨some 24,.iaddr 1 (.tmp 22) (.tmp 23),none,[]⟩,⟨some 25,.load none (.tmp 24),none,[]⟩,⟨some 26,.bin .add (.tmp 21) (.tmp 25),none,[]⟩,⟨some 10,.mov (.tmp 26),none,[]⟩])) (.ops false [⟨some 19,.mov (.tmp 11),none,[]⟩,⟨some 20,.bin .add (.tmp 19) (.const (.int .i64 1)),none,[]⟩,⟨some 11,.mov (.tmp 20),none,[]⟩])))
def dk97_0 : Keep := ⟨[],[3,9,10,11],[4]⟩
def dc97 : DFunc := ⟨28,4,[.tmp 8],.seq (.ops false [⟨some 4,.box 6 (.tmp 0),none,[]⟩,⟨some 8,.mov (.const (.int .i64 0)),none,[]⟩]) (.seq (.ops false [⟨some 12,.load (some 6) (.tmp 4),none,[]⟩,⟨some 13,.mov (.tmp 1),none,[]⟩,⟨some 14,.call (.func 26) [.tmp 12,.tmp 13],none,[]⟩,⟨some 9,.mov (.tmp 14),none,[]⟩]) (.seq (.ops false [⟨some 10,.mov (.const (.int .i64 0)),none,[]⟩]) (.seq (.seq (.ops false [⟨some 15,.mov (.tmp 2),none,[]⟩,⟨some 11,.mov (.tmp 15),none,[]⟩]) (.block 0 (some ⟨[],[10],[4]⟩) (.loop dk97_0 db97_0))) (.seq (.ops false [⟨some 27,.mov (.tmp 10),none,[]⟩,⟨some 8,.mov (.tmp 27),none,[]⟩]) .ret))))⟩
theorem dh97:cProg Go.Proofs.Tryz.prog ⟨[(0,⟨[],[3,9,10,11],[4]⟩)],[(0,⟨[],[10],[4]⟩)],[]⟩ 97=some dc97:=by kernel_rfl
end Sh

namespace Sh
open Go Go.Proofs
theorem q_When (b:Bool) (e:Int):PC 95 [.bool b,DV.int .i64 (e)] (DV.int .i64 (whenE b e)):=by
 refine pureCall_ofR dh95 rfl ?_
 conv=>whnf
 refine ⟨fun hb=>?_,fun hb=>?_⟩<;>try (exact absurd hb (by decide))
 all_goals conv=>whnf
 all_goals subst hb;rfl
theorem q_CheckRange (n l h:Int):PC 94 [DV.int .i64 (n),DV.int .i64 (l),DV.int .i64 (h)] (DV.int .i64 (withE n l h)):=by
 refine pureCall_ofR dh94 rfl ?_
 conv=>whnf
 refine ⟨fun hb=>?_,fun hb=>?_⟩<;>try (exact absurd hb (by decide))
 all_goals conv=>whnf
 ·refine .inl ?_
  conv=>whnf
  refine ⟨_,q_When ..,?_⟩
  conv=>whnf
  exact int_eq (by simp_all [withE,whenE];split<;>split<;>omega)
 ·refine .inl ?_
  conv=>whnf
  refine ⟨_,q_When ..,?_⟩
  conv=>whnf
  exact int_eq (by simp_all [withE,whenE])
theorem q_First (l:List Int) (hl:l.length < 4611686018427387904):PC 48 [iL l] (DV.int .i64 (firstE l)):=by
 refine pureCall_ofR dh48 rfl ?_
 conv=>whnf
 refine dwp_loopR (P:=Tryz.prog) (G:=GC) (k:=dk48_0) (b:=db48_0) (α:=Nat) (fun i=>[(0,iL l),(3,DV.int .i64 (i))]) (fun _=>[]) (fun i=>i≤l.length∧firstE l=firstE (l.drop i)) (fun i=>l.length - i) 0 ⟨rfl,rfl,rfl⟩ ⟨Nat.zero_le _,rfl⟩ ?_
 intro i ⟨h1,h2⟩
 conv=>whnf
 refine ⟨fun hb=>?_,fun hb=>?_⟩<;>try (exact absurd hb (by decide))
 ·have hi:i < l.length:=by simpa using hb
  have hd:=firstE_drop l i hi
  conv=>whnf
  rw [getD_enc _ _ (i) 0 hi]
  refine ⟨idxA hi rfl,?_⟩
  conv=>whnf
  refine ⟨fun hb=>?_,fun hb=>?_⟩<;>try (exact absurd hb (by decide))
  ·conv=>whnf
   rw [getD_enc _ _ (i) 0 hi]
   refine ⟨idxA hi rfl,?_⟩
   conv=>whnf
   exact int_eq (by simp_all)
  ·conv=>whnf
   rw [wrap_succ i (by omega)]
   exact ⟨i+1,rfl,rfl,rfl,⟨hi,by simp_all⟩,by omega⟩
 ·conv=>whnf
  have:i=l.length:=by simp at hb;omega
  subst this
  exact int_eq (by rw [h2];simp [firstE])
end Sh

namespace Sh
open Go
theorem lightF_cons (s:Sn) (so:Int) (d:Dy) (r:List Dy):lightF s so (d :: r)=lgtS d so :: lightF s (aftS s d so) r:=rfl
theorem soilF_clean (s:Sn) (ws:List Int):∀ (l:List Dy) (i:Nat) (so:Int),(∀ k:Nat,i≤k→(k:Int) ∉ ws)→List.zipWith lgtS l (soilF s ws i so l)=lightF s so l
 |[],i,so,_=>rfl
 |d :: r,i,so,h=>by
  have hw:wshS ws i so=so:=by unfold wshS;rw [if_neg (h i (Nat.le_refl _))]
  unfold soilF
  rw [hw,List.zipWith_cons_cons,soilF_clean s ws r (i+1) _ (fun k hk=>h k (by omega)),lightF_cons]
theorem yldS_nil (s:Sn):yldS s []=lightF s s.soil s.days:=soilF_clean s [] _ _ _ (fun k _=>by simp)
theorem soilF_one (s:Sn) (d:Nat):∀ (l:List Dy) (i:Nat) (so:Int),i≤d→d < i+l.length→(List.zipWith lgtS l (soilF s [(d:Int)] i so l))=(lightF s so l).take (d - i)++lightF s 0 (l.drop (d - i))
 |[],i,so,h1,h2=>by simp at h2;omega
 |x :: r,i,so,h1,h2=>by
  unfold soilF
  rw [List.zipWith_cons_cons]
  by_cases e:i=d
  ·subst e
   have hw:wshS [(i:Int)] i so=0:=by unfold wshS;rw [if_pos (by simp)]
   rw [hw,Nat.sub_self,soilF_clean s [(i:Int)] r (i+1) _ (fun k hk=>by simp;omega)]
   rfl
  ·have hw:wshS [(d:Int)] i so=so:=by unfold wshS;rw [if_neg (by simp;omega)]
   rw [List.length_cons] at h2
   rw [hw,soilF_one s d r (i+1) _ (by omega) (by omega),show d - i=(d - (i+1))+1 by omega,lightF_cons]
   rfl
end Sh

namespace Sh
open Go
theorem cmpI_neg {a b:Int}:cmpI a b < 0 ↔ a < b:=by unfold cmpI;split<;>(try split)<;>omega
theorem cmpI_zero {a b:Int}:cmpI a b=0 ↔ a=b:=by unfold cmpI;split<;>(try split)<;>omega
theorem cmpP_lt {x m:Pl} (h:cmpP x m < 0):m.worth≤x.worth:=by
 unfold cmpP at h
 split at h
 ·have:=cmpI_neg.1 h;omega
 ·rename_i h1
  have:=cmpI_zero.1 (Classical.not_not.1 h1);omega
theorem cmpP_ge {x m:Pl} (h:¬ cmpP x m < 0):x.worth≤m.worth:=by
 unfold cmpP at h
 split at h
 ·rename_i h1
  have h2:=mt cmpI_neg.2 h;omega
 ·rename_i h1
  have:=cmpI_zero.1 (Classical.not_not.1 h1);omega
theorem minP_worth:∀ (l:List Pl) (m:Pl),m.worth≤(minP m l).worth∧∀ x ∈ l,x.worth≤(minP m l).worth
 |[],m=>by unfold minP;simp
 |x :: r,m=>by
  unfold minP
  obtain ⟨h1,h2⟩:=minP_worth r (if cmpP x m < 0 then x else m)
  have h3:m.worth≤(if cmpP x m < 0 then x else m).worth∧x.worth≤(if cmpP x m < 0 then x else m).worth:=by
   split
   ·rename_i h;exact ⟨cmpP_lt h,Int.le_refl _⟩
   ·rename_i h;exact ⟨Int.le_refl _,cmpP_ge h⟩
  refine ⟨Int.le_trans h3.1 h1,fun y hy=>?_⟩
  rcases List.mem_cons.1 hy with rfl|hy
  ·exact Int.le_trans h3.2 h1
  ·exact h2 y hy
theorem bestP_worth {l:List Pl}:∀ x ∈ l,x.worth≤(bestP l).worth:=by
 cases l with
 |nil=>simp
 |cons x r =>
  intro y hy
  rcases List.mem_cons.1 hy with rfl|hy
  ·exact (minP_worth r y).1
  ·exact (minP_worth r x).2 y hy
def maxF:Int→List Int→Int
 |m,[]=>m
 |m,x :: r=>maxF (max m x) r
theorem maxF_spec:∀ (l:List Int) (m:Int),maxF m l ∈ m :: l∧m≤maxF m l∧∀ x ∈ l,x≤maxF m l
 |[],m=>by unfold maxF;simp
 |x :: r,m=>by
  unfold maxF
  obtain ⟨h1,h2,h3⟩:=maxF_spec r (max m x)
  refine ⟨?_,by omega,fun y hy=>?_⟩
  ·rcases List.mem_cons.1 h1 with h|h
   ·rw [h]
    rcases Int.le_total m x with h4|h4
    ·rw [Int.max_eq_right h4];simp
    ·rw [Int.max_eq_left h4];simp
   ·simp [h]
  ·rcases List.mem_cons.1 hy with rfl|hy
   ·omega
   ·exact h3 y hy
def candT (s:Sn) (d:Nat) (rest:List Int) (k:Nat):Int:=s.price * partS s d (k+1) - s.cost+rest.getD k 0
def tabF (s:Sn):Nat→List Int
 |0=>[0]
 |k+1=>maxF (candT s (s.days.length - (k+1)) (tabF s k) k) (rng k (candT s (s.days.length - (k+1)) (tabF s k))) :: tabF s k
theorem tabF_len (s:Sn):∀ k,(tabF s k).length=k+1
 |0=>rfl
 |k+1=>by unfold tabF;rw [List.length_cons,tabF_len s k]
theorem tabF_eq (s:Sn):∀ k,k≤s.days.length→tabF s k=(plansF s k).map (·.worth)
 |0,_=>rfl
 |k+1,hk=>by
  have ih:=tabF_eq s k (by omega)
  unfold tabF plansF
  rw [List.map_cons,← ih]
  congr 1
  have hl:=tabF_len s k
  have hp:=plansF_len s k
  have hn:s.days.length - (s.days.length - (k+1))=k+1:=by omega
  have hw:∀ j,((plansF s k).getD j P00).worth=(tabF s k).getD j 0:=fun j=>by
   rw [ih]
   simp only [List.getD_eq_getElem?_getD,List.getElem?_map]
   cases (plansF s k)[j]?<;>rfl
  have hc:∀ j,j≤k→∃ x ∈ candP s (s.days.length - (k+1)) (plansF s k),x.worth=candT s (s.days.length - (k+1)) (tabF s k) j:=fun j hj=>by
   unfold candP
   rw [hn]
   refine ⟨_,List.mem_map.2 ⟨j,List.mem_range.2 (by omega),rfl⟩,?_⟩
   show _+((plansF s k).getD j P00).worth=_
   rw [hw];rfl
  have hne:candP s (s.days.length - (k+1)) (plansF s k)≠[]:=by
   unfold candP;rw [hn];intro e
   have:=congrArg List.length e
   rw [rng_len] at this;cases this
  obtain ⟨h1,h2,h3⟩:=maxF_spec (rng k (candT s (s.days.length - (k+1)) (tabF s k))) (candT s (s.days.length - (k+1)) (tabF s k) k)
  apply Int.le_antisymm
  ·rcases List.mem_cons.1 h1 with h|h
   ·rw [h]
    obtain ⟨x,hx,e⟩:=hc k (Nat.le_refl _)
    rw [← e];exact bestP_worth x hx
   ·obtain ⟨j,hj,e⟩:=List.mem_map.1 h
    rw [← e]
    obtain ⟨x,hx,e⟩:=hc j (by have:=List.mem_range.1 hj;omega)
    rw [← e];exact bestP_worth x hx
  ·have hb:=bestP_mem hne
   generalize bestP (candP s (s.days.length - (k+1)) (plansF s k))=b at *
   unfold candP at hb
   rw [hn] at hb
   obtain ⟨j,hj,rfl⟩:=List.mem_map.1 hb
   have hj:=List.mem_range.1 hj
   show _+((plansF s k).getD j P00).worth≤_
   rw [hw]
   by_cases e:j=k
   ·subst e;exact h2
   ·exact h3 _ (List.mem_map.2 ⟨j,List.mem_range.2 (by omega),rfl⟩)
end Sh

namespace Sh
open Go Go.Proofs
theorem firstE_two (a b:Int) (r:List Int):firstE (a :: b :: r)=if firstE [a,b]≠0 then firstE [a,b] else firstE r:=by
 simp only [firstE]
 split
 ·rfl
 ·split<;>rfl
theorem r_CheckDays (l:List Dy) (hl:l.length < 1073741824):PC 30 [dysV l] (DV.int .i64 (chkDs l)):=by
 have e0:((l.map encD).length:Int)=l.length:=by simp
 have hk:chkDs l=if firstE [whenE (decide (((l.map encD).length:Int)=0)) 12,whenE (decide ((64:Int) < ((l.map encD).length:Int))) 5]≠0 then firstE [whenE (decide (((l.map encD).length:Int)=0)) 12,whenE (decide ((64:Int) < ((l.map encD).length:Int))) 5] else firstE (l.map chkDy):=by
  unfold chkDs
  rw [firstE_two,firstE_one,e0,show decide ((l.length:Int)=0)=decide (l.length=0) by rw [decide_eq_decide];omega,show decide ((64:Int) < l.length)=decide (64 < l.length) by rw [decide_eq_decide];omega]
 refine pureCall_ofR dh30 rfl ?_
 conv=>whnf
 repeat' (first
  |(refine ⟨fun hg=>?_,fun hg=>?_⟩<;>first|contradiction|(conv=>whnf))
  |(refine Or.inl ?_;conv=>whnf)
  |(refine ⟨_,q_When ..,?_⟩;conv=>whnf)
  |(refine ⟨_,q_First [_,_] (by simp),?_⟩;conv=>whnf)
  |(refine And.intro ?_ ?_;kernel_rfl;conv=>whnf))
 ·have hg:=of_decide_eq_true hg
  exact int_eq (by rw [hk,if_pos hg])
 ·have hg:=of_decide_eq_false hg
  rw [if_neg hg] at hk
  clear hg
  refine dwp_loopU (P:=Tryz.prog) (G:=GC) (k:=dk30_0) (b:=db30_0) (α:=Nat) (fun i=>[(4,DV.int .i64 (i))]) (fun _=>[]) (fun i=>i≤l.length∧chkDs l=firstE ((l.map chkDy).drop i)) (fun i=>l.length - i) 0 ⟨Nat.zero_le _,hk⟩ ?_
  conv=>whnf
  refine ⟨rfl,rfl,?_⟩
  conv=>whnf
  refine ⟨rfl,?_⟩
  intro i ⟨h1,h2⟩
  conv=>whnf
  refine ⟨fun hb=>?_,fun hb=>?_⟩
  ·have hi:i < l.length:=by simpa using hb
   have hd:=firstE_drop (l.map chkDy) i (by simpa using hi)
   rw [show (l.map chkDy).getD i 0=chkDy (l.getD i D0) by simp [List.getD_eq_getElem?_getD,hi]] at hd
   clear hb
   conv=>whnf
   repeat' (first
    |(refine ⟨fun hg=>?_,fun hg=>?_⟩<;>first|contradiction|(conv=>whnf))
    |(refine Or.inl ?_;conv=>whnf)
    |(refine ⟨_,q_CheckRange ..,?_⟩;conv=>whnf)
    |(refine ⟨_,q_First [_,_,_] (by simp),?_⟩;conv=>whnf)
    |(rw [getD_enc _ _ i D0 hi];refine ⟨idxA hi rfl,?_⟩;conv=>whnf)
    |(refine And.intro ?_ ?_;kernel_rfl;conv=>whnf))
   ·have hg:chkDy (l.getD i D0)≠0:=of_decide_eq_true hg
    rw [if_pos hg] at hd
    exact int_eq (by rw [h2,hd];rfl)
   ·have hg:¬ chkDy (l.getD i D0)≠0:=of_decide_eq_false hg
    rw [if_neg hg] at hd
    rw [wrap_succ i (by omega)]
    exact ⟨i+1,rfl,rfl,rfl,⟨hi,by rw [h2,hd]⟩,by omega⟩
  ·have hi:i=l.length:=by have:=of_decide_eq_false hb;rw [e0] at this;omega
   clear hb
   conv=>whnf
   exact int_eq (by rw [h2,hi,List.drop_of_length_le (by simp)];rfl)
theorem r_CheckSeason (s:Sn) (hl:s.days.length < 1073741824):PC 23 [encS s] (DV.int .i64 (chkSn s)):=by
 have k1:=r_CheckDays s.days hl
 refine pureCall_ofR dh23 rfl ?_
 conv=>whnf
 repeat' (first
  |(refine ⟨fun hg=>?_,fun hg=>?_⟩<;>first|contradiction|(conv=>whnf))
  |(refine Or.inl ?_;conv=>whnf)
  |(refine ⟨_,k1,?_⟩;conv=>whnf)
  |(refine ⟨_,q_CheckRange ..,?_⟩;conv=>whnf)
  |(refine ⟨_,q_First [_,_,_,_,_,_] (by simp),?_⟩;conv=>whnf)
  |(refine And.intro ?_ ?_;kernel_rfl;conv=>whnf))
 rfl
end Sh

namespace Sh
open Go Go.Proofs
theorem q_HasInt (l:List Int) (n:Int) (hl:l.length < 4611686018427387904):PC 83 [iL l,DV.int .i64 (n)] (.bool (decide (n ∈ l))):=by
 have e0:((l.map (DV.int .i64)).length:Int)=l.length:=by simp
 refine pureCall_ofR dh83 rfl ?_
 conv=>whnf
 refine dwp_loopR (P:=Tryz.prog) (G:=GC) (k:=dk83_0) (b:=db83_0) (α:=Nat) (fun i=>[(0,iL l),(1,DV.int .i64 (n)),(5,DV.int .i64 (i))]) (fun _=>[]) (fun i=>i≤l.length∧n ∉ l.take i) (fun i=>l.length - i) 0 ⟨rfl,rfl,rfl⟩ ⟨Nat.zero_le _,by simp⟩ ?_
 intro i ⟨h1,h2⟩
 conv=>whnf
 refine ⟨fun hb=>?_,fun hb=>?_⟩
 ·have hi:i < l.length:=by simpa using hb
  clear hb
  conv=>whnf
  rw [getD_enc _ _ (i) 0 hi]
  refine ⟨idxA hi rfl,?_⟩
  conv=>whnf
  refine ⟨fun hg=>?_,fun hg=>?_⟩
  ·have hg:l.getD i 0=n:=of_decide_eq_true hg
   conv=>whnf
   exact bool_eq (decide_eq_true (by rw [← hg];exact getD_in 0 hi)).symm
  ·have hg:¬ l.getD i 0=n:=of_decide_eq_false hg
   conv=>whnf
   rw [wrap_succ i (by omega)]
   refine ⟨i+1,rfl,rfl,rfl,⟨hi,?_⟩,by omega⟩
   rw [take_snoc l i 0 hi,List.mem_append]
   rintro (h|h)
   ·exact h2 h
   ·simp only [List.mem_cons,List.not_mem_nil,or_false] at h;exact hg h.symm
 ·have hi:i=l.length:=by have:=of_decide_eq_false hb;rw [e0] at this;omega
  rw [hi,List.take_length] at h2
  conv=>whnf
  exact bool_eq (decide_eq_false h2).symm
end Sh

namespace Sh
open Go Go.Proofs
theorem r_after (s:Sn) (d:Dy) (so:Int) (hs:OkSn s) (hd:OkDy d) (h0:0≤so) (h1:so≤1000):PC 96 [encS s,encD d,DV.int .i64 (so)] (DV.int .i64 (aftS s d so)):=by
 obtain ⟨w0,w1,w2,w3,w4⟩:=aft_w hs hd h0 h1
 refine pureCall_ofR dh96 rfl ?_
 conv=>whnf
 refine ⟨fun hg=>?_,fun hg=>?_⟩
 ·have hg:s.enough≤d.rain:=of_decide_eq_true hg
  conv=>whnf
  repeat' (first
   |(refine ⟨fun hg=>?_,fun hg=>?_⟩<;>first|contradiction|(conv=>whnf))
   |(refine Or.inl ?_;conv=>whnf)
   |(refine ⟨by decide,?_⟩;conv=>whnf)
   |(refine And.intro ?_ ?_;kernel_rfl;conv=>whnf))
  rw [w4,w1,w2,min_min]
  refine int_eq ?_
  unfold aftS
  rw [if_pos hg]
 ·have hg:¬ s.enough≤d.rain:=of_decide_eq_false hg
  conv=>whnf
  rw [w3,min_min]
  refine int_eq ?_
  unfold aftS
  rw [if_neg hg]
end Sh

namespace Sh
open Go Go.Proofs
def cleanS (s:Sn) (ws:List Int) (i:Nat):List Int:=rng i (fun k=>wshS ws k (curS s ws k))
theorem cleanS_len (s:Sn) (ws:List Int) (i:Nat):(cleanS s ws i).length=i:=rng_len _ _
theorem cleanS_succ (s:Sn) (ws:List Int) (i:Nat):cleanS s ws (i+1)=cleanS s ws i++[wshS ws i (curS s ws i)]:=rng_succ _ _
theorem cleanS_last (s:Sn) (ws:List Int):cleanS s ws s.days.length++[curS s ws s.days.length]=soilsS s ws:=by
 rw [soils_dirt];unfold dirtS cleanS;rfl
theorem curS_succ (s:Sn) (ws:List Int) (i:Nat):curS s ws (i+1)=aftS s (s.days.getD i D0) (wshS ws i (curS s ws i)):=rfl
theorem r_Soils (s:Sn) (ws:List Int) (hs:OkSn s) (hw:ws.length < 1073741824):PC 25 [encS s,iL ws] (iL (soilsS s ws)):=by
 have e1:((s.days.map encD).length:Int)=s.days.length:=by simp
 have hn:=hs.n1
 rw [← cleanS_last]
 refine pureCall_ofR dh25 rfl ?_
 conv=>whnf
 refine dwp_loopU (P:=Tryz.prog) (G:=GC) (k:=dk25_0) (b:=db25_0) (α:=Nat) (fun i=>[(5,.own 5 0 (iD (cleanS s ws i)).length (iD (cleanS s ws i)).length),(6,DV.int .i64 (curS s ws i)),(7,DV.int .i64 (i))]) (fun i=>[(2,.box 6 (encS s)),(5,.row 1 (iD (cleanS s ws i)) false)]) (fun i=>i≤s.days.length) (fun i=>s.days.length - i) 0 (Nat.zero_le _) ?_
 conv=>whnf
 refine ⟨rfl,rfl,?_⟩
 conv=>whnf
 refine ⟨rfl,?_⟩
 intro i h1
 conv=>whnf
 refine ⟨fun hb=>?_,fun hb=>?_⟩
 ·have hi:i < s.days.length:=by simpa using hb
  have hd:=hs.ds _ (getD_in D0 hi)
  have hcb:=curS_bd hs ws i h1
  have hwb:=wshS_bd (ws:=ws) (i:=i) hcb.1 hcb.2
  have hsu:=cleanS_succ s ws i
  have hdl:=cleanS_len s ws i
  have hcs:=curS_succ s ws i
  clear hb
  have k2:=r_after s (s.days.getD i D0) (wshS ws i (curS s ws i)) hs hd hwb.1 hwb.2
  rw [← hcs] at k2
  have hin:(i:Int) ∈ ws→wshS ws i (curS s ws i)=0:=fun h=>by unfold wshS;rw [if_pos h]
  have hno:(i:Int) ∉ ws→wshS ws i (curS s ws i)=curS s ws i:=fun h=>by unfold wshS;rw [if_neg h]
  generalize wshS ws i (curS s ws i)=so at *
  generalize curS s ws i=cu at *
  generalize cleanS s ws i=R at *
  generalize hcn:curS s ws (i+1)=cn at *
  conv=>whnf
  refine .inl ?_
  conv=>whnf
  refine ⟨_,q_HasInt ws (i:Int) (by omega),?_⟩
  conv=>whnf
  refine ⟨fun hg=>?_,fun hg=>?_⟩
  ·have hg:(i:Int) ∈ ws:=of_decide_eq_true hg
   rw [hin hg] at k2 hsu
   conv=>whnf
   refine ⟨⟨rfl,rfl,rfl,by rw [iD_len];simp;omega,fun e he=>by simp at he;subst he;rfl⟩,?_⟩
   conv=>whnf
   rw [getD_enc _ _ (i) D0 hi]
   refine ⟨idxA hi rfl,?_⟩
   conv=>whnf
   repeat' (first
    |(refine ⟨fun hg=>?_,fun hg=>?_⟩<;>first|contradiction|(conv=>whnf))
    |(refine Or.inl ?_;conv=>whnf)
    |(refine ⟨_,k2,?_⟩;conv=>whnf)
    |(refine And.intro ?_ ?_;kernel_rfl;conv=>whnf))
   rw [wrap_succ i (by omega)]
   refine ⟨i+1,rfl,?_,?_,hi,by omega⟩
   ·rw [hsu,iD_app,hcn];rfl
   ·rw [hsu,iD_app];rfl
  ·have hg:(i:Int) ∉ ws:=of_decide_eq_false hg
   rw [hno hg] at k2 hsu
   conv=>whnf
   refine ⟨⟨rfl,rfl,rfl,by rw [iD_len];simp;omega,fun e he=>by simp at he;subst he;rfl⟩,?_⟩
   conv=>whnf
   rw [getD_enc _ _ (i) D0 hi]
   refine ⟨idxA hi rfl,?_⟩
   conv=>whnf
   repeat' (first
    |(refine ⟨fun hg=>?_,fun hg=>?_⟩<;>first|contradiction|(conv=>whnf))
    |(refine Or.inl ?_;conv=>whnf)
    |(refine ⟨_,k2,?_⟩;conv=>whnf)
    |(refine And.intro ?_ ?_;kernel_rfl;conv=>whnf))
   rw [wrap_succ i (by omega)]
   refine ⟨i+1,rfl,?_,?_,hi,by omega⟩
   ·rw [hsu,iD_app,hcn];rfl
   ·rw [hsu,iD_app];rfl
 ·have hi:i=s.days.length:=by have:=of_decide_eq_false hb;rw [e1] at this;omega
  have hdl:=cleanS_len s ws s.days.length
  rw [hi]
  generalize cleanS s ws s.days.length=R at *
  generalize curS s ws s.days.length=cu at *
  clear hb
  conv=>whnf
  refine ⟨⟨rfl,rfl,rfl,by rw [iD_len];simp;omega,fun e he=>by simp at he;subst he;rfl⟩,?_⟩
  conv=>whnf
  refine ⟨rfl,?_⟩
  rw [window_full,show (iL (R++[cu]))=.list (iD R++[DV.int .i64 (cu)]) by rw [← iD_app];rfl];rfl
end Sh

namespace Sh
open Go Go.Proofs
theorem r_Yields (s:Sn) (ws:List Int) (hs:OkSn s) (hw:ws.length < 1073741824):PC 26 [encS s,iL ws] (iL (yldS s ws)):=by
 have e1:((s.days.map encD).length:Int)=s.days.length:=by simp
 have hn:=hs.n1
 have hl:=yldS_len s ws
 have hsl:=soilsS_len s ws
 have k1:=r_Soils s ws hs hw
 refine pureCall_ofR dh26 rfl ?_
 conv=>whnf
 refine .inl ?_
 conv=>whnf
 refine ⟨_,k1 ..,?_⟩
 conv=>whnf
 refine dwp_loopU (P:=Tryz.prog) (G:=GC) (k:=dk26_0) (b:=db26_0) (α:=Nat) (fun i=>[(5,.own 5 0 (iD ((yldS s ws).take i)).length (iD ((yldS s ws).take i)).length),(7,DV.int .i64 (i))]) (fun i=>[(2,.box 6 (encS s)),(5,.row 1 (iD ((yldS s ws).take i)) false)]) (fun i=>i≤s.days.length) (fun i=>s.days.length - i) 0 (Nat.zero_le _) ?_
 conv=>whnf
 refine ⟨rfl,rfl,?_⟩
 conv=>whnf
 refine ⟨rfl,?_⟩
 intro i h1
 conv=>whnf
 refine ⟨fun hb=>?_,fun hb=>?_⟩
 ·have hi:i < s.days.length:=by simpa using hb
  have hd:=hs.ds _ (getD_in D0 hi)
  have hsb:=soilsS_bd hs ws _ (getD_in (i:=i) 0 (by omega))
  have hg:=yldS_get s ws i hi
  have hlw:=lgt_w hd hsb.1 hsb.2
  rw [← hg] at hlw
  clear hb
  conv=>whnf
  rw [getD_enc _ _ (i) D0 hi]
  refine ⟨idxA hi rfl,?_⟩
  conv=>whnf
  rw [getD_enc _ _ (i) 0 (by omega:i < (soilsS s ws).length)]
  refine ⟨idxA (by omega:i < (soilsS s ws).length) rfl,?_⟩
  conv=>whnf
  refine ⟨by decide,?_⟩
  conv=>whnf
  rw [show (encD (s.days.getD i D0))=.agg [DV.int .i64 ((s.days.getD i D0).dust),DV.int .i64 ((s.days.getD i D0).rain),DV.int .i64 ((s.days.getD i D0).light)] from rfl]
  conv=>whnf
  rw [hlw]
  refine ⟨⟨rfl,rfl,rfl,by rw [iD_take_len _ _ (by omega)];simp;omega,fun e he=>by simp at he;subst he;rfl⟩,?_⟩
  conv=>whnf
  refine ⟨by kernel_rfl,?_⟩
  conv=>whnf
  rw [wrap_succ i (by omega)]
  refine ⟨i+1,rfl,?_,?_,hi,by omega⟩
  ·rw [iD_take _ _ (by omega)];rfl
  ·rw [iD_take _ _ (by omega)];rfl
 ·have hi:i=s.days.length:=by have:=of_decide_eq_false hb;rw [e1] at this;omega
  clear hb
  conv=>whnf
  refine ⟨rfl,?_⟩
  rw [window_full,hi,List.take_of_length_le (by omega)];rfl
def ySum (s:Sn) (ws:List Int) (f t:Nat):Int:=sumI (((yldS s ws).drop f).take (t - f))
theorem ySum_succ (s:Sn) (ws:List Int) (f k:Nat) (h:f+k < s.days.length):ySum s ws f (f+(k+1))=ySum s ws f (f+k)+(yldS s ws).getD (f+k) 0:=by
 unfold ySum
 rw [Nat.add_sub_cancel_left,Nat.add_sub_cancel_left,sumI_take_succ _ _ (by rw [List.length_drop,yldS_len];omega)]
 simp [List.getD_eq_getElem?_getD]
theorem ySum_bd {s:Sn} (hs:OkSn s) (ws:List Int) (f t:Nat):0≤ySum s ws f t∧ySum s ws f t≤6400000:=by
 unfold ySum
 have h:=sumI_take_bd (l:=(yldS s ws).drop f) (B:=100000) (fun x hx=>yldS_bd hs ws x (List.mem_of_mem_drop hx)) (t - f)
 have hl:((yldS s ws).drop f).length≤64:=by rw [List.length_drop,yldS_len];have:=hs.n1;omega
 omega
theorem r_Sum (s:Sn) (ws:List Int) (f t:Nat) (hs:OkSn s) (hw:ws.length < 1073741824) (hft:f≤t) (ht:t≤s.days.length):PC 97 [encS s,iL ws,DV.int .i64 (f),DV.int .i64 (t)] (DV.int .i64 (ySum s ws f t)):=by
 have hn:=hs.n1
 have hl:=yldS_len s ws
 have k1:=r_Yields s ws hs hw
 have h0:ySum s ws f (f+0)=0:=by unfold ySum;simp only [Nat.add_zero,Nat.sub_self,List.take_zero];rfl
 refine pureCall_ofR dh97 rfl ?_
 conv=>whnf
 refine .inl ?_
 conv=>whnf
 refine ⟨_,k1 ..,?_⟩
 conv=>whnf
 refine dwp_loopU (P:=Tryz.prog) (G:=GC) (k:=dk97_0) (b:=db97_0) (α:=Nat) (fun i=>[(10,DV.int .i64 (ySum s ws f (f+i))),(11,DV.int .i64 ((f+i:Nat)))]) (fun i=>[(4,.box 6 (encS s))]) (fun i=>i≤t - f) (fun i=>t - f - i) 0 (Nat.zero_le _) ?_
 refine ⟨rfl,rfl,by rw [h0];rfl,?_⟩
 intro i h1
 conv=>whnf
 refine ⟨fun hb=>?_,fun hb=>?_⟩
 ·have hi:f+i < t:=by have:=of_decide_eq_true hb;omega
  have hsu:=ySum_succ s ws f i (by omega)
  have b1:=ySum_bd hs ws f (f+i)
  have b2:=ySum_bd hs ws f (f+(i+1))
  clear hb
  conv=>whnf
  rw [getD_enc _ _ ((f+i)) 0 (by omega:f+i < (yldS s ws).length)]
  refine ⟨idxA (by omega:f+i < (yldS s ws).length) rfl,?_⟩
  conv=>whnf
  rw [wrap_succ (f+i) (by omega),wrap_in (n:=ySum s ws f (f+i)+_) (by omega) (by omega),← hsu]
  exact ⟨i+1,rfl,rfl,rfl,by omega,by omega⟩
 ·have hi:f+i=t:=by have:=of_decide_eq_false hb;omega
  clear hb
  rw [hi]
  conv=>whnf
  rfl
end Sh

namespace Sh
open Go
def db40_0 : DC := (.seq (.seq (.ops false [⟨some 31,.mov (.tmp 6),none,[]⟩,⟨some 32,.mov (.tmp 3),none,[]⟩,⟨some 33,.bin .lss (.tmp 31) (.tmp 32),none,[]⟩]) (.cond (.tmp 33) .skip (.exit 2))) (.seq (.block 3 none (.ops true [⟨some 36,.mov (.tmp 4),none,[]⟩,⟨some 37,.mov (.tmp 5),none,[]⟩,⟨some 38,.mov (.tmp 4),none,[]⟩,⟨some 39,.mov (.tmp 5),none,[]⟩,⟨some 40,.iaddr 1 (.tmp 38) (.tmp 39),none,[2,3]⟩,⟨some 41,.load none (.tmp 40),none,[4,2,3]⟩,⟨some 42,.load (some 6) (.tmp 1),none,[]⟩,⟨some 43,.mov (.tmp 5),none,[]⟩,⟨some 44,.mov (.tmp 6),none,[]⟩,⟨some 45,.call (.func 114) [.tmp 42,.tmp 43,.tmp 44],none,[6,7,8]⟩,⟨some 46,.faddr 5 1 false (.tmp 1),none,[]⟩,⟨some 47,.load none (.tmp 46),none,[10]⟩,⟨some 48,.bin .sub (.tmp 45) (.tmp 47),none,[9,6,7,8,11,10]⟩,⟨some 49,.mov (.tmp 4),none,[]⟩,⟨some 50,.mov (.tmp 6),none,[]⟩,⟨some 51,.iaddr 1 (.tmp 49) (.tmp 50),none,[13,14]⟩,⟨some 52,.load none (.tmp 51),none,[15,13,14]⟩,⟨some 53,.bin .add (.tmp 48) (.tmp 52),none,[12,9,6,7,8,11,10,16,15,13,14]⟩,⟨some 54,.minmax true (.tmp 41) [.tmp 53],none,[5,4,2,3,17,12,9,6,7,8,11,10,16,15,13,14]⟩,⟨some 55,.iaddr 1 (.tmp 36) (.tmp 37),none,[0,1,2,3,4,5,6,7,8,9,10,11,12,13,14,15,16,17,18]⟩,⟨none,.store 1 (.tmp 55) (.tmp 54),none,[19,0,1,2,3,4,5,6,7,8,9,10,11,12,13,14,15,16,17,18]⟩])) (.ops false [⟨some 34,.mov (.tmp 6),none,[]⟩,⟨some 35,.bin .add (.tmp 34) (.const (.int .i64 1)),none,[]⟩,⟨some 6,.mov (.tmp 35),none,[]⟩])))
def dk40_0 : Keep := ⟨[],[1,3,4,5,6],[1,12]⟩
def db40_1 : DC := (.seq (.seq (.ops false [⟨some 15,.mov (.tmp 5),none,[]⟩,⟨some 16,.bin .geq (.tmp 15) (.const (.int .i64 0)),none,[]⟩]) (.cond (.tmp 16) .skip (.exit 0))) (.seq (.block 1 (some ⟨[],[1,3,4,5],[1,12]⟩) (.seq (.ops true [⟨some 19,.mov (.tmp 4),none,[]⟩,⟨some 20,.mov (.tmp 5),none,[]⟩,⟨some 21,.load (some 6) (.tmp 1),none,[]⟩,⟨some 22,.mov (.tmp 5),none,[]⟩,⟨some 23,.mov (.tmp 3),none,[]⟩,⟨some 24,.call (.func 114) [.tmp 21,.tmp 22,.tmp 23],none,[2,3,4]⟩,⟨some 25,.faddr 5 1 false (.tmp 1),none,[]⟩,⟨some 26,.load none (.tmp 25),none,[6]⟩,⟨some 27,.bin .sub (.tmp 24) (.tmp 26),none,[5,2,3,4,7,6]⟩,⟨some 28,.iaddr 1 (.tmp 19) (.tmp 20),none,[0,1,2,3,4,5,6,7,8]⟩,⟨none,.store 1 (.tmp 28) (.tmp 27),none,[9,0,1,2,3,4,5,6,7,8]⟩]) (.seq (.ops false [⟨some 29,.mov (.tmp 5),none,[]⟩,⟨some 30,.bin .add (.tmp 29) (.const (.int .i64 1)),none,[]⟩,⟨some 6,.mov (.tmp 30),none,[]⟩]) (.block 2 (some ⟨[],[1,3,4,5],[1,12]⟩) (.loop dk40_0 db40_0))))) (.ops false [⟨some 17,.mov (.tmp 5),none,[]⟩,⟨some 18,.bin .sub (.tmp 17) (.const (.int .i64 1)),none,[]⟩,⟨some 5,.mov (.tmp 18),none,[]⟩])))
def dk40_1 : Keep := ⟨[],[1,3,4,5],[1,12]⟩
def dc40 : DFunc := ⟨57,1,[.tmp 2],.seq (.ops false [⟨some 1,.box 6 (.tmp 0),none,[]⟩,⟨some 2,.mov (.const (.slice none 0 0)),none,[]⟩]) (.seq (.ops false [⟨some 7,.faddr 3 1 false (.tmp 1),none,[]⟩,⟨some 8,.load none (.tmp 7),none,[]⟩,⟨some 9,.len (.tmp 8),none,[]⟩,⟨some 3,.mov (.tmp 9),none,[]⟩]) (.seq (.ops false [⟨some 10,.mov (.tmp 3),none,[]⟩,⟨some 11,.bin .add (.tmp 10) (.const (.int .i64 1)),none,[]⟩,⟨some 12,.mkslice 1 (.int .i64 0) (.tmp 11) (.tmp 11),none,[]⟩,⟨some 4,.mov (.tmp 12),none,[]⟩]) (.seq (.seq (.ops false [⟨some 13,.mov (.tmp 3),none,[]⟩,⟨some 14,.bin .sub (.tmp 13) (.const (.int .i64 1)),none,[]⟩,⟨some 5,.mov (.tmp 14),none,[]⟩]) (.block 0 (some ⟨[],[4],[1,12]⟩) (.loop dk40_1 db40_1))) (.seq (.ops false [⟨some 56,.mov (.tmp 4),none,[]⟩,⟨some 2,.mov (.tmp 56),none,[]⟩]) .ret))))⟩
theorem dh40:cProg Go.Proofs.Tryz.prog ⟨[(0,⟨[],[1,3,4,5],[1,12]⟩),(2,⟨[],[1,3,4,5,6],[1,12]⟩)],[(2,⟨[],[1,3,4,5],[1,12]⟩),(1,⟨[],[1,3,4,5],[1,12]⟩),(0,⟨[],[4],[1,12]⟩)],[]⟩ 40=some dc40:=by kernel_rfl
def db41_0 : DC := (.seq (.seq (.ops false [⟨some 14,.mov (.tmp 5),none,[]⟩,⟨some 15,.mov (.tmp 1),none,[]⟩,⟨some 16,.len (.tmp 15),none,[]⟩,⟨some 17,.bin .lss (.tmp 14) (.tmp 16),none,[]⟩]) (.cond (.tmp 17) .skip (.exit 0))) (.seq (.block 1 none (.seq (.ops false [⟨some 20,.mov (.tmp 1),none,[]⟩,⟨some 21,.mov (.tmp 5),none,[]⟩,⟨some 22,.iaddr 1 (.tmp 20) (.tmp 21),none,[]⟩,⟨some 23,.load none (.tmp 22),none,[]⟩,⟨some 24,.call (.func 94) [.tmp 23,.const (.int .i64 (-100000000000)),.const (.int .i64 100000000000)],none,[]⟩,⟨some 6,.mov (.tmp 24),none,[]⟩]) (.seq (.ops false [⟨some 25,.mov (.tmp 6),none,[]⟩,⟨some 26,.bin .neq (.tmp 25) (.const (.int .i64 0)),none,[]⟩]) (.cond (.tmp 26) (.seq (.ops false [⟨some 27,.mov (.tmp 6),none,[]⟩,⟨some 4,.mov (.tmp 27),none,[]⟩]) .ret) .skip)))) (.ops false [⟨some 18,.mov (.tmp 5),none,[]⟩,⟨some 19,.bin .add (.tmp 18) (.const (.int .i64 1)),none,[]⟩,⟨some 5,.mov (.tmp 19),none,[]⟩])))
def dk41_0 : Keep := ⟨[],[1,5],[2]⟩
def dc41 : DFunc := ⟨28,2,[.tmp 4],.seq (.ops false [⟨some 2,.box 6 (.tmp 0),none,[]⟩,⟨some 4,.mov (.const (.int .i64 0)),none,[]⟩]) (.seq (.seq (.ops false [⟨some 7,.mov (.tmp 1),none,[]⟩,⟨some 8,.len (.tmp 7),none,[]⟩,⟨some 9,.faddr 3 1 false (.tmp 2),none,[]⟩,⟨some 10,.load none (.tmp 9),none,[]⟩,⟨some 11,.len (.tmp 10),none,[]⟩,⟨some 12,.bin .add (.tmp 11) (.const (.int .i64 1)),none,[]⟩,⟨some 13,.bin .neq (.tmp 8) (.tmp 12),none,[]⟩]) (.cond (.tmp 13) (.seq (.ops false [⟨some 4,.mov (.const (.int .i64 2)),none,[]⟩]) .ret) .skip)) (.seq (.seq (.ops false [⟨some 5,.mov (.const (.int .i64 0)),none,[]⟩]) (.block 0 (some ⟨[],[],[2]⟩) (.loop dk41_0 db41_0))) (.seq (.ops false [⟨some 4,.mov (.const (.int .i64 0)),none,[]⟩]) .ret)))⟩
theorem dh41:cProg Go.Proofs.Tryz.prog ⟨[(0,⟨[],[1,5],[2]⟩)],[(0,⟨[],[],[2]⟩)],[]⟩ 41=some dc41:=by kernel_rfl
def db42_0 : DC := (.seq (.seq (.ops false [⟨some 26,.mov (.tmp 9),none,[]⟩,⟨some 27,.mov (.tmp 7),none,[]⟩,⟨some 28,.bin .leq (.tmp 26) (.tmp 27),none,[]⟩]) (.cond (.tmp 28) .skip (.exit 2))) (.seq (.block 3 none (.seq (.ops true [⟨some 31,.mov (.tmp 1),none,[]⟩,⟨some 32,.mov (.tmp 8),none,[]⟩,⟨some 33,.iaddr 1 (.tmp 31) (.tmp 32),none,[0,1]⟩,⟨some 34,.load none (.tmp 33),none,[2,0,1]⟩,⟨some 35,.load (some 6) (.tmp 3),none,[]⟩,⟨some 36,.mov (.tmp 8),none,[]⟩,⟨some 37,.mov (.tmp 9),none,[]⟩,⟨some 38,.call (.func 114) [.tmp 35,.tmp 36,.tmp 37],none,[4,5,6]⟩,⟨some 39,.faddr 5 1 false (.tmp 3),none,[]⟩,⟨some 40,.load none (.tmp 39),none,[8]⟩,⟨some 41,.bin .sub (.tmp 38) (.tmp 40),none,[7,4,5,6,9,8]⟩,⟨some 42,.mov (.tmp 1),none,[]⟩,⟨some 43,.mov (.tmp 9),none,[]⟩,⟨some 44,.iaddr 1 (.tmp 42) (.tmp 43),none,[11,12]⟩,⟨some 45,.load none (.tmp 44),none,[13,11,12]⟩,⟨some 46,.bin .add (.tmp 41) (.tmp 45),none,[10,7,4,5,6,9,8,14,13,11,12]⟩,⟨some 47,.bin .lss (.tmp 34) (.tmp 46),none,[3,2,0,1,15,10,7,4,5,6,9,8,14,13,11,12]⟩]) (.cond (.tmp 47) (.seq (.ops false [⟨some 6,.mov (.const (.bool false)),none,[]⟩]) .ret) .skip))) (.ops false [⟨some 29,.mov (.tmp 9),none,[]⟩,⟨some 30,.bin .add (.tmp 29) (.const (.int .i64 1)),none,[]⟩,⟨some 9,.mov (.tmp 30),none,[]⟩])))
def dk42_0 : Keep := ⟨[],[1,2,3,7,8,9],[3]⟩
def db42_1 : DC := (.seq (.seq (.ops false [⟨some 19,.mov (.tmp 8),none,[]⟩,⟨some 20,.mov (.tmp 7),none,[]⟩,⟨some 21,.bin .lss (.tmp 19) (.tmp 20),none,[]⟩]) (.cond (.tmp 21) .skip (.exit 0))) (.seq (.block 1 (some ⟨[],[1,2,3,7,8],[3]⟩) (.seq (.ops false [⟨some 24,.mov (.tmp 8),none,[]⟩,⟨some 25,.bin .add (.tmp 24) (.const (.int .i64 1)),none,[]⟩,⟨some 9,.mov (.tmp 25),none,[]⟩]) (.block 2 (some ⟨[],[1,2,3,7,8],[3]⟩) (.loop dk42_0 db42_0)))) (.ops false [⟨some 22,.mov (.tmp 8),none,[]⟩,⟨some 23,.bin .add (.tmp 22) (.const (.int .i64 1)),none,[]⟩,⟨some 8,.mov (.tmp 23),none,[]⟩])))
def dk42_1 : Keep := ⟨[],[1,2,3,7,8],[3]⟩
def db42_2 : DC := (.seq (.seq (.ops false [⟨some 48,.mov (.tmp 10),none,[]⟩,⟨some 49,.mov (.tmp 7),none,[]⟩,⟨some 50,.bin .leq (.tmp 48) (.tmp 49),none,[]⟩]) (.cond (.tmp 50) .skip (.exit 4))) (.seq (.block 5 none (.seq (.ops true [⟨some 53,.mov (.tmp 2),none,[]⟩,⟨some 54,.faddr 4 1 false (.tmp 3),none,[]⟩,⟨some 55,.load none (.tmp 54),none,[1]⟩,⟨some 56,.load (some 6) (.tmp 3),none,[]⟩,⟨some 57,.mov (.tmp 10),none,[]⟩,⟨some 58,.call (.func 97) [.tmp 56,.const (.slice none 0 0),.const (.int .i64 0),.tmp 57],none,[3,4]⟩,⟨some 59,.bin .mul (.tmp 55) (.tmp 58),none,[2,1,5,3,4]⟩,⟨some 60,.mov (.tmp 1),none,[]⟩,⟨some 61,.mov (.tmp 10),none,[]⟩,⟨some 62,.iaddr 1 (.tmp 60) (.tmp 61),none,[7,8]⟩,⟨some 63,.load none (.tmp 62),none,[9,7,8]⟩,⟨some 64,.bin .add (.tmp 59) (.tmp 63),none,[6,2,1,5,3,4,10,9,7,8]⟩,⟨some 65,.bin .lss (.tmp 53) (.tmp 64),none,[0,11,6,2,1,5,3,4,10,9,7,8]⟩]) (.cond (.tmp 65) (.seq (.ops false [⟨some 6,.mov (.const (.bool false)),none,[]⟩]) .ret) .skip))) (.ops false [⟨some 51,.mov (.tmp 10),none,[]⟩,⟨some 52,.bin .add (.tmp 51) (.const (.int .i64 1)),none,[]⟩,⟨some 10,.mov (.tmp 52),none,[]⟩])))
def dk42_2 : Keep := ⟨[],[1,2,3,7,10],[3]⟩
def dc42 : DFunc := ⟨66,3,[.tmp 6],.seq (.ops false [⟨some 3,.box 6 (.tmp 0),none,[]⟩,⟨some 6,.mov (.const (.bool false)),none,[]⟩]) (.seq (.ops false [⟨some 11,.faddr 3 1 false (.tmp 3),none,[]⟩,⟨some 12,.load none (.tmp 11),none,[]⟩,⟨some 13,.len (.tmp 12),none,[]⟩,⟨some 7,.mov (.tmp 13),none,[]⟩]) (.seq (.seq (.ops false [⟨some 14,.mov (.tmp 1),none,[]⟩,⟨some 15,.mov (.tmp 7),none,[]⟩,⟨some 16,.iaddr 1 (.tmp 14) (.tmp 15),none,[]⟩,⟨some 17,.load none (.tmp 16),none,[]⟩,⟨some 18,.bin .lss (.tmp 17) (.const (.int .i64 0)),none,[]⟩]) (.cond (.tmp 18) (.seq (.ops false [⟨some 6,.mov (.const (.bool false)),none,[]⟩]) .ret) .skip)) (.seq (.seq (.ops false [⟨some 8,.mov (.const (.int .i64 0)),none,[]⟩]) (.block 0 (some ⟨[],[1,2,3,7],[3]⟩) (.loop dk42_1 db42_1))) (.seq (.seq (.ops false [⟨some 10,.mov (.const (.int .i64 0)),none,[]⟩]) (.block 4 (some ⟨[],[],[3]⟩) (.loop dk42_2 db42_2))) (.seq (.ops false [⟨some 6,.mov (.const (.bool true)),none,[]⟩]) .ret)))))⟩
theorem dh42:cProg Go.Proofs.Tryz.prog ⟨[(0,⟨[],[1,2,3,7,8],[3]⟩),(2,⟨[],[1,2,3,7,8,9],[3]⟩),(4,⟨[],[1,2,3,7,10],[3]⟩)],[(2,⟨[],[1,2,3,7,8],[3]⟩),(1,⟨[],[1,2,3,7,8],[3]⟩),(0,⟨[],[1,2,3,7],[3]⟩),(4,⟨[],[],[3]⟩)],[]⟩ 42=some dc42:=by kernel_rfl
def dc114 : DFunc := ⟨16,3,[.tmp 6],.seq (.ops false [⟨some 3,.box 6 (.tmp 0),none,[]⟩,⟨some 6,.mov (.const (.int .i64 0)),none,[]⟩]) (.seq (.ops true [⟨some 7,.faddr 4 1 false (.tmp 3),none,[]⟩,⟨some 8,.load none (.tmp 7),none,[0]⟩,⟨some 9,.load (some 6) (.tmp 3),none,[]⟩,⟨some 10,.mov (.tmp 1),none,[]⟩,⟨some 11,.lit true 1 1 (.int .i64 0) [(0,(.tmp 10))],none,[3]⟩,⟨some 12,.mov (.tmp 1),none,[]⟩,⟨some 13,.mov (.tmp 2),none,[]⟩,⟨some 14,.call (.func 97) [.tmp 9,.tmp 11,.tmp 12,.tmp 13],none,[2,4,3,5,6]⟩,⟨some 15,.bin .mul (.tmp 8) (.tmp 14),none,[1,0,7,2,4,3,5,6]⟩,⟨some 6,.mov (.tmp 15),none,[8,1,0,7,2,4,3,5,6]⟩]) .ret)⟩
theorem dh114:cProg Go.Proofs.Tryz.prog ⟨[],[],[11]⟩ 114=some dc114:=by kernel_rfl
end Sh

namespace Sh
open Go
theorem maxF_snoc:∀ (l:List Int) (m x:Int),maxF m (l++[x])=max (maxF m l) x
 |[],m,x=>rfl
 |y :: r,m,x=>maxF_snoc r (max m y) x
def candW (s:Sn) (d k:Nat):Int:=s.price * sunS s 0 d (k+1) - s.cost+(planA s (d+k+1)).worth
def maxW (s:Sn) (d k:Nat):Int:=maxF (candW s d (s.days.length - d - 1)) (rng k (candW s d))
theorem maxW_succ (s:Sn) (d k:Nat):maxW s d (k+1)=max (maxW s d k) (candW s d k):=by unfold maxW;rw [rng_succ,maxF_snoc]
theorem maxW_all (s:Sn) (d:Nat) (hd:d < s.days.length):maxW s d (s.days.length - d - 1)=(planA s d).worth:=by
 obtain ⟨k,hk⟩:∃ k,s.days.length - d=k+1:=⟨s.days.length - d - 1,by omega⟩
 have ht:=tabF_eq s (k+1) (by omega)
 have ht2:=tabF_eq s k (by omega)
 have hdk:s.days.length - (k+1)=d:=by omega
 have h0:(tabF s (k+1)).getD 0 0=(planA s d).worth:=by
  rw [ht]
  unfold planA
  rw [hk]
  have hl:=plansF_len s (k+1)
  generalize plansF s (k+1)=l at *
  cases l with
  |nil=>cases hl
  |cons x r=>rfl
 rw [← h0]
 show _=maxF (candT s (s.days.length - (k+1)) (tabF s k) k) (rng k (candT s (s.days.length - (k+1)) (tabF s k)))
 rw [hdk]
 have hc:∀ j,j≤k→candT s d (tabF s k) j=candW s d j:=fun j hj=>by
  unfold candT candW
  have h1:=plansF_get s k j hj
  have h2:(tabF s k).getD j 0=(planA s (d+j+1)).worth:=by
   rw [ht2]
   unfold planA
   rw [show s.days.length - (d+j+1)=k - j by omega,← h1]
   have hl:j < (plansF s k).length:=by rw [plansF_len];omega
   simp [List.getD_eq_getElem?_getD,hl]
  rw [h2];rfl
 unfold maxW
 rw [hk,Nat.add_sub_cancel,hc k (Nat.le_refl _)]
 congr 1
 exact rng_congr fun j hj=>(hc j (by omega)).symm
theorem yld_from (s:Sn) (f t:Nat) (hf:f < s.days.length):sumI (((yldS s [(f:Int)]).drop f).take (t - f))=sunS s 0 f (t - f):=by
 have h:=soilF_one s f s.days 0 s.soil (Nat.zero_le _) (by omega)
 have e:yldS s [(f:Int)]=(lightF s s.soil s.days).take f++lightF s 0 (s.days.drop f):=h
 have hl:((lightF s s.soil s.days).take f).length=f:=by rw [List.length_take,lightF_len];omega
 unfold sunS
 rw [e,List.drop_append_of_le_length (by omega),List.drop_of_length_le (by omega),List.nil_append]
theorem yld_clean (s:Sn) (t:Nat):sumI (((yldS s []).drop 0).take (t - 0))=sunS s s.soil 0 t:=by
 unfold sunS;rw [yldS_nil];rfl
def rowT (s:Sn) (m:Nat):List Int:=rng (s.days.length+1) fun i=>if m≤i then (planA s i).worth else 0
theorem rowT_len (s:Sn) (m:Nat):(rowT s m).length=s.days.length+1:=rng_len _ _
theorem rowT_get (s:Sn) (m i:Nat) (h:i≤s.days.length):(rowT s m).getD i 0=if m≤i then (planA s i).worth else 0:=rng_getD _ _ (by omega)
theorem rowT_start (s:Sn):rowT s s.days.length=List.replicate (s.days.length+1) 0:=by
 rw [rng_const]
 refine rng_congr fun k hk=>?_
 by_cases h:s.days.length≤k
 ·rw [if_pos h,show k=s.days.length by omega,planA_last];rfl
 ·rw [if_neg h]
theorem rowT_set (s:Sn) (m:Nat):(rowT s (m+1)).set m (planA s m).worth=rowT s m:=by
 unfold rowT
 rw [rng_set]
 refine rng_congr fun k hk=>?_
 by_cases h1:k=m
 ·subst h1;rw [if_pos rfl,if_pos (Nat.le_refl _)]
 ·rw [if_neg h1]
  by_cases h2:m+1≤k
  ·rw [if_pos h2,if_pos (by omega)]
  ·rw [if_neg h2,if_neg (by omega)]
theorem rowT_all (s:Sn):rowT s 0=tableS s:=by
 unfold rowT tableS
 refine List.ext_getElem (by rw [rng_len,List.length_map];unfold plansS;rw [plansF_len]) fun i h1 h2=>?_
 have hi:i≤s.days.length:=by rw [rng_len] at h1;omega
 have h3:=plansS_at s i hi
 have hl:i < (plansS s).length:=by unfold plansS;rw [plansF_len];omega
 rw [List.getElem_map]
 have e1:=rng_getD (fun i=>if 0≤i then (planA s i).worth else 0) 0 (show i < s.days.length+1 by omega)
 rw [List.getD_eq_getElem?_getD,List.getElem?_eq_getElem h1] at e1
 refine Eq.trans e1 ?_
 rw [← h3]
 simp [List.getD_eq_getElem?_getD,hl]
theorem candW_bd {s:Sn} (hs:OkSn s) (d k:Nat) : -65000000≤candW s d k∧candW s d k≤416000000000:=by
 have b:=sunS_bd hs 0 (by omega) (by omega) d (k+1)
 have hp:=priced_bd hs b.1 b.2
 have hq:=planA_bd hs (d+k+1)
 have:=hs.c0
 have:=hs.c1
 unfold candW
 omega
end Sh

namespace Sh
open Go Go.Proofs
theorem r_part (s:Sn) (f t:Nat) (hs:OkSn s) (hft:f < t) (ht:t≤s.days.length):PC 114 [encS s,DV.int .i64 (f),DV.int .i64 (t)] (DV.int .i64 (s.price * sunS s 0 f (t - f))):=by
 have k1:=r_Sum s [(f:Int)] f t hs (by simp) (by omega) ht
 have hy:ySum s [(f:Int)] f t=sunS s 0 f (t - f):=yld_from s f t (by omega)
 rw [hy] at k1
 have b:=sunS_bd hs 0 (by omega) (by omega) f (t - f)
 have hp:=priced_bd hs b.1 b.2
 generalize sunS s 0 f (t - f)=A at *
 refine pureCall_ofR dh114 rfl ?_
 conv=>whnf
 repeat' (first
  |(refine ⟨fun hg=>?_,fun hg=>?_⟩<;>first|contradiction|(exfalso;revert hg;simp;done)|(exfalso;exact absurd (of_decide_eq_true hg) (by assumption))|(exfalso;exact absurd (by assumption) (of_decide_eq_false hg))|(conv=>whnf))
  |(refine Or.inl ?_;conv=>whnf)
  |(refine ⟨_,k1,?_⟩;conv=>whnf)
  |(refine And.intro ?_ ?_;kernel_rfl;conv=>whnf))
 rw [wrap_in (by omega) (by omega)];rfl
theorem r_Table (s:Sn) (hs:OkSn s):PC 40 [encS s] (iL (tableS s)):=by
 have e1:((s.days.map encD).length:Int)=s.days.length:=by simp
 have hn:=hs.n1
 have hn0:=hs.n0
 have hc0:=hs.c0
 have hc1:=hs.c1
 rw [← rowT_all]
 refine pureCall_ofR dh40 rfl ?_
 conv=>whnf
 rw [e1,wrap_succ _ (by omega),Int.toNat_natCast]
 refine ⟨⟨by omega,by omega,by omega,rfl,rfl⟩,?_⟩
 conv=>whnf
 rw [show List.replicate (s.days.length+1) (DV.int .i64 (0))=iD (rowT s s.days.length) from by rw [rowT_start];unfold iD;rw [List.map_replicate],show IntKind.i64.wrap ((s.days.length:Int) - 1)=(s.days.length:Int) - 1 from wrap_in (by omega) (by omega)]
 refine dwp_loopU (P:=Tryz.prog) (G:=GC) (k:=dk40_1) (b:=db40_1) (α:=Nat) (fun m=>[(5,DV.int .i64 ((m:Int) - 1))]) (fun m=>[(1,.box 6 (encS s)),(12,.row 1 (iD (rowT s m)) false)]) (fun m=>m≤s.days.length) (fun m=>m) s.days.length (Nat.le_refl _) ?_
 conv=>whnf
 refine ⟨rfl,rfl,?_⟩
 conv=>whnf
 refine ⟨rfl,?_⟩
 intro m h1
 conv=>whnf
 refine ⟨fun hb=>?_,fun hb=>?_⟩
 ·have hm:0 < m:=by have:=of_decide_eq_true hb;omega
  obtain ⟨d,rfl⟩:∃ d,m=d+1:=⟨m - 1,by omega⟩
  clear hb
  rw [show ((d+1:Nat):Int) - 1=(d:Int) by omega]
  have k1:=r_part s d s.days.length hs (by omega) (Nat.le_refl _)
  have hst:s.price * sunS s 0 d (s.days.length - d) - s.cost=maxW s d 0:=by
   show _=candW s d (s.days.length - d - 1)
   unfold candW
   rw [show s.days.length - d - 1+1=s.days.length - d by omega,show d+(s.days.length - d - 1)+1=s.days.length by omega,planA_last]
   show _=_+(0:Int)
   omega
  have b:=sunS_bd hs 0 (by omega) (by omega) d (s.days.length - d)
  have hp:=priced_bd hs b.1 b.2
  have hRl:=rowT_len s (d+1)
  have hset:=rowT_set s d
  have hall:=maxW_all s d (by omega)
  have hget:=fun i h=>rowT_get s (d+1) i h
  generalize sunS s 0 d (s.days.length - d)=A at *
  rw [← hall] at hset
  generalize rowT s (d+1)=R at *
  have hil:(iD R).length=s.days.length+1:=by rw [iD_len,hRl]
  conv=>whnf
  refine .inl ?_
  conv=>whnf
  refine ⟨_,k1 ..,?_⟩
  conv=>whnf
  rw [wrap_in (n:=s.price * A - s.cost) (by omega) (by omega),hst]
  refine ⟨⟨hil.symm,by omega,by omega⟩,?_⟩
  rw [Int.toNat_natCast,Nat.zero_add]
  conv=>whnf
  refine ⟨⟨hil.symm,by decide,rfl⟩,?_⟩
  conv=>whnf
  refine ⟨by kernel_rfl,?_⟩
  conv=>whnf
  rw [wrap_succ d (by omega)]
  refine dwp_loopU (P:=Tryz.prog) (G:=GC) (k:=dk40_0) (b:=db40_0) (α:=Nat) (fun k=>[(6,DV.int .i64 ((d+1+k:Nat)))]) (fun k=>[(1,.box 6 (encS s)),(12,.row 1 ((iD R).set (0+d) (DV.int .i64 (maxW s d k))) false)]) (fun k=>k≤s.days.length - d - 1) (fun k=>s.days.length - d - 1 - k) 0 (Nat.zero_le _) ?_
  conv=>whnf
  refine ⟨rfl,rfl,?_⟩
  conv=>whnf
  refine ⟨rfl,?_⟩
  intro k h1
  conv=>whnf
  refine ⟨fun hb=>?_,fun hb=>?_⟩
  ·have hk:d+1+k < s.days.length:=by have:=of_decide_eq_true hb;omega
   clear hb
   have k2:=r_part s d (d+1+k) hs (by omega) (by omega)
   rw [show d+1+k - d=k+1 by omega] at k2
   have hmx:=maxW_succ s d k
   have hcw:candW s d k=s.price * sunS s 0 d (k+1) - s.cost+(planA s (d+1+k)).worth:=by unfold candW;rw [show d+k+1=d+1+k by omega]
   have hcb:=candW_bd hs d k
   have b2:=sunS_bd hs 0 (by omega) (by omega) d (k+1)
   have hp2:=priced_bd hs b2.1 b2.2
   have hg2:=hget (d+1+k) (by omega)
   rw [if_pos (by omega)] at hg2
   have hgd:((iD R).set (0+d) (DV.int .i64 (maxW s d k))).getD d .undef=DV.int .i64 (maxW s d k):=by
    rw [Nat.zero_add];simp [List.getD_eq_getElem?_getD,hil,show d < s.days.length+1 by omega]
   have hgt:((iD R).set (0+d) (DV.int .i64 (maxW s d k))).getD (d+1+k) .undef=DV.int .i64 ((planA s (d+1+k)).worth):=by
    rw [Nat.zero_add,iD_set,iD_get _ _ (by rw [List.length_set,hRl];omega),← hg2]
    simp [List.getD_eq_getElem?_getD,show ¬ d=d+1+k by omega]
   have hsl:((iD R).set (0+d) (DV.int .i64 (maxW s d k))).length=s.days.length+1:=by rw [List.length_set,hil]
   have hss:((iD R).set (0+d) (DV.int .i64 (maxW s d k))).set (0+d) (DV.int .i64 (maxW s d (k+1)))=(iD R).set (0+d) (DV.int .i64 (maxW s d (k+1))):=by rw [List.set_set]
   generalize maxW s d k=M at *
   generalize hM':maxW s d (k+1)=M' at *
   generalize candW s d k=W at *
   generalize (planA s (d+1+k)).worth=q at *
   generalize sunS s 0 d (k+1)=B at *
   generalize hS:(iD R).set (0+d) (DV.int .i64 (M))=S at *
   conv=>whnf
   refine ⟨⟨hsl.symm,by omega,by omega⟩,?_⟩
   rw [Int.toNat_natCast,Nat.zero_add]
   conv=>whnf
   rw [hgd]
   refine ⟨⟨hsl.symm,by decide⟩,?_⟩
   conv=>whnf
   refine .inl ?_
   conv=>whnf
   refine ⟨_,k2 ..,?_⟩
   conv=>whnf
   rw [wrap_in (n:=s.price * B - s.cost) (by omega) (by omega)]
   refine ⟨⟨hsl.symm,by omega,by omega⟩,?_⟩
   rw [Int.toNat_natCast,Nat.zero_add (d+1+k)]
   conv=>whnf
   rw [hgt]
   refine ⟨⟨hsl.symm,by decide⟩,?_⟩
   conv=>whnf
   rw [wrap_in (n:=s.price * B - s.cost+q) (by omega) (by omega),← hcw,max_max,← hmx]
   refine ⟨⟨hsl.symm,by omega,by omega⟩,?_⟩
   rw [Int.toNat_natCast]
   conv=>whnf
   refine ⟨⟨hsl.symm,by decide,rfl⟩,?_⟩
   conv=>whnf
   refine ⟨by kernel_rfl,?_⟩
   conv=>whnf
   rw [wrap_succ (d+1+k) (by omega)]
   refine ⟨k+1,rfl,rfl,?_,by omega,by omega⟩
   rw [hM',show (iD R).set d (DV.int .i64 (M'))=S.set (0+d) (DV.int .i64 (M')) from by rw [hss,Nat.zero_add]];rfl
  ·have hk:d+1+k=s.days.length:=by have:=of_decide_eq_false hb;omega
   clear hb
   rw [show k=s.days.length - d - 1 by omega]
   have hfin:(iD R).set (0+d) (DV.int .i64 (maxW s d (s.days.length - d - 1)))=iD (rowT s d):=by rw [Nat.zero_add,iD_set,hset]
   conv=>whnf
   rw [show IntKind.i64.wrap ((d:Int) - 1)=(d:Int) - 1 from wrap_in (by omega) (by omega)]
   refine ⟨d,rfl,rfl,?_,by omega,by omega⟩
   rw [← hfin];rfl
 ·have hm:m=0:=by have:=of_decide_eq_false hb;omega
  subst hm
  clear hb
  have hRl:(iD (rowT s 0)).length=s.days.length+1:=by rw [iD_len,rowT_len]
  conv=>whnf
  refine ⟨hRl.symm,?_⟩
  rw [← hRl,window_full];rfl
end Sh

namespace Sh
open Go Go.Proofs
theorem r_CheckNumbers (s:Sn) (tb:List Int) (hn:s.days.length≤64) (hl:tb.length < 1073741824):PC 41 [encS s,iL tb] (DV.int .i64 (chkTb s tb)):=by
 have e0:((tb.map (DV.int .i64)).length:Int)=tb.length:=by simp
 have e1:((s.days.map encD).length:Int)=s.days.length:=by simp
 refine pureCall_ofR dh41 rfl ?_
 conv=>whnf
 rw [e0,e1,wrap_succ _ (by omega)]
 refine ⟨fun hg=>?_,fun hg=>?_⟩
 ·have hg:=of_decide_eq_true hg
  conv=>whnf
  exact int_eq (by unfold chkTb;rw [if_pos (by omega)])
 ·have hg:=of_decide_eq_false hg
  have hk:chkTb s tb=firstE ((tb.map tbE).drop 0):=by unfold chkTb;rw [if_neg (by omega)];rfl
  clear hg
  conv=>whnf
  refine dwp_loopU (P:=Tryz.prog) (G:=GC) (k:=dk41_0) (b:=db41_0) (α:=Nat) (fun i=>[(5,DV.int .i64 (i))]) (fun _=>[(2,.box 6 (encS s))]) (fun i=>i≤tb.length∧chkTb s tb=firstE ((tb.map tbE).drop i)) (fun i=>tb.length - i) 0 ⟨Nat.zero_le _,hk⟩ ?_
  conv=>whnf
  refine ⟨rfl,rfl,?_⟩
  conv=>whnf
  refine ⟨rfl,?_⟩
  intro i ⟨h1,h2⟩
  conv=>whnf
  refine ⟨fun hb=>?_,fun hb=>?_⟩
  ·have hi:i < tb.length:=by simpa using hb
   have hd:=firstE_drop (tb.map tbE) i (by simpa using hi)
   rw [show (tb.map tbE).getD i 0=tbE (tb.getD i 0) by simp [List.getD_eq_getElem?_getD,hi]] at hd
   clear hb
   conv=>whnf
   rw [getD_enc _ _ (i) 0 hi]
   refine ⟨idxA hi rfl,?_⟩
   conv=>whnf
   repeat' (first
    |(refine ⟨fun hg=>?_,fun hg=>?_⟩<;>first|contradiction|(conv=>whnf))
    |(refine Or.inl ?_;conv=>whnf)
    |(refine ⟨_,q_CheckRange ..,?_⟩;conv=>whnf)
    |(refine And.intro ?_ ?_;kernel_rfl;conv=>whnf))
   ·have hg:tbE (tb.getD i 0)≠0:=of_decide_eq_true hg
    rw [if_pos hg] at hd
    exact int_eq (by rw [h2,hd];rfl)
   ·have hg:¬ tbE (tb.getD i 0)≠0:=of_decide_eq_false hg
    rw [if_neg hg] at hd
    rw [wrap_succ i (by omega)]
    exact ⟨i+1,rfl,rfl,rfl,⟨hi,by rw [h2,hd]⟩,by omega⟩
  ·have hi:i=tb.length:=by have:=of_decide_eq_false hb;rw [e0] at this;omega
   clear hb
   conv=>whnf
   exact int_eq (by rw [h2,hi,List.drop_of_length_le (by simp)];rfl)
theorem r_Proves (s:Sn) (tb:List Int) (v:Int) (hs:OkSn s) (htl:tb.length=s.days.length+1) (htb:∀ x ∈ tb,-100000000000≤x∧x≤100000000000):PC 42 [encS s,iL tb,DV.int .i64 (v)] (.bool (prvB s tb v)):=by
 have hn:=hs.n1
 have hc0:=hs.c0
 have hc1:=hs.c1
 have e0:((tb.map (DV.int .i64)).length:Int)=tb.length:=by simp
 have e1:((s.days.map encD).length:Int)=s.days.length:=by simp
 have hx:∀ i,i≤s.days.length → -100000000000≤tb.getD i 0∧tb.getD i 0≤100000000000:=fun i hi=>htb _ (getD_in 0 (by omega))
 refine pureCall_ofR dh42 rfl ?_
 conv=>whnf
 rw [e1]
 rw [getD_enc _ _ (s.days.length) 0 (by omega:s.days.length < tb.length)]
 refine ⟨idxA (by omega:s.days.length < tb.length) rfl,?_⟩
 conv=>whnf
 refine ⟨fun hg=>?_,fun hg=>?_⟩
 ·have hg:=of_decide_eq_true hg
  conv=>whnf
  exact bool_eq (prvB_no (fun h=>by have:=h.1;omega)).symm
 ·have hg0:=of_decide_eq_false hg
  clear hg
  conv=>whnf
  refine dwp_loopU (P:=Tryz.prog) (G:=GC) (k:=dk42_1) (b:=db42_1) (α:=Nat) (fun f=>[(8,DV.int .i64 (f))]) (fun f=>[(3,.box 6 (encS s))]) (fun f=>f≤s.days.length∧∀ d,d < f→∀ k,k < s.days.length - d→CP s tb d k) (fun f=>s.days.length - f) 0 ⟨Nat.zero_le _,fun d h=>by omega⟩ ?_
  conv=>whnf
  refine ⟨rfl,rfl,?_⟩
  conv=>whnf
  refine ⟨rfl,?_⟩
  intro f ⟨h1,h2⟩
  conv=>whnf
  refine ⟨fun hb=>?_,fun hb=>?_⟩
  ·have hf:f < s.days.length:=by have:=of_decide_eq_true hb;omega
   clear hb
   conv=>whnf
   rw [wrap_succ f (by omega)]
   refine dwp_loopU (P:=Tryz.prog) (G:=GC) (k:=dk42_0) (b:=db42_0) (α:=Nat) (fun k=>[(9,DV.int .i64 ((f+1+k:Nat)))]) (fun k=>[(3,.box 6 (encS s))]) (fun k=>k≤s.days.length - f∧∀ j,j < k→CP s tb f j) (fun k=>s.days.length - f - k) 0 ⟨Nat.zero_le _,fun d h=>by omega⟩ ?_
   conv=>whnf
   refine ⟨rfl,rfl,?_⟩
   conv=>whnf
   refine ⟨rfl,?_⟩
   intro k ⟨h3,h4⟩
   conv=>whnf
   refine ⟨fun hb=>?_,fun hb=>?_⟩
   ·have hk:f+1+k≤s.days.length:=by have:=of_decide_eq_true hb;omega
    clear hb
    have k2:=r_part s f (f+1+k) hs (by omega) hk
    rw [show f+1+k - f=k+1 by omega] at k2
    have b2:=sunS_bd hs 0 (by omega) (by omega) f (k+1)
    have hp2:=priced_bd hs b2.1 b2.2
    have hq:=hx (f+1+k) hk
    have hcp:CP s tb f k ↔ s.price * sunS s 0 f (k+1) - s.cost+tb.getD (f+1+k) 0≤tb.getD f 0:=by unfold CP;rw [show f+k+1=f+1+k by omega]
    generalize sunS s 0 f (k+1)=B at *
    conv=>whnf
    rw [getD_enc _ _ (f) 0 (by omega:f < tb.length)]
    refine ⟨idxA (by omega:f < tb.length) rfl,?_⟩
    conv=>whnf
    refine .inl ?_
    conv=>whnf
    refine ⟨_,k2 ..,?_⟩
    conv=>whnf
    rw [getD_enc _ _ (f+1+k) 0 (by omega)]
    refine ⟨idxA (by omega) rfl,?_⟩
    conv=>whnf
    rw [wrap_in (n:=s.price * B - s.cost) (by omega) (by omega),wrap_in (n:=s.price * B - s.cost+_) (by omega) (by omega)]
    refine ⟨by kernel_rfl,?_⟩
    conv=>whnf
    refine ⟨fun hg=>?_,fun hg=>?_⟩
    ·have hg:=of_decide_eq_true hg
     conv=>whnf
     exact bool_eq (prvB_no (fun h=>by have:=hcp.1 (h.2.1 f hf k (by omega));omega)).symm
    ·have hg:=of_decide_eq_false hg
     conv=>whnf
     rw [wrap_succ (f+1+k) (by omega)]
     refine ⟨k+1,rfl,rfl,rfl,⟨by omega,fun j hj=>?_⟩,by omega⟩
     by_cases h:j=k
     ·subst h;exact hcp.2 (by omega)
     ·exact h4 j (by omega)
   ·have hk:f+1+k=s.days.length+1:=by have:=of_decide_eq_false hb;omega
    clear hb
    conv=>whnf
    rw [wrap_succ f (by omega)]
    refine ⟨f+1,rfl,rfl,rfl,⟨hf,fun d hd j hj=>?_⟩,by omega⟩
    by_cases h:d=f
    ·subst h;exact h4 j (by omega)
    ·exact h2 d (by omega) j hj
  ·have hf:f=s.days.length:=by have:=of_decide_eq_false hb;omega
   subst hf
   clear hb
   conv=>whnf
   refine dwp_loopU (P:=Tryz.prog) (G:=GC) (k:=dk42_2) (b:=db42_2) (α:=Nat) (fun t=>[(10,DV.int .i64 (t))]) (fun t=>[(3,.box 6 (encS s))]) (fun t=>t≤s.days.length+1∧∀ j,j < t→DP s tb v j) (fun t=>s.days.length+1 - t) 0 ⟨Nat.zero_le _,fun d h=>by omega⟩ ?_
   conv=>whnf
   refine ⟨rfl,rfl,?_⟩
   conv=>whnf
   refine ⟨rfl,?_⟩
   intro t ⟨h3,h4⟩
   conv=>whnf
   refine ⟨fun hb=>?_,fun hb=>?_⟩
   ·have ht:t≤s.days.length:=by have:=of_decide_eq_true hb;omega
    clear hb
    have k2:=r_Sum s [] 0 t hs (by simp) (Nat.zero_le _) ht
    have hy:ySum s [] 0 t=sunS s s.soil 0 t:=yld_clean s t
    rw [hy] at k2
    have b2:=sunS_bd hs s.soil hs.s0 hs.s1 0 t
    have hp2:=priced_bd hs b2.1 b2.2
    have hq:=hx t ht
    have hdp:DP s tb v t ↔ s.price * sunS s s.soil 0 t+tb.getD t 0≤v:=Iff.rfl
    generalize sunS s s.soil 0 t=B at *
    conv=>whnf
    refine .inl ?_
    conv=>whnf
    refine ⟨_,k2 ..,?_⟩
    conv=>whnf
    rw [getD_enc _ _ (t) 0 (by omega:t < tb.length)]
    refine ⟨idxA (by omega:t < tb.length) rfl,?_⟩
    conv=>whnf
    rw [wrap_in (n:=s.price * B) (by omega) (by omega),wrap_in (n:=s.price * B+_) (by omega) (by omega)]
    refine ⟨by kernel_rfl,?_⟩
    conv=>whnf
    refine ⟨fun hg=>?_,fun hg=>?_⟩
    ·have hg:=of_decide_eq_true hg
     conv=>whnf
     exact bool_eq (prvB_no (fun h=>by have:=hdp.1 (h.2.2 t ht);omega)).symm
    ·have hg:=of_decide_eq_false hg
     conv=>whnf
     rw [wrap_succ t (by omega)]
     refine ⟨t+1,rfl,rfl,rfl,⟨by omega,fun j hj=>?_⟩,by omega⟩
     by_cases h:j=t
     ·subst h;exact hdp.2 (by omega)
     ·exact h4 j (by omega)
   ·have ht:t=s.days.length+1:=by have:=of_decide_eq_false hb;omega
    clear hb
    conv=>whnf
    exact bool_eq (prvB_yes ⟨by omega,h2,fun j hj=>h4 j (by omega)⟩).symm
end Sh

namespace Sh
open Go
def dc19 : DFunc := ⟨17,1,[.cell 2 (some 6)],.seq (.ops false [⟨some 1,.box 6 (.tmp 0),none,[]⟩,⟨some 2,.alloc (.agg [.int .i64 0,.int .i64 0,.int .i64 0,.full [],.int .i64 0,.int .i64 0]) 6,none,[]⟩]) (.seq (.ops true [⟨some 3,.faddr 0 1 false (.tmp 1),none,[]⟩,⟨some 4,.load none (.tmp 3),none,[0]⟩,⟨some 5,.faddr 1 1 false (.tmp 1),none,[]⟩,⟨some 6,.load none (.tmp 5),none,[2]⟩,⟨some 7,.faddr 2 1 false (.tmp 1),none,[]⟩,⟨some 8,.load none (.tmp 7),none,[4]⟩,⟨some 9,.faddr 3 1 false (.tmp 1),none,[]⟩,⟨some 10,.load none (.tmp 9),none,[6]⟩,⟨some 11,.call (.func 29) [.tmp 10],none,[7,6]⟩,⟨some 12,.faddr 4 1 false (.tmp 1),none,[]⟩,⟨some 13,.load none (.tmp 12),none,[9]⟩,⟨some 14,.faddr 5 1 false (.tmp 1),none,[]⟩,⟨some 15,.load none (.tmp 14),none,[11]⟩,⟨some 16,.build [.int .i64 0,.int .i64 0,.int .i64 0,.full [],.int .i64 0,.int .i64 0] [(0,(1,(.tmp 4))),(1,(1,(.tmp 6))),(2,(1,(.tmp 8))),(3,(1,(.tmp 11))),(4,(1,(.tmp 13))),(5,(1,(.tmp 15)))],none,[1,0,3,2,5,4,8,7,6,10,9,12,11]⟩,⟨none,.store 6 (.tmp 2) (.tmp 16),none,[13,1,0,3,2,5,4,8,7,6,10,9,12,11]⟩]) .ret)⟩
theorem dh19:cProg Go.Proofs.Tryz.prog ⟨[],[],[]⟩ 19=some dc19:=by kernel_rfl
def dc20 : DFunc := ⟨6,1,[.tmp 2],.seq (.ops false [⟨some 2,.mov (.const (.slice none 0 0)),none,[]⟩]) (.seq (.ops false [⟨some 3,.lit true 1 0 (.int .i64 0) [],none,[]⟩,⟨some 4,.mov (.tmp 0),none,[]⟩,⟨some 5,.append true 1 (.tmp 3) (.tmp 4),none,[]⟩,⟨some 2,.mov (.tmp 5),none,[]⟩]) .ret)⟩
theorem dh20:cProg Go.Proofs.Tryz.prog ⟨[],[],[3,5]⟩ 20=some dc20:=by kernel_rfl
def db29_0 : DC := (.seq (.ops false [⟨some 9,.bin .lss (.tmp 8) (.tmp 7),none,[]⟩]) (.seq (.cond (.tmp 9) .skip (.exit 0)) (.seq (.block 1 none (.seq (.ops false [⟨some 10,.iaddr 3 (.tmp 6) (.tmp 8),none,[]⟩,⟨some 11,.load (some 3) (.tmp 10),none,[]⟩,⟨some 5,.alloc (.agg [.int .i64 0,.int .i64 0,.int .i64 0]) 3,none,[]⟩,⟨none,.store 3 (.tmp 5) (.tmp 11),none,[]⟩]) (.ops false [⟨some 12,.mov (.tmp 3),none,[]⟩,⟨some 13,.load (some 3) (.tmp 5),none,[]⟩,⟨some 14,.lit true 3 1 (.agg [.int .i64 0,.int .i64 0,.int .i64 0]) [(0,(.tmp 13))],none,[]⟩,⟨some 15,.append false 3 (.tmp 12) (.tmp 14),none,[]⟩,⟨some 3,.mov (.tmp 15),none,[]⟩]))) (.ops false [⟨some 16,.bin .add (.tmp 8) (.const (.int .i64 1)),none,[]⟩,⟨some 8,.mov (.tmp 16),none,[]⟩]))))
def dk29_0 : Keep := ⟨[(3,3)],[3,6,7,8],[3]⟩
def dc29 : DFunc := ⟨18,1,[.tmp 2],.seq (.ops false [⟨some 2,.mov (.const (.slice none 0 0)),none,[]⟩]) (.seq (.ops false [⟨some 3,.mov (.const (.slice none 0 0)),none,[]⟩]) (.seq (.seq (.ops false [⟨some 6,.mov (.tmp 0),none,[]⟩,⟨some 7,.len (.tmp 6),none,[]⟩,⟨some 8,.mov (.const (.int .i64 0)),none,[]⟩]) (.block 0 (some ⟨[],[3],[3]⟩) (.loop dk29_0 db29_0))) (.seq (.ops false [⟨some 17,.mov (.tmp 3),none,[]⟩,⟨some 2,.mov (.tmp 17),none,[]⟩]) .ret)))⟩
theorem dh29:cProg Go.Proofs.Tryz.prog ⟨[(0,⟨[(3,3)],[3,6,7,8],[3]⟩)],[(0,⟨[],[3],[3]⟩)],[14]⟩ 29=some dc29:=by kernel_rfl
end Sh

namespace Sh
open Go Go.Proofs
theorem l_given (l:List Dy) (hl:l.length < 1073741824):PC 29 [.list (l.map encD)] (.list (l.map encD)):=by
 have e0:((l.map encD).length:Int)=l.length:=by simp
 refine pureCall_ofR dh29 rfl ?_
 conv=>whnf
 refine dwp_loopU (P:=Tryz.prog) (G:=GC) (k:=dk29_0) (b:=db29_0) (α:=Nat) (fun i=>[(3,.own 3 0 ((l.take i).map encD).length ((l.take i).map encD).length),(8,DV.int .i64 (i))]) (fun i=>[(3,.row 3 ((l.take i).map encD) false)]) (fun i=>i≤l.length) (fun i=>l.length - i) 0 (Nat.zero_le _) ?_
 conv=>whnf
 refine ⟨rfl,rfl,?_⟩
 conv=>whnf
 refine ⟨rfl,?_⟩
 intro i h1
 conv=>whnf
 refine ⟨fun hb=>?_,fun hb=>?_⟩
 ·have hi:i < l.length:=by simpa using hb
  clear hb
  have hs:(l.take (i+1)).map encD=(l.take i).map encD++[encD (l.getD i D0)]:=by rw [take_snoc l i D0 hi,List.map_append];rfl
  have hln:((l.take i).map encD).length=i:=by simp;omega
  generalize hR':(l.take (i+1)).map encD=R' at *
  generalize hR:(l.take i).map encD=R at *
  conv=>whnf
  rw [getD_enc _ _ (i) D0 hi]
  refine ⟨idxA hi rfl,?_⟩
  conv=>whnf
  refine ⟨⟨rfl,rfl,rfl,by rw [hln];simp;omega,fun e he=>by simp at he;subst he;rfl⟩,?_⟩
  conv=>whnf
  rw [wrap_succ i (by omega)]
  refine ⟨i+1,rfl,?_,?_,hi,by omega⟩
  ·rw [hR',hs];rfl
  ·rw [hR',hs];rfl
 ·have hi:i=l.length:=by have:=of_decide_eq_false hb;rw [e0] at this;omega
  clear hb
  rw [hi,List.take_length]
  conv=>whnf
  refine ⟨rfl,?_⟩
  rw [window_full]
  first|rfl|(show DV.list _=_;rfl)
theorem l_own (s:Sn) (hl:s.days.length < 1073741824):PC 19 [encS s] (encS s):=by
 have k1:PC 29 [dysV s.days] (dysV s.days):=l_given s.days hl
 refine pureCall_ofR dh19 rfl ?_
 conv=>whnf
 refine .inl ?_
 conv=>whnf
 refine ⟨_,k1 ..,?_⟩
 conv=>whnf
 refine ⟨by kernel_rfl,?_⟩
 conv=>whnf
 rfl
theorem l_ints (l:List Int) (hl:l.length < 1073741824):PC 20 [iL l] (iL l):=by
 refine pureCall_ofR dh20 rfl ?_
 conv=>whnf
 refine ⟨⟨by simp;omega,fun e he=>iD_ok l e he,fun e he=>by simp at he⟩,?_⟩
 conv=>whnf
 rfl
end Sh

namespace Sh
open Go
end Sh

set_option maxHeartbeats 2000000
namespace Sh
open Go Go.Proofs
end Sh

namespace Sh
open Go
def dc6 : DFunc := ⟨67,3,[.tmp 6],.seq (.ops false [⟨some 3,.box 6 (.tmp 0),none,[]⟩,⟨some 6,.mov (.const (.bool false)),none,[]⟩]) (.seq (.seq (.ops false [⟨some 12,.load (some 6) (.tmp 3),none,[]⟩,⟨some 13,.call (.func 15) [.tmp 12],none,[]⟩,⟨some 14,.un .not (.tmp 13),none,[]⟩,⟨some 15,.mov (.tmp 14),none,[]⟩,⟨some 16,.mov (.tmp 1),some (15,false),[]⟩,⟨some 17,.len (.tmp 16),some (15,false),[]⟩,⟨some 18,.bin .gtr (.tmp 17) (.const (.int .i64 14)),some (15,false),[]⟩,⟨some 19,.pick (.tmp 15) (.const (.bool true)) (.tmp 18),none,[]⟩]) (.cond (.tmp 19) (.seq (.ops false [⟨some 20,.call (.func 17) [],none,[]⟩,⟨some 6,.mov (.tmp 20),none,[]⟩]) .ret) .skip)) (.seq (.ops false [⟨some 22,.load (some 6) (.tmp 3),none,[]⟩,⟨some 23,.call (.func 19) [.tmp 22],none,[]⟩,⟨some 24,.call (.func 39) [.tmp 23],none,[]⟩,⟨some 21,.mov (.tmp 24),none,[]⟩,⟨some 25,.extract (.tmp 21) 0,none,[]⟩,⟨some 26,.extract (.tmp 21) 1,none,[]⟩,⟨some 7,.mov (.tmp 25),none,[]⟩,⟨some 8,.mov (.tmp 26),none,[]⟩]) (.seq (.ops false [⟨some 27,.load (some 6) (.tmp 3),none,[]⟩,⟨some 28,.call (.func 23) [.tmp 27],none,[]⟩,⟨some 9,.mov (.tmp 28),none,[]⟩]) (.seq (.ops false [⟨some 29,.mov (.tmp 9),none,[]⟩,⟨some 10,.mov (.tmp 29),none,[]⟩]) (.seq (.ops false [⟨some 11,.mov (.const (.slice none 0 0)),none,[]⟩]) (.seq (.seq (.ops false [⟨some 30,.mov (.tmp 9),none,[]⟩,⟨some 31,.bin .eql (.tmp 30) (.const (.int .i64 0)),none,[]⟩]) (.cond (.tmp 31) (.seq (.ops false [⟨some 32,.load (some 6) (.tmp 3),none,[]⟩,⟨some 33,.call (.func 40) [.tmp 32],none,[]⟩,⟨some 11,.mov (.tmp 33),none,[]⟩]) (.seq (.ops false [⟨some 34,.load (some 6) (.tmp 3),none,[]⟩,⟨some 35,.mov (.tmp 1),none,[]⟩,⟨some 36,.call (.func 41) [.tmp 34,.tmp 35],none,[]⟩,⟨some 10,.mov (.tmp 36),none,[]⟩]) (.seq (.ops false [⟨some 37,.mov (.tmp 10),none,[]⟩,⟨some 38,.bin .eql (.tmp 37) (.const (.int .i64 0)),none,[]⟩,⟨some 39,.mov (.tmp 38),none,[]⟩,⟨some 40,.load (some 6) (.tmp 3),some (39,true),[]⟩,⟨some 41,.mov (.tmp 1),some (39,true),[]⟩,⟨some 42,.mov (.tmp 2),some (39,true),[]⟩,⟨some 43,.call (.func 42) [.tmp 40,.tmp 41,.tmp 42],some (39,true),[]⟩,⟨some 44,.un .not (.tmp 43),some (39,true),[]⟩,⟨some 45,.pick (.tmp 39) (.tmp 44) (.const (.bool false)),none,[]⟩]) (.cond (.tmp 45) (.ops false [⟨some 10,.mov (.const (.int .i64 19)),none,[]⟩]) .skip)))) .skip)) (.seq (.ops false [⟨some 46,.mov (.tmp 7),none,[]⟩,⟨some 47,.mov (.tmp 11),none,[]⟩,⟨some 48,.call (.func 32) [.tmp 46,.tmp 47],none,[]⟩,⟨some 49,.mov (.tmp 48),none,[]⟩,⟨some 50,.mov (.tmp 8),some (49,true),[]⟩,⟨some 51,.mov (.tmp 9),some (49,true),[]⟩,⟨some 52,.bin .eql (.tmp 50) (.tmp 51),some (49,true),[]⟩,⟨some 53,.pick (.tmp 49) (.tmp 52) (.const (.bool false)),none,[]⟩,⟨some 54,.mov (.tmp 53),none,[]⟩,⟨some 55,.load (some 6) (.tmp 3),some (54,true),[]⟩,⟨some 56,.call (.func 19) [.tmp 55],some (54,true),[]⟩,⟨some 57,.mov (.tmp 1),some (54,true),[]⟩,⟨some 58,.call (.func 20) [.tmp 57],some (54,true),[]⟩,⟨some 59,.mov (.tmp 2),some (54,true),[]⟩,⟨some 60,.call (.func 43) [.tmp 56,.tmp 58,.tmp 59],some (54,true),[]⟩,⟨some 61,.mov (.tmp 10),some (54,true),[]⟩,⟨some 62,.bin .eql (.tmp 60) (.tmp 61),some (54,true),[]⟩,⟨some 63,.pick (.tmp 54) (.tmp 62) (.const (.bool false)),none,[]⟩,⟨some 64,.mov (.tmp 63),none,[]⟩,⟨some 65,.call (.func 17) [],some (64,true),[]⟩,⟨some 66,.pick (.tmp 64) (.tmp 65) (.const (.bool false)),none,[]⟩,⟨some 6,.mov (.tmp 66),none,[]⟩]) .ret)))))))⟩
theorem dh6:cProg Go.Proofs.Tryz.prog ⟨[],[],[]⟩ 6=some dc6:=by kernel_rfl
end Sh

namespace Sh
open Go Go.Proofs
theorem l_WashTables (aw:PC 17 [] (.bool true)) (s:Sn) (tb:List Int) (v:Int):PC 6 [encS s,iL tb,DV.int .i64 (v)] (.bool true):=by
 have kS:=r_Short s
 have e0:((tb.map (DV.int .i64)).length:Int)=tb.length:=by simp
 by_cases hsh:shB s.days.length=true
 case neg =>
  have hsh:shB s.days.length=false:=by simpa using hsh
  rw [hsh] at kS
  refine pureCall_ofR dh6 rfl ?_
  conv=>whnf
  repeat' (first
   |(refine ⟨fun hg=>?_,fun hg=>?_⟩<;>first|contradiction|(conv=>whnf))
   |(refine Or.inl ?_;conv=>whnf)
   |(refine ⟨_,kS ..,?_⟩;conv=>whnf)
   |(refine ⟨_,aw ..,?_⟩;conv=>whnf)
   |(refine And.intro ?_ ?_;kernel_rfl;conv=>whnf))
  all_goals rfl
 case pos =>
 have hl:=shB_spec hsh
 rw [hsh] at kS
 clear hsh
 by_cases h14:(14:Int) < ((tb.map (DV.int .i64)).length:Int)
 case pos =>
  refine pureCall_ofR dh6 rfl ?_
  conv=>whnf
  repeat' (first
   |(rw [decide_eq_true h14];conv=>whnf)
   |(refine ⟨fun hg=>?_,fun hg=>?_⟩<;>first|contradiction|(exfalso;revert hg;simp;done)|(exfalso;exact absurd (of_decide_eq_true hg) (by assumption))|(exfalso;exact absurd (by assumption) (of_decide_eq_false hg))|(conv=>whnf))
   |(refine Or.inl ?_;conv=>whnf)
   |(refine ⟨_,kS,?_⟩;conv=>whnf)
   |(refine ⟨_,aw,?_⟩;conv=>whnf)
   |(refine And.intro ?_ ?_;kernel_rfl;conv=>whnf))
  all_goals rfl
 case neg =>
 have a1:=l_own s (by omega)
 have a2:=l_ints tb (by omega)
 have b1:=c_Table s (by omega)
 have b2:=c_CheckTable s tb v (by omega) (by omega)
 have c1:=r_CheckSeason s (by omega)
 have d0:PC 32 [.list [],.list []] (.bool true):=by have:=q_SameInts [] [] (by decide);rwa [dec_same] at this
 by_cases h1:chkSn s=0
 ·have hs:OkSn s:=chkSn_zero h1
  have hn:=hs.n1
  rw [h1] at b1 c1
  rw [optL_z] at b1
  have e1:=r_Table s hs
  have e2:=r_CheckNumbers s tb hn (by omega)
  have d1:=q_SameInts (tableS s) (tableS s) (by unfold tableS;rw [List.length_map];unfold plansS;rw [plansF_len];omega)
  rw [dec_same] at d1
  generalize tableS s=T at *
  by_cases h2:chkTb s tb=0
  ·obtain ⟨t1,t2⟩:=chkTb_ok h2
   have e3:=r_Proves s tb v hs t1 t2
   have hv:chkTV s tb v=if prvB s tb v=true then 0 else 19:=by unfold chkTV;rw [if_neg (by omega),if_neg (by omega)]
   rw [h2] at e2
   rw [hv] at b2
   cases hp:prvB s tb v with
   |true =>
    rw [hp,if_pos rfl] at b2
    rw [hp] at e3
    refine pureCall_ofR dh6 rfl ?_
    conv=>whnf
    repeat' (first
     |(rw [decide_eq_false h14];conv=>whnf)
     |(refine ⟨fun hg=>?_,fun hg=>?_⟩<;>first|contradiction|(exfalso;revert hg;simp;done)|(exfalso;exact absurd (of_decide_eq_true hg) (by assumption))|(exfalso;exact absurd (by assumption) (of_decide_eq_false hg))|(conv=>whnf))
     |(refine Or.inl ?_;conv=>whnf)
     |(refine ⟨_,kS,?_⟩;conv=>whnf)
     |(refine ⟨_,a1,?_⟩;conv=>whnf)
     |(refine ⟨_,a2,?_⟩;conv=>whnf)
     |(refine ⟨_,b1,?_⟩;conv=>whnf)
     |(refine ⟨_,b2,?_⟩;conv=>whnf)
     |(refine ⟨_,c1,?_⟩;conv=>whnf)
     |(refine ⟨_,e1,?_⟩;conv=>whnf)
     |(refine ⟨_,e2,?_⟩;conv=>whnf)
     |(refine ⟨_,e3,?_⟩;conv=>whnf)
     |(refine ⟨_,d1,?_⟩;conv=>whnf)
     |(refine ⟨_,aw,?_⟩;conv=>whnf)
     |(refine And.intro ?_ ?_;kernel_rfl;conv=>whnf))
    all_goals rfl
   |false =>
    rw [hp,if_neg (by decide)] at b2
    rw [hp] at e3
    refine pureCall_ofR dh6 rfl ?_
    conv=>whnf
    repeat' (first
     |(rw [decide_eq_false h14];conv=>whnf)
     |(refine ⟨fun hg=>?_,fun hg=>?_⟩<;>first|contradiction|(exfalso;revert hg;simp;done)|(exfalso;exact absurd (of_decide_eq_true hg) (by assumption))|(exfalso;exact absurd (by assumption) (of_decide_eq_false hg))|(conv=>whnf))
     |(refine Or.inl ?_;conv=>whnf)
     |(refine ⟨_,kS,?_⟩;conv=>whnf)
     |(refine ⟨_,a1,?_⟩;conv=>whnf)
     |(refine ⟨_,a2,?_⟩;conv=>whnf)
     |(refine ⟨_,b1,?_⟩;conv=>whnf)
     |(refine ⟨_,b2,?_⟩;conv=>whnf)
     |(refine ⟨_,c1,?_⟩;conv=>whnf)
     |(refine ⟨_,e1,?_⟩;conv=>whnf)
     |(refine ⟨_,e2,?_⟩;conv=>whnf)
     |(refine ⟨_,e3,?_⟩;conv=>whnf)
     |(refine ⟨_,d1,?_⟩;conv=>whnf)
     |(refine ⟨_,aw,?_⟩;conv=>whnf)
     |(refine And.intro ?_ ?_;kernel_rfl;conv=>whnf))
    all_goals rfl
  ·have hv:chkTV s tb v=chkTb s tb:=by unfold chkTV;rw [if_neg (by omega),if_pos h2]
   rw [hv] at b2
   generalize chkTb s tb=E at *
   refine pureCall_ofR dh6 rfl ?_
   conv=>whnf
   repeat' (first
    |(rw [decide_eq_false h14];conv=>whnf)
    |(refine ⟨fun hg=>?_,fun hg=>?_⟩<;>first|contradiction|(exfalso;revert hg;simp;done)|(exfalso;exact absurd (of_decide_eq_true hg) (by assumption))|(exfalso;exact absurd (by assumption) (of_decide_eq_false hg))|(conv=>whnf))
    |(refine Or.inl ?_;conv=>whnf)
    |(refine ⟨_,kS,?_⟩;conv=>whnf)
    |(refine ⟨_,a1,?_⟩;conv=>whnf)
    |(refine ⟨_,a2,?_⟩;conv=>whnf)
    |(refine ⟨_,b1,?_⟩;conv=>whnf)
    |(refine ⟨_,b2,?_⟩;conv=>whnf)
    |(refine ⟨_,c1,?_⟩;conv=>whnf)
    |(refine ⟨_,e1,?_⟩;conv=>whnf)
    |(refine ⟨_,e2,?_⟩;conv=>whnf)
    |(refine ⟨_,d1,?_⟩;conv=>whnf)
    |(refine ⟨_,aw,?_⟩;conv=>whnf)
    |(refine And.intro ?_ ?_;kernel_rfl;conv=>whnf))
   all_goals rfl
 ·have hv:chkTV s tb v=chkSn s:=by unfold chkTV;rw [if_pos h1]
  rw [hv] at b2
  rw [optL_n h1] at b1
  generalize chkSn s=E at *
  refine pureCall_ofR dh6 rfl ?_
  conv=>whnf
  repeat' (first
   |(rw [decide_eq_false h14];conv=>whnf)
   |(refine ⟨fun hg=>?_,fun hg=>?_⟩<;>first|contradiction|(exfalso;revert hg;simp;done)|(exfalso;exact absurd (of_decide_eq_true hg) (by assumption))|(exfalso;exact absurd (by assumption) (of_decide_eq_false hg))|(conv=>whnf))
   |(refine Or.inl ?_;conv=>whnf)
   |(refine ⟨_,kS,?_⟩;conv=>whnf)
   |(refine ⟨_,a1,?_⟩;conv=>whnf)
   |(refine ⟨_,a2,?_⟩;conv=>whnf)
   |(refine ⟨_,b1,?_⟩;conv=>whnf)
   |(refine ⟨_,b2,?_⟩;conv=>whnf)
   |(refine ⟨_,c1,?_⟩;conv=>whnf)
   |(refine ⟨_,d0,?_⟩;conv=>whnf)
   |(refine ⟨_,aw,?_⟩;conv=>whnf)
   |(refine And.intro ?_ ?_;kernel_rfl;conv=>whnf))
  all_goals rfl
end Sh
