/-
  Chapter 8's functions, walked over pure data: the library of the walk, the functions' code over data, and what each computes. (part 7)
-/
import Derived.Test.YtcgajpaohlggpaaGreatDoorP6
import Derived.Test.YtcgajpaohlggpaaGreatDoorProg
set_option linter.unusedVariables false
set_option linter.unusedSimpArgs false
set_option maxRecDepth 100000
namespace Sh
open Go
def db48_0 : DC := (.seq (.seq (.ops false [⟨some 4,.mov (.tmp 3),none,[]⟩,⟨some 5,.mov (.tmp 0),none,[]⟩,⟨some 6,.len (.tmp 5),none,[]⟩,⟨some 7,.bin .lss (.tmp 4) (.tmp 6),none,[]⟩]) (.cond (.tmp 7) .skip (.exit 0))) (.seq (.block 1 none (.seq (.ops false [⟨some 10,.mov (.tmp 0),none,[]⟩,⟨some 11,.mov (.tmp 3),none,[]⟩,⟨some 12,.iaddr 1 (.tmp 10) (.tmp 11),none,[]⟩,⟨some 13,.load none (.tmp 12),none,[]⟩,⟨some 14,.bin .neq (.tmp 13) (.const (.int .i64 0)),none,[]⟩]) (.cond (.tmp 14) (.seq (.ops false [⟨some 15,.mov (.tmp 0),none,[]⟩,⟨some 16,.mov (.tmp 3),none,[]⟩,⟨some 17,.iaddr 1 (.tmp 15) (.tmp 16),none,[]⟩,⟨some 18,.load none (.tmp 17),none,[]⟩,⟨some 2,.mov (.tmp 18),none,[]⟩]) .ret) .skip))) (.ops false [⟨some 8,.mov (.tmp 3),none,[]⟩,⟨some 9,.bin .add (.tmp 8) (.const (.int .i64 1)),none,[]⟩,⟨some 3,.mov (.tmp 9),none,[]⟩])))
def dk48_0 : Keep := ⟨[],[0,3],[]⟩
def dc48 : DFunc := ⟨19,1,[.tmp 2],.seq (.ops false [⟨some 2,.mov (.const (.int .i64 0)),none,[]⟩]) (.seq (.seq (.ops false [⟨some 3,.mov (.const (.int .i64 0)),none,[]⟩]) (.block 0 (some ⟨[],[],[]⟩) (.loop dk48_0 db48_0))) (.seq (.ops false [⟨some 2,.mov (.const (.int .i64 0)),none,[]⟩]) .ret))⟩
theorem dh48:cProg Go.Proofs.Tryz.prog ⟨[(0,⟨[],[0,3],[]⟩)],[(0,⟨[],[],[]⟩)],[]⟩ 48=some dc48:=by kernel_rfl
def db68_0 : DC := (.seq (.seq (.ops false [⟨some 25,.mov (.tmp 5),none,[]⟩,⟨some 26,.mov (.tmp 3),none,[]⟩,⟨some 27,.bin .lss (.tmp 25) (.tmp 26),none,[]⟩]) (.cond (.tmp 27) .skip (.exit 2))) (.seq (.block 3 none (.seq (.ops true [⟨some 30,.mov (.tmp 0),none,[]⟩,⟨some 31,.mov (.tmp 5),none,[]⟩,⟨some 32,.iaddr 3 (.tmp 30) (.tmp 31),none,[0,1]⟩,⟨some 33,.faddr 0 1 false (.tmp 32),none,[2,0,1]⟩,⟨some 34,.load none (.tmp 33),none,[3,2,0,1]⟩,⟨some 35,.mov (.tmp 0),none,[]⟩,⟨some 36,.mov (.tmp 3),none,[]⟩,⟨some 37,.iaddr 3 (.tmp 35) (.tmp 36),none,[5,6]⟩,⟨some 38,.faddr 0 1 false (.tmp 37),none,[7,5,6]⟩,⟨some 39,.load none (.tmp 38),none,[8,7,5,6]⟩,⟨some 40,.bin .eql (.tmp 34) (.tmp 39),none,[4,3,2,0,1,9,8,7,5,6]⟩]) (.cond (.tmp 40) (.seq (.ops false [⟨some 2,.mov (.const (.int .i64 9)),none,[]⟩]) .ret) .skip))) (.ops false [⟨some 28,.mov (.tmp 5),none,[]⟩,⟨some 29,.bin .add (.tmp 28) (.const (.int .i64 1)),none,[]⟩,⟨some 5,.mov (.tmp 29),none,[]⟩])))
def dk68_0 : Keep := ⟨[],[0,3,5],[53]⟩
def db68_1 : DC := (.seq (.seq (.ops false [⟨some 10,.mov (.tmp 3),none,[]⟩,⟨some 11,.mov (.tmp 0),none,[]⟩,⟨some 12,.len (.tmp 11),none,[]⟩,⟨some 13,.bin .lss (.tmp 10) (.tmp 12),none,[]⟩]) (.cond (.tmp 13) .skip (.exit 0))) (.seq (.block 1 (some ⟨[],[0,3],[]⟩) (.seq (.seq (.ops false [⟨some 16,.mov (.tmp 0),none,[]⟩,⟨some 17,.mov (.tmp 3),none,[]⟩,⟨some 18,.iaddr 3 (.tmp 16) (.tmp 17),none,[]⟩,⟨some 19,.faddr 0 1 false (.tmp 18),none,[]⟩,⟨some 20,.load none (.tmp 19),none,[]⟩,⟨some 21,.call (.func 121) [.tmp 20],none,[]⟩,⟨some 4,.mov (.tmp 21),none,[]⟩]) (.seq (.ops false [⟨some 22,.mov (.tmp 4),none,[]⟩,⟨some 23,.bin .neq (.tmp 22) (.const (.int .i64 0)),none,[]⟩]) (.cond (.tmp 23) (.seq (.ops false [⟨some 24,.mov (.tmp 4),none,[]⟩,⟨some 2,.mov (.tmp 24),none,[]⟩]) .ret) .skip))) (.seq (.seq (.ops false [⟨some 5,.mov (.const (.int .i64 0)),none,[]⟩]) (.block 2 (some ⟨[],[0,3],[53]⟩) (.loop dk68_0 db68_0))) (.seq (.ops true [⟨some 41,.mov (.tmp 0),none,[]⟩,⟨some 42,.mov (.tmp 3),none,[]⟩,⟨some 43,.iaddr 3 (.tmp 41) (.tmp 42),none,[0,1]⟩,⟨some 44,.faddr 1 1 false (.tmp 43),none,[2,0,1]⟩,⟨some 45,.load none (.tmp 44),none,[3,2,0,1]⟩,⟨some 46,.call (.func 94) [.tmp 45,.const (.int .i64 0),.const (.int .i64 10000)],none,[4,3,2,0,1]⟩,⟨some 47,.mov (.tmp 0),none,[]⟩,⟨some 48,.mov (.tmp 3),none,[]⟩,⟨some 49,.iaddr 3 (.tmp 47) (.tmp 48),none,[6,7]⟩,⟨some 50,.faddr 2 1 false (.tmp 49),none,[8,6,7]⟩,⟨some 51,.load none (.tmp 50),none,[9,8,6,7]⟩,⟨some 52,.call (.func 94) [.tmp 51,.const (.int .i64 0),.const (.int .i64 10000)],none,[10,9,8,6,7,5,4,3,2,0,1]⟩,⟨some 53,.lit true 1 2 (.int .i64 0) [(0,(.tmp 46)),(1,(.tmp 52))],none,[5,4,3,2,0,1,11,10,9,8,6,7]⟩,⟨some 54,.call (.func 48) [.tmp 53],none,[12,5,4,3,2,0,1,11,10,9,8,6,7]⟩,⟨some 6,.mov (.tmp 54),none,[13,12,5,4,3,2,0,1,11,10,9,8,6,7]⟩]) (.seq (.ops false [⟨some 55,.mov (.tmp 6),none,[]⟩,⟨some 56,.bin .neq (.tmp 55) (.const (.int .i64 0)),none,[]⟩]) (.cond (.tmp 56) (.seq (.ops false [⟨some 57,.mov (.tmp 6),none,[]⟩,⟨some 2,.mov (.tmp 57),none,[]⟩]) .ret) .skip)))))) (.ops false [⟨some 14,.mov (.tmp 3),none,[]⟩,⟨some 15,.bin .add (.tmp 14) (.const (.int .i64 1)),none,[]⟩,⟨some 3,.mov (.tmp 15),none,[]⟩])))
def dk68_1 : Keep := ⟨[],[0,3],[]⟩
def dc68 : DFunc := ⟨58,1,[.tmp 2],.seq (.ops false [⟨some 2,.mov (.const (.int .i64 0)),none,[]⟩]) (.seq (.seq (.ops false [⟨some 7,.mov (.tmp 0),none,[]⟩,⟨some 8,.len (.tmp 7),none,[]⟩,⟨some 9,.bin .gtr (.tmp 8) (.const (.int .i64 16)),none,[]⟩]) (.cond (.tmp 9) (.seq (.ops false [⟨some 2,.mov (.const (.int .i64 5)),none,[]⟩]) .ret) .skip)) (.seq (.seq (.ops false [⟨some 3,.mov (.const (.int .i64 0)),none,[]⟩]) (.block 0 (some ⟨[],[],[]⟩) (.loop dk68_1 db68_1))) (.seq (.ops false [⟨some 2,.mov (.const (.int .i64 0)),none,[]⟩]) .ret)))⟩
theorem dh68:cProg Go.Proofs.Tryz.prog ⟨[(0,⟨[],[0,3],[]⟩),(2,⟨[],[0,3,5],[53]⟩)],[(2,⟨[],[0,3],[53]⟩),(1,⟨[],[0,3],[]⟩),(0,⟨[],[],[]⟩)],[53]⟩ 68=some dc68:=by kernel_rfl
def dc94 : DFunc := ⟨16,3,[.tmp 6],.seq (.ops false [⟨some 6,.mov (.const (.int .i64 0)),none,[]⟩]) (.seq (.ops false [⟨some 7,.mov (.tmp 0),none,[]⟩,⟨some 8,.mov (.tmp 1),none,[]⟩,⟨some 9,.bin .lss (.tmp 7) (.tmp 8),none,[]⟩,⟨some 10,.mov (.tmp 9),none,[]⟩,⟨some 11,.mov (.tmp 0),some (10,false),[]⟩,⟨some 12,.mov (.tmp 2),some (10,false),[]⟩,⟨some 13,.bin .gtr (.tmp 11) (.tmp 12),some (10,false),[]⟩,⟨some 14,.pick (.tmp 10) (.const (.bool true)) (.tmp 13),none,[]⟩,⟨some 15,.call (.func 95) [.tmp 14,.const (.int .i64 3)],none,[]⟩,⟨some 6,.mov (.tmp 15),none,[]⟩]) .ret)⟩
theorem dh94:cProg Go.Proofs.Tryz.prog ⟨[],[],[]⟩ 94=some dc94:=by kernel_rfl
def dc95 : DFunc := ⟨7,2,[.tmp 4],.seq (.ops false [⟨some 4,.mov (.const (.int .i64 0)),none,[]⟩]) (.seq (.seq (.ops false [⟨some 5,.mov (.tmp 0),none,[]⟩]) (.cond (.tmp 5) (.seq (.ops false [⟨some 6,.mov (.tmp 1),none,[]⟩,⟨some 4,.mov (.tmp 6),none,[]⟩]) .ret) .skip)) (.seq (.ops false [⟨some 4,.mov (.const (.int .i64 0)),none,[]⟩]) .ret))⟩
theorem dh95:cProg Go.Proofs.Tryz.prog ⟨[],[],[]⟩ 95=some dc95:=by kernel_rfl
def dc121 : DFunc := ⟨7,1,[.tmp 2],.seq (.ops false [⟨some 2,.mov (.const (.int .i64 0)),none,[]⟩]) (.seq (.ops false [⟨some 3,.mov (.tmp 0),none,[]⟩,⟨some 4,.call (.func 153) [.tmp 3],none,[]⟩,⟨some 5,.un .not (.tmp 4),none,[]⟩,⟨some 6,.call (.func 95) [.tmp 5,.const (.int .i64 8)],none,[]⟩,⟨some 2,.mov (.tmp 6),none,[]⟩]) .ret)⟩
theorem dh121:cProg Go.Proofs.Tryz.prog ⟨[],[],[]⟩ 121=some dc121:=by kernel_rfl
end Sh

namespace Sh
open Go Go.Proofs
theorem q_When (b:Bool) (e:Int):PC 95 [.bool b,DV.int .i64 (e)] (DV.int .i64 (whenE b e)):=by
 refine pureCall_ofR dh95 rfl ?_
 conv=>whnf
 refine ⟨fun hb=>?_,fun hb=>?_⟩<;>try (exact absurd hb (by decide))
 all_goals conv=>whnf
 all_goals subst hb;rfl
theorem q_CheckRange (n l h:Int):PC 94 [DV.int .i64 (n),DV.int .i64 (l),DV.int .i64 (h)] (DV.int .i64 (withE n l h)):=by
 refine pureCall_ofR dh94 rfl ?_
 conv=>whnf
 refine ⟨fun hb=>?_,fun hb=>?_⟩<;>try (exact absurd hb (by decide))
 all_goals conv=>whnf
 ·refine .inl ?_
  conv=>whnf
  refine ⟨_,q_When ..,?_⟩
  conv=>whnf
  exact int_eq (by simp_all [withE,whenE];split<;>split<;>omega)
 ·refine .inl ?_
  conv=>whnf
  refine ⟨_,q_When ..,?_⟩
  conv=>whnf
  exact int_eq (by simp_all [withE,whenE])
theorem q_First (l:List Int) (hl:l.length < 4611686018427387904):PC 48 [iL l] (DV.int .i64 (firstE l)):=by
 refine pureCall_ofR dh48 rfl ?_
 conv=>whnf
 refine dwp_loopR (P:=Tryz.prog) (G:=GC) (k:=dk48_0) (b:=db48_0) (α:=Nat) (fun i=>[(0,iL l),(3,DV.int .i64 (i))]) (fun _=>[]) (fun i=>i≤l.length∧firstE l=firstE (l.drop i)) (fun i=>l.length - i) 0 ⟨rfl,rfl,rfl⟩ ⟨Nat.zero_le _,rfl⟩ ?_
 intro i ⟨h1,h2⟩
 conv=>whnf
 refine ⟨fun hb=>?_,fun hb=>?_⟩<;>try (exact absurd hb (by decide))
 ·have hi:i < l.length:=by simpa using hb
  have hd:=firstE_drop l i hi
  conv=>whnf
  rw [getD_enc _ _ (i) 0 hi]
  refine ⟨idxA hi rfl,?_⟩
  conv=>whnf
  refine ⟨fun hb=>?_,fun hb=>?_⟩<;>try (exact absurd hb (by decide))
  ·conv=>whnf
   rw [getD_enc _ _ (i) 0 hi]
   refine ⟨idxA hi rfl,?_⟩
   conv=>whnf
   exact int_eq (by simp_all)
  ·conv=>whnf
   rw [wrap_succ i (by omega)]
   exact ⟨i+1,rfl,rfl,rfl,⟨hi,by simp_all⟩,by omega⟩
 ·conv=>whnf
  have:i=l.length:=by simp at hb;omega
  subst this
  exact int_eq (by rw [h2];simp [firstE])
end Sh

namespace Sh
open Go
def db69_0 : DC := (.seq (.seq (.ops true [⟨some 22,.mov (.tmp 8),none,[]⟩,⟨some 23,.mov (.tmp 6),none,[]⟩,⟨some 24,.len (.tmp 23),none,[1]⟩,⟨some 25,.bin .lss (.tmp 22) (.tmp 24),none,[0,2,1]⟩,⟨some 26,.mov (.tmp 25),none,[3,0,2,1]⟩,⟨some 27,.mov (.tmp 6),some (26,true),[4,3,0,2,1]⟩,⟨some 28,.mov (.tmp 8),some (26,true),[4,3,0,2,1]⟩,⟨some 29,.iaddr 3 (.tmp 27) (.tmp 28),some (26,true),[5,4,3,0,2,1,6]⟩,⟨some 30,.faddr 0 1 false (.tmp 29),some (26,true),[7,5,4,3,0,2,1,6]⟩,⟨some 31,.load none (.tmp 30),some (26,true),[8,7,5,4,3,0,2,1,6]⟩,⟨some 32,.mov (.tmp 1),some (26,true),[4,3,0,2,1]⟩,⟨some 33,.mov (.tmp 7),some (26,true),[4,3,0,2,1]⟩,⟨some 34,.iaddr 2 (.tmp 32) (.tmp 33),some (26,true),[10,4,3,0,2,1,11]⟩,⟨some 35,.faddr 0 1 false (.tmp 34),some (26,true),[12,10,4,3,0,2,1,11]⟩,⟨some 36,.load none (.tmp 35),some (26,true),[13,12,10,4,3,0,2,1,11]⟩,⟨some 37,.bin .neq (.tmp 31) (.tmp 36),some (26,true),[9,8,7,5,4,3,0,2,1,6,14,13,12,10,11]⟩,⟨some 38,.pick (.tmp 26) (.tmp 37) (.const (.bool false)),none,[4,3,0,2,1,15,9,8,7,5,6,14,13,12,10,11]⟩]) (.cond (.tmp 38) .skip (.exit 2))) (.block 3 none (.ops false [⟨some 39,.mov (.tmp 8),none,[]⟩,⟨some 40,.bin .add (.tmp 39) (.const (.int .i64 1)),none,[]⟩,⟨some 8,.mov (.tmp 40),none,[]⟩])))
def dk69_0 : Keep := ⟨[],[1,6,7,8],[13,15,63]⟩
def db69_1 : DC := (.seq (.seq (.ops false [⟨some 16,.mov (.tmp 7),none,[]⟩,⟨some 17,.mov (.tmp 1),none,[]⟩,⟨some 18,.len (.tmp 17),none,[]⟩,⟨some 19,.bin .lss (.tmp 16) (.tmp 18),none,[]⟩]) (.cond (.tmp 19) .skip (.exit 0))) (.seq (.block 1 (some ⟨[],[1,6,7],[13,15]⟩) (.seq (.ops false [⟨some 8,.mov (.const (.int .i64 0)),none,[]⟩]) (.seq (.block 2 (some ⟨[],[1,6,7,8],[13,15,63]⟩) (.loop dk69_0 db69_0)) (.seq (.seq (.ops false [⟨some 41,.mov (.tmp 8),none,[]⟩,⟨some 42,.mov (.tmp 6),none,[]⟩,⟨some 43,.len (.tmp 42),none,[]⟩,⟨some 44,.bin .eql (.tmp 41) (.tmp 43),none,[]⟩]) (.cond (.tmp 44) (.seq (.ops false [⟨some 4,.mov (.const (.slice none 0 0)),none,[]⟩,⟨some 5,.mov (.const (.int .i64 10)),none,[]⟩]) .ret) .skip)) (.seq (.seq (.ops true [⟨some 45,.mov (.tmp 1),none,[]⟩,⟨some 46,.mov (.tmp 7),none,[]⟩,⟨some 47,.iaddr 2 (.tmp 45) (.tmp 46),none,[0,1]⟩,⟨some 48,.faddr 1 1 false (.tmp 47),none,[2,0,1]⟩,⟨some 49,.load none (.tmp 48),none,[3,2,0,1]⟩,⟨some 50,.call (.func 94) [.tmp 49,.const (.int .i64 1),.const (.int .i64 10000)],none,[4,3,2,0,1]⟩,⟨some 51,.mov (.tmp 6),none,[]⟩,⟨some 52,.mov (.tmp 8),none,[]⟩,⟨some 53,.iaddr 3 (.tmp 51) (.tmp 52),none,[6,7]⟩,⟨some 54,.faddr 1 1 false (.tmp 53),none,[8,6,7]⟩,⟨some 55,.load none (.tmp 54),none,[9,8,6,7]⟩,⟨some 56,.mov (.tmp 1),none,[]⟩,⟨some 57,.mov (.tmp 7),none,[]⟩,⟨some 58,.iaddr 2 (.tmp 56) (.tmp 57),none,[11,12]⟩,⟨some 59,.faddr 1 1 false (.tmp 58),none,[13,11,12]⟩,⟨some 60,.load none (.tmp 59),none,[14,13,11,12]⟩,⟨some 61,.bin .lss (.tmp 55) (.tmp 60),none,[10,9,8,6,7,15,14,13,11,12]⟩,⟨some 62,.call (.func 95) [.tmp 61,.const (.int .i64 16)],none,[16,10,9,8,6,7,15,14,13,11,12,5,4,3,2,0,1]⟩,⟨some 63,.lit true 1 2 (.int .i64 0) [(0,(.tmp 50)),(1,(.tmp 62))],none,[5,4,3,2,0,1,17,16,10,9,8,6,7,15,14,13,11,12]⟩,⟨some 64,.call (.func 48) [.tmp 63],none,[18,5,4,3,2,0,1,17,16,10,9,8,6,7,15,14,13,11,12]⟩,⟨some 9,.mov (.tmp 64),none,[19,18,5,4,3,2,0,1,17,16,10,9,8,6,7,15,14,13,11,12]⟩]) (.seq (.ops false [⟨some 65,.mov (.tmp 9),none,[]⟩,⟨some 66,.bin .neq (.tmp 65) (.const (.int .i64 0)),none,[]⟩]) (.cond (.tmp 66) (.seq (.ops false [⟨some 67,.mov (.tmp 9),none,[]⟩,⟨some 4,.mov (.const (.slice none 0 0)),none,[]⟩,⟨some 5,.mov (.tmp 67),none,[]⟩]) .ret) .skip))) (.ops true [⟨some 68,.mov (.tmp 6),none,[]⟩,⟨some 69,.mov (.tmp 8),none,[]⟩,⟨some 70,.mov (.tmp 6),none,[]⟩,⟨some 71,.mov (.tmp 8),none,[]⟩,⟨some 72,.iaddr 3 (.tmp 70) (.tmp 71),none,[2,3]⟩,⟨some 73,.faddr 1 1 false (.tmp 72),none,[4,2,3]⟩,⟨some 74,.load none (.tmp 73),none,[5,4,2,3]⟩,⟨some 75,.mov (.tmp 1),none,[]⟩,⟨some 76,.mov (.tmp 7),none,[]⟩,⟨some 77,.iaddr 2 (.tmp 75) (.tmp 76),none,[7,8]⟩,⟨some 78,.faddr 1 1 false (.tmp 77),none,[9,7,8]⟩,⟨some 79,.load none (.tmp 78),none,[10,9,7,8]⟩,⟨some 80,.bin .sub (.tmp 74) (.tmp 79),none,[6,5,4,2,3,11,10,9,7,8]⟩,⟨some 81,.iaddr 3 (.tmp 68) (.tmp 69),none,[0,1,2,3,4,5,6,7,8,9,10,11,12]⟩,⟨some 82,.faddr 1 1 false (.tmp 81),none,[13,0,1,2,3,4,5,6,7,8,9,10,11,12]⟩,⟨none,.store 1 (.tmp 82) (.tmp 80),none,[14,13,0,1,2,3,4,5,6,7,8,9,10,11,12]⟩])))))) (.ops false [⟨some 20,.mov (.tmp 7),none,[]⟩,⟨some 21,.bin .add (.tmp 20) (.const (.int .i64 1)),none,[]⟩,⟨some 7,.mov (.tmp 21),none,[]⟩])))
def dk69_1 : Keep := ⟨[],[1,6,7],[13,15]⟩
def dc69 : DFunc := ⟨84,2,[.tmp 4,.tmp 5],.seq (.ops false [⟨some 4,.mov (.const (.slice none 0 0)),none,[]⟩,⟨some 5,.mov (.const (.int .i64 0)),none,[]⟩]) (.seq (.seq (.ops false [⟨some 10,.mov (.tmp 1),none,[]⟩,⟨some 11,.len (.tmp 10),none,[]⟩,⟨some 12,.bin .gtr (.tmp 11) (.const (.int .i64 16)),none,[]⟩]) (.cond (.tmp 12) (.seq (.ops false [⟨some 4,.mov (.const (.slice none 0 0)),none,[]⟩,⟨some 5,.mov (.const (.int .i64 5)),none,[]⟩]) .ret) .skip)) (.seq (.ops false [⟨some 13,.lit false 3 0 (.agg [.str [],.int .i64 0,.int .i64 0]) [],none,[]⟩,⟨some 14,.mov (.tmp 0),none,[]⟩,⟨some 15,.append false 3 (.tmp 13) (.tmp 14),none,[]⟩,⟨some 6,.mov (.tmp 15),none,[]⟩]) (.seq (.seq (.ops false [⟨some 7,.mov (.const (.int .i64 0)),none,[]⟩]) (.block 0 (some ⟨[],[6],[13,15]⟩) (.loop dk69_1 db69_1))) (.seq (.ops false [⟨some 83,.mov (.tmp 6),none,[]⟩,⟨some 4,.mov (.tmp 83),none,[]⟩,⟨some 5,.mov (.const (.int .i64 0)),none,[]⟩]) .ret))))⟩
theorem dh69:cProg Go.Proofs.Tryz.prog ⟨[(0,⟨[],[1,6,7],[13,15]⟩),(2,⟨[],[1,6,7,8],[13,15,63]⟩)],[(2,⟨[],[1,6,7,8],[13,15,63]⟩),(1,⟨[],[1,6,7],[13,15]⟩),(0,⟨[],[6],[13,15]⟩)],[63]⟩ 69=some dc69:=by kernel_rfl
def db70_0 : DC := (.seq (.seq (.ops false [⟨some 5,.mov (.tmp 4),none,[]⟩,⟨some 6,.mov (.tmp 0),none,[]⟩,⟨some 7,.len (.tmp 6),none,[]⟩,⟨some 8,.bin .lss (.tmp 5) (.tmp 7),none,[]⟩]) (.cond (.tmp 8) .skip (.exit 0))) (.seq (.block 1 none (.seq (.ops true [⟨some 11,.mov (.tmp 0),none,[]⟩,⟨some 12,.mov (.tmp 4),none,[]⟩,⟨some 13,.iaddr 3 (.tmp 11) (.tmp 12),none,[0,1]⟩,⟨some 14,.faddr 1 1 false (.tmp 13),none,[2,0,1]⟩,⟨some 15,.load none (.tmp 14),none,[3,2,0,1]⟩,⟨some 16,.mov (.tmp 0),none,[]⟩,⟨some 17,.mov (.tmp 4),none,[]⟩,⟨some 18,.iaddr 3 (.tmp 16) (.tmp 17),none,[5,6]⟩,⟨some 19,.faddr 2 1 false (.tmp 18),none,[7,5,6]⟩,⟨some 20,.load none (.tmp 19),none,[8,7,5,6]⟩,⟨some 21,.bin .lss (.tmp 15) (.tmp 20),none,[4,3,2,0,1,9,8,7,5,6]⟩]) (.cond (.tmp 21) (.ops true [⟨some 22,.mov (.tmp 3),none,[]⟩,⟨some 23,.mov (.tmp 0),none,[]⟩,⟨some 24,.mov (.tmp 4),none,[]⟩,⟨some 25,.iaddr 3 (.tmp 23) (.tmp 24),none,[1,2]⟩,⟨some 26,.faddr 0 1 false (.tmp 25),none,[3,1,2]⟩,⟨some 27,.load none (.tmp 26),none,[4,3,1,2]⟩,⟨some 28,.mov (.tmp 0),none,[]⟩,⟨some 29,.mov (.tmp 4),none,[]⟩,⟨some 30,.iaddr 3 (.tmp 28) (.tmp 29),none,[6,7]⟩,⟨some 31,.faddr 2 1 false (.tmp 30),none,[8,6,7]⟩,⟨some 32,.load none (.tmp 31),none,[9,8,6,7]⟩,⟨some 33,.mov (.tmp 0),none,[]⟩,⟨some 34,.mov (.tmp 4),none,[]⟩,⟨some 35,.iaddr 3 (.tmp 33) (.tmp 34),none,[11,12]⟩,⟨some 36,.faddr 1 1 false (.tmp 35),none,[13,11,12]⟩,⟨some 37,.load none (.tmp 36),none,[14,13,11,12]⟩,⟨some 38,.bin .sub (.tmp 32) (.tmp 37),none,[10,9,8,6,7,15,14,13,11,12]⟩,⟨some 39,.build [.str [],.int .i64 0] [(0,(1,(.tmp 27))),(1,(1,(.tmp 38)))],none,[5,4,3,1,2,16,10,9,8,6,7,15,14,13,11,12]⟩,⟨some 40,.lit true 2 1 (.agg [.str [],.int .i64 0]) [(0,(.tmp 39))],none,[17,5,4,3,1,2,16,10,9,8,6,7,15,14,13,11,12]⟩,⟨some 41,.append false 2 (.tmp 22) (.tmp 40),none,[0,18,17,5,4,3,1,2,16,10,9,8,6,7,15,14,13,11,12]⟩,⟨some 3,.mov (.tmp 41),none,[19,0,18,17,5,4,3,1,2,16,10,9,8,6,7,15,14,13,11,12]⟩]) .skip))) (.ops false [⟨some 9,.mov (.tmp 4),none,[]⟩,⟨some 10,.bin .add (.tmp 9) (.const (.int .i64 1)),none,[]⟩,⟨some 4,.mov (.tmp 10),none,[]⟩])))
def dk70_0 : Keep := ⟨[(3,2)],[0,3,4],[3]⟩
def dc70 : DFunc := ⟨43,1,[.tmp 2],.seq (.ops false [⟨some 2,.mov (.const (.slice none 0 0)),none,[]⟩]) (.seq (.ops false [⟨some 3,.mov (.const (.slice none 0 0)),none,[]⟩]) (.seq (.seq (.ops false [⟨some 4,.mov (.const (.int .i64 0)),none,[]⟩]) (.block 0 (some ⟨[],[3],[3]⟩) (.loop dk70_0 db70_0))) (.seq (.ops false [⟨some 42,.mov (.tmp 3),none,[]⟩,⟨some 2,.mov (.tmp 42),none,[]⟩]) .ret)))⟩
theorem dh70:cProg Go.Proofs.Tryz.prog ⟨[(0,⟨[(3,2)],[0,3,4],[3]⟩)],[(0,⟨[],[3],[3]⟩)],[40]⟩ 70=some dc70:=by kernel_rfl
def db153_0 : DC := (.seq (.seq (.ops false [⟨some 14,.mov (.tmp 3),none,[]⟩,⟨some 15,.mov (.tmp 0),none,[]⟩,⟨some 16,.lenS (.tmp 15),none,[]⟩,⟨some 17,.bin .lss (.tmp 14) (.tmp 16),none,[]⟩]) (.cond (.tmp 17) .skip (.exit 0))) (.seq (.block 1 none (.seq (.ops false [⟨some 20,.mov (.tmp 0),none,[]⟩,⟨some 21,.mov (.tmp 3),none,[]⟩,⟨some 22,.indexS (.tmp 20) (.tmp 21),none,[]⟩,⟨some 23,.bin .geq (.tmp 22) (.const (.int .u8 65)),none,[]⟩,⟨some 24,.mov (.tmp 23),none,[]⟩,⟨some 25,.mov (.tmp 0),some (24,true),[]⟩,⟨some 26,.mov (.tmp 3),some (24,true),[]⟩,⟨some 27,.indexS (.tmp 25) (.tmp 26),some (24,true),[]⟩,⟨some 28,.bin .leq (.tmp 27) (.const (.int .u8 90)),some (24,true),[]⟩,⟨some 29,.pick (.tmp 24) (.tmp 28) (.const (.bool false)),none,[]⟩,⟨some 30,.mov (.tmp 29),none,[]⟩,⟨some 31,.mov (.tmp 0),some (30,false),[]⟩,⟨some 32,.mov (.tmp 3),some (30,false),[]⟩,⟨some 33,.indexS (.tmp 31) (.tmp 32),some (30,false),[]⟩,⟨some 34,.bin .geq (.tmp 33) (.const (.int .u8 97)),some (30,false),[]⟩,⟨some 35,.mov (.tmp 34),some (30,false),[]⟩,⟨some 36,.mov (.tmp 0),some (35,true),[]⟩,⟨some 37,.mov (.tmp 3),some (35,true),[]⟩,⟨some 38,.indexS (.tmp 36) (.tmp 37),some (35,true),[]⟩,⟨some 39,.bin .leq (.tmp 38) (.const (.int .u8 122)),some (35,true),[]⟩,⟨some 40,.pick (.tmp 35) (.tmp 39) (.const (.bool false)),some (30,false),[]⟩,⟨some 41,.pick (.tmp 30) (.const (.bool true)) (.tmp 40),none,[]⟩,⟨some 4,.mov (.tmp 41),none,[]⟩]) (.seq (.ops false [⟨some 42,.mov (.tmp 0),none,[]⟩,⟨some 43,.mov (.tmp 3),none,[]⟩,⟨some 44,.indexS (.tmp 42) (.tmp 43),none,[]⟩,⟨some 45,.bin .geq (.tmp 44) (.const (.int .u8 48)),none,[]⟩,⟨some 46,.mov (.tmp 45),none,[]⟩,⟨some 47,.mov (.tmp 0),some (46,true),[]⟩,⟨some 48,.mov (.tmp 3),some (46,true),[]⟩,⟨some 49,.indexS (.tmp 47) (.tmp 48),some (46,true),[]⟩,⟨some 50,.bin .leq (.tmp 49) (.const (.int .u8 57)),some (46,true),[]⟩,⟨some 51,.pick (.tmp 46) (.tmp 50) (.const (.bool false)),none,[]⟩,⟨some 52,.mov (.tmp 51),none,[]⟩,⟨some 53,.mov (.tmp 0),some (52,false),[]⟩,⟨some 54,.mov (.tmp 3),some (52,false),[]⟩,⟨some 55,.indexS (.tmp 53) (.tmp 54),some (52,false),[]⟩,⟨some 56,.bin .eql (.tmp 55) (.const (.int .u8 95)),some (52,false),[]⟩,⟨some 57,.pick (.tmp 52) (.const (.bool true)) (.tmp 56),none,[]⟩,⟨some 5,.mov (.tmp 57),none,[]⟩]) (.seq (.ops false [⟨some 58,.mov (.tmp 4),none,[]⟩,⟨some 59,.un .not (.tmp 58),none,[]⟩,⟨some 60,.mov (.tmp 59),none,[]⟩,⟨some 61,.mov (.tmp 3),some (60,true),[]⟩,⟨some 62,.bin .eql (.tmp 61) (.const (.int .i64 0)),some (60,true),[]⟩,⟨some 63,.mov (.tmp 62),some (60,true),[]⟩,⟨some 64,.mov (.tmp 5),some (63,false),[]⟩,⟨some 65,.un .not (.tmp 64),some (63,false),[]⟩,⟨some 66,.pick (.tmp 63) (.const (.bool true)) (.tmp 65),some (60,true),[]⟩,⟨some 67,.pick (.tmp 60) (.tmp 66) (.const (.bool false)),none,[]⟩]) (.cond (.tmp 67) (.seq (.ops false [⟨some 2,.mov (.const (.bool false)),none,[]⟩]) .ret) .skip))))) (.ops false [⟨some 18,.mov (.tmp 3),none,[]⟩,⟨some 19,.bin .add (.tmp 18) (.const (.int .i64 1)),none,[]⟩,⟨some 3,.mov (.tmp 19),none,[]⟩])))
def dk153_0 : Keep := ⟨[],[0,3],[]⟩
def dc153 : DFunc := ⟨68,1,[.tmp 2],.seq (.ops false [⟨some 2,.mov (.const (.bool false)),none,[]⟩]) (.seq (.seq (.ops false [⟨some 6,.mov (.tmp 0),none,[]⟩,⟨some 7,.lenS (.tmp 6),none,[]⟩,⟨some 8,.bin .eql (.tmp 7) (.const (.int .i64 0)),none,[]⟩,⟨some 9,.mov (.tmp 8),none,[]⟩,⟨some 10,.mov (.tmp 0),some (9,false),[]⟩,⟨some 11,.lenS (.tmp 10),some (9,false),[]⟩,⟨some 12,.bin .gtr (.tmp 11) (.const (.int .i64 24)),some (9,false),[]⟩,⟨some 13,.pick (.tmp 9) (.const (.bool true)) (.tmp 12),none,[]⟩]) (.cond (.tmp 13) (.seq (.ops false [⟨some 2,.mov (.const (.bool false)),none,[]⟩]) .ret) .skip)) (.seq (.seq (.ops false [⟨some 3,.mov (.const (.int .i64 0)),none,[]⟩]) (.block 0 (some ⟨[],[],[]⟩) (.loop dk153_0 db153_0))) (.seq (.ops false [⟨some 2,.mov (.const (.bool true)),none,[]⟩]) .ret)))⟩
theorem dh153:cProg Go.Proofs.Tryz.prog ⟨[(0,⟨[],[0,3],[]⟩)],[(0,⟨[],[],[]⟩)],[]⟩ 153=some dc153:=by kernel_rfl
end Sh

namespace Sh
open Go Go.Proofs
theorem q_IsName (s:List UInt8) (hs:s.length < 1073741824):PC 153 [.str s] (.bool (nameB s)):=by
 refine pureCall_ofR dh153 rfl ?_
 conv=>whnf
 repeat' (first
  |(refine ⟨fun hg=>?_,fun hg=>?_⟩<;>first|contradiction|(replace hg:=of_decide_eq_true hg;first|(exfalso;omega;done)|(conv=>whnf))|(replace hg:=of_decide_eq_false hg;first|(exfalso;omega;done)|(conv=>whnf))|(skip;conv=>whnf)|(conv=>whnf))
  |(refine Or.inl ?_;conv=>whnf)
  |(refine And.intro ?_ ?_;kernel_rfl;conv=>whnf))
 ·have hg:(24:Int) < s.length:=hg
  refine bool_eq ?_
  unfold nameB
  rw [show decide (s.length≤24)=false from decide_eq_false (by omega)];simp
 ·have hl24:¬ (24:Int) < s.length:=hg
  rename_i hl0
  have hl0:¬ ((s.length:Int)=0):=by first|exact hl0|exact of_decide_eq_false hl0
  refine dwp_loopU (P:=Tryz.prog) (G:=GC) (k:=dk153_0) (b:=db153_0) (α:=Nat) (fun i=>[(3,DV.int .i64 (i))]) (fun i=>[]) (fun i=>i≤s.length∧∀ j,j < i→nmAt s j=true) (fun i=>s.length - i) 0 ⟨Nat.zero_le _,fun d h=>by omega⟩ ?_
  conv=>whnf
  refine ⟨rfl,rfl,?_⟩
  conv=>whnf
  refine ⟨rfl,?_⟩
  intro i ⟨h1,h2⟩
  conv=>whnf
  refine ⟨fun hb=>?_,fun hb=>?_⟩
  ·have hi:i < s.length:=by simpa using hb
   clear hb
   conv=>whnf
   refine ⟨⟨by omega,by omega⟩,?_⟩
   rw [Int.toNat_natCast]
   have hl:=isLet_iff (s.getD i 0)
   have ho:=isOth_iff (s.getD i 0)
   have hn:=nmAt_iff s i
   have hbad:=nameB_bad hi
   generalize isLet (s.getD i 0)=L at *
   generalize isOth (s.getD i 0)=O at *
   generalize hcv:(s.getD i 0).toNat=c at *
   have hn':nmAt s i=true ↔ ((97≤c∧c≤122)∨(65≤c∧c≤90))∨(i≠0∧(c=95∨(48≤c∧c≤57))):=by rw [hn,hl,ho]
   have hi0:(0:Int)≤(i:Int)∧(i:Int) < (s.length:Int):=by omega
   conv=>whnf
   repeat' (first
    |(refine ⟨fun hg=>?_,fun hg=>?_⟩<;>first|contradiction|(replace hg:=of_decide_eq_true hg;first|(exfalso;omega;done)|(conv=>whnf))|(replace hg:=of_decide_eq_false hg;first|(exfalso;omega;done)|(conv=>whnf))|(skip;conv=>whnf)|(conv=>whnf))
    |(refine Or.inl ?_;conv=>whnf)
    |(refine ⟨hi0,?_⟩;rw [Int.toNat_natCast,hcv];conv=>whnf)
    |(refine And.intro ?_ ?_;kernel_rfl;conv=>whnf))
   all_goals
    first
    |(refine bool_eq (hbad ?_).symm
      cases hnm:nmAt s i with
      |false=>rfl
      |true =>
       exfalso
       have hq:=hn'.1 hnm
       clear hn' hn hl ho hbad h2
       simp only [cond_true,cond_false,Bool.not_true,Bool.not_false,decide_eq_true_eq,Bool.not_eq_true',decide_eq_false_iff_not,Bool.not_eq_false'] at *
       omega)
    |(rw [wrap_succ i (by omega)]
      refine ⟨i+1,rfl,rfl,rfl,⟨hi,fun j hj=>?_⟩,by omega⟩
      by_cases h:j=i
      ·subst h
       refine hn'.2 ?_
       clear hn' hn hl ho hbad h2
       simp only [cond_true,cond_false,Bool.not_true,Bool.not_false,decide_eq_true_eq,Bool.not_eq_true',decide_eq_false_iff_not,Bool.not_eq_false'] at *
       omega
      ·exact h2 j (by omega))
  ·have hi:i=s.length:=by have:=of_decide_eq_false hb;omega
   clear hb
   subst hi
   conv=>whnf
   refine bool_eq ?_
   rw [nameB_ok h2,decide_eq_true (show s.length≤24 by omega),decide_eq_true (show s≠[] from fun e=>by rw [e] at hl0;exact hl0 rfl)];rfl
 ·rename_i hl0
  have hl0:((s.length:Int)=0):=by first|exact hl0|exact of_decide_eq_true hl0
  have h0:s=[]:=List.eq_nil_of_length_eq_zero (by omega)
  subst h0;rfl
end Sh

namespace Sh
open Go Go.Proofs
theorem q_CheckName (s:List UInt8) (hs:s.length < 1073741824):PC 121 [.str s] (DV.int .i64 (whenE (!nameB s) 8)):=by
 have k1:=q_IsName s hs
 refine pureCall_ofR dh121 rfl ?_
 conv=>whnf
 repeat' (first
  |(refine ⟨fun hg=>?_,fun hg=>?_⟩<;>first|contradiction|(conv=>whnf))
  |(refine Or.inl ?_;conv=>whnf)
  |(refine ⟨_,k1,?_⟩;conv=>whnf)
  |(refine ⟨_,q_When ..,?_⟩;conv=>whnf)
  |(refine And.intro ?_ ?_;kernel_rfl;conv=>whnf))
 rfl
end Sh

namespace Sh
open Go Go.Proofs
theorem firstE_nine (r:List Int):firstE (9 :: r)=9:=by simp [firstE]
end Sh

namespace Sh
open Go
def db65_0 : DC := (.seq (.ops false [⟨some 9,.bin .lss (.tmp 8) (.tmp 7),none,[]⟩]) (.seq (.cond (.tmp 9) .skip (.exit 0)) (.seq (.block 1 none (.seq (.ops false [⟨some 10,.iaddr 3 (.tmp 6) (.tmp 8),none,[]⟩,⟨some 11,.load (some 3) (.tmp 10),none,[]⟩,⟨some 5,.alloc (.agg [.str [],.int .i64 0,.int .i64 0]) 3,none,[]⟩,⟨none,.store 3 (.tmp 5) (.tmp 11),none,[]⟩]) (.ops false [⟨some 12,.mov (.tmp 3),none,[]⟩,⟨some 13,.load (some 3) (.tmp 5),none,[]⟩,⟨some 14,.lit true 3 1 (.agg [.str [],.int .i64 0,.int .i64 0]) [(0,(.tmp 13))],none,[]⟩,⟨some 15,.append false 3 (.tmp 12) (.tmp 14),none,[]⟩,⟨some 3,.mov (.tmp 15),none,[]⟩]))) (.ops false [⟨some 16,.bin .add (.tmp 8) (.const (.int .i64 1)),none,[]⟩,⟨some 8,.mov (.tmp 16),none,[]⟩]))))
def dk65_0 : Keep := ⟨[(3,3)],[3,6,7,8],[3]⟩
def dc65 : DFunc := ⟨18,1,[.tmp 2],.seq (.ops false [⟨some 2,.mov (.const (.slice none 0 0)),none,[]⟩]) (.seq (.ops false [⟨some 3,.mov (.const (.slice none 0 0)),none,[]⟩]) (.seq (.seq (.ops false [⟨some 6,.mov (.tmp 0),none,[]⟩,⟨some 7,.len (.tmp 6),none,[]⟩,⟨some 8,.mov (.const (.int .i64 0)),none,[]⟩]) (.block 0 (some ⟨[],[3],[3]⟩) (.loop dk65_0 db65_0))) (.seq (.ops false [⟨some 17,.mov (.tmp 3),none,[]⟩,⟨some 2,.mov (.tmp 17),none,[]⟩]) .ret)))⟩
theorem dh65:cProg Go.Proofs.Tryz.prog ⟨[(0,⟨[(3,3)],[3,6,7,8],[3]⟩)],[(0,⟨[],[3],[3]⟩)],[14]⟩ 65=some dc65:=by kernel_rfl
def db66_0 : DC := (.seq (.ops false [⟨some 9,.bin .lss (.tmp 8) (.tmp 7),none,[]⟩]) (.seq (.cond (.tmp 9) .skip (.exit 0)) (.seq (.block 1 none (.seq (.ops false [⟨some 10,.iaddr 2 (.tmp 6) (.tmp 8),none,[]⟩,⟨some 11,.load (some 2) (.tmp 10),none,[]⟩,⟨some 5,.alloc (.agg [.str [],.int .i64 0]) 2,none,[]⟩,⟨none,.store 2 (.tmp 5) (.tmp 11),none,[]⟩]) (.ops false [⟨some 12,.mov (.tmp 3),none,[]⟩,⟨some 13,.load (some 2) (.tmp 5),none,[]⟩,⟨some 14,.lit true 2 1 (.agg [.str [],.int .i64 0]) [(0,(.tmp 13))],none,[]⟩,⟨some 15,.append false 2 (.tmp 12) (.tmp 14),none,[]⟩,⟨some 3,.mov (.tmp 15),none,[]⟩]))) (.ops false [⟨some 16,.bin .add (.tmp 8) (.const (.int .i64 1)),none,[]⟩,⟨some 8,.mov (.tmp 16),none,[]⟩]))))
def dk66_0 : Keep := ⟨[(3,2)],[3,6,7,8],[3]⟩
def dc66 : DFunc := ⟨18,1,[.tmp 2],.seq (.ops false [⟨some 2,.mov (.const (.slice none 0 0)),none,[]⟩]) (.seq (.ops false [⟨some 3,.mov (.const (.slice none 0 0)),none,[]⟩]) (.seq (.seq (.ops false [⟨some 6,.mov (.tmp 0),none,[]⟩,⟨some 7,.len (.tmp 6),none,[]⟩,⟨some 8,.mov (.const (.int .i64 0)),none,[]⟩]) (.block 0 (some ⟨[],[3],[3]⟩) (.loop dk66_0 db66_0))) (.seq (.ops false [⟨some 17,.mov (.tmp 3),none,[]⟩,⟨some 2,.mov (.tmp 17),none,[]⟩]) .ret)))⟩
theorem dh66:cProg Go.Proofs.Tryz.prog ⟨[(0,⟨[(3,2)],[3,6,7,8],[3]⟩)],[(0,⟨[],[3],[3]⟩)],[14]⟩ 66=some dc66:=by kernel_rfl
end Sh

namespace Sh
open Go
def takenS (l:List Prt) (ts:List Tke):List Prt×Int:=if 16 < ts.length then ([],5) else takenF l ts
end Sh

namespace Sh
open Go Go.Proofs
theorem r_CheckStock (l:List Prt) (hl:l.length < 1073741824) (hn:∀ s ∈ l,s.name.length < 1073741824):PC 68 [qsV l] (DV.int .i64 (chkStk l)):=by
 have e0:((l.map encQ).length:Int)=l.length:=by simp
 refine pureCall_ofR dh68 rfl ?_
 conv=>whnf
 refine ⟨fun hg=>?_,fun hg=>?_⟩
 ·have hg:=of_decide_eq_true hg
  rw [e0] at hg
  conv=>whnf
  exact int_eq (by unfold chkStk;rw [if_pos (by omega)])
 ·have hg:=of_decide_eq_false hg
  rw [e0] at hg
  have hk:chkStk l=chkPs (knQ l 0) (l.drop 0):=by unfold chkStk;rw [if_neg (by omega)];rfl
  rw [hk]
  clear hk
  conv=>whnf
  refine dwp_loopU (P:=Tryz.prog) (G:=GC) (k:=dk68_1) (b:=db68_1) (α:=Nat) (fun i=>[(3,DV.int .i64 (i))]) (fun i=>[]) (fun i=>i≤l.length∧chkPs (knQ l 0) (l.drop 0)=chkPs (knQ l i) (l.drop i)) (fun i=>l.length - i) 0 ⟨Nat.zero_le _,rfl⟩ ?_
  conv=>whnf
  refine ⟨rfl,rfl,?_⟩
  conv=>whnf
  refine ⟨rfl,?_⟩
  intro i ⟨h1,h2⟩
  conv=>whnf
  refine ⟨fun hb=>?_,fun hb=>?_⟩
  ·have hi:i < l.length:=by simpa using hb
   clear hb
   have hd:=chkPs_drop l i hi
   have hnm:=hn _ (getD_in Q0 hi)
   have kN:=q_CheckName (l.getD i Q0).name hnm
   have hte:chkPrt (knQ l i) (l.getD i Q0)=firstE [whenE (!nameB (l.getD i Q0).name) 8,whenE (decide ((l.getD i Q0).name ∈ knQ l i)) 9,withE (l.getD i Q0).count 0 10000,withE (l.getD i Q0).least 0 10000]:=rfl
   conv=>whnf
   rw [getD_enc _ _ (i) Q0 hi]
   refine ⟨idxA hi rfl,?_⟩
   conv=>whnf
   repeat' (first
    |(refine ⟨fun hg=>?_,fun hg=>?_⟩<;>first|contradiction|(conv=>whnf))
    |(refine Or.inl ?_;conv=>whnf)
    |(refine ⟨_,kN ..,?_⟩;conv=>whnf)
    |(refine And.intro ?_ ?_;kernel_rfl;conv=>whnf))
   ·have hg:=of_decide_eq_true hg
    have hq:chkPrt (knQ l i) (l.getD i Q0)=whenE (!nameB (l.getD i Q0).name) 8:=by rw [hte];simp only [firstE];rw [if_pos hg]
    rw [hq,if_pos hg] at hd
    exact int_eq (by rw [h2,hd])
   ·have hg:=of_decide_eq_false hg
    have hte:chkPrt (knQ l i) (l.getD i Q0)=firstE [whenE (decide ((l.getD i Q0).name ∈ knQ l i)) 9,withE (l.getD i Q0).count 0 10000,withE (l.getD i Q0).least 0 10000]:=by rw [hte];simp only [firstE];rw [if_neg hg]
    refine dwp_loopU (P:=Tryz.prog) (G:=GC) (k:=dk68_0) (b:=db68_0) (α:=Nat) (fun k=>[(5,DV.int .i64 (k))]) (fun k=>[]) (fun k=>k≤i∧∀ j,j < k→(l.getD j Q0).name≠(l.getD i Q0).name) (fun k=>i - k) 0 ⟨Nat.zero_le _,fun j h=>by omega⟩ ?_
    conv=>whnf
    refine ⟨rfl,rfl,?_⟩
    conv=>whnf
    refine ⟨rfl,?_⟩
    intro k ⟨h3,h4⟩
    conv=>whnf
    refine ⟨fun hb=>?_,fun hb=>?_⟩
    ·have hk:k < i:=by have:=of_decide_eq_true hb;omega
     clear hb
     conv=>whnf
     rw [getD_enc _ _ (k) Q0 (by omega:k < l.length)]
     refine ⟨idxA (by omega:k < l.length) rfl,?_⟩
     conv=>whnf
     rw [getD_enc _ _ (i) Q0 hi]
     refine ⟨idxA hi rfl,?_⟩
     conv=>whnf
     refine ⟨by kernel_rfl,?_⟩
     conv=>whnf
     refine ⟨fun hg=>?_,fun hg=>?_⟩
     ·have hg:=of_decide_eq_true hg
      conv=>whnf
      have hm:(l.getD i Q0).name ∈ knQ l i:=List.mem_map.2 ⟨l.getD k Q0,by
       have:(l.take i).getD k Q0=l.getD k Q0:=by simp [List.getD_eq_getElem?_getD,hk]
       rw [← this];exact getD_in Q0 (by rw [List.length_take];omega),hg⟩
      have hq:chkPrt (knQ l i) (l.getD i Q0)=9:=by rw [hte,decide_eq_true hm,show whenE true 9=9 from rfl,firstE_nine]
      rw [hq,if_pos (by decide)] at hd
      exact int_eq (by rw [h2,hd])
     ·have hg:=of_decide_eq_false hg
      conv=>whnf
      rw [wrap_succ k (by omega)]
      refine ⟨k+1,rfl,rfl,rfl,⟨hk,fun j hj=>?_⟩,by omega⟩
      by_cases h:j=k
      ·subst h;exact hg
      ·exact h4 j (by omega)
    ·have hk:k=i:=by have:=of_decide_eq_false hb;omega
     subst hk
     clear hb
     have hm:(l.getD k Q0).name ∉ knQ l k:=fun e=>by
      obtain ⟨t,ht,he⟩:=List.mem_map.1 e
      obtain ⟨j,hj,rfl⟩:=List.mem_iff_getElem.1 ht
      have hj':j < k:=by rw [List.length_take] at hj;omega
      refine h4 j hj' ?_
      rw [← he]
      simp [List.getD_eq_getElem?_getD,show j < l.length by omega]
     rw [decide_eq_false hm,show whenE false 9=0 from rfl,firstE_z] at hte
     conv=>whnf
     repeat' (first
      |(refine ⟨fun hg=>?_,fun hg=>?_⟩<;>first|contradiction|(exfalso;revert hg;simp;done)|(exfalso;exact absurd (of_decide_eq_true hg) (by assumption))|(exfalso;exact absurd (by assumption) (of_decide_eq_false hg))|(conv=>whnf))
      |(refine Or.inl ?_;conv=>whnf)
      |(refine ⟨_,q_CheckRange ..,?_⟩;conv=>whnf)
      |(refine ⟨_,q_First [_,_] (by simp),?_⟩;conv=>whnf)
      |(rw [getD_enc _ _ k Q0 hi];refine ⟨idxA hi rfl,?_⟩;conv=>whnf)
      |(refine And.intro ?_ ?_;kernel_rfl;conv=>whnf))
     ·have hg:=of_decide_eq_true hg
      rw [← hte] at hg
      rw [if_pos hg] at hd
      exact int_eq (by rw [h2,hd,hte])
     ·have hg:=of_decide_eq_false hg
      rw [← hte] at hg
      rw [if_neg hg] at hd
      rw [wrap_succ k (by omega)]
      exact ⟨k+1,rfl,rfl,rfl,⟨hi,by rw [h2,hd]⟩,by omega⟩
  ·have hi:i=l.length:=by have:=of_decide_eq_false hb;rw [e0] at this;omega
   clear hb
   conv=>whnf
   exact int_eq (by rw [h2,hi,List.drop_of_length_le (Nat.le_refl _)];rfl)
end Sh

namespace Sh
open Go Go.Proofs
theorem r_Taken (l:List Prt) (ts:List Tke) (hl16:l.length≤16) (hok:CntOk l) (ht:ts.length < 1073741824):PC 69 [qsV l,ksV ts] (.tuple [qsV (takenS l ts).1,DV.int .i64 ((takenS l ts).2)]):=by
 have e1:((ts.map encK).length:Int)=ts.length:=by simp
 by_cases hc:16 < ts.length
 ·rw [show takenS l ts=([],5) from if_pos hc]
  refine pureCall_ofR dh69 rfl ?_
  conv=>whnf
  refine ⟨fun hb=>?_,fun hb=>?_⟩
  ·conv=>whnf
   rfl
  ·have:=of_decide_eq_false hb
   exfalso;apply this;rw [e1];omega
 ·rw [show takenS l ts=takenF l ts from if_neg hc]
  refine pureCall_ofR dh69 rfl ?_
  conv=>whnf
  refine ⟨fun hb=>?_,fun hb=>?_⟩
  ·have:=of_decide_eq_true hb
   exfalso;rw [e1] at this;omega
  ·clear hb
   conv=>whnf
   refine ⟨⟨rfl,rfl,rfl,by simp;omega,fun e he=>qD_ok l e he⟩,?_⟩
   conv=>whnf
   refine dwp_loopU (P:=Tryz.prog) (G:=GC) (k:=dk69_1) (b:=db69_1) (α:=Nat×List Prt) (fun a=>[(7,DV.int .i64 (a.1))]) (fun a=>[(13,.row 3 (qD a.2) false)]) (fun a=>a.1≤ts.length∧a.2.length=l.length∧CntOk a.2∧takenF l ts=takenF a.2 (ts.drop a.1)) (fun a=>ts.length - a.1) (0,l) ⟨Nat.zero_le _,rfl,hok,rfl⟩ ?_
   conv=>whnf
   refine ⟨rfl,rfl,?_⟩
   conv=>whnf
   refine ⟨rfl,?_⟩
   intro ⟨i,out⟩ ⟨h1,h2,h3,h4⟩
   have h1:i≤ts.length:=h1
   have h2:out.length=l.length:=h2
   have h3:CntOk out:=h3
   have h4:takenF l ts=takenF out (ts.drop i):=h4
   have hlq:([]++List.map encQ l).length=(qD out).length:=by rw [qD_len,List.nil_append,List.length_map,h2]
   have hwin:window (qD out) 0 ([]++List.map encQ l).length=qD out:=by rw [hlq];exact window_full _
   conv=>whnf
   refine ⟨fun hb=>?_,fun hb=>?_⟩
   ·have hi:i < ts.length:=by have:=of_decide_eq_true hb;rw [e1] at this;omega
    clear hb
    have hst:=taken_step out ts i hi
    have hix:=idxP_le (ts.getD i K0).name out
    generalize hX:idxP (ts.getD i K0).name out=X at *
    have hte:takeE out (ts.getD i K0)=firstE [whenE (decide (X=out.length)) 10,withE (ts.getD i K0).count 1 10000,whenE (decide ((out.getD X Q0).count < (ts.getD i K0).count)) 16]:=by unfold takeE;rw [hX]
    conv=>whnf
    refine dwp_loopU (P:=Tryz.prog) (G:=GC) (k:=dk69_0) (b:=db69_0) (α:=Nat) (fun k=>[(8,DV.int .i64 (k))]) (fun k=>[(13,.row 3 (qD out) false)]) (fun k=>k≤out.length∧∀ j,j < k→(out.getD j Q0).name≠(ts.getD i K0).name) (fun k=>out.length - k) 0 ⟨Nat.zero_le _,fun j h=>by omega⟩ ?_
    conv=>whnf
    refine ⟨rfl,rfl,?_⟩
    conv=>whnf
    refine ⟨rfl,?_⟩
    intro k ⟨h5,h6⟩
    conv=>whnf
    refine ⟨hlq,?_⟩
    conv=>whnf
    refine ⟨fun hb=>?_,fun hb=>?_⟩
    ·have hk:k < out.length:=by have:=of_decide_eq_true hb;replace this:((k:Nat):Int) < (([]++List.map encQ l).length:Int):=this;rw [hlq,qD_len] at this;omega
     clear hb
     have hgx:=qD_get out k hk
     have hgx0:(qD out).getD (0+k) .undef=encQ (out.getD k Q0):=by rw [Nat.zero_add];exact hgx
     conv=>whnf
     refine ⟨⟨hlq,by omega,by rw [hlq,qD_len];omega⟩,?_⟩
     rw [Int.toNat_natCast,Nat.zero_add]
     conv=>whnf
     refine ⟨hlq,?_⟩
     conv=>whnf
     first|rw [hgx]|rw [hgx0]
     refine ⟨⟨hlq,by decide⟩,?_⟩
     conv=>whnf
     rw [getD_enc _ _ (i) K0 hi]
     refine ⟨idxA hi rfl,?_⟩
     conv=>whnf
     refine ⟨by kernel_rfl,?_⟩
     conv=>whnf
     refine ⟨fun hg=>?_,fun hg=>?_⟩
     ·have hg:(out.getD k Q0).name≠(ts.getD i K0).name:=of_decide_eq_true hg
      conv=>whnf
      rw [wrap_succ k (by omega)]
      refine ⟨k+1,rfl,rfl,rfl,⟨hk,fun j hj=>?_⟩,by omega⟩
      by_cases h:j=k
      ·subst h;exact hg
      ·exact h6 j (by omega)
     ·have hg:(out.getD k Q0).name=(ts.getD i K0).name:=by
       have:=of_decide_eq_false hg
       exact Classical.not_not.1 this
      have hXk:=idxP_at hk h6 hg
      rw [hX] at hXk
      subst hXk
      rw [decide_eq_false (by omega)] at hte
      have hte:takeE out (ts.getD i K0)=firstE [withE (ts.getD i K0).count 1 10000,whenE (decide ((out.getD X Q0).count < (ts.getD i K0).count)) 16]:=by rw [hte];exact firstE_z _
      have hXc:=h3 _ (getD_in Q0 hk)
      have kR:=q_CheckRange (ts.getD i K0).count 1 10000
      have kW:=q_When (decide ((out.getD X Q0).count < (ts.getD i K0).count)) 16
      have kF:=q_First [withE (ts.getD i K0).count 1 10000,whenE (decide ((out.getD X Q0).count < (ts.getD i K0).count)) 16] (by simp)
      rw [← hte] at kF
      conv=>whnf
      refine ⟨hlq,?_⟩
      conv=>whnf
      refine ⟨fun hg2=>?_,fun _=>?_⟩
      ·exfalso
       have hg2:((X:Nat):Int)=(([]++List.map encQ l).length:Int):=of_decide_eq_true hg2
       rw [hlq,qD_len] at hg2
       omega
      ·conv=>whnf
       rw [getD_enc _ _ (i) K0 hi]
       refine ⟨idxA hi rfl,?_⟩
       conv=>whnf
       refine .inl ?_
       conv=>whnf
       refine ⟨_,kR ..,?_⟩
       conv=>whnf
       refine ⟨⟨hlq,by omega,by rw [hlq,qD_len];omega⟩,?_⟩
       rw [Int.toNat_natCast,Nat.zero_add]
       conv=>whnf
       refine ⟨hlq,?_⟩
       conv=>whnf
       first|rw [hgx]|rw [hgx0]
       refine ⟨⟨hlq,by decide⟩,?_⟩
       conv=>whnf
       rw [getD_enc _ _ (i) K0 hi]
       refine ⟨idxA hi rfl,?_⟩
       conv=>whnf
       refine .inl ?_
       conv=>whnf
       refine ⟨_,kW ..,?_⟩
       conv=>whnf
       refine .inl ?_
       conv=>whnf
       refine ⟨_,kF ..,?_⟩
       conv=>whnf
       refine ⟨by kernel_rfl,?_⟩
       conv=>whnf
       refine ⟨fun g2=>?_,fun g2=>?_⟩
       ·have g2:takeE out (ts.getD i K0)≠0:=of_decide_eq_true g2
        rw [if_pos g2] at hst
        rw [h4,hst]
        conv=>whnf
        rfl
       ·have g2:¬ takeE out (ts.getD i K0)≠0:=of_decide_eq_false g2
        rw [if_neg g2] at hst
        have hz:=firstE_mem (l:=[withE (ts.getD i K0).count 1 10000,whenE (decide ((out.getD X Q0).count < (ts.getD i K0).count)) 16]) (by rw [← hte];omega)
        have z1:=withE_zero (hz _ (by simp:withE (ts.getD i K0).count 1 10000 ∈ _))
        have z2:=of_decide_eq_false (whenE_zero (hz _ (by simp:whenE (decide ((out.getD X Q0).count < (ts.getD i K0).count)) 16 ∈ _)) (by decide))
        conv=>whnf
        refine ⟨⟨hlq,by omega,by rw [hlq,qD_len];omega⟩,?_⟩
        rw [Int.toNat_natCast,Nat.zero_add]
        conv=>whnf
        refine ⟨hlq,?_⟩
        conv=>whnf
        first|rw [hgx]|rw [hgx0]
        refine ⟨⟨hlq,by decide⟩,?_⟩
        conv=>whnf
        rw [getD_enc _ _ (i) K0 hi]
        refine ⟨idxA hi rfl,?_⟩
        conv=>whnf
        rw [wrap_in (n:=(out.getD X Q0).count - (ts.getD i K0).count) (by omega) (by omega)]
        conv=>whnf
        refine ⟨⟨hlq,by omega,by rw [hlq,qD_len];omega⟩,?_⟩
        rw [Int.toNat_natCast,Nat.zero_add]
        conv=>whnf
        refine ⟨hlq,?_⟩
        conv=>whnf
        refine ⟨⟨hlq,by decide,rfl⟩,?_⟩
        conv=>whnf
        refine ⟨by kernel_rfl,?_⟩
        conv=>whnf
        have hset:(qD out).set X (.agg (setCells ((qD out).getD X .undef).cells 1 [DV.int .i64 ((out.getD X Q0).count - (ts.getD i K0).count)]))=qD (out.set X (lessP (out.getD X Q0) (ts.getD i K0).count)):=by
         rw [hgx,← qD_set];rfl
        rw [wrap_succ i (by omega)]
        refine ⟨(i+1,out.set X (lessP (out.getD X Q0) (ts.getD i K0).count)),rfl,rfl,?_,⟨hi,by rw [List.length_set];exact h2,cnt_set_ok h3 hk (by omega) (by omega),by rw [h4,hst]⟩,by show ts.length - (i+1) < ts.length - i;omega⟩
        show _=[(13,DObj.row 3 (qD (out.set X (lessP (out.getD X Q0) (ts.getD i K0).count))) false)]
        rw [← hset]
        first
        |rfl
        |(show [(13,DObj.row 3 ((qD out).set (0+X) _) false)]=_
          rw [Nat.zero_add];rfl)
    ·have hk:k=out.length:=by
      have:=of_decide_eq_false hb
      replace this:¬ ((k:Nat):Int) < (([]++List.map encQ l).length:Int):=this
      rw [hlq,qD_len] at this;omega
     clear hb
     have hXk:=idxP_none (nm:=(ts.getD i K0).name) (l:=out) (fun j hj=>h6 j (by omega))
     rw [hX] at hXk
     rw [decide_eq_true hXk] at hte
     have hte:takeE out (ts.getD i K0)=10:=by rw [hte];exact firstE_ten _
     rw [hte,if_pos (by decide)] at hst
     rw [h4,hst]
     conv=>whnf
     refine ⟨by kernel_rfl,?_⟩
     conv=>whnf
     refine ⟨fun hg=>absurd hg (by decide),fun _=>?_⟩
     conv=>whnf
     refine ⟨hlq,?_⟩
     conv=>whnf
     refine ⟨fun hg=>?_,fun hg=>?_⟩
     ·conv=>whnf
      rfl
     ·exfalso
      have hg:¬ ((k:Nat):Int)=(([]++List.map encQ l).length:Int):=of_decide_eq_false hg
      rw [hlq,qD_len] at hg
      omega
   ·have hi:i=ts.length:=by have:=of_decide_eq_false hb;rw [e1] at this;omega
    clear hb
    have hT:takenF l ts=(out,0):=by rw [h4,hi,List.drop_of_length_le (Nat.le_refl _)];rfl
    rw [hT]
    conv=>whnf
    rw [hwin]
    refine ⟨hlq,?_⟩
    rfl
end Sh

namespace Sh
open Go Go.Proofs
theorem r_Reordered (l:List Prt) (hl16:l.length≤16) (hok:∀ s ∈ l,OkPrt s):PC 70 [qsV l] (ksV (reS l)):=by
 have e0:((l.map encQ).length:Int)=l.length:=by simp
 refine pureCall_ofR dh70 rfl ?_
 conv=>whnf
 refine dwp_loopU (P:=Tryz.prog) (G:=GC) (k:=dk70_0) (b:=db70_0) (α:=Nat) (fun i=>[(3,.own 3 0 (kD (reS (l.take i))).length (kD (reS (l.take i))).length),(4,DV.int .i64 (i))]) (fun i=>[(3,.row 2 (kD (reS (l.take i))) false)]) (fun i=>i≤l.length) (fun i=>l.length - i) 0 (Nat.zero_le _) ?_
 conv=>whnf
 refine ⟨rfl,rfl,?_⟩
 conv=>whnf
 refine ⟨rfl,?_⟩
 intro i h1
 conv=>whnf
 refine ⟨fun hb=>?_,fun hb=>?_⟩
 ·have hi:i < l.length:=by simpa using hb
  clear hb
  have hs:=reS_succ l i hi
  have hln:=reS_len (l.take i)
  rw [List.length_take] at hln
  have hq:=hok _ (getD_in Q0 hi)
  have hc0:=hq.c0
  have hc1:=hq.c1
  have hl0:=hq.l0
  have hl1:=hq.l1
  generalize hR':reS (l.take (i+1))=R' at *
  generalize hR:reS (l.take i)=R at *
  conv=>whnf
  rw [getD_enc _ _ (i) Q0 hi]
  refine ⟨idxA hi rfl,?_⟩
  conv=>whnf
  rw [getD_enc _ _ (i) Q0 hi]
  refine ⟨idxA hi rfl,?_⟩
  conv=>whnf
  refine ⟨by kernel_rfl,?_⟩
  conv=>whnf
  refine ⟨fun hg=>?_,fun hg=>?_⟩
  ·have hg:(l.getD i Q0).count < (l.getD i Q0).least:=of_decide_eq_true hg
   rw [if_pos hg] at hs
   conv=>whnf
   rw [getD_enc _ _ (i) Q0 hi]
   refine ⟨idxA hi rfl,?_⟩
   conv=>whnf
   rw [getD_enc _ _ (i) Q0 hi]
   refine ⟨idxA hi rfl,?_⟩
   conv=>whnf
   rw [getD_enc _ _ (i) Q0 hi]
   refine ⟨idxA hi rfl,?_⟩
   conv=>whnf
   rw [wrap_in (n:=(l.getD i Q0).least - (l.getD i Q0).count) (by omega) (by omega)]
   conv=>whnf
   refine ⟨⟨rfl,rfl,rfl,by rw [kD_len];simp;omega,fun e he=>by simp at he;subst he;rfl⟩,?_⟩
   have hfin:kD R'=kD R++[.agg [.str (l.getD i Q0).name,DV.int .i64 ((l.getD i Q0).least - (l.getD i Q0).count)]]:=by rw [hs,kD_app];rfl
   conv=>whnf
   refine ⟨by kernel_rfl,?_⟩
   conv=>whnf
   rw [wrap_succ i (by omega)]
   refine ⟨i+1,rfl,?_,?_,hi,by omega⟩
   ·rw [hR',hfin];rfl
   ·rw [hR',hfin];rfl
  ·have hg:¬ (l.getD i Q0).count < (l.getD i Q0).least:=of_decide_eq_false hg
   rw [if_neg hg] at hs
   conv=>whnf
   rw [wrap_succ i (by omega)]
   refine ⟨i+1,rfl,?_,?_,hi,by omega⟩
   ·rw [hR',hs];rfl
   ·rw [hR',hs];rfl
 ·have hi:i=l.length:=by have:=of_decide_eq_false hb;rw [e0] at this;omega
  clear hb
  rw [hi,List.take_length]
  conv=>whnf
  refine ⟨rfl,?_⟩
  rw [window_full];rfl
end Sh

namespace Sh
open Go Go.Proofs
theorem l_shelf (l:List Prt) (hl:l.length < 1073741824):PC 65 [.list (l.map encQ)] (.list (l.map encQ)):=by
 have e0:((l.map encQ).length:Int)=l.length:=by simp
 refine pureCall_ofR dh65 rfl ?_
 conv=>whnf
 refine dwp_loopU (P:=Tryz.prog) (G:=GC) (k:=dk65_0) (b:=db65_0) (α:=Nat) (fun i=>[(3,.own 3 0 ((l.take i).map encQ).length ((l.take i).map encQ).length),(8,DV.int .i64 (i))]) (fun i=>[(3,.row 3 ((l.take i).map encQ) false)]) (fun i=>i≤l.length) (fun i=>l.length - i) 0 (Nat.zero_le _) ?_
 conv=>whnf
 refine ⟨rfl,rfl,?_⟩
 conv=>whnf
 refine ⟨rfl,?_⟩
 intro i h1
 conv=>whnf
 refine ⟨fun hb=>?_,fun hb=>?_⟩
 ·have hi:i < l.length:=by simpa using hb
  clear hb
  have hs:(l.take (i+1)).map encQ=(l.take i).map encQ++[encQ (l.getD i Q0)]:=by rw [take_snoc l i Q0 hi,List.map_append];rfl
  have hln:((l.take i).map encQ).length=i:=by simp;omega
  generalize hR':(l.take (i+1)).map encQ=R' at *
  generalize hR:(l.take i).map encQ=R at *
  conv=>whnf
  rw [getD_enc _ _ (i) Q0 hi]
  refine ⟨idxA hi rfl,?_⟩
  conv=>whnf
  refine ⟨⟨rfl,rfl,rfl,by rw [hln];simp;omega,fun e he=>by simp at he;subst he;rfl⟩,?_⟩
  conv=>whnf
  rw [wrap_succ i (by omega)]
  refine ⟨i+1,rfl,?_,?_,hi,by omega⟩
  ·rw [hR',hs];rfl
  ·rw [hR',hs];rfl
 ·have hi:i=l.length:=by have:=of_decide_eq_false hb;rw [e0] at this;omega
  clear hb
  rw [hi,List.take_length]
  conv=>whnf
  refine ⟨rfl,?_⟩
  rw [window_full]
  first|rfl|(show DV.list _=_;rfl)
theorem l_asked (l:List Tke) (hl:l.length < 1073741824):PC 66 [.list (l.map encK)] (.list (l.map encK)):=by
 have e0:((l.map encK).length:Int)=l.length:=by simp
 refine pureCall_ofR dh66 rfl ?_
 conv=>whnf
 refine dwp_loopU (P:=Tryz.prog) (G:=GC) (k:=dk66_0) (b:=db66_0) (α:=Nat) (fun i=>[(3,.own 3 0 ((l.take i).map encK).length ((l.take i).map encK).length),(8,DV.int .i64 (i))]) (fun i=>[(3,.row 2 ((l.take i).map encK) false)]) (fun i=>i≤l.length) (fun i=>l.length - i) 0 (Nat.zero_le _) ?_
 conv=>whnf
 refine ⟨rfl,rfl,?_⟩
 conv=>whnf
 refine ⟨rfl,?_⟩
 intro i h1
 conv=>whnf
 refine ⟨fun hb=>?_,fun hb=>?_⟩
 ·have hi:i < l.length:=by simpa using hb
  clear hb
  have hs:(l.take (i+1)).map encK=(l.take i).map encK++[encK (l.getD i K0)]:=by rw [take_snoc l i K0 hi,List.map_append];rfl
  have hln:((l.take i).map encK).length=i:=by simp;omega
  generalize hR':(l.take (i+1)).map encK=R' at *
  generalize hR:(l.take i).map encK=R at *
  conv=>whnf
  rw [getD_enc _ _ (i) K0 hi]
  refine ⟨idxA hi rfl,?_⟩
  conv=>whnf
  refine ⟨⟨rfl,rfl,rfl,by rw [hln];simp;omega,fun e he=>by simp at he;subst he;rfl⟩,?_⟩
  conv=>whnf
  rw [wrap_succ i (by omega)]
  refine ⟨i+1,rfl,?_,?_,hi,by omega⟩
  ·rw [hR',hs];rfl
  ·rw [hR',hs];rfl
 ·have hi:i=l.length:=by have:=of_decide_eq_false hb;rw [e0] at this;omega
  clear hb
  rw [hi,List.take_length]
  conv=>whnf
  refine ⟨rfl,?_⟩
  rw [window_full]
  first|rfl|(show DV.list _=_;rfl)
end Sh

namespace Sh
open Go
end Sh

set_option maxHeartbeats 2000000
namespace Sh
open Go Go.Proofs
end Sh

namespace Sh
open Go
def dc9 : DFunc := ⟨79,2,[.tmp 4],.seq (.ops false [⟨some 4,.mov (.const (.bool false)),none,[]⟩]) (.seq (.seq (.ops false [⟨some 13,.mov (.tmp 0),none,[]⟩,⟨some 14,.call (.func 62) [.tmp 13],none,[]⟩,⟨some 15,.un .not (.tmp 14),none,[]⟩,⟨some 16,.mov (.tmp 15),none,[]⟩,⟨some 17,.mov (.tmp 1),some (16,false),[]⟩,⟨some 18,.call (.func 63) [.tmp 17],some (16,false),[]⟩,⟨some 19,.un .not (.tmp 18),some (16,false),[]⟩,⟨some 20,.pick (.tmp 16) (.const (.bool true)) (.tmp 19),none,[]⟩]) (.cond (.tmp 20) (.seq (.ops false [⟨some 21,.call (.func 17) [],none,[]⟩,⟨some 4,.mov (.tmp 21),none,[]⟩]) .ret) .skip)) (.seq (.ops false [⟨some 23,.mov (.tmp 0),none,[]⟩,⟨some 24,.call (.func 65) [.tmp 23],none,[]⟩,⟨some 25,.mov (.tmp 1),none,[]⟩,⟨some 26,.call (.func 66) [.tmp 25],none,[]⟩,⟨some 27,.call (.func 64) [.tmp 24,.tmp 26],none,[]⟩,⟨some 22,.mov (.tmp 27),none,[]⟩,⟨some 28,.extract (.tmp 22) 0,none,[]⟩,⟨some 29,.extract (.tmp 22) 1,none,[]⟩,⟨some 5,.mov (.tmp 28),none,[]⟩,⟨some 6,.mov (.tmp 29),none,[]⟩]) (.seq (.ops false [⟨some 31,.mov (.tmp 0),none,[]⟩,⟨some 32,.call (.func 65) [.tmp 31],none,[]⟩,⟨some 33,.call (.func 67) [.tmp 32],none,[]⟩,⟨some 30,.mov (.tmp 33),none,[]⟩,⟨some 34,.extract (.tmp 30) 0,none,[]⟩,⟨some 35,.extract (.tmp 30) 1,none,[]⟩,⟨some 7,.mov (.tmp 34),none,[]⟩,⟨some 8,.mov (.tmp 35),none,[]⟩]) (.seq (.ops false [⟨some 36,.mov (.tmp 0),none,[]⟩,⟨some 37,.call (.func 68) [.tmp 36],none,[]⟩,⟨some 9,.mov (.tmp 37),none,[]⟩]) (.seq (.ops false [⟨some 38,.mov (.tmp 9),none,[]⟩,⟨some 10,.mov (.tmp 38),none,[]⟩]) (.seq (.ops false [⟨some 11,.mov (.const (.slice none 0 0)),none,[]⟩]) (.seq (.ops false [⟨some 12,.mov (.const (.slice none 0 0)),none,[]⟩]) (.seq (.seq (.ops false [⟨some 39,.mov (.tmp 9),none,[]⟩,⟨some 40,.bin .eql (.tmp 39) (.const (.int .i64 0)),none,[]⟩]) (.cond (.tmp 40) (.seq (.ops false [⟨some 42,.mov (.tmp 0),none,[]⟩,⟨some 43,.mov (.tmp 1),none,[]⟩,⟨some 44,.call (.func 69) [.tmp 42,.tmp 43],none,[]⟩,⟨some 41,.mov (.tmp 44),none,[]⟩,⟨some 45,.extract (.tmp 41) 0,none,[]⟩,⟨some 46,.extract (.tmp 41) 1,none,[]⟩,⟨some 11,.mov (.tmp 45),none,[]⟩,⟨some 10,.mov (.tmp 46),none,[]⟩]) (.ops false [⟨some 47,.mov (.tmp 0),none,[]⟩,⟨some 48,.call (.func 70) [.tmp 47],none,[]⟩,⟨some 12,.mov (.tmp 48),none,[]⟩])) .skip)) (.seq (.ops false [⟨some 49,.mov (.tmp 0),none,[]⟩,⟨some 50,.call (.func 65) [.tmp 49],none,[]⟩,⟨some 51,.call (.func 71) [.tmp 50],none,[]⟩,⟨some 52,.mov (.tmp 9),none,[]⟩,⟨some 53,.bin .eql (.tmp 51) (.tmp 52),none,[]⟩,⟨some 54,.mov (.tmp 53),none,[]⟩,⟨some 55,.mov (.tmp 5),some (54,true),[]⟩,⟨some 56,.call (.func 73) [.tmp 55],some (54,true),[]⟩,⟨some 57,.mov (.tmp 11),some (54,true),[]⟩,⟨some 58,.call (.func 72) [.tmp 56,.tmp 57],some (54,true),[]⟩,⟨some 59,.pick (.tmp 54) (.tmp 58) (.const (.bool false)),none,[]⟩,⟨some 60,.mov (.tmp 59),none,[]⟩,⟨some 61,.mov (.tmp 6),some (60,true),[]⟩,⟨some 62,.mov (.tmp 10),some (60,true),[]⟩,⟨some 63,.bin .eql (.tmp 61) (.tmp 62),some (60,true),[]⟩,⟨some 64,.pick (.tmp 60) (.tmp 63) (.const (.bool false)),none,[]⟩,⟨some 65,.mov (.tmp 64),none,[]⟩,⟨some 66,.mov (.tmp 7),some (65,true),[]⟩,⟨some 67,.call (.func 75) [.tmp 66],some (65,true),[]⟩,⟨some 68,.mov (.tmp 12),some (65,true),[]⟩,⟨some 69,.call (.func 74) [.tmp 67,.tmp 68],some (65,true),[]⟩,⟨some 70,.pick (.tmp 65) (.tmp 69) (.const (.bool false)),none,[]⟩,⟨some 71,.mov (.tmp 70),none,[]⟩,⟨some 72,.mov (.tmp 8),some (71,true),[]⟩,⟨some 73,.mov (.tmp 9),some (71,true),[]⟩,⟨some 74,.bin .eql (.tmp 72) (.tmp 73),some (71,true),[]⟩,⟨some 75,.pick (.tmp 71) (.tmp 74) (.const (.bool false)),none,[]⟩,⟨some 76,.mov (.tmp 75),none,[]⟩,⟨some 77,.call (.func 17) [],some (76,true),[]⟩,⟨some 78,.pick (.tmp 76) (.tmp 77) (.const (.bool false)),none,[]⟩,⟨some 4,.mov (.tmp 78),none,[]⟩]) .ret)))))))))⟩
theorem dh9:cProg Go.Proofs.Tryz.prog ⟨[],[],[]⟩ 9=some dc9:=by kernel_rfl
end Sh

set_option maxHeartbeats 4000000
namespace Sh
open Go Go.Proofs
theorem takenF_len:∀ (ts:List Tke) (out:List Prt),(takenF out ts).1.length≤out.length
 |[],out=>Nat.le_refl _
 |t :: r,out=>by
  unfold takenF
  split
  ·exact Nat.zero_le _
  ·have:=takenF_len r (out.set (idxP t.name out) (lessP (out.getD (idxP t.name out) Q0) t.count))
   rwa [List.length_set] at this
theorem tkn_ok {l:List Prt} (h:chkStk l=0) (ts:List Tke):tknP l ts=takenS l ts:=by
 unfold tknP takenS tkE
 rw [h,firstE_z,firstE_one]
 by_cases h2:16 < ts.length
 ·rw [decide_eq_true h2,if_pos h2,if_pos (by decide)];rfl
 ·rw [decide_eq_false h2,if_neg h2,if_neg (by decide)]
theorem tkn_no {l:List Prt} (h:chkStk l≠0) (ts:List Tke):tknP l ts=([],chkStk l):=by
 have:tkE l ts=chkStk l:=by unfold tkE;simp only [firstE];rw [if_pos h]
 unfold tknP
 rw [this,if_pos h]
theorem taken_len (l:List Prt) (ts:List Tke):(takenS l ts).1.length≤l.length:=by
 unfold takenS
 split
 ·exact Nat.zero_le _
 ·exact takenF_len ts l
theorem l_WashParts (aw:PC 17 [] (.bool true)) (l:List Prt) (hU:l.length≤9223372036854775807) (x:List Tke) (hV:x.length≤9223372036854775807):PC 9 [qsV l,ksV x] (.bool true):=by
 have kS:PC 62 [qsV l] _:=r_ShortStockU l hU
 have kT:PC 63 [ksV x] _:=r_ShortTakesU x hV
 by_cases hsh:ShortStockB l=true
 case neg =>
  have hsh:ShortStockB l=false:=by simpa using hsh
  rw [hsh] at kS
  refine pureCall_ofR dh9 rfl ?_
  conv=>whnf
  repeat' (first
   |(refine ⟨fun hg=>?_,fun hg=>?_⟩<;>first|contradiction|(conv=>whnf))
   |(refine Or.inl ?_;conv=>whnf)
   |(refine ⟨_,kS ..,?_⟩;conv=>whnf)
   |(refine ⟨_,kT ..,?_⟩;conv=>whnf)
   |(refine ⟨_,aw ..,?_⟩;conv=>whnf)
   |(refine And.intro ?_ ?_;kernel_rfl;conv=>whnf))
  all_goals rfl
 case pos =>
 by_cases hsx:ShortTakesB x=true
 case neg =>
  have hsx:ShortTakesB x=false:=by simpa using hsx
  rw [hsh] at kS
  rw [hsx] at kT
  refine pureCall_ofR dh9 rfl ?_
  conv=>whnf
  repeat' (first
   |(refine ⟨fun hg=>?_,fun hg=>?_⟩<;>first|contradiction|(conv=>whnf))
   |(refine Or.inl ?_;conv=>whnf)
   |(refine ⟨_,kS ..,?_⟩;conv=>whnf)
   |(refine ⟨_,kT ..,?_⟩;conv=>whnf)
   |(refine ⟨_,aw ..,?_⟩;conv=>whnf)
   |(refine And.intro ?_ ?_;kernel_rfl;conv=>whnf))
  all_goals rfl
 case pos =>
 obtain ⟨hl17,hnm⟩:=ShortStockB_spec hsh
 obtain ⟨hx17,_⟩:=ShortTakesB_spec hsx
 rw [hsh] at kS
 rw [hsx] at kT
 clear hsh hsx
 have hnm:∀ s ∈ l,s.name.length < 1073741824:=fun s hs=>by have:=hnm s hs;omega
 have a1:PC 65 [qsV l] (qsV l):=l_shelf l (by omega)
 have a2:PC 66 [ksV x] (ksV x):=l_asked x (by omega)
 have b1:=c_Taken l x (by omega) hnm (by omega)
 have b2:=c_Reordered l (by omega) hnm
 have b3:=c_CheckStock l (by omega) hnm
 have c1:=r_CheckStock l (by omega) hnm
 have p0:PC 73 [.list []] (.list []):=l_parts [] (by decide)
 have p1:PC 75 [.list []] (.list []):=l_takes [] (by decide)
 have p2:PC 72 [.list [],.list []] (.bool true):=r_SameParts [] (by decide)
 have p3:PC 74 [.list [],.list []] (.bool true):=r_SameTakes [] (by decide)
 by_cases h1:chkStk l=0
 ·obtain ⟨h16,hok⟩:=chkStk_zero h1
  rw [tkn_ok h1] at b1
  rw [if_neg (by omega),h1] at b2
  rw [h1] at b3 c1
  have hln:=taken_len l x
  have hrl:=reS_len l
  have e1:=r_Taken l x h16 (fun p hp=>⟨(hok p hp).c0,(hok p hp).c1⟩) (by omega)
  have e2:=r_Reordered l h16 hok
  have g1:PC 73 [qsV (takenS l x).1] (qsV (takenS l x).1):=l_parts _ (by omega)
  have g2:PC 75 [ksV (reS l)] (ksV (reS l)):=l_takes _ (by omega)
  have g3:PC 72 [qsV (takenS l x).1,qsV (takenS l x).1] (.bool true):=r_SameParts _ (by omega)
  have g4:PC 74 [ksV (reS l),ksV (reS l)] (.bool true):=r_SameTakes _ (by omega)
  generalize takenS l x=T at *
  obtain ⟨T1,T2⟩:=T
  dsimp only at b1 e1 g1 g3
  generalize reS l=S at *
  refine pureCall_ofR dh9 rfl ?_
  conv=>whnf
  repeat' (first
   |(refine ⟨fun hg=>?_,fun hg=>?_⟩<;>first|contradiction|(exfalso;revert hg;simp;done)|(exfalso;exact absurd (of_decide_eq_true hg) (by assumption))|(exfalso;exact absurd (by assumption) (of_decide_eq_false hg))|(conv=>whnf))
   |(refine Or.inl ?_;conv=>whnf)
   |(refine ⟨_,kS,?_⟩;conv=>whnf)
   |(refine ⟨_,kT,?_⟩;conv=>whnf)
   |(refine ⟨_,a1,?_⟩;conv=>whnf)
   |(refine ⟨_,a2,?_⟩;conv=>whnf)
   |(refine ⟨_,b1,?_⟩;conv=>whnf)
   |(refine ⟨_,b2,?_⟩;conv=>whnf)
   |(refine ⟨_,b3,?_⟩;conv=>whnf)
   |(refine ⟨_,c1,?_⟩;conv=>whnf)
   |(refine ⟨_,e1,?_⟩;conv=>whnf)
   |(refine ⟨_,e2,?_⟩;conv=>whnf)
   |(refine ⟨_,g1,?_⟩;conv=>whnf)
   |(refine ⟨_,g2,?_⟩;conv=>whnf)
   |(refine ⟨_,g3,?_⟩;conv=>whnf)
   |(refine ⟨_,g4,?_⟩;conv=>whnf)
   |(refine ⟨_,aw,?_⟩;conv=>whnf)
   |(refine And.intro ?_ ?_;kernel_rfl;conv=>whnf))
  all_goals rfl
 ·rw [tkn_no h1] at b1
  rw [if_pos h1] at b2
  have b1:PC 64 [qsV l,ksV x] (.tuple [.list [],DV.int .i64 (chkStk l)]):=b1
  have b2:PC 67 [qsV l] (.tuple [.list [],DV.int .i64 (chkStk l)]):=b2
  generalize chkStk l=E at *
  refine pureCall_ofR dh9 rfl ?_
  conv=>whnf
  repeat' (first
   |(refine ⟨fun hg=>?_,fun hg=>?_⟩<;>first|contradiction|(exfalso;revert hg;simp;done)|(exfalso;exact absurd (of_decide_eq_true hg) (by assumption))|(exfalso;exact absurd (by assumption) (of_decide_eq_false hg))|(conv=>whnf))
   |(refine Or.inl ?_;conv=>whnf)
   |(refine ⟨_,kS,?_⟩;conv=>whnf)
   |(refine ⟨_,kT,?_⟩;conv=>whnf)
   |(refine ⟨_,a1,?_⟩;conv=>whnf)
   |(refine ⟨_,a2,?_⟩;conv=>whnf)
   |(refine ⟨_,b1,?_⟩;conv=>whnf)
   |(refine ⟨_,b2,?_⟩;conv=>whnf)
   |(refine ⟨_,b3,?_⟩;conv=>whnf)
   |(refine ⟨_,c1,?_⟩;conv=>whnf)
   |(refine ⟨_,p0,?_⟩;conv=>whnf)
   |(refine ⟨_,p1,?_⟩;conv=>whnf)
   |(refine ⟨_,p2,?_⟩;conv=>whnf)
   |(refine ⟨_,p3,?_⟩;conv=>whnf)
   |(refine ⟨_,aw,?_⟩;conv=>whnf)
   |(refine And.intro ?_ ?_;kernel_rfl;conv=>whnf))
  all_goals rfl
end Sh
