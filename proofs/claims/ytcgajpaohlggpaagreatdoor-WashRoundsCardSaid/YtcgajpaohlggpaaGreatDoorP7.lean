/-
  Chapter 8's functions, walked over pure data: the library of the walk, the functions' code over data, and what each computes. (part 7)
-/
import Derived.Test.YtcgajpaohlggpaaGreatDoorP6
import Derived.ChangeArms
import Derived.ChangeSame
import Derived.OpenShut
import Derived.WideShapes
import Derived.FnData
import Derived.LaidMore
import Derived.DataReads
import Derived.Test.YtcgajpaohlggpaaGreatDoorProg
set_option linter.unusedVariables false
set_option linter.unusedSimpArgs false
namespace Sh
open Go
section
variable {H:Type} {enc:TypeId×Value→H} {P:Program} {W:World}
theorem arg_int {t:TypeId} {k:IntKind} {v:Value} {d:DataW H} {p:List MemPlace} {base b0:Nat} {sp:Nat→Bool} {hd:Bool} (ht:P.underlying t=some (.int k))
  (hv:Value.okWide P W .any b0 t v) (h:DataW.Trod enc P W base sp hd t v d p):∃ n,v=.int k n∧(Lit.int k n).wf=true:=by
 obtain ⟨n,rfl⟩:=WideShapes.okWide_int ht hv
 obtain ⟨fuel,hf⟩:=h
 obtain ⟨m,e,_,hw⟩:=DataW.trod_int ht hf
 simp only [Value.cells,List.cons.injEq,Value.int.injEq] at e
 exact ⟨n,rfl,by rw [e.1.2];exact hw⟩
end
end Sh

set_option maxRecDepth 100000
namespace Sh
open Go
def db48_0 : DC := (.seq (.seq (.ops false [⟨some 4,.mov (.tmp 3),none,[]⟩,⟨some 5,.mov (.tmp 0),none,[]⟩,⟨some 6,.len (.tmp 5),none,[]⟩,⟨some 7,.bin .lss (.tmp 4) (.tmp 6),none,[]⟩]) (.cond (.tmp 7) .skip (.exit 0))) (.seq (.block 1 none (.seq (.ops false [⟨some 10,.mov (.tmp 0),none,[]⟩,⟨some 11,.mov (.tmp 3),none,[]⟩,⟨some 12,.iaddr 1 (.tmp 10) (.tmp 11),none,[]⟩,⟨some 13,.load none (.tmp 12),none,[]⟩,⟨some 14,.bin .neq (.tmp 13) (.const (.int .i64 0)),none,[]⟩]) (.cond (.tmp 14) (.seq (.ops false [⟨some 15,.mov (.tmp 0),none,[]⟩,⟨some 16,.mov (.tmp 3),none,[]⟩,⟨some 17,.iaddr 1 (.tmp 15) (.tmp 16),none,[]⟩,⟨some 18,.load none (.tmp 17),none,[]⟩,⟨some 2,.mov (.tmp 18),none,[]⟩]) .ret) .skip))) (.ops false [⟨some 8,.mov (.tmp 3),none,[]⟩,⟨some 9,.bin .add (.tmp 8) (.const (.int .i64 1)),none,[]⟩,⟨some 3,.mov (.tmp 9),none,[]⟩])))
def dk48_0 : Keep := ⟨[],[0,3],[]⟩
def dc48 : DFunc := ⟨19,1,[.tmp 2],.seq (.ops false [⟨some 2,.mov (.const (.int .i64 0)),none,[]⟩]) (.seq (.seq (.ops false [⟨some 3,.mov (.const (.int .i64 0)),none,[]⟩]) (.block 0 (some ⟨[],[],[]⟩) (.loop dk48_0 db48_0))) (.seq (.ops false [⟨some 2,.mov (.const (.int .i64 0)),none,[]⟩]) .ret))⟩
theorem dh48:cProg Go.Proofs.Tryz.prog ⟨[(0,⟨[],[0,3],[]⟩)],[(0,⟨[],[],[]⟩)],[]⟩ 48=some dc48:=by kernel_rfl
def dc49 : DFunc := ⟨14,1,[.tmp 2],.seq (.ops false [⟨some 1,.box 4 (.tmp 0),none,[]⟩,⟨some 2,.mov (.const (.int .i64 0)),none,[]⟩]) (.seq (.ops true [⟨some 3,.faddr 0 2 true (.tmp 1),none,[]⟩,⟨some 4,.load (some 2) (.tmp 3),none,[0]⟩,⟨some 5,.call (.func 120) [.tmp 4],none,[1,0]⟩,⟨some 6,.faddr 2 1 false (.tmp 1),none,[]⟩,⟨some 7,.load none (.tmp 6),none,[3]⟩,⟨some 8,.call (.func 94) [.tmp 7,.const (.int .i64 0),.const (.int .i64 10000)],none,[4,3,2,1,0]⟩,⟨some 9,.faddr 3 1 false (.tmp 1),none,[]⟩,⟨some 10,.load none (.tmp 9),none,[6]⟩,⟨some 11,.call (.func 59) [.tmp 10],none,[7,6,5,4,3,2,1,0]⟩,⟨some 12,.lit true 1 3 (.int .i64 0) [(0,(.tmp 5)),(1,(.tmp 8)),(2,(.tmp 11))],none,[2,1,0,5,4,3,8,7,6]⟩,⟨some 13,.call (.func 48) [.tmp 12],none,[9,2,1,0,5,4,3,8,7,6]⟩,⟨some 2,.mov (.tmp 13),none,[10,9,2,1,0,5,4,3,8,7,6]⟩]) .ret)⟩
theorem dh49:cProg Go.Proofs.Tryz.prog ⟨[],[],[12]⟩ 49=some dc49:=by kernel_rfl
def db50_0 : DC := (.seq (.seq (.ops false [⟨some 25,.mov (.tmp 5),none,[]⟩,⟨some 26,.mov (.tmp 3),none,[]⟩,⟨some 27,.bin .lss (.tmp 25) (.tmp 26),none,[]⟩]) (.cond (.tmp 27) .skip (.exit 2))) (.seq (.block 3 none (.seq (.ops true [⟨some 30,.mov (.tmp 0),none,[]⟩,⟨some 31,.mov (.tmp 5),none,[]⟩,⟨some 32,.iaddr 5 (.tmp 30) (.tmp 31),none,[0,1]⟩,⟨some 33,.faddr 0 1 false (.tmp 32),none,[2,0,1]⟩,⟨some 34,.load none (.tmp 33),none,[3,2,0,1]⟩,⟨some 35,.mov (.tmp 0),none,[]⟩,⟨some 36,.mov (.tmp 3),none,[]⟩,⟨some 37,.iaddr 5 (.tmp 35) (.tmp 36),none,[5,6]⟩,⟨some 38,.faddr 0 1 false (.tmp 37),none,[7,5,6]⟩,⟨some 39,.load none (.tmp 38),none,[8,7,5,6]⟩,⟨some 40,.bin .eql (.tmp 34) (.tmp 39),none,[4,3,2,0,1,9,8,7,5,6]⟩]) (.cond (.tmp 40) (.seq (.ops false [⟨some 2,.mov (.const (.int .i64 9)),none,[]⟩]) .ret) .skip))) (.ops false [⟨some 28,.mov (.tmp 5),none,[]⟩,⟨some 29,.bin .add (.tmp 28) (.const (.int .i64 1)),none,[]⟩,⟨some 5,.mov (.tmp 29),none,[]⟩])))
def dk50_0 : Keep := ⟨[],[0,3,5],[59]⟩
def db50_1 : DC := (.seq (.seq (.ops false [⟨some 10,.mov (.tmp 3),none,[]⟩,⟨some 11,.mov (.tmp 0),none,[]⟩,⟨some 12,.len (.tmp 11),none,[]⟩,⟨some 13,.bin .lss (.tmp 10) (.tmp 12),none,[]⟩]) (.cond (.tmp 13) .skip (.exit 0))) (.seq (.block 1 (some ⟨[],[0,3],[]⟩) (.seq (.seq (.ops false [⟨some 16,.mov (.tmp 0),none,[]⟩,⟨some 17,.mov (.tmp 3),none,[]⟩,⟨some 18,.iaddr 5 (.tmp 16) (.tmp 17),none,[]⟩,⟨some 19,.faddr 0 1 false (.tmp 18),none,[]⟩,⟨some 20,.load none (.tmp 19),none,[]⟩,⟨some 21,.call (.func 121) [.tmp 20],none,[]⟩,⟨some 4,.mov (.tmp 21),none,[]⟩]) (.seq (.ops false [⟨some 22,.mov (.tmp 4),none,[]⟩,⟨some 23,.bin .neq (.tmp 22) (.const (.int .i64 0)),none,[]⟩]) (.cond (.tmp 23) (.seq (.ops false [⟨some 24,.mov (.tmp 4),none,[]⟩,⟨some 2,.mov (.tmp 24),none,[]⟩]) .ret) .skip))) (.seq (.seq (.ops false [⟨some 5,.mov (.const (.int .i64 0)),none,[]⟩]) (.block 2 (some ⟨[],[0,3],[59]⟩) (.loop dk50_0 db50_0))) (.seq (.ops true [⟨some 41,.mov (.tmp 0),none,[]⟩,⟨some 42,.mov (.tmp 3),none,[]⟩,⟨some 43,.iaddr 5 (.tmp 41) (.tmp 42),none,[0,1]⟩,⟨some 44,.faddr 1 2 true (.tmp 43),none,[2,0,1]⟩,⟨some 45,.load (some 2) (.tmp 44),none,[3,2,0,1]⟩,⟨some 46,.call (.func 120) [.tmp 45],none,[4,3,2,0,1]⟩,⟨some 47,.mov (.tmp 0),none,[]⟩,⟨some 48,.mov (.tmp 3),none,[]⟩,⟨some 49,.iaddr 5 (.tmp 47) (.tmp 48),none,[6,7]⟩,⟨some 50,.faddr 3 1 false (.tmp 49),none,[8,6,7]⟩,⟨some 51,.load none (.tmp 50),none,[9,8,6,7]⟩,⟨some 52,.call (.func 94) [.tmp 51,.const (.int .i64 0),.const (.int .i64 1000000)],none,[10,9,8,6,7,5,4,3,2,0,1]⟩,⟨some 53,.mov (.tmp 0),none,[]⟩,⟨some 54,.mov (.tmp 3),none,[]⟩,⟨some 55,.iaddr 5 (.tmp 53) (.tmp 54),none,[12,13]⟩,⟨some 56,.faddr 4 1 false (.tmp 55),none,[14,12,13]⟩,⟨some 57,.load none (.tmp 56),none,[15,14,12,13]⟩,⟨some 58,.call (.func 94) [.tmp 57,.const (.int .i64 0),.const (.int .i64 10000)],none,[16,15,14,12,13,11,10,9,8,6,7,5,4,3,2,0,1]⟩,⟨some 59,.lit true 1 3 (.int .i64 0) [(0,(.tmp 46)),(1,(.tmp 52)),(2,(.tmp 58))],none,[5,4,3,2,0,1,11,10,9,8,6,7,17,16,15,14,12,13]⟩,⟨some 60,.call (.func 48) [.tmp 59],none,[18,5,4,3,2,0,1,11,10,9,8,6,7,17,16,15,14,12,13]⟩,⟨some 6,.mov (.tmp 60),none,[19,18,5,4,3,2,0,1,11,10,9,8,6,7,17,16,15,14,12,13]⟩]) (.seq (.ops false [⟨some 61,.mov (.tmp 6),none,[]⟩,⟨some 62,.bin .neq (.tmp 61) (.const (.int .i64 0)),none,[]⟩]) (.cond (.tmp 62) (.seq (.ops false [⟨some 63,.mov (.tmp 6),none,[]⟩,⟨some 2,.mov (.tmp 63),none,[]⟩]) .ret) .skip)))))) (.ops false [⟨some 14,.mov (.tmp 3),none,[]⟩,⟨some 15,.bin .add (.tmp 14) (.const (.int .i64 1)),none,[]⟩,⟨some 3,.mov (.tmp 15),none,[]⟩])))
def dk50_1 : Keep := ⟨[],[0,3],[]⟩
def dc50 : DFunc := ⟨64,1,[.tmp 2],.seq (.ops false [⟨some 2,.mov (.const (.int .i64 0)),none,[]⟩]) (.seq (.seq (.ops false [⟨some 7,.mov (.tmp 0),none,[]⟩,⟨some 8,.len (.tmp 7),none,[]⟩,⟨some 9,.bin .gtr (.tmp 8) (.const (.int .i64 8)),none,[]⟩]) (.cond (.tmp 9) (.seq (.ops false [⟨some 2,.mov (.const (.int .i64 5)),none,[]⟩]) .ret) .skip)) (.seq (.seq (.ops false [⟨some 3,.mov (.const (.int .i64 0)),none,[]⟩]) (.block 0 (some ⟨[],[],[]⟩) (.loop dk50_1 db50_1))) (.seq (.ops false [⟨some 2,.mov (.const (.int .i64 0)),none,[]⟩]) .ret)))⟩
theorem dh50:cProg Go.Proofs.Tryz.prog ⟨[(0,⟨[],[0,3],[]⟩),(2,⟨[],[0,3,5],[59]⟩)],[(2,⟨[],[0,3],[59]⟩),(1,⟨[],[0,3],[]⟩),(0,⟨[],[],[]⟩)],[59]⟩ 50=some dc50:=by kernel_rfl
def dc59 : DFunc := ⟨5,1,[.tmp 2],.seq (.ops false [⟨some 2,.mov (.const (.int .i64 0)),none,[]⟩]) (.seq (.ops false [⟨some 3,.mov (.tmp 0),none,[]⟩,⟨some 4,.call (.func 94) [.tmp 3,.const (.int .i64 0),.const (.int .i64 1000)],none,[]⟩,⟨some 2,.mov (.tmp 4),none,[]⟩]) .ret)⟩
theorem dh59:cProg Go.Proofs.Tryz.prog ⟨[],[],[]⟩ 59=some dc59:=by kernel_rfl
def db83_0 : DC := (.seq (.seq (.ops false [⟨some 6,.mov (.tmp 5),none,[]⟩,⟨some 7,.mov (.tmp 0),none,[]⟩,⟨some 8,.len (.tmp 7),none,[]⟩,⟨some 9,.bin .lss (.tmp 6) (.tmp 8),none,[]⟩]) (.cond (.tmp 9) .skip (.exit 0))) (.seq (.block 1 none (.seq (.ops false [⟨some 12,.mov (.tmp 0),none,[]⟩,⟨some 13,.mov (.tmp 5),none,[]⟩,⟨some 14,.iaddr 1 (.tmp 12) (.tmp 13),none,[]⟩,⟨some 15,.load none (.tmp 14),none,[]⟩,⟨some 16,.mov (.tmp 1),none,[]⟩,⟨some 17,.bin .eql (.tmp 15) (.tmp 16),none,[]⟩]) (.cond (.tmp 17) (.seq (.ops false [⟨some 4,.mov (.const (.bool true)),none,[]⟩]) .ret) .skip))) (.ops false [⟨some 10,.mov (.tmp 5),none,[]⟩,⟨some 11,.bin .add (.tmp 10) (.const (.int .i64 1)),none,[]⟩,⟨some 5,.mov (.tmp 11),none,[]⟩])))
def dk83_0 : Keep := ⟨[],[0,1,5],[]⟩
def dc83 : DFunc := ⟨18,2,[.tmp 4],.seq (.ops false [⟨some 4,.mov (.const (.bool false)),none,[]⟩]) (.seq (.seq (.ops false [⟨some 5,.mov (.const (.int .i64 0)),none,[]⟩]) (.block 0 (some ⟨[],[],[]⟩) (.loop dk83_0 db83_0))) (.seq (.ops false [⟨some 4,.mov (.const (.bool false)),none,[]⟩]) .ret))⟩
theorem dh83:cProg Go.Proofs.Tryz.prog ⟨[(0,⟨[],[0,1,5],[]⟩)],[(0,⟨[],[],[]⟩)],[]⟩ 83=some dc83:=by kernel_rfl
def dc94 : DFunc := ⟨16,3,[.tmp 6],.seq (.ops false [⟨some 6,.mov (.const (.int .i64 0)),none,[]⟩]) (.seq (.ops false [⟨some 7,.mov (.tmp 0),none,[]⟩,⟨some 8,.mov (.tmp 1),none,[]⟩,⟨some 9,.bin .lss (.tmp 7) (.tmp 8),none,[]⟩,⟨some 10,.mov (.tmp 9),none,[]⟩,⟨some 11,.mov (.tmp 0),some (10,false),[]⟩,⟨some 12,.mov (.tmp 2),some (10,false),[]⟩,⟨some 13,.bin .gtr (.tmp 11) (.tmp 12),some (10,false),[]⟩,⟨some 14,.pick (.tmp 10) (.const (.bool true)) (.tmp 13),none,[]⟩,⟨some 15,.call (.func 95) [.tmp 14,.const (.int .i64 3)],none,[]⟩,⟨some 6,.mov (.tmp 15),none,[]⟩]) .ret)⟩
theorem dh94:cProg Go.Proofs.Tryz.prog ⟨[],[],[]⟩ 94=some dc94:=by kernel_rfl
def dc95 : DFunc := ⟨7,2,[.tmp 4],.seq (.ops false [⟨some 4,.mov (.const (.int .i64 0)),none,[]⟩]) (.seq (.seq (.ops false [⟨some 5,.mov (.tmp 0),none,[]⟩]) (.cond (.tmp 5) (.seq (.ops false [⟨some 6,.mov (.tmp 1),none,[]⟩,⟨some 4,.mov (.tmp 6),none,[]⟩]) .ret) .skip)) (.seq (.ops false [⟨some 4,.mov (.const (.int .i64 0)),none,[]⟩]) .ret))⟩
theorem dh95:cProg Go.Proofs.Tryz.prog ⟨[],[],[]⟩ 95=some dc95:=by kernel_rfl
def dc120 : DFunc := ⟨11,1,[.tmp 2],.seq (.ops false [⟨some 1,.box 2 (.tmp 0),none,[]⟩,⟨some 2,.mov (.const (.int .i64 0)),none,[]⟩]) (.seq (.ops true [⟨some 3,.faddr 0 1 false (.tmp 1),none,[]⟩,⟨some 4,.load none (.tmp 3),none,[0]⟩,⟨some 5,.call (.func 94) [.tmp 4,.const (.int .i64 (-1000)),.const (.int .i64 1000)],none,[1,0]⟩,⟨some 6,.faddr 1 1 false (.tmp 1),none,[]⟩,⟨some 7,.load none (.tmp 6),none,[3]⟩,⟨some 8,.call (.func 94) [.tmp 7,.const (.int .i64 (-1000)),.const (.int .i64 1000)],none,[4,3,2,1,0]⟩,⟨some 9,.lit true 1 2 (.int .i64 0) [(0,(.tmp 5)),(1,(.tmp 8))],none,[2,1,0,5,4,3]⟩,⟨some 10,.call (.func 48) [.tmp 9],none,[6,2,1,0,5,4,3]⟩,⟨some 2,.mov (.tmp 10),none,[7,6,2,1,0,5,4,3]⟩]) .ret)⟩
theorem dh120:cProg Go.Proofs.Tryz.prog ⟨[],[],[9]⟩ 120=some dc120:=by kernel_rfl
def dc121 : DFunc := ⟨7,1,[.tmp 2],.seq (.ops false [⟨some 2,.mov (.const (.int .i64 0)),none,[]⟩]) (.seq (.ops false [⟨some 3,.mov (.tmp 0),none,[]⟩,⟨some 4,.call (.func 153) [.tmp 3],none,[]⟩,⟨some 5,.un .not (.tmp 4),none,[]⟩,⟨some 6,.call (.func 95) [.tmp 5,.const (.int .i64 8)],none,[]⟩,⟨some 2,.mov (.tmp 6),none,[]⟩]) .ret)⟩
theorem dh121:cProg Go.Proofs.Tryz.prog ⟨[],[],[]⟩ 121=some dc121:=by kernel_rfl
end Sh

namespace Sh
open Go Go.Proofs
theorem q_When (b:Bool) (e:Int):PC 95 [.bool b,DV.int .i64 (e)] (DV.int .i64 (whenE b e)):=by
 refine pureCall_ofR dh95 rfl ?_
 conv=>whnf
 refine ⟨fun hb=>?_,fun hb=>?_⟩<;>try (exact absurd hb (by decide))
 all_goals conv=>whnf
 all_goals subst hb;rfl
theorem q_CheckRange (n l h:Int):PC 94 [DV.int .i64 (n),DV.int .i64 (l),DV.int .i64 (h)] (DV.int .i64 (withE n l h)):=by
 refine pureCall_ofR dh94 rfl ?_
 conv=>whnf
 refine ⟨fun hb=>?_,fun hb=>?_⟩<;>try (exact absurd hb (by decide))
 all_goals conv=>whnf
 ·refine .inl ?_
  conv=>whnf
  refine ⟨_,q_When ..,?_⟩
  conv=>whnf
  exact int_eq (by simp_all [withE,whenE];split<;>split<;>omega)
 ·refine .inl ?_
  conv=>whnf
  refine ⟨_,q_When ..,?_⟩
  conv=>whnf
  exact int_eq (by simp_all [withE,whenE])
theorem q_First (l:List Int) (hl:l.length < 4611686018427387904):PC 48 [iL l] (DV.int .i64 (firstE l)):=by
 refine pureCall_ofR dh48 rfl ?_
 conv=>whnf
 refine dwp_loopR (P:=Tryz.prog) (G:=GC) (k:=dk48_0) (b:=db48_0) (α:=Nat) (fun i=>[(0,iL l),(3,DV.int .i64 (i))]) (fun _=>[]) (fun i=>i≤l.length∧firstE l=firstE (l.drop i)) (fun i=>l.length - i) 0 ⟨rfl,rfl,rfl⟩ ⟨Nat.zero_le _,rfl⟩ ?_
 intro i ⟨h1,h2⟩
 conv=>whnf
 refine ⟨fun hb=>?_,fun hb=>?_⟩<;>try (exact absurd hb (by decide))
 ·have hi:i < l.length:=by simpa using hb
  have hd:=firstE_drop l i hi
  conv=>whnf
  rw [getD_enc _ _ (i) 0 hi]
  refine ⟨idxA hi rfl,?_⟩
  conv=>whnf
  refine ⟨fun hb=>?_,fun hb=>?_⟩<;>try (exact absurd hb (by decide))
  ·conv=>whnf
   rw [getD_enc _ _ (i) 0 hi]
   refine ⟨idxA hi rfl,?_⟩
   conv=>whnf
   exact int_eq (by simp_all)
  ·conv=>whnf
   rw [wrap_succ i (by omega)]
   exact ⟨i+1,rfl,rfl,rfl,⟨hi,by simp_all⟩,by omega⟩
 ·conv=>whnf
  have:i=l.length:=by simp at hb;omega
  subst this
  exact int_eq (by rw [h2];simp [firstE])
end Sh

namespace Sh
open Go
theorem cmpI_neg {a b:Int}:cmpI a b < 0 ↔ a < b:=by unfold cmpI;split<;>(try split)<;>omega
theorem cmpI_zero {a b:Int}:cmpI a b=0 ↔ a=b:=by unfold cmpI;split<;>(try split)<;>omega
theorem cmpP_lt {x m:Pl} (h:cmpP x m < 0):m.worth≤x.worth:=by
 unfold cmpP at h
 split at h
 ·have:=cmpI_neg.1 h;omega
 ·rename_i h1
  have:=cmpI_zero.1 (Classical.not_not.1 h1);omega
theorem cmpP_ge {x m:Pl} (h:¬ cmpP x m < 0):x.worth≤m.worth:=by
 unfold cmpP at h
 split at h
 ·rename_i h1
  have h2:=mt cmpI_neg.2 h;omega
 ·rename_i h1
  have:=cmpI_zero.1 (Classical.not_not.1 h1);omega
theorem minP_worth:∀ (l:List Pl) (m:Pl),m.worth≤(minP m l).worth∧∀ x ∈ l,x.worth≤(minP m l).worth
 |[],m=>by unfold minP;simp
 |x :: r,m=>by
  unfold minP
  obtain ⟨h1,h2⟩:=minP_worth r (if cmpP x m < 0 then x else m)
  have h3:m.worth≤(if cmpP x m < 0 then x else m).worth∧x.worth≤(if cmpP x m < 0 then x else m).worth:=by
   split
   ·rename_i h;exact ⟨cmpP_lt h,Int.le_refl _⟩
   ·rename_i h;exact ⟨Int.le_refl _,cmpP_ge h⟩
  refine ⟨Int.le_trans h3.1 h1,fun y hy=>?_⟩
  rcases List.mem_cons.1 hy with rfl|hy
  ·exact Int.le_trans h3.2 h1
  ·exact h2 y hy
theorem bestP_worth {l:List Pl}:∀ x ∈ l,x.worth≤(bestP l).worth:=by
 cases l with
 |nil=>simp
 |cons x r =>
  intro y hy
  rcases List.mem_cons.1 hy with rfl|hy
  ·exact (minP_worth r y).1
  ·exact (minP_worth r x).2 y hy
end Sh

namespace Sh
open Go Go.Proofs
theorem q_HasInt (l:List Int) (n:Int) (hl:l.length < 4611686018427387904):PC 83 [iL l,DV.int .i64 (n)] (.bool (decide (n ∈ l))):=by
 have e0:((l.map (DV.int .i64)).length:Int)=l.length:=by simp
 refine pureCall_ofR dh83 rfl ?_
 conv=>whnf
 refine dwp_loopR (P:=Tryz.prog) (G:=GC) (k:=dk83_0) (b:=db83_0) (α:=Nat) (fun i=>[(0,iL l),(1,DV.int .i64 (n)),(5,DV.int .i64 (i))]) (fun _=>[]) (fun i=>i≤l.length∧n ∉ l.take i) (fun i=>l.length - i) 0 ⟨rfl,rfl,rfl⟩ ⟨Nat.zero_le _,by simp⟩ ?_
 intro i ⟨h1,h2⟩
 conv=>whnf
 refine ⟨fun hb=>?_,fun hb=>?_⟩
 ·have hi:i < l.length:=by simpa using hb
  clear hb
  conv=>whnf
  rw [getD_enc _ _ (i) 0 hi]
  refine ⟨idxA hi rfl,?_⟩
  conv=>whnf
  refine ⟨fun hg=>?_,fun hg=>?_⟩
  ·have hg:l.getD i 0=n:=of_decide_eq_true hg
   conv=>whnf
   exact bool_eq (decide_eq_true (by rw [← hg];exact getD_in 0 hi)).symm
  ·have hg:¬ l.getD i 0=n:=of_decide_eq_false hg
   conv=>whnf
   rw [wrap_succ i (by omega)]
   refine ⟨i+1,rfl,rfl,rfl,⟨hi,?_⟩,by omega⟩
   rw [take_snoc l i 0 hi,List.mem_append]
   rintro (h|h)
   ·exact h2 h
   ·simp only [List.mem_cons,List.not_mem_nil,or_false] at h;exact hg h.symm
 ·have hi:i=l.length:=by have:=of_decide_eq_false hb;rw [e0] at this;omega
  rw [hi,List.take_length] at h2
  conv=>whnf
  exact bool_eq (decide_eq_false h2).symm
end Sh

namespace Sh
open Go
theorem cmpI_self (a:Int):cmpI a a=0:=cmpI_zero.2 rfl
theorem cmpI_swap (a b:Int):cmpI b a = -cmpI a b:=by unfold cmpI;split<;>(try split)<;>(try split)<;>omega
theorem cmpL_self:∀ a:List Int,cmpL a a=0
 |[]=>rfl
 |a :: r=>by unfold cmpL;rw [cmpI_self,if_neg (by simp)];exact cmpL_self r
theorem cmpL_swap:∀ a b:List Int,cmpL b a = -cmpL a b
 |[],[]=>rfl
 |[],_ :: _=>rfl
 |_ :: _,[]=>rfl
 |a :: r,b :: t=>by
  unfold cmpL
  rw [cmpI_swap a b]
  have:=cmpL_swap r t
  split<;>split<;>omega
theorem cmpL_zero:∀ {a b:List Int},cmpL a b=0→a=b
 |[],[],_=>rfl
 |[],_ :: _,h=>by cases h
 |_ :: _,[],h=>by cases h
 |a :: r,b :: t,h=>by
  unfold cmpL at h
  split at h
  ·rename_i h1;exact absurd h h1
  ·rename_i h1
   rw [cmpI_zero.1 (Classical.not_not.1 h1),cmpL_zero h]
theorem cmpL_trans:∀ {a b c:List Int},cmpL a b≤0→cmpL b c≤0→cmpL a c≤0
 |[],[],_,_,h=>h
 |[],_ :: _,[],_,h=>by unfold cmpL at h;omega
 |[],_ :: _,_ :: _,_,_=>by unfold cmpL;omega
 |_ :: _,[],_,h,_=>by unfold cmpL at h;omega
 |_ :: _,_ :: _,[],_,h=>by unfold cmpL at h;omega
 |a :: r,b :: t,c :: u,h1,h2=>by
  unfold cmpL at h1 h2 ⊢
  by_cases e1:a=b
  ·subst e1
   rw [cmpI_self,if_neg (by simp)] at h1
   split
   ·rename_i h3;rw [if_pos h3] at h2;exact h2
   ·rename_i h3;rw [if_neg h3] at h2;exact cmpL_trans h1 h2
  ·have e1':cmpI a b≠0:=fun h=>e1 (cmpI_zero.1 h)
   rw [if_pos e1'] at h1
   have hab:=cmpI_neg.1 (show cmpI a b < 0 by omega)
   have hbc:b≤c:=by
    by_cases e2:b=c
    ·omega
    ·have e2':cmpI b c≠0:=fun h=>e2 (cmpI_zero.1 h)
     rw [if_pos e2'] at h2
     have:=cmpI_neg.1 (show cmpI b c < 0 by omega);omega
   have:=cmpI_neg.2 (show a < c by omega)
   rw [if_pos (by omega)];omega
def leP (a b:Pl):Prop:=cmpP a b≤0
theorem leP_iff (a b:Pl):leP a b ↔ b.worth < a.worth∨(a.worth=b.worth∧(a.idx.length < b.idx.length∨(a.idx.length=b.idx.length∧cmpL a.idx b.idx≤0))):=by
 unfold leP cmpP
 have h1:=@cmpI_neg b.worth a.worth
 have h2:=@cmpI_zero b.worth a.worth
 have h3:=@cmpI_neg (a.idx.length:Int) (b.idx.length:Int)
 have h4:=@cmpI_zero (a.idx.length:Int) (b.idx.length:Int)
 split
 ·omega
 ·split<;>omega
theorem leP_refl (a:Pl):leP a a:=(leP_iff a a).2 (.inr ⟨rfl,.inr ⟨rfl,by rw [cmpL_self];exact Int.le_refl _⟩⟩)
theorem leP_trans {a b c:Pl} (h1:leP a b) (h2:leP b c):leP a c:=by
 rw [leP_iff] at *
 rcases h1 with h1|⟨h1,h1'⟩
 ·rcases h2 with h2|⟨h2,_⟩<;>exact .inl (by omega)
 ·rcases h2 with h2|⟨h2,h2'⟩
  ·exact .inl (by omega)
  ·refine .inr ⟨by omega,?_⟩
   rcases h1' with h1'|⟨h1',h1''⟩
   ·rcases h2' with h2'|⟨h2',_⟩<;>exact .inl (by omega)
   ·rcases h2' with h2'|⟨h2',h2''⟩
    ·exact .inl (by omega)
    ·exact .inr ⟨by omega,cmpL_trans h1'' h2''⟩
theorem leP_of_not {a b:Pl} (h:¬ cmpP a b < 0):leP b a:=by
 rw [leP_iff]
 have:=(leP_iff a b)
 unfold leP at this
 by_cases e:cmpP a b=0
 ·have h1:=this.1 (by omega)
  have h2:a=b:=by
   unfold cmpP at e
   split at e
   ·rename_i h;exact absurd e h
   ·rename_i h3
    split at e
    ·rename_i h;exact absurd e h
    ·have hw:=cmpI_zero.1 (Classical.not_not.1 h3)
     have hi:=cmpL_zero e
     cases a;cases b;simp_all
  subst h2
  exact .inr ⟨rfl,.inr ⟨rfl,by rw [cmpL_self];exact Int.le_refl _⟩⟩
 ·have h1:=mt this.2 (by omega)
  have:=cmpL_swap a.idx b.idx
  omega
theorem leP_of_lt {a b:Pl} (h:cmpP a b < 0):leP a b:=Int.le_of_lt h
theorem minP_le:∀ (l:List Pl) (m:Pl),leP (minP m l) m∧∀ x ∈ l,leP (minP m l) x
 |[],m=>⟨leP_refl m,by simp⟩
 |x :: r,m=>by
  unfold minP
  obtain ⟨h1,h2⟩:=minP_le r (if cmpP x m < 0 then x else m)
  have h3:leP (if cmpP x m < 0 then x else m) m∧leP (if cmpP x m < 0 then x else m) x:=by
   split
   ·rename_i h;exact ⟨leP_of_lt h,leP_refl x⟩
   ·rename_i h;exact ⟨leP_refl m,leP_of_not h⟩
  refine ⟨leP_trans h1 h3.1,fun y hy=>?_⟩
  rcases List.mem_cons.1 hy with rfl|hy
  ·exact leP_trans h1 h3.2
  ·exact h2 y hy
theorem bestP_le {l:List Pl}:∀ x ∈ l,leP (bestP l) x:=by
 cases l with
 |nil=>simp
 |cons x r =>
  intro y hy
  rcases List.mem_cons.1 hy with rfl|hy
  ·exact (minP_le r y).1
  ·exact (minP_le r x).2 y hy
end Sh

namespace Sh
open Go
def db110_0 : DC := (.seq (.seq (.ops false [⟨some 15,.mov (.tmp 6),none,[]⟩,⟨some 16,.mov (.tmp 5),none,[]⟩,⟨some 17,.bin .lss (.tmp 15) (.tmp 16),none,[]⟩]) (.cond (.tmp 17) .skip (.exit 2))) (.seq (.block 3 none (.ops false [⟨some 20,.mov (.tmp 3),none,[]⟩,⟨some 21,.lit false 1 0 (.int .i64 0) [],none,[]⟩,⟨some 22,.mov (.tmp 3),none,[]⟩,⟨some 23,.mov (.tmp 6),none,[]⟩,⟨some 24,.iaddr 1 (.tmp 22) (.tmp 23),none,[]⟩,⟨some 25,.load none (.tmp 24),none,[]⟩,⟨some 26,.append false 1 (.tmp 21) (.tmp 25),none,[]⟩,⟨some 27,.mov (.tmp 4),none,[]⟩,⟨some 28,.lit true 1 1 (.int .i64 0) [(0,(.tmp 27))],none,[]⟩,⟨some 29,.append false 1 (.tmp 26) (.tmp 28),none,[]⟩,⟨some 30,.lit true 1 1 (.full []) [(0,(.tmp 29))],none,[]⟩,⟨some 31,.append false 1 (.tmp 20) (.tmp 30),none,[]⟩,⟨some 3,.mov (.tmp 31),none,[]⟩])) (.ops false [⟨some 18,.mov (.tmp 6),none,[]⟩,⟨some 19,.bin .add (.tmp 18) (.const (.int .i64 1)),none,[]⟩,⟨some 6,.mov (.tmp 19),none,[]⟩])))
def dk110_0 : Keep := ⟨[(3,1)],[0,3,4,5,6],[3,7]⟩
def db110_1 : DC := (.seq (.seq (.ops false [⟨some 8,.mov (.tmp 4),none,[]⟩,⟨some 9,.mov (.tmp 0),none,[]⟩,⟨some 10,.bin .lss (.tmp 8) (.tmp 9),none,[]⟩]) (.cond (.tmp 10) .skip (.exit 0))) (.seq (.block 1 (some ⟨[],[0,3,4],[3,7]⟩) (.seq (.ops false [⟨some 13,.mov (.tmp 3),none,[]⟩,⟨some 14,.len (.tmp 13),none,[]⟩,⟨some 5,.mov (.tmp 14),none,[]⟩]) (.seq (.ops false [⟨some 6,.mov (.const (.int .i64 0)),none,[]⟩]) (.block 2 (some ⟨[],[0,3,4],[3,7]⟩) (.loop dk110_0 db110_0))))) (.ops false [⟨some 11,.mov (.tmp 4),none,[]⟩,⟨some 12,.bin .add (.tmp 11) (.const (.int .i64 1)),none,[]⟩,⟨some 4,.mov (.tmp 12),none,[]⟩])))
def dk110_1 : Keep := ⟨[(3,1)],[0,3,4],[3,7]⟩
def dc110 : DFunc := ⟨33,1,[.tmp 2],.seq (.ops false [⟨some 2,.mov (.const (.slice none 0 0)),none,[]⟩]) (.seq (.ops false [⟨some 7,.lit false 1 1 (.full []) [(0,(.const (.slice none 0 0)))],none,[]⟩,⟨some 3,.mov (.tmp 7),none,[]⟩]) (.seq (.seq (.ops false [⟨some 4,.mov (.const (.int .i64 0)),none,[]⟩]) (.block 0 (some ⟨[],[3],[3,7]⟩) (.loop dk110_1 db110_1))) (.seq (.ops false [⟨some 32,.mov (.tmp 3),none,[]⟩,⟨some 2,.mov (.tmp 32),none,[]⟩]) .ret)))⟩
theorem dh110:cProg Go.Proofs.Tryz.prog ⟨[(0,⟨[(3,1)],[0,3,4],[3,7]⟩),(2,⟨[(3,1)],[0,3,4,5,6],[3,7]⟩)],[(2,⟨[],[0,3,4],[3,7]⟩),(1,⟨[],[0,3,4],[3,7]⟩),(0,⟨[],[3],[3,7]⟩)],[28,30]⟩ 110=some dc110:=by kernel_rfl
def db111_0 : DC := (.seq (.seq (.ops false [⟨some 16,.mov (.tmp 5),none,[]⟩,⟨some 17,.mov (.tmp 0),none,[]⟩,⟨some 18,.len (.tmp 17),none,[]⟩,⟨some 19,.bin .lss (.tmp 16) (.tmp 18),none,[]⟩]) (.cond (.tmp 19) .skip (.exit 0))) (.seq (.block 1 none (.seq (.ops true [⟨some 22,.mov (.tmp 0),none,[]⟩,⟨some 23,.mov (.tmp 5),none,[]⟩,⟨some 24,.iaddr 1 (.tmp 22) (.tmp 23),none,[0,1]⟩,⟨some 25,.load none (.tmp 24),none,[2,0,1]⟩,⟨some 26,.mov (.tmp 1),none,[]⟩,⟨some 27,.mov (.tmp 5),none,[]⟩,⟨some 28,.iaddr 1 (.tmp 26) (.tmp 27),none,[4,5]⟩,⟨some 29,.load none (.tmp 28),none,[6,4,5]⟩,⟨some 30,.bin .neq (.tmp 25) (.tmp 29),none,[3,2,0,1,7,6,4,5]⟩]) (.cond (.tmp 30) (.seq (.ops true [⟨some 31,.mov (.tmp 0),none,[]⟩,⟨some 32,.mov (.tmp 5),none,[]⟩,⟨some 33,.iaddr 1 (.tmp 31) (.tmp 32),none,[0,1]⟩,⟨some 34,.load none (.tmp 33),none,[2,0,1]⟩,⟨some 35,.mov (.tmp 1),none,[]⟩,⟨some 36,.mov (.tmp 5),none,[]⟩,⟨some 37,.iaddr 1 (.tmp 35) (.tmp 36),none,[4,5]⟩,⟨some 38,.load none (.tmp 37),none,[6,4,5]⟩,⟨some 39,.bin .lss (.tmp 34) (.tmp 38),none,[3,2,0,1,7,6,4,5]⟩,⟨some 4,.mov (.tmp 39),none,[8,3,2,0,1,7,6,4,5]⟩]) .ret) .skip))) (.ops false [⟨some 20,.mov (.tmp 5),none,[]⟩,⟨some 21,.bin .add (.tmp 20) (.const (.int .i64 1)),none,[]⟩,⟨some 5,.mov (.tmp 21),none,[]⟩])))
def dk111_0 : Keep := ⟨[],[0,1,5],[]⟩
def dc111 : DFunc := ⟨40,2,[.tmp 4],.seq (.ops false [⟨some 4,.mov (.const (.bool false)),none,[]⟩]) (.seq (.seq (.ops false [⟨some 6,.mov (.tmp 0),none,[]⟩,⟨some 7,.len (.tmp 6),none,[]⟩,⟨some 8,.mov (.tmp 1),none,[]⟩,⟨some 9,.len (.tmp 8),none,[]⟩,⟨some 10,.bin .neq (.tmp 7) (.tmp 9),none,[]⟩]) (.cond (.tmp 10) (.seq (.ops false [⟨some 11,.mov (.tmp 0),none,[]⟩,⟨some 12,.len (.tmp 11),none,[]⟩,⟨some 13,.mov (.tmp 1),none,[]⟩,⟨some 14,.len (.tmp 13),none,[]⟩,⟨some 15,.bin .lss (.tmp 12) (.tmp 14),none,[]⟩,⟨some 4,.mov (.tmp 15),none,[]⟩]) .ret) .skip)) (.seq (.seq (.ops false [⟨some 5,.mov (.const (.int .i64 0)),none,[]⟩]) (.block 0 (some ⟨[],[],[]⟩) (.loop dk111_0 db111_0))) (.seq (.ops false [⟨some 4,.mov (.const (.bool false)),none,[]⟩]) .ret)))⟩
theorem dh111:cProg Go.Proofs.Tryz.prog ⟨[(0,⟨[],[0,1,5],[]⟩)],[(0,⟨[],[],[]⟩)],[]⟩ 111=some dc111:=by kernel_rfl
end Sh

namespace Sh
open Go Go.Proofs
def soonB (a b:List Int):Bool:=if a.length≠b.length then decide (a.length < b.length) else decide (cmpL a b < 0)
theorem cmpI_ne {a b:Int} (h:a≠b):cmpI a b≠0:=fun e=>h (cmpI_zero.1 e)
theorem r_Sooner (a b:List Int) (ha:a.length < 1073741824):PC 111 [iL a,iL b] (.bool (soonB a b)):=by
 have e0:((a.map (DV.int .i64)).length:Int)=a.length:=by simp
 have e1:((b.map (DV.int .i64)).length:Int)=b.length:=by simp
 refine pureCall_ofR dh111 rfl ?_
 conv=>whnf
 rw [e0,e1]
 refine ⟨fun hg=>?_,fun hg=>?_⟩
 ·have hg:=of_decide_eq_true hg
  conv=>whnf
  refine bool_eq ?_
  unfold soonB
  rw [if_pos (by omega),decide_eq_decide]
  omega
 ·have hg:=of_decide_eq_false hg
  have hlen:a.length=b.length:=by omega
  have hk:soonB a b=decide (cmpL a b < 0):=by unfold soonB;rw [if_neg (by omega)]
  clear hg
  rw [hk]
  conv=>whnf
  refine dwp_loopU (P:=Tryz.prog) (G:=GC) (k:=dk111_0) (b:=db111_0) (α:=Nat) (fun i=>[(5,DV.int .i64 (i))]) (fun _=>[]) (fun i=>i≤a.length∧cmpL a b=cmpL (a.drop i) (b.drop i)) (fun i=>a.length - i) 0 ⟨Nat.zero_le _,rfl⟩ ?_
  conv=>whnf
  refine ⟨rfl,rfl,?_⟩
  conv=>whnf
  refine ⟨rfl,?_⟩
  intro i ⟨h1,h2⟩
  conv=>whnf
  refine ⟨fun hb=>?_,fun hb=>?_⟩
  ·have hi:i < a.length:=by simpa using hb
   clear hb
   have hd:=cmpL_drop a b i hi (by omega)
   conv=>whnf
   rw [getD_enc _ _ (i) 0 hi]
   refine ⟨idxA hi rfl,?_⟩
   conv=>whnf
   rw [getD_enc _ _ (i) 0 (by omega:i < b.length)]
   refine ⟨idxA (by omega:i < b.length) rfl,?_⟩
   conv=>whnf
   refine ⟨by kernel_rfl,?_⟩
   conv=>whnf
   refine ⟨fun hg=>?_,fun hg=>?_⟩
   ·have hg:a.getD i 0≠b.getD i 0:=of_decide_eq_true hg
    rw [if_pos (cmpI_ne hg)] at hd
    conv=>whnf
    rw [getD_enc _ _ (i) 0 hi]
    refine ⟨idxA hi rfl,?_⟩
    conv=>whnf
    rw [getD_enc _ _ (i) 0 (by omega:i < b.length)]
    refine ⟨idxA (by omega:i < b.length) rfl,?_⟩
    conv=>whnf
    refine ⟨by kernel_rfl,?_⟩
    conv=>whnf
    refine bool_eq ?_
    rw [h2,hd,decide_eq_decide]
    exact cmpI_neg.symm
   ·have hg:¬ a.getD i 0≠b.getD i 0:=of_decide_eq_false hg
    rw [if_neg (by rw [cmpI_zero.2 (by omega)];simp)] at hd
    conv=>whnf
    rw [wrap_succ i (by omega)]
    exact ⟨i+1,rfl,rfl,rfl,⟨hi,by rw [h2,hd]⟩,by omega⟩
  ·have hi:i=a.length:=by have:=of_decide_eq_false hb;rw [e0] at this;omega
   clear hb
   conv=>whnf
   refine bool_eq ?_
   rw [h2,hi,List.drop_of_length_le (Nat.le_refl _),List.drop_of_length_le (by omega)]
   rfl
def ssD (l:List (List Int)):List DV:=l.map iL
theorem ssD_len (l:List (List Int)):(ssD l).length=l.length:=List.length_map _
theorem ssD_app (l:List (List Int)) (x:List Int):ssD (l++[x])=ssD l++[iL x]:=by unfold ssD;rw [List.map_append];rfl
theorem ssD_get (l:List (List Int)) (i:Nat) (h:i < l.length):(ssD l).getD i .undef=iL (l.getD i []):=by unfold ssD;simp [List.getD_eq_getElem?_getD,h]
def setJ (i k:Nat):List (List Int):=setsS i++((setsS i).take k).map (·++[(i:Int)])
theorem setsS_len:∀ n,(setsS n).length=2 ^ n
 |0=>rfl
 |n+1=>by unfold setsS;rw [List.length_append,List.length_map,setsS_len n,Nat.pow_succ];omega
theorem setsS_el:∀ n,∀ x ∈ setsS n,x.length≤n
 |0,x,hx=>by unfold setsS at hx;simp at hx;subst hx;simp
 |n+1,x,hx=>by
  unfold setsS at hx
  rcases List.mem_append.1 hx with h|h
  ·have:=setsS_el n x h;omega
  ·obtain ⟨y,hy,rfl⟩:=List.mem_map.1 h
   have:=setsS_el n y hy
   simp;omega
theorem setJ_len (i k:Nat) (h:k≤2 ^ i):(setJ i k).length=2 ^ i+k:=by unfold setJ;rw [List.length_append,List.length_map,List.length_take,setsS_len];omega
theorem setJ_succ (i k:Nat) (h:k < 2 ^ i):setJ i (k+1)=setJ i k++[(setsS i).getD k []++[(i:Int)]]:=by
 unfold setJ
 rw [take_snoc _ _ [] (by rw [setsS_len];exact h),List.map_append,← List.append_assoc];rfl
theorem setJ_get (i k:Nat) (h:k < 2 ^ i) (j:Nat):(setJ i j).getD k []=(setsS i).getD k []:=by
 have hl:k < (setsS i).length:=by rw [setsS_len];exact h
 unfold setJ
 simp [List.getD_eq_getElem?_getD,List.getElem?_append_left hl]
theorem setJ_all (i:Nat):setJ i (2 ^ i)=setsS (i+1):=by
 unfold setJ
 rw [List.take_of_length_le (by rw [setsS_len];exact Nat.le_refl _)];rfl
theorem r_Sets (n:Nat) (hn:n≤12):PC 110 [DV.int .i64 (n)] (.list (ssD (setsS n))):=by
 refine pureCall_ofR dh110 rfl ?_
 conv=>whnf
 refine dwp_loopU (P:=Tryz.prog) (G:=GC) (k:=dk110_1) (b:=db110_1) (α:=Nat) (fun i=>[(3,.own 7 0 (ssD (setsS i)).length (ssD (setsS i)).length),(4,DV.int .i64 (i))]) (fun i=>[(7,.row 1 (ssD (setsS i)) false)]) (fun i=>i≤n) (fun i=>n - i) 0 (Nat.zero_le _) ?_
 conv=>whnf
 refine ⟨rfl,rfl,?_⟩
 conv=>whnf
 refine ⟨rfl,?_⟩
 intro i h1
 have hpow:2 ^ i≤4096:=Nat.le_trans (Nat.pow_le_pow_right (by decide) (show i≤12 by omega)) (by decide)
 conv=>whnf
 refine ⟨fun hb=>?_,fun hb=>?_⟩
 ·have hi:i < n:=by have:=of_decide_eq_true hb;omega
  clear hb
  conv=>whnf
  refine ⟨rfl,?_⟩
  have hsl:=setsS_len i
  have hsl2:=ssD_len (setsS i)
  rw [show ((ssD (setsS i)).length:Int)=((2 ^ i:Nat):Int) by rw [hsl2,hsl]]
  have hs0:setsS i=setJ i 0:=by unfold setJ;simp
  have hel:=setsS_el i
  conv=>whnf
  rw [hs0]
  generalize hP:2 ^ i=P at *
  refine dwp_loopU (P:=Tryz.prog) (G:=GC) (k:=dk110_0) (b:=db110_0) (α:=Nat) (fun k=>[(3,.own 7 0 (ssD (setJ i k)).length (ssD (setJ i k)).length),(6,DV.int .i64 (k))]) (fun k=>[(7,.row 1 (ssD (setJ i k)) false)]) (fun k=>k≤P) (fun k=>P - k) 0 (Nat.zero_le _) ?_
  conv=>whnf
  refine ⟨rfl,rfl,?_⟩
  conv=>whnf
  refine ⟨rfl,?_⟩
  intro k h2
  conv=>whnf
  refine ⟨fun hb=>?_,fun hb=>?_⟩
  ·have hk:k < P:=by have:=of_decide_eq_true hb;omega
   clear hb
   have hkl:k < (setsS i).length:=by omega
   have hjl:=setJ_len i k (by omega)
   have hjs:=setJ_succ i k (by omega)
   have hjg:=setJ_get i k (by omega) k
   have hex:=hel _ (getD_in (i:=k) [] hkl)
   have hsd:(ssD (setJ i k)).getD k .undef=iL ((setsS i).getD k []):=by rw [ssD_get _ _ (by omega),hjg]
   have hsdl:(ssD (setJ i k)).length=P+k:=by rw [ssD_len,hjl,hP]
   generalize (setsS i).getD k []=x at *
   generalize hR:setJ i k=R at *
   conv=>whnf
   refine ⟨⟨rfl,by omega,by omega⟩,?_⟩
   rw [Int.toNat_natCast,Nat.zero_add]
   conv=>whnf
   rw [hsd]
   refine ⟨⟨rfl,by decide⟩,?_⟩
   conv=>whnf
   refine ⟨⟨rfl,rfl,rfl,by rw [List.length_map];simp;omega,fun e he=>iD_ok x e he⟩,?_⟩
   conv=>whnf
   refine ⟨⟨rfl,rfl,rfl,by simp;omega,fun e he=>by simp at he;subst he;rfl⟩,?_⟩
   conv=>whnf
   rw [window_full]
   refine ⟨rfl,?_⟩
   conv=>whnf
   refine ⟨⟨rfl,rfl,rfl,by rw [hsdl];simp;omega,fun e he=>by simp at he;subst he;rfl⟩,?_⟩
   conv=>whnf
   rw [wrap_succ k (by omega)]
   have hfin:ssD R++[.list ([]++List.map (DV.int .i64) x++[DV.int .i64 (i)])]=ssD (setJ i (k+1)):=by
    rw [hjs,ssD_app];unfold iL;rw [List.map_append];rfl
   refine ⟨k+1,rfl,?_,?_,hk,by omega⟩
   ·rw [← hfin];rfl
   ·rw [← hfin];rfl
  ·have hk:k=P:=by have:=of_decide_eq_false hb;omega
   clear hb
   have hja:=setJ_all i
   rw [hP] at hja
   rw [hk,hja]
   conv=>whnf
   rw [wrap_succ i (by omega)]
   exact ⟨i+1,rfl,rfl,rfl,hi,by omega⟩
 ·have hi:i=n:=by have:=of_decide_eq_false hb;omega
  subst hi
  clear hb
  conv=>whnf
  refine ⟨rfl,?_⟩
  rw [window_full];rfl
end Sh

namespace Sh
open Go Go.Proofs
theorem cmpP_better (x m:Pl):(cmpP x m < 0) ↔ (m.worth < x.worth∨(x.worth=m.worth∧soonB x.idx m.idx=true)):=by
 unfold cmpP
 by_cases h:cmpI m.worth x.worth≠0
 ·rw [if_pos h,cmpI_neg]
  have hne:m.worth≠x.worth:=fun e=>h (cmpI_zero.2 e)
  constructor
  ·exact .inl
  ·rintro (h|⟨h,_⟩)
   ·exact h
   ·exact absurd h.symm hne
 ·rw [if_neg h]
  have heq:m.worth=x.worth:=cmpI_zero.1 (by omega)
  have hs:soonB x.idx m.idx=true ↔ (if cmpI x.idx.length m.idx.length≠0 then cmpI x.idx.length m.idx.length else cmpL x.idx m.idx) < 0:=by
   unfold soonB
   by_cases hl:x.idx.length≠m.idx.length
   ·rw [if_pos hl,if_pos (cmpI_ne (by omega)),cmpI_neg,decide_eq_true_eq];omega
   ·rw [if_neg hl,if_neg (by rw [cmpI_zero.2 (by omega)];simp),decide_eq_true_eq]
  rw [← hs]
  constructor
  ·exact fun h=>.inr ⟨heq.symm,h⟩
  ·rintro (h|⟨_,h⟩)
   ·omega
   ·exact h
end Sh

namespace Sh
open Go
def db53_0 : DC := (.seq (.seq (.ops false [⟨some 12,.mov (.tmp 9),none,[]⟩,⟨some 13,.mov (.tmp 2),none,[]⟩,⟨some 14,.len (.tmp 13),none,[]⟩,⟨some 15,.bin .lss (.tmp 12) (.tmp 14),none,[]⟩]) (.cond (.tmp 15) .skip (.exit 0))) (.seq (.block 1 none (.seq (.ops true [⟨some 18,.mov (.tmp 8),none,[]⟩,⟨some 19,.load (some 2) (.tmp 7),none,[]⟩,⟨some 20,.mov (.tmp 1),none,[]⟩,⟨some 21,.mov (.tmp 2),none,[]⟩,⟨some 22,.mov (.tmp 9),none,[]⟩,⟨some 23,.iaddr 1 (.tmp 21) (.tmp 22),none,[3,4]⟩,⟨some 24,.load none (.tmp 23),none,[5,3,4]⟩,⟨some 25,.iaddr 5 (.tmp 20) (.tmp 24),none,[2,6,5,3,4]⟩,⟨some 26,.faddr 1 2 true (.tmp 25),none,[7,2,6,5,3,4]⟩,⟨some 27,.load (some 2) (.tmp 26),none,[8,7,2,6,5,3,4]⟩,⟨some 28,.call (.func 122) [.tmp 19,.tmp 27],none,[1,9,8,7,2,6,5,3,4]⟩,⟨some 29,.bin .add (.tmp 18) (.tmp 28),none,[0,10,1,9,8,7,2,6,5,3,4]⟩,⟨some 8,.mov (.tmp 29),none,[11,0,10,1,9,8,7,2,6,5,3,4]⟩]) (.ops false [⟨some 30,.mov (.tmp 1),none,[]⟩,⟨some 31,.mov (.tmp 2),none,[]⟩,⟨some 32,.mov (.tmp 9),none,[]⟩,⟨some 33,.iaddr 1 (.tmp 31) (.tmp 32),none,[]⟩,⟨some 34,.load none (.tmp 33),none,[]⟩,⟨some 35,.iaddr 5 (.tmp 30) (.tmp 34),none,[]⟩,⟨some 36,.faddr 1 2 true (.tmp 35),none,[]⟩,⟨some 37,.load (some 2) (.tmp 36),none,[]⟩,⟨none,.store 2 (.tmp 7) (.tmp 37),none,[]⟩]))) (.ops false [⟨some 16,.mov (.tmp 9),none,[]⟩,⟨some 17,.bin .add (.tmp 16) (.const (.int .i64 1)),none,[]⟩,⟨some 9,.mov (.tmp 17),none,[]⟩])))
def dk53_0 : Keep := ⟨[],[1,2,3,7,8,9],[3,7]⟩
def dc53 : DFunc := ⟨44,3,[.tmp 6],.seq (.ops false [⟨some 3,.box 4 (.tmp 0),none,[]⟩,⟨some 6,.mov (.const (.int .i64 0)),none,[]⟩]) (.seq (.ops false [⟨some 10,.faddr 0 2 true (.tmp 3),none,[]⟩,⟨some 11,.load (some 2) (.tmp 10),none,[]⟩,⟨some 7,.alloc (.agg [.int .i64 0,.int .i64 0]) 2,none,[]⟩,⟨none,.store 2 (.tmp 7) (.tmp 11),none,[]⟩,⟨some 8,.mov (.const (.int .i64 0)),none,[]⟩]) (.seq (.seq (.ops false [⟨some 9,.mov (.const (.int .i64 0)),none,[]⟩]) (.block 0 (some ⟨[],[3,7,8],[3,7]⟩) (.loop dk53_0 db53_0))) (.seq (.ops false [⟨some 38,.mov (.tmp 8),none,[]⟩,⟨some 39,.load (some 2) (.tmp 7),none,[]⟩,⟨some 40,.faddr 0 2 true (.tmp 3),none,[]⟩,⟨some 41,.load (some 2) (.tmp 40),none,[]⟩,⟨some 42,.call (.func 122) [.tmp 39,.tmp 41],none,[]⟩,⟨some 43,.bin .add (.tmp 38) (.tmp 42),none,[]⟩,⟨some 6,.mov (.tmp 43),none,[]⟩]) .ret)))⟩
theorem dh53:cProg Go.Proofs.Tryz.prog ⟨[(0,⟨[],[1,2,3,7,8,9],[3,7]⟩)],[(0,⟨[],[3,7,8],[3,7]⟩)],[]⟩ 53=some dc53:=by kernel_rfl
def db54_0 : DC := (.seq (.seq (.ops false [⟨some 21,.mov (.tmp 11),none,[]⟩,⟨some 22,.mov (.tmp 8),none,[]⟩,⟨some 23,.len (.tmp 22),none,[]⟩,⟨some 24,.bin .lss (.tmp 21) (.tmp 23),none,[]⟩]) (.cond (.tmp 24) .skip (.exit 0))) (.seq (.block 1 none (.seq (.ops true [⟨some 27,.load (some 4) (.tmp 3),none,[]⟩,⟨some 28,.mov (.tmp 1),none,[]⟩,⟨some 29,.mov (.tmp 8),none,[]⟩,⟨some 30,.mov (.tmp 11),none,[]⟩,⟨some 31,.iaddr 1 (.tmp 29) (.tmp 30),none,[2,3]⟩,⟨some 32,.load none (.tmp 31),none,[4,2,3]⟩,⟨some 33,.call (.func 53) [.tmp 27,.tmp 28,.tmp 32],none,[0,1,5,4,2,3]⟩,⟨some 12,.mov (.tmp 33),none,[6,0,1,5,4,2,3]⟩]) (.seq (.ops false [⟨some 34,.mov (.tmp 12),none,[]⟩,⟨some 35,.mov (.tmp 10),none,[]⟩,⟨some 36,.bin .lss (.tmp 34) (.tmp 35),none,[]⟩]) (.cond (.tmp 36) (.ops false [⟨some 37,.mov (.tmp 11),none,[]⟩,⟨some 38,.mov (.tmp 12),none,[]⟩,⟨some 9,.mov (.tmp 37),none,[]⟩,⟨some 10,.mov (.tmp 38),none,[]⟩]) .skip)))) (.ops false [⟨some 25,.mov (.tmp 11),none,[]⟩,⟨some 26,.bin .add (.tmp 25) (.const (.int .i64 1)),none,[]⟩,⟨some 11,.mov (.tmp 26),none,[]⟩])))
def dk54_0 : Keep := ⟨[],[1,3,8,9,10,11],[3]⟩
def dc54 : DFunc := ⟨44,3,[.tmp 6,.tmp 7],.seq (.ops false [⟨some 3,.box 4 (.tmp 0),none,[]⟩,⟨some 6,.mov (.const (.slice none 0 0)),none,[]⟩,⟨some 7,.mov (.const (.int .i64 0)),none,[]⟩]) (.seq (.ops false [⟨some 13,.mov (.tmp 2),none,[]⟩,⟨some 14,.call (.func 123) [.tmp 13,.const (.slice none 0 0)],none,[]⟩,⟨some 8,.mov (.tmp 14),none,[]⟩]) (.seq (.ops true [⟨some 15,.load (some 4) (.tmp 3),none,[]⟩,⟨some 16,.mov (.tmp 1),none,[]⟩,⟨some 17,.mov (.tmp 8),none,[]⟩,⟨some 18,.iaddr 1 (.tmp 17) (.const (.int .i64 0)),none,[2]⟩,⟨some 19,.load none (.tmp 18),none,[3,2]⟩,⟨some 20,.call (.func 53) [.tmp 15,.tmp 16,.tmp 19],none,[0,1,4,3,2]⟩,⟨some 9,.mov (.const (.int .i64 0)),none,[5,0,1,4,3,2]⟩,⟨some 10,.mov (.tmp 20),none,[5,0,1,4,3,2,6]⟩]) (.seq (.seq (.ops false [⟨some 11,.mov (.const (.int .i64 1)),none,[]⟩]) (.block 0 (some ⟨[],[8,9,10],[3]⟩) (.loop dk54_0 db54_0))) (.seq (.ops false [⟨some 39,.mov (.tmp 8),none,[]⟩,⟨some 40,.mov (.tmp 9),none,[]⟩,⟨some 41,.iaddr 1 (.tmp 39) (.tmp 40),none,[]⟩,⟨some 42,.load none (.tmp 41),none,[]⟩,⟨some 43,.mov (.tmp 10),none,[]⟩,⟨some 6,.mov (.tmp 42),none,[]⟩,⟨some 7,.mov (.tmp 43),none,[]⟩]) .ret))))⟩
theorem dh54:cProg Go.Proofs.Tryz.prog ⟨[(0,⟨[],[1,3,8,9,10,11],[3]⟩)],[(0,⟨[],[8,9,10],[3]⟩)],[]⟩ 54=some dc54:=by kernel_rfl
def db60_0 : DC := (.seq (.seq (.ops false [⟨some 17,.mov (.tmp 9),none,[]⟩,⟨some 18,.mov (.tmp 6),none,[]⟩,⟨some 19,.len (.tmp 18),none,[]⟩,⟨some 20,.bin .lss (.tmp 17) (.tmp 19),none,[]⟩]) (.cond (.tmp 20) .skip (.exit 0))) (.seq (.block 1 none (.seq (.seq (.ops true [⟨some 23,.mov (.tmp 1),none,[]⟩,⟨some 24,.mov (.tmp 6),none,[]⟩,⟨some 25,.mov (.tmp 9),none,[]⟩,⟨some 26,.iaddr 1 (.tmp 24) (.tmp 25),none,[1,2]⟩,⟨some 27,.load none (.tmp 26),none,[3,1,2]⟩,⟨some 28,.call (.func 129) [.tmp 23,.tmp 27],none,[0,4,3,1,2]⟩,⟨some 29,.faddr 2 1 false (.tmp 2),none,[]⟩,⟨some 30,.load none (.tmp 29),none,[6]⟩,⟨some 31,.bin .gtr (.tmp 28) (.tmp 30),none,[5,0,4,3,1,2,7,6]⟩]) (.cond (.tmp 31) (.exit 1) .skip)) (.seq (.ops true [⟨some 32,.load (some 4) (.tmp 2),none,[]⟩,⟨some 33,.mov (.tmp 1),none,[]⟩,⟨some 34,.mov (.tmp 6),none,[]⟩,⟨some 35,.mov (.tmp 9),none,[]⟩,⟨some 36,.iaddr 1 (.tmp 34) (.tmp 35),none,[2,3]⟩,⟨some 37,.load none (.tmp 36),none,[4,2,3]⟩,⟨some 38,.call (.func 130) [.tmp 32,.tmp 33,.tmp 37],none,[0,1,5,4,2,3]⟩,⟨some 10,.mov (.tmp 38),none,[6,0,1,5,4,2,3]⟩]) (.seq (.ops false [⟨some 39,.mov (.tmp 10),none,[]⟩,⟨some 40,.mov (.tmp 8),none,[]⟩,⟨some 41,.bin .gtr (.tmp 39) (.tmp 40),none,[]⟩,⟨some 42,.mov (.tmp 41),none,[]⟩,⟨some 43,.mov (.tmp 10),some (42,false),[]⟩,⟨some 44,.mov (.tmp 8),some (42,false),[]⟩,⟨some 45,.bin .eql (.tmp 43) (.tmp 44),some (42,false),[]⟩,⟨some 46,.mov (.tmp 45),some (42,false),[]⟩,⟨some 47,.mov (.tmp 6),some (46,true),[]⟩,⟨some 48,.mov (.tmp 9),some (46,true),[]⟩,⟨some 49,.iaddr 1 (.tmp 47) (.tmp 48),some (46,true),[]⟩,⟨some 50,.load none (.tmp 49),some (46,true),[]⟩,⟨some 51,.mov (.tmp 7),some (46,true),[]⟩,⟨some 52,.call (.func 111) [.tmp 50,.tmp 51],some (46,true),[]⟩,⟨some 53,.pick (.tmp 46) (.tmp 52) (.const (.bool false)),some (42,false),[]⟩,⟨some 54,.pick (.tmp 42) (.const (.bool true)) (.tmp 53),none,[]⟩]) (.cond (.tmp 54) (.ops false [⟨some 55,.mov (.tmp 6),none,[]⟩,⟨some 56,.mov (.tmp 9),none,[]⟩,⟨some 57,.iaddr 1 (.tmp 55) (.tmp 56),none,[]⟩,⟨some 58,.load none (.tmp 57),none,[]⟩,⟨some 59,.mov (.tmp 10),none,[]⟩,⟨some 7,.mov (.tmp 58),none,[]⟩,⟨some 8,.mov (.tmp 59),none,[]⟩]) .skip))))) (.ops false [⟨some 21,.mov (.tmp 9),none,[]⟩,⟨some 22,.bin .add (.tmp 21) (.const (.int .i64 1)),none,[]⟩,⟨some 9,.mov (.tmp 22),none,[]⟩])))
def dk60_0 : Keep := ⟨[],[1,2,6,7,8,9],[2]⟩
def dc60 : DFunc := ⟨62,2,[.tmp 4,.tmp 5],.seq (.ops false [⟨some 2,.box 4 (.tmp 0),none,[]⟩,⟨some 4,.mov (.const (.slice none 0 0)),none,[]⟩,⟨some 5,.mov (.const (.int .i64 0)),none,[]⟩]) (.seq (.ops false [⟨some 11,.mov (.tmp 1),none,[]⟩,⟨some 12,.len (.tmp 11),none,[]⟩,⟨some 13,.call (.func 110) [.tmp 12],none,[]⟩,⟨some 6,.mov (.tmp 13),none,[]⟩]) (.seq (.ops false [⟨some 14,.mov (.tmp 6),none,[]⟩,⟨some 15,.iaddr 1 (.tmp 14) (.const (.int .i64 0)),none,[]⟩,⟨some 16,.load none (.tmp 15),none,[]⟩,⟨some 7,.mov (.tmp 16),none,[]⟩,⟨some 8,.mov (.const (.int .i64 0)),none,[]⟩]) (.seq (.seq (.ops false [⟨some 9,.mov (.const (.int .i64 1)),none,[]⟩]) (.block 0 (some ⟨[],[7,8],[2]⟩) (.loop dk60_0 db60_0))) (.seq (.ops false [⟨some 60,.mov (.tmp 7),none,[]⟩,⟨some 61,.mov (.tmp 8),none,[]⟩,⟨some 4,.mov (.tmp 60),none,[]⟩,⟨some 5,.mov (.tmp 61),none,[]⟩]) .ret))))⟩
theorem dh60:cProg Go.Proofs.Tryz.prog ⟨[(0,⟨[],[1,2,6,7,8,9],[2]⟩)],[(0,⟨[],[7,8],[2]⟩)],[]⟩ 60=some dc60:=by kernel_rfl
def db61_0 : DC := (.seq (.seq (.ops false [⟨some 13,.mov (.tmp 8),none,[]⟩,⟨some 14,.mov (.tmp 1),none,[]⟩,⟨some 15,.len (.tmp 14),none,[]⟩,⟨some 16,.bin .lss (.tmp 13) (.tmp 15),none,[]⟩]) (.cond (.tmp 16) .skip (.exit 0))) (.seq (.block 1 none (.ops true [⟨some 19,.mov (.tmp 7),none,[]⟩,⟨some 20,.mov (.tmp 1),none,[]⟩,⟨some 21,.mov (.tmp 8),none,[]⟩,⟨some 22,.iaddr 5 (.tmp 20) (.tmp 21),none,[1,2]⟩,⟨some 23,.faddr 3 1 false (.tmp 22),none,[3,1,2]⟩,⟨some 24,.load none (.tmp 23),none,[4,3,1,2]⟩,⟨some 25,.mov (.tmp 2),none,[]⟩,⟨some 26,.mov (.tmp 1),none,[]⟩,⟨some 27,.mov (.tmp 8),none,[]⟩,⟨some 28,.iaddr 5 (.tmp 26) (.tmp 27),none,[7,8]⟩,⟨some 29,.faddr 4 1 false (.tmp 28),none,[9,7,8]⟩,⟨some 30,.load none (.tmp 29),none,[10,9,7,8]⟩,⟨some 31,.bin .mul (.tmp 25) (.tmp 30),none,[6,11,10,9,7,8]⟩,⟨some 32,.bin .sub (.tmp 24) (.tmp 31),none,[5,4,3,1,2,12,6,11,10,9,7,8]⟩,⟨some 33,.minmax true (.const (.int .i64 0)) [.tmp 32],none,[13,5,4,3,1,2,12,6,11,10,9,7,8]⟩,⟨some 34,.bin .add (.tmp 19) (.tmp 33),none,[0,14,13,5,4,3,1,2,12,6,11,10,9,7,8]⟩,⟨some 7,.mov (.tmp 34),none,[15,0,14,13,5,4,3,1,2,12,6,11,10,9,7,8]⟩])) (.ops false [⟨some 17,.mov (.tmp 8),none,[]⟩,⟨some 18,.bin .add (.tmp 17) (.const (.int .i64 1)),none,[]⟩,⟨some 8,.mov (.tmp 18),none,[]⟩])))
def dk61_0 : Keep := ⟨[],[1,2,7,8],[3]⟩
def dc61 : DFunc := ⟨36,3,[.tmp 6],.seq (.ops false [⟨some 3,.box 4 (.tmp 0),none,[]⟩,⟨some 6,.mov (.const (.int .i64 0)),none,[]⟩]) (.seq (.ops false [⟨some 9,.mov (.tmp 2),none,[]⟩,⟨some 10,.faddr 2 1 false (.tmp 3),none,[]⟩,⟨some 11,.load none (.tmp 10),none,[]⟩,⟨some 12,.bin .mul (.tmp 9) (.tmp 11),none,[]⟩,⟨some 7,.mov (.tmp 12),none,[]⟩]) (.seq (.seq (.ops false [⟨some 8,.mov (.const (.int .i64 0)),none,[]⟩]) (.block 0 (some ⟨[],[7],[3]⟩) (.loop dk61_0 db61_0))) (.seq (.ops false [⟨some 35,.mov (.tmp 7),none,[]⟩,⟨some 6,.mov (.tmp 35),none,[]⟩]) .ret)))⟩
theorem dh61:cProg Go.Proofs.Tryz.prog ⟨[(0,⟨[],[1,2,7,8],[3]⟩)],[(0,⟨[],[7],[3]⟩)],[]⟩ 61=some dc61:=by kernel_rfl
def dc122 : DFunc := ⟨28,2,[.tmp 4],.seq (.ops false [⟨some 2,.box 2 (.tmp 0),none,[]⟩,⟨some 3,.box 2 (.tmp 1),none,[]⟩,⟨some 4,.mov (.const (.int .i64 0)),none,[]⟩]) (.seq (.ops false [⟨some 5,.faddr 0 1 false (.tmp 2),none,[]⟩,⟨some 6,.load none (.tmp 5),none,[]⟩,⟨some 7,.faddr 0 1 false (.tmp 3),none,[]⟩,⟨some 8,.load none (.tmp 7),none,[]⟩,⟨some 9,.minmax true (.tmp 6) [.tmp 8],none,[]⟩,⟨some 10,.faddr 0 1 false (.tmp 2),none,[]⟩,⟨some 11,.load none (.tmp 10),none,[]⟩,⟨some 12,.faddr 0 1 false (.tmp 3),none,[]⟩,⟨some 13,.load none (.tmp 12),none,[]⟩,⟨some 14,.minmax false (.tmp 11) [.tmp 13],none,[]⟩,⟨some 15,.bin .sub (.tmp 9) (.tmp 14),none,[]⟩,⟨some 16,.faddr 1 1 false (.tmp 2),none,[]⟩,⟨some 17,.load none (.tmp 16),none,[]⟩,⟨some 18,.faddr 1 1 false (.tmp 3),none,[]⟩,⟨some 19,.load none (.tmp 18),none,[]⟩,⟨some 20,.minmax true (.tmp 17) [.tmp 19],none,[]⟩,⟨some 21,.bin .add (.tmp 15) (.tmp 20),none,[]⟩,⟨some 22,.faddr 1 1 false (.tmp 2),none,[]⟩,⟨some 23,.load none (.tmp 22),none,[]⟩,⟨some 24,.faddr 1 1 false (.tmp 3),none,[]⟩,⟨some 25,.load none (.tmp 24),none,[]⟩,⟨some 26,.minmax false (.tmp 23) [.tmp 25],none,[]⟩,⟨some 27,.bin .sub (.tmp 21) (.tmp 26),none,[]⟩,⟨some 4,.mov (.tmp 27),none,[]⟩]) .ret)⟩
theorem dh122:cProg Go.Proofs.Tryz.prog ⟨[],[],[]⟩ 122=some dc122:=by kernel_rfl
def db123_0 : DC := (.seq (.seq (.ops false [⟨some 14,.mov (.tmp 6),none,[]⟩,⟨some 15,.mov (.tmp 0),none,[]⟩,⟨some 16,.len (.tmp 15),none,[]⟩,⟨some 17,.bin .lss (.tmp 14) (.tmp 16),none,[]⟩]) (.cond (.tmp 17) .skip (.exit 0))) (.seq (.block 1 none (.seq (.ops false [⟨some 20,.mov (.tmp 1),none,[]⟩,⟨some 21,.mov (.tmp 0),none,[]⟩,⟨some 22,.mov (.tmp 6),none,[]⟩,⟨some 23,.iaddr 1 (.tmp 21) (.tmp 22),none,[]⟩,⟨some 24,.load none (.tmp 23),none,[]⟩,⟨some 25,.call (.func 83) [.tmp 20,.tmp 24],none,[]⟩,⟨some 26,.un .not (.tmp 25),none,[]⟩]) (.cond (.tmp 26) (.ops true [⟨some 27,.mov (.tmp 5),none,[]⟩,⟨some 28,.mov (.tmp 0),none,[]⟩,⟨some 29,.lit false 1 0 (.int .i64 0) [],none,[]⟩,⟨some 30,.mov (.tmp 1),none,[]⟩,⟨some 31,.append false 1 (.tmp 29) (.tmp 30),none,[2,3]⟩,⟨some 32,.mov (.tmp 0),none,[]⟩,⟨some 33,.mov (.tmp 6),none,[]⟩,⟨some 34,.iaddr 1 (.tmp 32) (.tmp 33),none,[5,6]⟩,⟨some 35,.load none (.tmp 34),none,[7,5,6]⟩,⟨some 36,.lit true 1 1 (.int .i64 0) [(0,(.tmp 35))],none,[8,7,5,6]⟩,⟨some 37,.append false 1 (.tmp 31) (.tmp 36),none,[4,2,3,9,8,7,5,6]⟩,⟨some 38,.call (.func 123) [.tmp 28,.tmp 37],none,[1,10,4,2,3,9,8,7,5,6]⟩,⟨some 39,.append false 1 (.tmp 27) (.tmp 38),none,[0,11,1,10,4,2,3,9,8,7,5,6]⟩,⟨some 5,.mov (.tmp 39),none,[12,0,11,1,10,4,2,3,9,8,7,5,6]⟩]) .skip))) (.ops false [⟨some 18,.mov (.tmp 6),none,[]⟩,⟨some 19,.bin .add (.tmp 18) (.const (.int .i64 1)),none,[]⟩,⟨some 6,.mov (.tmp 19),none,[]⟩])))
def dk123_0 : Keep := ⟨[(5,1)],[0,1,5,6],[5,13]⟩
def dc123 : DFunc := ⟨41,2,[.tmp 4],.seq (.ops false [⟨some 4,.mov (.const (.slice none 0 0)),none,[]⟩]) (.seq (.seq (.ops false [⟨some 7,.mov (.tmp 1),none,[]⟩,⟨some 8,.len (.tmp 7),none,[]⟩,⟨some 9,.mov (.tmp 0),none,[]⟩,⟨some 10,.len (.tmp 9),none,[]⟩,⟨some 11,.bin .eql (.tmp 8) (.tmp 10),none,[]⟩]) (.cond (.tmp 11) (.seq (.ops false [⟨some 12,.mov (.tmp 1),none,[]⟩,⟨some 13,.lit false 1 1 (.full []) [(0,(.tmp 12))],none,[]⟩,⟨some 4,.mov (.tmp 13),none,[]⟩]) .ret) .skip)) (.seq (.ops false [⟨some 5,.mov (.const (.slice none 0 0)),none,[]⟩]) (.seq (.seq (.ops false [⟨some 6,.mov (.const (.int .i64 0)),none,[]⟩]) (.block 0 (some ⟨[],[5],[5,13]⟩) (.loop dk123_0 db123_0))) (.seq (.ops false [⟨some 40,.mov (.tmp 5),none,[]⟩,⟨some 4,.mov (.tmp 40),none,[]⟩]) .ret))))⟩
theorem dh123:cProg Go.Proofs.Tryz.prog ⟨[(0,⟨[(5,1)],[0,1,5,6],[5,13]⟩)],[(0,⟨[],[5],[5,13]⟩)],[36]⟩ 123=some dc123:=by kernel_rfl
def db129_0 : DC := (.seq (.seq (.ops false [⟨some 7,.mov (.tmp 6),none,[]⟩,⟨some 8,.mov (.tmp 1),none,[]⟩,⟨some 9,.len (.tmp 8),none,[]⟩,⟨some 10,.bin .lss (.tmp 7) (.tmp 9),none,[]⟩]) (.cond (.tmp 10) .skip (.exit 0))) (.seq (.block 1 none (.ops false [⟨some 13,.mov (.tmp 5),none,[]⟩,⟨some 14,.mov (.tmp 0),none,[]⟩,⟨some 15,.mov (.tmp 1),none,[]⟩,⟨some 16,.mov (.tmp 6),none,[]⟩,⟨some 17,.iaddr 1 (.tmp 15) (.tmp 16),none,[]⟩,⟨some 18,.load none (.tmp 17),none,[]⟩,⟨some 19,.iaddr 5 (.tmp 14) (.tmp 18),none,[]⟩,⟨some 20,.faddr 4 1 false (.tmp 19),none,[]⟩,⟨some 21,.load none (.tmp 20),none,[]⟩,⟨some 22,.bin .add (.tmp 13) (.tmp 21),none,[]⟩,⟨some 5,.mov (.tmp 22),none,[]⟩])) (.ops false [⟨some 11,.mov (.tmp 6),none,[]⟩,⟨some 12,.bin .add (.tmp 11) (.const (.int .i64 1)),none,[]⟩,⟨some 6,.mov (.tmp 12),none,[]⟩])))
def dk129_0 : Keep := ⟨[],[0,1,5,6],[]⟩
def dc129 : DFunc := ⟨24,2,[.tmp 4],.seq (.ops false [⟨some 4,.mov (.const (.int .i64 0)),none,[]⟩]) (.seq (.ops false [⟨some 5,.mov (.const (.int .i64 0)),none,[]⟩]) (.seq (.seq (.ops false [⟨some 6,.mov (.const (.int .i64 0)),none,[]⟩]) (.block 0 (some ⟨[],[5],[]⟩) (.loop dk129_0 db129_0))) (.seq (.ops false [⟨some 23,.mov (.tmp 5),none,[]⟩,⟨some 4,.mov (.tmp 23),none,[]⟩]) .ret)))⟩
theorem dh129:cProg Go.Proofs.Tryz.prog ⟨[(0,⟨[],[0,1,5,6],[]⟩)],[(0,⟨[],[5],[]⟩)],[]⟩ 129=some dc129:=by kernel_rfl
def db130_0 : DC := (.seq (.seq (.ops false [⟨some 23,.mov (.tmp 10),none,[]⟩,⟨some 24,.mov (.tmp 2),none,[]⟩,⟨some 25,.len (.tmp 24),none,[]⟩,⟨some 26,.bin .lss (.tmp 23) (.tmp 25),none,[]⟩]) (.cond (.tmp 26) .skip (.exit 0))) (.seq (.block 1 none (.ops false [⟨some 29,.mov (.tmp 9),none,[]⟩,⟨some 30,.mov (.tmp 1),none,[]⟩,⟨some 31,.mov (.tmp 2),none,[]⟩,⟨some 32,.mov (.tmp 10),none,[]⟩,⟨some 33,.iaddr 1 (.tmp 31) (.tmp 32),none,[]⟩,⟨some 34,.load none (.tmp 33),none,[]⟩,⟨some 35,.iaddr 5 (.tmp 30) (.tmp 34),none,[]⟩,⟨some 36,.faddr 3 1 false (.tmp 35),none,[]⟩,⟨some 37,.load none (.tmp 36),none,[]⟩,⟨some 38,.bin .add (.tmp 29) (.tmp 37),none,[]⟩,⟨some 9,.mov (.tmp 38),none,[]⟩])) (.ops false [⟨some 27,.mov (.tmp 10),none,[]⟩,⟨some 28,.bin .add (.tmp 27) (.const (.int .i64 1)),none,[]⟩,⟨some 10,.mov (.tmp 28),none,[]⟩])))
def dk130_0 : Keep := ⟨[],[1,2,9,10],[3]⟩
def dc130 : DFunc := ⟨40,3,[.tmp 6],.seq (.ops false [⟨some 3,.box 4 (.tmp 0),none,[]⟩,⟨some 6,.mov (.const (.int .i64 0)),none,[]⟩]) (.seq (.ops false [⟨some 12,.load (some 4) (.tmp 3),none,[]⟩,⟨some 13,.mov (.tmp 1),none,[]⟩,⟨some 14,.mov (.tmp 2),none,[]⟩,⟨some 15,.call (.func 54) [.tmp 12,.tmp 13,.tmp 14],none,[]⟩,⟨some 11,.mov (.tmp 15),none,[]⟩,⟨some 16,.extract (.tmp 11) 0,none,[]⟩,⟨some 17,.extract (.tmp 11) 1,none,[]⟩,⟨some 7,.mov (.tmp 16),none,[]⟩,⟨some 8,.mov (.tmp 17),none,[]⟩]) (.seq (.ops false [⟨some 18,.faddr 3 1 false (.tmp 3),none,[]⟩,⟨some 19,.load none (.tmp 18),none,[]⟩,⟨some 20,.mov (.tmp 8),none,[]⟩,⟨some 21,.bin .mul (.tmp 19) (.tmp 20),none,[]⟩,⟨some 22,.bin .sub (.const (.int .i64 0)) (.tmp 21),none,[]⟩,⟨some 9,.mov (.tmp 22),none,[]⟩]) (.seq (.seq (.ops false [⟨some 10,.mov (.const (.int .i64 0)),none,[]⟩]) (.block 0 (some ⟨[],[9],[3]⟩) (.loop dk130_0 db130_0))) (.seq (.ops false [⟨some 39,.mov (.tmp 9),none,[]⟩,⟨some 6,.mov (.tmp 39),none,[]⟩]) .ret))))⟩
theorem dh130:cProg Go.Proofs.Tryz.prog ⟨[(0,⟨[],[1,2,9,10],[3]⟩)],[(0,⟨[],[9],[3]⟩)],[]⟩ 130=some dc130:=by kernel_rfl
def db153_0 : DC := (.seq (.seq (.ops false [⟨some 14,.mov (.tmp 3),none,[]⟩,⟨some 15,.mov (.tmp 0),none,[]⟩,⟨some 16,.lenS (.tmp 15),none,[]⟩,⟨some 17,.bin .lss (.tmp 14) (.tmp 16),none,[]⟩]) (.cond (.tmp 17) .skip (.exit 0))) (.seq (.block 1 none (.seq (.ops false [⟨some 20,.mov (.tmp 0),none,[]⟩,⟨some 21,.mov (.tmp 3),none,[]⟩,⟨some 22,.indexS (.tmp 20) (.tmp 21),none,[]⟩,⟨some 23,.bin .geq (.tmp 22) (.const (.int .u8 65)),none,[]⟩,⟨some 24,.mov (.tmp 23),none,[]⟩,⟨some 25,.mov (.tmp 0),some (24,true),[]⟩,⟨some 26,.mov (.tmp 3),some (24,true),[]⟩,⟨some 27,.indexS (.tmp 25) (.tmp 26),some (24,true),[]⟩,⟨some 28,.bin .leq (.tmp 27) (.const (.int .u8 90)),some (24,true),[]⟩,⟨some 29,.pick (.tmp 24) (.tmp 28) (.const (.bool false)),none,[]⟩,⟨some 30,.mov (.tmp 29),none,[]⟩,⟨some 31,.mov (.tmp 0),some (30,false),[]⟩,⟨some 32,.mov (.tmp 3),some (30,false),[]⟩,⟨some 33,.indexS (.tmp 31) (.tmp 32),some (30,false),[]⟩,⟨some 34,.bin .geq (.tmp 33) (.const (.int .u8 97)),some (30,false),[]⟩,⟨some 35,.mov (.tmp 34),some (30,false),[]⟩,⟨some 36,.mov (.tmp 0),some (35,true),[]⟩,⟨some 37,.mov (.tmp 3),some (35,true),[]⟩,⟨some 38,.indexS (.tmp 36) (.tmp 37),some (35,true),[]⟩,⟨some 39,.bin .leq (.tmp 38) (.const (.int .u8 122)),some (35,true),[]⟩,⟨some 40,.pick (.tmp 35) (.tmp 39) (.const (.bool false)),some (30,false),[]⟩,⟨some 41,.pick (.tmp 30) (.const (.bool true)) (.tmp 40),none,[]⟩,⟨some 4,.mov (.tmp 41),none,[]⟩]) (.seq (.ops false [⟨some 42,.mov (.tmp 0),none,[]⟩,⟨some 43,.mov (.tmp 3),none,[]⟩,⟨some 44,.indexS (.tmp 42) (.tmp 43),none,[]⟩,⟨some 45,.bin .geq (.tmp 44) (.const (.int .u8 48)),none,[]⟩,⟨some 46,.mov (.tmp 45),none,[]⟩,⟨some 47,.mov (.tmp 0),some (46,true),[]⟩,⟨some 48,.mov (.tmp 3),some (46,true),[]⟩,⟨some 49,.indexS (.tmp 47) (.tmp 48),some (46,true),[]⟩,⟨some 50,.bin .leq (.tmp 49) (.const (.int .u8 57)),some (46,true),[]⟩,⟨some 51,.pick (.tmp 46) (.tmp 50) (.const (.bool false)),none,[]⟩,⟨some 52,.mov (.tmp 51),none,[]⟩,⟨some 53,.mov (.tmp 0),some (52,false),[]⟩,⟨some 54,.mov (.tmp 3),some (52,false),[]⟩,⟨some 55,.indexS (.tmp 53) (.tmp 54),some (52,false),[]⟩,⟨some 56,.bin .eql (.tmp 55) (.const (.int .u8 95)),some (52,false),[]⟩,⟨some 57,.pick (.tmp 52) (.const (.bool true)) (.tmp 56),none,[]⟩,⟨some 5,.mov (.tmp 57),none,[]⟩]) (.seq (.ops false [⟨some 58,.mov (.tmp 4),none,[]⟩,⟨some 59,.un .not (.tmp 58),none,[]⟩,⟨some 60,.mov (.tmp 59),none,[]⟩,⟨some 61,.mov (.tmp 3),some (60,true),[]⟩,⟨some 62,.bin .eql (.tmp 61) (.const (.int .i64 0)),some (60,true),[]⟩,⟨some 63,.mov (.tmp 62),some (60,true),[]⟩,⟨some 64,.mov (.tmp 5),some (63,false),[]⟩,⟨some 65,.un .not (.tmp 64),some (63,false),[]⟩,⟨some 66,.pick (.tmp 63) (.const (.bool true)) (.tmp 65),some (60,true),[]⟩,⟨some 67,.pick (.tmp 60) (.tmp 66) (.const (.bool false)),none,[]⟩]) (.cond (.tmp 67) (.seq (.ops false [⟨some 2,.mov (.const (.bool false)),none,[]⟩]) .ret) .skip))))) (.ops false [⟨some 18,.mov (.tmp 3),none,[]⟩,⟨some 19,.bin .add (.tmp 18) (.const (.int .i64 1)),none,[]⟩,⟨some 3,.mov (.tmp 19),none,[]⟩])))
def dk153_0 : Keep := ⟨[],[0,3],[]⟩
def dc153 : DFunc := ⟨68,1,[.tmp 2],.seq (.ops false [⟨some 2,.mov (.const (.bool false)),none,[]⟩]) (.seq (.seq (.ops false [⟨some 6,.mov (.tmp 0),none,[]⟩,⟨some 7,.lenS (.tmp 6),none,[]⟩,⟨some 8,.bin .eql (.tmp 7) (.const (.int .i64 0)),none,[]⟩,⟨some 9,.mov (.tmp 8),none,[]⟩,⟨some 10,.mov (.tmp 0),some (9,false),[]⟩,⟨some 11,.lenS (.tmp 10),some (9,false),[]⟩,⟨some 12,.bin .gtr (.tmp 11) (.const (.int .i64 24)),some (9,false),[]⟩,⟨some 13,.pick (.tmp 9) (.const (.bool true)) (.tmp 12),none,[]⟩]) (.cond (.tmp 13) (.seq (.ops false [⟨some 2,.mov (.const (.bool false)),none,[]⟩]) .ret) .skip)) (.seq (.seq (.ops false [⟨some 3,.mov (.const (.int .i64 0)),none,[]⟩]) (.block 0 (some ⟨[],[],[]⟩) (.loop dk153_0 db153_0))) (.seq (.ops false [⟨some 2,.mov (.const (.bool true)),none,[]⟩]) .ret)))⟩
theorem dh153:cProg Go.Proofs.Tryz.prog ⟨[(0,⟨[],[0,3],[]⟩)],[(0,⟨[],[],[]⟩)],[]⟩ 153=some dc153:=by kernel_rfl
end Sh

namespace Sh
open Go Go.Proofs
theorem r_checkPoint (p:Pt):PC 120 [encPt p] (DV.int .i64 (chkPt p)):=by
 refine pureCall_ofR dh120 rfl ?_
 conv=>whnf
 repeat' (first
  |(refine ⟨fun hg=>?_,fun hg=>?_⟩<;>first|contradiction|(conv=>whnf))
  |(refine Or.inl ?_;conv=>whnf)
  |(refine ⟨_,q_CheckRange ..,?_⟩;conv=>whnf)
  |(refine ⟨_,q_First [_,_] (by simp),?_⟩;conv=>whnf)
  |(refine And.intro ?_ ?_;kernel_rfl;conv=>whnf))
 rfl
theorem r_CheckPrice (n:Int):PC 59 [DV.int .i64 (n)] (DV.int .i64 (withE n 0 1000)):=by
 refine pureCall_ofR dh59 rfl ?_
 conv=>whnf
 repeat' (first
  |(refine ⟨fun hg=>?_,fun hg=>?_⟩<;>first|contradiction|(conv=>whnf))
  |(refine Or.inl ?_;conv=>whnf)
  |(refine ⟨_,q_CheckRange ..,?_⟩;conv=>whnf)
  |(refine And.intro ?_ ?_;kernel_rfl;conv=>whnf))
 rfl
theorem r_CheckCrew (c:Crw):PC 49 [encC c] (DV.int .i64 (chkCr c)):=by
 have k1:=r_checkPoint c.depot
 refine pureCall_ofR dh49 rfl ?_
 conv=>whnf
 repeat' (first
  |(refine ⟨fun hg=>?_,fun hg=>?_⟩<;>first|contradiction|(conv=>whnf))
  |(refine Or.inl ?_;conv=>whnf)
  |(refine ⟨_,k1,?_⟩;conv=>whnf)
  |(refine ⟨_,r_CheckPrice ..,?_⟩;conv=>whnf)
  |(refine ⟨_,q_CheckRange ..,?_⟩;conv=>whnf)
  |(refine ⟨_,q_First [_,_,_] (by simp),?_⟩;conv=>whnf)
  |(refine And.intro ?_ ?_;kernel_rfl;conv=>whnf))
 rfl
theorem q_IsName (s:List UInt8) (hs:s.length < 1073741824):PC 153 [.str s] (.bool (nameB s)):=by
 refine pureCall_ofR dh153 rfl ?_
 conv=>whnf
 repeat' (first
  |(refine ⟨fun hg=>?_,fun hg=>?_⟩<;>first|contradiction|(replace hg:=of_decide_eq_true hg;first|(exfalso;omega;done)|(conv=>whnf))|(replace hg:=of_decide_eq_false hg;first|(exfalso;omega;done)|(conv=>whnf))|(skip;conv=>whnf)|(conv=>whnf))
  |(refine Or.inl ?_;conv=>whnf)
  |(refine And.intro ?_ ?_;kernel_rfl;conv=>whnf))
 ·have hg:(24:Int) < s.length:=hg
  refine bool_eq ?_
  unfold nameB
  rw [show decide (s.length≤24)=false from decide_eq_false (by omega)];simp
 ·have hl24:¬ (24:Int) < s.length:=hg
  rename_i hl0
  have hl0:¬ ((s.length:Int)=0):=by first|exact hl0|exact of_decide_eq_false hl0
  refine dwp_loopU (P:=Tryz.prog) (G:=GC) (k:=dk153_0) (b:=db153_0) (α:=Nat) (fun i=>[(3,DV.int .i64 (i))]) (fun i=>[]) (fun i=>i≤s.length∧∀ j,j < i→nmAt s j=true) (fun i=>s.length - i) 0 ⟨Nat.zero_le _,fun d h=>by omega⟩ ?_
  conv=>whnf
  refine ⟨rfl,rfl,?_⟩
  conv=>whnf
  refine ⟨rfl,?_⟩
  intro i ⟨h1,h2⟩
  conv=>whnf
  refine ⟨fun hb=>?_,fun hb=>?_⟩
  ·have hi:i < s.length:=by simpa using hb
   clear hb
   conv=>whnf
   refine ⟨⟨by omega,by omega⟩,?_⟩
   rw [Int.toNat_natCast]
   have hl:=isLet_iff (s.getD i 0)
   have ho:=isOth_iff (s.getD i 0)
   have hn:=nmAt_iff s i
   have hbad:=nameB_bad hi
   generalize isLet (s.getD i 0)=L at *
   generalize isOth (s.getD i 0)=O at *
   generalize hcv:(s.getD i 0).toNat=c at *
   have hn':nmAt s i=true ↔ ((97≤c∧c≤122)∨(65≤c∧c≤90))∨(i≠0∧(c=95∨(48≤c∧c≤57))):=by rw [hn,hl,ho]
   have hi0:(0:Int)≤(i:Int)∧(i:Int) < (s.length:Int):=by omega
   conv=>whnf
   repeat' (first
    |(refine ⟨fun hg=>?_,fun hg=>?_⟩<;>first|contradiction|(replace hg:=of_decide_eq_true hg;first|(exfalso;omega;done)|(conv=>whnf))|(replace hg:=of_decide_eq_false hg;first|(exfalso;omega;done)|(conv=>whnf))|(skip;conv=>whnf)|(conv=>whnf))
    |(refine Or.inl ?_;conv=>whnf)
    |(refine ⟨hi0,?_⟩;rw [Int.toNat_natCast,hcv];conv=>whnf)
    |(refine And.intro ?_ ?_;kernel_rfl;conv=>whnf))
   all_goals
    first
    |(refine bool_eq (hbad ?_).symm
      cases hnm:nmAt s i with
      |false=>rfl
      |true =>
       exfalso
       have hq:=hn'.1 hnm
       clear hn' hn hl ho hbad h2
       simp only [cond_true,cond_false,Bool.not_true,Bool.not_false,decide_eq_true_eq,Bool.not_eq_true',decide_eq_false_iff_not,Bool.not_eq_false'] at *
       omega)
    |(rw [wrap_succ i (by omega)]
      refine ⟨i+1,rfl,rfl,rfl,⟨hi,fun j hj=>?_⟩,by omega⟩
      by_cases h:j=i
      ·subst h
       refine hn'.2 ?_
       clear hn' hn hl ho hbad h2
       simp only [cond_true,cond_false,Bool.not_true,Bool.not_false,decide_eq_true_eq,Bool.not_eq_true',decide_eq_false_iff_not,Bool.not_eq_false'] at *
       omega
      ·exact h2 j (by omega))
  ·have hi:i=s.length:=by have:=of_decide_eq_false hb;omega
   clear hb
   subst hi
   conv=>whnf
   refine bool_eq ?_
   rw [nameB_ok h2,decide_eq_true (show s.length≤24 by omega),decide_eq_true (show s≠[] from fun e=>by rw [e] at hl0;exact hl0 rfl)];rfl
 ·rename_i hl0
  have hl0:((s.length:Int)=0):=by first|exact hl0|exact of_decide_eq_true hl0
  have h0:s=[]:=List.eq_nil_of_length_eq_zero (by omega)
  subst h0;rfl
end Sh

namespace Sh
open Go Go.Proofs
theorem q_CheckName (s:List UInt8) (hs:s.length < 1073741824):PC 121 [.str s] (DV.int .i64 (whenE (!nameB s) 8)):=by
 have k1:=q_IsName s hs
 refine pureCall_ofR dh121 rfl ?_
 conv=>whnf
 repeat' (first
  |(refine ⟨fun hg=>?_,fun hg=>?_⟩<;>first|contradiction|(conv=>whnf))
  |(refine Or.inl ?_;conv=>whnf)
  |(refine ⟨_,k1,?_⟩;conv=>whnf)
  |(refine ⟨_,q_When ..,?_⟩;conv=>whnf)
  |(refine And.intro ?_ ?_;kernel_rfl;conv=>whnf))
 rfl
end Sh

namespace Sh
open Go Go.Proofs
theorem firstE_nine (r:List Int):firstE (9 :: r)=9:=by simp [firstE]
theorem r_CheckStands (l:List Std) (hl:l.length < 1073741824) (hn:∀ s ∈ l,s.name.length < 1073741824):PC 50 [tsV l] (DV.int .i64 (chkStd l)):=by
 have e0:((l.map encT).length:Int)=l.length:=by simp
 refine pureCall_ofR dh50 rfl ?_
 conv=>whnf
 refine ⟨fun hg=>?_,fun hg=>?_⟩
 ·have hg:=of_decide_eq_true hg
  rw [e0] at hg
  conv=>whnf
  exact int_eq (by unfold chkStd;rw [if_pos (by omega)])
 ·have hg:=of_decide_eq_false hg
  rw [e0] at hg
  have hk:chkStd l=chkTs (knS l 0) (l.drop 0):=by unfold chkStd;rw [if_neg (by omega)];rfl
  rw [hk]
  clear hk
  conv=>whnf
  refine dwp_loopU (P:=Tryz.prog) (G:=GC) (k:=dk50_1) (b:=db50_1) (α:=Nat) (fun i=>[(3,DV.int .i64 (i))]) (fun i=>[]) (fun i=>i≤l.length∧chkTs (knS l 0) (l.drop 0)=chkTs (knS l i) (l.drop i)) (fun i=>l.length - i) 0 ⟨Nat.zero_le _,rfl⟩ ?_
  conv=>whnf
  refine ⟨rfl,rfl,?_⟩
  conv=>whnf
  refine ⟨rfl,?_⟩
  intro i ⟨h1,h2⟩
  conv=>whnf
  refine ⟨fun hb=>?_,fun hb=>?_⟩
  ·have hi:i < l.length:=by simpa using hb
   clear hb
   have hd:=chkTs_drop l i hi
   have hnm:=hn _ (getD_in T0 hi)
   have kN:=q_CheckName (l.getD i T0).name hnm
   have kP:=r_checkPoint (l.getD i T0).at_
   have hte:tE (knS l i) (l.getD i T0)=firstE [whenE (!nameB (l.getD i T0).name) 8,whenE (decide ((l.getD i T0).name ∈ knS l i)) 9,chkPt (l.getD i T0).at_,withE (l.getD i T0).worth 0 1000000,withE (l.getD i T0).water 0 10000]:=rfl
   conv=>whnf
   rw [getD_enc _ _ (i) T0 hi]
   refine ⟨idxA hi rfl,?_⟩
   conv=>whnf
   repeat' (first
    |(refine ⟨fun hg=>?_,fun hg=>?_⟩<;>first|contradiction|(conv=>whnf))
    |(refine Or.inl ?_;conv=>whnf)
    |(refine ⟨_,kN ..,?_⟩;conv=>whnf)
    |(refine And.intro ?_ ?_;kernel_rfl;conv=>whnf))
   ·have hg:=of_decide_eq_true hg
    have hq:tE (knS l i) (l.getD i T0)=whenE (!nameB (l.getD i T0).name) 8:=by rw [hte];simp only [firstE];rw [if_pos hg]
    rw [hq,if_pos hg] at hd
    exact int_eq (by rw [h2,hd])
   ·have hg:=of_decide_eq_false hg
    have hte:tE (knS l i) (l.getD i T0)=firstE [whenE (decide ((l.getD i T0).name ∈ knS l i)) 9,chkPt (l.getD i T0).at_,withE (l.getD i T0).worth 0 1000000,withE (l.getD i T0).water 0 10000]:=by rw [hte];simp only [firstE];rw [if_neg hg]
    refine dwp_loopU (P:=Tryz.prog) (G:=GC) (k:=dk50_0) (b:=db50_0) (α:=Nat) (fun k=>[(5,DV.int .i64 (k))]) (fun k=>[]) (fun k=>k≤i∧∀ j,j < k→(l.getD j T0).name≠(l.getD i T0).name) (fun k=>i - k) 0 ⟨Nat.zero_le _,fun j h=>by omega⟩ ?_
    conv=>whnf
    refine ⟨rfl,rfl,?_⟩
    conv=>whnf
    refine ⟨rfl,?_⟩
    intro k ⟨h3,h4⟩
    conv=>whnf
    refine ⟨fun hb=>?_,fun hb=>?_⟩
    ·have hk:k < i:=by have:=of_decide_eq_true hb;omega
     clear hb
     conv=>whnf
     rw [getD_enc _ _ (k) T0 (by omega:k < l.length)]
     refine ⟨idxA (by omega:k < l.length) rfl,?_⟩
     conv=>whnf
     rw [getD_enc _ _ (i) T0 hi]
     refine ⟨idxA hi rfl,?_⟩
     conv=>whnf
     refine ⟨by kernel_rfl,?_⟩
     conv=>whnf
     refine ⟨fun hg=>?_,fun hg=>?_⟩
     ·have hg:=of_decide_eq_true hg
      conv=>whnf
      have hm:(l.getD i T0).name ∈ knS l i:=List.mem_map.2 ⟨l.getD k T0,by
       have:(l.take i).getD k T0=l.getD k T0:=by simp [List.getD_eq_getElem?_getD,hk]
       rw [← this];exact getD_in T0 (by rw [List.length_take];omega),hg⟩
      have hq:tE (knS l i) (l.getD i T0)=9:=by rw [hte,decide_eq_true hm,show whenE true 9=9 from rfl,firstE_nine]
      rw [hq,if_pos (by decide)] at hd
      exact int_eq (by rw [h2,hd])
     ·have hg:=of_decide_eq_false hg
      conv=>whnf
      rw [wrap_succ k (by omega)]
      refine ⟨k+1,rfl,rfl,rfl,⟨hk,fun j hj=>?_⟩,by omega⟩
      by_cases h:j=k
      ·subst h;exact hg
      ·exact h4 j (by omega)
    ·have hk:k=i:=by have:=of_decide_eq_false hb;omega
     subst hk
     clear hb
     have hm:(l.getD k T0).name ∉ knS l k:=fun e=>by
      obtain ⟨t,ht,he⟩:=List.mem_map.1 e
      obtain ⟨j,hj,rfl⟩:=List.mem_iff_getElem.1 ht
      have hj':j < k:=by rw [List.length_take] at hj;omega
      refine h4 j hj' ?_
      rw [← he]
      simp [List.getD_eq_getElem?_getD,show j < l.length by omega]
     rw [decide_eq_false hm,show whenE false 9=0 from rfl,firstE_z] at hte
     conv=>whnf
     repeat' (first
      |(refine ⟨fun hg=>?_,fun hg=>?_⟩<;>first|contradiction|(exfalso;revert hg;simp;done)|(exfalso;exact absurd (of_decide_eq_true hg) (by assumption))|(exfalso;exact absurd (by assumption) (of_decide_eq_false hg))|(conv=>whnf))
      |(refine Or.inl ?_;conv=>whnf)
      |(refine ⟨_,kP,?_⟩;conv=>whnf)
      |(refine ⟨_,q_CheckRange ..,?_⟩;conv=>whnf)
      |(refine ⟨_,q_First [_,_,_] (by simp),?_⟩;conv=>whnf)
      |(rw [getD_enc _ _ k T0 hi];refine ⟨idxA hi rfl,?_⟩;conv=>whnf)
      |(refine And.intro ?_ ?_;kernel_rfl;conv=>whnf))
     ·have hg:=of_decide_eq_true hg
      rw [← hte] at hg
      rw [if_pos hg] at hd
      exact int_eq (by rw [h2,hd,hte])
     ·have hg:=of_decide_eq_false hg
      rw [← hte] at hg
      rw [if_neg hg] at hd
      rw [wrap_succ k (by omega)]
      exact ⟨k+1,rfl,rfl,rfl,⟨hi,by rw [h2,hd]⟩,by omega⟩
  ·have hi:i=l.length:=by have:=of_decide_eq_false hb;rw [e0] at this;omega
   clear hb
   conv=>whnf
   exact int_eq (by rw [h2,hi,List.drop_of_length_le (Nat.le_refl _)];rfl)
end Sh

namespace Sh
open Go Go.Proofs
theorem r_far (a b:Pt) (ha:OkPt a) (hb:OkPt b):PC 122 [encPt a,encPt b] (DV.int .i64 (disP a b)):=by
 have:=ha.x0;have:=ha.x1;have:=ha.y0;have:=ha.y1
 have:=hb.x0;have:=hb.x1;have:=hb.y0;have:=hb.y1
 refine pureCall_ofR dh122 rfl ?_
 conv=>whnf
 refine int_eq ?_
 rw [max_max,max_max,min_min,min_min]
 unfold disP absI
 rw [wrap_in (n:=max a.x b.x - min a.x b.x) (by omega) (by omega),wrap_in (n:=max a.x b.x - min a.x b.x+max a.y b.y) (by omega) (by omega),wrap_in (by omega) (by omega)]
 split<;>split<;>omega
end Sh

namespace Sh
open Go Go.Proofs
theorem r_Way (c:Crw) (l:List Std) (o:List Int) (hc:OkCr c) (hl:∀ s ∈ l,OkStd s) (ho:∀ i ∈ o,0≤i∧i < l.length) (hol:o.length < 1073741824) (hll:l.length < 1073741824):PC 53 [encC c,tsV l,iL o] (DV.int .i64 (wayS c l o)):=by
 have e0:((o.map (DV.int .i64)).length:Int)=o.length:=by simp
 have hw:wayS c l o=(wayTo l c.depot o).2+disP (wayTo l c.depot o).1 c.depot:=wayF_to l c.depot o c.depot
 rw [hw]
 refine pureCall_ofR dh53 rfl ?_
 conv=>whnf
 refine dwp_loopU (P:=Tryz.prog) (G:=GC) (k:=dk53_0) (b:=db53_0) (α:=Nat) (fun i=>[(8,DV.int .i64 ((wayTo l c.depot (o.take i)).2)),(9,DV.int .i64 (i))]) (fun i=>[(3,.box 4 (encC c)),(7,.box 2 (encPt (wayTo l c.depot (o.take i)).1))]) (fun i=>i≤o.length) (fun i=>o.length - i) 0 (Nat.zero_le _) ?_
 conv=>whnf
 refine ⟨rfl,rfl,?_⟩
 conv=>whnf
 refine ⟨rfl,?_⟩
 intro i h1
 conv=>whnf
 refine ⟨fun hb=>?_,fun hb=>?_⟩
 ·have hi:i < o.length:=by simpa using hb
  clear hb
  have hx:=ho _ (getD_in (i:=i) 0 hi)
  have hs:=wayTo_take l c.depot o i hi
  have hbd:=wayTo_bd hl (o.take i) c.depot hc.pt (fun j hj=>ho j (List.mem_of_mem_take hj))
  have hbd2:=wayTo_bd hl (o.take (i+1)) c.depot hc.pt (fun j hj=>ho j (List.mem_of_mem_take hj))
  have hat:atS l (o.getD i 0)=(l.getD (o.getD i 0).toNat T0).at_:=rfl
  have hok:=(hl _ (getD_in (i:=(o.getD i 0).toNat) T0 (by omega))).pt
  rw [List.length_take] at hbd hbd2
  generalize hP:(wayTo l c.depot (o.take i)).1=P at *
  generalize hN:(wayTo l c.depot (o.take i)).2=N at *
  generalize hX:wayTo l c.depot (o.take (i+1))=X at *
  conv=>whnf
  rw [getD_enc _ _ (i) 0 hi]
  refine ⟨idxA hi rfl,?_⟩
  conv=>whnf
  obtain ⟨n,hxn⟩:∃ n:Nat,o.getD i 0=n:=⟨_,(Int.toNat_of_nonneg hx.1).symm⟩
  rw [hxn] at hx hat hok hs
  rw [hxn]
  have hn:n < l.length:=by omega
  rw [hat,Int.toNat_natCast] at hs
  rw [Int.toNat_natCast] at hok
  have k1:=r_far P (l.getD n T0).at_ hbd.1 hok
  have hd:=disP_bd hbd.1 hok
  rw [getD_enc _ _ (n) T0 hn]
  refine ⟨idxA hn rfl,?_⟩
  conv=>whnf
  repeat' (first
   |(refine ⟨fun hg=>?_,fun hg=>?_⟩<;>first|contradiction|(conv=>whnf))
   |(refine Or.inl ?_;conv=>whnf)
   |(refine ⟨_,k1,?_⟩;conv=>whnf)
   |(refine And.intro ?_ ?_;kernel_rfl;conv=>whnf))
  rw [getD_enc _ _ (i) 0 hi]
  refine ⟨idxA hi rfl,?_⟩
  conv=>whnf
  rw [hxn]
  rw [getD_enc _ _ (n) T0 hn]
  refine ⟨idxA hn rfl,?_⟩
  conv=>whnf
  rw [wrap_in (n:=N+disP P (l.getD n T0).at_) (by omega) (by omega),wrap_succ i (by omega)]
  refine ⟨i+1,rfl,?_,?_,hi,by omega⟩
  ·rw [hX,hs];rfl
  ·rw [hX,hs];rfl
 ·have hi:i=o.length:=by have:=of_decide_eq_false hb;rw [e0] at this;omega
  clear hb
  rw [hi,List.take_length]
  have hbd:=wayTo_bd hl o c.depot hc.pt ho
  have k1:=r_far (wayTo l c.depot o).1 c.depot hbd.1 hc.pt
  have hd:=disP_bd hbd.1 hc.pt
  conv=>whnf
  repeat' (first
   |(refine ⟨fun hg=>?_,fun hg=>?_⟩<;>first|contradiction|(conv=>whnf))
   |(refine Or.inl ?_;conv=>whnf)
   |(refine ⟨_,k1,?_⟩;conv=>whnf)
   |(refine And.intro ?_ ?_;kernel_rfl;conv=>whnf))
  exact int_eq (wrap_in (by omega) (by omega))
end Sh

namespace Sh
open Go
def db46_0 : DC := (.seq (.ops false [⟨some 9,.bin .lss (.tmp 8) (.tmp 7),none,[]⟩]) (.seq (.cond (.tmp 9) .skip (.exit 0)) (.seq (.block 1 none (.seq (.ops false [⟨some 10,.iaddr 5 (.tmp 6) (.tmp 8),none,[]⟩,⟨some 11,.load (some 5) (.tmp 10),none,[]⟩,⟨some 5,.alloc (.agg [.str [],.int .i64 0,.int .i64 0,.int .i64 0,.int .i64 0]) 5,none,[]⟩,⟨none,.store 5 (.tmp 5) (.tmp 11),none,[]⟩]) (.ops false [⟨some 12,.mov (.tmp 3),none,[]⟩,⟨some 13,.load (some 5) (.tmp 5),none,[]⟩,⟨some 14,.lit true 5 1 (.agg [.str [],.int .i64 0,.int .i64 0,.int .i64 0,.int .i64 0]) [(0,(.tmp 13))],none,[]⟩,⟨some 15,.append false 5 (.tmp 12) (.tmp 14),none,[]⟩,⟨some 3,.mov (.tmp 15),none,[]⟩]))) (.ops false [⟨some 16,.bin .add (.tmp 8) (.const (.int .i64 1)),none,[]⟩,⟨some 8,.mov (.tmp 16),none,[]⟩]))))
def dk46_0 : Keep := ⟨[(3,5)],[3,6,7,8],[3]⟩
def dc46 : DFunc := ⟨18,1,[.tmp 2],.seq (.ops false [⟨some 2,.mov (.const (.slice none 0 0)),none,[]⟩]) (.seq (.ops false [⟨some 3,.mov (.const (.slice none 0 0)),none,[]⟩]) (.seq (.seq (.ops false [⟨some 6,.mov (.tmp 0),none,[]⟩,⟨some 7,.len (.tmp 6),none,[]⟩,⟨some 8,.mov (.const (.int .i64 0)),none,[]⟩]) (.block 0 (some ⟨[],[3],[3]⟩) (.loop dk46_0 db46_0))) (.seq (.ops false [⟨some 17,.mov (.tmp 3),none,[]⟩,⟨some 2,.mov (.tmp 17),none,[]⟩]) .ret)))⟩
theorem dh46:cProg Go.Proofs.Tryz.prog ⟨[(0,⟨[(3,5)],[3,6,7,8],[3]⟩)],[(0,⟨[],[3],[3]⟩)],[14]⟩ 46=some dc46:=by kernel_rfl
end Sh

namespace Sh
open Go
theorem chosen_spec {c:Crw} (hc:OkCr c) (l:List Std):(∃ set,Inc l.length (-1) set∧sumV l set≤c.tank∧chosenS c l=rndS c l set)∧(∀ set,Inc l.length (-1) set→sumV l set≤c.tank→leP (chosenS c l) (rndS c l set))∧0≤(chosenS c l).worth:=by
 have hm:=bestP_mem (l:=rnds c l) (fun e=>by have:=rnds_nil hc l;rw [e] at this;cases this)
 refine ⟨mem_rnds.1 hm,fun set h1 h2=>bestP_le _ (mem_rnds.2 ⟨set,h1,h2,rfl⟩),?_⟩
 have:=bestP_worth _ (rnds_nil hc l)
 exact this
end Sh

namespace Sh
open Go
def ordG (g:List Int→List (List Int)) (bg:List Int) (l:List Int):List (List Int):=l.flatMap fun x=>if x ∈ bg then [] else g (bg++[x])
def ordF (set:List Int):Nat→List Int→List (List Int)
 |0,bg=>[bg]
 |n+1,bg=>ordG (ordF set n) bg set
theorem ordG_snoc (g:List Int→List (List Int)) (bg l:List Int) (x:Int):ordG g bg (l++[x])=ordG g bg l++(if x ∈ bg then [] else g (bg++[x])):=by
 unfold ordG;rw [List.flatMap_append];simp
theorem ordG_filter (g:List Int→List (List Int)) (bg:List Int):∀ l:List Int,ordG g bg l=(l.filter fun x=>decide (x ∉ bg)).flatMap fun x=>g (bg++[x])
 |[]=>rfl
 |x :: r=>by
  have ih:=ordG_filter g bg r
  unfold ordG at ih ⊢
  rw [List.flatMap_cons,ih]
  by_cases h:x ∈ bg
  ·rw [if_pos h,List.filter_cons_of_neg (by simp [h])];rfl
  ·rw [if_neg h,List.filter_cons_of_pos (by simp [h]),List.flatMap_cons]
theorem flat_range {α:Type} (l:List Int) (g:Int→List α):l.flatMap g=(List.range l.length).flatMap fun k=>g (l.getD k 0):=by
 have h:l=(List.range l.length).map fun k=>l.getD k 0:=by
  refine List.ext_getElem (by simp) fun i h1 h2=>?_
  simp [List.getD_eq_getElem?_getD,h1]
 conv=>lhs;rw [h]
 rw [List.flatMap_map]
theorem flat_len {α β:Type} (g:α→List β) (m:Nat):∀ l:List α,(∀ x ∈ l,(g x).length≤m)→(l.flatMap g).length≤l.length * m
 |[],_=>by simp
 |x :: r,h=>by
  have ih:=flat_len g m r fun y hy=>h y (by simp [hy])
  have h0:=h x (by simp)
  rw [List.flatMap_cons,List.length_append,List.length_cons,Nat.succ_mul]
  omega
theorem ordF_len (set:List Int):∀ (n:Nat) (bg:List Int),(ordF set n bg).length≤set.length ^ n
 |0,bg=>by simp [ordF]
 |n+1,bg=>by
  unfold ordF ordG
  refine Nat.le_trans (flat_len _ (set.length ^ n) set fun x _=>?_) (by rw [Nat.pow_succ,Nat.mul_comm];exact Nat.le_refl _)
  split
  ·simp
  ·exact ordF_len set n _
theorem ordG_len (set l bg:List Int) (n:Nat):(ordG (ordF set n) bg l).length≤l.length * set.length ^ n:=by
 unfold ordG
 refine flat_len _ _ l fun x _=>?_
 split
 ·simp
 ·exact ordF_len set n _
theorem erase_at:∀ {L:List Int},L.Nodup→∀ k,k < L.length→(L.filter fun x=>decide (x≠L.getD k 0))=L.eraseIdx k
 |[],_,k,h=>by simp at h
 |a :: r,hd,0,_=>by
  have ha:=(List.nodup_cons.1 hd).1
  show (a :: r).filter (fun x=>decide (x≠a))=r
  rw [List.filter_cons_of_neg (by simp)]
  exact List.filter_eq_self.2 fun x hx=>decide_eq_true fun e=>ha (by rw [← e];exact hx)
 |a :: r,hd,k+1,h=>by
  have ha:=List.nodup_cons.1 hd
  have hk:k < r.length:=by simpa using h
  have ih:=erase_at ha.2 k hk
  show (a :: r).filter (fun x=>decide (x≠r.getD k 0))=a :: r.eraseIdx k
  have hne:a≠r.getD k 0:=fun e=>ha.1 (by rw [e];exact getD_in 0 hk)
  rw [List.filter_cons_of_pos (by simpa using hne),ih]
theorem ordF_perms {set:List Int} (hs:set.Nodup):∀ (n:Nat) (bg:List Int),(set.filter fun x=>decide (x ∉ bg)).length=n→ordF set n bg=(permsF n (set.filter fun x=>decide (x ∉ bg))).map (bg++·)
 |0,bg,_=>by unfold ordF permsF;simp
 |n+1,bg,h=>by
  have hL:(set.filter fun x=>decide (x ∉ bg)).Nodup:=hs.filter _
  unfold ordF permsF
  rw [ordG_filter,flat_range,List.map_flatMap]
  have key:∀ k,k < (set.filter fun x=>decide (x ∉ bg)).length→ordF set n (bg++[(set.filter fun x=>decide (x ∉ bg)).getD k 0])=((permsF n ((set.filter fun x=>decide (x ∉ bg)).eraseIdx k)).map fun o=>(set.filter fun x=>decide (x ∉ bg)).getD k 0 :: o).map (bg++·):=fun k hk=>by
   have he:(set.filter fun x=>decide (x ∉ bg++[(set.filter fun x=>decide (x ∉ bg)).getD k 0]))=(set.filter fun x=>decide (x ∉ bg)).eraseIdx k:=by
    rw [← erase_at hL k hk,List.filter_filter]
    refine List.filter_congr fun x _=>?_
    generalize (set.filter fun x=>decide (x ∉ bg)).getD k 0=y
    by_cases h1:x ∈ bg<;>by_cases h2:x=y<;>simp [h1,h2]
   have hlen:((set.filter fun x=>decide (x ∉ bg)).eraseIdx k).length=n:=by rw [List.length_eraseIdx_of_lt hk];omega
   rw [ordF_perms hs n _ (by rw [he];exact hlen),he,List.map_map]
   simp [Function.comp_def]
  have cg:∀ {f g:Nat→List (List Int)} (l:List Nat),(∀ k ∈ l,f k=g k)→l.flatMap f=l.flatMap g:=fun l h=>by
   induction l with
   |nil=>rfl
   |cons a r ih=>rw [List.flatMap_cons,List.flatMap_cons,h a (by simp),ih fun k hk=>h k (by simp [hk])]
  exact cg _ fun k hk=>key k (List.mem_range.1 hk)
theorem ordF_all {set:List Int} (hs:set.Nodup):ordF set set.length []=permsS set:=by
 have h:(set.filter fun x=>decide (x ∉ ([]:List Int)))=set:=by simp
 rw [ordF_perms hs set.length [] (by rw [h]),h]
 unfold permsS;simp
end Sh

namespace Sh
open Go
theorem sets_head:∀ n:Nat,∃ r,setsS n=[] :: r
 |0=>⟨[],rfl⟩
 |n+1=>by
  obtain ⟨r,hr⟩:=sets_head n
  exact ⟨_,by show setsS n++(setsS n).map _=_;rw [hr,List.cons_append]⟩
theorem minP_snoc:∀ (l:List Pl) (m x:Pl),minP m (l++[x])=if cmpP x (minP m l) < 0 then x else minP m l
 |[],m,x=>rfl
 |y :: r,m,x=>minP_snoc r _ x
end Sh

namespace Sh
open Go Go.Proofs
theorem ordF_small {set:List Int} (h8:set.length≤8) (n:Nat) (hn:n≤8) (l bg:List Int) (hl:l.length≤8):(ordG (ordF set n) bg l).length≤134217728:=by
 refine Nat.le_trans (ordG_len set l bg n) ?_
 have h1:set.length ^ n≤8 ^ n:=Nat.pow_le_pow_left h8 n
 have h2:8 ^ n≤8 ^ 8:=Nat.pow_le_pow_right (by decide) hn
 have h3:(8:Nat) ^ 8=16777216:=by decide
 calc l.length * set.length ^ n≤8 * 16777216:=Nat.mul_le_mul hl (by omega)
  _≤134217728:=by decide
theorem r_Orders (set:List Int) (h8:set.length≤8):∀ (n:Nat) (bg:List Int),bg.length+n=set.length→PC 123 [iL set,iL bg] (.list (ssD (ordF set n bg))):=by
 have e0:((set.map (DV.int .i64)).length:Int)=set.length:=by simp
 intro n
 induction n with
 |zero =>
  intro bg hbg
  have e1:((bg.map (DV.int .i64)).length:Int)=bg.length:=by simp
  refine pureCall_ofR dh123 rfl ?_
  conv=>whnf
  refine ⟨fun hb=>?_,fun hb=>?_⟩
  ·conv=>whnf
   exact ⟨rfl,rfl⟩
  ·have:=of_decide_eq_false hb
   exfalso;apply this;rw [e0,e1];omega
 |succ n ih =>
  intro bg hbg
  have e1:((bg.map (DV.int .i64)).length:Int)=bg.length:=by simp
  refine pureCall_ofR dh123 rfl ?_
  conv=>whnf
  refine ⟨fun hb=>?_,fun hb=>?_⟩
  ·have:=of_decide_eq_true hb
   exfalso;rw [e0,e1] at this;omega
  ·clear hb
   conv=>whnf
   refine dwp_loopU (P:=Tryz.prog) (G:=GC) (k:=dk123_0) (b:=db123_0) (α:=Nat) (fun i=>[(5,.own 5 0 (ssD (ordG (ordF set n) bg (set.take i))).length (ssD (ordG (ordF set n) bg (set.take i))).length),(6,DV.int .i64 (i))]) (fun i=>[(5,.row 1 (ssD (ordG (ordF set n) bg (set.take i))) false)]) (fun i=>i≤set.length) (fun i=>set.length - i) 0 (Nat.zero_le _) ?_
   conv=>whnf
   refine ⟨rfl,rfl,?_⟩
   conv=>whnf
   refine ⟨rfl,?_⟩
   intro i h1
   conv=>whnf
   refine ⟨fun hb=>?_,fun hb=>?_⟩
   ·have hi:i < set.length:=by simpa using hb
    clear hb
    have k1:=q_HasInt bg (set.getD i 0) (by omega)
    have hsn:=ordG_snoc (ordF set n) bg (set.take i) (set.getD i 0)
    rw [← take_snoc set i 0 hi] at hsn
    have hlen:=ordF_small h8 n (by omega) (set.take (i+1)) bg (by rw [List.length_take];omega)
    by_cases hx:set.getD i 0 ∈ bg
    ·rw [decide_eq_true hx] at k1
     rw [if_pos hx,List.append_nil] at hsn
     rw [hsn] at hlen
     generalize hX':ordG (ordF set n) bg (set.take (i+1))=X' at *
     generalize hX:ordG (ordF set n) bg (set.take i)=X at *
     conv=>whnf
     rw [getD_enc _ _ (i) 0 hi]
     refine ⟨idxA hi rfl,?_⟩
     conv=>whnf
     refine .inl ?_
     conv=>whnf
     refine ⟨_,k1 ..,?_⟩
     conv=>whnf
     refine ⟨fun hg=>absurd hg (by decide),fun _=>?_⟩
     conv=>whnf
     rw [wrap_succ i (by omega)]
     exact ⟨i+1,rfl,by rw [hX',hsn];rfl,by rw [hX',hsn];rfl,hi,by omega⟩
    ·rw [decide_eq_false hx] at k1
     rw [if_neg hx] at hsn
     rw [hsn] at hlen
     have kI:=ih (bg++[set.getD i 0]) (by rw [List.length_append];simp;omega)
     generalize hX':ordG (ordF set n) bg (set.take (i+1))=X' at *
     generalize hX:ordG (ordF set n) bg (set.take i)=X at *
     generalize hY:ordF set n (bg++[set.getD i 0])=Y at *
     conv=>whnf
     rw [getD_enc _ _ (i) 0 hi]
     refine ⟨idxA hi rfl,?_⟩
     conv=>whnf
     refine .inl ?_
     conv=>whnf
     refine ⟨_,k1 ..,?_⟩
     conv=>whnf
     refine ⟨fun _=>?_,fun hg=>absurd hg (by decide)⟩
     conv=>whnf
     refine ⟨⟨rfl,rfl,rfl,by rw [List.length_map];simp;omega,fun e he=>iD_ok bg e he⟩,?_⟩
     conv=>whnf
     rw [getD_enc _ _ (i) 0 hi]
     refine ⟨idxA hi rfl,?_⟩
     conv=>whnf
     refine ⟨⟨rfl,rfl,rfl,by simp;omega,fun e he=>by simp at he;subst he;rfl⟩,?_⟩
     rw [show []++bg.map (DV.int .i64)++[DV.int .i64 (set.getD i 0)].reverse=iD (bg++[set.getD i 0]) from (iD_app bg (set.getD i 0)).symm]
     conv=>whnf
     refine .inl ?_
     conv=>whnf
     rw [window_full]
     refine ⟨rfl,_,kI,?_⟩
     conv=>whnf
     refine ⟨⟨rfl,rfl,rfl,by rw [ssD_len,ssD_len];rw [List.length_append] at hlen;omega,fun e he=>by obtain ⟨x,_,rfl⟩:=List.mem_map.1 he;rfl⟩,?_⟩
     rw [show ssD X++ssD Y=ssD X' by rw [hsn];unfold ssD;rw [List.map_append]]
     conv=>whnf
     refine ⟨by kernel_rfl,?_⟩
     conv=>whnf
     rw [wrap_succ i (by omega)]
     exact ⟨i+1,rfl,by rw [hX'];rfl,by rw [hX'];rfl,hi,by omega⟩
   ·have hi:i=set.length:=by have:=of_decide_eq_false hb;rw [e0] at this;omega
    clear hb
    rw [hi,List.take_length]
    conv=>whnf
    refine ⟨rfl,?_⟩
    rw [window_full];rfl
end Sh

namespace Sh
open Go Go.Proofs
theorem sumV_app (l:List Std) (a:List Int) (x:Int):sumV l (a++[x])=sumV l a+(l.getD x.toNat T0).water:=by
 unfold sumV;rw [List.map_append,sumI_append,List.map_singleton,sumI_one]
theorem sumW_app (l:List Std) (a:List Int) (x:Int):sumW l (a++[x])=sumW l a+(l.getD x.toNat T0).worth:=by
 unfold sumW;rw [List.map_append,sumI_append,List.map_singleton,sumI_one]
theorem r_Water (l:List Std) (set:List Int) (hl:∀ s ∈ l,OkStd s) (hs:∀ i ∈ set,0≤i∧i < l.length) (h8:set.length≤8) (hll:l.length≤8):PC 129 [tsV l,iL set] (DV.int .i64 (sumV l set)):=by
 have e0:((set.map (DV.int .i64)).length:Int)=set.length:=by simp
 refine pureCall_ofR dh129 rfl ?_
 conv=>whnf
 refine dwp_loopU (P:=Tryz.prog) (G:=GC) (k:=dk129_0) (b:=db129_0) (α:=Nat) (fun i=>[(5,DV.int .i64 (sumV l (set.take i))),(6,DV.int .i64 (i))]) (fun _=>[]) (fun i=>i≤set.length) (fun i=>set.length - i) 0 (Nat.zero_le _) ?_
 conv=>whnf
 refine ⟨rfl,rfl,?_⟩
 conv=>whnf
 refine ⟨rfl,?_⟩
 intro i h1
 conv=>whnf
 refine ⟨fun hb=>?_,fun hb=>?_⟩
 ·have hi:i < set.length:=by simpa using hb
  clear hb
  have hx:=hs _ (getD_in (i:=i) 0 hi)
  have hbd:=sumW_bd hl (a:=set.take i) (fun j hj=>hs j (List.mem_of_mem_take hj))
  have hsn:=sumV_app l (set.take i) (set.getD i 0)
  rw [← take_snoc set i 0 hi] at hsn
  have hok:=hl _ (getD_in (i:=(set.getD i 0).toNat) T0 (by omega))
  have hw0:=hok.v0
  have hw1:=hok.v1
  rw [List.length_take] at hbd
  generalize hX:sumV l (set.take (i+1))=X at *
  generalize hN:sumV l (set.take i)=N at *
  conv=>whnf
  rw [getD_enc _ _ (i) 0 hi]
  refine ⟨idxA hi rfl,?_⟩
  conv=>whnf
  obtain ⟨n,hxn⟩:∃ n:Nat,set.getD i 0=n:=⟨_,(Int.toNat_of_nonneg hx.1).symm⟩
  rw [hxn,Int.toNat_natCast] at hsn hw0 hw1
  rw [hxn] at hx
  rw [hxn]
  have hn:n < l.length:=by omega
  rw [getD_enc _ _ (n) T0 hn]
  refine ⟨idxA hn rfl,?_⟩
  conv=>whnf
  rw [wrap_in (n:=N+(l.getD n T0).water) (by omega) (by omega),wrap_succ i (by omega)]
  exact ⟨i+1,rfl,by rw [hX,hsn];rfl,rfl,hi,by omega⟩
 ·have hi:i=set.length:=by have:=of_decide_eq_false hb;rw [e0] at this;omega
  clear hb
  rw [hi,List.take_length]
  conv=>whnf
  rfl
theorem r_Shortest (c:Crw) (l:List Std) (set:List Int) (hc:OkCr c) (hl:∀ s ∈ l,OkStd s) (hs:∀ i ∈ set,0≤i∧i < l.length) (hn:set.Nodup) (h8:set.length≤8) (hll:l.length≤8):PC 54 [encC c,tsV l,iL set] (.tuple [iL (shortS c l set).1,DV.int .i64 ((shortS c l set).2)]):=by
 have k1:=r_Orders set h8 set.length [] (by simp)
 have hsm:(ordF set set.length []).length≤134217728:=by
  rw [show ordF set set.length []=ordF set set.length [] from rfl]
  have:=ordF_len set set.length []
  have h1:set.length ^ set.length≤8 ^ set.length:=Nat.pow_le_pow_left h8 _
  have h2:8 ^ set.length≤8 ^ 8:=Nat.pow_le_pow_right (by decide) h8
  have h3:(8:Nat) ^ 8=16777216:=by decide
  omega
 rw [ordF_all hn] at k1 hsm
 have hp:∀ o ∈ permsS set,o.Perm set:=perms_perm set.length set rfl
 have hne:permsS set≠[]:=perms_ne set.length set rfl
 have hSh:shortS c l set=shortF c l ([],-1) (permsS set):=rfl
 obtain ⟨o0,r,hA⟩:=List.exists_cons_of_ne_nil hne
 rw [hA] at k1 hsm hp hSh
 rw [hSh,shortF_cons,show stepO c l ([],-1) o0=(o0,wayS c l o0) from if_pos (.inl (by decide))]
 clear hSh hA hne
 have hin:∀ o ∈ o0 :: r,∀ i ∈ o,0≤i∧i < l.length:=fun o ho i hi=>hs i ((hp o ho).subset hi)
 have hle:∀ o ∈ o0 :: r,o.length≤8:=fun o ho=>by rw [(hp o ho).length_eq];exact h8
 have kW:∀ o ∈ o0 :: r,PC 53 [encC c,tsV l,iL o] (DV.int .i64 (wayS c l o)):=fun o ho=>r_Way c l o hc hl (hin o ho) (by have:=hle o ho;omega) (by omega)
 have hW:∀ o ∈ o0 :: r,0≤wayS c l o∧wayS c l o≤40000:=fun o ho=>by
  have:=wayS_bd hc hl (hin o ho)
  have:=hle o ho
  omega
 have e0:((ssD (o0 :: r)).length:Int)=r.length+1:=by unfold ssD;simp
 have k0:=kW o0 (by simp)
 simp only [List.length_cons] at hsm
 refine pureCall_ofR dh54 rfl ?_
 conv=>whnf
 refine .inl ?_
 conv=>whnf
 refine ⟨_,k1 ..,?_⟩
 conv=>whnf
 rw [show (ssD (o0 :: r)).getD (Int.toNat 0) .undef=iL o0 from rfl]
 refine ⟨⟨by decide,by rw [e0];omega,rfl⟩,?_⟩
 conv=>whnf
 refine .inl ?_
 conv=>whnf
 refine ⟨_,k0 ..,?_⟩
 conv=>whnf
 refine ⟨by kernel_rfl,?_⟩
 conv=>whnf
 refine dwp_loopU (P:=Tryz.prog) (G:=GC) (k:=dk54_0) (b:=db54_0) (α:=Nat×Nat) (fun a=>[(9,DV.int .i64 (a.2)),(10,DV.int .i64 (wayS c l ((o0 :: r).getD a.2 []))),(11,DV.int .i64 ((a.1+1:Nat)))]) (fun a=>[(3,.box 4 (encC c))]) (fun a=>a.1≤r.length∧a.2≤a.1∧shortF c l (o0,wayS c l o0) (r.take a.1)=((o0 :: r).getD a.2 [],wayS c l ((o0 :: r).getD a.2 []))) (fun a=>r.length - a.1) (0,0) ⟨Nat.zero_le _,Nat.le_refl _,rfl⟩ ?_
 conv=>whnf
 refine ⟨rfl,rfl,?_⟩
 conv=>whnf
 refine ⟨rfl,?_⟩
 intro ⟨k,j⟩ ⟨h1,h2,h3⟩
 have h1:k≤r.length:=h1
 have h2:j≤k:=h2
 have h3:shortF c l (o0,wayS c l o0) (r.take k)=((o0 :: r).getD j [],wayS c l ((o0 :: r).getD j [])):=h3
 conv=>whnf
 refine ⟨fun hb=>?_,fun hb=>?_⟩
 ·have hk:k < r.length:=by have:=of_decide_eq_true hb;rw [e0] at this;omega
  clear hb
  have hk1:k+1 < (o0 :: r).length:=by simp;omega
  have hs1:shortF c l (o0,wayS c l o0) (r.take (k+1))=stepO c l ((o0 :: r).getD j [],wayS c l ((o0 :: r).getD j [])) ((o0 :: r).getD (k+1) []):=by
   rw [take_snoc r k [] hk,shortF_append,h3];rfl
  have kw:=kW _ (getD_in (i:=k+1) [] hk1)
  have hb1:=hW _ (getD_in (i:=k+1) [] hk1)
  have hb2:=hW _ (getD_in (i:=j) [] (show j < (o0 :: r).length by omega))
  have hgx:(ssD (o0 :: r)).getD (k+1) .undef=iL ((o0 :: r).getD (k+1) []):=ssD_get _ _ hk1
  have hst:stepO c l ((o0 :: r).getD j [],wayS c l ((o0 :: r).getD j [])) ((o0 :: r).getD (k+1) [])=if wayS c l ((o0 :: r).getD (k+1) []) < wayS c l ((o0 :: r).getD j []) then ((o0 :: r).getD (k+1) [],wayS c l ((o0 :: r).getD (k+1) [])) else ((o0 :: r).getD j [],wayS c l ((o0 :: r).getD j [])):=by
   unfold stepO
   by_cases h:wayS c l ((o0 :: r).getD (k+1) []) < wayS c l ((o0 :: r).getD j [])
   ·rw [if_pos (.inr h),if_pos h]
   ·rw [if_neg (by simp only [not_or];exact ⟨by show ¬ wayS c l ((o0 :: r).getD j []) < 0;omega,h⟩),if_neg h]
  conv=>whnf
  rw [Int.toNat_natCast,hgx]
  refine ⟨⟨by omega,by rw [e0];omega,rfl⟩,?_⟩
  conv=>whnf
  refine .inl ?_
  conv=>whnf
  refine ⟨_,kw ..,?_⟩
  conv=>whnf
  refine ⟨by kernel_rfl,?_⟩
  conv=>whnf
  refine ⟨fun hg=>?_,fun hg=>?_⟩
  ·have hg:=of_decide_eq_true hg
   rw [if_pos hg] at hst
   conv=>whnf
   rw [wrap_succ (k+1) (by omega)]
   exact ⟨(k+1,k+1),rfl,rfl,rfl,⟨hk,Nat.le_refl _,by rw [hs1,hst]⟩,by show r.length - (k+1) < r.length - k;omega⟩
  ·have hg:=of_decide_eq_false hg
   rw [if_neg hg] at hst
   conv=>whnf
   rw [wrap_succ (k+1) (by omega)]
   exact ⟨(k+1,j),rfl,rfl,rfl,⟨hk,by show j≤k+1;omega,by rw [hs1,hst]⟩,by show r.length - (k+1) < r.length - k;omega⟩
 ·have hk:k=r.length:=by have:=of_decide_eq_false hb;rw [e0] at this;omega
  clear hb
  rw [hk,List.take_length] at h3
  rw [h3]
  have hj:j < (o0 :: r).length:=by simp;omega
  have hgx:(ssD (o0 :: r)).getD j .undef=iL ((o0 :: r).getD j []):=ssD_get _ _ hj
  conv=>whnf
  rw [Int.toNat_natCast,hgx]
  refine ⟨⟨by omega,by rw [e0];omega,rfl⟩,?_⟩
  conv=>whnf
  rfl
end Sh

namespace Sh
open Go Go.Proofs
theorem r_Value (c:Crw) (l:List Std) (set:List Int) (hc:OkCr c) (hl:∀ s ∈ l,OkStd s) (hs:SetOk l.length set) (hll:l.length≤8):PC 130 [encC c,tsV l,iL set] (DV.int .i64 ((rndS c l set).worth)):=by
 have e0:((set.map (DV.int .i64)).length:Int)=set.length:=by simp
 have hlen:=hs.len
 have k1:=r_Shortest c l set hc hl hs.inr hs.nd (by omega) hll
 have hb:=short_bd hc hl hs hll
 have hpr:=price_bd hc hb.1 hb.2
 rw [show (rndS c l set).worth=sumW l set - c.price * (shortS c l set).2 from rfl]
 generalize (shortS c l set).2=W at *
 refine pureCall_ofR dh130 rfl ?_
 conv=>whnf
 refine .inl ?_
 conv=>whnf
 refine ⟨_,k1 ..,?_⟩
 conv=>whnf
 rw [wrap_in (n:=c.price * W) (by omega) (by omega),wrap_in (n:=0 - c.price * W) (by omega) (by omega)]
 refine dwp_loopU (P:=Tryz.prog) (G:=GC) (k:=dk130_0) (b:=db130_0) (α:=Nat) (fun i=>[(9,DV.int .i64 (sumW l (set.take i) - c.price * W)),(10,DV.int .i64 (i))]) (fun _=>[(3,.box 4 (encC c))]) (fun i=>i≤set.length) (fun i=>set.length - i) 0 (Nat.zero_le _) ?_
 conv=>whnf
 refine ⟨rfl,rfl,?_⟩
 conv=>whnf
 refine ⟨rfl,?_⟩
 intro i h1
 conv=>whnf
 refine ⟨fun hb=>?_,fun hb=>?_⟩
 ·have hi:i < set.length:=by simpa using hb
  clear hb
  have hx:=hs.inr _ (getD_in (i:=i) 0 hi)
  have hbd:=sumW_bd hl (a:=set.take i) (fun j hj=>hs.inr j (List.mem_of_mem_take hj))
  have hsn:=sumW_app l (set.take i) (set.getD i 0)
  rw [← take_snoc set i 0 hi] at hsn
  have hok:=hl _ (getD_in (i:=(set.getD i 0).toNat) T0 (by omega))
  have hw0:=hok.w0
  have hw1:=hok.w1
  rw [List.length_take] at hbd
  generalize hX:sumW l (set.take (i+1))=X at *
  generalize hN:sumW l (set.take i)=N at *
  conv=>whnf
  rw [getD_enc _ _ (i) 0 hi]
  refine ⟨idxA hi rfl,?_⟩
  conv=>whnf
  obtain ⟨n,hxn⟩:∃ n:Nat,set.getD i 0=n:=⟨_,(Int.toNat_of_nonneg hx.1).symm⟩
  rw [hxn,Int.toNat_natCast] at hsn hw0 hw1
  rw [hxn] at hx
  rw [hxn]
  have hn:n < l.length:=by omega
  rw [getD_enc _ _ (n) T0 hn]
  refine ⟨idxA hn rfl,?_⟩
  conv=>whnf
  rw [wrap_in (n:=N - c.price * W+(l.getD n T0).worth) (by omega) (by omega),wrap_succ i (by omega)]
  exact ⟨i+1,rfl,by rw [hX,hsn,show N - c.price * W+(l.getD n T0).worth=N+(l.getD n T0).worth - c.price * W by omega];rfl,rfl,hi,by omega⟩
 ·have hi:i=set.length:=by have:=of_decide_eq_false hb;rw [e0] at this;omega
  clear hb
  rw [hi,List.take_length]
  conv=>whnf
  rfl
theorem r_Chosen (c:Crw) (l:List Std) (hc:OkCr c) (hl:∀ s ∈ l,OkStd s) (hll:l.length≤8):PC 60 [encC c,tsV l] (.tuple [iL (chosenS c l).idx,DV.int .i64 ((chosenS c l).worth)]):=by
 have e1:((l.map encT).length:Int)=l.length:=by simp
 have k1:=r_Sets l.length (by omega)
 have hsl:=setsS_len l.length
 have hpow:2 ^ l.length≤4096:=Nat.le_trans (Nat.pow_le_pow_right (by decide) (show l.length≤12 by omega)) (by decide)
 have hel:∀ x ∈ setsS l.length,SetOk l.length x:=fun x hx=>sets_ok hx
 obtain ⟨r,hL⟩:=sets_head l.length
 have hch:chosenS c l=minP P00 ((r.filter fun set=>decide (sumV l set≤c.tank)).map (rndS c l)):=by
  unfold chosenS rnds
  have:sumV l []≤c.tank:=hc.t0
  rw [hL,List.filter_cons_of_pos (by simp [this]),List.map_cons,rnd_nil]
  rfl
 rw [hch]
 rw [hL] at hsl hel k1
 have hrl:r.length < 4096:=by simp at hsl;omega
 have e0:((ssD ([] :: r)).length:Int)=r.length+1:=by unfold ssD;simp
 let M:Nat→Pl:=fun k=>minP P00 (((r.take k).filter fun set=>decide (sumV l set≤c.tank)).map (rndS c l))
 have hM:∀ k,k < r.length→M (k+1)=if sumV l (r.getD k [])≤c.tank then (if cmpP (rndS c l (r.getD k [])) (M k) < 0 then rndS c l (r.getD k []) else M k) else M k:=fun k hk=>by
  show minP P00 _=_
  rw [take_snoc r k [] hk,List.filter_append]
  by_cases hv:sumV l (r.getD k [])≤c.tank
  ·rw [if_pos hv,List.filter_cons_of_pos (p:=fun set=>decide (sumV l set≤c.tank)) (a:=r.getD k []) (l:=[]) (decide_eq_true hv),List.filter_nil,List.map_append,List.map_singleton,minP_snoc]
  ·rw [if_neg hv,List.filter_cons_of_neg (p:=fun set=>decide (sumV l set≤c.tank)) (a:=r.getD k []) (l:=[]) (by rw [decide_eq_false hv];decide),List.filter_nil,List.append_nil]
 have hM0:M 0=P00:=rfl
 have hMe:minP P00 ((r.filter fun set=>decide (sumV l set≤c.tank)).map (rndS c l))=M r.length:=by
  show _=minP P00 _
  rw [List.take_length]
 rw [hMe]
 clear_value M
 clear hMe hch hL
 refine pureCall_ofR dh60 rfl ?_
 conv=>whnf
 rw [e1]
 refine .inl ?_
 conv=>whnf
 refine ⟨_,k1 ..,?_⟩
 conv=>whnf
 rw [show (ssD ([] :: r)).getD (Int.toNat 0) .undef=iL [] from rfl]
 refine ⟨⟨by decide,by rw [e0];omega,rfl⟩,?_⟩
 conv=>whnf
 refine dwp_loopU (P:=Tryz.prog) (G:=GC) (k:=dk60_0) (b:=db60_0) (α:=Nat) (fun k=>[(7,iL (M k).idx),(8,DV.int .i64 ((M k).worth)),(9,DV.int .i64 ((k+1:Nat)))]) (fun k=>[(2,.box 4 (encC c))]) (fun k=>k≤r.length) (fun k=>r.length - k) 0 (Nat.zero_le _) ?_
 conv=>whnf
 refine ⟨rfl,rfl,?_⟩
 conv=>whnf
 refine ⟨by rw [hM0];rfl,?_⟩
 intro k h1
 conv=>whnf
 refine ⟨fun hb=>?_,fun hb=>?_⟩
 ·have hk:k < r.length:=by have:=of_decide_eq_true hb;rw [e0] at this;omega
  clear hb
  have hk1:k+1 < ([] :: r).length:=by simp;omega
  have hgx:(ssD ([] :: r)).getD (k+1) .undef=iL (r.getD k []):=ssD_get _ _ hk1
  have hx:=hel _ (show r.getD k [] ∈ [] :: r from List.mem_cons_of_mem _ (getD_in [] hk))
  have hmk:=hM k hk
  have hxl:=hx.len
  have k2:=r_Water l (r.getD k []) hl hx.inr (by omega) hll
  have k3:=r_Value c l (r.getD k []) hc hl hx hll
  have k4:=r_Sooner (r.getD k []) (M k).idx (by omega)
  have hb:=cmpP_better (rndS c l (r.getD k [])) (M k)
  have hcond:(0:Int)≤((k+1:Nat):Int)∧((k+1:Nat):Int) < (ssD ([] :: r)).length:=by rw [e0];omega
  generalize hX':M (k+1)=X' at *
  generalize hX:M k=X at *
  conv=>whnf
  rw [Int.toNat_natCast,hgx]
  refine ⟨⟨hcond.1,hcond.2,rfl⟩,?_⟩
  conv=>whnf
  refine .inl ?_
  conv=>whnf
  refine ⟨_,k2 ..,?_⟩
  conv=>whnf
  refine ⟨by kernel_rfl,?_⟩
  conv=>whnf
  have hidx:(rndS c l (r.getD k [])).idx=r.getD k []:=rfl
  rw [hidx] at hb
  have stayT:¬ sumV l (r.getD k [])≤c.tank→X'=X:=fun h=>by rw [if_neg h] at hmk;exact hmk
  have stay:¬ cmpP (rndS c l (r.getD k [])) X < 0→X'=X:=fun h=>by
   by_cases h2:sumV l (r.getD k [])≤c.tank
   ·rw [if_pos h2,if_neg h] at hmk;exact hmk
   ·exact stayT h2
  have move:sumV l (r.getD k [])≤c.tank→cmpP (rndS c l (r.getD k [])) X < 0→X'=rndS c l (r.getD k []):=fun h2 h=>by rw [if_pos h2,if_pos h] at hmk;exact hmk
  generalize hw:(rndS c l (r.getD k [])).worth=wx at *
  refine ⟨fun g0=>?_,fun g0=>?_⟩
  ·have g0:=of_decide_eq_true g0
   conv=>whnf
   rw [wrap_succ (k+1) (by omega)]
   have hst:=stayT (by omega)
   exact ⟨k+1,rfl,by rw [hX',hst];rfl,rfl,hk,by omega⟩
  ·have g0:=of_decide_eq_false g0
   have g0':sumV l (r.getD k [])≤c.tank:=by omega
   conv=>whnf
   rw [Int.toNat_natCast,hgx]
   refine ⟨⟨hcond.1,hcond.2,rfl⟩,?_⟩
   conv=>whnf
   refine .inl ?_
   conv=>whnf
   refine ⟨_,k3 ..,?_⟩
   conv=>whnf
   refine ⟨by kernel_rfl,?_⟩
   conv=>whnf
   refine ⟨fun g1=>?_,fun g1=>?_⟩
   ·have g1':=of_decide_eq_false g1
    conv=>whnf
    refine ⟨fun g2=>?_,fun g2=>?_⟩
    ·have g2':=of_decide_eq_true g2
     conv=>whnf
     rw [Int.toNat_natCast,hgx]
     refine ⟨⟨hcond.1,hcond.2,rfl⟩,?_⟩
     conv=>whnf
     refine .inl ?_
     conv=>whnf
     refine ⟨_,k4 ..,?_⟩
     conv=>whnf
     refine ⟨fun g3=>?_,fun g3=>?_⟩
     ·have g3:soonB (r.getD k []) X.idx=true:=g3
      conv=>whnf
      rw [Int.toNat_natCast,hgx]
      refine ⟨⟨hcond.1,hcond.2,rfl⟩,?_⟩
      conv=>whnf
      rw [wrap_succ (k+1) (by omega)]
      have hmv:=move g0' (hb.2 (.inr ⟨g2',g3⟩))
      refine ⟨k+1,rfl,?_,rfl,hk,by omega⟩
      rw [hX',hmv,hw,hidx];rfl
     ·have g3:soonB (r.getD k []) X.idx=false:=g3
      conv=>whnf
      rw [wrap_succ (k+1) (by omega)]
      have hst:=stay (fun h=>(hb.1 h).elim g1' (fun q=>by have:=q.2;rw [g3] at this;cases this))
      refine ⟨k+1,rfl,?_,rfl,hk,by omega⟩
      rw [hX',hst];rfl
    ·have g2':=of_decide_eq_false g2
     conv=>whnf
     refine ⟨fun g3=>absurd g3 (by decide),fun _=>?_⟩
     conv=>whnf
     rw [wrap_succ (k+1) (by omega)]
     have hst:=stay (fun h=>(hb.1 h).elim g1' (fun q=>g2' q.1))
     refine ⟨k+1,rfl,?_,rfl,hk,by omega⟩
     rw [hX',hst];rfl
   ·have g1':=of_decide_eq_true g1
    conv=>whnf
    refine ⟨fun _=>?_,fun g3=>absurd g3 (by decide)⟩
    conv=>whnf
    rw [Int.toNat_natCast,hgx]
    refine ⟨⟨hcond.1,hcond.2,rfl⟩,?_⟩
    conv=>whnf
    rw [wrap_succ (k+1) (by omega)]
    have hmv:=move g0' (hb.2 (.inl g1'))
    refine ⟨k+1,rfl,?_,rfl,hk,by omega⟩
    rw [hX',hmv,hw,hidx];rfl
 ·have hk:k=r.length:=by have:=of_decide_eq_false hb;rw [e0] at this;omega
  clear hb
  rw [hk]
  conv=>whnf
  rfl
end Sh

namespace Sh
open Go Go.Proofs
theorem r_Bound (c:Crw) (l:List Std) (p:Int) (hc:OkCr c) (hll:l.length≤8) (hs:∀ s ∈ l,OkStd s) (h0:0≤p) (h1:p≤1000):PC 61 [encC c,tsV l,DV.int .i64 (p)] (DV.int .i64 (boundS c l p)):=by
 have e0:((l.map encT).length:Int)=l.length:=by simp
 have hpt:=pw_bd h0 h1 hc.t0 hc.t1
 have he:boundS c l p=p * c.tank+sumI ((l.map (bndV p)).take l.length):=by
  rw [List.take_of_length_le (by rw [List.length_map];exact Nat.le_refl _)];rfl
 have hbd:∀ i,0≤sumI ((l.map (bndV p)).take i)∧sumI ((l.map (bndV p)).take i)≤8000000:=fun i=>by
  have:=sumI_take_bd (l:=l.map (bndV p)) (B:=1000000) (fun x hx=>by
   obtain ⟨s,h,rfl⟩:=List.mem_map.1 hx
   exact bndV_bd h0 h1 (hs s h)) i
  rw [List.length_map] at this
  omega
 have hsu:∀ i,i < l.length→sumI ((l.map (bndV p)).take (i+1))=sumI ((l.map (bndV p)).take i)+bndV p (l.getD i T0):=fun i hi=>by
  rw [sumI_take_succ _ i (by rw [List.length_map];exact hi)]
  congr 1
  simp [List.getD_eq_getElem?_getD,hi]
 have hs0:sumI ((l.map (bndV p)).take 0)=0:=rfl
 rw [he]
 clear he
 generalize hF:(fun i=>sumI ((l.map (bndV p)).take i))=F at *
 have hF':∀ i,sumI ((l.map (bndV p)).take i)=F i:=fun i=>by rw [← hF]
 simp only [hF'] at *
 refine pureCall_ofR dh61 rfl ?_
 conv=>whnf
 rw [wrap_in (n:=p * c.tank) (by omega) (by omega)]
 refine dwp_loopU (P:=Tryz.prog) (G:=GC) (k:=dk61_0) (b:=db61_0) (α:=Nat) (fun i=>[(7,DV.int .i64 (p * c.tank+F i)),(8,DV.int .i64 (i))]) (fun i=>[(3,.box 4 (encC c))]) (fun i=>i≤l.length) (fun i=>l.length - i) 0 (Nat.zero_le _) ?_
 conv=>whnf
 refine ⟨rfl,rfl,?_⟩
 conv=>whnf
 refine ⟨by rw [hs0,Int.add_zero];rfl,?_⟩
 intro i hi0
 conv=>whnf
 refine ⟨fun hb=>?_,fun hb=>?_⟩
 ·have hi:i < l.length:=by simpa using hb
  clear hb
  have hok:=hs _ (getD_in T0 hi)
  have h2:=pw_bd h0 h1 hok.v0 hok.v1
  have h3:=hok.w0
  have h4:=hok.w1
  have h5:=hbd i
  have h6:=hbd (i+1)
  have h7:=hsu i hi
  unfold bndV at h7
  rw [← mm_max] at h7
  have hmb:=bndV_bd h0 h1 hok
  unfold bndV at hmb
  rw [← mm_max] at hmb
  generalize hX':F (i+1)=X' at *
  generalize hX:F i=X at *
  conv=>whnf
  rw [getD_enc _ _ (i) T0 hi]
  refine ⟨idxA hi rfl,?_⟩
  conv=>whnf
  rw [getD_enc _ _ (i) T0 hi]
  refine ⟨idxA hi rfl,?_⟩
  conv=>whnf
  rw [wrap_in (n:=p * (l.getD i T0).water) (by omega) (by omega),wrap_in (n:=(l.getD i T0).worth - p * (l.getD i T0).water) (by omega) (by omega)]
  refine ⟨by kernel_rfl,?_⟩
  conv=>whnf
  rw [wrap_in (n:=p * c.tank+X+minmaxI true 0 ((l.getD i T0).worth - p * (l.getD i T0).water)) (by omega) (by omega),wrap_succ i (by omega)]
  exact ⟨i+1,rfl,by rw [hX',h7,← Int.add_assoc];rfl,rfl,hi,by omega⟩
 ·have hi:i=l.length:=by have:=of_decide_eq_false hb;rw [e0] at this;omega
  clear hb
  rw [hi]
  conv=>whnf
  rfl
end Sh

namespace Sh
open Go Go.Proofs
theorem l_told (l:List Std) (hl:l.length < 1073741824):PC 46 [.list (l.map encT)] (.list (l.map encT)):=by
 have e0:((l.map encT).length:Int)=l.length:=by simp
 refine pureCall_ofR dh46 rfl ?_
 conv=>whnf
 refine dwp_loopU (P:=Tryz.prog) (G:=GC) (k:=dk46_0) (b:=db46_0) (α:=Nat) (fun i=>[(3,.own 3 0 ((l.take i).map encT).length ((l.take i).map encT).length),(8,DV.int .i64 (i))]) (fun i=>[(3,.row 5 ((l.take i).map encT) false)]) (fun i=>i≤l.length) (fun i=>l.length - i) 0 (Nat.zero_le _) ?_
 conv=>whnf
 refine ⟨rfl,rfl,?_⟩
 conv=>whnf
 refine ⟨rfl,?_⟩
 intro i h1
 conv=>whnf
 refine ⟨fun hb=>?_,fun hb=>?_⟩
 ·have hi:i < l.length:=by simpa using hb
  clear hb
  have hs:(l.take (i+1)).map encT=(l.take i).map encT++[encT (l.getD i T0)]:=by rw [take_snoc l i T0 hi,List.map_append];rfl
  have hln:((l.take i).map encT).length=i:=by simp;omega
  generalize hR':(l.take (i+1)).map encT=R' at *
  generalize hR:(l.take i).map encT=R at *
  conv=>whnf
  rw [getD_enc _ _ (i) T0 hi]
  refine ⟨idxA hi rfl,?_⟩
  conv=>whnf
  refine ⟨⟨rfl,rfl,rfl,by rw [hln];simp;omega,fun e he=>by simp at he;subst he;rfl⟩,?_⟩
  conv=>whnf
  rw [wrap_succ i (by omega)]
  refine ⟨i+1,rfl,?_,?_,hi,by omega⟩
  ·rw [hR',hs];rfl
  ·rw [hR',hs];rfl
 ·have hi:i=l.length:=by have:=of_decide_eq_false hb;rw [e0] at this;omega
  clear hb
  rw [hi,List.take_length]
  conv=>whnf
  refine ⟨rfl,?_⟩
  rw [window_full]
  first|rfl|(show DV.list _=_;rfl)
end Sh

namespace Sh
open Go
end Sh

set_option maxHeartbeats 2000000
namespace Sh
open Go Go.Proofs
end Sh

namespace Sh
open Go
def dc8 : DFunc := ⟨88,3,[.tmp 6],.seq (.ops false [⟨some 3,.box 4 (.tmp 0),none,[]⟩,⟨some 6,.mov (.const (.bool false)),none,[]⟩]) (.seq (.seq (.ops false [⟨some 17,.mov (.tmp 1),none,[]⟩,⟨some 18,.call (.func 44) [.tmp 17],none,[]⟩,⟨some 19,.un .not (.tmp 18),none,[]⟩]) (.cond (.tmp 19) (.seq (.ops false [⟨some 20,.call (.func 17) [],none,[]⟩,⟨some 6,.mov (.tmp 20),none,[]⟩]) .ret) .skip)) (.seq (.ops true [⟨some 22,.load (some 4) (.tmp 3),none,[]⟩,⟨some 23,.mov (.tmp 1),none,[]⟩,⟨some 24,.call (.func 46) [.tmp 23],none,[1]⟩,⟨some 25,.call (.func 57) [.tmp 22,.tmp 24],none,[0,2,1]⟩,⟨some 21,.mov (.tmp 25),none,[3,0,2,1]⟩,⟨some 26,.extract (.tmp 21) 0,none,[4,3,0,2,1]⟩,⟨some 27,.extract (.tmp 21) 1,none,[4,3,0,2,1]⟩,⟨some 28,.extract (.tmp 21) 2,none,[4,3,0,2,1]⟩,⟨some 7,.mov (.tmp 26),none,[5,4,3,0,2,1]⟩,⟨some 8,.mov (.tmp 27),none,[6,4,3,0,2,1,8,5]⟩,⟨some 9,.mov (.tmp 28),none,[7,4,3,0,2,1,9,6,8,5]⟩]) (.seq (.ops true [⟨some 30,.load (some 4) (.tmp 3),none,[]⟩,⟨some 31,.mov (.tmp 1),none,[]⟩,⟨some 32,.call (.func 46) [.tmp 31],none,[1]⟩,⟨some 33,.mov (.tmp 2),none,[]⟩,⟨some 34,.call (.func 58) [.tmp 30,.tmp 32,.tmp 33],none,[0,2,1,3]⟩,⟨some 29,.mov (.tmp 34),none,[4,0,2,1,3]⟩,⟨some 35,.extract (.tmp 29) 0,none,[5,4,0,2,1,3]⟩,⟨some 36,.extract (.tmp 29) 1,none,[5,4,0,2,1,3]⟩,⟨some 10,.mov (.tmp 35),none,[6,5,4,0,2,1,3]⟩,⟨some 11,.mov (.tmp 36),none,[7,5,4,0,2,1,3,8,6]⟩]) (.seq (.ops false [⟨some 37,.load (some 4) (.tmp 3),none,[]⟩,⟨some 38,.call (.func 49) [.tmp 37],none,[]⟩,⟨some 39,.mov (.tmp 1),none,[]⟩,⟨some 40,.call (.func 50) [.tmp 39],none,[]⟩,⟨some 41,.lit true 1 2 (.int .i64 0) [(0,(.tmp 38)),(1,(.tmp 40))],none,[]⟩,⟨some 42,.call (.func 48) [.tmp 41],none,[]⟩,⟨some 12,.mov (.tmp 42),none,[]⟩]) (.seq (.ops false [⟨some 43,.mov (.tmp 12),none,[]⟩,⟨some 44,.mov (.tmp 2),none,[]⟩,⟨some 45,.call (.func 59) [.tmp 44],none,[]⟩,⟨some 46,.lit true 1 2 (.int .i64 0) [(0,(.tmp 43)),(1,(.tmp 45))],none,[]⟩,⟨some 47,.call (.func 48) [.tmp 46],none,[]⟩,⟨some 13,.mov (.tmp 47),none,[]⟩]) (.seq (.ops false [⟨some 14,.mov (.const (.slice none 0 0)),none,[]⟩]) (.seq (.ops false [⟨some 15,.mov (.const (.int .i64 0)),none,[]⟩,⟨some 16,.mov (.const (.int .i64 0)),none,[]⟩]) (.seq (.seq (.ops false [⟨some 48,.mov (.tmp 12),none,[]⟩,⟨some 49,.bin .eql (.tmp 48) (.const (.int .i64 0)),none,[]⟩]) (.cond (.tmp 49) (.ops false [⟨some 51,.load (some 4) (.tmp 3),none,[]⟩,⟨some 52,.mov (.tmp 1),none,[]⟩,⟨some 53,.call (.func 60) [.tmp 51,.tmp 52],none,[]⟩,⟨some 50,.mov (.tmp 53),none,[]⟩,⟨some 54,.extract (.tmp 50) 0,none,[]⟩,⟨some 55,.extract (.tmp 50) 1,none,[]⟩,⟨some 14,.mov (.tmp 54),none,[]⟩,⟨some 15,.mov (.tmp 55),none,[]⟩]) .skip)) (.seq (.seq (.ops false [⟨some 56,.mov (.tmp 13),none,[]⟩,⟨some 57,.bin .eql (.tmp 56) (.const (.int .i64 0)),none,[]⟩]) (.cond (.tmp 57) (.ops false [⟨some 58,.load (some 4) (.tmp 3),none,[]⟩,⟨some 59,.mov (.tmp 1),none,[]⟩,⟨some 60,.mov (.tmp 2),none,[]⟩,⟨some 61,.call (.func 61) [.tmp 58,.tmp 59,.tmp 60],none,[]⟩,⟨some 16,.mov (.tmp 61),none,[]⟩]) .skip)) (.seq (.ops false [⟨some 62,.mov (.tmp 7),none,[]⟩,⟨some 63,.mov (.tmp 14),none,[]⟩,⟨some 64,.call (.func 32) [.tmp 62,.tmp 63],none,[]⟩,⟨some 65,.mov (.tmp 64),none,[]⟩,⟨some 66,.mov (.tmp 8),some (65,true),[]⟩,⟨some 67,.mov (.tmp 15),some (65,true),[]⟩,⟨some 68,.bin .eql (.tmp 66) (.tmp 67),some (65,true),[]⟩,⟨some 69,.pick (.tmp 65) (.tmp 68) (.const (.bool false)),none,[]⟩,⟨some 70,.mov (.tmp 69),none,[]⟩,⟨some 71,.mov (.tmp 9),some (70,true),[]⟩,⟨some 72,.mov (.tmp 12),some (70,true),[]⟩,⟨some 73,.bin .eql (.tmp 71) (.tmp 72),some (70,true),[]⟩,⟨some 74,.pick (.tmp 70) (.tmp 73) (.const (.bool false)),none,[]⟩,⟨some 75,.mov (.tmp 74),none,[]⟩,⟨some 76,.mov (.tmp 10),some (75,true),[]⟩,⟨some 77,.mov (.tmp 16),some (75,true),[]⟩,⟨some 78,.bin .eql (.tmp 76) (.tmp 77),some (75,true),[]⟩,⟨some 79,.pick (.tmp 75) (.tmp 78) (.const (.bool false)),none,[]⟩,⟨some 80,.mov (.tmp 79),none,[]⟩,⟨some 81,.mov (.tmp 11),some (80,true),[]⟩,⟨some 82,.mov (.tmp 13),some (80,true),[]⟩,⟨some 83,.bin .eql (.tmp 81) (.tmp 82),some (80,true),[]⟩,⟨some 84,.pick (.tmp 80) (.tmp 83) (.const (.bool false)),none,[]⟩,⟨some 85,.mov (.tmp 84),none,[]⟩,⟨some 86,.call (.func 17) [],some (85,true),[]⟩,⟨some 87,.pick (.tmp 85) (.tmp 86) (.const (.bool false)),none,[]⟩,⟨some 6,.mov (.tmp 87),none,[]⟩]) .ret))))))))))⟩
theorem dh8:cProg Go.Proofs.Tryz.prog ⟨[],[],[41,46]⟩ 8=some dc8:=by kernel_rfl
end Sh

set_option maxHeartbeats 4000000
namespace Sh
open Go Go.Proofs
theorem bo_eq (c:Crw) (l:List Std) (p:Int):firstE [chkCT c l,withE p 0 1000]=chkBo c l p:=by
 unfold chkBo chkCT
 simp only [firstE]
 by_cases h1:chkCr c≠0
 ·simp [h1]
 ·by_cases h2:chkStd l≠0
  ·simp [h1,h2]
  ·have h1:=Classical.not_not.1 h1
   have h2:=Classical.not_not.1 h2
   simp [h1,h2]
theorem l_WashRounds (aw:PC 17 [] (.bool true)) (c:Crw) (l:List Std) (hU:l.length≤9223372036854775807) (p:Int):PC 8 [encC c,tsV l,DV.int .i64 (p)] (.bool true):=by
 have kS:PC 44 [tsV l] _:=r_ShortStandsU l hU
 by_cases hsh:ShortStandsB l=true
 case neg =>
  have hsh:ShortStandsB l=false:=by simpa using hsh
  rw [hsh] at kS
  refine pureCall_ofR dh8 rfl ?_
  conv=>whnf
  repeat' (first
   |(refine ⟨fun hg=>?_,fun hg=>?_⟩<;>first|contradiction|(conv=>whnf))
   |(refine Or.inl ?_;conv=>whnf)
   |(refine ⟨_,kS ..,?_⟩;conv=>whnf)
   |(refine ⟨_,aw ..,?_⟩;conv=>whnf)
   |(refine And.intro ?_ ?_;kernel_rfl;conv=>whnf))
  all_goals rfl
 case pos =>
 obtain ⟨hl9,hnm⟩:=ShortStandsB_spec hsh
 rw [hsh] at kS
 clear hsh
 have hnm:∀ s ∈ l,s.name.length < 1073741824:=fun s hs=>by have:=hnm s hs;omega
 have a1:PC 46 [tsV l] (tsV l):=l_told l (by omega)
 have b1:=c_Chosen c l (by omega) hnm
 have b2:=c_Bound c l p (by omega) hnm
 have c1:=r_CheckCrew c
 have c2:=r_CheckStands l (by omega) hnm
 have c3:=r_CheckPrice p
 have f1:=q_First [chkCr c,chkStd l] (by simp)
 rw [show firstE [chkCr c,chkStd l]=chkCT c l from rfl] at f1
 have f2:=q_First [chkCT c l,withE p 0 1000] (by simp)
 rw [bo_eq] at f2
 have d0:PC 32 [.list [],.list []] (.bool true):=by have:=q_SameInts [] [] (by decide);rwa [dec_same] at this
 by_cases h1:chkCT c l=0
 ·obtain ⟨hc,hl8,hls⟩:=chkCT_ok h1
  rw [h1] at f1 f2 b1
  rw [optW_z] at b1
  have e1:=r_Chosen c l hc hls hl8
  have d1:=q_SameInts (chosenS c l).idx (chosenS c l).idx (by
   obtain ⟨set,hi,_,he⟩:=(chosen_spec hc l).1
   rw [he]
   have:=inc_len hi (by omega)
   show set.length < _
   omega)
  rw [dec_same] at d1
  generalize chosenS c l=B at *
  by_cases h2:chkBo c l p=0
  ·obtain ⟨_,_,_,p0,p1⟩:=chkBo_ok h2
   have e2:=r_Bound c l p hc hl8 hls p0 p1
   rw [h2] at f2 b2
   rw [optI_z] at b2
   generalize boundS c l p=Y at *
   refine pureCall_ofR dh8 rfl ?_
   conv=>whnf
   repeat' (first
    |(refine ⟨fun hg=>?_,fun hg=>?_⟩<;>first|contradiction|(exfalso;revert hg;simp;done)|(exfalso;exact absurd (of_decide_eq_true hg) (by assumption))|(exfalso;exact absurd (by assumption) (of_decide_eq_false hg))|(conv=>whnf))
    |(refine Or.inl ?_;conv=>whnf)
    |(refine ⟨_,kS,?_⟩;conv=>whnf)
    |(refine ⟨_,a1,?_⟩;conv=>whnf)
    |(refine ⟨_,b1,?_⟩;conv=>whnf)
    |(refine ⟨_,b2,?_⟩;conv=>whnf)
    |(refine ⟨_,c1,?_⟩;conv=>whnf)
    |(refine ⟨_,c2,?_⟩;conv=>whnf)
    |(refine ⟨_,c3,?_⟩;conv=>whnf)
    |(refine ⟨_,f1,?_⟩;conv=>whnf)
    |(refine ⟨_,f2,?_⟩;conv=>whnf)
    |(refine ⟨_,e1,?_⟩;conv=>whnf)
    |(refine ⟨_,e2,?_⟩;conv=>whnf)
    |(refine ⟨_,d1,?_⟩;conv=>whnf)
    |(refine ⟨_,aw,?_⟩;conv=>whnf)
    |(refine And.intro ?_ ?_;kernel_rfl;conv=>whnf))
   all_goals rfl
  ·rw [optI_n h2] at b2
   generalize chkBo c l p=E2 at *
   refine pureCall_ofR dh8 rfl ?_
   conv=>whnf
   repeat' (first
    |(refine ⟨fun hg=>?_,fun hg=>?_⟩<;>first|contradiction|(exfalso;revert hg;simp;done)|(exfalso;exact absurd (of_decide_eq_true hg) (by assumption))|(exfalso;exact absurd (by assumption) (of_decide_eq_false hg))|(conv=>whnf))
    |(refine Or.inl ?_;conv=>whnf)
    |(refine ⟨_,kS,?_⟩;conv=>whnf)
    |(refine ⟨_,a1,?_⟩;conv=>whnf)
    |(refine ⟨_,b1,?_⟩;conv=>whnf)
    |(refine ⟨_,b2,?_⟩;conv=>whnf)
    |(refine ⟨_,c1,?_⟩;conv=>whnf)
    |(refine ⟨_,c2,?_⟩;conv=>whnf)
    |(refine ⟨_,c3,?_⟩;conv=>whnf)
    |(refine ⟨_,f1,?_⟩;conv=>whnf)
    |(refine ⟨_,f2,?_⟩;conv=>whnf)
    |(refine ⟨_,e1,?_⟩;conv=>whnf)
    |(refine ⟨_,d1,?_⟩;conv=>whnf)
    |(refine ⟨_,aw,?_⟩;conv=>whnf)
    |(refine And.intro ?_ ?_;kernel_rfl;conv=>whnf))
   all_goals rfl
 ·have h2:chkBo c l p≠0:=by
   intro e
   rw [← bo_eq] at e
   exact h1 (firstE_mem e _ (by simp))
  rw [optW_n h1] at b1
  rw [optI_n h2] at b2
  generalize chkBo c l p=E2 at *
  generalize chkCT c l=E1 at *
  refine pureCall_ofR dh8 rfl ?_
  conv=>whnf
  repeat' (first
   |(refine ⟨fun hg=>?_,fun hg=>?_⟩<;>first|contradiction|(exfalso;revert hg;simp;done)|(exfalso;exact absurd (of_decide_eq_true hg) (by assumption))|(exfalso;exact absurd (by assumption) (of_decide_eq_false hg))|(conv=>whnf))
   |(refine Or.inl ?_;conv=>whnf)
   |(refine ⟨_,kS,?_⟩;conv=>whnf)
   |(refine ⟨_,a1,?_⟩;conv=>whnf)
   |(refine ⟨_,b1,?_⟩;conv=>whnf)
   |(refine ⟨_,b2,?_⟩;conv=>whnf)
   |(refine ⟨_,c1,?_⟩;conv=>whnf)
   |(refine ⟨_,c2,?_⟩;conv=>whnf)
   |(refine ⟨_,c3,?_⟩;conv=>whnf)
   |(refine ⟨_,f1,?_⟩;conv=>whnf)
   |(refine ⟨_,f2,?_⟩;conv=>whnf)
   |(refine ⟨_,d0,?_⟩;conv=>whnf)
   |(refine ⟨_,aw,?_⟩;conv=>whnf)
   |(refine And.intro ?_ ?_;kernel_rfl;conv=>whnf))
  all_goals rfl
end Sh
