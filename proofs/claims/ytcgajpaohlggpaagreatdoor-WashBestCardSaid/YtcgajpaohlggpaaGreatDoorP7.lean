/-
  Chapter 8's functions, walked over pure data: the library of the walk, the functions' code over data, and what each computes. (part 7)
-/
import Derived.Test.YtcgajpaohlggpaaGreatDoorP6
import Derived.ProofKit
import Derived.Carry
import Derived.ChangeSame
import Derived.OpenShut
import Derived.HandedShaped
import Derived.Shelf.Vars
import Derived.Stop.Joined
import Derived.Deep.DeepHandedRow
import Derived.Lib.LaidTab
import Derived.MakeChecks
import Derived.LaidSub
import Derived.LaidHandle
import Derived.Test.YtcgajpaohlggpaaGreatDoorProg
import Derived.Lib.ItoaNum
import Derived.Lib.ItoaLen
import Derived.Lib.MapLaws
import Derived.Lib.Bytealg
import Derived.Lib.Join
import Derived.Lib.Strings
set_option linter.unusedVariables false
set_option linter.unusedSimpArgs false
namespace Sh
open Go Go.Proofs
section
variable {H:Type} {enc:TypeId×Value→H} {P:Program} {W:World}
theorem opens_array_aux {c:Nat}:∀ (dss:List (List DV)) (cs:List Value),cs.length=dss.length * c →
  (∀ (i:Nat) (ds:List DV),dss[i]?=some ds→RelL (memOf W) ds ((cs.drop (i * c)).take c))→RelL (memOf W) dss.flatten cs
 |[],cs,hl,_=>by
  have:cs=[]:=List.length_eq_zero_iff.1 (by simpa using hl)
  subst this;exact .nil
 |ds :: dss,cs,hl,h=>by
  rw [List.length_cons,Nat.add_mul,Nat.one_mul] at hl
  have h2:=opens_array_aux (c:=c) dss (cs.drop c) (by simp;omega) (fun i ds' e2=>by
   have:=h (i+1) ds' (by simpa using e2)
   rwa [Nat.add_mul,Nat.one_mul,Nat.add_comm (i * c) c,← List.drop_drop] at this)
  have h3:=h 0 ds rfl
  rw [Nat.zero_mul,List.drop_zero] at h3
  have:=h3.append h2
  rwa [List.take_append_drop] at this
theorem opens_array {t e:TypeId} {n c:Nat} {α:Type} {f:α→List DV} {B:α→Prop} (ht:P.underlying t=some (.array n e)) (hc:P.cellsOf e=c) (hct:P.cellsOf t=n * c) (hE:Opens enc P W e f B) :
  Opens enc P W t (fun l:List α=>l.flatMap f) (fun l=>l.length=n∧∀ a ∈ l,B a):=by
 intro base sp hd fuel cs x hx
 obtain ⟨ys,m,_,e,hlc,hn,hel⟩:=DataW.trod_array ht hx
 have hget:∀ i,i < n→∃ a:α,RelL (memOf W) (f a) ((cs.drop (i * c)).take c)∧B a:=by
  intro i hi
  have h1:=hel i hi
  rw [hc,List.getElem?_eq_getElem (by omega)] at h1
  exact hE _ _ _ _ _ _ h1
 obtain ⟨l,hl,hF⟩:=build n hget
 refine ⟨l,?_,hl,fun a ha=>?_⟩
 ·show RelL (memOf W) (l.flatMap f) cs
  rw [List.flatMap_def]
  refine opens_array_aux (c:=c) (l.map f) cs (by rw [List.length_map,hl,hlc,hct]) (fun i ds e2=>?_)
  rw [List.getElem?_map,Option.map_eq_some_iff] at e2
  obtain ⟨a,e3,rfl⟩:=e2
  obtain ⟨hi,rfl⟩:=List.getElem?_eq_some_iff.1 e3
  exact (hF i hi).1
 ·obtain ⟨i,hi,rfl⟩:=List.mem_iff_getElem.1 ha
  exact (hF i hi).2
theorem Opens.mapB {t:TypeId} {α β:Type} {e:α→List DV} {B:α→Prop} {e':β→List DV} {B':β→Prop} (h:Opens enc P W t e B) (f:α→β) (he:∀ a,B a→e' (f a)=e a) (hB:∀ a,B a→B' (f a)):Opens enc P W t e' B':=by
 intro base sp hd fuel cs x hx
 obtain ⟨a,h1,h2⟩:=h base sp hd fuel cs x hx
 exact ⟨f a,by rw [he a h2];exact h1,hB a h2⟩
theorem wf_in {k:IntKind} {n:Int} (h:(Lit.int k n).wf=true):k.min≤n∧n≤k.max:=by
 unfold Lit.wf at h
 rw [Bool.and_eq_true] at h
 exact ⟨of_decide_eq_true h.1,of_decide_eq_true h.2⟩
theorem wf_u16 {n:Int} (h:(Lit.int .u16 n).wf=true):0≤n∧n≤65535:=wf_in h
theorem arg_array {t e:TypeId} {n:Nat} {α:Type} {f:α→List DV} {B:α→Prop} {v:Value} {d:DataW H} {p:List MemPlace} {base b0:Nat} {sp:Nat→Bool} {hd:Bool} (ht:P.underlying t=some (.array n e)) (k:Opens enc P W t f B)
  (hv:Value.okWide P W .any b0 t v) (h:DataW.Trod enc P W base sp hd t v d p):∃ a,RelP (memOf W) (.agg (f a)) v∧B a:=by
 obtain ⟨cs,rfl⟩:∃ cs,v=.agg cs:=by
  simp only [Value.okWide,ht] at hv
  obtain ⟨cs,h1,_⟩:=hv
  exact ⟨cs,h1⟩
 obtain ⟨fuel,hf⟩:=h
 obtain ⟨a,h1,h2⟩:=k _ _ _ _ _ _ hf
 refine ⟨a,.agg _ _ (by simpa [Value.cells] using h1.1) (fun i hi=>?_),h2⟩
 have:=h1.2 i hi
 simpa [Value.cells,List.getD_eq_getElem?_getD,Array.getD_eq_getD_getElem?] using this
end
section
open Go.RowKit Go.WideShapes Go.ChangeShapes
variable {H:Type} {enc:TypeId×Value→H} {P:Program}
end
end Sh

set_option maxRecDepth 100000
namespace Sh
open Go
def dc23 : DFunc := ⟨23,1,[.tmp 2],.seq (.ops false [⟨some 1,.box 6 (.tmp 0),none,[]⟩,⟨some 2,.mov (.const (.int .i64 0)),none,[]⟩]) (.seq (.ops true [⟨some 3,.faddr 0 1 false (.tmp 1),none,[]⟩,⟨some 4,.load none (.tmp 3),none,[0]⟩,⟨some 5,.call (.func 94) [.tmp 4,.const (.int .i64 1),.const (.int .i64 1000)],none,[1,0]⟩,⟨some 6,.faddr 1 1 false (.tmp 1),none,[]⟩,⟨some 7,.load none (.tmp 6),none,[3]⟩,⟨some 8,.call (.func 94) [.tmp 7,.const (.int .i64 0),.const (.int .i64 1000)],none,[4,3,2,1,0]⟩,⟨some 9,.faddr 2 1 false (.tmp 1),none,[]⟩,⟨some 10,.load none (.tmp 9),none,[6]⟩,⟨some 11,.call (.func 94) [.tmp 10,.const (.int .i64 0),.const (.int .i64 1000)],none,[7,6,5,4,3,2,1,0]⟩,⟨some 12,.faddr 3 1 false (.tmp 1),none,[]⟩,⟨some 13,.load none (.tmp 12),none,[9]⟩,⟨some 14,.call (.func 30) [.tmp 13],none,[10,9,8,7,6,5,4,3,2,1,0]⟩,⟨some 15,.faddr 4 1 false (.tmp 1),none,[]⟩,⟨some 16,.load none (.tmp 15),none,[12]⟩,⟨some 17,.call (.func 94) [.tmp 16,.const (.int .i64 0),.const (.int .i64 1000)],none,[13,12,11,10,9,8,7,6,5,4,3,2,1,0]⟩,⟨some 18,.faddr 5 1 false (.tmp 1),none,[]⟩,⟨some 19,.load none (.tmp 18),none,[15]⟩,⟨some 20,.call (.func 94) [.tmp 19,.const (.int .i64 0),.const (.int .i64 1000000)],none,[16,15,14,13,12,11,10,9,8,7,6,5,4,3,2,1,0]⟩,⟨some 21,.lit true 1 6 (.int .i64 0) [(0,(.tmp 5)),(1,(.tmp 8)),(2,(.tmp 11)),(3,(.tmp 14)),(4,(.tmp 17)),(5,(.tmp 20))],none,[2,1,0,5,4,3,8,7,6,11,10,9,14,13,12,17,16,15]⟩,⟨some 22,.call (.func 48) [.tmp 21],none,[18,2,1,0,5,4,3,8,7,6,11,10,9,14,13,12,17,16,15]⟩,⟨some 2,.mov (.tmp 22),none,[19,18,2,1,0,5,4,3,8,7,6,11,10,9,14,13,12,17,16,15]⟩]) .ret)⟩
theorem dh23:cProg Go.Proofs.Tryz.prog ⟨[],[],[21]⟩ 23=some dc23:=by kernel_rfl
def db24_0 : DC := (.seq (.seq (.ops false [⟨some 7,.mov (.tmp 5),none,[]⟩,⟨some 8,.mov (.tmp 1),none,[]⟩,⟨some 9,.len (.tmp 8),none,[]⟩,⟨some 10,.bin .lss (.tmp 7) (.tmp 9),none,[]⟩]) (.cond (.tmp 10) .skip (.exit 0))) (.seq (.block 1 none (.seq (.ops true [⟨some 13,.mov (.tmp 1),none,[]⟩,⟨some 14,.mov (.tmp 5),none,[]⟩,⟨some 15,.iaddr 1 (.tmp 13) (.tmp 14),none,[0,1]⟩,⟨some 16,.load none (.tmp 15),none,[2,0,1]⟩,⟨some 17,.bin .lss (.tmp 16) (.const (.int .i64 0)),none,[3,2,0,1]⟩,⟨some 18,.mov (.tmp 17),none,[4,3,2,0,1]⟩,⟨some 19,.mov (.tmp 1),some (18,false),[5,4,3,2,0,1]⟩,⟨some 20,.mov (.tmp 5),some (18,false),[5,4,3,2,0,1]⟩,⟨some 21,.iaddr 1 (.tmp 19) (.tmp 20),some (18,false),[6,5,4,3,2,0,1,7]⟩,⟨some 22,.load none (.tmp 21),some (18,false),[8,6,5,4,3,2,0,1,7]⟩,⟨some 23,.faddr 3 1 false (.tmp 2),some (18,false),[5,4,3,2,0,1]⟩,⟨some 24,.load none (.tmp 23),some (18,false),[10,5,4,3,2,0,1]⟩,⟨some 25,.len (.tmp 24),some (18,false),[11,10,5,4,3,2,0,1]⟩,⟨some 26,.bin .geq (.tmp 22) (.tmp 25),some (18,false),[9,8,6,5,4,3,2,0,1,7,12,11,10]⟩,⟨some 27,.pick (.tmp 18) (.const (.bool true)) (.tmp 26),none,[5,4,3,2,0,1,13,9,8,6,7,12,11,10]⟩,⟨some 28,.call (.func 95) [.tmp 27,.const (.int .i64 10)],none,[14,5,4,3,2,0,1,13,9,8,6,7,12,11,10]⟩,⟨some 29,.mov (.tmp 5),none,[]⟩,⟨some 30,.bin .gtr (.tmp 29) (.const (.int .i64 0)),none,[16]⟩,⟨some 31,.mov (.tmp 30),none,[17,16,15,14,5,4,3,2,0,1,13,9,8,6,7,12,11,10]⟩,⟨some 32,.mov (.tmp 1),some (31,true),[18,17,16,15,14,5,4,3,2,0,1,13,9,8,6,7,12,11,10]⟩,⟨some 33,.mov (.tmp 5),some (31,true),[18,17,16,15,14,5,4,3,2,0,1,13,9,8,6,7,12,11,10]⟩,⟨some 34,.iaddr 1 (.tmp 32) (.tmp 33),some (31,true),[19,18,17,16,15,14,5,4,3,2,0,1,13,9,8,6,7,12,11,10,20]⟩,⟨some 35,.load none (.tmp 34),some (31,true),[21,19,18,17,16,15,14,5,4,3,2,0,1,13,9,8,6,7,12,11,10,20]⟩,⟨some 36,.mov (.tmp 1),some (31,true),[18,17,16,15,14,5,4,3,2,0,1,13,9,8,6,7,12,11,10]⟩,⟨some 37,.mov (.tmp 5),some (31,true),[18,17,16,15,14,5,4,3,2,0,1,13,9,8,6,7,12,11,10]⟩,⟨some 38,.bin .sub (.tmp 37) (.const (.int .i64 1)),some (31,true),[24,18,17,16,15,14,5,4,3,2,0,1,13,9,8,6,7,12,11,10]⟩,⟨some 39,.minmax true (.const (.int .i64 0)) [.tmp 38],some (31,true),[25,24,18,17,16,15,14,5,4,3,2,0,1,13,9,8,6,7,12,11,10]⟩,⟨some 40,.iaddr 1 (.tmp 36) (.tmp 39),some (31,true),[23,18,17,16,15,14,5,4,3,2,0,1,13,9,8,6,7,12,11,10,26,25,24]⟩,⟨some 41,.load none (.tmp 40),some (31,true),[27,23,18,17,16,15,14,5,4,3,2,0,1,13,9,8,6,7,12,11,10,26,25,24]⟩,⟨some 42,.bin .leq (.tmp 35) (.tmp 41),some (31,true),[22,21,19,18,17,16,15,14,5,4,3,2,0,1,13,9,8,6,7,12,11,10,20,28,27,23,26,25,24]⟩,⟨some 43,.pick (.tmp 31) (.tmp 42) (.const (.bool false)),none,[18,17,16,15,14,5,4,3,2,0,1,13,9,8,6,7,12,11,10,29,22,21,19,20,28,27,23,26,25,24]⟩,⟨some 44,.call (.func 95) [.tmp 43,.const (.int .i64 11)],none,[30,18,17,16,15,14,5,4,3,2,0,1,13,9,8,6,7,12,11,10,29,22,21,19,20,28,27,23,26,25,24]⟩,⟨some 45,.lit true 1 2 (.int .i64 0) [(0,(.tmp 28)),(1,(.tmp 44))],none,[15,14,5,4,3,2,0,1,13,9,8,6,7,12,11,10,31,30,18,17,16,29,22,21,19,20,28,27,23,26,25,24]⟩,⟨some 46,.call (.func 48) [.tmp 45],none,[32,15,14,5,4,3,2,0,1,13,9,8,6,7,12,11,10,31,30,18,17,16,29,22,21,19,20,28,27,23,26,25,24]⟩,⟨some 6,.mov (.tmp 46),none,[33,32,15,14,5,4,3,2,0,1,13,9,8,6,7,12,11,10,31,30,18,17,16,29,22,21,19,20,28,27,23,26,25,24]⟩]) (.seq (.ops false [⟨some 47,.mov (.tmp 6),none,[]⟩,⟨some 48,.bin .neq (.tmp 47) (.const (.int .i64 0)),none,[]⟩]) (.cond (.tmp 48) (.seq (.ops false [⟨some 49,.mov (.tmp 6),none,[]⟩,⟨some 4,.mov (.tmp 49),none,[]⟩]) .ret) .skip)))) (.ops false [⟨some 11,.mov (.tmp 5),none,[]⟩,⟨some 12,.bin .add (.tmp 11) (.const (.int .i64 1)),none,[]⟩,⟨some 5,.mov (.tmp 12),none,[]⟩])))
def dk24_0 : Keep := ⟨[],[1,2,5],[2]⟩
def dc24 : DFunc := ⟨50,2,[.tmp 4],.seq (.ops false [⟨some 2,.box 6 (.tmp 0),none,[]⟩,⟨some 4,.mov (.const (.int .i64 0)),none,[]⟩]) (.seq (.seq (.ops false [⟨some 5,.mov (.const (.int .i64 0)),none,[]⟩]) (.block 0 (some ⟨[],[],[2]⟩) (.loop dk24_0 db24_0))) (.seq (.ops false [⟨some 4,.mov (.const (.int .i64 0)),none,[]⟩]) .ret))⟩
theorem dh24:cProg Go.Proofs.Tryz.prog ⟨[(0,⟨[],[1,2,5],[2]⟩)],[(0,⟨[],[],[2]⟩)],[45]⟩ 24=some dc24:=by kernel_rfl
def db30_0 : DC := (.seq (.seq (.ops false [⟨some 19,.mov (.tmp 4),none,[]⟩,⟨some 20,.mov (.tmp 0),none,[]⟩,⟨some 21,.len (.tmp 20),none,[]⟩,⟨some 22,.bin .lss (.tmp 19) (.tmp 21),none,[]⟩]) (.cond (.tmp 22) .skip (.exit 0))) (.seq (.block 1 none (.seq (.ops true [⟨some 25,.mov (.tmp 0),none,[]⟩,⟨some 26,.mov (.tmp 4),none,[]⟩,⟨some 27,.iaddr 3 (.tmp 25) (.tmp 26),none,[0,1]⟩,⟨some 28,.faddr 0 1 false (.tmp 27),none,[2,0,1]⟩,⟨some 29,.load none (.tmp 28),none,[3,2,0,1]⟩,⟨some 30,.call (.func 94) [.tmp 29,.const (.int .i64 0),.const (.int .i64 1000)],none,[4,3,2,0,1]⟩,⟨some 31,.mov (.tmp 0),none,[]⟩,⟨some 32,.mov (.tmp 4),none,[]⟩,⟨some 33,.iaddr 3 (.tmp 31) (.tmp 32),none,[6,7]⟩,⟨some 34,.faddr 1 1 false (.tmp 33),none,[8,6,7]⟩,⟨some 35,.load none (.tmp 34),none,[9,8,6,7]⟩,⟨some 36,.call (.func 94) [.tmp 35,.const (.int .i64 0),.const (.int .i64 1000)],none,[10,9,8,6,7,5,4,3,2,0,1]⟩,⟨some 37,.mov (.tmp 0),none,[]⟩,⟨some 38,.mov (.tmp 4),none,[]⟩,⟨some 39,.iaddr 3 (.tmp 37) (.tmp 38),none,[12,13]⟩,⟨some 40,.faddr 2 1 false (.tmp 39),none,[14,12,13]⟩,⟨some 41,.load none (.tmp 40),none,[15,14,12,13]⟩,⟨some 42,.call (.func 94) [.tmp 41,.const (.int .i64 0),.const (.int .i64 100000)],none,[16,15,14,12,13,11,10,9,8,6,7,5,4,3,2,0,1]⟩,⟨some 43,.lit true 1 3 (.int .i64 0) [(0,(.tmp 30)),(1,(.tmp 36)),(2,(.tmp 42))],none,[5,4,3,2,0,1,11,10,9,8,6,7,17,16,15,14,12,13]⟩,⟨some 44,.call (.func 48) [.tmp 43],none,[18,5,4,3,2,0,1,11,10,9,8,6,7,17,16,15,14,12,13]⟩,⟨some 5,.mov (.tmp 44),none,[19,18,5,4,3,2,0,1,11,10,9,8,6,7,17,16,15,14,12,13]⟩]) (.seq (.ops false [⟨some 45,.mov (.tmp 5),none,[]⟩,⟨some 46,.bin .neq (.tmp 45) (.const (.int .i64 0)),none,[]⟩]) (.cond (.tmp 46) (.seq (.ops false [⟨some 47,.mov (.tmp 5),none,[]⟩,⟨some 2,.mov (.tmp 47),none,[]⟩]) .ret) .skip)))) (.ops false [⟨some 23,.mov (.tmp 4),none,[]⟩,⟨some 24,.bin .add (.tmp 23) (.const (.int .i64 1)),none,[]⟩,⟨some 4,.mov (.tmp 24),none,[]⟩])))
def dk30_0 : Keep := ⟨[],[0,4],[14]⟩
def dc30 : DFunc := ⟨48,1,[.tmp 2],.seq (.ops false [⟨some 2,.mov (.const (.int .i64 0)),none,[]⟩]) (.seq (.seq (.ops false [⟨some 6,.mov (.tmp 0),none,[]⟩,⟨some 7,.len (.tmp 6),none,[]⟩,⟨some 8,.bin .eql (.tmp 7) (.const (.int .i64 0)),none,[]⟩,⟨some 9,.call (.func 95) [.tmp 8,.const (.int .i64 12)],none,[]⟩,⟨some 10,.mov (.tmp 0),none,[]⟩,⟨some 11,.len (.tmp 10),none,[]⟩,⟨some 12,.bin .gtr (.tmp 11) (.const (.int .i64 64)),none,[]⟩,⟨some 13,.call (.func 95) [.tmp 12,.const (.int .i64 5)],none,[]⟩,⟨some 14,.lit true 1 2 (.int .i64 0) [(0,(.tmp 9)),(1,(.tmp 13))],none,[]⟩,⟨some 15,.call (.func 48) [.tmp 14],none,[]⟩,⟨some 3,.mov (.tmp 15),none,[]⟩]) (.seq (.ops false [⟨some 16,.mov (.tmp 3),none,[]⟩,⟨some 17,.bin .neq (.tmp 16) (.const (.int .i64 0)),none,[]⟩]) (.cond (.tmp 17) (.seq (.ops false [⟨some 18,.mov (.tmp 3),none,[]⟩,⟨some 2,.mov (.tmp 18),none,[]⟩]) .ret) .skip))) (.seq (.seq (.ops false [⟨some 4,.mov (.const (.int .i64 0)),none,[]⟩]) (.block 0 (some ⟨[],[],[14]⟩) (.loop dk30_0 db30_0))) (.seq (.ops false [⟨some 2,.mov (.const (.int .i64 0)),none,[]⟩]) .ret)))⟩
theorem dh30:cProg Go.Proofs.Tryz.prog ⟨[(0,⟨[],[0,4],[14]⟩)],[(0,⟨[],[],[14]⟩)],[14,43]⟩ 30=some dc30:=by kernel_rfl
def db48_0 : DC := (.seq (.seq (.ops false [⟨some 4,.mov (.tmp 3),none,[]⟩,⟨some 5,.mov (.tmp 0),none,[]⟩,⟨some 6,.len (.tmp 5),none,[]⟩,⟨some 7,.bin .lss (.tmp 4) (.tmp 6),none,[]⟩]) (.cond (.tmp 7) .skip (.exit 0))) (.seq (.block 1 none (.seq (.ops false [⟨some 10,.mov (.tmp 0),none,[]⟩,⟨some 11,.mov (.tmp 3),none,[]⟩,⟨some 12,.iaddr 1 (.tmp 10) (.tmp 11),none,[]⟩,⟨some 13,.load none (.tmp 12),none,[]⟩,⟨some 14,.bin .neq (.tmp 13) (.const (.int .i64 0)),none,[]⟩]) (.cond (.tmp 14) (.seq (.ops false [⟨some 15,.mov (.tmp 0),none,[]⟩,⟨some 16,.mov (.tmp 3),none,[]⟩,⟨some 17,.iaddr 1 (.tmp 15) (.tmp 16),none,[]⟩,⟨some 18,.load none (.tmp 17),none,[]⟩,⟨some 2,.mov (.tmp 18),none,[]⟩]) .ret) .skip))) (.ops false [⟨some 8,.mov (.tmp 3),none,[]⟩,⟨some 9,.bin .add (.tmp 8) (.const (.int .i64 1)),none,[]⟩,⟨some 3,.mov (.tmp 9),none,[]⟩])))
def dk48_0 : Keep := ⟨[],[0,3],[]⟩
def dc48 : DFunc := ⟨19,1,[.tmp 2],.seq (.ops false [⟨some 2,.mov (.const (.int .i64 0)),none,[]⟩]) (.seq (.seq (.ops false [⟨some 3,.mov (.const (.int .i64 0)),none,[]⟩]) (.block 0 (some ⟨[],[],[]⟩) (.loop dk48_0 db48_0))) (.seq (.ops false [⟨some 2,.mov (.const (.int .i64 0)),none,[]⟩]) .ret))⟩
theorem dh48:cProg Go.Proofs.Tryz.prog ⟨[(0,⟨[],[0,3],[]⟩)],[(0,⟨[],[],[]⟩)],[]⟩ 48=some dc48:=by kernel_rfl
def db83_0 : DC := (.seq (.seq (.ops false [⟨some 6,.mov (.tmp 5),none,[]⟩,⟨some 7,.mov (.tmp 0),none,[]⟩,⟨some 8,.len (.tmp 7),none,[]⟩,⟨some 9,.bin .lss (.tmp 6) (.tmp 8),none,[]⟩]) (.cond (.tmp 9) .skip (.exit 0))) (.seq (.block 1 none (.seq (.ops false [⟨some 12,.mov (.tmp 0),none,[]⟩,⟨some 13,.mov (.tmp 5),none,[]⟩,⟨some 14,.iaddr 1 (.tmp 12) (.tmp 13),none,[]⟩,⟨some 15,.load none (.tmp 14),none,[]⟩,⟨some 16,.mov (.tmp 1),none,[]⟩,⟨some 17,.bin .eql (.tmp 15) (.tmp 16),none,[]⟩]) (.cond (.tmp 17) (.seq (.ops false [⟨some 4,.mov (.const (.bool true)),none,[]⟩]) .ret) .skip))) (.ops false [⟨some 10,.mov (.tmp 5),none,[]⟩,⟨some 11,.bin .add (.tmp 10) (.const (.int .i64 1)),none,[]⟩,⟨some 5,.mov (.tmp 11),none,[]⟩])))
def dk83_0 : Keep := ⟨[],[0,1,5],[]⟩
def dc83 : DFunc := ⟨18,2,[.tmp 4],.seq (.ops false [⟨some 4,.mov (.const (.bool false)),none,[]⟩]) (.seq (.seq (.ops false [⟨some 5,.mov (.const (.int .i64 0)),none,[]⟩]) (.block 0 (some ⟨[],[],[]⟩) (.loop dk83_0 db83_0))) (.seq (.ops false [⟨some 4,.mov (.const (.bool false)),none,[]⟩]) .ret))⟩
theorem dh83:cProg Go.Proofs.Tryz.prog ⟨[(0,⟨[],[0,1,5],[]⟩)],[(0,⟨[],[],[]⟩)],[]⟩ 83=some dc83:=by kernel_rfl
def dc94 : DFunc := ⟨16,3,[.tmp 6],.seq (.ops false [⟨some 6,.mov (.const (.int .i64 0)),none,[]⟩]) (.seq (.ops false [⟨some 7,.mov (.tmp 0),none,[]⟩,⟨some 8,.mov (.tmp 1),none,[]⟩,⟨some 9,.bin .lss (.tmp 7) (.tmp 8),none,[]⟩,⟨some 10,.mov (.tmp 9),none,[]⟩,⟨some 11,.mov (.tmp 0),some (10,false),[]⟩,⟨some 12,.mov (.tmp 2),some (10,false),[]⟩,⟨some 13,.bin .gtr (.tmp 11) (.tmp 12),some (10,false),[]⟩,⟨some 14,.pick (.tmp 10) (.const (.bool true)) (.tmp 13),none,[]⟩,⟨some 15,.call (.func 95) [.tmp 14,.const (.int .i64 3)],none,[]⟩,⟨some 6,.mov (.tmp 15),none,[]⟩]) .ret)⟩
theorem dh94:cProg Go.Proofs.Tryz.prog ⟨[],[],[]⟩ 94=some dc94:=by kernel_rfl
def dc95 : DFunc := ⟨7,2,[.tmp 4],.seq (.ops false [⟨some 4,.mov (.const (.int .i64 0)),none,[]⟩]) (.seq (.seq (.ops false [⟨some 5,.mov (.tmp 0),none,[]⟩]) (.cond (.tmp 5) (.seq (.ops false [⟨some 6,.mov (.tmp 1),none,[]⟩,⟨some 4,.mov (.tmp 6),none,[]⟩]) .ret) .skip)) (.seq (.ops false [⟨some 4,.mov (.const (.int .i64 0)),none,[]⟩]) .ret))⟩
theorem dh95:cProg Go.Proofs.Tryz.prog ⟨[],[],[]⟩ 95=some dc95:=by kernel_rfl
end Sh

namespace Sh
open Go
theorem wrap_pred (i:Nat) (h0:0 < i) (h:i < 4611686018427387904):IntKind.i64.wrap ((i:Int) - 1)=((i - 1:Nat):Int):=by
 rw [wrap_W,W_in (by omega) (by omega)];omega
section
variable {ev:Operand→DV} {lk:Nat→Option DObj} {o kk q i:Nat} {ks:List Nat} {z v:DV} {m k x:Operand} {es:List (DV×DV)}
end
end Sh

namespace Sh
open Go Go.Proofs
theorem q_When (b:Bool) (e:Int):PC 95 [.bool b,DV.int .i64 (e)] (DV.int .i64 (whenE b e)):=by
 refine pureCall_ofR dh95 rfl ?_
 conv=>whnf
 refine ⟨fun hb=>?_,fun hb=>?_⟩<;>try (exact absurd hb (by decide))
 all_goals conv=>whnf
 all_goals subst hb;rfl
theorem q_CheckRange (n l h:Int):PC 94 [DV.int .i64 (n),DV.int .i64 (l),DV.int .i64 (h)] (DV.int .i64 (withE n l h)):=by
 refine pureCall_ofR dh94 rfl ?_
 conv=>whnf
 refine ⟨fun hb=>?_,fun hb=>?_⟩<;>try (exact absurd hb (by decide))
 all_goals conv=>whnf
 ·refine .inl ?_
  conv=>whnf
  refine ⟨_,q_When ..,?_⟩
  conv=>whnf
  exact int_eq (by simp_all [withE,whenE];split<;>split<;>omega)
 ·refine .inl ?_
  conv=>whnf
  refine ⟨_,q_When ..,?_⟩
  conv=>whnf
  exact int_eq (by simp_all [withE,whenE])
theorem q_First (l:List Int) (hl:l.length < 4611686018427387904):PC 48 [iL l] (DV.int .i64 (firstE l)):=by
 refine pureCall_ofR dh48 rfl ?_
 conv=>whnf
 refine dwp_loopR (P:=Tryz.prog) (G:=GC) (k:=dk48_0) (b:=db48_0) (α:=Nat) (fun i=>[(0,iL l),(3,DV.int .i64 (i))]) (fun _=>[]) (fun i=>i≤l.length∧firstE l=firstE (l.drop i)) (fun i=>l.length - i) 0 ⟨rfl,rfl,rfl⟩ ⟨Nat.zero_le _,rfl⟩ ?_
 intro i ⟨h1,h2⟩
 conv=>whnf
 refine ⟨fun hb=>?_,fun hb=>?_⟩<;>try (exact absurd hb (by decide))
 ·have hi:i < l.length:=by simpa using hb
  have hd:=firstE_drop l i hi
  conv=>whnf
  rw [getD_enc _ _ (i) 0 hi]
  refine ⟨idxA hi rfl,?_⟩
  conv=>whnf
  refine ⟨fun hb=>?_,fun hb=>?_⟩<;>try (exact absurd hb (by decide))
  ·conv=>whnf
   rw [getD_enc _ _ (i) 0 hi]
   refine ⟨idxA hi rfl,?_⟩
   conv=>whnf
   exact int_eq (by simp_all)
  ·conv=>whnf
   rw [wrap_succ i (by omega)]
   exact ⟨i+1,rfl,rfl,rfl,⟨hi,by simp_all⟩,by omega⟩
 ·conv=>whnf
  have:i=l.length:=by simp at hb;omega
  subst this
  exact int_eq (by rw [h2];simp [firstE])
end Sh

namespace Sh
open Go
theorem lightF_cons (s:Sn) (so:Int) (d:Dy) (r:List Dy):lightF s so (d :: r)=lgtS d so :: lightF s (aftS s d so) r:=rfl
theorem soilF_clean (s:Sn) (ws:List Int):∀ (l:List Dy) (i:Nat) (so:Int),(∀ k:Nat,i≤k→(k:Int) ∉ ws)→List.zipWith lgtS l (soilF s ws i so l)=lightF s so l
 |[],i,so,_=>rfl
 |d :: r,i,so,h=>by
  have hw:wshS ws i so=so:=by unfold wshS;rw [if_neg (h i (Nat.le_refl _))]
  unfold soilF
  rw [hw,List.zipWith_cons_cons,soilF_clean s ws r (i+1) _ (fun k hk=>h k (by omega)),lightF_cons]
theorem yldS_nil (s:Sn):yldS s []=lightF s s.soil s.days:=soilF_clean s [] _ _ _ (fun k _=>by simp)
theorem sumI_cons (a:Int) (l:List Int):sumI (a :: l)=a+sumI l:=rfl
end Sh

namespace Sh
open Go
theorem cmpI_neg {a b:Int}:cmpI a b < 0 ↔ a < b:=by unfold cmpI;split<;>(try split)<;>omega
theorem cmpI_zero {a b:Int}:cmpI a b=0 ↔ a=b:=by unfold cmpI;split<;>(try split)<;>omega
theorem cmpP_lt {x m:Pl} (h:cmpP x m < 0):m.worth≤x.worth:=by
 unfold cmpP at h
 split at h
 ·have:=cmpI_neg.1 h;omega
 ·rename_i h1
  have:=cmpI_zero.1 (Classical.not_not.1 h1);omega
theorem cmpP_ge {x m:Pl} (h:¬ cmpP x m < 0):x.worth≤m.worth:=by
 unfold cmpP at h
 split at h
 ·rename_i h1
  have h2:=mt cmpI_neg.2 h;omega
 ·rename_i h1
  have:=cmpI_zero.1 (Classical.not_not.1 h1);omega
theorem minP_worth:∀ (l:List Pl) (m:Pl),m.worth≤(minP m l).worth∧∀ x ∈ l,x.worth≤(minP m l).worth
 |[],m=>by unfold minP;simp
 |x :: r,m=>by
  unfold minP
  obtain ⟨h1,h2⟩:=minP_worth r (if cmpP x m < 0 then x else m)
  have h3:m.worth≤(if cmpP x m < 0 then x else m).worth∧x.worth≤(if cmpP x m < 0 then x else m).worth:=by
   split
   ·rename_i h;exact ⟨cmpP_lt h,Int.le_refl _⟩
   ·rename_i h;exact ⟨Int.le_refl _,cmpP_ge h⟩
  refine ⟨Int.le_trans h3.1 h1,fun y hy=>?_⟩
  rcases List.mem_cons.1 hy with rfl|hy
  ·exact Int.le_trans h3.2 h1
  ·exact h2 y hy
theorem bestP_worth {l:List Pl}:∀ x ∈ l,x.worth≤(bestP l).worth:=by
 cases l with
 |nil=>simp
 |cons x r =>
  intro y hy
  rcases List.mem_cons.1 hy with rfl|hy
  ·exact (minP_worth r y).1
  ·exact (minP_worth r x).2 y hy
end Sh

namespace Sh
open Go Go.Proofs
theorem firstE_two (a b:Int) (r:List Int):firstE (a :: b :: r)=if firstE [a,b]≠0 then firstE [a,b] else firstE r:=by
 simp only [firstE]
 split
 ·rfl
 ·split<;>rfl
theorem r_CheckDays (l:List Dy) (hl:l.length < 1073741824):PC 30 [dysV l] (DV.int .i64 (chkDs l)):=by
 have e0:((l.map encD).length:Int)=l.length:=by simp
 have hk:chkDs l=if firstE [whenE (decide (((l.map encD).length:Int)=0)) 12,whenE (decide ((64:Int) < ((l.map encD).length:Int))) 5]≠0 then firstE [whenE (decide (((l.map encD).length:Int)=0)) 12,whenE (decide ((64:Int) < ((l.map encD).length:Int))) 5] else firstE (l.map chkDy):=by
  unfold chkDs
  rw [firstE_two,firstE_one,e0,show decide ((l.length:Int)=0)=decide (l.length=0) by rw [decide_eq_decide];omega,show decide ((64:Int) < l.length)=decide (64 < l.length) by rw [decide_eq_decide];omega]
 refine pureCall_ofR dh30 rfl ?_
 conv=>whnf
 repeat' (first
  |(refine ⟨fun hg=>?_,fun hg=>?_⟩<;>first|contradiction|(conv=>whnf))
  |(refine Or.inl ?_;conv=>whnf)
  |(refine ⟨_,q_When ..,?_⟩;conv=>whnf)
  |(refine ⟨_,q_First [_,_] (by simp),?_⟩;conv=>whnf)
  |(refine And.intro ?_ ?_;kernel_rfl;conv=>whnf))
 ·have hg:=of_decide_eq_true hg
  exact int_eq (by rw [hk,if_pos hg])
 ·have hg:=of_decide_eq_false hg
  rw [if_neg hg] at hk
  clear hg
  refine dwp_loopU (P:=Tryz.prog) (G:=GC) (k:=dk30_0) (b:=db30_0) (α:=Nat) (fun i=>[(4,DV.int .i64 (i))]) (fun _=>[]) (fun i=>i≤l.length∧chkDs l=firstE ((l.map chkDy).drop i)) (fun i=>l.length - i) 0 ⟨Nat.zero_le _,hk⟩ ?_
  conv=>whnf
  refine ⟨rfl,rfl,?_⟩
  conv=>whnf
  refine ⟨rfl,?_⟩
  intro i ⟨h1,h2⟩
  conv=>whnf
  refine ⟨fun hb=>?_,fun hb=>?_⟩
  ·have hi:i < l.length:=by simpa using hb
   have hd:=firstE_drop (l.map chkDy) i (by simpa using hi)
   rw [show (l.map chkDy).getD i 0=chkDy (l.getD i D0) by simp [List.getD_eq_getElem?_getD,hi]] at hd
   clear hb
   conv=>whnf
   repeat' (first
    |(refine ⟨fun hg=>?_,fun hg=>?_⟩<;>first|contradiction|(conv=>whnf))
    |(refine Or.inl ?_;conv=>whnf)
    |(refine ⟨_,q_CheckRange ..,?_⟩;conv=>whnf)
    |(refine ⟨_,q_First [_,_,_] (by simp),?_⟩;conv=>whnf)
    |(rw [getD_enc _ _ i D0 hi];refine ⟨idxA hi rfl,?_⟩;conv=>whnf)
    |(refine And.intro ?_ ?_;kernel_rfl;conv=>whnf))
   ·have hg:chkDy (l.getD i D0)≠0:=of_decide_eq_true hg
    rw [if_pos hg] at hd
    exact int_eq (by rw [h2,hd];rfl)
   ·have hg:¬ chkDy (l.getD i D0)≠0:=of_decide_eq_false hg
    rw [if_neg hg] at hd
    rw [wrap_succ i (by omega)]
    exact ⟨i+1,rfl,rfl,rfl,⟨hi,by rw [h2,hd]⟩,by omega⟩
  ·have hi:i=l.length:=by have:=of_decide_eq_false hb;rw [e0] at this;omega
   clear hb
   conv=>whnf
   exact int_eq (by rw [h2,hi,List.drop_of_length_le (by simp)];rfl)
theorem r_CheckSeason (s:Sn) (hl:s.days.length < 1073741824):PC 23 [encS s] (DV.int .i64 (chkSn s)):=by
 have k1:=r_CheckDays s.days hl
 refine pureCall_ofR dh23 rfl ?_
 conv=>whnf
 repeat' (first
  |(refine ⟨fun hg=>?_,fun hg=>?_⟩<;>first|contradiction|(conv=>whnf))
  |(refine Or.inl ?_;conv=>whnf)
  |(refine ⟨_,k1,?_⟩;conv=>whnf)
  |(refine ⟨_,q_CheckRange ..,?_⟩;conv=>whnf)
  |(refine ⟨_,q_First [_,_,_,_,_,_] (by simp),?_⟩;conv=>whnf)
  |(refine And.intro ?_ ?_;kernel_rfl;conv=>whnf))
 rfl
end Sh

namespace Sh
open Go Go.Proofs
theorem q_HasInt (l:List Int) (n:Int) (hl:l.length < 4611686018427387904):PC 83 [iL l,DV.int .i64 (n)] (.bool (decide (n ∈ l))):=by
 have e0:((l.map (DV.int .i64)).length:Int)=l.length:=by simp
 refine pureCall_ofR dh83 rfl ?_
 conv=>whnf
 refine dwp_loopR (P:=Tryz.prog) (G:=GC) (k:=dk83_0) (b:=db83_0) (α:=Nat) (fun i=>[(0,iL l),(1,DV.int .i64 (n)),(5,DV.int .i64 (i))]) (fun _=>[]) (fun i=>i≤l.length∧n ∉ l.take i) (fun i=>l.length - i) 0 ⟨rfl,rfl,rfl⟩ ⟨Nat.zero_le _,by simp⟩ ?_
 intro i ⟨h1,h2⟩
 conv=>whnf
 refine ⟨fun hb=>?_,fun hb=>?_⟩
 ·have hi:i < l.length:=by simpa using hb
  clear hb
  conv=>whnf
  rw [getD_enc _ _ (i) 0 hi]
  refine ⟨idxA hi rfl,?_⟩
  conv=>whnf
  refine ⟨fun hg=>?_,fun hg=>?_⟩
  ·have hg:l.getD i 0=n:=of_decide_eq_true hg
   conv=>whnf
   exact bool_eq (decide_eq_true (by rw [← hg];exact getD_in 0 hi)).symm
  ·have hg:¬ l.getD i 0=n:=of_decide_eq_false hg
   conv=>whnf
   rw [wrap_succ i (by omega)]
   refine ⟨i+1,rfl,rfl,rfl,⟨hi,?_⟩,by omega⟩
   rw [take_snoc l i 0 hi,List.mem_append]
   rintro (h|h)
   ·exact h2 h
   ·simp only [List.mem_cons,List.not_mem_nil,or_false] at h;exact hg h.symm
 ·have hi:i=l.length:=by have:=of_decide_eq_false hb;rw [e0] at this;omega
  rw [hi,List.take_length] at h2
  conv=>whnf
  exact bool_eq (decide_eq_false h2).symm
end Sh

namespace Sh
open Go
theorem cmpI_self (a:Int):cmpI a a=0:=cmpI_zero.2 rfl
theorem cmpI_swap (a b:Int):cmpI b a = -cmpI a b:=by unfold cmpI;split<;>(try split)<;>(try split)<;>omega
theorem cmpL_self:∀ a:List Int,cmpL a a=0
 |[]=>rfl
 |a :: r=>by unfold cmpL;rw [cmpI_self,if_neg (by simp)];exact cmpL_self r
theorem cmpL_swap:∀ a b:List Int,cmpL b a = -cmpL a b
 |[],[]=>rfl
 |[],_ :: _=>rfl
 |_ :: _,[]=>rfl
 |a :: r,b :: t=>by
  unfold cmpL
  rw [cmpI_swap a b]
  have:=cmpL_swap r t
  split<;>split<;>omega
theorem cmpL_zero:∀ {a b:List Int},cmpL a b=0→a=b
 |[],[],_=>rfl
 |[],_ :: _,h=>by cases h
 |_ :: _,[],h=>by cases h
 |a :: r,b :: t,h=>by
  unfold cmpL at h
  split at h
  ·rename_i h1;exact absurd h h1
  ·rename_i h1
   rw [cmpI_zero.1 (Classical.not_not.1 h1),cmpL_zero h]
theorem cmpL_trans:∀ {a b c:List Int},cmpL a b≤0→cmpL b c≤0→cmpL a c≤0
 |[],[],_,_,h=>h
 |[],_ :: _,[],_,h=>by unfold cmpL at h;omega
 |[],_ :: _,_ :: _,_,_=>by unfold cmpL;omega
 |_ :: _,[],_,h,_=>by unfold cmpL at h;omega
 |_ :: _,_ :: _,[],_,h=>by unfold cmpL at h;omega
 |a :: r,b :: t,c :: u,h1,h2=>by
  unfold cmpL at h1 h2 ⊢
  by_cases e1:a=b
  ·subst e1
   rw [cmpI_self,if_neg (by simp)] at h1
   split
   ·rename_i h3;rw [if_pos h3] at h2;exact h2
   ·rename_i h3;rw [if_neg h3] at h2;exact cmpL_trans h1 h2
  ·have e1':cmpI a b≠0:=fun h=>e1 (cmpI_zero.1 h)
   rw [if_pos e1'] at h1
   have hab:=cmpI_neg.1 (show cmpI a b < 0 by omega)
   have hbc:b≤c:=by
    by_cases e2:b=c
    ·omega
    ·have e2':cmpI b c≠0:=fun h=>e2 (cmpI_zero.1 h)
     rw [if_pos e2'] at h2
     have:=cmpI_neg.1 (show cmpI b c < 0 by omega);omega
   have:=cmpI_neg.2 (show a < c by omega)
   rw [if_pos (by omega)];omega
def leP (a b:Pl):Prop:=cmpP a b≤0
theorem leP_iff (a b:Pl):leP a b ↔ b.worth < a.worth∨(a.worth=b.worth∧(a.idx.length < b.idx.length∨(a.idx.length=b.idx.length∧cmpL a.idx b.idx≤0))):=by
 unfold leP cmpP
 have h1:=@cmpI_neg b.worth a.worth
 have h2:=@cmpI_zero b.worth a.worth
 have h3:=@cmpI_neg (a.idx.length:Int) (b.idx.length:Int)
 have h4:=@cmpI_zero (a.idx.length:Int) (b.idx.length:Int)
 split
 ·omega
 ·split<;>omega
theorem leP_refl (a:Pl):leP a a:=(leP_iff a a).2 (.inr ⟨rfl,.inr ⟨rfl,by rw [cmpL_self];exact Int.le_refl _⟩⟩)
theorem leP_trans {a b c:Pl} (h1:leP a b) (h2:leP b c):leP a c:=by
 rw [leP_iff] at *
 rcases h1 with h1|⟨h1,h1'⟩
 ·rcases h2 with h2|⟨h2,_⟩<;>exact .inl (by omega)
 ·rcases h2 with h2|⟨h2,h2'⟩
  ·exact .inl (by omega)
  ·refine .inr ⟨by omega,?_⟩
   rcases h1' with h1'|⟨h1',h1''⟩
   ·rcases h2' with h2'|⟨h2',_⟩<;>exact .inl (by omega)
   ·rcases h2' with h2'|⟨h2',h2''⟩
    ·exact .inl (by omega)
    ·exact .inr ⟨by omega,cmpL_trans h1'' h2''⟩
theorem leP_of_not {a b:Pl} (h:¬ cmpP a b < 0):leP b a:=by
 rw [leP_iff]
 have:=(leP_iff a b)
 unfold leP at this
 by_cases e:cmpP a b=0
 ·have h1:=this.1 (by omega)
  have h2:a=b:=by
   unfold cmpP at e
   split at e
   ·rename_i h;exact absurd e h
   ·rename_i h3
    split at e
    ·rename_i h;exact absurd e h
    ·have hw:=cmpI_zero.1 (Classical.not_not.1 h3)
     have hi:=cmpL_zero e
     cases a;cases b;simp_all
  subst h2
  exact .inr ⟨rfl,.inr ⟨rfl,by rw [cmpL_self];exact Int.le_refl _⟩⟩
 ·have h1:=mt this.2 (by omega)
  have:=cmpL_swap a.idx b.idx
  omega
theorem leP_of_lt {a b:Pl} (h:cmpP a b < 0):leP a b:=Int.le_of_lt h
theorem minP_le:∀ (l:List Pl) (m:Pl),leP (minP m l) m∧∀ x ∈ l,leP (minP m l) x
 |[],m=>⟨leP_refl m,by simp⟩
 |x :: r,m=>by
  unfold minP
  obtain ⟨h1,h2⟩:=minP_le r (if cmpP x m < 0 then x else m)
  have h3:leP (if cmpP x m < 0 then x else m) m∧leP (if cmpP x m < 0 then x else m) x:=by
   split
   ·rename_i h;exact ⟨leP_of_lt h,leP_refl x⟩
   ·rename_i h;exact ⟨leP_refl m,leP_of_not h⟩
  refine ⟨leP_trans h1 h3.1,fun y hy=>?_⟩
  rcases List.mem_cons.1 hy with rfl|hy
  ·exact leP_trans h1 h3.2
  ·exact h2 y hy
theorem bestP_le {l:List Pl}:∀ x ∈ l,leP (bestP l) x:=by
 cases l with
 |nil=>simp
 |cons x r =>
  intro y hy
  rcases List.mem_cons.1 hy with rfl|hy
  ·exact (minP_le r y).1
  ·exact (minP_le r x).2 y hy
theorem leP_cons {a b:Pl} (h:leP a b) (d c:Int):leP ⟨d :: a.idx,c+a.worth⟩ ⟨d :: b.idx,c+b.worth⟩:=by
 rw [leP_iff] at *
 show c+b.worth < c+a.worth∨(c+a.worth=c+b.worth∧((d :: a.idx).length < (d :: b.idx).length∨((d :: a.idx).length=(d :: b.idx).length∧cmpL (d :: a.idx) (d :: b.idx)≤0)))
 have e:cmpL (d :: a.idx) (d :: b.idx)=cmpL a.idx b.idx:=by
  show (if cmpI d d≠0 then cmpI d d else cmpL a.idx b.idx)=_
  rw [cmpI_self,if_neg (by simp)]
 rw [e,List.length_cons,List.length_cons]
 omega
theorem leP_add {a b:Pl} (h:leP a b) (c:Int):leP ⟨a.idx,c+a.worth⟩ ⟨b.idx,c+b.worth⟩:=by
 rw [leP_iff] at *
 show c+b.worth < c+a.worth∨(c+a.worth=c+b.worth∧(a.idx.length < b.idx.length∨(a.idx.length=b.idx.length∧cmpL a.idx b.idx≤0)))
 omega
end Sh

namespace Sh
open Go
theorem soilF_congr (s:Sn) (ws ws':List Int):∀ (l:List Dy) (i:Nat) (so:Int),(∀ k:Nat,i≤k→((k:Int) ∈ ws ↔ (k:Int) ∈ ws'))→soilF s ws i so l=soilF s ws' i so l
 |[],i,so,_=>rfl
 |d :: r,i,so,h=>by
  have hw:wshS ws i so=wshS ws' i so:=by
   unfold wshS
   by_cases e:(i:Int) ∈ ws
   ·rw [if_pos e,if_pos ((h i (Nat.le_refl _)).1 e)]
   ·rw [if_neg e,if_neg (fun e'=>e ((h i (Nat.le_refl _)).2 e'))]
  unfold soilF
  rw [hw,soilF_congr s ws ws' r (i+1) _ (fun k hk=>h k (by omega))]
def totF (s:Sn) (ws:List Int) (i:Nat) (so:Int) (l:List Dy):Int:=sumI (List.zipWith lgtS l (soilF s ws i so l))
theorem totF_nil (s:Sn) (i:Nat) (so:Int) (l:List Dy):totF s [] i so l=sumI (lightF s so l):=by unfold totF;rw [soilF_clean s [] l i so (fun k _=>by simp)]
theorem totF_cons (s:Sn) (ws:List Int) (i:Nat) (so:Int) (d:Dy) (r:List Dy):totF s ws i so (d :: r)=lgtS d (wshS ws i so)+totF s ws (i+1) (aftS s d (wshS ws i so)) r:=by
 show sumI (List.zipWith lgtS (d :: r) (wshS ws i so :: soilF s ws (i+1) (aftS s d (wshS ws i so)) r))=_
 rw [List.zipWith_cons_cons,sumI_cons];rfl
theorem totF_congr {s:Sn} {ws ws':List Int} {i:Nat} {so:Int} {l:List Dy} (h:∀ k:Nat,i≤k→((k:Int) ∈ ws ↔ (k:Int) ∈ ws')):totF s ws i so l=totF s ws' i so l:=by unfold totF;rw [soilF_congr s ws ws' l i so h]
theorem totF_head (s:Sn) (n:Nat) (e:Nat) (rest:List Int) (hi:Inc n e rest):∀ (l:List Dy) (i:Nat) (so:Int),i≤e→e < i+l.length →
  totF s ((e:Int) :: rest) i so l=sumI ((lightF s so l).take (e - i))+totF s rest e 0 (l.drop (e - i))
 |[],i,so,h1,h2=>by simp at h2;omega
 |d :: r,i,so,h1,h2=>by
  rw [totF_cons]
  by_cases e0:i=e
  ·subst e0
   have hw:wshS ((i:Int) :: rest) i so=0:=by unfold wshS;rw [if_pos (by simp)]
   have hw2:wshS rest i 0=0:=by unfold wshS;split<;>rfl
   rw [hw,Nat.sub_self,List.drop_zero,totF_cons,hw2,List.take_zero,show sumI []=0 from rfl,Int.zero_add]
   congr 1
   refine totF_congr fun k hk=>?_
   rw [List.mem_cons]
   constructor
   ·rintro (h|h)
    ·omega
    ·exact h
   ·exact .inr
  ·have hw:wshS ((e:Int) :: rest) i so=so:=by
    unfold wshS
    rw [if_neg]
    rw [List.mem_cons]
    rintro (h|h)
    ·omega
    ·have:=inc_gt hi _ h;omega
   rw [List.length_cons] at h2
   rw [hw,totF_head s n e rest hi r (i+1) _ (by omega) (by omega),show e - i=(e - (i+1))+1 by omega,lightF_cons,List.take_succ_cons,sumI_cons,List.drop_succ_cons]
   omega
def valE (s:Sn) (e:Nat) (rest:List Int):Int:=s.price * totF s rest e 0 (s.days.drop e) - s.cost * (rest.length+1)
def PV (s:Sn) (e:Nat) (rest:List Int):Pl:=⟨(e:Int) :: rest,valE s e rest⟩
theorem partS_all (s:Sn) (d:Nat):partS s d (s.days.length - d)=sumI (lightF s 0 (s.days.drop d)):=by
 unfold partS
 rw [List.take_of_length_le (by rw [lightF_len,List.length_drop];exact Nat.le_refl _)]
theorem valE_nil (s:Sn) (d:Nat):valE s d []=s.price * partS s d (s.days.length - d) - s.cost:=by
 unfold valE
 rw [totF_nil,partS_all,List.length_nil];simp
theorem valE_cons (s:Sn) (d f:Nat) (r:List Int) (h1:d < f) (h2:f < s.days.length) (hr:Inc s.days.length f r):valE s d ((f:Int) :: r)=s.price * partS s d (f - d) - s.cost+valE s f r:=by
 unfold valE partS
 rw [totF_head s s.days.length f r hr (s.days.drop d) d 0 (by omega) (by rw [List.length_drop];omega),List.drop_drop,show d+(f - d)=f by omega,List.length_cons,Int.mul_add,Int.natCast_add,Int.mul_add,Int.mul_add]
 simp only [Int.natCast_one,Int.mul_one,Int.mul_add]
 omega
def BestAt (s:Sn) (d:Nat) (p:Pl):Prop:=(∃ r,Inc s.days.length d r∧p=PV s d r)∧∀ r,Inc s.days.length d r→leP p (PV s d r)
theorem plans_best (s:Sn):∀ k,k≤s.days.length→∀ j,j≤k→if j=k then (plansF s k).getD j P00=P00 else BestAt s (s.days.length - k+j) ((plansF s k).getD j P00)
 |0,_,j,hj=>by
  have:j=0:=by omega
  subst this;rfl
 |k+1,hk,j,hj=>by
  have ih:=plans_best s k (by omega)
  unfold plansF
  cases j with
  |succ j =>
   have h:=ih j (by omega)
   rw [List.getD_cons_succ,show s.days.length - (k+1)+(j+1)=s.days.length - k+j by omega]
   by_cases e:j=k
   ·rw [if_pos e] at h;rw [if_pos (by omega)];exact h
   ·rw [if_neg e] at h;rw [if_neg (by omega)];exact h
  |zero =>
   rw [if_neg (by omega),Nat.add_zero,List.getD_cons_zero]
   obtain ⟨d,hd⟩:∃ d,d=s.days.length - (k+1):=⟨_,rfl⟩
   rw [← hd]
   have hn:s.days.length - d=k+1:=by omega
   -- each candidate
   have hcand:∀ i,i≤k→(⟨(d:Int) :: ((plansF s k).getD i P00).idx,s.price * partS s d (i+1) - s.cost+((plansF s k).getD i P00).worth⟩:Pl) ∈ candP s d (plansF s k):=fun i hi=>by
    unfold candP;rw [hn]
    exact List.mem_map.2 ⟨i,List.mem_range.2 (by omega),rfl⟩
   have hend:(⟨(d:Int) :: ((plansF s k).getD k P00).idx,s.price * partS s d (k+1) - s.cost+((plansF s k).getD k P00).worth⟩:Pl)=PV s d []:=by
    have h:=ih k (Nat.le_refl _)
    rw [if_pos rfl] at h
    rw [h]
    unfold PV
    rw [valE_nil,hn]
    show (⟨_,_+0⟩:Pl)=_
    rw [Int.add_zero];rfl
   have hmid:∀ i,i < k→∀ r,Inc s.days.length (((d+1+i:Nat)):Int) r→(⟨(d:Int) :: (PV s (d+1+i) r).idx,s.price * partS s d (i+1) - s.cost+(PV s (d+1+i) r).worth⟩:Pl)=PV s d (((d+1+i:Nat):Int) :: r):=fun i hi r hr=>by
    show (⟨_,_+valE s (d+1+i) r⟩:Pl)=⟨_,valE s d _⟩
    rw [valE_cons s d (d+1+i) r (by omega) (by omega) hr,show d+1+i - d=i+1 by omega];rfl
   have hix:s.days.length - k=d+1:=by omega
   have hne:candP s d (plansF s k)≠[]:=fun e=>by have:=hcand 0 (by omega);rw [e] at this;cases this
   have hb:=bestP_mem hne
   refine ⟨?_,fun r hr=>?_⟩
   ·generalize bestP (candP s d (plansF s k))=b at hb
    unfold candP at hb
    rw [hn] at hb
    obtain ⟨i,hi,rfl⟩:=List.mem_map.1 hb
    have hi:=List.mem_range.1 hi
    by_cases e:i=k
    ·subst e;exact ⟨[],trivial,hend⟩
    ·have h:=ih i (by omega)
     rw [if_neg e,hix] at h
     obtain ⟨⟨r,hr,hp⟩,_⟩:=h
     rw [hp]
     refine ⟨((d+1+i:Nat):Int) :: r,⟨by omega,by omega,hr⟩,hmid i (by omega) r hr⟩
   ·cases r with
    |nil=>rw [← hend];exact bestP_le _ (hcand k (Nat.le_refl _))
    |cons f r =>
     obtain ⟨h1,h2,h3⟩:=hr
     obtain ⟨f,rfl⟩:=Int.eq_ofNat_of_zero_le (show 0≤f by omega)
     have hdf:d < f:=by omega
     obtain ⟨i,rfl⟩:∃ i,f=d+1+i:=⟨f - (d+1),by omega⟩
     have hi:i < k:=by omega
     have h:=ih i (by omega)
     rw [if_neg (by omega),hix] at h
     have h4:=h.2 r h3
     have h5:=leP_cons h4 (d:Int) (s.price * partS s d (i+1) - s.cost)
     rw [hmid i hi r h3] at h5
     exact leP_trans (bestP_le _ (hcand i (by omega))) h5
def planW (s:Sn) (ws:List Int):Pl:=⟨ws,worthS s ws⟩
theorem worth_nil (s:Sn):worthS s []=s.price * sumI (lightF s s.soil s.days):=by
 unfold worthS
 rw [yldS_nil];simp
theorem worth_cons (s:Sn) (e:Nat) (r:List Int) (h:e < s.days.length) (hr:Inc s.days.length e r):worthS s ((e:Int) :: r)=s.price * sumI ((lightF s s.soil s.days).take e)+valE s e r:=by
 have h1:=totF_head s s.days.length e r hr s.days 0 s.soil (Nat.zero_le _) (by omega)
 unfold worthS valE
 rw [show sumI (yldS s ((e:Int) :: r))=totF s ((e:Int) :: r) 0 s.soil s.days from rfl,h1,Nat.sub_zero,List.length_cons,Int.mul_add]
 simp only [Int.natCast_add,Int.natCast_one]
 omega
theorem planned_best (s:Sn):(∃ ws,Inc s.days.length (-1) ws∧plannedS s=planW s ws)∧∀ ws,Inc s.days.length (-1) ws→leP (plannedS s) (planW s ws):=by
 have ih:=plans_best s s.days.length (Nat.le_refl _)
 have hmem:∀ x,x ∈ headC s++[⟨[],s.price * sumI (lightF s s.soil s.days)⟩] ↔ (∃ i,i < s.days.length∧x=⟨((plansS s).getD i P00).idx,s.price * sumI ((lightF s s.soil s.days).take i)+((plansS s).getD i P00).worth⟩)∨x=planW s []:=fun x=>by
  rw [List.mem_append,List.mem_singleton]
  unfold headC planW
  rw [worth_nil]
  constructor
  ·rintro (h|h)
   ·obtain ⟨i,hi,rfl⟩:=List.mem_map.1 h
    exact .inl ⟨i,List.mem_range.1 hi,rfl⟩
   ·exact .inr h
  ·rintro (⟨i,hi,rfl⟩|h)
   ·exact .inl (List.mem_map.2 ⟨i,List.mem_range.2 hi,rfl⟩)
   ·exact .inr h
 have hpv:∀ i r,i < s.days.length→Inc s.days.length i r→(⟨(PV s i r).idx,s.price * sumI ((lightF s s.soil s.days).take i)+(PV s i r).worth⟩:Pl)=planW s ((i:Int) :: r):=fun i r hi hr=>by
  unfold planW
  rw [worth_cons s i r hi hr];rfl
 have hat:∀ i,i < s.days.length→BestAt s i ((plansS s).getD i P00):=fun i hi=>by
  have h:=ih i (by omega)
  rw [if_neg (by omega),Nat.sub_self,Nat.zero_add] at h
  exact h
 refine ⟨?_,fun ws hws=>?_⟩
 ·have hb:plannedS s ∈ headC s++[⟨[],s.price * sumI (lightF s s.soil s.days)⟩]:=bestP_mem (by simp)
  rcases (hmem _).1 hb with ⟨i,hi,e⟩|e
  ·obtain ⟨⟨r,hr,hp⟩,_⟩:=hat i hi
   rw [hp,hpv i r hi hr] at e
   exact ⟨(i:Int) :: r,⟨by omega,by omega,hr⟩,e⟩
  ·exact ⟨[],trivial,e⟩
 ·cases ws with
  |nil=>exact bestP_le _ ((hmem _).2 (.inr rfl))
  |cons e r =>
   obtain ⟨h1,h2,h3⟩:=hws
   obtain ⟨e,rfl⟩:=Int.eq_ofNat_of_zero_le (show 0≤e by omega)
   have hi:e < s.days.length:=by omega
   have h4:=leP_add ((hat e hi).2 r h3) (s.price * sumI ((lightF s s.soil s.days).take e))
   rw [hpv e r hi h3] at h4
   exact leP_trans (bestP_le _ ((hmem _).2 (.inl ⟨e,hi,rfl⟩))) h4
end Sh

namespace Sh
open Go Go.Proofs
theorem r_CheckWashes (s:Sn) (ws:List Int) (hl:s.days.length < 1073741824) (hw:ws.length < 1073741824):PC 24 [encS s,iL ws] (DV.int .i64 (chkWs s.days.length (-1) ws)):=by
 have e0:((ws.map (DV.int .i64)).length:Int)=ws.length:=by simp
 have e1:((s.days.map encD).length:Int)=s.days.length:=by simp
 refine pureCall_ofR dh24 rfl ?_
 conv=>whnf
 refine dwp_loopU (P:=Tryz.prog) (G:=GC) (k:=dk24_0) (b:=db24_0) (α:=Nat) (fun i=>[(5,DV.int .i64 (i))]) (fun _=>[(2,.box 6 (encS s))]) (fun i=>i≤ws.length∧chkWs s.days.length (-1) ws=chkWs s.days.length (lastW ws i) (ws.drop i)) (fun i=>ws.length - i) 0 ⟨Nat.zero_le _,rfl⟩ ?_
 conv=>whnf
 refine ⟨rfl,rfl,?_⟩
 conv=>whnf
 refine ⟨rfl,?_⟩
 intro i ⟨h1,h2⟩
 conv=>whnf
 refine ⟨fun hb=>?_,fun hb=>?_⟩
 ·have hi:i < ws.length:=by simpa using hb
  have hd:=chkWs_drop s.days.length ws i hi
  clear hb
  have hp:0 < i→lastW ws i=ws.getD (i - 1) 0:=fun h=>by unfold lastW;rw [if_neg (by omega)]
  have hz:i=0→lastW ws i = -1:=fun h=>by unfold lastW;rw [if_pos h]
  have hmx:0 < i→minmaxI true 0 (IntKind.i64.wrap ((i:Int) - 1))=((i - 1:Nat):Int):=fun h=>by
   rw [wrap_pred i h (by omega)]
   unfold minmaxI
   show (if ((i - 1:Nat):Int) > 0 then _ else _)=_
   split<;>omega
  have fin:∀ b c,b=decide (ws.getD i 0 < 0∨(s.days.length:Int)≤ws.getD i 0)→(¬ ws.getD i 0 < 0→c=decide (ws.getD i 0≤lastW ws i))→firstE [whenE b 10,whenE c 11]=wE s.days.length (ws.getD i 0) (lastW ws i):=fun b c g1 g2=>wE_first g1 g2
  have hdec:¬ ws.getD i 0 < 0→decide (((s.days.map encD).length:Int)≤ws.getD i 0)=decide (ws.getD i 0 < 0∨(s.days.length:Int)≤ws.getD i 0):=fun h=>by rw [e1,decide_eq_decide];omega
  have hyes:ws.getD i 0 < 0→true=decide (ws.getD i 0 < 0∨(s.days.length:Int)≤ws.getD i 0):=fun h=>(decide_eq_true (.inl h)).symm
  by_cases i0:(0:Int) < (i:Int)
  all_goals by_cases hx:ws.getD i 0 < 0
  all_goals
   conv=>whnf
   repeat' (first
    |(refine ⟨fun hg=>?_,fun hg=>?_⟩<;>first|contradiction|(exfalso;revert hg;simp;done)|(exfalso;exact absurd (of_decide_eq_true hg) (by assumption))|(exfalso;exact absurd (by assumption) (of_decide_eq_false hg))|(conv=>whnf))
    |(refine Or.inl ?_;conv=>whnf)
    |(refine ⟨_,q_When ..,?_⟩;conv=>whnf)
    |(refine ⟨_,q_First [_,_] (by simp),?_⟩;conv=>whnf)
    |(rw [getD_enc _ _ i 0 hi];refine ⟨idxA hi rfl,?_⟩;conv=>whnf)
    |(rw [hmx (by omega),getD_enc _ _ (i - 1) 0 (by omega)];refine ⟨idxA (by omega) rfl,?_⟩;conv=>whnf)
    |(refine And.intro ?_ ?_;kernel_rfl;conv=>whnf))
  all_goals
   first
   |contradiction
   |(have hg:firstE [whenE _ 10,whenE _ 11]≠0:=of_decide_eq_true hg
     rw [fin _ _ (by first|exact hyes hx|exact hdec hx) (fun hx'=>by first|exact absurd hx hx'|(rw [hp (by omega)];rfl)|(rw [hz (by omega)];symm;exact decide_eq_false (by omega)))] at hg ⊢
     rw [if_pos hg] at hd
     exact int_eq (by rw [h2,hd]))
   |(have hg:¬ firstE [whenE _ 10,whenE _ 11]≠0:=of_decide_eq_false hg
     rw [fin _ _ (by first|exact hyes hx|exact hdec hx) (fun hx'=>by first|exact absurd hx hx'|(rw [hp (by omega)];rfl)|(rw [hz (by omega)];symm;exact decide_eq_false (by omega)))] at hg
     rw [if_neg hg] at hd
     rw [wrap_succ i (by omega)]
     exact ⟨i+1,rfl,rfl,rfl,⟨hi,by rw [h2,hd]⟩,by omega⟩)
 ·have hi:i=ws.length:=by have:=of_decide_eq_false hb;rw [e0] at this;omega
  clear hb
  conv=>whnf
  exact int_eq (by rw [h2,hi,List.drop_of_length_le (Nat.le_refl _)];rfl)
end Sh

namespace Sh
open Go
def db41_0 : DC := (.seq (.seq (.ops false [⟨some 14,.mov (.tmp 5),none,[]⟩,⟨some 15,.mov (.tmp 1),none,[]⟩,⟨some 16,.len (.tmp 15),none,[]⟩,⟨some 17,.bin .lss (.tmp 14) (.tmp 16),none,[]⟩]) (.cond (.tmp 17) .skip (.exit 0))) (.seq (.block 1 none (.seq (.ops false [⟨some 20,.mov (.tmp 1),none,[]⟩,⟨some 21,.mov (.tmp 5),none,[]⟩,⟨some 22,.iaddr 1 (.tmp 20) (.tmp 21),none,[]⟩,⟨some 23,.load none (.tmp 22),none,[]⟩,⟨some 24,.call (.func 94) [.tmp 23,.const (.int .i64 (-100000000000)),.const (.int .i64 100000000000)],none,[]⟩,⟨some 6,.mov (.tmp 24),none,[]⟩]) (.seq (.ops false [⟨some 25,.mov (.tmp 6),none,[]⟩,⟨some 26,.bin .neq (.tmp 25) (.const (.int .i64 0)),none,[]⟩]) (.cond (.tmp 26) (.seq (.ops false [⟨some 27,.mov (.tmp 6),none,[]⟩,⟨some 4,.mov (.tmp 27),none,[]⟩]) .ret) .skip)))) (.ops false [⟨some 18,.mov (.tmp 5),none,[]⟩,⟨some 19,.bin .add (.tmp 18) (.const (.int .i64 1)),none,[]⟩,⟨some 5,.mov (.tmp 19),none,[]⟩])))
def dk41_0 : Keep := ⟨[],[1,5],[2]⟩
def dc41 : DFunc := ⟨28,2,[.tmp 4],.seq (.ops false [⟨some 2,.box 6 (.tmp 0),none,[]⟩,⟨some 4,.mov (.const (.int .i64 0)),none,[]⟩]) (.seq (.seq (.ops false [⟨some 7,.mov (.tmp 1),none,[]⟩,⟨some 8,.len (.tmp 7),none,[]⟩,⟨some 9,.faddr 3 1 false (.tmp 2),none,[]⟩,⟨some 10,.load none (.tmp 9),none,[]⟩,⟨some 11,.len (.tmp 10),none,[]⟩,⟨some 12,.bin .add (.tmp 11) (.const (.int .i64 1)),none,[]⟩,⟨some 13,.bin .neq (.tmp 8) (.tmp 12),none,[]⟩]) (.cond (.tmp 13) (.seq (.ops false [⟨some 4,.mov (.const (.int .i64 2)),none,[]⟩]) .ret) .skip)) (.seq (.seq (.ops false [⟨some 5,.mov (.const (.int .i64 0)),none,[]⟩]) (.block 0 (some ⟨[],[],[2]⟩) (.loop dk41_0 db41_0))) (.seq (.ops false [⟨some 4,.mov (.const (.int .i64 0)),none,[]⟩]) .ret)))⟩
theorem dh41:cProg Go.Proofs.Tryz.prog ⟨[(0,⟨[],[1,5],[2]⟩)],[(0,⟨[],[],[2]⟩)],[]⟩ 41=some dc41:=by kernel_rfl
end Sh

namespace Sh
open Go
def candW (s:Sn) (d k:Nat):Int:=s.price * sunS s 0 d (k+1) - s.cost+(planA s (d+k+1)).worth
def rowT (s:Sn) (m:Nat):List Int:=rng (s.days.length+1) fun i=>if m≤i then (planA s i).worth else 0
theorem rowT_len (s:Sn) (m:Nat):(rowT s m).length=s.days.length+1:=rng_len _ _
theorem rowT_get (s:Sn) (m i:Nat) (h:i≤s.days.length):(rowT s m).getD i 0=if m≤i then (planA s i).worth else 0:=rng_getD _ _ (by omega)
theorem rowT_all (s:Sn):rowT s 0=tableS s:=by
 unfold rowT tableS
 refine List.ext_getElem (by rw [rng_len,List.length_map];unfold plansS;rw [plansF_len]) fun i h1 h2=>?_
 have hi:i≤s.days.length:=by rw [rng_len] at h1;omega
 have h3:=plansS_at s i hi
 have hl:i < (plansS s).length:=by unfold plansS;rw [plansF_len];omega
 rw [List.getElem_map]
 have e1:=rng_getD (fun i=>if 0≤i then (planA s i).worth else 0) 0 (show i < s.days.length+1 by omega)
 rw [List.getD_eq_getElem?_getD,List.getElem?_eq_getElem h1] at e1
 refine Eq.trans e1 ?_
 rw [← h3]
 simp [List.getD_eq_getElem?_getD,hl]
end Sh

namespace Sh
open Go Go.Proofs
theorem r_CheckNumbers (s:Sn) (tb:List Int) (hn:s.days.length≤64) (hl:tb.length < 1073741824):PC 41 [encS s,iL tb] (DV.int .i64 (chkTb s tb)):=by
 have e0:((tb.map (DV.int .i64)).length:Int)=tb.length:=by simp
 have e1:((s.days.map encD).length:Int)=s.days.length:=by simp
 refine pureCall_ofR dh41 rfl ?_
 conv=>whnf
 rw [e0,e1,wrap_succ _ (by omega)]
 refine ⟨fun hg=>?_,fun hg=>?_⟩
 ·have hg:=of_decide_eq_true hg
  conv=>whnf
  exact int_eq (by unfold chkTb;rw [if_pos (by omega)])
 ·have hg:=of_decide_eq_false hg
  have hk:chkTb s tb=firstE ((tb.map tbE).drop 0):=by unfold chkTb;rw [if_neg (by omega)];rfl
  clear hg
  conv=>whnf
  refine dwp_loopU (P:=Tryz.prog) (G:=GC) (k:=dk41_0) (b:=db41_0) (α:=Nat) (fun i=>[(5,DV.int .i64 (i))]) (fun _=>[(2,.box 6 (encS s))]) (fun i=>i≤tb.length∧chkTb s tb=firstE ((tb.map tbE).drop i)) (fun i=>tb.length - i) 0 ⟨Nat.zero_le _,hk⟩ ?_
  conv=>whnf
  refine ⟨rfl,rfl,?_⟩
  conv=>whnf
  refine ⟨rfl,?_⟩
  intro i ⟨h1,h2⟩
  conv=>whnf
  refine ⟨fun hb=>?_,fun hb=>?_⟩
  ·have hi:i < tb.length:=by simpa using hb
   have hd:=firstE_drop (tb.map tbE) i (by simpa using hi)
   rw [show (tb.map tbE).getD i 0=tbE (tb.getD i 0) by simp [List.getD_eq_getElem?_getD,hi]] at hd
   clear hb
   conv=>whnf
   rw [getD_enc _ _ (i) 0 hi]
   refine ⟨idxA hi rfl,?_⟩
   conv=>whnf
   repeat' (first
    |(refine ⟨fun hg=>?_,fun hg=>?_⟩<;>first|contradiction|(conv=>whnf))
    |(refine Or.inl ?_;conv=>whnf)
    |(refine ⟨_,q_CheckRange ..,?_⟩;conv=>whnf)
    |(refine And.intro ?_ ?_;kernel_rfl;conv=>whnf))
   ·have hg:tbE (tb.getD i 0)≠0:=of_decide_eq_true hg
    rw [if_pos hg] at hd
    exact int_eq (by rw [h2,hd];rfl)
   ·have hg:¬ tbE (tb.getD i 0)≠0:=of_decide_eq_false hg
    rw [if_neg hg] at hd
    rw [wrap_succ i (by omega)]
    exact ⟨i+1,rfl,rfl,rfl,⟨hi,by rw [h2,hd]⟩,by omega⟩
  ·have hi:i=tb.length:=by have:=of_decide_eq_false hb;rw [e0] at this;omega
   clear hb
   conv=>whnf
   exact int_eq (by rw [h2,hi,List.drop_of_length_le (by simp)];rfl)
end Sh

namespace Sh
open Go
def dc19 : DFunc := ⟨17,1,[.cell 2 (some 6)],.seq (.ops false [⟨some 1,.box 6 (.tmp 0),none,[]⟩,⟨some 2,.alloc (.agg [.int .i64 0,.int .i64 0,.int .i64 0,.full [],.int .i64 0,.int .i64 0]) 6,none,[]⟩]) (.seq (.ops true [⟨some 3,.faddr 0 1 false (.tmp 1),none,[]⟩,⟨some 4,.load none (.tmp 3),none,[0]⟩,⟨some 5,.faddr 1 1 false (.tmp 1),none,[]⟩,⟨some 6,.load none (.tmp 5),none,[2]⟩,⟨some 7,.faddr 2 1 false (.tmp 1),none,[]⟩,⟨some 8,.load none (.tmp 7),none,[4]⟩,⟨some 9,.faddr 3 1 false (.tmp 1),none,[]⟩,⟨some 10,.load none (.tmp 9),none,[6]⟩,⟨some 11,.call (.func 29) [.tmp 10],none,[7,6]⟩,⟨some 12,.faddr 4 1 false (.tmp 1),none,[]⟩,⟨some 13,.load none (.tmp 12),none,[9]⟩,⟨some 14,.faddr 5 1 false (.tmp 1),none,[]⟩,⟨some 15,.load none (.tmp 14),none,[11]⟩,⟨some 16,.build [.int .i64 0,.int .i64 0,.int .i64 0,.full [],.int .i64 0,.int .i64 0] [(0,(1,(.tmp 4))),(1,(1,(.tmp 6))),(2,(1,(.tmp 8))),(3,(1,(.tmp 11))),(4,(1,(.tmp 13))),(5,(1,(.tmp 15)))],none,[1,0,3,2,5,4,8,7,6,10,9,12,11]⟩,⟨none,.store 6 (.tmp 2) (.tmp 16),none,[13,1,0,3,2,5,4,8,7,6,10,9,12,11]⟩]) .ret)⟩
theorem dh19:cProg Go.Proofs.Tryz.prog ⟨[],[],[]⟩ 19=some dc19:=by kernel_rfl
def dc20 : DFunc := ⟨6,1,[.tmp 2],.seq (.ops false [⟨some 2,.mov (.const (.slice none 0 0)),none,[]⟩]) (.seq (.ops false [⟨some 3,.lit true 1 0 (.int .i64 0) [],none,[]⟩,⟨some 4,.mov (.tmp 0),none,[]⟩,⟨some 5,.append true 1 (.tmp 3) (.tmp 4),none,[]⟩,⟨some 2,.mov (.tmp 5),none,[]⟩]) .ret)⟩
theorem dh20:cProg Go.Proofs.Tryz.prog ⟨[],[],[3,5]⟩ 20=some dc20:=by kernel_rfl
def db29_0 : DC := (.seq (.ops false [⟨some 9,.bin .lss (.tmp 8) (.tmp 7),none,[]⟩]) (.seq (.cond (.tmp 9) .skip (.exit 0)) (.seq (.block 1 none (.seq (.ops false [⟨some 10,.iaddr 3 (.tmp 6) (.tmp 8),none,[]⟩,⟨some 11,.load (some 3) (.tmp 10),none,[]⟩,⟨some 5,.alloc (.agg [.int .i64 0,.int .i64 0,.int .i64 0]) 3,none,[]⟩,⟨none,.store 3 (.tmp 5) (.tmp 11),none,[]⟩]) (.ops false [⟨some 12,.mov (.tmp 3),none,[]⟩,⟨some 13,.load (some 3) (.tmp 5),none,[]⟩,⟨some 14,.lit true 3 1 (.agg [.int .i64 0,.int .i64 0,.int .i64 0]) [(0,(.tmp 13))],none,[]⟩,⟨some 15,.append false 3 (.tmp 12) (.tmp 14),none,[]⟩,⟨some 3,.mov (.tmp 15),none,[]⟩]))) (.ops false [⟨some 16,.bin .add (.tmp 8) (.const (.int .i64 1)),none,[]⟩,⟨some 8,.mov (.tmp 16),none,[]⟩]))))
def dk29_0 : Keep := ⟨[(3,3)],[3,6,7,8],[3]⟩
def dc29 : DFunc := ⟨18,1,[.tmp 2],.seq (.ops false [⟨some 2,.mov (.const (.slice none 0 0)),none,[]⟩]) (.seq (.ops false [⟨some 3,.mov (.const (.slice none 0 0)),none,[]⟩]) (.seq (.seq (.ops false [⟨some 6,.mov (.tmp 0),none,[]⟩,⟨some 7,.len (.tmp 6),none,[]⟩,⟨some 8,.mov (.const (.int .i64 0)),none,[]⟩]) (.block 0 (some ⟨[],[3],[3]⟩) (.loop dk29_0 db29_0))) (.seq (.ops false [⟨some 17,.mov (.tmp 3),none,[]⟩,⟨some 2,.mov (.tmp 17),none,[]⟩]) .ret)))⟩
theorem dh29:cProg Go.Proofs.Tryz.prog ⟨[(0,⟨[(3,3)],[3,6,7,8],[3]⟩)],[(0,⟨[],[3],[3]⟩)],[14]⟩ 29=some dc29:=by kernel_rfl
def dc82 : DFunc := ⟨9,1,[.cell 2 (some 6)],.seq (.ops false [⟨some 1,.box 6 (.tmp 0),none,[]⟩,⟨some 2,.alloc (.agg [.int .i64 0,.int .i64 0,.int .i64 0,.full [],.int .i64 0,.int .i64 0]) 6,none,[]⟩]) (.seq (.ops false [⟨some 3,.lit true 3 0 (.agg [.int .i64 0,.int .i64 0,.int .i64 0]) [],none,[]⟩,⟨some 4,.faddr 3 1 false (.tmp 1),none,[]⟩,⟨some 5,.load none (.tmp 4),none,[]⟩,⟨some 6,.append true 3 (.tmp 3) (.tmp 5),none,[]⟩,⟨some 7,.faddr 3 1 false (.tmp 1),none,[]⟩,⟨none,.store 1 (.tmp 7) (.tmp 6),none,[]⟩]) (.seq (.ops false [⟨some 8,.load (some 6) (.tmp 1),none,[]⟩,⟨none,.store 6 (.tmp 2) (.tmp 8),none,[]⟩]) .ret))⟩
theorem dh82:cProg Go.Proofs.Tryz.prog ⟨[],[],[3,6]⟩ 82=some dc82:=by kernel_rfl
end Sh

namespace Sh
open Go Go.Proofs
theorem l_given (l:List Dy) (hl:l.length < 1073741824):PC 29 [.list (l.map encD)] (.list (l.map encD)):=by
 have e0:((l.map encD).length:Int)=l.length:=by simp
 refine pureCall_ofR dh29 rfl ?_
 conv=>whnf
 refine dwp_loopU (P:=Tryz.prog) (G:=GC) (k:=dk29_0) (b:=db29_0) (α:=Nat) (fun i=>[(3,.own 3 0 ((l.take i).map encD).length ((l.take i).map encD).length),(8,DV.int .i64 (i))]) (fun i=>[(3,.row 3 ((l.take i).map encD) false)]) (fun i=>i≤l.length) (fun i=>l.length - i) 0 (Nat.zero_le _) ?_
 conv=>whnf
 refine ⟨rfl,rfl,?_⟩
 conv=>whnf
 refine ⟨rfl,?_⟩
 intro i h1
 conv=>whnf
 refine ⟨fun hb=>?_,fun hb=>?_⟩
 ·have hi:i < l.length:=by simpa using hb
  clear hb
  have hs:(l.take (i+1)).map encD=(l.take i).map encD++[encD (l.getD i D0)]:=by rw [take_snoc l i D0 hi,List.map_append];rfl
  have hln:((l.take i).map encD).length=i:=by simp;omega
  generalize hR':(l.take (i+1)).map encD=R' at *
  generalize hR:(l.take i).map encD=R at *
  conv=>whnf
  rw [getD_enc _ _ (i) D0 hi]
  refine ⟨idxA hi rfl,?_⟩
  conv=>whnf
  refine ⟨⟨rfl,rfl,rfl,by rw [hln];simp;omega,fun e he=>by simp at he;subst he;rfl⟩,?_⟩
  conv=>whnf
  rw [wrap_succ i (by omega)]
  refine ⟨i+1,rfl,?_,?_,hi,by omega⟩
  ·rw [hR',hs];rfl
  ·rw [hR',hs];rfl
 ·have hi:i=l.length:=by have:=of_decide_eq_false hb;rw [e0] at this;omega
  clear hb
  rw [hi,List.take_length]
  conv=>whnf
  refine ⟨rfl,?_⟩
  rw [window_full]
  first|rfl|(show DV.list _=_;rfl)
theorem l_own (s:Sn) (hl:s.days.length < 1073741824):PC 19 [encS s] (encS s):=by
 have k1:PC 29 [dysV s.days] (dysV s.days):=l_given s.days hl
 refine pureCall_ofR dh19 rfl ?_
 conv=>whnf
 refine .inl ?_
 conv=>whnf
 refine ⟨_,k1 ..,?_⟩
 conv=>whnf
 refine ⟨by kernel_rfl,?_⟩
 conv=>whnf
 rfl
theorem l_ints (l:List Int) (hl:l.length < 1073741824):PC 20 [iL l] (iL l):=by
 refine pureCall_ofR dh20 rfl ?_
 conv=>whnf
 refine ⟨⟨by simp;omega,fun e he=>iD_ok l e he,fun e he=>by simp at he⟩,?_⟩
 conv=>whnf
 rfl
theorem r_Own (s:Sn) (hl:s.days.length < 1073741824):PC 82 [encS s] (encS s):=by
 refine pureCall_ofR dh82 rfl ?_
 conv=>whnf
 refine ⟨⟨by simp;omega,fun e he=>by obtain ⟨x,_,rfl⟩:=List.mem_map.1 he;rfl,fun e he=>by simp at he⟩,?_⟩
 conv=>whnf
 rfl
end Sh

namespace Sh
open Go
end Sh

set_option maxHeartbeats 2000000
namespace Sh
open Go Go.Proofs
theorem chkSW_yes {s:Sn} {ws:List Int} (h:chkSn s=0):chkSW s ws=chkWs s.days.length (-1) ws:=by unfold chkSW;rw [if_neg (by omega)]
end Sh

namespace Sh
open Go
end Sh

namespace Sh
open Go Go.Proofs
end Sh

namespace Sh
open Go
end Sh

namespace Sh
open Go Go.Proofs
end Sh

namespace Sh
open Go
def db12_0 : DC := (.seq (.ops false [⟨some 104,.bin .lss (.tmp 103) (.tmp 102),none,[]⟩]) (.seq (.cond (.tmp 104) .skip (.exit 2)) (.seq (.block 3 none (.seq (.ops false [⟨some 105,.mov (.tmp 103),none,[]⟩,⟨some 13,.mov (.tmp 105),none,[]⟩]) (.seq (.ops false [⟨some 106,.mov (.tmp 11),none,[]⟩,⟨some 107,.mov (.tmp 13),none,[]⟩,⟨some 108,.bin .shr (.tmp 106) (.tmp 107),none,[]⟩,⟨some 109,.bin .and (.tmp 108) (.const (.int .u16 1)),none,[]⟩,⟨some 110,.bin .eql (.tmp 109) (.const (.int .u16 1)),none,[]⟩]) (.cond (.tmp 110) (.ops false [⟨some 111,.mov (.tmp 12),none,[]⟩,⟨some 112,.mov (.tmp 13),none,[]⟩,⟨some 113,.lit true 1 1 (.int .i64 0) [(0,(.tmp 112))],none,[]⟩,⟨some 114,.append false 1 (.tmp 111) (.tmp 113),none,[]⟩,⟨some 12,.mov (.tmp 114),none,[]⟩]) .skip)))) (.ops false [⟨some 115,.bin .add (.tmp 103) (.const (.int .i64 1)),none,[]⟩,⟨some 103,.mov (.tmp 115),none,[]⟩]))))
def dk12_0 : Keep := ⟨[(12,1)],[2,3,5,6,11,12,94,95,96,102,103],[2,3,12,25,26,165,166,237]⟩
def db12_1 : DC := (.seq (.ops false [⟨some 97,.bin .lss (.tmp 96) (.tmp 95),none,[]⟩]) (.seq (.cond (.tmp 97) .skip (.exit 0)) (.seq (.block 1 (some ⟨[],[2,3,5,6,94,95,96],[2,3,25,26,165,166,237]⟩) (.seq (.ops false [⟨some 98,.iaddr 1 (.tmp 94) (.tmp 96),none,[]⟩,⟨some 99,.load none (.tmp 98),none,[]⟩,⟨some 11,.mov (.tmp 99),none,[]⟩]) (.seq (.ops false [⟨some 12,.mov (.const (.slice none 0 0)),none,[]⟩]) (.seq (.seq (.ops false [⟨some 100,.faddr 3 1 false (.tmp 2),none,[]⟩,⟨some 101,.load none (.tmp 100),none,[]⟩,⟨some 102,.len (.tmp 101),none,[]⟩,⟨some 103,.mov (.const (.int .i64 0)),none,[]⟩]) (.block 2 (some ⟨[],[2,3,5,6,12,94,95,96],[2,3,12,25,26,165,166,237]⟩) (.loop dk12_0 db12_0))) (.seq (.ops false [⟨some 117,.load (some 6) (.tmp 2),none,[]⟩,⟨some 118,.call (.func 19) [.tmp 117],none,[]⟩,⟨some 119,.mov (.tmp 12),none,[]⟩,⟨some 120,.call (.func 20) [.tmp 119],none,[]⟩,⟨some 121,.call (.func 22) [.tmp 118,.tmp 120],none,[]⟩,⟨some 116,.mov (.tmp 121),none,[]⟩,⟨some 122,.extract (.tmp 116) 0,none,[]⟩,⟨some 123,.extract (.tmp 116) 1,none,[]⟩,⟨some 14,.mov (.tmp 122),none,[]⟩,⟨some 15,.mov (.tmp 123),none,[]⟩]) (.seq (.ops false [⟨some 124,.mov (.tmp 15),none,[]⟩,⟨some 125,.bin .neq (.tmp 124) (.const (.int .i64 0)),none,[]⟩,⟨some 126,.mov (.tmp 125),none,[]⟩,⟨some 127,.mov (.tmp 14),some (126,false),[]⟩,⟨some 128,.mov (.tmp 6),some (126,false),[]⟩,⟨some 129,.bin .gtr (.tmp 127) (.tmp 128),some (126,false),[]⟩,⟨some 130,.pick (.tmp 126) (.const (.bool true)) (.tmp 129),none,[]⟩,⟨some 131,.mov (.tmp 130),none,[]⟩,⟨some 132,.mov (.tmp 14),some (131,false),[]⟩,⟨some 133,.mov (.tmp 6),some (131,false),[]⟩,⟨some 134,.bin .eql (.tmp 132) (.tmp 133),some (131,false),[]⟩,⟨some 135,.mov (.tmp 134),some (131,false),[]⟩,⟨some 136,.mov (.tmp 12),some (135,true),[]⟩,⟨some 137,.len (.tmp 136),some (135,true),[]⟩,⟨some 138,.mov (.tmp 5),some (135,true),[]⟩,⟨some 139,.len (.tmp 138),some (135,true),[]⟩,⟨some 140,.bin .lss (.tmp 137) (.tmp 139),some (135,true),[]⟩,⟨some 141,.pick (.tmp 135) (.tmp 140) (.const (.bool false)),some (131,false),[]⟩,⟨some 142,.pick (.tmp 131) (.const (.bool true)) (.tmp 141),none,[]⟩]) (.cond (.tmp 142) (.seq (.ops false [⟨some 4,.mov (.const (.bool false)),none,[]⟩]) .ret) .skip))))))) (.ops false [⟨some 143,.bin .add (.tmp 96) (.const (.int .i64 1)),none,[]⟩,⟨some 96,.mov (.tmp 143),none,[]⟩]))))
def dk12_1 : Keep := ⟨[],[2,3,5,6,94,95,96],[2,3,25,26,165,166,237]⟩
def db12_2 : DC := (.seq (.ops false [⟨some 154,.bin .lss (.tmp 153) (.tmp 152),none,[]⟩]) (.seq (.cond (.tmp 154) .skip (.exit 6)) (.seq (.block 7 none (.seq (.ops false [⟨some 155,.mov (.tmp 153),none,[]⟩,⟨some 18,.mov (.tmp 155),none,[]⟩]) (.seq (.ops false [⟨some 156,.mov (.tmp 5),none,[]⟩,⟨some 157,.mov (.tmp 18),none,[]⟩,⟨some 158,.call (.func 83) [.tmp 156,.tmp 157],none,[]⟩,⟨some 159,.mov (.tmp 18),none,[]⟩,⟨some 160,.mov (.tmp 16),none,[]⟩,⟨some 161,.bin .eql (.tmp 159) (.tmp 160),none,[]⟩,⟨some 162,.eqB true (.tmp 158) (.tmp 161),none,[]⟩]) (.cond (.tmp 162) (.ops false [⟨some 163,.mov (.tmp 17),none,[]⟩,⟨some 164,.mov (.tmp 18),none,[]⟩,⟨some 165,.lit true 1 1 (.int .i64 0) [(0,(.tmp 164))],none,[]⟩,⟨some 166,.append false 1 (.tmp 163) (.tmp 165),none,[]⟩,⟨some 17,.mov (.tmp 166),none,[]⟩]) .skip)))) (.ops false [⟨some 167,.bin .add (.tmp 153) (.const (.int .i64 1)),none,[]⟩,⟨some 153,.mov (.tmp 167),none,[]⟩]))))
def dk12_2 : Keep := ⟨[(17,1)],[2,3,5,6,16,17,146,147,152,153],[2,3,17,25,26,113,114,237]⟩
def db12_3 : DC := (.seq (.ops false [⟨some 148,.bin .lss (.tmp 147) (.tmp 146),none,[]⟩]) (.seq (.cond (.tmp 148) .skip (.exit 4)) (.seq (.block 5 (some ⟨[],[2,3,5,6,146,147],[2,3,25,26,113,114,237]⟩) (.seq (.ops false [⟨some 149,.mov (.tmp 147),none,[]⟩,⟨some 16,.mov (.tmp 149),none,[]⟩]) (.seq (.ops false [⟨some 17,.mov (.const (.slice none 0 0)),none,[]⟩]) (.seq (.seq (.ops false [⟨some 150,.faddr 3 1 false (.tmp 2),none,[]⟩,⟨some 151,.load none (.tmp 150),none,[]⟩,⟨some 152,.len (.tmp 151),none,[]⟩,⟨some 153,.mov (.const (.int .i64 0)),none,[]⟩]) (.block 6 (some ⟨[],[2,3,5,6,17,146,147],[2,3,17,25,26,113,114,237]⟩) (.loop dk12_2 db12_2))) (.seq (.ops false [⟨some 169,.load (some 6) (.tmp 2),none,[]⟩,⟨some 170,.call (.func 19) [.tmp 169],none,[]⟩,⟨some 171,.mov (.tmp 17),none,[]⟩,⟨some 172,.call (.func 22) [.tmp 170,.tmp 171],none,[]⟩,⟨some 168,.mov (.tmp 172),none,[]⟩,⟨some 173,.extract (.tmp 168) 0,none,[]⟩,⟨some 174,.extract (.tmp 168) 1,none,[]⟩,⟨some 19,.mov (.tmp 173),none,[]⟩,⟨some 20,.mov (.tmp 174),none,[]⟩]) (.seq (.ops false [⟨some 175,.mov (.tmp 20),none,[]⟩,⟨some 176,.bin .neq (.tmp 175) (.const (.int .i64 0)),none,[]⟩,⟨some 177,.mov (.tmp 176),none,[]⟩,⟨some 178,.mov (.tmp 19),some (177,false),[]⟩,⟨some 179,.mov (.tmp 6),some (177,false),[]⟩,⟨some 180,.bin .gtr (.tmp 178) (.tmp 179),some (177,false),[]⟩,⟨some 181,.pick (.tmp 177) (.const (.bool true)) (.tmp 180),none,[]⟩,⟨some 182,.mov (.tmp 181),none,[]⟩,⟨some 183,.mov (.tmp 19),some (182,false),[]⟩,⟨some 184,.mov (.tmp 6),some (182,false),[]⟩,⟨some 185,.bin .eql (.tmp 183) (.tmp 184),some (182,false),[]⟩,⟨some 186,.mov (.tmp 185),some (182,false),[]⟩,⟨some 187,.mov (.tmp 17),some (186,true),[]⟩,⟨some 188,.len (.tmp 187),some (186,true),[]⟩,⟨some 189,.mov (.tmp 5),some (186,true),[]⟩,⟨some 190,.len (.tmp 189),some (186,true),[]⟩,⟨some 191,.bin .lss (.tmp 188) (.tmp 190),some (186,true),[]⟩,⟨some 192,.pick (.tmp 186) (.tmp 191) (.const (.bool false)),some (182,false),[]⟩,⟨some 193,.pick (.tmp 182) (.const (.bool true)) (.tmp 192),none,[]⟩]) (.cond (.tmp 193) (.seq (.ops false [⟨some 4,.mov (.const (.bool false)),none,[]⟩]) .ret) .skip))))))) (.ops false [⟨some 194,.bin .add (.tmp 147) (.const (.int .i64 1)),none,[]⟩,⟨some 147,.mov (.tmp 194),none,[]⟩]))))
def dk12_3 : Keep := ⟨[],[2,3,5,6,146,147],[2,3,25,26,113,114,237]⟩
def dc12 : DFunc := ⟨306,2,[.tmp 4],.seq (.ops false [⟨some 2,.boxI 6 (.tmp 0),none,[]⟩,⟨some 3,.boxI 3 (.tmp 1),none,[]⟩,⟨some 4,.mov (.const (.bool false)),none,[]⟩]) (.seq (.seq (.ops false [⟨some 33,.load (some 6) (.tmp 2),none,[]⟩,⟨some 34,.call (.func 15) [.tmp 33],none,[]⟩,⟨some 35,.un .not (.tmp 34),none,[]⟩,⟨some 36,.mov (.tmp 35),none,[]⟩,⟨some 37,.faddr 3 1 false (.tmp 2),some (36,false),[]⟩,⟨some 38,.load none (.tmp 37),some (36,false),[]⟩,⟨some 39,.len (.tmp 38),some (36,false),[]⟩,⟨some 40,.bin .gtr (.tmp 39) (.const (.int .i64 12)),some (36,false),[]⟩,⟨some 41,.pick (.tmp 36) (.const (.bool true)) (.tmp 40),none,[]⟩,⟨some 42,.mov (.tmp 41),none,[]⟩,⟨some 43,.load (some 6) (.tmp 2),some (42,false),[]⟩,⟨some 44,.call (.func 23) [.tmp 43],some (42,false),[]⟩,⟨some 45,.bin .neq (.tmp 44) (.const (.int .i64 0)),some (42,false),[]⟩,⟨some 46,.pick (.tmp 42) (.const (.bool true)) (.tmp 45),none,[]⟩]) (.cond (.tmp 46) (.seq (.ops false [⟨some 47,.call (.func 17) [],none,[]⟩,⟨some 4,.mov (.tmp 47),none,[]⟩]) .ret) .skip)) (.seq (.ops false [⟨some 49,.load (some 6) (.tmp 2),none,[]⟩,⟨some 50,.call (.func 19) [.tmp 49],none,[]⟩,⟨some 51,.call (.func 37) [.tmp 50],none,[]⟩,⟨some 48,.mov (.tmp 51),none,[]⟩,⟨some 52,.extract (.tmp 48) 0,none,[]⟩,⟨some 53,.extract (.tmp 48) 1,none,[]⟩,⟨some 54,.extract (.tmp 48) 2,none,[]⟩,⟨some 5,.mov (.tmp 52),none,[]⟩,⟨some 6,.mov (.tmp 53),none,[]⟩,⟨some 7,.mov (.tmp 54),none,[]⟩]) (.seq (.seq (.ops false [⟨some 55,.mov (.tmp 7),none,[]⟩,⟨some 56,.bin .neq (.tmp 55) (.const (.int .i64 0)),none,[]⟩,⟨some 57,.mov (.tmp 56),none,[]⟩,⟨some 58,.mov (.tmp 5),some (57,false),[]⟩,⟨some 59,.len (.tmp 58),some (57,false),[]⟩,⟨some 60,.faddr 3 1 false (.tmp 2),some (57,false),[]⟩,⟨some 61,.load none (.tmp 60),some (57,false),[]⟩,⟨some 62,.len (.tmp 61),some (57,false),[]⟩,⟨some 63,.bin .gtr (.tmp 59) (.tmp 62),some (57,false),[]⟩,⟨some 64,.pick (.tmp 57) (.const (.bool true)) (.tmp 63),none,[]⟩,⟨some 65,.mov (.tmp 64),none,[]⟩,⟨some 66,.load (some 6) (.tmp 2),some (65,false),[]⟩,⟨some 67,.mov (.tmp 5),some (65,false),[]⟩,⟨some 68,.call (.func 24) [.tmp 66,.tmp 67],some (65,false),[]⟩,⟨some 69,.bin .neq (.tmp 68) (.const (.int .i64 0)),some (65,false),[]⟩,⟨some 70,.pick (.tmp 65) (.const (.bool true)) (.tmp 69),none,[]⟩,⟨some 71,.mov (.tmp 70),none,[]⟩,⟨some 72,.mov (.tmp 6),some (71,false),[]⟩,⟨some 73,.bin .lss (.tmp 72) (.const (.int .i64 (-100000000000))),some (71,false),[]⟩,⟨some 74,.pick (.tmp 71) (.const (.bool true)) (.tmp 73),none,[]⟩,⟨some 75,.mov (.tmp 74),none,[]⟩,⟨some 76,.mov (.tmp 6),some (75,false),[]⟩,⟨some 77,.bin .gtr (.tmp 76) (.const (.int .i64 100000000000)),some (75,false),[]⟩,⟨some 78,.pick (.tmp 75) (.const (.bool true)) (.tmp 77),none,[]⟩]) (.cond (.tmp 78) (.seq (.ops false [⟨some 4,.mov (.const (.bool false)),none,[]⟩]) .ret) .skip)) (.seq (.ops false [⟨some 80,.load (some 6) (.tmp 2),none,[]⟩,⟨some 81,.call (.func 19) [.tmp 80],none,[]⟩,⟨some 82,.mov (.tmp 5),none,[]⟩,⟨some 83,.call (.func 20) [.tmp 82],none,[]⟩,⟨some 84,.call (.func 22) [.tmp 81,.tmp 83],none,[]⟩,⟨some 79,.mov (.tmp 84),none,[]⟩,⟨some 85,.extract (.tmp 79) 0,none,[]⟩,⟨some 86,.extract (.tmp 79) 1,none,[]⟩,⟨some 8,.mov (.tmp 85),none,[]⟩,⟨some 9,.mov (.tmp 86),none,[]⟩]) (.seq (.seq (.ops false [⟨some 87,.mov (.tmp 9),none,[]⟩,⟨some 88,.bin .neq (.tmp 87) (.const (.int .i64 0)),none,[]⟩,⟨some 89,.mov (.tmp 88),none,[]⟩,⟨some 90,.mov (.tmp 8),some (89,false),[]⟩,⟨some 91,.mov (.tmp 6),some (89,false),[]⟩,⟨some 92,.bin .neq (.tmp 90) (.tmp 91),some (89,false),[]⟩,⟨some 93,.pick (.tmp 89) (.const (.bool true)) (.tmp 92),none,[]⟩]) (.cond (.tmp 93) (.seq (.ops false [⟨some 4,.mov (.const (.bool false)),none,[]⟩]) .ret) .skip)) (.seq (.seq (.ops false [⟨some 94,.sliceH 3 1 false (.tmp 3) (.const (.int .i64 2)),none,[]⟩,⟨some 95,.len (.tmp 94),none,[]⟩,⟨some 96,.mov (.const (.int .i64 0)),none,[]⟩]) (.block 0 (some ⟨[],[2,3,5,6],[2,3,25,26,165,166,237]⟩) (.loop dk12_1 db12_1))) (.seq (.seq (.ops false [⟨some 144,.faddr 3 1 false (.tmp 2),none,[]⟩,⟨some 145,.load none (.tmp 144),none,[]⟩,⟨some 146,.len (.tmp 145),none,[]⟩,⟨some 147,.mov (.const (.int .i64 0)),none,[]⟩]) (.block 4 (some ⟨[],[2,3,6],[2,3,25,26,113,114,237]⟩) (.loop dk12_3 db12_3))) (.seq (.ops false [⟨some 196,.load (some 6) (.tmp 2),none,[]⟩,⟨some 197,.call (.func 19) [.tmp 196],none,[]⟩,⟨some 198,.call (.func 39) [.tmp 197],none,[]⟩,⟨some 195,.mov (.tmp 198),none,[]⟩,⟨some 199,.extract (.tmp 195) 0,none,[]⟩,⟨some 200,.extract (.tmp 195) 1,none,[]⟩,⟨some 21,.mov (.tmp 199),none,[]⟩,⟨some 22,.mov (.tmp 200),none,[]⟩]) (.seq (.seq (.ops false [⟨some 201,.mov (.tmp 22),none,[]⟩,⟨some 202,.bin .neq (.tmp 201) (.const (.int .i64 0)),none,[]⟩,⟨some 203,.mov (.tmp 202),none,[]⟩,⟨some 204,.load (some 6) (.tmp 2),some (203,false),[]⟩,⟨some 205,.mov (.tmp 21),some (203,false),[]⟩,⟨some 206,.call (.func 41) [.tmp 204,.tmp 205],some (203,false),[]⟩,⟨some 207,.bin .neq (.tmp 206) (.const (.int .i64 0)),some (203,false),[]⟩,⟨some 208,.pick (.tmp 203) (.const (.bool true)) (.tmp 207),none,[]⟩]) (.cond (.tmp 208) (.seq (.ops false [⟨some 4,.mov (.const (.bool false)),none,[]⟩]) .ret) .skip)) (.seq (.seq (.ops false [⟨some 209,.load (some 6) (.tmp 2),none,[]⟩,⟨some 210,.call (.func 19) [.tmp 209],none,[]⟩,⟨some 211,.mov (.tmp 21),none,[]⟩,⟨some 212,.call (.func 20) [.tmp 211],none,[]⟩,⟨some 213,.mov (.tmp 6),none,[]⟩,⟨some 214,.call (.func 43) [.tmp 210,.tmp 212,.tmp 213],none,[]⟩,⟨some 215,.bin .neq (.tmp 214) (.const (.int .i64 0)),none,[]⟩,⟨some 216,.mov (.tmp 215),none,[]⟩,⟨some 217,.load (some 6) (.tmp 2),some (216,false),[]⟩,⟨some 218,.call (.func 19) [.tmp 217],some (216,false),[]⟩,⟨some 219,.mov (.tmp 21),some (216,false),[]⟩,⟨some 220,.call (.func 20) [.tmp 219],some (216,false),[]⟩,⟨some 221,.mov (.tmp 6),some (216,false),[]⟩,⟨some 222,.bin .add (.tmp 221) (.const (.int .i64 1)),some (216,false),[]⟩,⟨some 223,.call (.func 43) [.tmp 218,.tmp 220,.tmp 222],some (216,false),[]⟩,⟨some 224,.bin .neq (.tmp 223) (.const (.int .i64 0)),some (216,false),[]⟩,⟨some 225,.pick (.tmp 216) (.const (.bool true)) (.tmp 224),none,[]⟩,⟨some 226,.mov (.tmp 225),none,[]⟩,⟨some 227,.load (some 6) (.tmp 2),some (226,false),[]⟩,⟨some 228,.call (.func 19) [.tmp 227],some (226,false),[]⟩,⟨some 229,.mov (.tmp 21),some (226,false),[]⟩,⟨some 230,.call (.func 20) [.tmp 229],some (226,false),[]⟩,⟨some 231,.mov (.tmp 6),some (226,false),[]⟩,⟨some 232,.bin .sub (.tmp 231) (.const (.int .i64 1)),some (226,false),[]⟩,⟨some 233,.call (.func 43) [.tmp 228,.tmp 230,.tmp 232],some (226,false),[]⟩,⟨some 234,.bin .neq (.tmp 233) (.const (.int .i64 19)),some (226,false),[]⟩,⟨some 235,.pick (.tmp 226) (.const (.bool true)) (.tmp 234),none,[]⟩]) (.cond (.tmp 235) (.seq (.ops false [⟨some 4,.mov (.const (.bool false)),none,[]⟩]) .ret) .skip)) (.seq (.ops false [⟨some 236,.mov (.tmp 21),none,[]⟩,⟨some 237,.call (.func 20) [.tmp 236],none,[]⟩,⟨some 23,.mov (.tmp 237),none,[]⟩]) (.seq (.ops false [⟨some 238,.iaddrA 3 1 false (.tmp 3) (.const (.int .i64 0)),none,[]⟩,⟨some 239,.load none (.tmp 238),none,[]⟩,⟨some 240,.conv .i64 (.tmp 239),none,[]⟩,⟨some 241,.mov (.tmp 23),none,[]⟩,⟨some 242,.len (.tmp 241),none,[]⟩,⟨some 243,.bin .rem (.tmp 240) (.tmp 242),none,[]⟩,⟨some 24,.mov (.tmp 243),none,[]⟩]) (.seq (.ops false [⟨some 244,.mov (.tmp 23),none,[]⟩,⟨some 245,.mov (.tmp 24),none,[]⟩,⟨some 246,.iaddr 1 (.tmp 244) (.tmp 245),none,[]⟩,⟨some 247,.load none (.tmp 246),none,[]⟩,⟨some 248,.bin .sub (.tmp 247) (.const (.int .i64 1)),none,[]⟩,⟨some 249,.iaddr 1 (.tmp 244) (.tmp 245),none,[]⟩,⟨none,.store 1 (.tmp 249) (.tmp 248),none,[]⟩]) (.seq (.seq (.ops false [⟨some 250,.load (some 6) (.tmp 2),none,[]⟩,⟨some 251,.call (.func 19) [.tmp 250],none,[]⟩,⟨some 252,.mov (.tmp 23),none,[]⟩,⟨some 253,.mov (.tmp 6),none,[]⟩,⟨some 254,.bin .add (.tmp 253) (.const (.int .i64 1000)),none,[]⟩,⟨some 255,.call (.func 43) [.tmp 251,.tmp 252,.tmp 254],none,[]⟩,⟨some 256,.bin .neq (.tmp 255) (.const (.int .i64 19)),none,[]⟩]) (.cond (.tmp 256) (.seq (.ops false [⟨some 4,.mov (.const (.bool false)),none,[]⟩]) .ret) .skip)) (.seq (.ops false [⟨some 257,.load (some 6) (.tmp 2),none,[]⟩,⟨some 258,.call (.func 82) [.tmp 257],none,[]⟩,⟨some 25,.alloc (.agg [.int .i64 0,.int .i64 0,.int .i64 0,.full [],.int .i64 0,.int .i64 0]) 6,none,[]⟩,⟨none,.store 6 (.tmp 25) (.tmp 258),none,[]⟩]) (.seq (.ops false [⟨some 259,.faddr 5 1 false (.tmp 2),none,[]⟩,⟨some 260,.load none (.tmp 259),none,[]⟩,⟨some 261,.iaddrA 3 1 false (.tmp 3) (.const (.int .i64 2)),none,[]⟩,⟨some 262,.load none (.tmp 261),none,[]⟩,⟨some 263,.conv .i64 (.tmp 262),none,[]⟩,⟨some 264,.bin .add (.tmp 260) (.tmp 263),none,[]⟩,⟨some 265,.minmax false (.const (.int .i64 1000000)) [.tmp 264],none,[]⟩,⟨some 266,.faddr 5 1 false (.tmp 25),none,[]⟩,⟨none,.store 1 (.tmp 266) (.tmp 265),none,[]⟩]) (.seq (.ops false [⟨some 267,.load (some 6) (.tmp 2),none,[]⟩,⟨some 268,.call (.func 82) [.tmp 267],none,[]⟩,⟨some 26,.alloc (.agg [.int .i64 0,.int .i64 0,.int .i64 0,.full [],.int .i64 0,.int .i64 0]) 6,none,[]⟩,⟨none,.store 6 (.tmp 26) (.tmp 268),none,[]⟩]) (.seq (.ops false [⟨some 269,.faddr 4 1 false (.tmp 2),none,[]⟩,⟨some 270,.load none (.tmp 269),none,[]⟩,⟨some 271,.bin .quo (.tmp 270) (.const (.int .i64 2)),none,[]⟩,⟨some 272,.faddr 4 1 false (.tmp 26),none,[]⟩,⟨none,.store 1 (.tmp 272) (.tmp 271),none,[]⟩]) (.seq (.ops false [⟨some 274,.load (some 6) (.tmp 25),none,[]⟩,⟨some 275,.call (.func 19) [.tmp 274],none,[]⟩,⟨some 276,.call (.func 37) [.tmp 275],none,[]⟩,⟨some 273,.mov (.tmp 276),none,[]⟩,⟨some 277,.extract (.tmp 273) 0,none,[]⟩,⟨some 278,.extract (.tmp 273) 1,none,[]⟩,⟨some 279,.extract (.tmp 273) 2,none,[]⟩,⟨some 27,.mov (.tmp 277),none,[]⟩,⟨some 28,.mov (.tmp 278),none,[]⟩,⟨some 29,.mov (.tmp 279),none,[]⟩]) (.seq (.ops false [⟨some 281,.load (some 6) (.tmp 26),none,[]⟩,⟨some 282,.call (.func 19) [.tmp 281],none,[]⟩,⟨some 283,.call (.func 37) [.tmp 282],none,[]⟩,⟨some 280,.mov (.tmp 283),none,[]⟩,⟨some 284,.extract (.tmp 280) 0,none,[]⟩,⟨some 285,.extract (.tmp 280) 1,none,[]⟩,⟨some 286,.extract (.tmp 280) 2,none,[]⟩,⟨some 30,.mov (.tmp 284),none,[]⟩,⟨some 31,.mov (.tmp 285),none,[]⟩,⟨some 32,.mov (.tmp 286),none,[]⟩]) (.seq (.ops false [⟨some 287,.mov (.tmp 29),none,[]⟩,⟨some 288,.bin .eql (.tmp 287) (.const (.int .i64 0)),none,[]⟩,⟨some 289,.mov (.tmp 288),none,[]⟩,⟨some 290,.mov (.tmp 32),some (289,true),[]⟩,⟨some 291,.bin .eql (.tmp 290) (.const (.int .i64 0)),some (289,true),[]⟩,⟨some 292,.pick (.tmp 289) (.tmp 291) (.const (.bool false)),none,[]⟩,⟨some 293,.mov (.tmp 292),none,[]⟩,⟨some 294,.mov (.tmp 28),some (293,true),[]⟩,⟨some 295,.mov (.tmp 6),some (293,true),[]⟩,⟨some 296,.bin .leq (.tmp 294) (.tmp 295),some (293,true),[]⟩,⟨some 297,.pick (.tmp 293) (.tmp 296) (.const (.bool false)),none,[]⟩,⟨some 298,.mov (.tmp 297),none,[]⟩,⟨some 299,.mov (.tmp 31),some (298,true),[]⟩,⟨some 300,.mov (.tmp 6),some (298,true),[]⟩,⟨some 301,.bin .leq (.tmp 299) (.tmp 300),some (298,true),[]⟩,⟨some 302,.pick (.tmp 298) (.tmp 301) (.const (.bool false)),none,[]⟩,⟨some 303,.mov (.tmp 302),none,[]⟩,⟨some 304,.call (.func 17) [],some (303,true),[]⟩,⟨some 305,.pick (.tmp 303) (.tmp 304) (.const (.bool false)),none,[]⟩,⟨some 4,.mov (.tmp 305),none,[]⟩]) .ret)))))))))))))))))))))⟩
theorem dh12:cProg Go.Proofs.Tryz.prog ⟨[(0,⟨[],[2,3,5,6,94,95,96],[2,3,25,26,165,166,237]⟩),(2,⟨[(12,1)],[2,3,5,6,11,12,94,95,96,102,103],[2,3,12,25,26,165,166,237]⟩),(4,⟨[],[2,3,5,6,146,147],[2,3,25,26,113,114,237]⟩),(6,⟨[(17,1)],[2,3,5,6,16,17,146,147,152,153],[2,3,17,25,26,113,114,237]⟩)],[(2,⟨[],[2,3,5,6,12,94,95,96],[2,3,12,25,26,165,166,237]⟩),(1,⟨[],[2,3,5,6,94,95,96],[2,3,25,26,165,166,237]⟩),(0,⟨[],[2,3,5,6],[2,3,25,26,165,166,237]⟩),(6,⟨[],[2,3,5,6,17,146,147],[2,3,17,25,26,113,114,237]⟩),(5,⟨[],[2,3,5,6,146,147],[2,3,25,26,113,114,237]⟩),(4,⟨[],[2,3,6],[2,3,25,26,113,114,237]⟩)],[2,3,113,165]⟩ 12=some dc12:=by kernel_rfl
end Sh

namespace Sh
open Go Go.Proofs
end Sh

namespace Sh
open Go Go.Proofs
def dcOwnN:DFunc:=⟨6,1,[(.tmp 2)],(.seq (.ops false [⟨(some 2),(.mov (.const (.slice none 0 0))),none,[]⟩]) (.seq (.ops false [⟨(some 3),(.lit false 1 0 (.int .i64 0) []),none,[]⟩,⟨(some 4),(.mov (.tmp 0)),none,[]⟩,⟨(some 5),(.append false 1 (.tmp 3) (.tmp 4)),none,[]⟩,⟨(some 2),(.mov (.tmp 5)),none,[]⟩]) .ret))⟩
theorem dhOwnN:cProg Go.Proofs.Tryz.prog ⟨[],[],[]⟩ 20=some dcOwnN:=by kernel_rfl
theorem h_ints (l:List Int) (hl:l.length < 1073741824):HCall Tryz.prog GC 20 [iL l] [] (.own 3 0 (iD l).length (iD l).length) [(3,.row 1 (iD l) false)]:=by
 refine hCall_ofR dhOwnN rfl (by kernel_rfl) (by kernel_rfl) ?_
 conv=>whnf
 refine ⟨⟨rfl,rfl,rfl,by simp;omega,fun e he=>iD_ok l e he⟩,?_⟩
 conv=>whnf
 exact ⟨rfl,rfl⟩
end Sh

namespace Sh
open Go
theorem bitsF_inc (b:Nat):∀ n:Nat,Inc n (-1) (bitsF b n)
 |0=>trivial
 |n+1=>by
  rw [bitsF_succ]
  split
  ·exact inc_append (bitsF_inc b n) (by omega)
  ·exact inc_up (bitsF_inc b n)
theorem chkWs_of_inc {n:Nat}:∀ {l:List Int} {lo:Int},Inc n lo l → -1≤lo→chkWs n lo l=0
 |[],_,_,_=>rfl
 |x :: r,lo,h,h0=>by
  have h1:=h.1
  have h2:=h.2.1
  unfold chkWs
  rw [if_neg (by omega),if_neg (by omega)]
  exact chkWs_of_inc h.2.2 (by omega)
end Sh

namespace Sh
open Go
theorem firstE_all:∀ {l:List Int},(∀ x ∈ l,x=0)→firstE l=0
 |[],_=>rfl
 |x :: r,h=>by
  unfold firstE
  rw [h x (List.mem_cons_self ..),if_neg (by decide)]
  exact firstE_all fun y hy=>h y (List.mem_cons_of_mem _ hy)
theorem withE_ok {n a b:Int} (h1:a≤n) (h2:n≤b):withE n a b=0:=by unfold withE;rw [if_neg (by omega)]
theorem chkSn_ok {s:Sn} (h:OkSn s):chkSn s=0:=by
 refine firstE_all fun x hx=>?_
 have hd:chkDs s.days=0:=by
  have n0:=h.n0
  have n1:=h.n1
  refine firstE_all fun x hx=>?_
  simp only [List.mem_cons,List.not_mem_nil,or_false] at hx
  rcases hx with rfl|rfl|rfl
  ·rw [decide_eq_false (by omega)];rfl
  ·rw [decide_eq_false (by omega)];rfl
  ·refine firstE_all fun x hx=>?_
   obtain ⟨d,hd,rfl⟩:=List.mem_map.1 hx
   have:=h.ds d hd
   refine firstE_all fun x hx=>?_
   simp only [List.mem_cons,List.not_mem_nil,or_false] at hx
   rcases hx with rfl|rfl|rfl
   ·exact withE_ok this.d0 this.d1
   ·exact withE_ok this.r0 this.r1
   ·exact withE_ok this.l0 this.l1
 simp only [List.mem_cons,List.not_mem_nil,or_false] at hx
 rcases hx with rfl|rfl|rfl|rfl|rfl|rfl
 ·exact withE_ok h.e0 h.e1
 ·exact withE_ok h.l0 h.l1
 ·exact withE_ok h.s0 h.s1
 ·exact hd
 ·exact withE_ok h.p0 h.p1
 ·exact withE_ok h.c0 h.c1
end Sh

namespace Sh
open Go
def pickS (p:Nat→Bool) (n:Nat):List Int:=((List.range n).filter p).map fun (j:Nat)=>(j:Int)
theorem pickS_succ (p:Nat→Bool) (i:Nat):pickS p (i+1)=if p i=true then pickS p i++[(i:Int)] else pickS p i:=by
 unfold pickS
 rw [List.range_succ,List.filter_append]
 by_cases h:p i=true
 ·rw [if_pos h,List.filter_cons_of_pos h];simp
 ·rw [if_neg h,List.filter_cons_of_neg h];simp
theorem pickS_inc (p:Nat→Bool):∀ n:Nat,Inc n (-1) (pickS p n)
 |0=>trivial
 |n+1=>by
  rw [pickS_succ]
  split
  ·exact inc_append (pickS_inc p n) (by omega)
  ·exact inc_up (pickS_inc p n)
theorem pickS_len (p:Nat→Bool) (i:Nat):(pickS p i).length≤i:=by
 unfold pickS;rw [List.length_map];exact Nat.le_trans (List.length_filter_le _ _) (by simp)
theorem plan_other (s:Sn) {ws:List Int} (h:Inc s.days.length (-1) ws):¬ (plannedS s).worth < worthS s ws∧(worthS s ws=(plannedS s).worth→¬ ws.length < (plannedS s).idx.length):=by
 have h1:=(planned_best s).2 ws h
 rw [leP_iff] at h1
 have e1:(planW s ws).worth=worthS s ws:=rfl
 have e2:(planW s ws).idx=ws:=rfl
 rw [e1,e2] at h1
 omega
theorem plan_self (s:Sn):Inc s.days.length (-1) (plannedS s).idx∧worthS s (plannedS s).idx=(plannedS s).worth:=by
 obtain ⟨⟨ws,h1,h2⟩,_⟩:=planned_best s
 rw [h2]
 exact ⟨h1,rfl⟩
theorem yld_sum_nn {s:Sn} (h:OkSn s) (ws:List Int):0≤sumI (yldS s ws)∧sumI (yldS s ws)≤s.days.length * 100000:=by
 have:=sumI_bd (l:=yldS s ws) (A:=0) (B:=100000) (yldS_bd h ws)
 rw [yldS_len] at this
 omega
theorem worth_bd {s:Sn} (h:OkSn s) (h12:s.days.length≤12) {ws:List Int} (hw:ws.length≤12) : -12000000≤worthS s ws∧worthS s ws≤1200000000:=by
 have h1:=yld_sum_nn h ws
 have h2:=Int.mul_nonneg h.p0 h1.1
 have h3:s.price * sumI (yldS s ws)≤1000 * 1200000:=Int.mul_le_mul h.p1 (by omega) h1.1 (by decide)
 have h4:0≤s.cost * (ws.length:Int):=Int.mul_nonneg h.c0 (by omega)
 have h5:s.cost * (ws.length:Int)≤1000000 * 12:=Int.mul_le_mul h.c1 (by omega) (by omega) (by decide)
 unfold worthS
 omega
def dearS (s:Sn) (x:Int):Sn:=⟨s.enough,s.left,s.soil,s.days,s.price,x⟩
def cheapS (s:Sn) (x:Int):Sn:=⟨s.enough,s.left,s.soil,s.days,x,s.cost⟩
theorem soilF_dear (s:Sn) (x:Int) (ws:List Int):∀ (l:List Dy) (i:Nat) (so:Int),soilF (dearS s x) ws i so l=soilF s ws i so l
 |[],_,_=>rfl
 |d :: r,i,so=>by
  unfold soilF
  rw [soilF_dear s x ws r];rfl
theorem soilF_cheap (s:Sn) (x:Int) (ws:List Int):∀ (l:List Dy) (i:Nat) (so:Int),soilF (cheapS s x) ws i so l=soilF s ws i so l
 |[],_,_=>rfl
 |d :: r,i,so=>by
  unfold soilF
  rw [soilF_cheap s x ws r];rfl
theorem yld_dear (s:Sn) (x:Int) (ws:List Int):yldS (dearS s x) ws=yldS s ws:=by
 show List.zipWith lgtS s.days (soilF (dearS s x) ws 0 s.soil s.days)=_
 rw [soilF_dear];rfl
theorem yld_cheap (s:Sn) (x:Int) (ws:List Int):yldS (cheapS s x) ws=yldS s ws:=by
 show List.zipWith lgtS s.days (soilF (cheapS s x) ws 0 s.soil s.days)=_
 rw [soilF_cheap];rfl
theorem plan_dear (s:Sn) {x:Int} (h:s.cost≤x):(plannedS (dearS s x)).worth≤(plannedS s).worth:=by
 obtain ⟨h1,h2⟩:=plan_self (dearS s x)
 generalize (plannedS (dearS s x)).idx=ws at *
 have h1:Inc s.days.length (-1) ws:=h1
 have h3:=(plan_other s h1).1
 have h4:worthS (dearS s x) ws=s.price * sumI (yldS s ws) - x * ws.length:=by
  show s.price * sumI (yldS (dearS s x) ws) - x * ws.length=_
  rw [yld_dear]
 have h5:s.cost * (ws.length:Int)≤x * (ws.length:Int):=Int.mul_le_mul_of_nonneg_right h (by omega)
 unfold worthS at h3
 omega
theorem plan_cheap {s:Sn} (hs:OkSn s) {x:Int} (h:x≤s.price):(plannedS (cheapS s x)).worth≤(plannedS s).worth:=by
 obtain ⟨h1,h2⟩:=plan_self (cheapS s x)
 generalize (plannedS (cheapS s x)).idx=ws at *
 have h1:Inc s.days.length (-1) ws:=h1
 have h3:=(plan_other s h1).1
 have h4:worthS (cheapS s x) ws=x * sumI (yldS s ws) - s.cost * ws.length:=by
  show x * sumI (yldS (cheapS s x) ws) - s.cost * ws.length=_
  rw [yld_cheap]
 have h5:x * sumI (yldS s ws)≤s.price * sumI (yldS s ws):=Int.mul_le_mul_of_nonneg_right h (yld_sum_nn hs ws).1
 unfold worthS at h3
 omega
theorem tab_get (s:Sn) (i:Nat) (h:i≤s.days.length):(tableS s).getD i 0=(planA s i).worth:=by
 rw [← rowT_all,rowT_get s 0 i h,if_pos (Nat.zero_le _)]
theorem tab_len (s:Sn):(tableS s).length=s.days.length+1:=by rw [← rowT_all,rowT_len]
theorem cand_le (s:Sn) (d k:Nat) (hd:d < s.days.length) (hk:k < s.days.length - d):candW s d k≤(planA s d).worth:=by
 rw [planA_best s d hd,candP_eq]
 have hm:candA s d (plansF s (s.days.length - (d+1))) k ∈ rng (s.days.length - d) (candA s d (plansF s (s.days.length - (d+1)))):=List.mem_map.2 ⟨k,List.mem_range.2 hk,rfl⟩
 have:=bestP_worth _ hm
 have e:(candA s d (plansF s (s.days.length - (d+1))) k).worth=candW s d k:=by
  unfold candW
  rw [← plansF_at s d k (by omega)];rfl
 omega
theorem cand_eq (s:Sn) (d:Nat) (hd:d < s.days.length):∃ k,k < s.days.length - d∧(planA s d).worth=candW s d k:=by
 rw [planA_best s d hd,candP_eq]
 have hne:rng (s.days.length - d) (candA s d (plansF s (s.days.length - (d+1))))≠[]:=by
  intro e
  have:=congrArg List.length e
  rw [rng_len] at this
  simp at this;omega
 obtain ⟨k,hk,e⟩:=List.mem_map.1 (bestP_mem hne)
 have hk:=List.mem_range.1 hk
 refine ⟨k,hk,?_⟩
 have e2:bestP (rng (s.days.length - d) (candA s d (plansF s (s.days.length - (d+1)))))=candA s d (plansF s (s.days.length - (d+1))) k:=e.symm
 rw [e2]
 unfold candW
 rw [← plansF_at s d k (by omega)];rfl
theorem head_get (s:Sn) (t:Nat) (h:t≤s.days.length):(⟨if t < s.days.length then ((plansS s).getD t P00).idx else [],s.price * sunS s s.soil 0 t+(planA s t).worth⟩:Pl) ∈ headC s++[⟨[],s.price * sumI (lightF s s.soil s.days)⟩]:=by
 by_cases ht:t < s.days.length
 ·rw [if_pos ht]
  refine List.mem_append_left _ (List.mem_map.2 ⟨t,List.mem_range.2 ht,?_⟩)
  rw [plansS_at s t h]
  rfl
 ·rw [if_neg ht]
  have e:t=s.days.length:=by omega
  subst e
  refine List.mem_append_right _ ?_
  rw [planA_last]
  have:sunS s s.soil 0 s.days.length=sumI (lightF s s.soil s.days):=by
   unfold sunS
   rw [List.drop_zero,List.take_of_length_le (by rw [lightF_len];exact Nat.le_refl _)]
  rw [this]
  simp [P00]
theorem prv_yes {s:Sn} {v:Int} (h:(plannedS s).worth≤v):Prv s (tableS s) v:=by
 refine ⟨?_,fun d hd k hk=>?_,fun t ht=>?_⟩
 ·rw [tab_get s _ (Nat.le_refl _),planA_last];exact Int.le_refl _
 ·unfold CP
  rw [tab_get s d (by omega),tab_get s (d+k+1) (by omega)]
  have:=cand_le s d k hd hk
  unfold candW at this
  exact this
 ·unfold DP
  rw [tab_get s t ht]
  have:=bestP_worth _ (head_get s t ht)
  have h2:(plannedS s).worth=(bestP (headC s++[⟨[],s.price * sumI (lightF s s.soil s.days)⟩])).worth:=rfl
  dsimp only at this
  omega
theorem prv_no {s:Sn} {v:Int} (h:v < (plannedS s).worth):¬ Prv s (tableS s) v:=fun hp=>by
 have hm:=bestP_mem (l:=headC s++[⟨[],s.price * sumI (lightF s s.soil s.days)⟩]) (by simp)
 rcases List.mem_append.1 hm with hm|hm
 ·obtain ⟨t,ht,e⟩:=List.mem_map.1 hm
  have ht:=List.mem_range.1 ht
  have h1:=hp.2.2 t (by omega)
  unfold DP at h1
  rw [tab_get s t (by omega)] at h1
  have h2:(plannedS s).worth=s.price * sumI ((lightF s s.soil s.days).take t)+((plansS s).getD t P00).worth:=by
   show (bestP _).worth=_
   rw [← e]
  rw [plansS_at s t (by omega)] at h2
  unfold sunS at h1
  rw [List.drop_zero] at h1
  omega
 ·have e:=List.mem_singleton.1 hm
  have h1:=hp.2.2 s.days.length (Nat.le_refl _)
  unfold DP at h1
  rw [tab_get s _ (Nat.le_refl _),planA_last] at h1
  have h2:(plannedS s).worth=s.price * sumI (lightF s s.soil s.days):=by
   show (bestP _).worth=_
   rw [e]
  unfold sunS at h1
  rw [List.drop_zero,List.take_of_length_le (by rw [lightF_len];exact Nat.le_refl _)] at h1
  have h3:(P00).worth=0:=rfl
  omega
theorem getD_setI (l:List Int) (k i:Nat) (x:Int) (hk:k < l.length):(l.set k x).getD i 0=if i=k then x else l.getD i 0:=by
 simp only [List.getD_eq_getElem?_getD,List.getElem?_set]
 by_cases h:k=i
 ·subst h;simp [hk]
 ·rw [if_neg h,if_neg (fun e=>h e.symm)]
theorem prv_less {s:Sn} {at_:Nat} (ha:at_≤s.days.length) (v:Int):¬ Prv s ((tableS s).set at_ ((tableS s).getD at_ 0 - 1)) v:=fun hp=>by
 have hl:at_ < (tableS s).length:=by rw [tab_len];omega
 by_cases h:at_=s.days.length
 ·have h1:=hp.1
  rw [getD_setI _ _ _ _ hl,if_pos h.symm,tab_get s at_ ha,h,planA_last] at h1
  have h3:(P00).worth=0:=rfl
  omega
 ·obtain ⟨k,hk,e⟩:=cand_eq s at_ (by omega)
  have h1:=hp.2.1 at_ (by omega) k hk
  unfold CP at h1
  rw [getD_setI _ _ _ _ hl,if_neg (by omega),getD_setI _ _ _ _ hl,if_pos rfl,tab_get s at_ ha,tab_get s _ (by omega)] at h1
  unfold candW at e
  omega
theorem tab_bd {s:Sn} (hs:OkSn s) (h12:s.days.length≤12):∀ x ∈ tableS s,-12000000≤x∧x≤76800000000:=fun x hx=>by
 obtain ⟨p,hp,rfl⟩:=List.mem_map.1 hx
 have:=plansF_bd hs s.days.length (Nat.le_refl _) p hp
 omega
theorem chkTb_of {s:Sn} {tb:List Int} (hl:tb.length=s.days.length+1) (h:∀ x ∈ tb,-100000000000≤x∧x≤100000000000):chkTb s tb=0:=by
 unfold chkTb
 rw [if_neg (by omega)]
 refine firstE_all fun y hy=>?_
 obtain ⟨x,hx,rfl⟩:=List.mem_map.1 hy
 exact withE_ok (h x hx).1 (h x hx).2
end Sh

namespace Sh
open Go
end Sh

set_option maxHeartbeats 4000000
namespace Sh
open Go Go.Proofs
end Sh

namespace Sh
open Go
end Sh

namespace Sh
open Go Go.Proofs
end Sh

namespace Sh
open Go
end Sh

set_option maxHeartbeats 8000000
namespace Sh
open Go Go.Proofs
theorem shr16 (b i:Nat) (h:i≤12):shrI .u16 (b:Int) (i:Int)=((b / 2 ^ i:Nat):Int):=by
 unfold shrI
 rw [Int.toNat_natCast,show min i IntKind.u16.bits=i from Nat.min_eq_left (by show i≤16;omega),Int.fdiv_eq_ediv_of_nonneg _ (Int.pow_nonneg (by decide)),Int.natCast_ediv,Int.natCast_pow]
 rfl
theorem and16 (x:Nat):andI .u16 (x:Int) 1=((x % 2:Nat):Int):=by
 unfold andI
 have h1:(BitVec.ofInt IntKind.u16.bits (x:Int) &&& BitVec.ofInt IntKind.u16.bits 1).toNat=x % 2:=by
  show (BitVec.ofInt 16 (x:Int) &&& BitVec.ofInt 16 1).toNat=x % 2
  rw [BitVec.ofInt_natCast,BitVec.toNat_and,show (BitVec.ofInt 16 1).toNat=1 from by decide,Nat.and_one_is_mod,BitVec.toNat_ofNat]
  omega
 rw [h1]
 rcases Nat.mod_two_eq_zero_or_one x with h|h<;>rw [h]<;>rfl
end Sh

namespace Sh
open Go Go.Proofs
def turnB (best:List Int) (i k:Nat):Bool:=decide ((k:Int) ∈ best) != decide ((k:Int)=(i:Int))
theorem l_WashBest (aw:PC 17 [] (.bool true)) (s:Sn) (n:Int×Int×Int) (hN:(0≤n.1∧n.1≤65535)∧(0≤n.2.1∧n.2.1≤65535)∧(0≤n.2.2∧n.2.2≤65535)):PC 12 [encS s,.agg [.int .u16 n.1,.int .u16 n.2.1,.int .u16 n.2.2]] (.bool true):=by
 obtain ⟨n0,n1,n2⟩:=n
 obtain ⟨⟨p0,q0⟩,⟨p1,q1⟩,⟨p2,q2⟩⟩:=hN
 dsimp only at p0 q0 p1 q1 p2 q2
 show PC _ [encS s,.agg [.int .u16 n0,.int .u16 n1,.int .u16 n2]] _
 obtain ⟨z0,rfl⟩:=Int.eq_ofNat_of_zero_le p0
 obtain ⟨z1,rfl⟩:=Int.eq_ofNat_of_zero_le p1
 have e0:((s.days.map encD).length:Int)=s.days.length:=by simp
 have kS:=r_Short s
 by_cases hsh:shB s.days.length=true
 case neg =>
  have hsh:shB s.days.length=false:=by simpa using hsh
  rw [hsh] at kS
  refine pureCall_ofR dh12 rfl ?_
  conv=>whnf
  repeat' (first
   |(refine ⟨fun hg=>?_,fun hg=>?_⟩<;>first|contradiction|(replace hg:=of_decide_eq_true hg;first|(exfalso;omega;done)|(conv=>whnf))|(replace hg:=of_decide_eq_false hg;first|(exfalso;omega;done)|(conv=>whnf))|(skip;conv=>whnf)|(conv=>whnf))
   |(refine Or.inl ?_;conv=>whnf)
   |(refine ⟨_,kS ..,?_⟩;conv=>whnf)
   |(refine ⟨_,aw ..,?_⟩;conv=>whnf)
   |(refine And.intro ?_ ?_;kernel_rfl;conv=>whnf))
  all_goals rfl
 case pos =>
 rw [hsh] at kS
 by_cases hl12:(12:Int) < ((s.days.map encD).length:Int)
 case pos =>
  refine pureCall_ofR dh12 rfl ?_
  conv=>whnf
  repeat' (first
   |(refine ⟨fun hg=>?_,fun hg=>?_⟩<;>first|contradiction|(replace hg:=of_decide_eq_true hg;first|(exfalso;omega;done)|(conv=>whnf))|(replace hg:=of_decide_eq_false hg;first|(exfalso;omega;done)|(conv=>whnf))|(skip;conv=>whnf)|(conv=>whnf))
   |(refine Or.inl ?_;conv=>whnf)
   |(refine ⟨_,kS ..,?_⟩;conv=>whnf)
   |(refine ⟨_,aw ..,?_⟩;conv=>whnf)
   |(refine And.intro ?_ ?_;kernel_rfl;conv=>whnf))
  all_goals rfl
 case neg =>
 have kC:=r_CheckSeason s (by omega)
 by_cases h1:chkSn s=0
 case neg =>
  generalize chkSn s=E at *
  refine pureCall_ofR dh12 rfl ?_
  conv=>whnf
  repeat' (first
   |(refine ⟨fun hg=>?_,fun hg=>?_⟩<;>first|contradiction|(replace hg:=of_decide_eq_true hg;first|(exfalso;omega;done)|(conv=>whnf))|(replace hg:=of_decide_eq_false hg;first|(exfalso;omega;done)|(conv=>whnf))|(skip;conv=>whnf)|(conv=>whnf))
   |(refine Or.inl ?_;conv=>whnf)
   |(refine ⟨_,kS ..,?_⟩;conv=>whnf)
   |(refine ⟨_,kC ..,?_⟩;conv=>whnf)
   |(refine ⟨_,aw ..,?_⟩;conv=>whnf)
   |(refine And.intro ?_ ?_;kernel_rfl;conv=>whnf))
  all_goals rfl
 case pos =>
 have hs:=chkSn_zero h1
 rw [h1] at kC
 have hn0:=hs.n0
 have h12:s.days.length≤12:=by omega
 have hchk:∀ s':Sn,OkSn s'→∀ ws,Inc s'.days.length (-1) ws→chkSW s' ws=0:=fun s' h ws hi=>by
  rw [chkSW_yes (chkSn_ok h)];exact chkWs_of_inc hi (by omega)
 have a1:=l_own s (by omega)
 have b1:=c_Planned s (by omega)
 rw [h1,optW_z] at b1
 have hother:=fun ws h=>plan_other s (ws:=ws) h
 obtain ⟨hself,hworth⟩:=plan_self s
 have hbl:=inc_len hself
 have hwb:=worth_bd hs h12 (ws:=(plannedS s).idx) (by omega)
 rw [hworth] at hwb
 have k2:=r_CheckWashes s (plannedS s).idx (by omega) (by omega)
 rw [chkWs_of_inc hself (by omega)] at k2
 have i1:=l_ints (plannedS s).idx (by omega)
 have b2:=c_Worth s (plannedS s).idx (by omega) (by omega)
 rw [hchk s hs _ hself,optI_z,hworth] at b2
 have b3:=c_Table s (by omega)
 rw [h1,optL_z] at b3
 have htl:=tab_len s
 have htb:=tab_bd hs h12
 have k3:=r_CheckNumbers s (tableS s) (by omega) (by omega)
 rw [chkTb_of htl (fun x hx=>by have:=htb x hx;omega)] at k3
 have i2:=l_ints (tableS s) (by omega)
 have hTV:∀ tb v,tb.length=s.days.length+1→(∀ x ∈ tb,-100000000000≤x∧x≤100000000000)→chkTV s tb v=if prvB s tb v=true then 0 else 19:=fun tb v hl hb=>by
  unfold chkTV
  rw [chkTb_of hl hb,if_neg (by omega),if_neg (by omega)]
 have b4:=c_CheckTable s (tableS s) (plannedS s).worth (by omega) (by omega)
 rw [hTV _ _ htl (fun x hx=>by have:=htb x hx;omega),prvB_yes (prv_yes (Int.le_refl _)),if_pos rfl] at b4
 have b5:=c_CheckTable s (tableS s) ((plannedS s).worth+1) (by omega) (by omega)
 rw [hTV _ _ htl (fun x hx=>by have:=htb x hx;omega),prvB_yes (prv_yes (by omega)),if_pos rfl] at b5
 have b6:=c_CheckTable s (tableS s) ((plannedS s).worth - 1) (by omega) (by omega)
 rw [hTV _ _ htl (fun x hx=>by have:=htb x hx;omega),prvB_no (prv_no (by omega)),if_neg (by decide)] at b6
 have hI:=h_ints (tableS s) (by omega)
 obtain ⟨A,hA,hAl⟩:∃ A:Nat,(z0:Int).tmod ((s.days.length+1:Nat):Int)=(A:Int)∧A≤s.days.length:=by
  refine ⟨z0 % (s.days.length+1),?_,by have:=Nat.mod_lt z0 (show 0 < s.days.length+1 by omega);omega⟩
  rw [Int.tmod_eq_emod_of_nonneg (by omega)];rfl
 have b7:=c_CheckTable s ((tableS s).set A ((tableS s).getD A 0 - 1)) ((plannedS s).worth+1000) (by omega) (by rw [List.length_set];omega)
 have htA : -12000000≤(tableS s).getD A 0∧(tableS s).getD A 0≤76800000000:=htb _ (getD_in 0 (by omega))
 rw [hTV _ _ (by rw [List.length_set];exact htl) (fun x hx=>by
  rcases List.mem_or_eq_of_mem_set hx with h|rfl
  ·have:=htb x h;omega
  ·omega),prvB_no (prv_less hAl _),if_neg (by decide)] at b7
 have kO:=r_Own s (by omega)
 have hds:=fun x (h:s.cost≤x)=>plan_dear s (x:=x) h
 have hch:=fun x (h:x≤s.price)=>plan_cheap hs (x:=x) h
 obtain ⟨X,hX⟩:∃ X:Int,minmaxI false 1000000 (s.cost+n2)=X:=⟨_,rfl⟩
 have hXb:s.cost≤X∧X≤1000000:=by rw [min_min] at hX;have:=hs.c1;omega
 obtain ⟨Y,hY⟩:∃ Y:Int,s.price.tdiv 2=Y:=⟨_,rfl⟩
 have hYb:0≤Y∧Y≤s.price:=by
  have h:=hs.p0
  rw [Int.tdiv_eq_ediv_of_nonneg h] at hY
  omega
 have hsd:OkSn (dearS s X):=⟨hs.e0,hs.e1,hs.l0,hs.l1,hs.s0,hs.s1,hs.n0,hs.n1,hs.ds,hs.p0,hs.p1,by show 0≤X;have:=hs.c0;omega,hXb.2⟩
 have hsc:OkSn (cheapS s Y):=⟨hs.e0,hs.e1,hs.l0,hs.l1,hs.s0,hs.s1,hs.n0,hs.n1,hs.ds,hYb.1,by show Y≤1000;have:=hs.p1;omega,hs.c0,hs.c1⟩
 have b9:=c_Planned (dearS s X) (by show s.days.length < _;omega)
 rw [chkSn_ok hsd,optW_z] at b9
 have b10:=c_Planned (cheapS s Y) (by show s.days.length < _;omega)
 rw [chkSn_ok hsc,optW_z] at b10
 have a2:PC 19 [encS (dearS s X)] (encS (dearS s X)):=l_own (dearS s X) (by show s.days.length < _;omega)
 have a3:PC 19 [encS (cheapS s Y)] (encS (cheapS s Y)):=l_own (cheapS s Y) (by show s.days.length < _;omega)
 have hd9:=hds X hXb.1
 have hd10:=hch Y hYb.2
 have hpr:=hs.p1
 have hpr0:=hs.p0
 have hc0:=hs.c0
 have hc1:=hs.c1
 generalize plannedS (dearS s X)=D at *
 generalize plannedS (cheapS s Y)=C at *
 generalize hB:(plannedS s).idx=best at *
 generalize hW:(plannedS s).worth=W at *
 have e1:((best.map (DV.int .i64)).length:Int)=best.length:=by simp
 refine pureCall_ofR dh12 rfl ?_
 conv=>whnf
 repeat' (first
  |(refine ⟨fun hg=>?_,fun hg=>?_⟩<;>first|contradiction|(replace hg:=of_decide_eq_true hg;first|(exfalso;omega;done)|(conv=>whnf))|(replace hg:=of_decide_eq_false hg;first|(exfalso;omega;done)|(conv=>whnf))|(skip;conv=>whnf)|(conv=>whnf))
  |(refine Or.inl ?_;conv=>whnf)
  |(refine ⟨_,kS ..,?_⟩;conv=>whnf)
  |(refine ⟨_,kC ..,?_⟩;conv=>whnf)
  |(refine ⟨_,a1 ..,?_⟩;conv=>whnf)
  |(refine ⟨_,b1 ..,?_⟩;conv=>whnf)
  |(refine ⟨_,k2,?_⟩;conv=>whnf)
  |(refine ⟨_,i1 ..,?_⟩;conv=>whnf)
  |(refine ⟨_,b2 ..,?_⟩;conv=>whnf)
  |(refine And.intro ?_ ?_;kernel_rfl;conv=>whnf))
 refine ⟨⟨rfl,rfl,by decide,by decide⟩,?_⟩
 rw [show window (chunks false 1 [DV.int .u16 (z0:Int),DV.int .u16 (z1:Int),DV.int .u16 n2] 3) 0 (Int.toNat 2)=[DV.int .u16 (z0:Int),DV.int .u16 (z1:Int)] from rfl]
 conv=>whnf
 refine dwp_loopU (P:=Tryz.prog) (G:=GC) (k:=dk12_1) (b:=db12_1) (α:=Nat) (fun k=>[(96,DV.int .i64 (k))]) (fun _=>[]) (fun k=>k≤2) (fun k=>2 - k) 0 (by decide) ?_
 conv=>whnf
 refine ⟨rfl,rfl,?_⟩
 conv=>whnf
 refine ⟨rfl,?_⟩
 intro k h3
 have h3:k≤2:=h3
 conv=>whnf
 refine ⟨fun hb=>?_,fun hb=>?_⟩
 ·have hk:k < 2:=by have:(k:Int) < 2:=of_decide_eq_true hb;omega
  clear hb
  obtain ⟨z,hz⟩:∃ z:Nat,([DV.int .u16 (z0:Int),DV.int .u16 (z1:Int)]:List DV).getD (Int.toNat (k:Int)) .undef=.int .u16 (z:Int):=by
   rcases (by omega:k=0∨k=1) with rfl|rfl
   ·exact ⟨z0,rfl⟩
   ·exact ⟨z1,rfl⟩
  conv=>whnf
  rw [hz]
  refine ⟨⟨by omega,by show (k:Int) < 2;omega,rfl⟩,?_⟩
  conv=>whnf
  refine dwp_loopU (P:=Tryz.prog) (G:=GC) (k:=dk12_0) (b:=db12_0) (α:=Nat) (fun i=>[(12,.own 12 0 (iD (bitsF z i)).length (iD (bitsF z i)).length),(103,DV.int .i64 (i))]) (fun i=>[(12,.row 1 (iD (bitsF z i)) false)]) (fun i=>i≤s.days.length) (fun i=>s.days.length - i) 0 (Nat.zero_le _) ?_
  conv=>whnf
  refine ⟨rfl,rfl,?_⟩
  conv=>whnf
  refine ⟨rfl,?_⟩
  intro i h4
  have h4:i≤s.days.length:=h4
  conv=>whnf
  refine ⟨fun hb=>?_,fun hb=>?_⟩
  ·have hi:i < s.days.length:=by have:=of_decide_eq_true hb;omega
   clear hb
   have hsu:=bitsF_succ z i
   have hln:=bitsF_len z i
   conv=>whnf
   refine ⟨by omega,?_⟩
   rw [shr16 z i (by omega)]
   conv=>whnf
   rw [and16]
   conv=>whnf
   refine ⟨fun hg=>?_,fun hg=>?_⟩
   ·have hg:(((z / 2 ^ i) % 2:Nat):Int)=1:=of_decide_eq_true hg
    rw [if_pos (by omega)] at hsu
    have hd:iD (bitsF z (i+1))=iD (bitsF z i)++[DV.int .i64 ((i:Int))]:=by rw [hsu,iD_app]
    have hlk:(iD (bitsF z i)).length≤i:=by rw [iD_len];exact hln
    generalize hR':iD (bitsF z (i+1))=R' at *
    generalize hR:iD (bitsF z i)=R at *
    conv=>whnf
    refine ⟨⟨rfl,rfl,rfl,by simp;omega,fun e he=>by simp at he;subst he;rfl⟩,?_⟩
    conv=>whnf
    rw [wrap_succ i (by omega)]
    refine ⟨i+1,rfl,?_,?_,hi,by omega⟩
    ·rw [hR',hd];rfl
    ·rw [hR',hd];rfl
   ·have hg:¬ (((z / 2 ^ i) % 2:Nat):Int)=1:=of_decide_eq_false hg
    rw [if_neg (by omega)] at hsu
    conv=>whnf
    rw [wrap_succ i (by omega)]
    refine ⟨i+1,rfl,by rw [hsu];rfl,by rw [hsu];rfl,hi,by omega⟩
  ·have hi:i=s.days.length:=by have:=of_decide_eq_false hb;omega
   clear hb
   rw [hi]
   have hinc:=bitsF_inc z s.days.length
   have hln:=bitsF_len z s.days.length
   generalize bitsF z s.days.length=O at *
   obtain ⟨o1,o2⟩:=hother O hinc
   have i3:=l_ints O (by omega)
   have b8:=c_Worth s O (by omega) (by omega)
   rw [hchk s hs _ hinc,optI_z] at b8
   generalize worthS s O=V at *
   have hOL:(iD O).length=O.length:=iD_len O
   have hwO:window (iD O) 0 (iD O).length=iD O:=window_full _
   conv=>whnf
   refine .inl ?_
   conv=>whnf
   refine ⟨_,a1 ..,?_⟩
   conv=>whnf
   refine .inl ?_
   conv=>whnf
   rw [hwO]
   refine ⟨rfl,_,i3,?_⟩
   conv=>whnf
   refine .inl ?_
   conv=>whnf
   refine ⟨_,b8 ..,?_⟩
   conv=>whnf
   have y1:decide (W < V)=false:=decide_eq_false (by omega)
   have y2:V=W→decide ((O.length:Int) < ((best.map (DV.int .i64)).length:Int))=false:=fun h=>by rw [List.length_map];exact decide_eq_false (by have:=o2 h;omega)
   rw [hOL]
   by_cases y3:V=W
   ·have y2:=y2 y3
    have y3:decide (V=W)=true:=decide_eq_true y3
    repeat' (first
     |(rw [y1];conv=>whnf)
     |(rw [y3];conv=>whnf)
     |(rw [y2];conv=>whnf)
     |(refine ⟨fun hg=>?_,fun hg=>?_⟩<;>first|contradiction|(exfalso;revert hg;simp;done)|(exfalso;exact absurd (of_decide_eq_true hg) (by assumption))|(exfalso;exact absurd (by assumption) (of_decide_eq_false hg))|(conv=>whnf))
     |(refine Or.inl ?_;conv=>whnf)
     |(refine ⟨hOL.symm,?_⟩;conv=>whnf)
     |(refine And.intro ?_ ?_;kernel_rfl;conv=>whnf))
    rw [wrap_succ k (by omega)]
    exact ⟨k+1,rfl,rfl,rfl,by omega,by omega⟩
   ·have y3:decide (V=W)=false:=decide_eq_false y3
    repeat' (first
     |(rw [y1];conv=>whnf)
     |(rw [y3];conv=>whnf)
     |(refine ⟨fun hg=>?_,fun hg=>?_⟩<;>first|contradiction|(exfalso;revert hg;simp;done)|(exfalso;exact absurd (of_decide_eq_true hg) (by assumption))|(exfalso;exact absurd (by assumption) (of_decide_eq_false hg))|(conv=>whnf))
     |(refine Or.inl ?_;conv=>whnf)
     |(refine ⟨hOL.symm,?_⟩;conv=>whnf)
     |(refine And.intro ?_ ?_;kernel_rfl;conv=>whnf))
    rw [wrap_succ k (by omega)]
    exact ⟨k+1,rfl,rfl,rfl,by omega,by omega⟩
 ·clear hb
  conv=>whnf
  refine dwp_loopU (P:=Tryz.prog) (G:=GC) (k:=dk12_3) (b:=db12_3) (α:=Nat) (fun i=>[(147,DV.int .i64 (i))]) (fun _=>[]) (fun i=>i≤s.days.length) (fun i=>s.days.length - i) 0 (Nat.zero_le _) ?_
  rw [e0]
  conv=>whnf
  refine ⟨rfl,rfl,?_⟩
  conv=>whnf
  refine ⟨rfl,?_⟩
  intro i h3
  have h3:i≤s.days.length:=h3
  conv=>whnf
  refine ⟨fun hb=>?_,fun hb=>?_⟩
  ·have hi:i < s.days.length:=by have:=of_decide_eq_true hb;omega
   clear hb
   conv=>whnf
   refine dwp_loopU (P:=Tryz.prog) (G:=GC) (k:=dk12_2) (b:=db12_2) (α:=Nat) (fun k=>[(17,.own 17 0 (iD (pickS (turnB best i) k)).length (iD (pickS (turnB best i) k)).length),(153,DV.int .i64 (k))]) (fun k=>[(17,.row 1 (iD (pickS (turnB best i) k)) false)]) (fun k=>k≤s.days.length) (fun k=>s.days.length - k) 0 (Nat.zero_le _) ?_
   rw [e0]
   conv=>whnf
   refine ⟨rfl,rfl,?_⟩
   conv=>whnf
   refine ⟨rfl,?_⟩
   intro k h4
   have h4:k≤s.days.length:=h4
   conv=>whnf
   refine ⟨fun hb=>?_,fun hb=>?_⟩
   ·have hk:k < s.days.length:=by have:=of_decide_eq_true hb;omega
    clear hb
    have hsu:=pickS_succ (turnB best i) k
    have hln:=pickS_len (turnB best i) k
    have kH:=q_HasInt best k (by omega)
    have htu:(decide ((k:Int) ∈ best) != decide ((k:Int)=(i:Int)))=turnB best i k:=rfl
    conv=>whnf
    refine .inl ?_
    conv=>whnf
    refine ⟨_,kH ..,?_⟩
    conv=>whnf
    rw [htu]
    refine ⟨fun hg=>?_,fun hg=>?_⟩
    ·have hg:turnB best i k=true:=hg
     rw [if_pos hg] at hsu
     have hd:iD (pickS (turnB best i) (k+1))=iD (pickS (turnB best i) k)++[DV.int .i64 ((k:Int))]:=by rw [hsu,iD_app]
     have hlk:(iD (pickS (turnB best i) k)).length≤k:=by rw [iD_len];exact hln
     generalize hR':iD (pickS (turnB best i) (k+1))=R' at *
     generalize hR:iD (pickS (turnB best i) k)=R at *
     conv=>whnf
     refine ⟨⟨rfl,rfl,rfl,by simp;omega,fun e he=>by simp at he;subst he;rfl⟩,?_⟩
     conv=>whnf
     rw [wrap_succ k (by omega)]
     refine ⟨k+1,rfl,?_,?_,hk,by omega⟩
     ·rw [hR',hd];rfl
     ·rw [hR',hd];rfl
    ·have hg:turnB best i k=false:=hg
     rw [if_neg (by rw [hg];decide)] at hsu
     conv=>whnf
     rw [wrap_succ k (by omega)]
     refine ⟨k+1,rfl,by rw [hsu];rfl,by rw [hsu];rfl,hk,by omega⟩
   ·have hk:k=s.days.length:=by have:=of_decide_eq_false hb;omega
    clear hb
    rw [hk]
    have hinc:=pickS_inc (turnB best i) s.days.length
    have hln:=pickS_len (turnB best i) s.days.length
    generalize pickS (turnB best i) s.days.length=O at *
    obtain ⟨o1,o2⟩:=hother O hinc
    have b8:=c_Worth s O (by omega) (by omega)
    rw [hchk s hs _ hinc,optI_z] at b8
    generalize worthS s O=V at *
    have hOL:(iD O).length=O.length:=iD_len O
    have hwO:window (iD O) 0 (iD O).length=iD O:=window_full _
    conv=>whnf
    refine .inl ?_
    conv=>whnf
    refine ⟨_,a1 ..,?_⟩
    conv=>whnf
    refine .inl ?_
    conv=>whnf
    rw [hwO]
    refine ⟨rfl,_,b8,?_⟩
    conv=>whnf
    have y1:decide (W < V)=false:=decide_eq_false (by omega)
    have y2:V=W→decide ((O.length:Int) < ((best.map (DV.int .i64)).length:Int))=false:=fun h=>by rw [List.length_map];exact decide_eq_false (by have:=o2 h;omega)
    rw [hOL]
    by_cases y3:V=W
    ·have y2:=y2 y3
     have y3:decide (V=W)=true:=decide_eq_true y3
     repeat' (first
      |(rw [y1];conv=>whnf)
      |(rw [y3];conv=>whnf)
      |(rw [y2];conv=>whnf)
      |(refine ⟨fun hg=>?_,fun hg=>?_⟩<;>first|contradiction|(exfalso;revert hg;simp;done)|(exfalso;exact absurd (of_decide_eq_true hg) (by assumption))|(exfalso;exact absurd (by assumption) (of_decide_eq_false hg))|(conv=>whnf))
      |(refine Or.inl ?_;conv=>whnf)
      |(refine ⟨hOL.symm,?_⟩;conv=>whnf)
      |(refine And.intro ?_ ?_;kernel_rfl;conv=>whnf))
     rw [wrap_succ i (by omega)]
     exact ⟨i+1,rfl,rfl,rfl,by omega,by omega⟩
    ·have y3:decide (V=W)=false:=decide_eq_false y3
     repeat' (first
      |(rw [y1];conv=>whnf)
      |(rw [y3];conv=>whnf)
      |(refine ⟨fun hg=>?_,fun hg=>?_⟩<;>first|contradiction|(exfalso;revert hg;simp;done)|(exfalso;exact absurd (of_decide_eq_true hg) (by assumption))|(exfalso;exact absurd (by assumption) (of_decide_eq_false hg))|(conv=>whnf))
      |(refine Or.inl ?_;conv=>whnf)
      |(refine ⟨hOL.symm,?_⟩;conv=>whnf)
      |(refine And.intro ?_ ?_;kernel_rfl;conv=>whnf))
     rw [wrap_succ i (by omega)]
     exact ⟨i+1,rfl,rfl,rfl,by omega,by omega⟩
  ·clear hb
   rw [← wrap_in (n:=W+1) (by omega) (by omega)] at b5
   rw [← wrap_in (n:=W - 1) (by omega) (by omega)] at b6
   rw [← wrap_in (n:=W+1000) (by omega) (by omega)] at b7
   conv=>whnf
   repeat' (first
    |(refine ⟨fun hg=>?_,fun hg=>?_⟩<;>first|contradiction|(exfalso;revert hg;simp;done)|(exfalso;exact absurd (of_decide_eq_true hg) (by assumption))|(exfalso;exact absurd (by assumption) (of_decide_eq_false hg))|(conv=>whnf))
    |(refine Or.inl ?_;conv=>whnf)
    |(refine ⟨_,a1,?_⟩;conv=>whnf)
    |(refine ⟨_,b3,?_⟩;conv=>whnf)
    |(refine ⟨_,k3,?_⟩;conv=>whnf)
    |(refine And.intro ?_ ?_;kernel_rfl;conv=>whnf))
   refine ⟨_,i2,?_⟩
   conv=>whnf
   repeat' (first
    |(refine ⟨fun hg=>?_,fun hg=>?_⟩<;>first|contradiction|(exfalso;revert hg;simp;done)|(exfalso;exact absurd (of_decide_eq_true hg) (by assumption))|(exfalso;exact absurd (by assumption) (of_decide_eq_false hg))|(conv=>whnf))
    |(refine Or.inl ?_;conv=>whnf)
    |(refine ⟨_,a1,?_⟩;conv=>whnf)
    |(refine ⟨_,b4,?_⟩;conv=>whnf)
    |(refine And.intro ?_ ?_;kernel_rfl;conv=>whnf))
   refine ⟨_,i2,?_⟩
   conv=>whnf
   repeat' (first
    |(refine ⟨fun hg=>?_,fun hg=>?_⟩<;>first|contradiction|(exfalso;revert hg;simp;done)|(exfalso;exact absurd (of_decide_eq_true hg) (by assumption))|(exfalso;exact absurd (by assumption) (of_decide_eq_false hg))|(conv=>whnf))
    |(refine Or.inl ?_;conv=>whnf)
    |(refine ⟨_,a1,?_⟩;conv=>whnf)
    |(refine ⟨_,b5,?_⟩;conv=>whnf)
    |(refine And.intro ?_ ?_;kernel_rfl;conv=>whnf))
   refine ⟨_,i2,?_⟩
   conv=>whnf
   refine .inl ?_
   conv=>whnf
   refine ⟨_,b6 ..,?_⟩
   conv=>whnf
   refine ⟨fun hg=>absurd hg (by decide),fun hg=>?_⟩
   clear hg
   conv=>whnf
   refine .inr ⟨[(3,237)],_,_,_,_,hI,⟨rfl,by kernel_rfl,?_,?_⟩,?_⟩
   ·exact trivial
   ·exact ⟨.inr rfl,trivial⟩
   conv=>whnf
   refine ⟨⟨by decide,by decide,rfl,rfl⟩,?_⟩
   conv=>whnf
   rw [wrap_in (n:=(z0:Int)) (by omega) (by omega)]
   conv=>whnf
   refine ⟨rfl,?_⟩
   conv=>whnf
   have hTl:(iD (tableS s)).length=s.days.length+1:=by rw [iD_len,htl]
   rw [hTl]
   refine ⟨by omega,?_⟩
   rw [hA]
   conv=>whnf
   have gA:=iD_get (tableS s) A (by omega)
   refine ⟨⟨hTl.symm,by omega,by omega⟩,?_⟩
   rw [Int.toNat_natCast,Nat.zero_add]
   conv=>whnf
   rw [gA]
   refine ⟨⟨hTl.symm,by decide⟩,?_⟩
   conv=>whnf
   refine ⟨⟨hTl.symm,by omega,by omega⟩,?_⟩
   rw [Int.toNat_natCast,Nat.zero_add]
   conv=>whnf
   rw [wrap_in (n:=(tableS s).getD A 0 - 1) (by omega) (by omega)]
   refine ⟨⟨hTl.symm,by decide,rfl⟩,?_⟩
   have hset:(iD (tableS s)).set A (DV.int .i64 ((tableS s).getD A 0 - 1))=iD ((tableS s).set A ((tableS s).getD A 0 - 1)):=iD_set ..
   have hwin:window (iD ((tableS s).set A ((tableS s).getD A 0 - 1))) 0 (s.days.length+1)=iD ((tableS s).set A ((tableS s).getD A 0 - 1)):=by
    rw [← hTl,← hset,show (iD (tableS s)).length=((iD (tableS s)).set A (DV.int .i64 ((tableS s).getD A 0 - 1))).length from (List.length_set ..).symm];exact window_full _
   conv=>whnf
   refine .inl ?_
   conv=>whnf
   refine ⟨_,a1 ..,?_⟩
   conv=>whnf
   refine .inl ?_
   conv=>whnf
   have b7:PC 43 [encS s,.list (window ((iD (tableS s)).set A (DV.int .i64 ((tableS s).getD A 0 - 1))) 0 (s.days.length+1)),DV.int .i64 (IntKind.i64.wrap (W+1000))] (DV.int .i64 (19)):=by
    rw [hset,hwin];exact b7
   refine ⟨?_,_,b7,?_⟩
   ·show _=((iD (tableS s)).set A _).length
    rw [List.length_set,hTl]
   conv=>whnf
   refine ⟨fun hg=>absurd hg (by decide),fun hg=>?_⟩
   clear hg
   conv=>whnf
   refine .inl ?_
   conv=>whnf
   refine ⟨_,kO ..,?_⟩
   conv=>whnf
   refine ⟨⟨by decide,by decide,rfl,rfl⟩,?_⟩
   conv=>whnf
   rw [wrap_in (n:=n2) (by omega) (by omega),wrap_in (n:=s.cost+n2) (by omega) (by omega),hX]
   conv=>whnf
   refine .inl ?_
   conv=>whnf
   refine ⟨_,kO ..,?_⟩
   conv=>whnf
   refine ⟨by decide,?_⟩
   rw [hY,wrap_in (n:=Y) (by omega) (by omega)]
   conv=>whnf
   refine .inl ?_
   conv=>whnf
   refine ⟨_,a2 ..,?_⟩
   conv=>whnf
   refine .inl ?_
   conv=>whnf
   refine ⟨_,b9 ..,?_⟩
   conv=>whnf
   refine .inl ?_
   conv=>whnf
   refine ⟨_,a3 ..,?_⟩
   conv=>whnf
   refine .inl ?_
   conv=>whnf
   refine ⟨_,b10 ..,?_⟩
   conv=>whnf
   have y1:decide (D.worth≤W)=true:=decide_eq_true hd9
   have y2:decide (C.worth≤W)=true:=decide_eq_true hd10
   repeat' (first
    |(rw [y1];conv=>whnf)
    |(rw [y2];conv=>whnf)
    |(refine ⟨fun hg=>?_,fun hg=>?_⟩<;>first|contradiction|(exfalso;revert hg;simp;done)|(exfalso;exact absurd (of_decide_eq_true hg) (by assumption))|(exfalso;exact absurd (by assumption) (of_decide_eq_false hg))|(conv=>whnf))
    |(refine Or.inl ?_;conv=>whnf)
    |(refine ⟨_,aw,?_⟩;conv=>whnf)
    |(refine And.intro ?_ ?_;kernel_rfl;conv=>whnf))
   rfl
end Sh

namespace Sh
open Go Go.Proofs Go.DataW
section
variable {H:Type} {enc:TypeId×Value→H} {W:World}
theorem opU3:Opens enc Tryz.prog W 126 (fun p:Int×Int×Int=>[DV.int .u16 p.1,DV.int .u16 p.2.1,DV.int .u16 p.2.2]) (fun p=>(0≤p.1∧p.1≤65535)∧(0≤p.2.1∧p.2.1≤65535)∧(0≤p.2.2∧p.2.2≤65535)):=by
 refine (opens_array (n:=3) (c:=1) (e:=119) (P:=Tryz.prog) (t:=126) Tryz.underlying126 (show Tryz.prog.cellsOf 119=1 by kernel_rfl) (show Tryz.prog.cellsOf 126=3 * 1 by kernel_rfl) (opens_int Tryz.underlying119)).mapB (fun l=>(l.getD 0 0,l.getD 1 0,l.getD 2 0)) (fun l h=>?_) (fun l h=>?_)
 ·match l,h with
  |[a,b,c],_=>rfl
 ·match l,h with
  |[a,b,c],h=>exact ⟨wf_u16 (h.2 a (by simp)),wf_u16 (h.2 b (by simp)),wf_u16 (h.2 c (by simp))⟩
end
end Sh
