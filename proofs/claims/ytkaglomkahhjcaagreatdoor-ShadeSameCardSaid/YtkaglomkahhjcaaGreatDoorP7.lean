/-
  Chapter 3's functions, walked over pure data: the library of the walk, the functions' code over data, and what each computes. (part 7)
-/
import Derived.Test.YtkaglomkahhjcaaGreatDoorP6
import Derived.ProofKit
import Derived.Carry
import Derived.ChangeSame
import Derived.OpenShut
import Derived.HandedShaped
import Derived.Shelf.Vars
import Derived.Stop.Joined
import Derived.Deep.DeepHandedRow
import Derived.Lib.LaidTab
import Derived.MakeChecks
import Derived.LaidSub
import Derived.LaidHandle
import Derived.Test.YtkaglomkahhjcaaGreatDoorProg
set_option linter.unusedVariables false
set_option linter.unusedSimpArgs false
namespace Sh
open Go Go.Proofs
section
variable {H:Type} {enc:TypeId×Value→H} {P:Program} {W:World}
theorem opens_array_aux {c:Nat}:∀ (dss:List (List DV)) (cs:List Value),cs.length=dss.length * c →
  (∀ (i:Nat) (ds:List DV),dss[i]?=some ds→RelL (memOf W) ds ((cs.drop (i * c)).take c))→RelL (memOf W) dss.flatten cs
 |[],cs,hl,_=>by
  have:cs=[]:=List.length_eq_zero_iff.1 (by simpa using hl)
  subst this;exact .nil
 |ds :: dss,cs,hl,h=>by
  rw [List.length_cons,Nat.add_mul,Nat.one_mul] at hl
  have h2:=opens_array_aux (c:=c) dss (cs.drop c) (by simp;omega) (fun i ds' e2=>by
   have:=h (i+1) ds' (by simpa using e2)
   rwa [Nat.add_mul,Nat.one_mul,Nat.add_comm (i * c) c,← List.drop_drop] at this)
  have h3:=h 0 ds rfl
  rw [Nat.zero_mul,List.drop_zero] at h3
  have:=h3.append h2
  rwa [List.take_append_drop] at this
theorem opens_array {t e:TypeId} {n c:Nat} {α:Type} {f:α→List DV} {B:α→Prop} (ht:P.underlying t=some (.array n e)) (hc:P.cellsOf e=c) (hct:P.cellsOf t=n * c) (hE:Opens enc P W e f B) :
  Opens enc P W t (fun l:List α=>l.flatMap f) (fun l=>l.length=n∧∀ a ∈ l,B a):=by
 intro base sp hd fuel cs x hx
 obtain ⟨ys,m,_,e,hlc,hn,hel⟩:=DataW.trod_array ht hx
 have hget:∀ i,i < n→∃ a:α,RelL (memOf W) (f a) ((cs.drop (i * c)).take c)∧B a:=by
  intro i hi
  have h1:=hel i hi
  rw [hc,List.getElem?_eq_getElem (by omega)] at h1
  exact hE _ _ _ _ _ _ h1
 obtain ⟨l,hl,hF⟩:=build n hget
 refine ⟨l,?_,hl,fun a ha=>?_⟩
 ·show RelL (memOf W) (l.flatMap f) cs
  rw [List.flatMap_def]
  refine opens_array_aux (c:=c) (l.map f) cs (by rw [List.length_map,hl,hlc,hct]) (fun i ds e2=>?_)
  rw [List.getElem?_map,Option.map_eq_some_iff] at e2
  obtain ⟨a,e3,rfl⟩:=e2
  obtain ⟨hi,rfl⟩:=List.getElem?_eq_some_iff.1 e3
  exact (hF i hi).1
 ·obtain ⟨i,hi,rfl⟩:=List.mem_iff_getElem.1 ha
  exact (hF i hi).2
theorem Opens.mapB {t:TypeId} {α β:Type} {e:α→List DV} {B:α→Prop} {e':β→List DV} {B':β→Prop} (h:Opens enc P W t e B) (f:α→β) (he:∀ a,B a→e' (f a)=e a) (hB:∀ a,B a→B' (f a)):Opens enc P W t e' B':=by
 intro base sp hd fuel cs x hx
 obtain ⟨a,h1,h2⟩:=h base sp hd fuel cs x hx
 exact ⟨f a,by rw [he a h2];exact h1,hB a h2⟩
theorem opens_two {t e:TypeId} {c:Nat} {α:Type} [Inhabited α] {f:α→List DV} {B:α→Prop} (ht:P.underlying t=some (.array 2 e)) (hc:P.cellsOf e=c) (hct:P.cellsOf t=2 * c) (hE:Opens enc P W e f B) :
  Opens enc P W t (fun p:α×α=>f p.1++f p.2) (fun p=>B p.1∧B p.2):=by
 refine (opens_array ht hc hct hE).mapB (fun l=>(l.getD 0 default,l.getD 1 default)) (fun l h=>?_) (fun l h=>?_)
 ·match l,h with
  |[a,b],_=>simp
 ·match l,h with
  |[a,b],h=>exact ⟨h.2 a (by simp),h.2 b (by simp)⟩
theorem wf_in {k:IntKind} {n:Int} (h:(Lit.int k n).wf=true):k.min≤n∧n≤k.max:=by
 unfold Lit.wf at h
 rw [Bool.and_eq_true] at h
 exact ⟨of_decide_eq_true h.1,of_decide_eq_true h.2⟩
theorem wf_u8 {n:Int} (h:(Lit.int .u8 n).wf=true):0≤n∧n≤255:=wf_in h
theorem wf_i8 {n:Int} (h:(Lit.int .i8 n).wf=true) : -128≤n∧n≤127:=wf_in h
end
section
open Go.RowKit Go.WideShapes Go.ChangeShapes
variable {H:Type} {enc:TypeId×Value→H} {P:Program}
end
end Sh

set_option maxRecDepth 100000
namespace Sh
open Go
def db52_0 : DC := (.seq (.seq (.ops false [⟨some 11,.mov (.tmp 5),none,[]⟩,⟨some 12,.mov (.tmp 0),none,[]⟩,⟨some 13,.len (.tmp 12),none,[]⟩,⟨some 14,.bin .lss (.tmp 11) (.tmp 13),none,[]⟩]) (.cond (.tmp 14) .skip (.exit 0))) (.seq (.block 1 none (.seq (.ops true [⟨some 17,.mov (.tmp 0),none,[]⟩,⟨some 18,.mov (.tmp 5),none,[]⟩,⟨some 19,.iaddr 4 (.tmp 17) (.tmp 18),none,[0,1]⟩,⟨some 20,.load (some 4) (.tmp 19),none,[2,0,1]⟩,⟨some 21,.mov (.tmp 1),none,[]⟩,⟨some 22,.mov (.tmp 5),none,[]⟩,⟨some 23,.iaddr 4 (.tmp 21) (.tmp 22),none,[4,5]⟩,⟨some 24,.load (some 4) (.tmp 23),none,[6,4,5]⟩,⟨some 25,.eqA true [1,1,1,1] (.tmp 20) (.tmp 24),none,[3,2,0,1,7,6,4,5]⟩]) (.cond (.tmp 25) (.seq (.ops false [⟨some 4,.mov (.const (.bool false)),none,[]⟩]) .ret) .skip))) (.ops false [⟨some 15,.mov (.tmp 5),none,[]⟩,⟨some 16,.bin .add (.tmp 15) (.const (.int .i64 1)),none,[]⟩,⟨some 5,.mov (.tmp 16),none,[]⟩])))
def dk52_0 : Keep := ⟨[],[0,1,5],[]⟩
def dc52 : DFunc := ⟨26,2,[.tmp 4],.seq (.ops false [⟨some 4,.mov (.const (.bool false)),none,[]⟩]) (.seq (.seq (.ops false [⟨some 6,.mov (.tmp 0),none,[]⟩,⟨some 7,.len (.tmp 6),none,[]⟩,⟨some 8,.mov (.tmp 1),none,[]⟩,⟨some 9,.len (.tmp 8),none,[]⟩,⟨some 10,.bin .neq (.tmp 7) (.tmp 9),none,[]⟩]) (.cond (.tmp 10) (.seq (.ops false [⟨some 4,.mov (.const (.bool false)),none,[]⟩]) .ret) .skip)) (.seq (.seq (.ops false [⟨some 5,.mov (.const (.int .i64 0)),none,[]⟩]) (.block 0 (some ⟨[],[],[]⟩) (.loop dk52_0 db52_0))) (.seq (.ops false [⟨some 4,.mov (.const (.bool true)),none,[]⟩]) .ret)))⟩
theorem dh52:cProg Go.Proofs.Tryz.prog ⟨[(0,⟨[],[0,1,5],[]⟩)],[(0,⟨[],[],[]⟩)],[]⟩ 52=some dc52:=by kernel_rfl
def db53_0 : DC := (.seq (.ops false [⟨some 9,.bin .lss (.tmp 8) (.tmp 7),none,[]⟩]) (.seq (.cond (.tmp 9) .skip (.exit 0)) (.seq (.block 1 none (.seq (.ops false [⟨some 10,.iaddr 4 (.tmp 6) (.tmp 8),none,[]⟩,⟨some 11,.load (some 4) (.tmp 10),none,[]⟩,⟨some 5,.alloc (.agg [.int .i64 0,.int .i64 0,.int .i64 0,.int .i64 0]) 4,none,[]⟩,⟨none,.store 4 (.tmp 5) (.tmp 11),none,[]⟩]) (.ops false [⟨some 12,.mov (.tmp 3),none,[]⟩,⟨some 13,.load (some 4) (.tmp 5),none,[]⟩,⟨some 14,.lit true 4 1 (.agg [.int .i64 0,.int .i64 0,.int .i64 0,.int .i64 0]) [(0,(.tmp 13))],none,[]⟩,⟨some 15,.append false 4 (.tmp 12) (.tmp 14),none,[]⟩,⟨some 3,.mov (.tmp 15),none,[]⟩]))) (.ops false [⟨some 16,.bin .add (.tmp 8) (.const (.int .i64 1)),none,[]⟩,⟨some 8,.mov (.tmp 16),none,[]⟩]))))
def dk53_0 : Keep := ⟨[(3,4)],[3,6,7,8],[3]⟩
def dc53 : DFunc := ⟨18,1,[.tmp 2],.seq (.ops false [⟨some 2,.mov (.const (.slice none 0 0)),none,[]⟩]) (.seq (.ops false [⟨some 3,.mov (.const (.slice none 0 0)),none,[]⟩]) (.seq (.seq (.ops false [⟨some 6,.mov (.tmp 0),none,[]⟩,⟨some 7,.len (.tmp 6),none,[]⟩,⟨some 8,.mov (.const (.int .i64 0)),none,[]⟩]) (.block 0 (some ⟨[],[3],[3]⟩) (.loop dk53_0 db53_0))) (.seq (.ops false [⟨some 17,.mov (.tmp 3),none,[]⟩,⟨some 2,.mov (.tmp 17),none,[]⟩]) .ret)))⟩
theorem dh53:cProg Go.Proofs.Tryz.prog ⟨[(0,⟨[(3,4)],[3,6,7,8],[3]⟩)],[(0,⟨[],[3],[3]⟩)],[14]⟩ 53=some dc53:=by kernel_rfl
end Sh

namespace Sh
open Go
def db94_0 : DC := (.seq (.seq (.ops false [⟨some 4,.mov (.tmp 3),none,[]⟩,⟨some 5,.mov (.tmp 0),none,[]⟩,⟨some 6,.len (.tmp 5),none,[]⟩,⟨some 7,.bin .lss (.tmp 4) (.tmp 6),none,[]⟩]) (.cond (.tmp 7) .skip (.exit 0))) (.seq (.block 1 none (.seq (.ops false [⟨some 10,.mov (.tmp 0),none,[]⟩,⟨some 11,.mov (.tmp 3),none,[]⟩,⟨some 12,.iaddr 1 (.tmp 10) (.tmp 11),none,[]⟩,⟨some 13,.load none (.tmp 12),none,[]⟩,⟨some 14,.bin .neq (.tmp 13) (.const (.int .i64 0)),none,[]⟩]) (.cond (.tmp 14) (.seq (.ops false [⟨some 15,.mov (.tmp 0),none,[]⟩,⟨some 16,.mov (.tmp 3),none,[]⟩,⟨some 17,.iaddr 1 (.tmp 15) (.tmp 16),none,[]⟩,⟨some 18,.load none (.tmp 17),none,[]⟩,⟨some 2,.mov (.tmp 18),none,[]⟩]) .ret) .skip))) (.ops false [⟨some 8,.mov (.tmp 3),none,[]⟩,⟨some 9,.bin .add (.tmp 8) (.const (.int .i64 1)),none,[]⟩,⟨some 3,.mov (.tmp 9),none,[]⟩])))
def dk94_0 : Keep := ⟨[],[0,3],[]⟩
def dc94 : DFunc := ⟨19,1,[.tmp 2],.seq (.ops false [⟨some 2,.mov (.const (.int .i64 0)),none,[]⟩]) (.seq (.seq (.ops false [⟨some 3,.mov (.const (.int .i64 0)),none,[]⟩]) (.block 0 (some ⟨[],[],[]⟩) (.loop dk94_0 db94_0))) (.seq (.ops false [⟨some 2,.mov (.const (.int .i64 0)),none,[]⟩]) .ret))⟩
theorem dh94:cProg Go.Proofs.Tryz.prog ⟨[(0,⟨[],[0,3],[]⟩)],[(0,⟨[],[],[]⟩)],[]⟩ 94=some dc94:=by kernel_rfl
def dc95 : DFunc := ⟨7,2,[.tmp 4],.seq (.ops false [⟨some 4,.mov (.const (.int .i64 0)),none,[]⟩]) (.seq (.seq (.ops false [⟨some 5,.mov (.tmp 0),none,[]⟩]) (.cond (.tmp 5) (.seq (.ops false [⟨some 6,.mov (.tmp 1),none,[]⟩,⟨some 4,.mov (.tmp 6),none,[]⟩]) .ret) .skip)) (.seq (.ops false [⟨some 4,.mov (.const (.int .i64 0)),none,[]⟩]) .ret))⟩
theorem dh95:cProg Go.Proofs.Tryz.prog ⟨[],[],[]⟩ 95=some dc95:=by kernel_rfl
def dc96 : DFunc := ⟨16,3,[.tmp 6],.seq (.ops false [⟨some 6,.mov (.const (.int .i64 0)),none,[]⟩]) (.seq (.ops false [⟨some 7,.mov (.tmp 0),none,[]⟩,⟨some 8,.mov (.tmp 1),none,[]⟩,⟨some 9,.bin .lss (.tmp 7) (.tmp 8),none,[]⟩,⟨some 10,.mov (.tmp 9),none,[]⟩,⟨some 11,.mov (.tmp 0),some (10,false),[]⟩,⟨some 12,.mov (.tmp 2),some (10,false),[]⟩,⟨some 13,.bin .gtr (.tmp 11) (.tmp 12),some (10,false),[]⟩,⟨some 14,.pick (.tmp 10) (.const (.bool true)) (.tmp 13),none,[]⟩,⟨some 15,.call (.func 95) [.tmp 14,.const (.int .i64 3)],none,[]⟩,⟨some 6,.mov (.tmp 15),none,[]⟩]) .ret)⟩
theorem dh96:cProg Go.Proofs.Tryz.prog ⟨[],[],[]⟩ 96=some dc96:=by kernel_rfl
def db97_0 : DC := (.seq (.seq (.ops false [⟨some 57,.mov (.tmp 8),none,[]⟩,⟨some 58,.mov (.tmp 0),none,[]⟩,⟨some 59,.len (.tmp 58),none,[]⟩,⟨some 60,.bin .lss (.tmp 57) (.tmp 59),none,[]⟩]) (.cond (.tmp 60) .skip (.exit 2))) (.seq (.block 3 none (.seq (.ops true [⟨some 63,.load (some 3) (.tmp 3),none,[]⟩,⟨some 64,.load (some 3) (.tmp 6),none,[]⟩,⟨some 65,.load (some 3) (.tmp 5),none,[]⟩,⟨some 66,.call (.func 101) [.tmp 64,.tmp 65],none,[1,2]⟩,⟨some 67,.mov (.tmp 0),none,[]⟩,⟨some 68,.mov (.tmp 8),none,[]⟩,⟨some 69,.iaddr 3 (.tmp 67) (.tmp 68),none,[4,5]⟩,⟨some 70,.load (some 3) (.tmp 69),none,[6,4,5]⟩,⟨some 71,.load (some 3) (.tmp 5),none,[]⟩,⟨some 72,.call (.func 101) [.tmp 70,.tmp 71],none,[7,6,4,5,8,3,1,2]⟩,⟨some 73,.call (.func 102) [.tmp 66,.tmp 72],none,[3,1,2,9,7,6,4,5,8]⟩,⟨some 74,.call (.func 99) [.tmp 63,.tmp 73],none,[0,10,3,1,2,9,7,6,4,5,8]⟩,⟨some 75,.bin .lss (.tmp 74) (.const (.int .i64 0)),none,[11,0,10,3,1,2,9,7,6,4,5,8]⟩]) (.cond (.tmp 75) (.seq (.ops false [⟨some 2,.mov (.const (.bool false)),none,[]⟩]) .ret) .skip))) (.ops false [⟨some 61,.mov (.tmp 8),none,[]⟩,⟨some 62,.bin .add (.tmp 61) (.const (.int .i64 1)),none,[]⟩,⟨some 8,.mov (.tmp 62),none,[]⟩])))
def dk97_0 : Keep := ⟨[],[0,3,4,5,6,8],[3,5,6,7]⟩
def db97_1 : DC := (.seq (.seq (.ops false [⟨some 11,.mov (.tmp 4),none,[]⟩,⟨some 12,.mov (.tmp 0),none,[]⟩,⟨some 13,.len (.tmp 12),none,[]⟩,⟨some 14,.bin .lss (.tmp 11) (.tmp 13),none,[]⟩]) (.cond (.tmp 14) .skip (.exit 0))) (.seq (.block 1 (some ⟨[],[0,3,4],[3]⟩) (.seq (.ops true [⟨some 17,.mov (.tmp 0),none,[]⟩,⟨some 18,.mov (.tmp 4),none,[]⟩,⟨some 19,.iaddr 3 (.tmp 17) (.tmp 18),none,[0,1]⟩,⟨some 20,.load (some 3) (.tmp 19),none,[2,0,1]⟩,⟨some 21,.mov (.tmp 0),none,[]⟩,⟨some 22,.mov (.tmp 4),none,[]⟩,⟨some 23,.bin .add (.tmp 22) (.const (.int .i64 1)),none,[5]⟩,⟨some 24,.mov (.tmp 0),none,[]⟩,⟨some 25,.len (.tmp 24),none,[7]⟩,⟨some 26,.bin .rem (.tmp 23) (.tmp 25),none,[6,5,8,7]⟩,⟨some 27,.iaddr 3 (.tmp 21) (.tmp 26),none,[4,9,6,5,8,7]⟩,⟨some 28,.load (some 3) (.tmp 27),none,[10,4,9,6,5,8,7]⟩,⟨some 29,.mov (.tmp 0),none,[]⟩,⟨some 30,.mov (.tmp 4),none,[]⟩,⟨some 31,.bin .add (.tmp 30) (.const (.int .i64 2)),none,[13]⟩,⟨some 32,.mov (.tmp 0),none,[]⟩,⟨some 33,.len (.tmp 32),none,[15]⟩,⟨some 34,.bin .rem (.tmp 31) (.tmp 33),none,[14,13,16,15]⟩,⟨some 35,.iaddr 3 (.tmp 29) (.tmp 34),none,[12,17,14,13,16,15]⟩,⟨some 36,.load (some 3) (.tmp 35),none,[18,12,17,14,13,16,15]⟩,⟨some 5,.alloc (.agg [.int .i64 0,.int .i64 0,.int .i64 0]) 3,none,[]⟩,⟨some 6,.alloc (.agg [.int .i64 0,.int .i64 0,.int .i64 0]) 3,none,[]⟩,⟨some 7,.alloc (.agg [.int .i64 0,.int .i64 0,.int .i64 0]) 3,none,[]⟩,⟨none,.store 3 (.tmp 5) (.tmp 20),none,[20,3,2,0,1,21,22]⟩,⟨none,.store 3 (.tmp 6) (.tmp 28),none,[21,11,10,4,9,6,5,8,7,23,20,3,2,0,1,22]⟩,⟨none,.store 3 (.tmp 7) (.tmp 36),none,[22,19,18,12,17,14,13,16,15,24,21,11,10,4,9,6,5,8,7,23,20,3,2,0,1]⟩]) (.seq (.seq (.ops true [⟨some 37,.load (some 3) (.tmp 3),none,[]⟩,⟨some 38,.load (some 3) (.tmp 5),none,[]⟩,⟨some 39,.mov (.tmp 0),none,[]⟩,⟨some 40,.iaddr 3 (.tmp 39) (.const (.int .i64 0)),none,[2]⟩,⟨some 41,.load (some 3) (.tmp 40),none,[3,2]⟩,⟨some 42,.call (.func 101) [.tmp 38,.tmp 41],none,[1,4,3,2]⟩,⟨some 43,.call (.func 99) [.tmp 37,.tmp 42],none,[0,5,1,4,3,2]⟩,⟨some 44,.bin .neq (.tmp 43) (.const (.int .i64 0)),none,[6,0,5,1,4,3,2]⟩,⟨some 45,.mov (.tmp 44),none,[7,6,0,5,1,4,3,2]⟩,⟨some 46,.load (some 3) (.tmp 3),some (45,false),[8,7,6,0,5,1,4,3,2]⟩,⟨some 47,.load (some 3) (.tmp 6),some (45,false),[8,7,6,0,5,1,4,3,2]⟩,⟨some 48,.load (some 3) (.tmp 5),some (45,false),[8,7,6,0,5,1,4,3,2]⟩,⟨some 49,.call (.func 101) [.tmp 47,.tmp 48],some (45,false),[10,8,7,6,0,5,1,4,3,2,11]⟩,⟨some 50,.load (some 3) (.tmp 7),some (45,false),[8,7,6,0,5,1,4,3,2]⟩,⟨some 51,.load (some 3) (.tmp 6),some (45,false),[8,7,6,0,5,1,4,3,2]⟩,⟨some 52,.call (.func 101) [.tmp 50,.tmp 51],some (45,false),[13,8,7,6,0,5,1,4,3,2,14,12,10,11]⟩,⟨some 53,.call (.func 102) [.tmp 49,.tmp 52],some (45,false),[12,10,8,7,6,0,5,1,4,3,2,11,15,13,14]⟩,⟨some 54,.call (.func 99) [.tmp 46,.tmp 53],some (45,false),[9,8,7,6,0,5,1,4,3,2,16,12,10,11,15,13,14]⟩,⟨some 55,.bin .leq (.tmp 54) (.const (.int .i64 0)),some (45,false),[17,9,8,7,6,0,5,1,4,3,2,16,12,10,11,15,13,14]⟩,⟨some 56,.pick (.tmp 45) (.const (.bool true)) (.tmp 55),none,[8,7,6,0,5,1,4,3,2,18,17,9,16,12,10,11,15,13,14]⟩]) (.cond (.tmp 56) (.seq (.ops false [⟨some 2,.mov (.const (.bool false)),none,[]⟩]) .ret) .skip)) (.seq (.ops false [⟨some 8,.mov (.const (.int .i64 0)),none,[]⟩]) (.block 2 (some ⟨[],[0,3,4],[3,5,6,7]⟩) (.loop dk97_0 db97_0)))))) (.ops false [⟨some 15,.mov (.tmp 4),none,[]⟩,⟨some 16,.bin .add (.tmp 15) (.const (.int .i64 1)),none,[]⟩,⟨some 4,.mov (.tmp 16),none,[]⟩])))
def dk97_1 : Keep := ⟨[],[0,3,4],[3]⟩
def dc97 : DFunc := ⟨76,1,[.tmp 2],.seq (.ops false [⟨some 2,.mov (.const (.bool false)),none,[]⟩]) (.seq (.ops false [⟨some 9,.mov (.tmp 0),none,[]⟩,⟨some 10,.call (.func 98) [.tmp 9],none,[]⟩,⟨some 3,.alloc (.agg [.int .i64 0,.int .i64 0,.int .i64 0]) 3,none,[]⟩,⟨none,.store 3 (.tmp 3) (.tmp 10),none,[]⟩]) (.seq (.seq (.ops false [⟨some 4,.mov (.const (.int .i64 0)),none,[]⟩]) (.block 0 (some ⟨[],[],[3]⟩) (.loop dk97_1 db97_1))) (.seq (.ops false [⟨some 2,.mov (.const (.bool true)),none,[]⟩]) .ret)))⟩
theorem dh97:cProg Go.Proofs.Tryz.prog ⟨[(0,⟨[],[0,3,4],[3]⟩),(2,⟨[],[0,3,4,5,6,8],[3,5,6,7]⟩)],[(2,⟨[],[0,3,4],[3,5,6,7]⟩),(1,⟨[],[0,3,4],[3]⟩),(0,⟨[],[],[3]⟩)],[]⟩ 97=some dc97:=by kernel_rfl
def dc98 : DFunc := ⟨18,1,[.cell 2 (some 3)],.seq (.ops false [⟨some 2,.alloc (.agg [.int .i64 0,.int .i64 0,.int .i64 0]) 3,none,[]⟩]) (.seq (.ops true [⟨some 3,.mov (.tmp 0),none,[]⟩,⟨some 4,.iaddr 3 (.tmp 3) (.const (.int .i64 1)),none,[0]⟩,⟨some 5,.load (some 3) (.tmp 4),none,[1,0]⟩,⟨some 6,.mov (.tmp 0),none,[]⟩,⟨some 7,.iaddr 3 (.tmp 6) (.const (.int .i64 0)),none,[3]⟩,⟨some 8,.load (some 3) (.tmp 7),none,[4,3]⟩,⟨some 9,.call (.func 101) [.tmp 5,.tmp 8],none,[2,1,0,5,4,3]⟩,⟨some 10,.mov (.tmp 0),none,[]⟩,⟨some 11,.iaddr 3 (.tmp 10) (.const (.int .i64 2)),none,[7]⟩,⟨some 12,.load (some 3) (.tmp 11),none,[8,7]⟩,⟨some 13,.mov (.tmp 0),none,[]⟩,⟨some 14,.iaddr 3 (.tmp 13) (.const (.int .i64 0)),none,[10]⟩,⟨some 15,.load (some 3) (.tmp 14),none,[11,10]⟩,⟨some 16,.call (.func 101) [.tmp 12,.tmp 15],none,[9,8,7,12,11,10,6,2,1,0,5,4,3]⟩,⟨some 17,.call (.func 102) [.tmp 9,.tmp 16],none,[6,2,1,0,5,4,3,13,9,8,7,12,11,10]⟩,⟨none,.store 3 (.tmp 2) (.tmp 17),none,[14,6,2,1,0,5,4,3,13,9,8,7,12,11,10]⟩]) .ret)⟩
theorem dh98:cProg Go.Proofs.Tryz.prog ⟨[],[],[]⟩ 98=some dc98:=by kernel_rfl
def dc99 : DFunc := ⟨22,2,[.tmp 4],.seq (.ops false [⟨some 2,.box 3 (.tmp 0),none,[]⟩,⟨some 3,.box 3 (.tmp 1),none,[]⟩,⟨some 4,.mov (.const (.int .i64 0)),none,[]⟩]) (.seq (.ops false [⟨some 5,.faddr 0 1 false (.tmp 2),none,[]⟩,⟨some 6,.load none (.tmp 5),none,[]⟩,⟨some 7,.faddr 0 1 false (.tmp 3),none,[]⟩,⟨some 8,.load none (.tmp 7),none,[]⟩,⟨some 9,.bin .mul (.tmp 6) (.tmp 8),none,[]⟩,⟨some 10,.faddr 1 1 false (.tmp 2),none,[]⟩,⟨some 11,.load none (.tmp 10),none,[]⟩,⟨some 12,.faddr 1 1 false (.tmp 3),none,[]⟩,⟨some 13,.load none (.tmp 12),none,[]⟩,⟨some 14,.bin .mul (.tmp 11) (.tmp 13),none,[]⟩,⟨some 15,.bin .add (.tmp 9) (.tmp 14),none,[]⟩,⟨some 16,.faddr 2 1 false (.tmp 2),none,[]⟩,⟨some 17,.load none (.tmp 16),none,[]⟩,⟨some 18,.faddr 2 1 false (.tmp 3),none,[]⟩,⟨some 19,.load none (.tmp 18),none,[]⟩,⟨some 20,.bin .mul (.tmp 17) (.tmp 19),none,[]⟩,⟨some 21,.bin .add (.tmp 15) (.tmp 20),none,[]⟩,⟨some 4,.mov (.tmp 21),none,[]⟩]) .ret)⟩
theorem dh99:cProg Go.Proofs.Tryz.prog ⟨[],[],[]⟩ 99=some dc99:=by kernel_rfl
def dc101 : DFunc := ⟨21,2,[.cell 4 (some 3)],.seq (.ops false [⟨some 2,.box 3 (.tmp 0),none,[]⟩,⟨some 3,.box 3 (.tmp 1),none,[]⟩,⟨some 4,.alloc (.agg [.int .i64 0,.int .i64 0,.int .i64 0]) 3,none,[]⟩]) (.seq (.ops false [⟨some 5,.faddr 0 1 false (.tmp 2),none,[]⟩,⟨some 6,.load none (.tmp 5),none,[]⟩,⟨some 7,.faddr 0 1 false (.tmp 3),none,[]⟩,⟨some 8,.load none (.tmp 7),none,[]⟩,⟨some 9,.bin .sub (.tmp 6) (.tmp 8),none,[]⟩,⟨some 10,.faddr 1 1 false (.tmp 2),none,[]⟩,⟨some 11,.load none (.tmp 10),none,[]⟩,⟨some 12,.faddr 1 1 false (.tmp 3),none,[]⟩,⟨some 13,.load none (.tmp 12),none,[]⟩,⟨some 14,.bin .sub (.tmp 11) (.tmp 13),none,[]⟩,⟨some 15,.faddr 2 1 false (.tmp 2),none,[]⟩,⟨some 16,.load none (.tmp 15),none,[]⟩,⟨some 17,.faddr 2 1 false (.tmp 3),none,[]⟩,⟨some 18,.load none (.tmp 17),none,[]⟩,⟨some 19,.bin .sub (.tmp 16) (.tmp 18),none,[]⟩,⟨some 20,.build [.int .i64 0,.int .i64 0,.int .i64 0] [(0,(1,(.tmp 9))),(1,(1,(.tmp 14))),(2,(1,(.tmp 19)))],none,[]⟩,⟨none,.store 3 (.tmp 4) (.tmp 20),none,[]⟩]) .ret)⟩
theorem dh101:cProg Go.Proofs.Tryz.prog ⟨[],[],[]⟩ 101=some dc101:=by kernel_rfl
def dc102 : DFunc := ⟨39,2,[.cell 4 (some 3)],.seq (.ops false [⟨some 2,.box 3 (.tmp 0),none,[]⟩,⟨some 3,.box 3 (.tmp 1),none,[]⟩,⟨some 4,.alloc (.agg [.int .i64 0,.int .i64 0,.int .i64 0]) 3,none,[]⟩]) (.seq (.ops false [⟨some 5,.faddr 1 1 false (.tmp 2),none,[]⟩,⟨some 6,.load none (.tmp 5),none,[]⟩,⟨some 7,.faddr 2 1 false (.tmp 3),none,[]⟩,⟨some 8,.load none (.tmp 7),none,[]⟩,⟨some 9,.bin .mul (.tmp 6) (.tmp 8),none,[]⟩,⟨some 10,.faddr 2 1 false (.tmp 2),none,[]⟩,⟨some 11,.load none (.tmp 10),none,[]⟩,⟨some 12,.faddr 1 1 false (.tmp 3),none,[]⟩,⟨some 13,.load none (.tmp 12),none,[]⟩,⟨some 14,.bin .mul (.tmp 11) (.tmp 13),none,[]⟩,⟨some 15,.bin .sub (.tmp 9) (.tmp 14),none,[]⟩,⟨some 16,.faddr 2 1 false (.tmp 2),none,[]⟩,⟨some 17,.load none (.tmp 16),none,[]⟩,⟨some 18,.faddr 0 1 false (.tmp 3),none,[]⟩,⟨some 19,.load none (.tmp 18),none,[]⟩,⟨some 20,.bin .mul (.tmp 17) (.tmp 19),none,[]⟩,⟨some 21,.faddr 0 1 false (.tmp 2),none,[]⟩,⟨some 22,.load none (.tmp 21),none,[]⟩,⟨some 23,.faddr 2 1 false (.tmp 3),none,[]⟩,⟨some 24,.load none (.tmp 23),none,[]⟩,⟨some 25,.bin .mul (.tmp 22) (.tmp 24),none,[]⟩,⟨some 26,.bin .sub (.tmp 20) (.tmp 25),none,[]⟩,⟨some 27,.faddr 0 1 false (.tmp 2),none,[]⟩,⟨some 28,.load none (.tmp 27),none,[]⟩,⟨some 29,.faddr 1 1 false (.tmp 3),none,[]⟩,⟨some 30,.load none (.tmp 29),none,[]⟩,⟨some 31,.bin .mul (.tmp 28) (.tmp 30),none,[]⟩,⟨some 32,.faddr 1 1 false (.tmp 2),none,[]⟩,⟨some 33,.load none (.tmp 32),none,[]⟩,⟨some 34,.faddr 0 1 false (.tmp 3),none,[]⟩,⟨some 35,.load none (.tmp 34),none,[]⟩,⟨some 36,.bin .mul (.tmp 33) (.tmp 35),none,[]⟩,⟨some 37,.bin .sub (.tmp 31) (.tmp 36),none,[]⟩,⟨some 38,.build [.int .i64 0,.int .i64 0,.int .i64 0] [(0,(1,(.tmp 15))),(1,(1,(.tmp 26))),(2,(1,(.tmp 37)))],none,[]⟩,⟨none,.store 3 (.tmp 4) (.tmp 38),none,[]⟩]) .ret)⟩
theorem dh102:cProg Go.Proofs.Tryz.prog ⟨[],[],[]⟩ 102=some dc102:=by kernel_rfl
end Sh

namespace Sh
open Go
def dc16 : DFunc := ⟨6,1,[.tmp 2],.seq (.ops false [⟨some 2,.mov (.const (.slice none 0 0)),none,[]⟩]) (.seq (.ops false [⟨some 3,.lit true 3 0 (.agg [.int .i64 0,.int .i64 0,.int .i64 0]) [],none,[]⟩,⟨some 4,.mov (.tmp 0),none,[]⟩,⟨some 5,.append true 3 (.tmp 3) (.tmp 4),none,[]⟩,⟨some 2,.mov (.tmp 5),none,[]⟩]) .ret)⟩
theorem dh16:cProg Go.Proofs.Tryz.prog ⟨[],[],[3,5]⟩ 16=some dc16:=by kernel_rfl
def db21_0 : DC := (.seq (.seq (.ops false [⟨some 19,.mov (.tmp 4),none,[]⟩,⟨some 20,.mov (.tmp 0),none,[]⟩,⟨some 21,.len (.tmp 20),none,[]⟩,⟨some 22,.bin .lss (.tmp 19) (.tmp 21),none,[]⟩]) (.cond (.tmp 22) .skip (.exit 0))) (.seq (.block 1 none (.seq (.ops true [⟨some 25,.mov (.tmp 0),none,[]⟩,⟨some 26,.mov (.tmp 4),none,[]⟩,⟨some 27,.iaddr 3 (.tmp 25) (.tmp 26),none,[0,1]⟩,⟨some 28,.faddr 0 1 false (.tmp 27),none,[2,0,1]⟩,⟨some 29,.load none (.tmp 28),none,[3,2,0,1]⟩,⟨some 30,.call (.func 96) [.tmp 29,.const (.int .i64 (-1000)),.const (.int .i64 1000)],none,[4,3,2,0,1]⟩,⟨some 31,.mov (.tmp 0),none,[]⟩,⟨some 32,.mov (.tmp 4),none,[]⟩,⟨some 33,.iaddr 3 (.tmp 31) (.tmp 32),none,[6,7]⟩,⟨some 34,.faddr 1 1 false (.tmp 33),none,[8,6,7]⟩,⟨some 35,.load none (.tmp 34),none,[9,8,6,7]⟩,⟨some 36,.call (.func 96) [.tmp 35,.const (.int .i64 (-1000)),.const (.int .i64 1000)],none,[10,9,8,6,7,5,4,3,2,0,1]⟩,⟨some 37,.mov (.tmp 0),none,[]⟩,⟨some 38,.mov (.tmp 4),none,[]⟩,⟨some 39,.iaddr 3 (.tmp 37) (.tmp 38),none,[12,13]⟩,⟨some 40,.faddr 2 1 false (.tmp 39),none,[14,12,13]⟩,⟨some 41,.load none (.tmp 40),none,[15,14,12,13]⟩,⟨some 42,.call (.func 96) [.tmp 41,.const (.int .i64 0),.const (.int .i64 1000)],none,[16,15,14,12,13,11,10,9,8,6,7,5,4,3,2,0,1]⟩,⟨some 43,.lit true 1 3 (.int .i64 0) [(0,(.tmp 30)),(1,(.tmp 36)),(2,(.tmp 42))],none,[5,4,3,2,0,1,11,10,9,8,6,7,17,16,15,14,12,13]⟩,⟨some 44,.call (.func 94) [.tmp 43],none,[18,5,4,3,2,0,1,11,10,9,8,6,7,17,16,15,14,12,13]⟩,⟨some 5,.mov (.tmp 44),none,[19,18,5,4,3,2,0,1,11,10,9,8,6,7,17,16,15,14,12,13]⟩]) (.seq (.ops false [⟨some 45,.mov (.tmp 5),none,[]⟩,⟨some 46,.bin .neq (.tmp 45) (.const (.int .i64 0)),none,[]⟩]) (.cond (.tmp 46) (.seq (.ops false [⟨some 47,.mov (.tmp 5),none,[]⟩,⟨some 2,.mov (.tmp 47),none,[]⟩]) .ret) .skip)))) (.ops false [⟨some 23,.mov (.tmp 4),none,[]⟩,⟨some 24,.bin .add (.tmp 23) (.const (.int .i64 1)),none,[]⟩,⟨some 4,.mov (.tmp 24),none,[]⟩])))
def dk21_0 : Keep := ⟨[],[0,4],[14]⟩
def dc21 : DFunc := ⟨52,1,[.tmp 2],.seq (.ops false [⟨some 2,.mov (.const (.int .i64 0)),none,[]⟩]) (.seq (.seq (.ops false [⟨some 6,.mov (.tmp 0),none,[]⟩,⟨some 7,.len (.tmp 6),none,[]⟩,⟨some 8,.bin .lss (.tmp 7) (.const (.int .i64 3)),none,[]⟩,⟨some 9,.call (.func 95) [.tmp 8,.const (.int .i64 16)],none,[]⟩,⟨some 10,.mov (.tmp 0),none,[]⟩,⟨some 11,.len (.tmp 10),none,[]⟩,⟨some 12,.bin .gtr (.tmp 11) (.const (.int .i64 6)),none,[]⟩,⟨some 13,.call (.func 95) [.tmp 12,.const (.int .i64 5)],none,[]⟩,⟨some 14,.lit true 1 2 (.int .i64 0) [(0,(.tmp 9)),(1,(.tmp 13))],none,[]⟩,⟨some 15,.call (.func 94) [.tmp 14],none,[]⟩,⟨some 3,.mov (.tmp 15),none,[]⟩]) (.seq (.ops false [⟨some 16,.mov (.tmp 3),none,[]⟩,⟨some 17,.bin .neq (.tmp 16) (.const (.int .i64 0)),none,[]⟩]) (.cond (.tmp 17) (.seq (.ops false [⟨some 18,.mov (.tmp 3),none,[]⟩,⟨some 2,.mov (.tmp 18),none,[]⟩]) .ret) .skip))) (.seq (.seq (.ops false [⟨some 4,.mov (.const (.int .i64 0)),none,[]⟩]) (.block 0 (some ⟨[],[0],[14]⟩) (.loop dk21_0 db21_0))) (.seq (.ops false [⟨some 48,.mov (.tmp 0),none,[]⟩,⟨some 49,.call (.func 97) [.tmp 48],none,[]⟩,⟨some 50,.un .not (.tmp 49),none,[]⟩,⟨some 51,.call (.func 95) [.tmp 50,.const (.int .i64 1)],none,[]⟩,⟨some 2,.mov (.tmp 51),none,[]⟩]) .ret)))⟩
theorem dh21:cProg Go.Proofs.Tryz.prog ⟨[(0,⟨[],[0,4],[14]⟩)],[(0,⟨[],[0],[14]⟩)],[14,43]⟩ 21=some dc21:=by kernel_rfl
def dc22 : DFunc := ⟨14,1,[.tmp 2],.seq (.ops false [⟨some 1,.box 3 (.tmp 0),none,[]⟩,⟨some 2,.mov (.const (.int .i64 0)),none,[]⟩]) (.seq (.ops true [⟨some 3,.faddr 0 1 false (.tmp 1),none,[]⟩,⟨some 4,.load none (.tmp 3),none,[0]⟩,⟨some 5,.call (.func 96) [.tmp 4,.const (.int .i64 (-1000)),.const (.int .i64 1000)],none,[1,0]⟩,⟨some 6,.faddr 1 1 false (.tmp 1),none,[]⟩,⟨some 7,.load none (.tmp 6),none,[3]⟩,⟨some 8,.call (.func 96) [.tmp 7,.const (.int .i64 (-1000)),.const (.int .i64 1000)],none,[4,3,2,1,0]⟩,⟨some 9,.faddr 2 1 false (.tmp 1),none,[]⟩,⟨some 10,.load none (.tmp 9),none,[6]⟩,⟨some 11,.call (.func 96) [.tmp 10,.const (.int .i64 1),.const (.int .i64 1000)],none,[7,6,5,4,3,2,1,0]⟩,⟨some 12,.lit true 1 3 (.int .i64 0) [(0,(.tmp 5)),(1,(.tmp 8)),(2,(.tmp 11))],none,[2,1,0,5,4,3,8,7,6]⟩,⟨some 13,.call (.func 94) [.tmp 12],none,[9,2,1,0,5,4,3,8,7,6]⟩,⟨some 2,.mov (.tmp 13),none,[10,9,2,1,0,5,4,3,8,7,6]⟩]) .ret)⟩
theorem dh22:cProg Go.Proofs.Tryz.prog ⟨[],[],[12]⟩ 22=some dc22:=by kernel_rfl
def dc23 : DFunc := ⟨11,1,[.tmp 2],.seq (.ops false [⟨some 1,.box 2 (.tmp 0),none,[]⟩,⟨some 2,.mov (.const (.int .i64 0)),none,[]⟩]) (.seq (.ops true [⟨some 3,.faddr 0 1 false (.tmp 1),none,[]⟩,⟨some 4,.load none (.tmp 3),none,[0]⟩,⟨some 5,.call (.func 96) [.tmp 4,.const (.int .i64 (-1000)),.const (.int .i64 1000)],none,[1,0]⟩,⟨some 6,.faddr 1 1 false (.tmp 1),none,[]⟩,⟨some 7,.load none (.tmp 6),none,[3]⟩,⟨some 8,.call (.func 96) [.tmp 7,.const (.int .i64 (-1000)),.const (.int .i64 1000)],none,[4,3,2,1,0]⟩,⟨some 9,.lit true 1 2 (.int .i64 0) [(0,(.tmp 5)),(1,(.tmp 8))],none,[2,1,0,5,4,3]⟩,⟨some 10,.call (.func 94) [.tmp 9],none,[6,2,1,0,5,4,3]⟩,⟨some 2,.mov (.tmp 10),none,[7,6,2,1,0,5,4,3]⟩]) .ret)⟩
theorem dh23:cProg Go.Proofs.Tryz.prog ⟨[],[],[9]⟩ 23=some dc23:=by kernel_rfl
end Sh

namespace Sh
open Go Go.Proofs
theorem q_When (b:Bool) (e:Int):PC 95 [.bool b,DV.int .i64 (e)] (DV.int .i64 (whenE b e)):=by
 refine pureCall_ofR dh95 rfl ?_
 conv=>whnf
 refine ⟨fun hb=>?_,fun hb=>?_⟩<;>try (exact absurd hb (by decide))
 all_goals conv=>whnf
 all_goals subst hb;rfl
theorem q_CheckRange (n l h:Int):PC 96 [DV.int .i64 (n),DV.int .i64 (l),DV.int .i64 (h)] (DV.int .i64 (withE n l h)):=by
 refine pureCall_ofR dh96 rfl ?_
 conv=>whnf
 refine ⟨fun hb=>?_,fun hb=>?_⟩<;>try (exact absurd hb (by decide))
 all_goals conv=>whnf
 ·refine .inl ?_
  conv=>whnf
  refine ⟨_,q_When ..,?_⟩
  conv=>whnf
  exact int_eq (by simp_all [withE,whenE];split<;>split<;>omega)
 ·refine .inl ?_
  conv=>whnf
  refine ⟨_,q_When ..,?_⟩
  conv=>whnf
  exact int_eq (by simp_all [withE,whenE])
theorem q_First (l:List Int) (hl:l.length < 4611686018427387904):PC 94 [iL l] (DV.int .i64 (firstE l)):=by
 refine pureCall_ofR dh94 rfl ?_
 conv=>whnf
 refine dwp_loopR (P:=Tryz.prog) (G:=GC) (k:=dk94_0) (b:=db94_0) (α:=Nat) (fun i=>[(0,iL l),(3,DV.int .i64 (i))]) (fun _=>[]) (fun i=>i≤l.length∧firstE l=firstE (l.drop i)) (fun i=>l.length - i) 0 ⟨rfl,rfl,rfl⟩ ⟨Nat.zero_le _,rfl⟩ ?_
 intro i ⟨h1,h2⟩
 conv=>whnf
 refine ⟨fun hb=>?_,fun hb=>?_⟩<;>try (exact absurd hb (by decide))
 ·have hi:i < l.length:=by simpa using hb
  have hd:=firstE_drop l i hi
  conv=>whnf
  rw [getD_enc _ _ (i) 0 hi]
  refine ⟨idxA hi rfl,?_⟩
  conv=>whnf
  refine ⟨fun hb=>?_,fun hb=>?_⟩<;>try (exact absurd hb (by decide))
  ·conv=>whnf
   rw [getD_enc _ _ (i) 0 hi]
   refine ⟨idxA hi rfl,?_⟩
   conv=>whnf
   exact int_eq (by simp_all)
  ·conv=>whnf
   rw [wrap_succ i (by omega)]
   exact ⟨i+1,rfl,rfl,rfl,⟨hi,by simp_all⟩,by omega⟩
 ·conv=>whnf
  have:i=l.length:=by simp at hb;omega
  subst this
  exact int_eq (by rw [h2];simp [firstE])
end Sh

namespace Sh
open Go
theorem nrmV_ref (s:List V3):crsV (subV (s.getD 1 V0) (s.getD 0 V0)) (subV (s.getD 2 V0) (s.getD 0 V0))=nrmV s:=by
 unfold nrmV crsV subV
 simp only [V3.mk.injEq]
 refine ⟨?_,?_,?_⟩<;>grind
end Sh

namespace Sh
open Go
theorem absI_pos (n:Int):0≤absI n:=by unfold absI;split<;>omega
end Sh

namespace Sh
open Go
theorem sI_add (s:List V3) (i:Nat):sI s (i+s.length)=sI s i:=by unfold sI;rw [Nat.add_mod_right]
theorem crs_along {n u v:V3} (hu:dotV n u=0) (hv:dotV n v=0) (z:V3):dotV n n * dotV (crsV u v) z=dotV n (crsV u v) * dotV n z:=by
 obtain ⟨n1,n2,n3⟩:=n
 obtain ⟨u1,u2,u3⟩:=u
 obtain ⟨v1,v2,v3⟩:=v
 obtain ⟨z1,z2,z3⟩:=z
 unfold dotV crsV at *
 simp only at *
 have a1:(n1 * n1+n2 * n2+n3 * n3) * (u2 * v3 - u3 * v2)=(n1 * (u2 * v3 - u3 * v2)+n2 * (u3 * v1 - u1 * v3)+n3 * (u1 * v2 - u2 * v1)) * n1:=by grind
 have a2:(n1 * n1+n2 * n2+n3 * n3) * (u3 * v1 - u1 * v3)=(n1 * (u2 * v3 - u3 * v2)+n2 * (u3 * v1 - u1 * v3)+n3 * (u1 * v2 - u2 * v1)) * n2:=by grind
 have a3:(n1 * n1+n2 * n2+n3 * n3) * (u1 * v2 - u2 * v1)=(n1 * (u2 * v3 - u3 * v2)+n2 * (u3 * v1 - u1 * v3)+n3 * (u1 * v2 - u2 * v1)) * n3:=by grind
 grind
theorem sq_nn (a:Int):0≤a * a:=by
 rcases Int.le_total 0 a with h|h
 ·exact Int.mul_nonneg h h
 ·exact Int.mul_nonneg_of_nonpos_of_nonpos h h
theorem dot_self_pos {n z:V3} (h:0 < dotV n z):0 < dotV n n:=by
 rcases Int.lt_trichotomy (dotV n n) 0 with h1|h1|h1
 ·unfold dotV at h1
  have:=sq_nn n.x
  have:=sq_nn n.y
  have:=sq_nn n.z
  omega
 ·unfold dotV at h1
  have a:=sq_nn n.x
  have b:=sq_nn n.y
  have c:=sq_nn n.z
  have ha:n.x=0:=by have:n.x * n.x=0:=by omega
                    rcases Int.mul_eq_zero.1 this with h|h<;>exact h
  have hb:n.y=0:=by have:n.y * n.y=0:=by omega
                    rcases Int.mul_eq_zero.1 this with h|h<;>exact h
  have hc:n.z=0:=by have:n.z * n.z=0:=by omega
                    rcases Int.mul_eq_zero.1 this with h|h<;>exact h
  unfold dotV at h
  rw [ha,hb,hc] at h
  simp at h
 ·exact h1
end Sh

namespace Sh
open Go
theorem Flat.along {n:V3} {s:List V3} (h:Flat n s) (i:Nat):Along n (crsV (subV (sI s (i+1)) (sI s i)) (subV (sI s (i+2)) (sI s (i+1)))) 1 :=
 ⟨dotV n n,_,dot_self_pos (h.cv i),h.cv i,fun z=>by rw [crs_along (h.step _ _) (h.step _ _),Int.one_mul]⟩
def turnI (s:List V3) (sun:V3) (g:V3) (i:Nat):Int:=dotV sun (crsV (subV (sI s i) g) (subV (sI s (i+1)) g))
theorem turns_all {s:List V3} {sun:V3} {p:Pt} (hk:0 < s.length) (q:Int→Bool):(turnsL s sun p).all q=true ↔ ∀ i,q (turnI s sun (gndV p) i)=true:=by
 unfold turnsL rng
 rw [List.all_map,List.all_eq_true]
 constructor
 ·intro h i
  have:=h (i % s.length) (List.mem_range.2 (Nat.mod_lt _ hk))
  have e:turnV s sun p (i % s.length)=turnI s sun (gndV p) i:=by
   unfold turnV turnI
   rw [aft_sI,sI_mod];rfl
  simp only [Function.comp_apply,e] at this
  exact this
 ·intro h i hi
  have hi:=List.mem_range.1 hi
  have e:turnV s sun p i=turnI s sun (gndV p) i:=by
   unfold turnV turnI
   rw [aft_sI,getD_sI hi]
  simp only [Function.comp_apply,e]
  exact h i
theorem front_same {n m:V3} {e:Int} (he:e=1∨e = -1) (k:Along n m e) {sun a b:V3} (hab:dotV n a=dotV n b) :
  (decide (sgn (dotV m sun)≠0) && decide (sgn (dotV m sun)=sgn (dotV m b)))=(decide (sgn (dotV n sun)≠0) && decide (sgn (dotV n sun)=sgn (dotV n a))):=by
 rw [along_sgn he k sun,along_sgn he k b,← hab]
 rcases he with rfl|rfl
 ·simp only [Int.one_mul]
 ·have h1:(decide (-1 * sgn (dotV n sun)≠0))=decide (sgn (dotV n sun)≠0):=decide_eq_decide.2 (by omega)
  have h2:(decide (-1 * sgn (dotV n sun) = -1 * sgn (dotV n a)))=decide (sgn (dotV n sun)=sgn (dotV n a)):=decide_eq_decide.2 (by omega)
  rw [h1,h2]
theorem rot_sI {s:List V3} {k:Nat} (hk:k < s.length) (i:Nat):sI (s.drop k++s.take k) i=sI s (k+i):=by
 have hl:(s.drop k++s.take k).length=s.length:=by simp;omega
 unfold sI
 rw [hl]
 have hm:=Nat.mod_lt i (show 0 < s.length by omega)
 have e:(k+i) % s.length=(k+i % s.length) % s.length:=by rw [Nat.add_mod_mod]
 rw [e]
 by_cases h:i % s.length < s.length - k
 ·rw [Nat.mod_eq_of_lt (show k+i % s.length < s.length by omega)]
  have hx:k+i % s.length < s.length:=by omega
  simp [List.getD_eq_getElem?_getD,List.getElem?_append,h,hx]
 ·have e2:(k+i % s.length) % s.length=k+i % s.length - s.length:=by
   rw [Nat.mod_eq_sub_mod (by omega),Nat.mod_eq_of_lt (by omega)]
  rw [e2]
  have h3:k+i % s.length - s.length < k:=by omega
  have h4:i % s.length - (s.length - k)=k+i % s.length - s.length:=by omega
  simp [List.getD_eq_getElem?_getD,List.getElem?_append,h,List.getElem?_take,h4,h3]
theorem rot_flat {s:List V3} {k:Nat} (hk:k < s.length) (h:Flat (nrmV s) s):Flat (nrmV (s.drop k++s.take k)) (s.drop k++s.take k)∧Along (nrmV s) (nrmV (s.drop k++s.take k)) 1:=by
 have hl:(s.drop k++s.take k).length=s.length:=by simp;omega
 have hb:Flat (nrmV s) (s.drop k++s.take k):=by
  refine ⟨by rw [hl];exact h.len,fun i=>?_,fun i=>?_,fun i o ho=>?_⟩
  ·rw [rot_sI hk,rot_sI hk];exact h.step _ _
  ·rw [rot_sI hk,rot_sI hk,rot_sI hk];exact h.cv (k+i)
  ·rw [rot_sI hk,rot_sI hk]
   refine h.all (k+i) o ?_
   rcases List.mem_append.1 ho with ho|ho
   ·exact List.mem_of_mem_drop ho
   ·exact List.mem_of_mem_take ho
 have ha:Along (nrmV s) (nrmV (s.drop k++s.take k)) 1:=by
  rw [nrm_sI hb.len]
  exact hb.along 0
 exact ⟨hb.to ha,ha⟩
theorem rot_hid {s:List V3} {k:Nat} (hk:k < s.length) (h:Flat (nrmV s) s) (sun:V3) (p:Pt):hidB (s.drop k++s.take k) sun p=hidB s sun p:=by
 obtain ⟨hb,ha⟩:=rot_flat hk h
 have hl:(s.drop k++s.take k).length=s.length:=by simp;omega
 have h3:=h.len
 have hall:∀ q:Int→Bool,(turnsL (s.drop k++s.take k) sun p).all q=(turnsL s sun p).all q:=fun q=>by
  refine bool_iff ?_
  rw [turns_all (by omega),turns_all (by omega)]
  have e:∀ i,turnI (s.drop k++s.take k) sun (gndV p) i=turnI s sun (gndV p) (k+i):=fun i=>by
   unfold turnI;rw [rot_sI hk,rot_sI hk];rfl
  constructor
  ·intro hh i
   have:=hh (i+(s.length - k))
   rw [e,show k+(i+(s.length - k))=i+s.length by omega] at this
   unfold turnI at this ⊢
   rw [sI_add,show i+s.length+1=(i+1)+s.length by omega,sI_add] at this
   exact this
  ·intro hh i;rw [e];exact hh _
 unfold hidB
 rw [hall,hall]
 congr 1
 unfold frontB
 rw [getD_sI (by omega:0 < (s.drop k++s.take k).length),getD_sI (by omega:0 < s.length),rot_sI hk]
 refine front_same (.inl rfl) ha ?_
 have:=h.step 0 (k+0)
 rw [dot_sub] at this
 rw [dot_sub,dot_sub];omega
theorem rev_sI {s:List V3} (hk:0 < s.length) (i:Nat):∃ j,sI s.reverse i=sI s (j+2)∧sI s.reverse (i+1)=sI s (j+1)∧sI s.reverse (i+2)=sI s j:=by
 have key:∀ i m,(i+m+1) % s.length=0→sI s.reverse i=sI s m:=by
  intro i m h
  unfold sI
  rw [List.length_reverse]
  have h1:=Nat.mod_lt i hk
  have h2:=Nat.mod_lt m hk
  have h3:(i % s.length+m % s.length+1) % s.length=0:=by
   rw [← h]
   have a:(i+m+1) % s.length=(i % s.length+(m+1)) % s.length:=by rw [Nat.add_assoc,Nat.mod_add_mod]
   have b:(i % s.length+(m+1)) % s.length=(i % s.length+m % s.length+1) % s.length:=by
    rw [show i % s.length+(m+1)=(i % s.length+1)+m by omega,← Nat.add_mod_mod,show i % s.length+1+m % s.length=i % s.length+m % s.length+1 by omega]
   rw [a,b]
  have h4:i % s.length+m % s.length+1=s.length:=by
   obtain ⟨c,hc⟩:=Nat.dvd_of_mod_eq_zero h3
   have:c=1:=by
    rcases c with _|_|c
    ·omega
    ·rfl
    ·have:s.length * (c+1+1)=s.length * c+s.length+s.length:=by rw [Nat.mul_succ,Nat.mul_succ]
     omega
   subst this;omega
  have h5:s.reverse.getD (i % s.length) V0=s.getD (s.length - 1 - i % s.length) V0:=by
   have hx:s.length - 1 - i % s.length < s.length:=by omega
   simp [List.getD_eq_getElem?_getD,List.getElem?_reverse,h1,hx]
  rw [h5,show s.length - 1 - i % s.length=m % s.length by omega]
 -- a number that ends a round with i+2
 obtain ⟨j,hj⟩:∃ j,(i+2+j+1) % s.length=0:=by
  refine ⟨(s.length - 1) * (i+3),?_⟩
  have:i+2+(s.length - 1) * (i+3)+1=s.length * (i+3):=by
   obtain ⟨k,hk2⟩:∃ k,s.length=k+1:=⟨s.length - 1,by omega⟩
   rw [hk2,Nat.add_sub_cancel,Nat.succ_mul];omega
  rw [this,Nat.mul_mod_right]
 refine ⟨j,key _ _ ?_,key _ _ ?_,key _ _ hj⟩
 ·rw [show i+(j+2)+1=i+2+j+1 by omega];exact hj
 ·rw [show i+1+(j+1)+1=i+2+j+1 by omega];exact hj
theorem crs_rev (a b c z:V3):dotV z (crsV (subV b a) (subV c b)) = -1 * dotV z (crsV (subV b c) (subV a b)):=by unfold dotV crsV subV;grind
theorem crs_rev2 (a b o z:V3):dotV z (crsV (subV a b) (subV o b)) = -1 * dotV z (crsV (subV b a) (subV o a)):=by unfold dotV crsV subV;grind
theorem dot_comm (a b:V3):dotV a b=dotV b a:=by unfold dotV;grind
theorem rev_flat {s:List V3} (h:Flat (nrmV s) s):Flat (nrmV s.reverse) s.reverse∧Along (nrmV s) (nrmV s.reverse) (-1):=by
 have h3:=h.len
 have hl:s.reverse.length=s.length:=List.length_reverse
 have ha:Along (nrmV s) (nrmV s.reverse) (-1):=by
  rw [nrm_sI (s:=s.reverse) (by omega)]
  obtain ⟨j,e0,e1,e2⟩:=rev_sI (s:=s) (by omega) 0
  obtain ⟨a,b,ha,hb,hz⟩:=h.along j
  refine ⟨a,b,ha,hb,fun z=>?_⟩
  rw [e0,show sI s.reverse 1=sI s (j+1) from e1,show sI s.reverse 2=sI s j from e2]
  have:=hz z
  rw [dot_comm,crs_rev,dot_comm z] 
  rw [Int.one_mul] at this
  have e:dotV (crsV (subV (sI s (j+1)) (sI s j)) (subV (sI s (j+2)) (sI s (j+1)))) z = -1 * (-1 * dotV (crsV (subV (sI s (j+1)) (sI s j)) (subV (sI s (j+2)) (sI s (j+1)))) z):=by omega
  grind
 have hp:=fun z=>along_pos (.inr rfl) ha z
 refine ⟨⟨by omega,fun i=>(hp _).2.2.2 ?_,fun i=>(hp _).1.2 ?_,fun i o ho=>(hp _).2.1.2 ?_⟩,ha⟩
 ·obtain ⟨j,e0,_,_⟩:=rev_sI (s:=s) (by omega) i
  obtain ⟨k,f0,_,_⟩:=rev_sI (s:=s) (by omega) 0
  rw [e0,f0];exact h.step _ _
 ·obtain ⟨j,e0,e1,e2⟩:=rev_sI (s:=s) (by omega) i
  rw [e0,e1,e2,crs_rev]
  have:=h.cv j
  omega
 ·obtain ⟨j,e0,e1,e2⟩:=rev_sI (s:=s) (by omega) i
  rw [e0,e1,crs_rev2]
  have:=h.all (j+1) o (List.mem_reverse.1 ho)
  rw [show j+1+1=j+2 by omega] at this
  omega
theorem rev_hid {s:List V3} (h:Flat (nrmV s) s) (sun:V3) (p:Pt):hidB s.reverse sun p=hidB s sun p:=by
 obtain ⟨hb,ha⟩:=rev_flat h
 have h3:=h.len
 have hl:s.reverse.length=s.length:=List.length_reverse
 have hneg:∀ a b g:V3,dotV sun (crsV (subV a g) (subV b g)) = -dotV sun (crsV (subV b g) (subV a g)):=fun a b g=>by unfold dotV crsV subV;grind
 have one:∀ (t:List V3),0 < t.length→∀ i,∃ j,turnI t.reverse sun (gndV p) i = -turnI t sun (gndV p) j:=fun t ht i=>by
  obtain ⟨j,e0,e1,_⟩:=rev_sI (s:=t) ht i
  refine ⟨j+1,?_⟩
  unfold turnI
  rw [e0,e1,hneg]
 have hall:(turnsL s.reverse sun p).all (fun n=>decide (n≤0))=(turnsL s sun p).all (fun n=>decide (0≤n)):=by
  refine bool_iff ?_
  rw [turns_all (by omega),turns_all (by omega)]
  simp only [decide_eq_true_eq]
  constructor
  ·intro hh i
   obtain ⟨j,e⟩:=one s.reverse (by omega) i
   rw [List.reverse_reverse] at e
   have:=hh j
   omega
  ·intro hh i
   obtain ⟨j,e⟩:=one s (by omega) i
   have:=hh j
   omega
 have hall2:(turnsL s.reverse sun p).all (fun n=>decide (0≤n))=(turnsL s sun p).all (fun n=>decide (n≤0)):=by
  refine bool_iff ?_
  rw [turns_all (by omega),turns_all (by omega)]
  simp only [decide_eq_true_eq]
  constructor
  ·intro hh i
   obtain ⟨j,e⟩:=one s.reverse (by omega) i
   rw [List.reverse_reverse] at e
   have:=hh j
   omega
  ·intro hh i
   obtain ⟨j,e⟩:=one s (by omega) i
   have:=hh j
   omega
 unfold hidB
 rw [hall,hall2,Bool.or_comm]
 congr 1
 unfold frontB
 rw [getD_sI (by omega:0 < s.reverse.length),getD_sI (by omega:0 < s.length)]
 refine front_same (.inr rfl) ha ?_
 obtain ⟨j,e0,_,_⟩:=rev_sI (s:=s) (by omega) 0
 rw [e0]
 have:=h.step 0 (j+2)
 rw [dot_sub] at this
 rw [dot_sub,dot_sub];omega
end Sh

namespace Sh
open Go
theorem mov_hid {s:List V3} (h:3≤s.length) (d:V3) (hz:d.z=0) (sun:V3) (p:Pt):hidB (movS s d) sun ⟨p.x+d.x,p.y+d.y⟩=hidB s sun p:=by
 have hg:gndV ⟨p.x+d.x,p.y+d.y⟩=addV (gndV p) d:=by unfold gndV addV;rw [hz];rfl
 have ht:turnsL (movS s d) sun ⟨p.x+d.x,p.y+d.y⟩=turnsL s sun p:=by
  unfold turnsL
  rw [movS_len]
  refine rng_congr fun i hi=>?_
  unfold turnV
  rw [aft_sI,aft_sI,getD_sI (by rw [movS_len];exact hi),getD_sI hi,hg]
  simp only [mov_sI (by omega:0 < s.length),sub_add]
 have hf:frontB (movS s d) sun ⟨p.x+d.x,p.y+d.y⟩=frontB s sun p:=by
  unfold frontB
  rw [mov_nrm h,getD_sI (by rw [movS_len];omega),getD_sI (by omega:0 < s.length),hg,mov_sI (by omega),sub_add]
 unfold hidB
 rw [ht,hf]
def dblV (v:V3):V3:=⟨2 * v.x,2 * v.y,2 * v.z⟩
theorem dbl_hid (s:List V3) (sun:V3) (p:Pt):hidB s (dblV sun) p=hidB s sun p:=by
 have h1:∀ a,dotV a (dblV sun)=2 * dotV a sun:=fun a=>by unfold dotV dblV;grind
 have h2:∀ a,dotV (dblV sun) a=2 * dotV sun a:=fun a=>by unfold dotV dblV;grind
 have hs:∀ n:Int,sgn (2 * n)=sgn n:=fun n=>by unfold sgn;split<;>split<;>(try split)<;>(try split)<;>omega
 have ht:∀ q:Int→Bool,(∀ n,q (2 * n)=q n)→(turnsL s (dblV sun) p).all q=(turnsL s sun p).all q:=fun q hq=>by
  unfold turnsL rng
  rw [List.all_map,List.all_map]
  congr 1
  funext i
  show q (turnV s (dblV sun) p i)=q (turnV s sun p i)
  unfold turnV
  rw [h2,hq]
 unfold hidB frontB
 rw [h1,hs,ht _ (fun n=>decide_eq_decide.2 (by omega)),ht _ (fun n=>decide_eq_decide.2 (by omega))]
theorem castX_mov (v sun:V3):castX (addV v sun) sun=castX v sun:=by unfold castX addV;grind
theorem castY_mov (v sun:V3):castY (addV v sun) sun=castY v sun:=by unfold castY addV;grind
theorem area_mov {s:List V3} (hk:0 < s.length) (sun:V3):areaR (movS s sun) sun=areaR s sun:=by
 unfold areaR areaI
 rw [movS_len]
 have e:rng s.length (areaT (movS s sun) sun)=rng s.length (areaT s sun):=rng_congr fun i hi=>by
  unfold areaT
  rw [aft_sI,aft_sI,getD_sI (by rw [movS_len];exact hi),getD_sI hi,mov_sI hk,mov_sI hk,castX_mov,castY_mov,castX_mov,castY_mov]
 rw [e]
def sideO (s:List V3) (sun:V3) (p:Pt) (i:Nat):Int :=
 (castX (sI s i) sun - p.x * sun.z) * (castY (sI s (i+1)) sun - p.y * sun.z) - (castY (sI s i) sun - p.y * sun.z) * (castX (sI s (i+1)) sun - p.x * sun.z)
theorem sideO_eq (s:List V3) (sun:V3) (p:Pt) (i:Nat):sideO s sun p i=sun.z * turnI s sun (gndV p) i:=by
 unfold sideO turnI castX castY dotV crsV subV gndV
 grind
theorem hid_sides {s:List V3} {sun:V3} {p:Pt} (hk:0 < s.length) (hz:1≤sun.z) (h:hidB s sun p=true):(∀ i,sideO s sun p i≤0)∨(∀ i,0≤sideO s sun p i):=by
 unfold hidB at h
 rw [Bool.and_eq_true,Bool.or_eq_true,turns_all hk,turns_all hk] at h
 rcases h.2 with h|h
 ·refine .inl fun i=>?_
  rw [sideO_eq]
  exact Int.mul_nonpos_of_nonneg_of_nonpos (by omega) (of_decide_eq_true (h i))
 ·refine .inr fun i=>?_
  rw [sideO_eq]
  exact Int.mul_nonneg (by omega) (of_decide_eq_true (h i))
end Sh

namespace Sh
open Go Go.Proofs
theorem r_less (a b:V3) (ha:bdV G9 a) (hb:bdV G9 b):PC 101 [encV a,encV b] (encV (subV a b)):=by
 have e1:=sub_w ha.1 hb.1
 have e2:=sub_w ha.2.1 hb.2.1
 have e3:=sub_w ha.2.2 hb.2.2
 refine pureCall_ofR dh101 rfl ?_
 conv=>whnf
 repeat' (first
  |(refine ⟨fun hg=>?_,fun hg=>?_⟩<;>first|contradiction|(conv=>whnf))
  |(refine Or.inl ?_;conv=>whnf)
  |(refine And.intro ?_ ?_;kernel_rfl;conv=>whnf))
 exact int3_eq e1 e2 e3
theorem r_dot (a b:V3) (ha:bdV G9 a) (hb:bdV G9 b):PC 99 [encV a,encV b] (DV.int .i64 (dotV a b)):=by
 refine pureCall_ofR dh99 rfl ?_
 conv=>whnf
 repeat' (first
  |(refine ⟨fun hg=>?_,fun hg=>?_⟩<;>first|contradiction|(conv=>whnf))
  |(refine Or.inl ?_;conv=>whnf)
  |(refine And.intro ?_ ?_;kernel_rfl;conv=>whnf))
 exact int_eq (dot_w ha hb)
theorem r_cross (a b:V3) (ha:bdV G9 a) (hb:bdV G9 b):PC 102 [encV a,encV b] (encV (crsV a b)):=by
 refine pureCall_ofR dh102 rfl ?_
 conv=>whnf
 repeat' (first
  |(refine ⟨fun hg=>?_,fun hg=>?_⟩<;>first|contradiction|(conv=>whnf))
  |(refine Or.inl ?_;conv=>whnf)
  |(refine And.intro ?_ ?_;kernel_rfl;conv=>whnf))
 exact int3_eq (crs_w ha.2.1 hb.2.2 ha.2.2 hb.2.1) (crs_w ha.2.2 hb.1 ha.1 hb.2.2) (crs_w ha.1 hb.2.1 ha.2.1 hb.1)
theorem r_CheckSun (v:V3):PC 22 [encV v] (DV.int .i64 (chkSun v)):=by
 refine pureCall_ofR dh22 rfl ?_
 conv=>whnf
 repeat' (first
  |(refine ⟨fun hg=>?_,fun hg=>?_⟩<;>first|contradiction|(conv=>whnf))
  |(refine Or.inl ?_;conv=>whnf)
  |(refine ⟨_,q_CheckRange ..,?_⟩;conv=>whnf)
  |(refine ⟨_,q_First [_,_,_] (by simp),?_⟩;conv=>whnf)
  |(refine And.intro ?_ ?_;kernel_rfl;conv=>whnf))
 rfl
theorem r_CheckSpot (p:Pt):PC 23 [encPt p] (DV.int .i64 (chkSpot p)):=by
 refine pureCall_ofR dh23 rfl ?_
 conv=>whnf
 repeat' (first
  |(refine ⟨fun hg=>?_,fun hg=>?_⟩<;>first|contradiction|(conv=>whnf))
  |(refine Or.inl ?_;conv=>whnf)
  |(refine ⟨_,q_CheckRange ..,?_⟩;conv=>whnf)
  |(refine ⟨_,q_First [_,_] (by simp),?_⟩;conv=>whnf)
  |(refine And.intro ?_ ?_;kernel_rfl;conv=>whnf))
 rfl
end Sh

namespace Sh
open Go Go.Proofs
theorem r_normal (s:List V3) (h:OkS s):PC 98 [shp s] (encV (nrmV s)):=by
 have h3:=h.1
 have b0:=h.at (i:=0) (by omega)
 have b1:=h.at (i:=1) (by omega)
 have b2:=h.at (i:=2) (by omega)
 have k1:=r_less (s.getD 1 V0) (s.getD 0 V0) (bd9 b1 (by decide)) (bd9 b0 (by decide))
 have k2:=r_less (s.getD 2 V0) (s.getD 0 V0) (bd9 b2 (by decide)) (bd9 b0 (by decide))
 have k3:=r_cross _ _ (bd9 (subV_bd b1 b0) (by decide)) (bd9 (subV_bd b2 b0) (by decide))
 refine pureCall_ofR dh98 rfl ?_
 conv=>whnf
 repeat' (first
  |(refine ⟨fun hg=>?_,fun hg=>?_⟩<;>first|contradiction|(conv=>whnf))
  |(refine Or.inl ?_;conv=>whnf)
  |(rw [getD_enc' _ _ 0 V0 (by decide) (by omega)];refine ⟨idxB (by decide) (by omega) rfl,?_⟩;conv=>whnf)
  |(rw [getD_enc' _ _ 1 V0 (by decide) (by omega)];refine ⟨idxB (by decide) (by omega) rfl,?_⟩;conv=>whnf)
  |(rw [getD_enc' _ _ 2 V0 (by decide) (by omega)];refine ⟨idxB (by decide) (by omega) rfl,?_⟩;conv=>whnf)
  |(refine ⟨_,k1,?_⟩;conv=>whnf)
  |(refine ⟨_,k2,?_⟩;conv=>whnf)
  |(refine ⟨_,k3,?_⟩;conv=>whnf)
  |(refine And.intro ?_ ?_;kernel_rfl;conv=>whnf))
 rw [nrmV_ref];rfl
theorem mod_w2 (i n:Nat) (hn:0 < n) (hi:i < 1000000000):(IntKind.i64.wrap ((i:Int)+2)).tmod (n:Int)=(((i+2) % n:Nat):Int):=mod_w i 2 n hn (by omega)
theorem r_convex (s:List V3) (h:OkS s):PC 97 [shp s] (.bool (flat_ s)):=by
 have e0:((s.map encV).length:Int)=s.length:=by simp
 have h3:=h.1
 have h6:=h.2.1
 have b0:=h.at (i:=0) (by omega)
 have hn:=h.nrm
 refine pureCall_ofR dh97 rfl ?_
 conv=>whnf
 repeat' (first
  |(refine ⟨fun hg=>?_,fun hg=>?_⟩<;>first|contradiction|(conv=>whnf))
  |(refine Or.inl ?_;conv=>whnf)
  |(refine ⟨_,r_normal _ h,?_⟩;conv=>whnf)
  |(refine And.intro ?_ ?_;kernel_rfl;conv=>whnf))
 refine dwp_loopU (P:=Tryz.prog) (G:=GC) (k:=dk97_1) (b:=db97_1) (α:=Nat) (fun i=>[(4,DV.int .i64 (i))]) (fun _=>[(3,.box 3 (encV (nrmV s)))]) (fun i=>i≤s.length∧(List.range i).all (flatI s)=true) (fun i=>s.length - i) 0 ⟨Nat.zero_le _,rfl⟩ ?_
 conv=>whnf
 refine ⟨rfl,rfl,?_⟩
 conv=>whnf
 refine ⟨rfl,?_⟩
 intro i ⟨h1,h2⟩
 conv=>whnf
 refine ⟨fun hb=>?_,fun hb=>?_⟩
 ·have hi:i < s.length:=by simpa using hb
  have bi:=h.at hi
  have bs:=h.side hi
  have bx:=subV_bd (h.aft (i+1)) (h.aft i)
  have e2:s.getD ((i+2) % s.length) V0=aft s (i+1):=rfl
  have e1:s.getD ((i+1) % s.length) V0=aft s i:=rfl
  have k3:=r_less (aft s i) (s.getD i V0) (bd9 (h.aft i) (by decide)) (bd9 bi (by decide))
  have k4:=r_less (aft s (i+1)) (aft s i) (bd9 (h.aft (i+1)) (by decide)) (bd9 (h.aft i) (by decide))
  have k5:=r_less (s.getD i V0) (s.getD 0 V0) (bd9 bi (by decide)) (bd9 b0 (by decide))
  have k6:=r_dot _ _ (bd9 hn (by decide)) (bd9 (subV_bd bi b0) (by decide))
  have k7:=r_cross _ _ (bd9 bs (by decide)) (bd9 bx (by decide))
  have k8:=r_dot _ _ (bd9 hn (by decide)) (bd9 (crsV_bd bs bx) (by decide))
  have hm1:=Nat.mod_lt (i+1) (show 0 < s.length by omega)
  have hm2:=Nat.mod_lt (i+2) (show 0 < s.length by omega)
  have hw1:=mod_w1 i s.length (by omega) (by omega)
  have hw2:=mod_w2 i s.length (by omega) (by omega)
  have hI:(List.range (i+1)).all (flatI s)=flatI s i:=by rw [List.range_succ,List.all_append,h2];simp
  have hF:flatI s i=false→flat_ s=false:=fun e=>by
   unfold flat_
   rw [List.all_eq_false]
   exact ⟨i,List.mem_range.2 hi,by rw [e];simp⟩
  clear hb
  conv=>whnf
  rw [getD_enc _ _ (i) V0 hi]
  refine ⟨idxA hi rfl,?_⟩
  conv=>whnf
  rw [e0]
  refine ⟨by omega,?_⟩
  conv=>whnf
  rw [hw1]
  rw [getD_enc _ _ ((i+1) % s.length) V0 hm1]
  refine ⟨idxA hm1 rfl,?_⟩
  conv=>whnf
  rw [e0]
  refine ⟨by omega,?_⟩
  conv=>whnf
  rw [hw2]
  rw [getD_enc _ _ ((i+2) % s.length) V0 hm2]
  refine ⟨idxA hm2 rfl,?_⟩
  conv=>whnf
  rw [e1,e2]
  repeat' (first
   |(refine ⟨fun hg=>?_,fun hg=>?_⟩<;>first|contradiction|(conv=>whnf))
   |(refine Or.inl ?_;conv=>whnf)
   |(refine ⟨_,k3,?_⟩;conv=>whnf)
   |(refine ⟨_,k4,?_⟩;conv=>whnf)
   |(rw [getD_enc' _ _ 0 V0 (by decide) (by omega)];refine ⟨idxB (by decide) (by omega) rfl,?_⟩;conv=>whnf)
   |(refine ⟨_,k5,?_⟩;conv=>whnf)
   |(refine ⟨_,k6,?_⟩;conv=>whnf)
   |(refine ⟨_,k7,?_⟩;conv=>whnf)
   |(refine ⟨_,k8,?_⟩;conv=>whnf)
   |(refine And.intro ?_ ?_;kernel_rfl;conv=>whnf))
  ·have hg:=of_decide_eq_true (show decide (dotV (nrmV s) (crsV (sideV s i) (subV (aft s (i+1)) (aft s i)))≤0)=true from hg)
   show DV.bool false=DV.bool (flat_ s)
   rw [hF (by unfold flatI flatA;rw [decide_eq_false (by omega:¬ 0 < dotV (nrmV s) (crsV (sideV s i) (subV (aft s (i+1)) (aft s i)))),Bool.and_false,Bool.false_and])]
  ·have hg2:=of_decide_eq_false (show decide (dotV (nrmV s) (crsV (sideV s i) (subV (aft s (i+1)) (aft s i)))≤0)=false from hg)
   have hg1:=of_decide_eq_false ‹decide (dotV (nrmV s) (subV (s.getD i V0) (s.getD 0 V0))≠0)=false›
   have hA:flatA s i=true:=by
    unfold flatA
    rw [decide_eq_true (Classical.not_not.1 hg1),decide_eq_true (by omega)];rfl
   clear hg hg1 hg2
   refine dwp_loopU (P:=Tryz.prog) (G:=GC) (k:=dk97_0) (b:=db97_0) (α:=Nat) (fun j=>[(8,DV.int .i64 (j))]) (fun _=>[(3,.box 3 (encV (nrmV s))),(5,.box 3 (encV (s.getD i V0))),(6,.box 3 (encV (aft s i))),(7,.box 3 (encV (aft s (i+1))))]) (fun j=>j≤s.length∧(s.take j).all (flatK s i)=true) (fun j=>s.length - j) 0 ⟨Nat.zero_le _,rfl⟩ ?_
   conv=>whnf
   refine ⟨rfl,rfl,?_⟩
   conv=>whnf
   refine ⟨rfl,?_⟩
   intro j ⟨j1,j2⟩
   conv=>whnf
   refine ⟨fun hb=>?_,fun hb=>?_⟩
   ·have hj:j < s.length:=by simpa using hb
    have bj:=h.at hj
    have k9:=r_less (s.getD j V0) (s.getD i V0) (bd9 bj (by decide)) (bd9 bi (by decide))
    have k10:=r_cross _ _ (bd9 bs (by decide)) (bd9 (subV_bd bj bi) (by decide))
    have k11:=r_dot _ _ (bd9 hn (by decide)) (bd9 (crsV_bd bs (subV_bd bj bi)) (by decide))
    have hJ:(s.take (j+1)).all (flatK s i)=flatK s i (s.getD j V0):=by rw [take_snoc s j V0 hj,List.all_append,j2];simp
    clear hb
    conv=>whnf
    repeat' (first
     |(refine ⟨fun hg=>?_,fun hg=>?_⟩<;>first|contradiction|(conv=>whnf))
     |(refine Or.inl ?_;conv=>whnf)
     |(refine ⟨_,k3,?_⟩;conv=>whnf)
     |(rw [getD_enc _ _ j V0 hj];refine ⟨idxA hj rfl,?_⟩;conv=>whnf)
     |(refine ⟨_,k9,?_⟩;conv=>whnf)
     |(refine ⟨_,k10,?_⟩;conv=>whnf)
     |(refine ⟨_,k11,?_⟩;conv=>whnf)
     |(refine And.intro ?_ ?_;kernel_rfl;conv=>whnf))
    ·have hg:=of_decide_eq_true hg
     show DV.bool false=DV.bool (flat_ s)
     rw [hF (by
      unfold flatI
      have:s.all (flatK s i)=false:=by
       rw [List.all_eq_false]
       exact ⟨_,getD_in V0 hj,by unfold flatK;rw [decide_eq_false (by omega)];simp⟩
      rw [this,Bool.and_false])]
    ·have hg:=of_decide_eq_false hg
     rw [wrap_succ j (by omega)]
     exact ⟨j+1,rfl,rfl,rfl,⟨hj,by rw [hJ];exact decide_eq_true (by omega)⟩,by omega⟩
   ·have hj:j=s.length:=by have:=of_decide_eq_false hb;rw [e0] at this;omega
    rw [hj,List.take_length] at j2
    clear hb
    conv=>whnf
    rw [wrap_succ i (by omega)]
    exact ⟨i+1,rfl,rfl,rfl,⟨hi,by rw [hI];unfold flatI;rw [hA,j2];rfl⟩,by omega⟩
  ·have hg:=of_decide_eq_true (show decide (dotV (nrmV s) (subV (s.getD i V0) (s.getD 0 V0))≠0)=true from ‹decide (dotV (nrmV s) (subV (s.getD i V0) (s.getD 0 V0))≠0)=!false›)
   show DV.bool false=DV.bool (flat_ s)
   rw [hF (by unfold flatI flatA;rw [decide_eq_false hg,Bool.false_and,Bool.false_and])]
 ·have hi:i=s.length:=by have:=of_decide_eq_false hb;rw [e0] at this;omega
  rw [hi] at h2
  clear hb
  conv=>whnf
  show DV.bool true=DV.bool (flat_ s)
  rw [show flat_ s=true from h2]
end Sh

namespace Sh
open Go Go.Proofs
theorem firstE_skip {a b:Int} (x:Int) (h:¬ firstE [a,b]≠0):firstE [a,b,x]=x:=by
 obtain ⟨h1,h⟩:=firstE_cons (Classical.not_not.1 h)
 obtain ⟨h2,_⟩:=firstE_cons h
 simp [firstE,h1,h2]
 intro h;exact h.symm
theorem firstE_keep {a b:Int} (x:Int) (h:firstE [a,b]≠0):firstE [a,b,x]=firstE [a,b]:=by
 simp only [firstE] at *
 split
 ·rfl
 ·rename_i ha
  rw [if_neg ha] at h
  split
  ·rfl
  ·rename_i hb;rw [if_neg hb] at h;exact absurd rfl h
theorem map_getD {α:Type} (g:α→Int) (l:List α) (i:Nat) (d:α) (h:i < l.length):(l.map g).getD i 0=g (l.getD i d):=by simp [List.getD_eq_getElem?_getD,h]
theorem r_CheckShape (s:List V3) (hl:s.length < 1073741824):PC 21 [shp s] (DV.int .i64 (chkShp s)):=by
 have e0:((s.map encV).length:Int)=s.length:=by simp
 refine pureCall_ofR dh21 rfl ?_
 conv=>whnf
 repeat' (first
  |(refine ⟨fun hg=>?_,fun hg=>?_⟩<;>first|contradiction|(conv=>whnf))
  |(refine Or.inl ?_;conv=>whnf)
  |(refine ⟨_,q_When ..,?_⟩;conv=>whnf)
  |(refine ⟨_,q_First [_,_] (by simp),?_⟩;conv=>whnf)
  |(refine And.intro ?_ ?_;kernel_rfl;conv=>whnf))
 ·have hg:=of_decide_eq_true hg
  rw [e0] at hg
  exact int_eq (by rw [e0];unfold chkShp sizeS;rw [firstE_keep _ hg,if_pos hg])
 ·have hg:=of_decide_eq_false hg
  rw [e0] at hg
  have hsz:sizeS s=firstE (s.map chkCor):=by unfold sizeS;rw [firstE_skip _ hg]
  refine dwp_loopU (P:=Tryz.prog) (G:=GC) (k:=dk21_0) (b:=db21_0) (α:=Nat) (fun i=>[(4,DV.int .i64 (i))]) (fun _=>[]) (fun i=>i≤s.length∧firstE (s.map chkCor)=firstE ((s.map chkCor).drop i)) (fun i=>s.length - i) 0 ⟨Nat.zero_le _,rfl⟩ ?_
  conv=>whnf
  refine ⟨rfl,rfl,?_⟩
  conv=>whnf
  refine ⟨rfl,?_⟩
  intro i ⟨h1,h2⟩
  conv=>whnf
  refine ⟨fun hb=>?_,fun hb=>?_⟩
  ·have hi:i < s.length:=by simpa using hb
   have hd:=firstE_drop (s.map chkCor) i (by rw [List.length_map];exact hi)
   rw [map_getD chkCor s i V0 hi] at hd
   clear hb
   conv=>whnf
   repeat' (first
    |(refine ⟨fun hg=>?_,fun hg=>?_⟩<;>first|contradiction|(conv=>whnf))
    |(refine Or.inl ?_;conv=>whnf)
    |(rw [getD_enc _ _ i V0 hi];refine ⟨idxA hi rfl,?_⟩;conv=>whnf)
    |(refine ⟨_,q_CheckRange ..,?_⟩;conv=>whnf)
    |(refine ⟨_,q_First [_,_,_] (by simp),?_⟩;conv=>whnf)
    |(refine And.intro ?_ ?_;kernel_rfl;conv=>whnf))
   ·have hg:=of_decide_eq_true (show decide (chkCor (s.getD i V0)≠0)=true from hg)
    rw [if_pos hg] at hd
    exact int_eq (by unfold chkShp;rw [hsz,h2,hd,if_pos hg];rfl)
   ·have hg:=of_decide_eq_false (show decide (chkCor (s.getD i V0)≠0)=false from hg)
    rw [if_neg hg] at hd
    rw [wrap_succ i (by omega)]
    exact ⟨i+1,rfl,rfl,rfl,⟨hi,h2.trans hd⟩,by omega⟩
  ·have hi:i=s.length:=by have:=of_decide_eq_false hb;rw [e0] at this;omega
   rw [hi,List.drop_of_length_le (by rw [List.length_map];exact Nat.le_refl _)] at h2
   have hz:sizeS s=0:=hsz.trans h2
   clear hb
   conv=>whnf
   repeat' (first
    |(refine ⟨fun hg=>?_,fun hg=>?_⟩<;>first|contradiction|(conv=>whnf))
    |(refine Or.inl ?_;conv=>whnf)
    |(refine ⟨_,r_convex s (sizeS_zero hz),?_⟩;conv=>whnf)
    |(refine ⟨_,q_When ..,?_⟩;conv=>whnf)
    |(refine And.intro ?_ ?_;kernel_rfl;conv=>whnf))
   exact int_eq (by unfold chkShp;rw [if_neg (by omega)])
end Sh

namespace Sh
open Go Go.Proofs
theorem r_SameCorners (l:List ((Int×Int)×(Int×Int))) (hl:l.length < 1073741824):PC 52 [.list (l.map encCn),.list (l.map encCn)] (.bool true):=by
 have e0:((l.map encCn).length:Int)=l.length:=by simp
 refine pureCall_ofR dh52 rfl ?_
 conv=>whnf
 refine ⟨fun hg=>absurd rfl (of_decide_eq_true hg),fun hg=>?_⟩
 clear hg
 conv=>whnf
 refine dwp_loopU (P:=Tryz.prog) (G:=GC) (k:=dk52_0) (b:=db52_0) (α:=Nat) (fun i=>[(5,DV.int .i64 (i))]) (fun _=>[]) (fun i=>i≤l.length) (fun i=>l.length - i) 0 (Nat.zero_le _) ?_
 conv=>whnf
 refine ⟨rfl,rfl,?_⟩
 conv=>whnf
 refine ⟨rfl,?_⟩
 intro i h1
 conv=>whnf
 refine ⟨fun hb=>?_,fun hb=>?_⟩
 ·have hi:i < l.length:=by simpa using hb
  clear hb
  conv=>whnf
  rw [getD_enc _ _ (i) ((0,0),(0,0)) hi]
  refine ⟨idxA hi rfl,?_⟩
  conv=>whnf
  repeat' (first
   |(refine ⟨fun hg=>?_,fun hg=>?_⟩<;>first|contradiction|(conv=>whnf))
   |(refine Or.inl ?_;conv=>whnf)
   |(rw [getD_enc _ _ i (((0,0),(0,0))) hi];refine ⟨idxA hi rfl,?_⟩;conv=>whnf)
   |(refine And.intro ?_ ?_;kernel_rfl;conv=>whnf))
  ·exfalso
   revert hg
   simp
  ·rw [wrap_succ i (by omega)]
   exact ⟨i+1,rfl,rfl,rfl,hi,by omega⟩
 ·clear hb
  conv=>whnf
  rfl
end Sh

namespace Sh
open Go Go.Proofs
def cpR {α:Type} (enc:α→DV) (l:List α) (i:Nat):List DV:=(l.take i).map enc
theorem cpR_len {α:Type} (enc:α→DV) (l:List α) (i:Nat) (h:i≤l.length):(cpR enc l i).length=i:=by simp [cpR];omega
theorem cpR_succ {α:Type} (enc:α→DV) (l:List α) (i:Nat) (d:α) (h:i < l.length):cpR enc l (i+1)=cpR enc l i++[enc (l.getD i d)]:=take_map_succ _ l i d h
theorem cpR_all {α:Type} (enc:α→DV) (l:List α):cpR enc l l.length=l.map enc:=by unfold cpR;rw [List.take_length]
theorem l_corners (l:List ((Int×Int)×(Int×Int))) (hl:l.length < 1073741824):PC 53 [.list (l.map encCn)] (.list (l.map encCn)):=by
 have e0:((l.map encCn).length:Int)=l.length:=by simp
 refine pureCall_ofR dh53 rfl ?_
 conv=>whnf
 refine dwp_loopU (P:=Tryz.prog) (G:=GC) (k:=dk53_0) (b:=db53_0) (α:=Nat) (fun i=>[(3,.own 3 0 (cpR encCn l i).length (cpR encCn l i).length),(8,DV.int .i64 (i))]) (fun i=>[(3,.row 4 (cpR encCn l i) false)]) (fun i=>i≤l.length) (fun i=>l.length - i) 0 (Nat.zero_le _) ?_
 conv=>whnf
 refine ⟨rfl,rfl,?_⟩
 conv=>whnf
 refine ⟨rfl,?_⟩
 intro i h1
 conv=>whnf
 refine ⟨fun hb=>?_,fun hb=>?_⟩
 ·have hi:i < l.length:=by simpa using hb
  have hln:=cpR_len encCn l i h1
  clear hb
  conv=>whnf
  rw [getD_enc _ _ (i) ((0,0),(0,0)) hi]
  refine ⟨idxA hi rfl,?_⟩
  conv=>whnf
  repeat' (first
   |(refine ⟨fun hg=>?_,fun hg=>?_⟩<;>first|contradiction|(conv=>whnf))
   |(refine Or.inl ?_;conv=>whnf)
   |(refine ⟨⟨rfl,rfl,rfl,by rw [hln];simp;omega,fun e he=>by simp at he;subst he;rfl⟩,?_⟩;conv=>whnf)
   |(refine And.intro ?_ ?_;kernel_rfl;conv=>whnf))
  rw [wrap_succ i (by omega)]
  refine ⟨i+1,rfl,?_,?_,hi,by omega⟩
  ·rw [cpR_succ encCn l i (((0,0),(0,0))) hi];rfl
  ·rw [cpR_succ encCn l i (((0,0),(0,0))) hi];rfl
 ·have hi:i=l.length:=by have:=of_decide_eq_false hb;rw [e0] at this;omega
  clear hb
  conv=>whnf
  exact ⟨rfl,by rw [window_full,hi,cpR_all];rfl⟩
end Sh

namespace Sh
open Go Go.Proofs
theorem l_own (s:List V3) (hl:s.length < 1073741824):PC 16 [shp s] (shp s):=by
 refine pureCall_ofR dh16 rfl ?_
 conv=>whnf
 refine ⟨⟨by simp;omega,fun e he=>by obtain ⟨v,_,rfl⟩:=List.mem_map.1 he;rfl,fun e he=>absurd he List.not_mem_nil⟩,?_⟩
 conv=>whnf
 rfl
end Sh

set_option maxHeartbeats 2000000
namespace Sh
open Go Go.Proofs
theorem r_CheckShapeU (s:List V3):PC 21 [shp s] (DV.int .i64 (chkShp s)):=by
 by_cases hl:s.length < 1073741824
 ·exact r_CheckShape s hl
 ·have e0:((s.map encV).length:Int)=s.length:=by simp
  refine pureCall_ofR dh21 rfl ?_
  conv=>whnf
  repeat' (first
   |(refine ⟨fun hg=>?_,fun hg=>?_⟩<;>first|contradiction|(conv=>whnf))
   |(refine Or.inl ?_;conv=>whnf)
   |(refine ⟨_,q_When ..,?_⟩;conv=>whnf)
   |(refine ⟨_,q_First [_,_] (by simp),?_⟩;conv=>whnf)
   |(refine And.intro ?_ ?_;kernel_rfl;conv=>whnf))
  ·have hg:=of_decide_eq_true hg
   rw [e0] at hg
   exact int_eq (by rw [e0];unfold chkShp sizeS;rw [firstE_keep _ hg,if_pos hg])
  ·have hg:=of_decide_eq_false hg
   rw [e0] at hg
   exfalso
   apply hg
   rw [show decide ((s.length:Int) < 3)=false from decide_eq_false (by omega),show decide (6 < (s.length:Int))=true from decide_eq_true (by omega)]
   decide
end Sh

namespace Sh
open Go
end Sh

namespace Sh
open Go Go.Proofs
end Sh

namespace Sh
open Go
def db10_0 : DC := (.seq (.seq (.ops false [⟨some 71,.mov (.tmp 10),none,[]⟩,⟨some 72,.bin .geq (.tmp 71) (.const (.int .i64 0)),none,[]⟩]) (.cond (.tmp 72) .skip (.exit 0))) (.seq (.block 1 none (.ops false [⟨some 75,.mov (.tmp 9),none,[]⟩,⟨some 76,.mov (.tmp 0),none,[]⟩,⟨some 77,.mov (.tmp 10),none,[]⟩,⟨some 78,.iaddr 3 (.tmp 76) (.tmp 77),none,[]⟩,⟨some 79,.load (some 3) (.tmp 78),none,[]⟩,⟨some 80,.lit true 3 1 (.agg [.int .i64 0,.int .i64 0,.int .i64 0]) [(0,(.tmp 79))],none,[]⟩,⟨some 81,.append false 3 (.tmp 75) (.tmp 80),none,[]⟩,⟨some 9,.mov (.tmp 81),none,[]⟩])) (.ops false [⟨some 73,.mov (.tmp 10),none,[]⟩,⟨some 74,.bin .sub (.tmp 73) (.const (.int .i64 1)),none,[]⟩,⟨some 10,.mov (.tmp 74),none,[]⟩])))
def dk10_0 : Keep := ⟨[(9,3)],[0,4,5,7,8,9,10],[4,5,9,19,21,22,31,33,39,40,41,42,95]⟩
def db10_1 : DC := (.seq (.ops false [⟨some 308,.bin .lss (.tmp 307) (.tmp 306),none,[]⟩]) (.seq (.cond (.tmp 308) .skip (.exit 2)) (.seq (.block 3 none (.seq (.ops false [⟨some 309,.mov (.tmp 307),none,[]⟩,⟨some 38,.mov (.tmp 309),none,[]⟩]) (.seq (.ops true [⟨some 310,.mov (.tmp 0),none,[]⟩,⟨some 311,.mov (.tmp 38),none,[]⟩,⟨some 312,.iaddr 3 (.tmp 310) (.tmp 311),none,[0,1]⟩,⟨some 313,.load (some 3) (.tmp 312),none,[2,0,1]⟩,⟨some 314,.mov (.tmp 0),none,[]⟩,⟨some 315,.mov (.tmp 38),none,[]⟩,⟨some 316,.bin .add (.tmp 315) (.const (.int .i64 1)),none,[5]⟩,⟨some 317,.mov (.tmp 0),none,[]⟩,⟨some 318,.len (.tmp 317),none,[7]⟩,⟨some 319,.bin .rem (.tmp 316) (.tmp 318),none,[6,5,8,7]⟩,⟨some 320,.iaddr 3 (.tmp 314) (.tmp 319),none,[4,9,6,5,8,7]⟩,⟨some 321,.load (some 3) (.tmp 320),none,[10,4,9,6,5,8,7]⟩,⟨some 39,.alloc (.agg [.int .i64 0,.int .i64 0,.int .i64 0]) 3,none,[]⟩,⟨some 40,.alloc (.agg [.int .i64 0,.int .i64 0,.int .i64 0]) 3,none,[]⟩,⟨none,.store 3 (.tmp 39) (.tmp 313),none,[12,3,2,0,1,13]⟩,⟨none,.store 3 (.tmp 40) (.tmp 321),none,[13,11,10,4,9,6,5,8,7,14,12,3,2,0,1]⟩]) (.seq (.ops true [⟨some 322,.faddr 0 1 false (.tmp 39),none,[]⟩,⟨some 323,.load none (.tmp 322),none,[0]⟩,⟨some 324,.faddr 2 1 false (.tmp 4),none,[]⟩,⟨some 325,.load none (.tmp 324),none,[2]⟩,⟨some 326,.bin .mul (.tmp 323) (.tmp 325),none,[1,0,3,2]⟩,⟨some 327,.faddr 2 1 false (.tmp 39),none,[]⟩,⟨some 328,.load none (.tmp 327),none,[5]⟩,⟨some 329,.faddr 0 1 false (.tmp 4),none,[]⟩,⟨some 330,.load none (.tmp 329),none,[7]⟩,⟨some 331,.bin .mul (.tmp 328) (.tmp 330),none,[6,5,8,7]⟩,⟨some 332,.bin .sub (.tmp 326) (.tmp 331),none,[4,1,0,3,2,9,6,5,8,7]⟩,⟨some 333,.faddr 0 2 true (.tmp 5),none,[]⟩,⟨some 334,.faddr 0 1 false (.tmp 333),none,[11]⟩,⟨some 335,.load none (.tmp 334),none,[12,11]⟩,⟨some 336,.faddr 2 1 false (.tmp 4),none,[]⟩,⟨some 337,.load none (.tmp 336),none,[14]⟩,⟨some 338,.bin .mul (.tmp 335) (.tmp 337),none,[13,12,11,15,14]⟩,⟨some 339,.bin .sub (.tmp 332) (.tmp 338),none,[10,4,1,0,3,2,9,6,5,8,7,16,13,12,11,15,14]⟩,⟨some 340,.faddr 1 1 false (.tmp 39),none,[]⟩,⟨some 341,.load none (.tmp 340),none,[18]⟩,⟨some 342,.faddr 2 1 false (.tmp 4),none,[]⟩,⟨some 343,.load none (.tmp 342),none,[20]⟩,⟨some 344,.bin .mul (.tmp 341) (.tmp 343),none,[19,18,21,20]⟩,⟨some 345,.faddr 2 1 false (.tmp 39),none,[]⟩,⟨some 346,.load none (.tmp 345),none,[23]⟩,⟨some 347,.faddr 1 1 false (.tmp 4),none,[]⟩,⟨some 348,.load none (.tmp 347),none,[25]⟩,⟨some 349,.bin .mul (.tmp 346) (.tmp 348),none,[24,23,26,25]⟩,⟨some 350,.bin .sub (.tmp 344) (.tmp 349),none,[22,19,18,21,20,27,24,23,26,25]⟩,⟨some 351,.faddr 0 2 true (.tmp 5),none,[]⟩,⟨some 352,.faddr 1 1 false (.tmp 351),none,[29]⟩,⟨some 353,.load none (.tmp 352),none,[30,29]⟩,⟨some 354,.faddr 2 1 false (.tmp 4),none,[]⟩,⟨some 355,.load none (.tmp 354),none,[32]⟩,⟨some 356,.bin .mul (.tmp 353) (.tmp 355),none,[31,30,29,33,32]⟩,⟨some 357,.bin .sub (.tmp 350) (.tmp 356),none,[28,22,19,18,21,20,27,24,23,26,25,34,31,30,29,33,32]⟩,⟨some 358,.call (.func 81) [.tmp 339,.tmp 357],none,[17,10,4,1,0,3,2,9,6,5,8,7,16,13,12,11,15,14,35,28,22,19,18,21,20,27,24,23,26,25,34,31,30,29,33,32]⟩,⟨some 359,.faddr 0 1 false (.tmp 40),none,[]⟩,⟨some 360,.load none (.tmp 359),none,[37]⟩,⟨some 361,.faddr 2 1 false (.tmp 4),none,[]⟩,⟨some 362,.load none (.tmp 361),none,[39]⟩,⟨some 363,.bin .mul (.tmp 360) (.tmp 362),none,[38,37,40,39]⟩,⟨some 364,.faddr 2 1 false (.tmp 40),none,[]⟩,⟨some 365,.load none (.tmp 364),none,[42]⟩,⟨some 366,.faddr 0 1 false (.tmp 4),none,[]⟩,⟨some 367,.load none (.tmp 366),none,[44]⟩,⟨some 368,.bin .mul (.tmp 365) (.tmp 367),none,[43,42,45,44]⟩,⟨some 369,.bin .sub (.tmp 363) (.tmp 368),none,[41,38,37,40,39,46,43,42,45,44]⟩,⟨some 370,.faddr 0 2 true (.tmp 5),none,[]⟩,⟨some 371,.faddr 0 1 false (.tmp 370),none,[48]⟩,⟨some 372,.load none (.tmp 371),none,[49,48]⟩,⟨some 373,.faddr 2 1 false (.tmp 4),none,[]⟩,⟨some 374,.load none (.tmp 373),none,[51]⟩,⟨some 375,.bin .mul (.tmp 372) (.tmp 374),none,[50,49,48,52,51]⟩,⟨some 376,.bin .sub (.tmp 369) (.tmp 375),none,[47,41,38,37,40,39,46,43,42,45,44,53,50,49,48,52,51]⟩,⟨some 377,.faddr 1 1 false (.tmp 40),none,[]⟩,⟨some 378,.load none (.tmp 377),none,[55]⟩,⟨some 379,.faddr 2 1 false (.tmp 4),none,[]⟩,⟨some 380,.load none (.tmp 379),none,[57]⟩,⟨some 381,.bin .mul (.tmp 378) (.tmp 380),none,[56,55,58,57]⟩,⟨some 382,.faddr 2 1 false (.tmp 40),none,[]⟩,⟨some 383,.load none (.tmp 382),none,[60]⟩,⟨some 384,.faddr 1 1 false (.tmp 4),none,[]⟩,⟨some 385,.load none (.tmp 384),none,[62]⟩,⟨some 386,.bin .mul (.tmp 383) (.tmp 385),none,[61,60,63,62]⟩,⟨some 387,.bin .sub (.tmp 381) (.tmp 386),none,[59,56,55,58,57,64,61,60,63,62]⟩,⟨some 388,.faddr 0 2 true (.tmp 5),none,[]⟩,⟨some 389,.faddr 1 1 false (.tmp 388),none,[66]⟩,⟨some 390,.load none (.tmp 389),none,[67,66]⟩,⟨some 391,.faddr 2 1 false (.tmp 4),none,[]⟩,⟨some 392,.load none (.tmp 391),none,[69]⟩,⟨some 393,.bin .mul (.tmp 390) (.tmp 392),none,[68,67,66,70,69]⟩,⟨some 394,.bin .sub (.tmp 387) (.tmp 393),none,[65,59,56,55,58,57,64,61,60,63,62,71,68,67,66,70,69]⟩,⟨some 395,.call (.func 81) [.tmp 376,.tmp 394],none,[54,47,41,38,37,40,39,46,43,42,45,44,53,50,49,48,52,51,72,65,59,56,55,58,57,64,61,60,63,62,71,68,67,66,70,69,36,17,10,4,1,0,3,2,9,6,5,8,7,16,13,12,11,15,14,35,28,22,19,18,21,20,27,24,23,26,25,34,31,30,29,33,32]⟩,⟨some 41,.alloc (.agg [.int .i64 0,.int .i64 0]) 2,none,[]⟩,⟨some 42,.alloc (.agg [.int .i64 0,.int .i64 0]) 2,none,[]⟩,⟨none,.store 2 (.tmp 41) (.tmp 358),none,[74,36,17,10,4,1,0,3,2,9,6,5,8,7,16,13,12,11,15,14,35,28,22,19,18,21,20,27,24,23,26,25,34,31,30,29,33,32,73,54,47,41,38,37,40,39,46,43,42,45,44,53,50,49,48,52,51,72,65,59,56,55,58,57,64,61,60,63,62,71,68,67,66,70,69,75]⟩,⟨none,.store 2 (.tmp 42) (.tmp 395),none,[75,73,54,47,41,38,37,40,39,46,43,42,45,44,53,50,49,48,52,51,72,65,59,56,55,58,57,64,61,60,63,62,71,68,67,66,70,69,36,17,10,4,1,0,3,2,9,6,5,8,7,16,13,12,11,15,14,35,28,22,19,18,21,20,27,24,23,26,25,34,31,30,29,33,32,76,74]⟩]) (.seq (.ops false [⟨some 396,.faddr 0 1 false (.tmp 41),none,[]⟩,⟨some 397,.load none (.tmp 396),none,[]⟩,⟨some 398,.faddr 1 1 false (.tmp 42),none,[]⟩,⟨some 399,.load none (.tmp 398),none,[]⟩,⟨some 400,.bin .mul (.tmp 397) (.tmp 399),none,[]⟩,⟨some 401,.faddr 1 1 false (.tmp 41),none,[]⟩,⟨some 402,.load none (.tmp 401),none,[]⟩,⟨some 403,.faddr 0 1 false (.tmp 42),none,[]⟩,⟨some 404,.load none (.tmp 403),none,[]⟩,⟨some 405,.bin .mul (.tmp 402) (.tmp 404),none,[]⟩,⟨some 406,.bin .sub (.tmp 400) (.tmp 405),none,[]⟩,⟨some 43,.mov (.tmp 406),none,[]⟩]) (.ops false [⟨some 407,.mov (.tmp 36),none,[]⟩,⟨some 408,.mov (.tmp 407),none,[]⟩,⟨some 409,.mov (.tmp 43),some (408,false),[]⟩,⟨some 410,.bin .gtr (.tmp 409) (.const (.int .i64 0)),some (408,false),[]⟩,⟨some 411,.pick (.tmp 408) (.const (.bool true)) (.tmp 410),none,[]⟩,⟨some 412,.mov (.tmp 37),none,[]⟩,⟨some 413,.mov (.tmp 412),none,[]⟩,⟨some 414,.mov (.tmp 43),some (413,false),[]⟩,⟨some 415,.bin .lss (.tmp 414) (.const (.int .i64 0)),some (413,false),[]⟩,⟨some 416,.pick (.tmp 413) (.const (.bool true)) (.tmp 415),none,[]⟩,⟨some 36,.mov (.tmp 411),none,[]⟩,⟨some 37,.mov (.tmp 416),none,[]⟩])))))) (.ops false [⟨some 417,.bin .add (.tmp 307) (.const (.int .i64 1)),none,[]⟩,⟨some 307,.mov (.tmp 417),none,[]⟩]))))
def dk10_1 : Keep := ⟨[],[0,4,5,36,37,306,307],[4,5,19,21,22,31,33,80,81,95]⟩
def dc10 : DFunc := ⟨426,3,[.tmp 6],.seq (.ops false [⟨some 4,.box 3 (.tmp 1),none,[]⟩,⟨some 5,.box 5 (.tmp 2),none,[]⟩,⟨some 6,.mov (.const (.bool false)),none,[]⟩]) (.seq (.seq (.ops false [⟨some 44,.mov (.tmp 0),none,[]⟩,⟨some 45,.call (.func 21) [.tmp 44],none,[]⟩,⟨some 46,.bin .neq (.tmp 45) (.const (.int .i64 0)),none,[]⟩,⟨some 47,.mov (.tmp 46),none,[]⟩,⟨some 48,.load (some 3) (.tmp 4),some (47,false),[]⟩,⟨some 49,.call (.func 22) [.tmp 48],some (47,false),[]⟩,⟨some 50,.bin .neq (.tmp 49) (.const (.int .i64 0)),some (47,false),[]⟩,⟨some 51,.pick (.tmp 47) (.const (.bool true)) (.tmp 50),none,[]⟩,⟨some 52,.mov (.tmp 51),none,[]⟩,⟨some 53,.faddr 0 2 true (.tmp 5),some (52,false),[]⟩,⟨some 54,.load (some 2) (.tmp 53),some (52,false),[]⟩,⟨some 55,.call (.func 23) [.tmp 54],some (52,false),[]⟩,⟨some 56,.bin .neq (.tmp 55) (.const (.int .i64 0)),some (52,false),[]⟩,⟨some 57,.pick (.tmp 52) (.const (.bool true)) (.tmp 56),none,[]⟩]) (.cond (.tmp 57) (.seq (.ops false [⟨some 58,.call (.func 14) [],none,[]⟩,⟨some 6,.mov (.tmp 58),none,[]⟩]) .ret) .skip)) (.seq (.ops true [⟨some 60,.mov (.tmp 0),none,[]⟩,⟨some 61,.call (.func 16) [.tmp 60],none,[0]⟩,⟨some 62,.load (some 3) (.tmp 4),none,[]⟩,⟨some 63,.faddr 0 2 true (.tmp 5),none,[]⟩,⟨some 64,.load (some 2) (.tmp 63),none,[3]⟩,⟨some 65,.call (.func 15) [.tmp 61,.tmp 62,.tmp 64],none,[1,0,2,4,3]⟩,⟨some 59,.mov (.tmp 65),none,[5,1,0,2,4,3]⟩,⟨some 66,.extract (.tmp 59) 0,none,[6,5,1,0,2,4,3]⟩,⟨some 67,.extract (.tmp 59) 1,none,[6,5,1,0,2,4,3]⟩,⟨some 7,.mov (.tmp 66),none,[7,6,5,1,0,2,4,3]⟩,⟨some 8,.mov (.tmp 67),none,[8,6,5,1,0,2,4,3,9,7]⟩]) (.seq (.ops false [⟨some 9,.mov (.const (.slice none 0 0)),none,[]⟩]) (.seq (.seq (.ops false [⟨some 68,.mov (.tmp 0),none,[]⟩,⟨some 69,.len (.tmp 68),none,[]⟩,⟨some 70,.bin .sub (.tmp 69) (.const (.int .i64 1)),none,[]⟩,⟨some 10,.mov (.tmp 70),none,[]⟩]) (.block 0 (some ⟨[],[0,4,5,7,8,9],[4,5,9,19,21,22,31,33,39,40,41,42,95]⟩) (.loop dk10_0 db10_0))) (.seq (.ops false [⟨some 82,.faddr 2 1 false (.tmp 5),none,[]⟩,⟨some 83,.load none (.tmp 82),none,[]⟩,⟨some 84,.conv .i64 (.tmp 83),none,[]⟩,⟨some 85,.mov (.tmp 0),none,[]⟩,⟨some 86,.len (.tmp 85),none,[]⟩,⟨some 87,.bin .rem (.tmp 84) (.tmp 86),none,[]⟩,⟨some 11,.mov (.tmp 87),none,[]⟩]) (.seq (.ops true [⟨some 88,.mov (.tmp 0),none,[]⟩,⟨some 89,.mov (.tmp 11),none,[]⟩,⟨some 90,.slice 3 (.tmp 88) (some (.tmp 89)) none none,none,[0,1]⟩,⟨some 91,.call (.func 16) [.tmp 90],none,[2,0,1]⟩,⟨some 92,.mov (.tmp 0),none,[]⟩,⟨some 93,.mov (.tmp 11),none,[]⟩,⟨some 94,.slice 3 (.tmp 92) none (some (.tmp 93)) none,none,[4,5]⟩,⟨some 95,.append false 3 (.tmp 91) (.tmp 94),none,[3,2,0,1,6,4,5]⟩,⟨some 12,.mov (.tmp 95),none,[7,3,2,0,1,6,4,5]⟩]) (.seq (.ops false [⟨some 97,.mov (.tmp 9),none,[]⟩,⟨some 98,.load (some 3) (.tmp 4),none,[]⟩,⟨some 99,.faddr 0 2 true (.tmp 5),none,[]⟩,⟨some 100,.load (some 2) (.tmp 99),none,[]⟩,⟨some 101,.call (.func 15) [.tmp 97,.tmp 98,.tmp 100],none,[]⟩,⟨some 96,.mov (.tmp 101),none,[]⟩,⟨some 102,.extract (.tmp 96) 0,none,[]⟩,⟨some 103,.extract (.tmp 96) 1,none,[]⟩,⟨some 13,.mov (.tmp 102),none,[]⟩,⟨some 14,.mov (.tmp 103),none,[]⟩]) (.seq (.ops false [⟨some 105,.mov (.tmp 12),none,[]⟩,⟨some 106,.load (some 3) (.tmp 4),none,[]⟩,⟨some 107,.faddr 0 2 true (.tmp 5),none,[]⟩,⟨some 108,.load (some 2) (.tmp 107),none,[]⟩,⟨some 109,.call (.func 15) [.tmp 105,.tmp 106,.tmp 108],none,[]⟩,⟨some 104,.mov (.tmp 109),none,[]⟩,⟨some 110,.extract (.tmp 104) 0,none,[]⟩,⟨some 111,.extract (.tmp 104) 1,none,[]⟩,⟨some 15,.mov (.tmp 110),none,[]⟩,⟨some 16,.mov (.tmp 111),none,[]⟩]) (.seq (.ops true [⟨some 113,.mov (.tmp 0),none,[]⟩,⟨some 114,.call (.func 16) [.tmp 113],none,[0]⟩,⟨some 115,.load (some 3) (.tmp 4),none,[]⟩,⟨some 116,.call (.func 45) [.tmp 114,.tmp 115],none,[1,0,2]⟩,⟨some 112,.mov (.tmp 116),none,[3,1,0,2]⟩,⟨some 117,.extract (.tmp 112) 0,none,[4,3,1,0,2]⟩,⟨some 118,.extract (.tmp 112) 1,none,[4,3,1,0,2]⟩,⟨some 17,.mov (.tmp 117),none,[5,4,3,1,0,2]⟩,⟨some 18,.mov (.tmp 118),none,[6,4,3,1,0,2,7,5]⟩]) (.seq (.ops true [⟨some 120,.mov (.tmp 0),none,[]⟩,⟨some 121,.call (.func 16) [.tmp 120],none,[0]⟩,⟨some 122,.load (some 3) (.tmp 4),none,[]⟩,⟨some 123,.call (.func 46) [.tmp 121,.tmp 122],none,[1,0,2]⟩,⟨some 119,.mov (.tmp 123),none,[3,1,0,2]⟩,⟨some 124,.extract (.tmp 119) 0,none,[4,3,1,0,2]⟩,⟨some 125,.extract (.tmp 119) 1,none,[4,3,1,0,2]⟩,⟨some 19,.alloc (.agg [.int .i64 0,.int .i64 0]) 2,none,[]⟩,⟨none,.store 2 (.tmp 19) (.tmp 124),none,[7,5,4,3,1,0,2]⟩,⟨some 20,.mov (.tmp 125),none,[6,4,3,1,0,2,8,7,5]⟩]) (.seq (.seq (.ops false [⟨some 126,.mov (.tmp 8),none,[]⟩,⟨some 127,.bin .neq (.tmp 126) (.const (.int .i64 0)),none,[]⟩,⟨some 128,.mov (.tmp 127),none,[]⟩,⟨some 129,.mov (.tmp 14),some (128,false),[]⟩,⟨some 130,.bin .neq (.tmp 129) (.const (.int .i64 0)),some (128,false),[]⟩,⟨some 131,.pick (.tmp 128) (.const (.bool true)) (.tmp 130),none,[]⟩,⟨some 132,.mov (.tmp 131),none,[]⟩,⟨some 133,.mov (.tmp 16),some (132,false),[]⟩,⟨some 134,.bin .neq (.tmp 133) (.const (.int .i64 0)),some (132,false),[]⟩,⟨some 135,.pick (.tmp 132) (.const (.bool true)) (.tmp 134),none,[]⟩,⟨some 136,.mov (.tmp 135),none,[]⟩,⟨some 137,.mov (.tmp 18),some (136,false),[]⟩,⟨some 138,.bin .neq (.tmp 137) (.const (.int .i64 0)),some (136,false),[]⟩,⟨some 139,.pick (.tmp 136) (.const (.bool true)) (.tmp 138),none,[]⟩,⟨some 140,.mov (.tmp 139),none,[]⟩,⟨some 141,.mov (.tmp 20),some (140,false),[]⟩,⟨some 142,.bin .neq (.tmp 141) (.const (.int .i64 0)),some (140,false),[]⟩,⟨some 143,.pick (.tmp 140) (.const (.bool true)) (.tmp 142),none,[]⟩,⟨some 144,.mov (.tmp 143),none,[]⟩,⟨some 145,.mov (.tmp 13),some (144,false),[]⟩,⟨some 146,.mov (.tmp 7),some (144,false),[]⟩,⟨some 147,.eqB true (.tmp 145) (.tmp 146),some (144,false),[]⟩,⟨some 148,.pick (.tmp 144) (.const (.bool true)) (.tmp 147),none,[]⟩,⟨some 149,.mov (.tmp 148),none,[]⟩,⟨some 150,.mov (.tmp 15),some (149,false),[]⟩,⟨some 151,.mov (.tmp 7),some (149,false),[]⟩,⟨some 152,.eqB true (.tmp 150) (.tmp 151),some (149,false),[]⟩,⟨some 153,.pick (.tmp 149) (.const (.bool true)) (.tmp 152),none,[]⟩,⟨some 154,.mov (.tmp 153),none,[]⟩,⟨some 155,.mov (.tmp 17),some (154,false),[]⟩,⟨some 156,.len (.tmp 155),some (154,false),[]⟩,⟨some 157,.mov (.tmp 0),some (154,false),[]⟩,⟨some 158,.len (.tmp 157),some (154,false),[]⟩,⟨some 159,.bin .neq (.tmp 156) (.tmp 158),some (154,false),[]⟩,⟨some 160,.pick (.tmp 154) (.const (.bool true)) (.tmp 159),none,[]⟩,⟨some 161,.mov (.tmp 160),none,[]⟩,⟨some 162,.faddr 0 1 false (.tmp 19),some (161,false),[]⟩,⟨some 163,.load none (.tmp 162),some (161,false),[]⟩,⟨some 164,.bin .lss (.tmp 163) (.const (.int .i64 0)),some (161,false),[]⟩,⟨some 165,.pick (.tmp 161) (.const (.bool true)) (.tmp 164),none,[]⟩,⟨some 166,.mov (.tmp 165),none,[]⟩,⟨some 167,.faddr 1 1 false (.tmp 19),some (166,false),[]⟩,⟨some 168,.load none (.tmp 167),some (166,false),[]⟩,⟨some 169,.bin .lss (.tmp 168) (.const (.int .i64 1)),some (166,false),[]⟩,⟨some 170,.pick (.tmp 166) (.const (.bool true)) (.tmp 169),none,[]⟩]) (.cond (.tmp 170) (.seq (.ops false [⟨some 6,.mov (.const (.bool false)),none,[]⟩]) .ret) .skip)) (.seq (.ops false [⟨some 171,.faddr 3 2 true (.tmp 5),none,[]⟩,⟨some 172,.iaddrA 2 1 false (.tmp 171) (.const (.int .i64 0)),none,[]⟩,⟨some 173,.load none (.tmp 172),none,[]⟩,⟨some 174,.conv .i64 (.tmp 173),none,[]⟩,⟨some 175,.bin .rem (.tmp 174) (.const (.int .i64 50)),none,[]⟩,⟨some 176,.faddr 3 2 true (.tmp 5),none,[]⟩,⟨some 177,.iaddrA 2 1 false (.tmp 176) (.const (.int .i64 1)),none,[]⟩,⟨some 178,.load none (.tmp 177),none,[]⟩,⟨some 179,.conv .i64 (.tmp 178),none,[]⟩,⟨some 180,.bin .rem (.tmp 179) (.const (.int .i64 50)),none,[]⟩,⟨some 181,.call (.func 82) [.tmp 175,.tmp 180,.const (.int .i64 0)],none,[]⟩,⟨some 21,.alloc (.agg [.int .i64 0,.int .i64 0,.int .i64 0]) 3,none,[]⟩,⟨none,.store 3 (.tmp 21) (.tmp 181),none,[]⟩]) (.seq (.ops false [⟨some 182,.faddr 0 2 true (.tmp 5),none,[]⟩,⟨some 183,.faddr 0 1 false (.tmp 182),none,[]⟩,⟨some 184,.load none (.tmp 183),none,[]⟩,⟨some 185,.faddr 0 1 false (.tmp 21),none,[]⟩,⟨some 186,.load none (.tmp 185),none,[]⟩,⟨some 187,.bin .add (.tmp 184) (.tmp 186),none,[]⟩,⟨some 188,.faddr 0 2 true (.tmp 5),none,[]⟩,⟨some 189,.faddr 1 1 false (.tmp 188),none,[]⟩,⟨some 190,.load none (.tmp 189),none,[]⟩,⟨some 191,.faddr 1 1 false (.tmp 21),none,[]⟩,⟨some 192,.load none (.tmp 191),none,[]⟩,⟨some 193,.bin .add (.tmp 190) (.tmp 192),none,[]⟩,⟨some 194,.call (.func 81) [.tmp 187,.tmp 193],none,[]⟩,⟨some 22,.alloc (.agg [.int .i64 0,.int .i64 0]) 2,none,[]⟩,⟨none,.store 2 (.tmp 22) (.tmp 194),none,[]⟩]) (.seq (.seq (.ops true [⟨some 196,.mov (.tmp 0),none,[]⟩,⟨some 197,.call (.func 16) [.tmp 196],none,[0]⟩,⟨some 198,.load (some 3) (.tmp 21),none,[]⟩,⟨some 199,.call (.func 47) [.tmp 197,.tmp 198],none,[1,0,2]⟩,⟨some 195,.mov (.tmp 199),none,[3,1,0,2]⟩,⟨some 200,.extract (.tmp 195) 0,none,[4,3,1,0,2]⟩,⟨some 201,.extract (.tmp 195) 1,none,[4,3,1,0,2]⟩,⟨some 23,.mov (.tmp 200),none,[5,4,3,1,0,2]⟩,⟨some 24,.mov (.tmp 201),none,[6,4,3,1,0,2,7,5]⟩]) (.seq (.ops false [⟨some 202,.mov (.tmp 24),none,[]⟩,⟨some 203,.bin .eql (.tmp 202) (.const (.int .i64 0)),none,[]⟩,⟨some 204,.mov (.tmp 203),none,[]⟩,⟨some 205,.load (some 2) (.tmp 22),some (204,true),[]⟩,⟨some 206,.call (.func 23) [.tmp 205],some (204,true),[]⟩,⟨some 207,.bin .eql (.tmp 206) (.const (.int .i64 0)),some (204,true),[]⟩,⟨some 208,.pick (.tmp 204) (.tmp 207) (.const (.bool false)),none,[]⟩]) (.cond (.tmp 208) (.seq (.ops false [⟨some 210,.mov (.tmp 23),none,[]⟩,⟨some 211,.load (some 3) (.tmp 4),none,[]⟩,⟨some 212,.load (some 2) (.tmp 22),none,[]⟩,⟨some 213,.call (.func 15) [.tmp 210,.tmp 211,.tmp 212],none,[]⟩,⟨some 209,.mov (.tmp 213),none,[]⟩,⟨some 214,.extract (.tmp 209) 0,none,[]⟩,⟨some 215,.extract (.tmp 209) 1,none,[]⟩,⟨some 25,.mov (.tmp 214),none,[]⟩,⟨some 26,.mov (.tmp 215),none,[]⟩]) (.seq (.ops false [⟨some 216,.mov (.tmp 26),none,[]⟩,⟨some 217,.bin .neq (.tmp 216) (.const (.int .i64 0)),none,[]⟩,⟨some 218,.mov (.tmp 217),none,[]⟩,⟨some 219,.mov (.tmp 25),some (218,false),[]⟩,⟨some 220,.mov (.tmp 7),some (218,false),[]⟩,⟨some 221,.eqB true (.tmp 219) (.tmp 220),some (218,false),[]⟩,⟨some 222,.pick (.tmp 218) (.const (.bool true)) (.tmp 221),none,[]⟩]) (.cond (.tmp 222) (.seq (.ops false [⟨some 6,.mov (.const (.bool false)),none,[]⟩]) .ret) .skip))) (.seq (.ops false [⟨some 223,.mov (.tmp 24),none,[]⟩,⟨some 224,.bin .neq (.tmp 223) (.const (.int .i64 0)),none,[]⟩,⟨some 225,.mov (.tmp 224),none,[]⟩,⟨some 226,.mov (.tmp 24),some (225,true),[]⟩,⟨some 227,.bin .neq (.tmp 226) (.const (.int .i64 4)),some (225,true),[]⟩,⟨some 228,.pick (.tmp 225) (.tmp 227) (.const (.bool false)),none,[]⟩]) (.cond (.tmp 228) (.seq (.ops false [⟨some 6,.mov (.const (.bool false)),none,[]⟩]) .ret) .skip))))) (.seq (.seq (.ops true [⟨some 230,.mov (.tmp 0),none,[]⟩,⟨some 231,.call (.func 16) [.tmp 230],none,[0]⟩,⟨some 232,.load (some 3) (.tmp 4),none,[]⟩,⟨some 233,.call (.func 47) [.tmp 231,.tmp 232],none,[1,0,2]⟩,⟨some 229,.mov (.tmp 233),none,[3,1,0,2]⟩,⟨some 234,.extract (.tmp 229) 0,none,[4,3,1,0,2]⟩,⟨some 235,.extract (.tmp 229) 1,none,[4,3,1,0,2]⟩,⟨some 27,.mov (.tmp 234),none,[5,4,3,1,0,2]⟩,⟨some 28,.mov (.tmp 235),none,[6,4,3,1,0,2,7,5]⟩]) (.seq (.ops false [⟨some 236,.mov (.tmp 28),none,[]⟩,⟨some 237,.bin .eql (.tmp 236) (.const (.int .i64 0)),none,[]⟩]) (.cond (.tmp 237) (.seq (.ops true [⟨some 239,.mov (.tmp 27),none,[]⟩,⟨some 240,.call (.func 16) [.tmp 239],none,[0]⟩,⟨some 241,.load (some 3) (.tmp 4),none,[]⟩,⟨some 242,.call (.func 45) [.tmp 240,.tmp 241],none,[1,0,2]⟩,⟨some 238,.mov (.tmp 242),none,[3,1,0,2]⟩,⟨some 243,.extract (.tmp 238) 0,none,[4,3,1,0,2]⟩,⟨some 244,.extract (.tmp 238) 1,none,[4,3,1,0,2]⟩,⟨some 29,.mov (.tmp 243),none,[5,4,3,1,0,2]⟩,⟨some 30,.mov (.tmp 244),none,[6,4,3,1,0,2,7,5]⟩]) (.seq (.ops true [⟨some 246,.mov (.tmp 27),none,[]⟩,⟨some 247,.call (.func 16) [.tmp 246],none,[0]⟩,⟨some 248,.load (some 3) (.tmp 4),none,[]⟩,⟨some 249,.call (.func 46) [.tmp 247,.tmp 248],none,[1,0,2]⟩,⟨some 245,.mov (.tmp 249),none,[3,1,0,2]⟩,⟨some 250,.extract (.tmp 245) 0,none,[4,3,1,0,2]⟩,⟨some 251,.extract (.tmp 245) 1,none,[4,3,1,0,2]⟩,⟨some 31,.alloc (.agg [.int .i64 0,.int .i64 0]) 2,none,[]⟩,⟨none,.store 2 (.tmp 31) (.tmp 250),none,[7,5,4,3,1,0,2]⟩,⟨some 32,.mov (.tmp 251),none,[6,4,3,1,0,2,8,7,5]⟩]) (.seq (.ops false [⟨some 252,.mov (.tmp 30),none,[]⟩,⟨some 253,.bin .neq (.tmp 252) (.const (.int .i64 0)),none,[]⟩,⟨some 254,.mov (.tmp 253),none,[]⟩,⟨some 255,.mov (.tmp 32),some (254,false),[]⟩,⟨some 256,.bin .neq (.tmp 255) (.const (.int .i64 0)),some (254,false),[]⟩,⟨some 257,.pick (.tmp 254) (.const (.bool true)) (.tmp 256),none,[]⟩,⟨some 258,.mov (.tmp 257),none,[]⟩,⟨some 259,.mov (.tmp 29),some (258,false),[]⟩,⟨some 260,.call (.func 53) [.tmp 259],some (258,false),[]⟩,⟨some 261,.mov (.tmp 17),some (258,false),[]⟩,⟨some 262,.call (.func 53) [.tmp 261],some (258,false),[]⟩,⟨some 263,.call (.func 52) [.tmp 260,.tmp 262],some (258,false),[]⟩,⟨some 264,.un .not (.tmp 263),some (258,false),[]⟩,⟨some 265,.pick (.tmp 258) (.const (.bool true)) (.tmp 264),none,[]⟩,⟨some 266,.mov (.tmp 265),none,[]⟩,⟨some 267,.load (some 2) (.tmp 31),some (266,false),[]⟩,⟨some 268,.load (some 2) (.tmp 19),some (266,false),[]⟩,⟨some 269,.eqA true [1,1] (.tmp 267) (.tmp 268),some (266,false),[]⟩,⟨some 270,.pick (.tmp 266) (.const (.bool true)) (.tmp 269),none,[]⟩]) (.cond (.tmp 270) (.seq (.ops false [⟨some 6,.mov (.const (.bool false)),none,[]⟩]) .ret) .skip)))) (.seq (.ops false [⟨some 271,.mov (.tmp 28),none,[]⟩,⟨some 272,.bin .neq (.tmp 271) (.const (.int .i64 4)),none,[]⟩]) (.cond (.tmp 272) (.seq (.ops false [⟨some 6,.mov (.const (.bool false)),none,[]⟩]) .ret) .skip))))) (.seq (.seq (.ops false [⟨some 273,.faddr 0 1 false (.tmp 4),none,[]⟩,⟨some 274,.load none (.tmp 273),none,[]⟩,⟨some 275,.bin .mul (.const (.int .i64 2)) (.tmp 274),none,[]⟩,⟨some 276,.faddr 1 1 false (.tmp 4),none,[]⟩,⟨some 277,.load none (.tmp 276),none,[]⟩,⟨some 278,.bin .mul (.const (.int .i64 2)) (.tmp 277),none,[]⟩,⟨some 279,.faddr 2 1 false (.tmp 4),none,[]⟩,⟨some 280,.load none (.tmp 279),none,[]⟩,⟨some 281,.bin .mul (.const (.int .i64 2)) (.tmp 280),none,[]⟩,⟨some 282,.call (.func 82) [.tmp 275,.tmp 278,.tmp 281],none,[]⟩,⟨some 33,.alloc (.agg [.int .i64 0,.int .i64 0,.int .i64 0]) 3,none,[]⟩,⟨none,.store 3 (.tmp 33) (.tmp 282),none,[]⟩]) (.seq (.ops false [⟨some 283,.load (some 3) (.tmp 33),none,[]⟩,⟨some 284,.call (.func 22) [.tmp 283],none,[]⟩,⟨some 285,.bin .eql (.tmp 284) (.const (.int .i64 0)),none,[]⟩]) (.cond (.tmp 285) (.seq (.ops true [⟨some 287,.mov (.tmp 0),none,[]⟩,⟨some 288,.call (.func 16) [.tmp 287],none,[0]⟩,⟨some 289,.load (some 3) (.tmp 33),none,[]⟩,⟨some 290,.faddr 0 2 true (.tmp 5),none,[]⟩,⟨some 291,.load (some 2) (.tmp 290),none,[3]⟩,⟨some 292,.call (.func 15) [.tmp 288,.tmp 289,.tmp 291],none,[1,0,2,4,3]⟩,⟨some 286,.mov (.tmp 292),none,[5,1,0,2,4,3]⟩,⟨some 293,.extract (.tmp 286) 0,none,[6,5,1,0,2,4,3]⟩,⟨some 294,.extract (.tmp 286) 1,none,[6,5,1,0,2,4,3]⟩,⟨some 34,.mov (.tmp 293),none,[7,6,5,1,0,2,4,3]⟩,⟨some 35,.mov (.tmp 294),none,[8,6,5,1,0,2,4,3,9,7]⟩]) (.seq (.ops false [⟨some 295,.mov (.tmp 35),none,[]⟩,⟨some 296,.bin .neq (.tmp 295) (.const (.int .i64 0)),none,[]⟩,⟨some 297,.mov (.tmp 296),none,[]⟩,⟨some 298,.mov (.tmp 34),some (297,false),[]⟩,⟨some 299,.mov (.tmp 7),some (297,false),[]⟩,⟨some 300,.eqB true (.tmp 298) (.tmp 299),some (297,false),[]⟩,⟨some 301,.pick (.tmp 297) (.const (.bool true)) (.tmp 300),none,[]⟩]) (.cond (.tmp 301) (.seq (.ops false [⟨some 6,.mov (.const (.bool false)),none,[]⟩]) .ret) .skip))) .skip))) (.seq (.seq (.ops false [⟨some 302,.mov (.tmp 7),none,[]⟩,⟨some 303,.un .not (.tmp 302),none,[]⟩]) (.cond (.tmp 303) (.seq (.ops false [⟨some 304,.call (.func 14) [],none,[]⟩,⟨some 6,.mov (.tmp 304),none,[]⟩]) .ret) .skip)) (.seq (.ops false [⟨some 36,.mov (.const (.bool false)),none,[]⟩,⟨some 37,.mov (.const (.bool false)),none,[]⟩]) (.seq (.seq (.ops false [⟨some 305,.mov (.tmp 0),none,[]⟩,⟨some 306,.len (.tmp 305),none,[]⟩,⟨some 307,.mov (.const (.int .i64 0)),none,[]⟩]) (.block 2 (some ⟨[],[36,37],[4,5,19,21,22,31,33,80,81,95]⟩) (.loop dk10_1 db10_1))) (.seq (.ops false [⟨some 418,.mov (.tmp 36),none,[]⟩,⟨some 419,.mov (.tmp 418),none,[]⟩,⟨some 420,.mov (.tmp 37),some (419,true),[]⟩,⟨some 421,.pick (.tmp 419) (.tmp 420) (.const (.bool false)),none,[]⟩,⟨some 422,.un .not (.tmp 421),none,[]⟩,⟨some 423,.mov (.tmp 422),none,[]⟩,⟨some 424,.call (.func 14) [],some (423,true),[]⟩,⟨some 425,.pick (.tmp 423) (.tmp 424) (.const (.bool false)),none,[]⟩,⟨some 6,.mov (.tmp 425),none,[]⟩]) .ret))))))))))))))))))))⟩
theorem dh10:cProg Go.Proofs.Tryz.prog ⟨[(0,⟨[(9,3)],[0,4,5,7,8,9,10],[4,5,9,19,21,22,31,33,39,40,41,42,95]⟩),(2,⟨[],[0,4,5,36,37,306,307],[4,5,19,21,22,31,33,80,81,95]⟩)],[(0,⟨[],[0,4,5,7,8,9],[4,5,9,19,21,22,31,33,39,40,41,42,95]⟩),(2,⟨[],[36,37],[4,5,19,21,22,31,33,80,81,95]⟩)],[80]⟩ 10=some dc10:=by kernel_rfl
end Sh

set_option maxHeartbeats 4000000
namespace Sh
open Go Go.Proofs
def dcOwn:DFunc:=⟨6,1,[(.tmp 2)],(.seq (.ops false [⟨(some 2),(.mov (.const (.slice none 0 0))),none,[]⟩]) (.seq (.ops false [⟨(some 3),(.lit true 3 0 (.agg [(.int .i64 0),(.int .i64 0),(.int .i64 0)]) []),none,[]⟩,⟨(some 4),(.mov (.tmp 0)),none,[]⟩,⟨(some 5),(.append false 3 (.tmp 3) (.tmp 4)),none,[]⟩,⟨(some 2),(.mov (.tmp 5)),none,[]⟩]) .ret))⟩
theorem dhOwn:cProg Go.Proofs.Tryz.prog ⟨[],[],[3]⟩ 16=some dcOwn:=by kernel_rfl
theorem h_own (s:List V3) (hl:s.length < 1073741824):HCall Tryz.prog GC 16 [shp s] [] (.own 5 0 (s.map encV).length (s.map encV).length) [(5,.row 3 (s.map encV) false)]:=by
 refine hCall_ofR dhOwn rfl (by kernel_rfl) (by kernel_rfl) ?_
 conv=>whnf
 refine ⟨⟨by simp;omega,fun e he=>by obtain ⟨v,_,rfl⟩:=List.mem_map.1 he;rfl,fun e he=>absurd he List.not_mem_nil,.inl rfl⟩,?_⟩
 conv=>whnf
 exact ⟨rfl,rfl⟩
end Sh

namespace Sh
open Go Go.Proofs
theorem chkShp_of {s:List V3} (h3:3≤s.length) (h6:s.length≤6) (hc:∀ v ∈ s,chkCor v=0) (hf:flat_ s=true):chkShp s=0:=by
 have hz:sizeS s=0:=by
  rw [sizeS_of h3 h6]
  exact firstE_zeros fun x hx=>by obtain ⟨v,hv,rfl⟩:=List.mem_map.1 hx;exact hc v hv
 unfold chkShp
 rw [hz,if_neg (fun h=>h rfl),hf];rfl
theorem cor_of {s:List V3} (h:chkShp s=0):∀ v ∈ s,chkCor v=0:=by
 have hs:=chkShp_zero h
 have hz:=(chkShp_size h).1
 rw [sizeS_of hs.1 hs.2.1] at hz
 exact fun v hv=>firstE_mem hz _ (List.mem_map_of_mem hv)
theorem flat_of {s:List V3} (h:chkShp s=0):Flat (nrmV s) s:=(flat_spec (chkShp_zero h).1).1 (chkShp_size h).2
theorem rev_chk {s:List V3} (h:chkShp s=0):chkShp s.reverse=0:=by
 have hs:=chkShp_zero h
 refine chkShp_of (by rw [List.length_reverse];exact hs.1) (by rw [List.length_reverse];exact hs.2.1) (fun v hv=>cor_of h v (List.mem_reverse.1 hv)) ?_
 exact (flat_spec (by rw [List.length_reverse];exact hs.1)).2 (rev_flat (flat_of h)).1
theorem rot_chk {s:List V3} {k:Nat} (hk:k < s.length) (h:chkShp s=0):chkShp (s.drop k++s.take k)=0:=by
 have hs:=chkShp_zero h
 have hl:(s.drop k++s.take k).length=s.length:=by simp;omega
 refine chkShp_of (by rw [hl];exact hs.1) (by rw [hl];exact hs.2.1) (fun v hv=>cor_of h v ?_) ?_
 ·rcases List.mem_append.1 hv with hv|hv
  ·exact List.mem_of_mem_drop hv
  ·exact List.mem_of_mem_take hv
 ·exact (flat_spec (by rw [hl];exact hs.1)).2 (rot_flat hk (flat_of h)).1
theorem lowR_pos {a b:Int} (h0:0≤a) (h1:0 < b):¬ (lowR a b).1 < 0∧¬ (lowR a b).2 < 1:=by
 have hg:=gcdI_pos (n:=a) (d:=b) h1
 unfold lowR
 simp only
 rw [Int.tdiv_eq_ediv_of_nonneg h0,Int.tdiv_eq_ediv_of_nonneg (by omega)]
 refine ⟨?_,?_⟩
 ·have:=Int.ediv_nonneg h0 (show 0≤gcdI a b by omega);omega
 ·have:1≤b / gcdI a b:=(Int.le_ediv_iff_mul_le (by omega)).2 (by omega)
  omega
theorem area_pos (s:List V3) {sun:V3} (hz:1≤sun.z):¬ (areaR s sun).1 < 0∧¬ (areaR s sun).2 < 1 :=
 lowR_pos (absI_pos _) (Int.mul_pos (by omega) (by omega))
theorem outL_mov (s:List V3) (sun:V3):outL (movS s sun) sun=outL s sun:=by
 unfold outL movS
 rw [List.map_map]
 refine List.map_congr_left fun v _=>?_
 show cornR (addV v sun) sun=cornR v sun
 unfold cornR
 rw [castX_mov,castY_mov]
theorem withE_in' {n l h:Int} (h1:l≤n) (h2:n≤h):withE n l h=0:=if_neg (by omega)
theorem chkBy_in {v:V3} (h:bdV 2000 v):chkBy v=0:=by
 unfold chkBy
 rw [withE_in' h.1.1 h.1.2,withE_in' h.2.1.1 h.2.1.2,withE_in' h.2.2.1 h.2.2.2];rfl
theorem hd_ok {s:List V3} {sun:V3} {p:Pt} (h1:chkShp s=0) (h2:chkSun sun=0) (h3:chkSpot p=0):hdS s sun p=(hidB s sun p,0) :=
 if_neg (fun h=>h (by unfold hdE;rw [h1,h2,h3];rfl))
theorem ol_ok {s:List V3} {sun:V3} (h1:chkShp s=0) (h2:chkSun sun=0):olS s sun=(outL s sun,0)∧arS s sun=(areaR s sun,0):=by
 have h:olE s sun=0:=by unfold olE;rw [h1,h2];rfl
 exact ⟨if_neg (fun h2=>h2 h),if_neg (fun h2=>h2 h)⟩
theorem mv_ok {s:List V3} {d:V3} (h1:chkShp s=0) (h2:bdV 2000 d):mvS s d=movR s d :=
 if_neg (fun h=>h (by unfold mvE;rw [h1,chkBy_in h2];rfl))
theorem tmod50 {x:Int} : -49≤x.tmod 50∧x.tmod 50≤49:=by
 have h1:=Int.tmod_lt_of_pos x (b:=50) (by decide)
 have h2:=Int.tmod_lt_of_pos (-x) (b:=50) (by decide)
 rw [Int.neg_tmod] at h2
 omega
theorem wrap3 {a b c d e f:Int} (h1 : -1000≤a∧a≤1000) (h2 : -1000≤b∧b≤1000) (h3 : -1000≤c∧c≤1000) (h4 : -1000≤d∧d≤1000) (h5 : -1000≤e∧e≤1000) (h6 : -1000≤f∧f≤1000) :
  IntKind.i64.wrap (IntKind.i64.wrap (IntKind.i64.wrap (a * b) - IntKind.i64.wrap (c * d)) - IntKind.i64.wrap (e * f))=a * b - c * d - e * f ∧ -3000000≤a * b - c * d - e * f∧a * b - c * d - e * f≤3000000:=by
 have p1:=mul_bd h1.1 h1.2 h2.1 h2.2
 have p2:=mul_bd h3.1 h3.2 h4.1 h4.2
 have p3:=mul_bd h5.1 h5.2 h6.1 h6.2
 refine ⟨?_,by omega,by omega⟩
 rw [cast_w h1 h2 h3 h4,wrap_in (n:=e * f) (by omega) (by omega),wrap_in (by omega) (by omega)]
theorem wrap2 {a b c d:Int} (h1 : -3000000≤a∧a≤3000000) (h2 : -3000000≤b∧b≤3000000) (h3 : -3000000≤c∧c≤3000000) (h4 : -3000000≤d∧d≤3000000) :
  IntKind.i64.wrap (IntKind.i64.wrap (a * b) - IntKind.i64.wrap (c * d))=a * b - c * d:=by
 have p1:=mul_bd h1.1 h1.2 h2.1 h2.2
 have p2:=mul_bd h3.1 h3.2 h4.1 h4.2
 rw [wrap_in (n:=a * b) (by omega) (by omega),wrap_in (n:=c * d) (by omega) (by omega),wrap_in (by omega) (by omega)]
structure Mvg where
 p:Pt
 c:Int
 x:Int
 y:Int
def encM (m:Mvg):DV:=.agg [DV.int .i64 (m.p.x),DV.int .i64 (m.p.y),.int .u8 m.c,.int .i8 m.x,.int .i8 m.y]
def MvgOk (m:Mvg):Prop:=(0≤m.c∧m.c≤255)∧(-128≤m.x∧m.x≤127)∧(-128≤m.y∧m.y≤127)
end Sh

set_option maxHeartbeats 40000000
namespace Sh
open Go Go.Proofs
theorem l_ShadeSame (aw:PC 14 [] (.bool true)) (s:List V3) (sun:V3) (m:Mvg) (hm:MvgOk m):PC 10 [shp s,encV sun,encM m] (.bool true):=by
 obtain ⟨hc,hx,hy⟩:=hm
 obtain ⟨p,mc,mx,my⟩:=m
 obtain ⟨nc,rfl⟩:∃ n:Nat,mc=n:=⟨mc.toNat,by have:0≤mc:=hc.1;omega⟩
 replace hc:nc≤255:=by have:(nc:Int)≤255:=hc.2;omega
 replace hx : -128≤mx∧mx≤127:=hx
 replace hy : -128≤my∧my≤127:=hy
 have e0:((s.map encV).length:Int)=s.length:=by simp
 have kS:=r_CheckShapeU s
 have kU:=r_CheckSun sun
 have kP:=r_CheckSpot p
 by_cases z1:chkShp s=0
 case neg =>
  generalize chkShp s=E1 at *
  refine pureCall_ofR dh10 rfl ?_
  conv=>whnf
  conv=>whnf
  repeat' (first
   |(refine ⟨fun hg=>?_,fun hg=>?_⟩<;>first|contradiction|(exfalso;revert hg;simp;done)|(exfalso;exact absurd (of_decide_eq_true hg) (by assumption))|(exfalso;exact absurd (by assumption) (of_decide_eq_false hg))|(conv=>whnf))
   |(refine Or.inl ?_;conv=>whnf)
   |(refine ⟨_,kS,?_⟩;conv=>whnf)
   |(refine ⟨_,aw,?_⟩;conv=>whnf)
   |(refine And.intro ?_ ?_;kernel_rfl;conv=>whnf))
  all_goals rfl
 rw [z1] at kS
 by_cases z2:chkSun sun=0
 case neg =>
  generalize chkSun sun=E1 at *
  refine pureCall_ofR dh10 rfl ?_
  conv=>whnf
  conv=>whnf
  repeat' (first
   |(refine ⟨fun hg=>?_,fun hg=>?_⟩<;>first|contradiction|(exfalso;revert hg;simp;done)|(exfalso;exact absurd (of_decide_eq_true hg) (by assumption))|(exfalso;exact absurd (by assumption) (of_decide_eq_false hg))|(conv=>whnf))
   |(refine Or.inl ?_;conv=>whnf)
   |(refine ⟨_,kS,?_⟩;conv=>whnf)
   |(refine ⟨_,kU,?_⟩;conv=>whnf)
   |(refine ⟨_,aw,?_⟩;conv=>whnf)
   |(refine And.intro ?_ ?_;kernel_rfl;conv=>whnf))
  all_goals rfl
 rw [z2] at kU
 by_cases z3:chkSpot p=0
 case neg =>
  generalize chkSpot p=E1 at *
  refine pureCall_ofR dh10 rfl ?_
  conv=>whnf
  conv=>whnf
  repeat' (first
   |(refine ⟨fun hg=>?_,fun hg=>?_⟩<;>first|contradiction|(exfalso;revert hg;simp;done)|(exfalso;exact absurd (of_decide_eq_true hg) (by assumption))|(exfalso;exact absurd (by assumption) (of_decide_eq_false hg))|(conv=>whnf))
   |(refine Or.inl ?_;conv=>whnf)
   |(refine ⟨_,kS,?_⟩;conv=>whnf)
   |(refine ⟨_,kU,?_⟩;conv=>whnf)
   |(refine ⟨_,kP,?_⟩;conv=>whnf)
   |(refine ⟨_,aw,?_⟩;conv=>whnf)
   |(refine And.intro ?_ ?_;kernel_rfl;conv=>whnf))
  all_goals rfl
 rw [z3] at kP
 have hS:=chkShp_zero z1
 have hU:=chkSun_zero z2
 have hP:=chkSpot_zero z3
 have h6:=hS.2.1
 have h3:=hS.1
 have hl:s.length < 1073741824:=by omega
 have a1:=l_own s hl
 have b1:=c_Hides s sun p hl
 have hh:hdE s sun p=0:=by unfold hdE;rw [z1,z2,z3];rfl
 rw [show hdS s sun p=(hidB s sun p,0) from if_neg (fun h=>h hh)] at b1
 refine pureCall_ofR dh10 rfl ?_
 conv=>whnf
 conv=>whnf
 repeat' (first
  |(refine ⟨fun hg=>?_,fun hg=>?_⟩<;>first|contradiction|(exfalso;revert hg;simp;done)|(exfalso;exact absurd (of_decide_eq_true hg) (by assumption))|(exfalso;exact absurd (by assumption) (of_decide_eq_false hg))|(conv=>whnf))
  |(refine Or.inl ?_;conv=>whnf)
  |(refine ⟨_,kS,?_⟩;conv=>whnf)
  |(refine ⟨_,kU,?_⟩;conv=>whnf)
  |(refine ⟨_,kP,?_⟩;conv=>whnf)
  |(refine ⟨_,a1,?_⟩;conv=>whnf)
  |(refine ⟨_,b1,?_⟩;conv=>whnf)
  |(refine And.intro ?_ ?_;kernel_rfl;conv=>whnf))
 have wl:IntKind.i64.wrap (((s.map encV).length:Int) - 1)=(s.length:Int) - 1:=by rw [wrap_in (by omega) (by omega)];omega
 rw [wl]
 refine dwp_loopU (P:=Tryz.prog) (G:=GC) (k:=dk10_0) (b:=db10_0) (α:=Nat) (fun j=>[(9,.own 9 0 ((s.reverse.take j).map encV).length ((s.reverse.take j).map encV).length),(10,DV.int .i64 ((s.length:Int) - 1 - (j:Nat)))]) (fun j=>[(4,.box 3 (encV sun)),(5,.box 5 (encM ⟨p,nc,mx,my⟩)),(9,.row 3 ((s.reverse.take j).map encV) false)]) (fun j=>j≤s.length) (fun j=>s.length - j) 0 (Nat.zero_le _) ?_
 have z0:(s.length:Int) - 1 - ((0:Nat):Int)=(s.length:Int) - 1:=Int.sub_zero _
 conv=>whnf
 refine ⟨rfl,rfl,?_⟩
 conv=>whnf
 refine ⟨by rw [z0];rfl,?_⟩
 intro j j1
 conv=>whnf
 refine ⟨fun hb=>?_,fun hb=>?_⟩
 ·have hj:j < s.length:=by have:(s.length:Int) - 1 - (j:Nat) ≥ 0:=of_decide_eq_true hb;omega
  have hsc:(s.reverse.take (j+1)).map encV=(s.reverse.take j).map encV++[encV (s.getD (Int.toNat ((s.length:Int) - 1 - (j:Nat))) V0)]:=by
   rw [take_map_succ encV s.reverse j V0 (by rw [List.length_reverse];exact hj)]
   congr 2
   have:Int.toNat ((s.length:Int) - 1 - (j:Nat))=s.length - 1 - j:=by omega
   rw [this]
   congr 1
   simp only [List.getD_eq_getElem?_getD]
   rw [List.getElem?_reverse hj]
  have hln:((s.reverse.take j).map encV).length=j:=by simp;omega
  clear hb
  conv=>whnf
  rw [getD_enc' _ _ _ V0 (by omega) (by omega)]
  refine ⟨idxB (by omega) (by omega) rfl,?_⟩
  conv=>whnf
  refine ⟨⟨rfl,rfl,rfl,by rw [hln];simp;omega,fun e he=>by simp at he;subst he;rfl⟩,?_⟩
  conv=>whnf
  rw [show IntKind.i64.wrap ((s.length:Int) - 1 - (j:Nat) - 1)=(s.length:Int) - 1 - ((j+1:Nat):Int) by rw [wrap_in (by omega) (by omega)];omega]
  refine ⟨j+1,rfl,?_,?_,by omega,by omega⟩
  ·rw [hsc];rfl
  ·rw [hsc];rfl
 ·have hj:j=s.length:=by have:¬ (s.length:Int) - 1 - (j:Nat) ≥ 0:=of_decide_eq_false hb;omega
  have hrr:s.reverse.take j=s.reverse:=by rw [hj,List.take_of_length_le (by rw [List.length_reverse];exact Nat.le_refl _)]
  rw [hrr]
  clear hb hrr hj j1
  conv=>whnf
  refine ⟨by rw [e0];omega,?_⟩
  rw [show (IntKind.i64.wrap (nc:Int)).tmod ((s.map encV).length:Int)=((nc % s.length:Nat):Int) by rw [wrap_in (by omega) (by omega),e0,Int.tmod_eq_emod_of_nonneg (by omega)];rfl]
  have hk:nc % s.length < s.length:=Nat.mod_lt _ (by omega)
  generalize nc % s.length=k at *
  conv=>whnf
  have hel:∀ e ∈ s.map encV,okE 3 e=true:=fun e he=>by obtain ⟨v,_,rfl⟩:=List.mem_map.1 he;rfl
  have wdr:window (s.map encV) (Int.toNat (k:Int)) (Int.toNat (((s.map encV).length:Int) - (k:Int)))=(s.drop k).map encV:=by
   rw [e0,Int.toNat_natCast,show Int.toNat ((s.length:Int) - (k:Int))=s.length - k by omega]
   unfold window
   rw [List.take_of_length_le (by simp),List.map_drop]
  have wtk:window (s.map encV) (Int.toNat 0) (Int.toNat ((k:Int) - 0))=(s.take k).map encV:=by
   rw [Int.sub_zero,Int.toNat_natCast];exact win_take encV s k
  have kRev:=c_Hides s.reverse sun p (by rw [List.length_reverse];exact hl)
  rw [hd_ok (rev_chk z1) z2 z3,rev_hid (flat_of z1)] at kRev
  have kRot:=c_Hides (s.drop k++s.take k) sun p (by simp;omega)
  rw [hd_ok (rot_chk hk z1) z2 z3,rot_hid hk (flat_of z1)] at kRot
  replace kRot:PC 15 [.list ((s.drop k).map encV++(s.take k).map encV),encV sun,encPt p] (.tuple [.bool (hidB s sun p),DV.int .i64 (0)]):=by
   have:=kRot;unfold shp at this;rwa [List.map_append] at this
  have bO:=c_Outline s sun hl
  have bA:=c_Area s sun hl
  rw [(ol_ok z1 z2).1] at bO
  rw [(ol_ok z1 z2).2] at bA
  have nO:¬ (((outL s sun).map encCn).length:Int)≠((s.map encV).length:Int):=by unfold outL;simp
  obtain ⟨nA,nB⟩:=area_pos s hU.2
  refine ⟨⟨by omega,by rw [e0];omega,by omega,hel⟩,?_⟩
  rw [wdr]
  conv=>whnf
  refine .inr ⟨[(5,91)],_,_,_,_,h_own (s.drop k) (by rw [List.length_drop];omega),⟨rfl,by kernel_rfl,?_,?_⟩,?_⟩
  ·exact trivial
  ·exact ⟨.inr rfl,trivial⟩
  conv=>whnf
  refine ⟨⟨by omega,by omega,by rw [e0];omega,hel⟩,?_⟩
  rw [wtk]
  conv=>whnf
  refine ⟨⟨rfl,rfl,rfl,by simp;omega,fun e he=>by obtain ⟨v,_,rfl⟩:=List.mem_map.1 he;rfl⟩,?_⟩
  conv=>whnf
  generalize hH:hidB s sun p=H at *
  obtain ⟨X,hX,hXl,hXu⟩:∃ X,(IntKind.i64.wrap mx).tmod 50=X ∧ -49≤X∧X≤49:=⟨_,rfl,tmod50⟩
  obtain ⟨Y,hY,hYl,hYu⟩:∃ Y,(IntKind.i64.wrap my).tmod 50=Y ∧ -49≤Y∧Y≤49:=⟨_,rfl,tmod50⟩
  have wX:IntKind.i64.wrap (p.x+X)=p.x+X:=by have:=hP.1;exact wrap_in (by omega) (by omega)
  have wY:IntKind.i64.wrap (p.y+Y)=p.y+Y:=by have:=hP.2;exact wrap_in (by omega) (by omega)
  have hdb:bdV 2000 ⟨X,Y,0⟩:=⟨⟨by show -2000≤X;omega,by show X≤2000;omega⟩,⟨by show -2000≤Y;omega,by show Y≤2000;omega⟩,⟨by show (-2000:Int)≤0;decide,by show (0:Int)≤2000;decide⟩⟩
  have hsb:bdV 2000 sun:=by
   obtain ⟨⟨u1,u2⟩,⟨u3,u4⟩,⟨u5,u6⟩⟩:=hU.1
   exact ⟨⟨by omega,by omega⟩,⟨by omega,by omega⟩,⟨by omega,by omega⟩⟩
  have bM:=c_Moved s ⟨X,Y,0⟩ hl
  rw [mv_ok z1 hdb] at bM
  have bN:=c_Moved s sun hl
  rw [mv_ok z1 hsb] at bN
  have q1:=r_CheckSpot ⟨p.x+X,p.y+Y⟩
  have q2:=r_CheckSun (dblV sun)
  have hlm:=movS_len s ⟨X,Y,0⟩
  have hln:=movS_len s sun
  have u1:IntKind.i64.wrap (2 * sun.x)=2 * sun.x:=by have:=hU.1.1;exact wrap_in (by omega) (by omega)
  have u2:IntKind.i64.wrap (2 * sun.y)=2 * sun.y:=by have:=hU.1.2.1;exact wrap_in (by omega) (by omega)
  have u3:IntKind.i64.wrap (2 * sun.z)=2 * sun.z:=by have:=hU.1.2.2;exact wrap_in (by omega) (by omega)
  repeat' (first
   |(rw [window_full];conv=>whnf)
   |(rw [hX];conv=>whnf)
   |(rw [hY];conv=>whnf)
   |(rw [wX];conv=>whnf)
   |(rw [wY];conv=>whnf)
   |(refine ⟨fun hg=>?_,fun hg=>?_⟩<;>first|contradiction|(exfalso;revert hg;simp;done)|(exfalso;exact absurd (of_decide_eq_true hg) (by assumption))|(exfalso;exact absurd (by assumption) (of_decide_eq_false hg))|(conv=>whnf))
   |(refine Or.inl ?_;conv=>whnf)
   |(refine ⟨_,kRev ..,?_⟩;conv=>whnf)
   |(refine ⟨_,kRot ..,?_⟩;conv=>whnf)
   |(refine ⟨_,a1,?_⟩;conv=>whnf)
   |(refine ⟨_,bO,?_⟩;conv=>whnf)
   |(refine ⟨_,bA,?_⟩;conv=>whnf)
   |(refine ⟨(by decide:(50:Int)≠0),?_⟩;conv=>whnf)
   |(refine ⟨⟨by decide,by decide⟩,?_⟩;conv=>whnf)
   |(refine ⟨_,l_at ..,?_⟩;conv=>whnf)
   |(refine ⟨_,l_spot ..,?_⟩;conv=>whnf)
   |(refine And.intro ?_ ?_;kernel_rfl;conv=>whnf))
  have hcomb:(corOk (movS s ⟨X,Y,0⟩)=true∧chkSpot ⟨p.x+X,p.y+Y⟩=0)∨(corOk (movS s ⟨X,Y,0⟩)=true∧chkSpot ⟨p.x+X,p.y+Y⟩≠0)∨¬ corOk (movS s ⟨X,Y,0⟩)=true:=by
   by_cases c1:corOk (movS s ⟨X,Y,0⟩)=true
   ·by_cases c2:chkSpot ⟨p.x+X,p.y+Y⟩=0
    ·exact .inl ⟨c1,c2⟩
    ·exact .inr (.inl ⟨c1,c2⟩)
   ·exact .inr (.inr c1)
  clear kRev kRot hX hY wdr wtk kP kS kU
  rcases hcomb with ⟨c1,c2⟩|⟨c1,c2⟩|c1
  case inl =>
   rw [show movR s ⟨X,Y,0⟩=(movS s ⟨X,Y,0⟩,0) from if_pos c1] at bM
   have kM:=c_Hides (movS s ⟨X,Y,0⟩) sun ⟨p.x+X,p.y+Y⟩ (by omega)
   rw [hd_ok ((mov_chk z1 _).2 c1) z2 c2,show hidB (movS s ⟨X,Y,0⟩) sun ⟨p.x+X,p.y+Y⟩=H from (mov_hid h3 ⟨X,Y,0⟩ rfl sun p).trans hH] at kM
   rw [c2] at q1
   repeat' (first
    |(refine ⟨fun hg=>?_,fun hg=>?_⟩<;>first|contradiction|(exfalso;revert hg;simp;done)|(exfalso;exact absurd (of_decide_eq_true hg) (by assumption))|(exfalso;exact absurd (by assumption) (of_decide_eq_false hg))|(conv=>whnf))
    |(refine Or.inl ?_;conv=>whnf)
    |(refine ⟨_,bM,?_⟩;conv=>whnf)
    |(refine ⟨_,q1,?_⟩;conv=>whnf)
    |(refine ⟨_,kM,?_⟩;conv=>whnf)
    |(refine ⟨_,a1,?_⟩;conv=>whnf)
    |(refine And.intro ?_ ?_;kernel_rfl;conv=>whnf))
   all_goals 
    by_cases c3:corOk (movS s sun)=true
    ·have a2:=l_own (movS s sun) (by omega)
     have bO2:=c_Outline (movS s sun) sun (by omega)
     have bA2:=c_Area (movS s sun) sun (by omega)
     rw [(ol_ok ((mov_chk z1 _).2 c3) z2).1,outL_mov] at bO2
     rw [(ol_ok ((mov_chk z1 _).2 c3) z2).2,area_mov (by omega)] at bA2
     have cc:=l_corners (outL s sun) (by unfold outL;rw [List.length_map];exact hl)
     have sc:=r_SameCorners (outL s sun) (by unfold outL;rw [List.length_map];exact hl)
     rw [show movR s sun=(movS s sun,0) from if_pos c3] at bN
     repeat' (first
      |(rw [u1];conv=>whnf)
      |(rw [u2];conv=>whnf)
      |(rw [u3];conv=>whnf)
      |(refine ⟨fun hg=>?_,fun hg=>?_⟩<;>first|contradiction|(exfalso;revert hg;simp;done)|(exfalso;exact absurd (of_decide_eq_true hg) (by assumption))|(exfalso;exact absurd (by assumption) (of_decide_eq_false hg))|(conv=>whnf))
      |(refine Or.inl ?_;conv=>whnf)
      |(refine ⟨_,bN,?_⟩;conv=>whnf)
      |(refine ⟨_,a1,?_⟩;conv=>whnf)
      |(refine ⟨_,a2,?_⟩;conv=>whnf)
      |(refine ⟨_,bO2,?_⟩;conv=>whnf)
      |(refine ⟨_,bA2,?_⟩;conv=>whnf)
      |(refine ⟨_,cc,?_⟩;conv=>whnf)
      |(refine ⟨_,sc,?_⟩;conv=>whnf)
      |(refine ⟨_,l_at ..,?_⟩;conv=>whnf)
      |(refine And.intro ?_ ?_;kernel_rfl;conv=>whnf))
     by_cases c4:chkSun (dblV sun)=0
     all_goals first
      |rw [c4] at q2
       have kD:=c_Hides s (dblV sun) p hl
       rw [hd_ok z1 c4 z3,dbl_hid,hH] at kD
      |generalize chkSun (dblV sun)=E2 at *
       have kD:=aw
     all_goals cases H
     all_goals
      repeat' (first
       |(refine ⟨fun hg=>?_,fun hg=>?_⟩<;>first|contradiction|(exfalso;revert hg;simp;done)|(exfalso;exact absurd (of_decide_eq_true hg) (by assumption))|(exfalso;exact absurd (by assumption) (of_decide_eq_false hg))|(conv=>whnf))
       |(refine Or.inl ?_;conv=>whnf)
       |(refine ⟨_,q2,?_⟩;conv=>whnf)
       |(refine ⟨_,a1,?_⟩;conv=>whnf)
       |(refine ⟨_,kD,?_⟩;conv=>whnf)
       |(refine ⟨_,aw,?_⟩;conv=>whnf)
       |(refine And.intro ?_ ?_;kernel_rfl;conv=>whnf))
     all_goals first
      |rfl
      |skip
     all_goals
      refine dwp_loopU (P:=Tryz.prog) (G:=GC) (k:=dk10_1) (b:=db10_1) (α:=Nat×Bool×Bool) (fun a=>[(36,.bool a.2.1),(37,.bool a.2.2),(307,DV.int .i64 (a.1))]) (fun _=>[(4,.box 3 (encV sun)),(5,.box 5 (encM ⟨p,nc,mx,my⟩)),(19,.box 2 (encR (areaR s sun))),(21,.box 3 (encV ⟨X,Y,0⟩)),(22,.box 2 (encPt ⟨p.x+X,p.y+Y⟩)),(31,.box 2 (encR (areaR s sun))),(33,.box 3 (encV ⟨2 * sun.x,2 * sun.y,2 * sun.z⟩))]) (fun a=>a.1≤s.length∧(a.2.1=true→∃ i,0 < sideO s sun p i)∧(a.2.2=true→∃ i,sideO s sun p i < 0)) (fun a=>s.length - a.1) (0,false,false) ⟨Nat.zero_le _,fun h=>absurd h (by decide),fun h=>absurd h (by decide)⟩ ?_
      conv=>whnf
      refine ⟨rfl,rfl,?_⟩
      conv=>whnf
      refine ⟨rfl,?_⟩
      rintro ⟨i,x,y⟩ ⟨j1,j2,j3⟩
      replace j1:i≤s.length:=j1
      conv=>whnf
      refine ⟨fun hb=>?_,fun hb=>?_⟩
      ·have hi:i < s.length:=by simpa using hb
       have hi2:(i+1) % s.length < s.length:=Nat.mod_lt _ (by omega)
       have wi:(IntKind.i64.wrap ((i:Int)+1)).tmod ((s.map encV).length:Int)=(((i+1) % s.length:Nat):Int):=by
        rw [wrap_in (by omega) (by omega),e0,Int.tmod_eq_emod_of_nonneg (by omega)];rfl
       have b1:=hS.at hi
       have b2:=hS.at hi2
       have s1:=wrap3 b1.1 hU.1.2.2 b1.2.2 hU.1.1 hP.1 hU.1.2.2
       have s2:=wrap3 b1.2.1 hU.1.2.2 b1.2.2 hU.1.2.1 hP.2 hU.1.2.2
       have s3:=wrap3 b2.1 hU.1.2.2 b2.2.2 hU.1.1 hP.1 hU.1.2.2
       have s4:=wrap3 b2.2.1 hU.1.2.2 b2.2.2 hU.1.2.1 hP.2 hU.1.2.2
       have s5:=wrap2 s1.2 s4.2 s2.2 s3.2
       have hSD:IntKind.i64.wrap (IntKind.i64.wrap (((s.getD i V0).x * sun.z - (s.getD i V0).z * sun.x - p.x * sun.z) * ((s.getD ((i+1) % s.length) V0).y * sun.z - (s.getD ((i+1) % s.length) V0).z * sun.y - p.y * sun.z)) - IntKind.i64.wrap (((s.getD i V0).y * sun.z - (s.getD i V0).z * sun.y - p.y * sun.z) * ((s.getD ((i+1) % s.length) V0).x * sun.z - (s.getD ((i+1) % s.length) V0).z * sun.x - p.x * sun.z)))=sideO s sun p i :=
        s5.trans (by unfold sideO castX castY;rw [← getD_sI hi];rfl)
       have s1:=s1.1
       have s2:=s2.1
       have s3:=s3.1
       have s4:=s4.1
       have hls:(s.length:Int)≠0:=by omega
       clear hb s5 b1 b2
       cases x<;>cases y
       all_goals
        conv=>whnf
        repeat' (first
         |(rw [wi];conv=>whnf)
         |(rw [s1];conv=>whnf)
         |(rw [s2];conv=>whnf)
         |(rw [s3];conv=>whnf)
         |(rw [s4];conv=>whnf)
         |(rw [hSD];conv=>whnf)
         |(refine ⟨fun hg=>?_,fun hg=>?_⟩<;>first|contradiction|(exfalso;revert hg;simp;done)|(exfalso;exact absurd (of_decide_eq_true hg) (by assumption))|(exfalso;exact absurd (by assumption) (of_decide_eq_false hg))|(conv=>whnf))
         |(refine Or.inl ?_;conv=>whnf)
         |(rw [getD_enc _ _ i V0 hi];refine ⟨idxA hi rfl,?_⟩;conv=>whnf)
         |(rw [getD_enc _ _ _ V0 hi2];refine ⟨idxA hi2 rfl,?_⟩;conv=>whnf)
         |(refine ⟨by rw [e0];exact hls,?_⟩;conv=>whnf)
         |(refine ⟨_,l_spot ..,?_⟩;conv=>whnf)
         |(refine And.intro ?_ ?_;kernel_rfl;conv=>whnf))
        rw [wrap_succ i (by omega)]
        refine ⟨(i+1,_,_),rfl,rfl,rfl,⟨by show i+1≤s.length;omega,?_,?_⟩,by show s.length - (i+1) < s.length - i;omega⟩
        ·intro h
         first
         |exact j2 h
         |exact ⟨i,of_decide_eq_true h⟩
         |exact j2 ‹_›
        ·intro h
         first
         |exact j3 h
         |exact ⟨i,of_decide_eq_true h⟩
         |exact j3 ‹_›
      ·have hxy:(x && y)=false:=by
        cases x
        ·rfl
        cases y
        ·rfl
        exfalso
        obtain ⟨a,ha⟩:=j2 rfl
        obtain ⟨b,hb⟩:=j3 rfl
        rcases hid_sides (by omega) hU.2 hH with h|h
        ·have:=h a;omega
        ·have:=h b;omega
       clear hb j2 j3
       cases x<;>cases y<;>first|exact absurd hxy (by decide)|skip
       all_goals
        conv=>whnf
        repeat' (first
         |(refine ⟨fun hg=>?_,fun hg=>?_⟩<;>first|contradiction|(exfalso;revert hg;simp;done)|(exfalso;exact absurd (of_decide_eq_true hg) (by assumption))|(exfalso;exact absurd (by assumption) (of_decide_eq_false hg))|(conv=>whnf))
         |(refine Or.inl ?_;conv=>whnf)
         |(refine ⟨_,aw,?_⟩;conv=>whnf)
         |(refine And.intro ?_ ?_;kernel_rfl;conv=>whnf))
        all_goals rfl
    ·rw [show movR s sun=([],4) from if_neg c3] at bN
     repeat' (first
      |(rw [u1];conv=>whnf)
      |(rw [u2];conv=>whnf)
      |(rw [u3];conv=>whnf)
      |(refine ⟨fun hg=>?_,fun hg=>?_⟩<;>first|contradiction|(exfalso;revert hg;simp;done)|(exfalso;exact absurd (of_decide_eq_true hg) (by assumption))|(exfalso;exact absurd (by assumption) (of_decide_eq_false hg))|(conv=>whnf))
      |(refine Or.inl ?_;conv=>whnf)
      |(refine ⟨_,bN,?_⟩;conv=>whnf)
      |(refine ⟨_,a1,?_⟩;conv=>whnf)
      |(refine ⟨_,l_at ..,?_⟩;conv=>whnf)
      |(refine And.intro ?_ ?_;kernel_rfl;conv=>whnf))
     by_cases c4:chkSun (dblV sun)=0
     all_goals first
      |rw [c4] at q2
       have kD:=c_Hides s (dblV sun) p hl
       rw [hd_ok z1 c4 z3,dbl_hid,hH] at kD
      |generalize chkSun (dblV sun)=E2 at *
       have kD:=aw
     all_goals cases H
     all_goals
      repeat' (first
       |(refine ⟨fun hg=>?_,fun hg=>?_⟩<;>first|contradiction|(exfalso;revert hg;simp;done)|(exfalso;exact absurd (of_decide_eq_true hg) (by assumption))|(exfalso;exact absurd (by assumption) (of_decide_eq_false hg))|(conv=>whnf))
       |(refine Or.inl ?_;conv=>whnf)
       |(refine ⟨_,q2,?_⟩;conv=>whnf)
       |(refine ⟨_,a1,?_⟩;conv=>whnf)
       |(refine ⟨_,kD,?_⟩;conv=>whnf)
       |(refine ⟨_,aw,?_⟩;conv=>whnf)
       |(refine And.intro ?_ ?_;kernel_rfl;conv=>whnf))
     all_goals first
      |rfl
      |skip
     all_goals
      refine dwp_loopU (P:=Tryz.prog) (G:=GC) (k:=dk10_1) (b:=db10_1) (α:=Nat×Bool×Bool) (fun a=>[(36,.bool a.2.1),(37,.bool a.2.2),(307,DV.int .i64 (a.1))]) (fun _=>[(4,.box 3 (encV sun)),(5,.box 5 (encM ⟨p,nc,mx,my⟩)),(19,.box 2 (encR (areaR s sun))),(21,.box 3 (encV ⟨X,Y,0⟩)),(22,.box 2 (encPt ⟨p.x+X,p.y+Y⟩)),(33,.box 3 (encV ⟨2 * sun.x,2 * sun.y,2 * sun.z⟩))]) (fun a=>a.1≤s.length∧(a.2.1=true→∃ i,0 < sideO s sun p i)∧(a.2.2=true→∃ i,sideO s sun p i < 0)) (fun a=>s.length - a.1) (0,false,false) ⟨Nat.zero_le _,fun h=>absurd h (by decide),fun h=>absurd h (by decide)⟩ ?_
      conv=>whnf
      refine ⟨rfl,rfl,?_⟩
      conv=>whnf
      refine ⟨rfl,?_⟩
      rintro ⟨i,x,y⟩ ⟨j1,j2,j3⟩
      replace j1:i≤s.length:=j1
      conv=>whnf
      refine ⟨fun hb=>?_,fun hb=>?_⟩
      ·have hi:i < s.length:=by simpa using hb
       have hi2:(i+1) % s.length < s.length:=Nat.mod_lt _ (by omega)
       have wi:(IntKind.i64.wrap ((i:Int)+1)).tmod ((s.map encV).length:Int)=(((i+1) % s.length:Nat):Int):=by
        rw [wrap_in (by omega) (by omega),e0,Int.tmod_eq_emod_of_nonneg (by omega)];rfl
       have b1:=hS.at hi
       have b2:=hS.at hi2
       have s1:=wrap3 b1.1 hU.1.2.2 b1.2.2 hU.1.1 hP.1 hU.1.2.2
       have s2:=wrap3 b1.2.1 hU.1.2.2 b1.2.2 hU.1.2.1 hP.2 hU.1.2.2
       have s3:=wrap3 b2.1 hU.1.2.2 b2.2.2 hU.1.1 hP.1 hU.1.2.2
       have s4:=wrap3 b2.2.1 hU.1.2.2 b2.2.2 hU.1.2.1 hP.2 hU.1.2.2
       have s5:=wrap2 s1.2 s4.2 s2.2 s3.2
       have hSD:IntKind.i64.wrap (IntKind.i64.wrap (((s.getD i V0).x * sun.z - (s.getD i V0).z * sun.x - p.x * sun.z) * ((s.getD ((i+1) % s.length) V0).y * sun.z - (s.getD ((i+1) % s.length) V0).z * sun.y - p.y * sun.z)) - IntKind.i64.wrap (((s.getD i V0).y * sun.z - (s.getD i V0).z * sun.y - p.y * sun.z) * ((s.getD ((i+1) % s.length) V0).x * sun.z - (s.getD ((i+1) % s.length) V0).z * sun.x - p.x * sun.z)))=sideO s sun p i :=
        s5.trans (by unfold sideO castX castY;rw [← getD_sI hi];rfl)
       have s1:=s1.1
       have s2:=s2.1
       have s3:=s3.1
       have s4:=s4.1
       have hls:(s.length:Int)≠0:=by omega
       clear hb s5 b1 b2
       cases x<;>cases y
       all_goals
        conv=>whnf
        repeat' (first
         |(rw [wi];conv=>whnf)
         |(rw [s1];conv=>whnf)
         |(rw [s2];conv=>whnf)
         |(rw [s3];conv=>whnf)
         |(rw [s4];conv=>whnf)
         |(rw [hSD];conv=>whnf)
         |(refine ⟨fun hg=>?_,fun hg=>?_⟩<;>first|contradiction|(exfalso;revert hg;simp;done)|(exfalso;exact absurd (of_decide_eq_true hg) (by assumption))|(exfalso;exact absurd (by assumption) (of_decide_eq_false hg))|(conv=>whnf))
         |(refine Or.inl ?_;conv=>whnf)
         |(rw [getD_enc _ _ i V0 hi];refine ⟨idxA hi rfl,?_⟩;conv=>whnf)
         |(rw [getD_enc _ _ _ V0 hi2];refine ⟨idxA hi2 rfl,?_⟩;conv=>whnf)
         |(refine ⟨by rw [e0];exact hls,?_⟩;conv=>whnf)
         |(refine ⟨_,l_spot ..,?_⟩;conv=>whnf)
         |(refine And.intro ?_ ?_;kernel_rfl;conv=>whnf))
        rw [wrap_succ i (by omega)]
        refine ⟨(i+1,_,_),rfl,rfl,rfl,⟨by show i+1≤s.length;omega,?_,?_⟩,by show s.length - (i+1) < s.length - i;omega⟩
        ·intro h
         first
         |exact j2 h
         |exact ⟨i,of_decide_eq_true h⟩
         |exact j2 ‹_›
        ·intro h
         first
         |exact j3 h
         |exact ⟨i,of_decide_eq_true h⟩
         |exact j3 ‹_›
      ·have hxy:(x && y)=false:=by
        cases x
        ·rfl
        cases y
        ·rfl
        exfalso
        obtain ⟨a,ha⟩:=j2 rfl
        obtain ⟨b,hb⟩:=j3 rfl
        rcases hid_sides (by omega) hU.2 hH with h|h
        ·have:=h a;omega
        ·have:=h b;omega
       clear hb j2 j3
       cases x<;>cases y<;>first|exact absurd hxy (by decide)|skip
       all_goals
        conv=>whnf
        repeat' (first
         |(refine ⟨fun hg=>?_,fun hg=>?_⟩<;>first|contradiction|(exfalso;revert hg;simp;done)|(exfalso;exact absurd (of_decide_eq_true hg) (by assumption))|(exfalso;exact absurd (by assumption) (of_decide_eq_false hg))|(conv=>whnf))
         |(refine Or.inl ?_;conv=>whnf)
         |(refine ⟨_,aw,?_⟩;conv=>whnf)
         |(refine And.intro ?_ ?_;kernel_rfl;conv=>whnf))
        all_goals rfl
  case inr.inl =>
   rw [show movR s ⟨X,Y,0⟩=(movS s ⟨X,Y,0⟩,0) from if_pos c1] at bM
   generalize chkSpot ⟨p.x+X,p.y+Y⟩=E1 at *
   repeat' (first
    |(refine ⟨fun hg=>?_,fun hg=>?_⟩<;>first|contradiction|(exfalso;revert hg;simp;done)|(exfalso;exact absurd (of_decide_eq_true hg) (by assumption))|(exfalso;exact absurd (by assumption) (of_decide_eq_false hg))|(conv=>whnf))
    |(refine Or.inl ?_;conv=>whnf)
    |(refine ⟨_,bM,?_⟩;conv=>whnf)
    |(refine ⟨_,q1,?_⟩;conv=>whnf)
    |(refine ⟨_,a1,?_⟩;conv=>whnf)
    |(refine And.intro ?_ ?_;kernel_rfl;conv=>whnf))
   all_goals 
    by_cases c3:corOk (movS s sun)=true
    ·have a2:=l_own (movS s sun) (by omega)
     have bO2:=c_Outline (movS s sun) sun (by omega)
     have bA2:=c_Area (movS s sun) sun (by omega)
     rw [(ol_ok ((mov_chk z1 _).2 c3) z2).1,outL_mov] at bO2
     rw [(ol_ok ((mov_chk z1 _).2 c3) z2).2,area_mov (by omega)] at bA2
     have cc:=l_corners (outL s sun) (by unfold outL;rw [List.length_map];exact hl)
     have sc:=r_SameCorners (outL s sun) (by unfold outL;rw [List.length_map];exact hl)
     rw [show movR s sun=(movS s sun,0) from if_pos c3] at bN
     repeat' (first
      |(rw [u1];conv=>whnf)
      |(rw [u2];conv=>whnf)
      |(rw [u3];conv=>whnf)
      |(refine ⟨fun hg=>?_,fun hg=>?_⟩<;>first|contradiction|(exfalso;revert hg;simp;done)|(exfalso;exact absurd (of_decide_eq_true hg) (by assumption))|(exfalso;exact absurd (by assumption) (of_decide_eq_false hg))|(conv=>whnf))
      |(refine Or.inl ?_;conv=>whnf)
      |(refine ⟨_,bN,?_⟩;conv=>whnf)
      |(refine ⟨_,a1,?_⟩;conv=>whnf)
      |(refine ⟨_,a2,?_⟩;conv=>whnf)
      |(refine ⟨_,bO2,?_⟩;conv=>whnf)
      |(refine ⟨_,bA2,?_⟩;conv=>whnf)
      |(refine ⟨_,cc,?_⟩;conv=>whnf)
      |(refine ⟨_,sc,?_⟩;conv=>whnf)
      |(refine ⟨_,l_at ..,?_⟩;conv=>whnf)
      |(refine And.intro ?_ ?_;kernel_rfl;conv=>whnf))
     by_cases c4:chkSun (dblV sun)=0
     all_goals first
      |rw [c4] at q2
       have kD:=c_Hides s (dblV sun) p hl
       rw [hd_ok z1 c4 z3,dbl_hid,hH] at kD
      |generalize chkSun (dblV sun)=E2 at *
       have kD:=aw
     all_goals cases H
     all_goals
      repeat' (first
       |(refine ⟨fun hg=>?_,fun hg=>?_⟩<;>first|contradiction|(exfalso;revert hg;simp;done)|(exfalso;exact absurd (of_decide_eq_true hg) (by assumption))|(exfalso;exact absurd (by assumption) (of_decide_eq_false hg))|(conv=>whnf))
       |(refine Or.inl ?_;conv=>whnf)
       |(refine ⟨_,q2,?_⟩;conv=>whnf)
       |(refine ⟨_,a1,?_⟩;conv=>whnf)
       |(refine ⟨_,kD,?_⟩;conv=>whnf)
       |(refine ⟨_,aw,?_⟩;conv=>whnf)
       |(refine And.intro ?_ ?_;kernel_rfl;conv=>whnf))
     all_goals first
      |rfl
      |skip
     all_goals
      refine dwp_loopU (P:=Tryz.prog) (G:=GC) (k:=dk10_1) (b:=db10_1) (α:=Nat×Bool×Bool) (fun a=>[(36,.bool a.2.1),(37,.bool a.2.2),(307,DV.int .i64 (a.1))]) (fun _=>[(4,.box 3 (encV sun)),(5,.box 5 (encM ⟨p,nc,mx,my⟩)),(19,.box 2 (encR (areaR s sun))),(21,.box 3 (encV ⟨X,Y,0⟩)),(22,.box 2 (encPt ⟨p.x+X,p.y+Y⟩)),(31,.box 2 (encR (areaR s sun))),(33,.box 3 (encV ⟨2 * sun.x,2 * sun.y,2 * sun.z⟩))]) (fun a=>a.1≤s.length∧(a.2.1=true→∃ i,0 < sideO s sun p i)∧(a.2.2=true→∃ i,sideO s sun p i < 0)) (fun a=>s.length - a.1) (0,false,false) ⟨Nat.zero_le _,fun h=>absurd h (by decide),fun h=>absurd h (by decide)⟩ ?_
      conv=>whnf
      refine ⟨rfl,rfl,?_⟩
      conv=>whnf
      refine ⟨rfl,?_⟩
      rintro ⟨i,x,y⟩ ⟨j1,j2,j3⟩
      replace j1:i≤s.length:=j1
      conv=>whnf
      refine ⟨fun hb=>?_,fun hb=>?_⟩
      ·have hi:i < s.length:=by simpa using hb
       have hi2:(i+1) % s.length < s.length:=Nat.mod_lt _ (by omega)
       have wi:(IntKind.i64.wrap ((i:Int)+1)).tmod ((s.map encV).length:Int)=(((i+1) % s.length:Nat):Int):=by
        rw [wrap_in (by omega) (by omega),e0,Int.tmod_eq_emod_of_nonneg (by omega)];rfl
       have b1:=hS.at hi
       have b2:=hS.at hi2
       have s1:=wrap3 b1.1 hU.1.2.2 b1.2.2 hU.1.1 hP.1 hU.1.2.2
       have s2:=wrap3 b1.2.1 hU.1.2.2 b1.2.2 hU.1.2.1 hP.2 hU.1.2.2
       have s3:=wrap3 b2.1 hU.1.2.2 b2.2.2 hU.1.1 hP.1 hU.1.2.2
       have s4:=wrap3 b2.2.1 hU.1.2.2 b2.2.2 hU.1.2.1 hP.2 hU.1.2.2
       have s5:=wrap2 s1.2 s4.2 s2.2 s3.2
       have hSD:IntKind.i64.wrap (IntKind.i64.wrap (((s.getD i V0).x * sun.z - (s.getD i V0).z * sun.x - p.x * sun.z) * ((s.getD ((i+1) % s.length) V0).y * sun.z - (s.getD ((i+1) % s.length) V0).z * sun.y - p.y * sun.z)) - IntKind.i64.wrap (((s.getD i V0).y * sun.z - (s.getD i V0).z * sun.y - p.y * sun.z) * ((s.getD ((i+1) % s.length) V0).x * sun.z - (s.getD ((i+1) % s.length) V0).z * sun.x - p.x * sun.z)))=sideO s sun p i :=
        s5.trans (by unfold sideO castX castY;rw [← getD_sI hi];rfl)
       have s1:=s1.1
       have s2:=s2.1
       have s3:=s3.1
       have s4:=s4.1
       have hls:(s.length:Int)≠0:=by omega
       clear hb s5 b1 b2
       cases x<;>cases y
       all_goals
        conv=>whnf
        repeat' (first
         |(rw [wi];conv=>whnf)
         |(rw [s1];conv=>whnf)
         |(rw [s2];conv=>whnf)
         |(rw [s3];conv=>whnf)
         |(rw [s4];conv=>whnf)
         |(rw [hSD];conv=>whnf)
         |(refine ⟨fun hg=>?_,fun hg=>?_⟩<;>first|contradiction|(exfalso;revert hg;simp;done)|(exfalso;exact absurd (of_decide_eq_true hg) (by assumption))|(exfalso;exact absurd (by assumption) (of_decide_eq_false hg))|(conv=>whnf))
         |(refine Or.inl ?_;conv=>whnf)
         |(rw [getD_enc _ _ i V0 hi];refine ⟨idxA hi rfl,?_⟩;conv=>whnf)
         |(rw [getD_enc _ _ _ V0 hi2];refine ⟨idxA hi2 rfl,?_⟩;conv=>whnf)
         |(refine ⟨by rw [e0];exact hls,?_⟩;conv=>whnf)
         |(refine ⟨_,l_spot ..,?_⟩;conv=>whnf)
         |(refine And.intro ?_ ?_;kernel_rfl;conv=>whnf))
        rw [wrap_succ i (by omega)]
        refine ⟨(i+1,_,_),rfl,rfl,rfl,⟨by show i+1≤s.length;omega,?_,?_⟩,by show s.length - (i+1) < s.length - i;omega⟩
        ·intro h
         first
         |exact j2 h
         |exact ⟨i,of_decide_eq_true h⟩
         |exact j2 ‹_›
        ·intro h
         first
         |exact j3 h
         |exact ⟨i,of_decide_eq_true h⟩
         |exact j3 ‹_›
      ·have hxy:(x && y)=false:=by
        cases x
        ·rfl
        cases y
        ·rfl
        exfalso
        obtain ⟨a,ha⟩:=j2 rfl
        obtain ⟨b,hb⟩:=j3 rfl
        rcases hid_sides (by omega) hU.2 hH with h|h
        ·have:=h a;omega
        ·have:=h b;omega
       clear hb j2 j3
       cases x<;>cases y<;>first|exact absurd hxy (by decide)|skip
       all_goals
        conv=>whnf
        repeat' (first
         |(refine ⟨fun hg=>?_,fun hg=>?_⟩<;>first|contradiction|(exfalso;revert hg;simp;done)|(exfalso;exact absurd (of_decide_eq_true hg) (by assumption))|(exfalso;exact absurd (by assumption) (of_decide_eq_false hg))|(conv=>whnf))
         |(refine Or.inl ?_;conv=>whnf)
         |(refine ⟨_,aw,?_⟩;conv=>whnf)
         |(refine And.intro ?_ ?_;kernel_rfl;conv=>whnf))
        all_goals rfl
    ·rw [show movR s sun=([],4) from if_neg c3] at bN
     repeat' (first
      |(rw [u1];conv=>whnf)
      |(rw [u2];conv=>whnf)
      |(rw [u3];conv=>whnf)
      |(refine ⟨fun hg=>?_,fun hg=>?_⟩<;>first|contradiction|(exfalso;revert hg;simp;done)|(exfalso;exact absurd (of_decide_eq_true hg) (by assumption))|(exfalso;exact absurd (by assumption) (of_decide_eq_false hg))|(conv=>whnf))
      |(refine Or.inl ?_;conv=>whnf)
      |(refine ⟨_,bN,?_⟩;conv=>whnf)
      |(refine ⟨_,a1,?_⟩;conv=>whnf)
      |(refine ⟨_,l_at ..,?_⟩;conv=>whnf)
      |(refine And.intro ?_ ?_;kernel_rfl;conv=>whnf))
     by_cases c4:chkSun (dblV sun)=0
     all_goals first
      |rw [c4] at q2
       have kD:=c_Hides s (dblV sun) p hl
       rw [hd_ok z1 c4 z3,dbl_hid,hH] at kD
      |generalize chkSun (dblV sun)=E2 at *
       have kD:=aw
     all_goals cases H
     all_goals
      repeat' (first
       |(refine ⟨fun hg=>?_,fun hg=>?_⟩<;>first|contradiction|(exfalso;revert hg;simp;done)|(exfalso;exact absurd (of_decide_eq_true hg) (by assumption))|(exfalso;exact absurd (by assumption) (of_decide_eq_false hg))|(conv=>whnf))
       |(refine Or.inl ?_;conv=>whnf)
       |(refine ⟨_,q2,?_⟩;conv=>whnf)
       |(refine ⟨_,a1,?_⟩;conv=>whnf)
       |(refine ⟨_,kD,?_⟩;conv=>whnf)
       |(refine ⟨_,aw,?_⟩;conv=>whnf)
       |(refine And.intro ?_ ?_;kernel_rfl;conv=>whnf))
     all_goals first
      |rfl
      |skip
     all_goals
      refine dwp_loopU (P:=Tryz.prog) (G:=GC) (k:=dk10_1) (b:=db10_1) (α:=Nat×Bool×Bool) (fun a=>[(36,.bool a.2.1),(37,.bool a.2.2),(307,DV.int .i64 (a.1))]) (fun _=>[(4,.box 3 (encV sun)),(5,.box 5 (encM ⟨p,nc,mx,my⟩)),(19,.box 2 (encR (areaR s sun))),(21,.box 3 (encV ⟨X,Y,0⟩)),(22,.box 2 (encPt ⟨p.x+X,p.y+Y⟩)),(33,.box 3 (encV ⟨2 * sun.x,2 * sun.y,2 * sun.z⟩))]) (fun a=>a.1≤s.length∧(a.2.1=true→∃ i,0 < sideO s sun p i)∧(a.2.2=true→∃ i,sideO s sun p i < 0)) (fun a=>s.length - a.1) (0,false,false) ⟨Nat.zero_le _,fun h=>absurd h (by decide),fun h=>absurd h (by decide)⟩ ?_
      conv=>whnf
      refine ⟨rfl,rfl,?_⟩
      conv=>whnf
      refine ⟨rfl,?_⟩
      rintro ⟨i,x,y⟩ ⟨j1,j2,j3⟩
      replace j1:i≤s.length:=j1
      conv=>whnf
      refine ⟨fun hb=>?_,fun hb=>?_⟩
      ·have hi:i < s.length:=by simpa using hb
       have hi2:(i+1) % s.length < s.length:=Nat.mod_lt _ (by omega)
       have wi:(IntKind.i64.wrap ((i:Int)+1)).tmod ((s.map encV).length:Int)=(((i+1) % s.length:Nat):Int):=by
        rw [wrap_in (by omega) (by omega),e0,Int.tmod_eq_emod_of_nonneg (by omega)];rfl
       have b1:=hS.at hi
       have b2:=hS.at hi2
       have s1:=wrap3 b1.1 hU.1.2.2 b1.2.2 hU.1.1 hP.1 hU.1.2.2
       have s2:=wrap3 b1.2.1 hU.1.2.2 b1.2.2 hU.1.2.1 hP.2 hU.1.2.2
       have s3:=wrap3 b2.1 hU.1.2.2 b2.2.2 hU.1.1 hP.1 hU.1.2.2
       have s4:=wrap3 b2.2.1 hU.1.2.2 b2.2.2 hU.1.2.1 hP.2 hU.1.2.2
       have s5:=wrap2 s1.2 s4.2 s2.2 s3.2
       have hSD:IntKind.i64.wrap (IntKind.i64.wrap (((s.getD i V0).x * sun.z - (s.getD i V0).z * sun.x - p.x * sun.z) * ((s.getD ((i+1) % s.length) V0).y * sun.z - (s.getD ((i+1) % s.length) V0).z * sun.y - p.y * sun.z)) - IntKind.i64.wrap (((s.getD i V0).y * sun.z - (s.getD i V0).z * sun.y - p.y * sun.z) * ((s.getD ((i+1) % s.length) V0).x * sun.z - (s.getD ((i+1) % s.length) V0).z * sun.x - p.x * sun.z)))=sideO s sun p i :=
        s5.trans (by unfold sideO castX castY;rw [← getD_sI hi];rfl)
       have s1:=s1.1
       have s2:=s2.1
       have s3:=s3.1
       have s4:=s4.1
       have hls:(s.length:Int)≠0:=by omega
       clear hb s5 b1 b2
       cases x<;>cases y
       all_goals
        conv=>whnf
        repeat' (first
         |(rw [wi];conv=>whnf)
         |(rw [s1];conv=>whnf)
         |(rw [s2];conv=>whnf)
         |(rw [s3];conv=>whnf)
         |(rw [s4];conv=>whnf)
         |(rw [hSD];conv=>whnf)
         |(refine ⟨fun hg=>?_,fun hg=>?_⟩<;>first|contradiction|(exfalso;revert hg;simp;done)|(exfalso;exact absurd (of_decide_eq_true hg) (by assumption))|(exfalso;exact absurd (by assumption) (of_decide_eq_false hg))|(conv=>whnf))
         |(refine Or.inl ?_;conv=>whnf)
         |(rw [getD_enc _ _ i V0 hi];refine ⟨idxA hi rfl,?_⟩;conv=>whnf)
         |(rw [getD_enc _ _ _ V0 hi2];refine ⟨idxA hi2 rfl,?_⟩;conv=>whnf)
         |(refine ⟨by rw [e0];exact hls,?_⟩;conv=>whnf)
         |(refine ⟨_,l_spot ..,?_⟩;conv=>whnf)
         |(refine And.intro ?_ ?_;kernel_rfl;conv=>whnf))
        rw [wrap_succ i (by omega)]
        refine ⟨(i+1,_,_),rfl,rfl,rfl,⟨by show i+1≤s.length;omega,?_,?_⟩,by show s.length - (i+1) < s.length - i;omega⟩
        ·intro h
         first
         |exact j2 h
         |exact ⟨i,of_decide_eq_true h⟩
         |exact j2 ‹_›
        ·intro h
         first
         |exact j3 h
         |exact ⟨i,of_decide_eq_true h⟩
         |exact j3 ‹_›
      ·have hxy:(x && y)=false:=by
        cases x
        ·rfl
        cases y
        ·rfl
        exfalso
        obtain ⟨a,ha⟩:=j2 rfl
        obtain ⟨b,hb⟩:=j3 rfl
        rcases hid_sides (by omega) hU.2 hH with h|h
        ·have:=h a;omega
        ·have:=h b;omega
       clear hb j2 j3
       cases x<;>cases y<;>first|exact absurd hxy (by decide)|skip
       all_goals
        conv=>whnf
        repeat' (first
         |(refine ⟨fun hg=>?_,fun hg=>?_⟩<;>first|contradiction|(exfalso;revert hg;simp;done)|(exfalso;exact absurd (of_decide_eq_true hg) (by assumption))|(exfalso;exact absurd (by assumption) (of_decide_eq_false hg))|(conv=>whnf))
         |(refine Or.inl ?_;conv=>whnf)
         |(refine ⟨_,aw,?_⟩;conv=>whnf)
         |(refine And.intro ?_ ?_;kernel_rfl;conv=>whnf))
        all_goals rfl
  case inr.inr =>
   rw [show movR s ⟨X,Y,0⟩=([],4) from if_neg c1] at bM
   repeat' (first
    |(refine ⟨fun hg=>?_,fun hg=>?_⟩<;>first|contradiction|(exfalso;revert hg;simp;done)|(exfalso;exact absurd (of_decide_eq_true hg) (by assumption))|(exfalso;exact absurd (by assumption) (of_decide_eq_false hg))|(conv=>whnf))
    |(refine Or.inl ?_;conv=>whnf)
    |(refine ⟨_,bM,?_⟩;conv=>whnf)
    |(refine ⟨_,q1,?_⟩;conv=>whnf)
    |(refine ⟨_,a1,?_⟩;conv=>whnf)
    |(refine And.intro ?_ ?_;kernel_rfl;conv=>whnf))
   all_goals 
    by_cases c3:corOk (movS s sun)=true
    ·have a2:=l_own (movS s sun) (by omega)
     have bO2:=c_Outline (movS s sun) sun (by omega)
     have bA2:=c_Area (movS s sun) sun (by omega)
     rw [(ol_ok ((mov_chk z1 _).2 c3) z2).1,outL_mov] at bO2
     rw [(ol_ok ((mov_chk z1 _).2 c3) z2).2,area_mov (by omega)] at bA2
     have cc:=l_corners (outL s sun) (by unfold outL;rw [List.length_map];exact hl)
     have sc:=r_SameCorners (outL s sun) (by unfold outL;rw [List.length_map];exact hl)
     rw [show movR s sun=(movS s sun,0) from if_pos c3] at bN
     repeat' (first
      |(rw [u1];conv=>whnf)
      |(rw [u2];conv=>whnf)
      |(rw [u3];conv=>whnf)
      |(refine ⟨fun hg=>?_,fun hg=>?_⟩<;>first|contradiction|(exfalso;revert hg;simp;done)|(exfalso;exact absurd (of_decide_eq_true hg) (by assumption))|(exfalso;exact absurd (by assumption) (of_decide_eq_false hg))|(conv=>whnf))
      |(refine Or.inl ?_;conv=>whnf)
      |(refine ⟨_,bN,?_⟩;conv=>whnf)
      |(refine ⟨_,a1,?_⟩;conv=>whnf)
      |(refine ⟨_,a2,?_⟩;conv=>whnf)
      |(refine ⟨_,bO2,?_⟩;conv=>whnf)
      |(refine ⟨_,bA2,?_⟩;conv=>whnf)
      |(refine ⟨_,cc,?_⟩;conv=>whnf)
      |(refine ⟨_,sc,?_⟩;conv=>whnf)
      |(refine ⟨_,l_at ..,?_⟩;conv=>whnf)
      |(refine And.intro ?_ ?_;kernel_rfl;conv=>whnf))
     by_cases c4:chkSun (dblV sun)=0
     all_goals first
      |rw [c4] at q2
       have kD:=c_Hides s (dblV sun) p hl
       rw [hd_ok z1 c4 z3,dbl_hid,hH] at kD
      |generalize chkSun (dblV sun)=E2 at *
       have kD:=aw
     all_goals cases H
     all_goals
      repeat' (first
       |(refine ⟨fun hg=>?_,fun hg=>?_⟩<;>first|contradiction|(exfalso;revert hg;simp;done)|(exfalso;exact absurd (of_decide_eq_true hg) (by assumption))|(exfalso;exact absurd (by assumption) (of_decide_eq_false hg))|(conv=>whnf))
       |(refine Or.inl ?_;conv=>whnf)
       |(refine ⟨_,q2,?_⟩;conv=>whnf)
       |(refine ⟨_,a1,?_⟩;conv=>whnf)
       |(refine ⟨_,kD,?_⟩;conv=>whnf)
       |(refine ⟨_,aw,?_⟩;conv=>whnf)
       |(refine And.intro ?_ ?_;kernel_rfl;conv=>whnf))
     all_goals first
      |rfl
      |skip
     all_goals
      refine dwp_loopU (P:=Tryz.prog) (G:=GC) (k:=dk10_1) (b:=db10_1) (α:=Nat×Bool×Bool) (fun a=>[(36,.bool a.2.1),(37,.bool a.2.2),(307,DV.int .i64 (a.1))]) (fun _=>[(4,.box 3 (encV sun)),(5,.box 5 (encM ⟨p,nc,mx,my⟩)),(19,.box 2 (encR (areaR s sun))),(21,.box 3 (encV ⟨X,Y,0⟩)),(22,.box 2 (encPt ⟨p.x+X,p.y+Y⟩)),(31,.box 2 (encR (areaR s sun))),(33,.box 3 (encV ⟨2 * sun.x,2 * sun.y,2 * sun.z⟩))]) (fun a=>a.1≤s.length∧(a.2.1=true→∃ i,0 < sideO s sun p i)∧(a.2.2=true→∃ i,sideO s sun p i < 0)) (fun a=>s.length - a.1) (0,false,false) ⟨Nat.zero_le _,fun h=>absurd h (by decide),fun h=>absurd h (by decide)⟩ ?_
      conv=>whnf
      refine ⟨rfl,rfl,?_⟩
      conv=>whnf
      refine ⟨rfl,?_⟩
      rintro ⟨i,x,y⟩ ⟨j1,j2,j3⟩
      replace j1:i≤s.length:=j1
      conv=>whnf
      refine ⟨fun hb=>?_,fun hb=>?_⟩
      ·have hi:i < s.length:=by simpa using hb
       have hi2:(i+1) % s.length < s.length:=Nat.mod_lt _ (by omega)
       have wi:(IntKind.i64.wrap ((i:Int)+1)).tmod ((s.map encV).length:Int)=(((i+1) % s.length:Nat):Int):=by
        rw [wrap_in (by omega) (by omega),e0,Int.tmod_eq_emod_of_nonneg (by omega)];rfl
       have b1:=hS.at hi
       have b2:=hS.at hi2
       have s1:=wrap3 b1.1 hU.1.2.2 b1.2.2 hU.1.1 hP.1 hU.1.2.2
       have s2:=wrap3 b1.2.1 hU.1.2.2 b1.2.2 hU.1.2.1 hP.2 hU.1.2.2
       have s3:=wrap3 b2.1 hU.1.2.2 b2.2.2 hU.1.1 hP.1 hU.1.2.2
       have s4:=wrap3 b2.2.1 hU.1.2.2 b2.2.2 hU.1.2.1 hP.2 hU.1.2.2
       have s5:=wrap2 s1.2 s4.2 s2.2 s3.2
       have hSD:IntKind.i64.wrap (IntKind.i64.wrap (((s.getD i V0).x * sun.z - (s.getD i V0).z * sun.x - p.x * sun.z) * ((s.getD ((i+1) % s.length) V0).y * sun.z - (s.getD ((i+1) % s.length) V0).z * sun.y - p.y * sun.z)) - IntKind.i64.wrap (((s.getD i V0).y * sun.z - (s.getD i V0).z * sun.y - p.y * sun.z) * ((s.getD ((i+1) % s.length) V0).x * sun.z - (s.getD ((i+1) % s.length) V0).z * sun.x - p.x * sun.z)))=sideO s sun p i :=
        s5.trans (by unfold sideO castX castY;rw [← getD_sI hi];rfl)
       have s1:=s1.1
       have s2:=s2.1
       have s3:=s3.1
       have s4:=s4.1
       have hls:(s.length:Int)≠0:=by omega
       clear hb s5 b1 b2
       cases x<;>cases y
       all_goals
        conv=>whnf
        repeat' (first
         |(rw [wi];conv=>whnf)
         |(rw [s1];conv=>whnf)
         |(rw [s2];conv=>whnf)
         |(rw [s3];conv=>whnf)
         |(rw [s4];conv=>whnf)
         |(rw [hSD];conv=>whnf)
         |(refine ⟨fun hg=>?_,fun hg=>?_⟩<;>first|contradiction|(exfalso;revert hg;simp;done)|(exfalso;exact absurd (of_decide_eq_true hg) (by assumption))|(exfalso;exact absurd (by assumption) (of_decide_eq_false hg))|(conv=>whnf))
         |(refine Or.inl ?_;conv=>whnf)
         |(rw [getD_enc _ _ i V0 hi];refine ⟨idxA hi rfl,?_⟩;conv=>whnf)
         |(rw [getD_enc _ _ _ V0 hi2];refine ⟨idxA hi2 rfl,?_⟩;conv=>whnf)
         |(refine ⟨by rw [e0];exact hls,?_⟩;conv=>whnf)
         |(refine ⟨_,l_spot ..,?_⟩;conv=>whnf)
         |(refine And.intro ?_ ?_;kernel_rfl;conv=>whnf))
        rw [wrap_succ i (by omega)]
        refine ⟨(i+1,_,_),rfl,rfl,rfl,⟨by show i+1≤s.length;omega,?_,?_⟩,by show s.length - (i+1) < s.length - i;omega⟩
        ·intro h
         first
         |exact j2 h
         |exact ⟨i,of_decide_eq_true h⟩
         |exact j2 ‹_›
        ·intro h
         first
         |exact j3 h
         |exact ⟨i,of_decide_eq_true h⟩
         |exact j3 ‹_›
      ·have hxy:(x && y)=false:=by
        cases x
        ·rfl
        cases y
        ·rfl
        exfalso
        obtain ⟨a,ha⟩:=j2 rfl
        obtain ⟨b,hb⟩:=j3 rfl
        rcases hid_sides (by omega) hU.2 hH with h|h
        ·have:=h a;omega
        ·have:=h b;omega
       clear hb j2 j3
       cases x<;>cases y<;>first|exact absurd hxy (by decide)|skip
       all_goals
        conv=>whnf
        repeat' (first
         |(refine ⟨fun hg=>?_,fun hg=>?_⟩<;>first|contradiction|(exfalso;revert hg;simp;done)|(exfalso;exact absurd (of_decide_eq_true hg) (by assumption))|(exfalso;exact absurd (by assumption) (of_decide_eq_false hg))|(conv=>whnf))
         |(refine Or.inl ?_;conv=>whnf)
         |(refine ⟨_,aw,?_⟩;conv=>whnf)
         |(refine And.intro ?_ ?_;kernel_rfl;conv=>whnf))
        all_goals rfl
    ·rw [show movR s sun=([],4) from if_neg c3] at bN
     repeat' (first
      |(rw [u1];conv=>whnf)
      |(rw [u2];conv=>whnf)
      |(rw [u3];conv=>whnf)
      |(refine ⟨fun hg=>?_,fun hg=>?_⟩<;>first|contradiction|(exfalso;revert hg;simp;done)|(exfalso;exact absurd (of_decide_eq_true hg) (by assumption))|(exfalso;exact absurd (by assumption) (of_decide_eq_false hg))|(conv=>whnf))
      |(refine Or.inl ?_;conv=>whnf)
      |(refine ⟨_,bN,?_⟩;conv=>whnf)
      |(refine ⟨_,a1,?_⟩;conv=>whnf)
      |(refine ⟨_,l_at ..,?_⟩;conv=>whnf)
      |(refine And.intro ?_ ?_;kernel_rfl;conv=>whnf))
     by_cases c4:chkSun (dblV sun)=0
     all_goals first
      |rw [c4] at q2
       have kD:=c_Hides s (dblV sun) p hl
       rw [hd_ok z1 c4 z3,dbl_hid,hH] at kD
      |generalize chkSun (dblV sun)=E2 at *
       have kD:=aw
     all_goals cases H
     all_goals
      repeat' (first
       |(refine ⟨fun hg=>?_,fun hg=>?_⟩<;>first|contradiction|(exfalso;revert hg;simp;done)|(exfalso;exact absurd (of_decide_eq_true hg) (by assumption))|(exfalso;exact absurd (by assumption) (of_decide_eq_false hg))|(conv=>whnf))
       |(refine Or.inl ?_;conv=>whnf)
       |(refine ⟨_,q2,?_⟩;conv=>whnf)
       |(refine ⟨_,a1,?_⟩;conv=>whnf)
       |(refine ⟨_,kD,?_⟩;conv=>whnf)
       |(refine ⟨_,aw,?_⟩;conv=>whnf)
       |(refine And.intro ?_ ?_;kernel_rfl;conv=>whnf))
     all_goals first
      |rfl
      |skip
     all_goals
      refine dwp_loopU (P:=Tryz.prog) (G:=GC) (k:=dk10_1) (b:=db10_1) (α:=Nat×Bool×Bool) (fun a=>[(36,.bool a.2.1),(37,.bool a.2.2),(307,DV.int .i64 (a.1))]) (fun _=>[(4,.box 3 (encV sun)),(5,.box 5 (encM ⟨p,nc,mx,my⟩)),(19,.box 2 (encR (areaR s sun))),(21,.box 3 (encV ⟨X,Y,0⟩)),(22,.box 2 (encPt ⟨p.x+X,p.y+Y⟩)),(33,.box 3 (encV ⟨2 * sun.x,2 * sun.y,2 * sun.z⟩))]) (fun a=>a.1≤s.length∧(a.2.1=true→∃ i,0 < sideO s sun p i)∧(a.2.2=true→∃ i,sideO s sun p i < 0)) (fun a=>s.length - a.1) (0,false,false) ⟨Nat.zero_le _,fun h=>absurd h (by decide),fun h=>absurd h (by decide)⟩ ?_
      conv=>whnf
      refine ⟨rfl,rfl,?_⟩
      conv=>whnf
      refine ⟨rfl,?_⟩
      rintro ⟨i,x,y⟩ ⟨j1,j2,j3⟩
      replace j1:i≤s.length:=j1
      conv=>whnf
      refine ⟨fun hb=>?_,fun hb=>?_⟩
      ·have hi:i < s.length:=by simpa using hb
       have hi2:(i+1) % s.length < s.length:=Nat.mod_lt _ (by omega)
       have wi:(IntKind.i64.wrap ((i:Int)+1)).tmod ((s.map encV).length:Int)=(((i+1) % s.length:Nat):Int):=by
        rw [wrap_in (by omega) (by omega),e0,Int.tmod_eq_emod_of_nonneg (by omega)];rfl
       have b1:=hS.at hi
       have b2:=hS.at hi2
       have s1:=wrap3 b1.1 hU.1.2.2 b1.2.2 hU.1.1 hP.1 hU.1.2.2
       have s2:=wrap3 b1.2.1 hU.1.2.2 b1.2.2 hU.1.2.1 hP.2 hU.1.2.2
       have s3:=wrap3 b2.1 hU.1.2.2 b2.2.2 hU.1.1 hP.1 hU.1.2.2
       have s4:=wrap3 b2.2.1 hU.1.2.2 b2.2.2 hU.1.2.1 hP.2 hU.1.2.2
       have s5:=wrap2 s1.2 s4.2 s2.2 s3.2
       have hSD:IntKind.i64.wrap (IntKind.i64.wrap (((s.getD i V0).x * sun.z - (s.getD i V0).z * sun.x - p.x * sun.z) * ((s.getD ((i+1) % s.length) V0).y * sun.z - (s.getD ((i+1) % s.length) V0).z * sun.y - p.y * sun.z)) - IntKind.i64.wrap (((s.getD i V0).y * sun.z - (s.getD i V0).z * sun.y - p.y * sun.z) * ((s.getD ((i+1) % s.length) V0).x * sun.z - (s.getD ((i+1) % s.length) V0).z * sun.x - p.x * sun.z)))=sideO s sun p i :=
        s5.trans (by unfold sideO castX castY;rw [← getD_sI hi];rfl)
       have s1:=s1.1
       have s2:=s2.1
       have s3:=s3.1
       have s4:=s4.1
       have hls:(s.length:Int)≠0:=by omega
       clear hb s5 b1 b2
       cases x<;>cases y
       all_goals
        conv=>whnf
        repeat' (first
         |(rw [wi];conv=>whnf)
         |(rw [s1];conv=>whnf)
         |(rw [s2];conv=>whnf)
         |(rw [s3];conv=>whnf)
         |(rw [s4];conv=>whnf)
         |(rw [hSD];conv=>whnf)
         |(refine ⟨fun hg=>?_,fun hg=>?_⟩<;>first|contradiction|(exfalso;revert hg;simp;done)|(exfalso;exact absurd (of_decide_eq_true hg) (by assumption))|(exfalso;exact absurd (by assumption) (of_decide_eq_false hg))|(conv=>whnf))
         |(refine Or.inl ?_;conv=>whnf)
         |(rw [getD_enc _ _ i V0 hi];refine ⟨idxA hi rfl,?_⟩;conv=>whnf)
         |(rw [getD_enc _ _ _ V0 hi2];refine ⟨idxA hi2 rfl,?_⟩;conv=>whnf)
         |(refine ⟨by rw [e0];exact hls,?_⟩;conv=>whnf)
         |(refine ⟨_,l_spot ..,?_⟩;conv=>whnf)
         |(refine And.intro ?_ ?_;kernel_rfl;conv=>whnf))
        rw [wrap_succ i (by omega)]
        refine ⟨(i+1,_,_),rfl,rfl,rfl,⟨by show i+1≤s.length;omega,?_,?_⟩,by show s.length - (i+1) < s.length - i;omega⟩
        ·intro h
         first
         |exact j2 h
         |exact ⟨i,of_decide_eq_true h⟩
         |exact j2 ‹_›
        ·intro h
         first
         |exact j3 h
         |exact ⟨i,of_decide_eq_true h⟩
         |exact j3 ‹_›
      ·have hxy:(x && y)=false:=by
        cases x
        ·rfl
        cases y
        ·rfl
        exfalso
        obtain ⟨a,ha⟩:=j2 rfl
        obtain ⟨b,hb⟩:=j3 rfl
        rcases hid_sides (by omega) hU.2 hH with h|h
        ·have:=h a;omega
        ·have:=h b;omega
       clear hb j2 j3
       cases x<;>cases y<;>first|exact absurd hxy (by decide)|skip
       all_goals
        conv=>whnf
        repeat' (first
         |(refine ⟨fun hg=>?_,fun hg=>?_⟩<;>first|contradiction|(exfalso;revert hg;simp;done)|(exfalso;exact absurd (of_decide_eq_true hg) (by assumption))|(exfalso;exact absurd (by assumption) (of_decide_eq_false hg))|(conv=>whnf))
         |(refine Or.inl ?_;conv=>whnf)
         |(refine ⟨_,aw,?_⟩;conv=>whnf)
         |(refine And.intro ?_ ?_;kernel_rfl;conv=>whnf))
        all_goals rfl
end Sh

namespace Sh
open Go Go.Proofs
theorem cl5:Tryz.prog.cellsOf 5=1:=by kernel_rfl
theorem cl127:Tryz.prog.cellsOf 127=1:=by kernel_rfl
theorem cl128:Tryz.prog.cellsOf 128=2:=by kernel_rfl
theorem cl130:Tryz.prog.cellsOf 130=5:=by kernel_rfl
theorem opMvg {H:Type} {enc:TypeId×Value→H} {W:World}:Opens enc Tryz.prog W 130 (fun m:Mvg=>(encM m).cells) MvgOk :=
 (opens_struct3 Tryz.underlying130 2 1 2 cl26 cl5 cl128 cl130 rfl rfl rfl opPt (opens_int Tryz.underlying5) (opens_two Tryz.underlying128 cl127 cl128 (opens_int Tryz.underlying127))).map (fun a=>Mvg.mk a.1 a.2.1 a.2.2.1 a.2.2.2) (fun _=>rfl) (fun _ h=>⟨wf_u8 h.2.1,wf_i8 h.2.2.1,wf_i8 h.2.2.2⟩)
end Sh
