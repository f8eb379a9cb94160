/-
  Chapter 8's functions, walked over pure data: the library of the walk, the functions' code over data, and what each computes. (part 7)
-/
import Derived.Test.YtcgajpaohlggpaaGreatDoorP6
import Derived.ProofKit
import Derived.Carry
import Derived.ChangeSame
import Derived.OpenShut
import Derived.HandedShaped
import Derived.Shelf.Vars
import Derived.Stop.Joined
import Derived.Deep.DeepHandedRow
import Derived.Lib.LaidTab
import Derived.MakeChecks
import Derived.LaidSub
import Derived.LaidHandle
import Derived.Test.YtcgajpaohlggpaaGreatDoorProg
import Derived.Lib.ItoaNum
import Derived.Lib.ItoaLen
import Derived.Lib.MapLaws
import Derived.Lib.Bytealg
import Derived.Lib.Join
import Derived.Lib.Strings
set_option linter.unusedVariables false
set_option linter.unusedSimpArgs false
namespace Sh
open Go Go.Proofs
section
variable {H:Type} {enc:TypeId×Value→H} {P:Program} {W:World}
theorem opens_array_aux {c:Nat}:∀ (dss:List (List DV)) (cs:List Value),cs.length=dss.length * c →
  (∀ (i:Nat) (ds:List DV),dss[i]?=some ds→RelL (memOf W) ds ((cs.drop (i * c)).take c))→RelL (memOf W) dss.flatten cs
 |[],cs,hl,_=>by
  have:cs=[]:=List.length_eq_zero_iff.1 (by simpa using hl)
  subst this;exact .nil
 |ds :: dss,cs,hl,h=>by
  rw [List.length_cons,Nat.add_mul,Nat.one_mul] at hl
  have h2:=opens_array_aux (c:=c) dss (cs.drop c) (by simp;omega) (fun i ds' e2=>by
   have:=h (i+1) ds' (by simpa using e2)
   rwa [Nat.add_mul,Nat.one_mul,Nat.add_comm (i * c) c,← List.drop_drop] at this)
  have h3:=h 0 ds rfl
  rw [Nat.zero_mul,List.drop_zero] at h3
  have:=h3.append h2
  rwa [List.take_append_drop] at this
theorem opens_array {t e:TypeId} {n c:Nat} {α:Type} {f:α→List DV} {B:α→Prop} (ht:P.underlying t=some (.array n e)) (hc:P.cellsOf e=c) (hct:P.cellsOf t=n * c) (hE:Opens enc P W e f B) :
  Opens enc P W t (fun l:List α=>l.flatMap f) (fun l=>l.length=n∧∀ a ∈ l,B a):=by
 intro base sp hd fuel cs x hx
 obtain ⟨ys,m,_,e,hlc,hn,hel⟩:=DataW.trod_array ht hx
 have hget:∀ i,i < n→∃ a:α,RelL (memOf W) (f a) ((cs.drop (i * c)).take c)∧B a:=by
  intro i hi
  have h1:=hel i hi
  rw [hc,List.getElem?_eq_getElem (by omega)] at h1
  exact hE _ _ _ _ _ _ h1
 obtain ⟨l,hl,hF⟩:=build n hget
 refine ⟨l,?_,hl,fun a ha=>?_⟩
 ·show RelL (memOf W) (l.flatMap f) cs
  rw [List.flatMap_def]
  refine opens_array_aux (c:=c) (l.map f) cs (by rw [List.length_map,hl,hlc,hct]) (fun i ds e2=>?_)
  rw [List.getElem?_map,Option.map_eq_some_iff] at e2
  obtain ⟨a,e3,rfl⟩:=e2
  obtain ⟨hi,rfl⟩:=List.getElem?_eq_some_iff.1 e3
  exact (hF i hi).1
 ·obtain ⟨i,hi,rfl⟩:=List.mem_iff_getElem.1 ha
  exact (hF i hi).2
theorem Opens.mapB {t:TypeId} {α β:Type} {e:α→List DV} {B:α→Prop} {e':β→List DV} {B':β→Prop} (h:Opens enc P W t e B) (f:α→β) (he:∀ a,B a→e' (f a)=e a) (hB:∀ a,B a→B' (f a)):Opens enc P W t e' B':=by
 intro base sp hd fuel cs x hx
 obtain ⟨a,h1,h2⟩:=h base sp hd fuel cs x hx
 exact ⟨f a,by rw [he a h2];exact h1,hB a h2⟩
theorem wf_in {k:IntKind} {n:Int} (h:(Lit.int k n).wf=true):k.min≤n∧n≤k.max:=by
 unfold Lit.wf at h
 rw [Bool.and_eq_true] at h
 exact ⟨of_decide_eq_true h.1,of_decide_eq_true h.2⟩
theorem wf_u16 {n:Int} (h:(Lit.int .u16 n).wf=true):0≤n∧n≤65535:=wf_in h
theorem arg_array {t e:TypeId} {n:Nat} {α:Type} {f:α→List DV} {B:α→Prop} {v:Value} {d:DataW H} {p:List MemPlace} {base b0:Nat} {sp:Nat→Bool} {hd:Bool} (ht:P.underlying t=some (.array n e)) (k:Opens enc P W t f B)
  (hv:Value.okWide P W .any b0 t v) (h:DataW.Trod enc P W base sp hd t v d p):∃ a,RelP (memOf W) (.agg (f a)) v∧B a:=by
 obtain ⟨cs,rfl⟩:∃ cs,v=.agg cs:=by
  simp only [Value.okWide,ht] at hv
  obtain ⟨cs,h1,_⟩:=hv
  exact ⟨cs,h1⟩
 obtain ⟨fuel,hf⟩:=h
 obtain ⟨a,h1,h2⟩:=k _ _ _ _ _ _ hf
 refine ⟨a,.agg _ _ (by simpa [Value.cells] using h1.1) (fun i hi=>?_),h2⟩
 have:=h1.2 i hi
 simpa [Value.cells,List.getD_eq_getElem?_getD,Array.getD_eq_getD_getElem?] using this
end
section
open Go.RowKit Go.WideShapes Go.ChangeShapes
variable {H:Type} {enc:TypeId×Value→H} {P:Program}
end
end Sh

set_option maxRecDepth 100000
namespace Sh
open Go
def db48_0 : DC := (.seq (.seq (.ops false [⟨some 4,.mov (.tmp 3),none,[]⟩,⟨some 5,.mov (.tmp 0),none,[]⟩,⟨some 6,.len (.tmp 5),none,[]⟩,⟨some 7,.bin .lss (.tmp 4) (.tmp 6),none,[]⟩]) (.cond (.tmp 7) .skip (.exit 0))) (.seq (.block 1 none (.seq (.ops false [⟨some 10,.mov (.tmp 0),none,[]⟩,⟨some 11,.mov (.tmp 3),none,[]⟩,⟨some 12,.iaddr 1 (.tmp 10) (.tmp 11),none,[]⟩,⟨some 13,.load none (.tmp 12),none,[]⟩,⟨some 14,.bin .neq (.tmp 13) (.const (.int .i64 0)),none,[]⟩]) (.cond (.tmp 14) (.seq (.ops false [⟨some 15,.mov (.tmp 0),none,[]⟩,⟨some 16,.mov (.tmp 3),none,[]⟩,⟨some 17,.iaddr 1 (.tmp 15) (.tmp 16),none,[]⟩,⟨some 18,.load none (.tmp 17),none,[]⟩,⟨some 2,.mov (.tmp 18),none,[]⟩]) .ret) .skip))) (.ops false [⟨some 8,.mov (.tmp 3),none,[]⟩,⟨some 9,.bin .add (.tmp 8) (.const (.int .i64 1)),none,[]⟩,⟨some 3,.mov (.tmp 9),none,[]⟩])))
def dk48_0 : Keep := ⟨[],[0,3],[]⟩
def dc48 : DFunc := ⟨19,1,[.tmp 2],.seq (.ops false [⟨some 2,.mov (.const (.int .i64 0)),none,[]⟩]) (.seq (.seq (.ops false [⟨some 3,.mov (.const (.int .i64 0)),none,[]⟩]) (.block 0 (some ⟨[],[],[]⟩) (.loop dk48_0 db48_0))) (.seq (.ops false [⟨some 2,.mov (.const (.int .i64 0)),none,[]⟩]) .ret))⟩
theorem dh48:cProg Go.Proofs.Tryz.prog ⟨[(0,⟨[],[0,3],[]⟩)],[(0,⟨[],[],[]⟩)],[]⟩ 48=some dc48:=by kernel_rfl
def dc49 : DFunc := ⟨14,1,[.tmp 2],.seq (.ops false [⟨some 1,.box 4 (.tmp 0),none,[]⟩,⟨some 2,.mov (.const (.int .i64 0)),none,[]⟩]) (.seq (.ops true [⟨some 3,.faddr 0 2 true (.tmp 1),none,[]⟩,⟨some 4,.load (some 2) (.tmp 3),none,[0]⟩,⟨some 5,.call (.func 120) [.tmp 4],none,[1,0]⟩,⟨some 6,.faddr 2 1 false (.tmp 1),none,[]⟩,⟨some 7,.load none (.tmp 6),none,[3]⟩,⟨some 8,.call (.func 94) [.tmp 7,.const (.int .i64 0),.const (.int .i64 10000)],none,[4,3,2,1,0]⟩,⟨some 9,.faddr 3 1 false (.tmp 1),none,[]⟩,⟨some 10,.load none (.tmp 9),none,[6]⟩,⟨some 11,.call (.func 59) [.tmp 10],none,[7,6,5,4,3,2,1,0]⟩,⟨some 12,.lit true 1 3 (.int .i64 0) [(0,(.tmp 5)),(1,(.tmp 8)),(2,(.tmp 11))],none,[2,1,0,5,4,3,8,7,6]⟩,⟨some 13,.call (.func 48) [.tmp 12],none,[9,2,1,0,5,4,3,8,7,6]⟩,⟨some 2,.mov (.tmp 13),none,[10,9,2,1,0,5,4,3,8,7,6]⟩]) .ret)⟩
theorem dh49:cProg Go.Proofs.Tryz.prog ⟨[],[],[12]⟩ 49=some dc49:=by kernel_rfl
def db50_0 : DC := (.seq (.seq (.ops false [⟨some 25,.mov (.tmp 5),none,[]⟩,⟨some 26,.mov (.tmp 3),none,[]⟩,⟨some 27,.bin .lss (.tmp 25) (.tmp 26),none,[]⟩]) (.cond (.tmp 27) .skip (.exit 2))) (.seq (.block 3 none (.seq (.ops true [⟨some 30,.mov (.tmp 0),none,[]⟩,⟨some 31,.mov (.tmp 5),none,[]⟩,⟨some 32,.iaddr 5 (.tmp 30) (.tmp 31),none,[0,1]⟩,⟨some 33,.faddr 0 1 false (.tmp 32),none,[2,0,1]⟩,⟨some 34,.load none (.tmp 33),none,[3,2,0,1]⟩,⟨some 35,.mov (.tmp 0),none,[]⟩,⟨some 36,.mov (.tmp 3),none,[]⟩,⟨some 37,.iaddr 5 (.tmp 35) (.tmp 36),none,[5,6]⟩,⟨some 38,.faddr 0 1 false (.tmp 37),none,[7,5,6]⟩,⟨some 39,.load none (.tmp 38),none,[8,7,5,6]⟩,⟨some 40,.bin .eql (.tmp 34) (.tmp 39),none,[4,3,2,0,1,9,8,7,5,6]⟩]) (.cond (.tmp 40) (.seq (.ops false [⟨some 2,.mov (.const (.int .i64 9)),none,[]⟩]) .ret) .skip))) (.ops false [⟨some 28,.mov (.tmp 5),none,[]⟩,⟨some 29,.bin .add (.tmp 28) (.const (.int .i64 1)),none,[]⟩,⟨some 5,.mov (.tmp 29),none,[]⟩])))
def dk50_0 : Keep := ⟨[],[0,3,5],[59]⟩
def db50_1 : DC := (.seq (.seq (.ops false [⟨some 10,.mov (.tmp 3),none,[]⟩,⟨some 11,.mov (.tmp 0),none,[]⟩,⟨some 12,.len (.tmp 11),none,[]⟩,⟨some 13,.bin .lss (.tmp 10) (.tmp 12),none,[]⟩]) (.cond (.tmp 13) .skip (.exit 0))) (.seq (.block 1 (some ⟨[],[0,3],[]⟩) (.seq (.seq (.ops false [⟨some 16,.mov (.tmp 0),none,[]⟩,⟨some 17,.mov (.tmp 3),none,[]⟩,⟨some 18,.iaddr 5 (.tmp 16) (.tmp 17),none,[]⟩,⟨some 19,.faddr 0 1 false (.tmp 18),none,[]⟩,⟨some 20,.load none (.tmp 19),none,[]⟩,⟨some 21,.call (.func 121) [.tmp 20],none,[]⟩,⟨some 4,.mov (.tmp 21),none,[]⟩]) (.seq (.ops false [⟨some 22,.mov (.tmp 4),none,[]⟩,⟨some 23,.bin .neq (.tmp 22) (.const (.int .i64 0)),none,[]⟩]) (.cond (.tmp 23) (.seq (.ops false [⟨some 24,.mov (.tmp 4),none,[]⟩,⟨some 2,.mov (.tmp 24),none,[]⟩]) .ret) .skip))) (.seq (.seq (.ops false [⟨some 5,.mov (.const (.int .i64 0)),none,[]⟩]) (.block 2 (some ⟨[],[0,3],[59]⟩) (.loop dk50_0 db50_0))) (.seq (.ops true [⟨some 41,.mov (.tmp 0),none,[]⟩,⟨some 42,.mov (.tmp 3),none,[]⟩,⟨some 43,.iaddr 5 (.tmp 41) (.tmp 42),none,[0,1]⟩,⟨some 44,.faddr 1 2 true (.tmp 43),none,[2,0,1]⟩,⟨some 45,.load (some 2) (.tmp 44),none,[3,2,0,1]⟩,⟨some 46,.call (.func 120) [.tmp 45],none,[4,3,2,0,1]⟩,⟨some 47,.mov (.tmp 0),none,[]⟩,⟨some 48,.mov (.tmp 3),none,[]⟩,⟨some 49,.iaddr 5 (.tmp 47) (.tmp 48),none,[6,7]⟩,⟨some 50,.faddr 3 1 false (.tmp 49),none,[8,6,7]⟩,⟨some 51,.load none (.tmp 50),none,[9,8,6,7]⟩,⟨some 52,.call (.func 94) [.tmp 51,.const (.int .i64 0),.const (.int .i64 1000000)],none,[10,9,8,6,7,5,4,3,2,0,1]⟩,⟨some 53,.mov (.tmp 0),none,[]⟩,⟨some 54,.mov (.tmp 3),none,[]⟩,⟨some 55,.iaddr 5 (.tmp 53) (.tmp 54),none,[12,13]⟩,⟨some 56,.faddr 4 1 false (.tmp 55),none,[14,12,13]⟩,⟨some 57,.load none (.tmp 56),none,[15,14,12,13]⟩,⟨some 58,.call (.func 94) [.tmp 57,.const (.int .i64 0),.const (.int .i64 10000)],none,[16,15,14,12,13,11,10,9,8,6,7,5,4,3,2,0,1]⟩,⟨some 59,.lit true 1 3 (.int .i64 0) [(0,(.tmp 46)),(1,(.tmp 52)),(2,(.tmp 58))],none,[5,4,3,2,0,1,11,10,9,8,6,7,17,16,15,14,12,13]⟩,⟨some 60,.call (.func 48) [.tmp 59],none,[18,5,4,3,2,0,1,11,10,9,8,6,7,17,16,15,14,12,13]⟩,⟨some 6,.mov (.tmp 60),none,[19,18,5,4,3,2,0,1,11,10,9,8,6,7,17,16,15,14,12,13]⟩]) (.seq (.ops false [⟨some 61,.mov (.tmp 6),none,[]⟩,⟨some 62,.bin .neq (.tmp 61) (.const (.int .i64 0)),none,[]⟩]) (.cond (.tmp 62) (.seq (.ops false [⟨some 63,.mov (.tmp 6),none,[]⟩,⟨some 2,.mov (.tmp 63),none,[]⟩]) .ret) .skip)))))) (.ops false [⟨some 14,.mov (.tmp 3),none,[]⟩,⟨some 15,.bin .add (.tmp 14) (.const (.int .i64 1)),none,[]⟩,⟨some 3,.mov (.tmp 15),none,[]⟩])))
def dk50_1 : Keep := ⟨[],[0,3],[]⟩
def dc50 : DFunc := ⟨64,1,[.tmp 2],.seq (.ops false [⟨some 2,.mov (.const (.int .i64 0)),none,[]⟩]) (.seq (.seq (.ops false [⟨some 7,.mov (.tmp 0),none,[]⟩,⟨some 8,.len (.tmp 7),none,[]⟩,⟨some 9,.bin .gtr (.tmp 8) (.const (.int .i64 8)),none,[]⟩]) (.cond (.tmp 9) (.seq (.ops false [⟨some 2,.mov (.const (.int .i64 5)),none,[]⟩]) .ret) .skip)) (.seq (.seq (.ops false [⟨some 3,.mov (.const (.int .i64 0)),none,[]⟩]) (.block 0 (some ⟨[],[],[]⟩) (.loop dk50_1 db50_1))) (.seq (.ops false [⟨some 2,.mov (.const (.int .i64 0)),none,[]⟩]) .ret)))⟩
theorem dh50:cProg Go.Proofs.Tryz.prog ⟨[(0,⟨[],[0,3],[]⟩),(2,⟨[],[0,3,5],[59]⟩)],[(2,⟨[],[0,3],[59]⟩),(1,⟨[],[0,3],[]⟩),(0,⟨[],[],[]⟩)],[59]⟩ 50=some dc50:=by kernel_rfl
def dc59 : DFunc := ⟨5,1,[.tmp 2],.seq (.ops false [⟨some 2,.mov (.const (.int .i64 0)),none,[]⟩]) (.seq (.ops false [⟨some 3,.mov (.tmp 0),none,[]⟩,⟨some 4,.call (.func 94) [.tmp 3,.const (.int .i64 0),.const (.int .i64 1000)],none,[]⟩,⟨some 2,.mov (.tmp 4),none,[]⟩]) .ret)⟩
theorem dh59:cProg Go.Proofs.Tryz.prog ⟨[],[],[]⟩ 59=some dc59:=by kernel_rfl
def db83_0 : DC := (.seq (.seq (.ops false [⟨some 6,.mov (.tmp 5),none,[]⟩,⟨some 7,.mov (.tmp 0),none,[]⟩,⟨some 8,.len (.tmp 7),none,[]⟩,⟨some 9,.bin .lss (.tmp 6) (.tmp 8),none,[]⟩]) (.cond (.tmp 9) .skip (.exit 0))) (.seq (.block 1 none (.seq (.ops false [⟨some 12,.mov (.tmp 0),none,[]⟩,⟨some 13,.mov (.tmp 5),none,[]⟩,⟨some 14,.iaddr 1 (.tmp 12) (.tmp 13),none,[]⟩,⟨some 15,.load none (.tmp 14),none,[]⟩,⟨some 16,.mov (.tmp 1),none,[]⟩,⟨some 17,.bin .eql (.tmp 15) (.tmp 16),none,[]⟩]) (.cond (.tmp 17) (.seq (.ops false [⟨some 4,.mov (.const (.bool true)),none,[]⟩]) .ret) .skip))) (.ops false [⟨some 10,.mov (.tmp 5),none,[]⟩,⟨some 11,.bin .add (.tmp 10) (.const (.int .i64 1)),none,[]⟩,⟨some 5,.mov (.tmp 11),none,[]⟩])))
def dk83_0 : Keep := ⟨[],[0,1,5],[]⟩
def dc83 : DFunc := ⟨18,2,[.tmp 4],.seq (.ops false [⟨some 4,.mov (.const (.bool false)),none,[]⟩]) (.seq (.seq (.ops false [⟨some 5,.mov (.const (.int .i64 0)),none,[]⟩]) (.block 0 (some ⟨[],[],[]⟩) (.loop dk83_0 db83_0))) (.seq (.ops false [⟨some 4,.mov (.const (.bool false)),none,[]⟩]) .ret))⟩
theorem dh83:cProg Go.Proofs.Tryz.prog ⟨[(0,⟨[],[0,1,5],[]⟩)],[(0,⟨[],[],[]⟩)],[]⟩ 83=some dc83:=by kernel_rfl
def dc94 : DFunc := ⟨16,3,[.tmp 6],.seq (.ops false [⟨some 6,.mov (.const (.int .i64 0)),none,[]⟩]) (.seq (.ops false [⟨some 7,.mov (.tmp 0),none,[]⟩,⟨some 8,.mov (.tmp 1),none,[]⟩,⟨some 9,.bin .lss (.tmp 7) (.tmp 8),none,[]⟩,⟨some 10,.mov (.tmp 9),none,[]⟩,⟨some 11,.mov (.tmp 0),some (10,false),[]⟩,⟨some 12,.mov (.tmp 2),some (10,false),[]⟩,⟨some 13,.bin .gtr (.tmp 11) (.tmp 12),some (10,false),[]⟩,⟨some 14,.pick (.tmp 10) (.const (.bool true)) (.tmp 13),none,[]⟩,⟨some 15,.call (.func 95) [.tmp 14,.const (.int .i64 3)],none,[]⟩,⟨some 6,.mov (.tmp 15),none,[]⟩]) .ret)⟩
theorem dh94:cProg Go.Proofs.Tryz.prog ⟨[],[],[]⟩ 94=some dc94:=by kernel_rfl
def dc95 : DFunc := ⟨7,2,[.tmp 4],.seq (.ops false [⟨some 4,.mov (.const (.int .i64 0)),none,[]⟩]) (.seq (.seq (.ops false [⟨some 5,.mov (.tmp 0),none,[]⟩]) (.cond (.tmp 5) (.seq (.ops false [⟨some 6,.mov (.tmp 1),none,[]⟩,⟨some 4,.mov (.tmp 6),none,[]⟩]) .ret) .skip)) (.seq (.ops false [⟨some 4,.mov (.const (.int .i64 0)),none,[]⟩]) .ret))⟩
theorem dh95:cProg Go.Proofs.Tryz.prog ⟨[],[],[]⟩ 95=some dc95:=by kernel_rfl
def dc120 : DFunc := ⟨11,1,[.tmp 2],.seq (.ops false [⟨some 1,.box 2 (.tmp 0),none,[]⟩,⟨some 2,.mov (.const (.int .i64 0)),none,[]⟩]) (.seq (.ops true [⟨some 3,.faddr 0 1 false (.tmp 1),none,[]⟩,⟨some 4,.load none (.tmp 3),none,[0]⟩,⟨some 5,.call (.func 94) [.tmp 4,.const (.int .i64 (-1000)),.const (.int .i64 1000)],none,[1,0]⟩,⟨some 6,.faddr 1 1 false (.tmp 1),none,[]⟩,⟨some 7,.load none (.tmp 6),none,[3]⟩,⟨some 8,.call (.func 94) [.tmp 7,.const (.int .i64 (-1000)),.const (.int .i64 1000)],none,[4,3,2,1,0]⟩,⟨some 9,.lit true 1 2 (.int .i64 0) [(0,(.tmp 5)),(1,(.tmp 8))],none,[2,1,0,5,4,3]⟩,⟨some 10,.call (.func 48) [.tmp 9],none,[6,2,1,0,5,4,3]⟩,⟨some 2,.mov (.tmp 10),none,[7,6,2,1,0,5,4,3]⟩]) .ret)⟩
theorem dh120:cProg Go.Proofs.Tryz.prog ⟨[],[],[9]⟩ 120=some dc120:=by kernel_rfl
def dc121 : DFunc := ⟨7,1,[.tmp 2],.seq (.ops false [⟨some 2,.mov (.const (.int .i64 0)),none,[]⟩]) (.seq (.ops false [⟨some 3,.mov (.tmp 0),none,[]⟩,⟨some 4,.call (.func 153) [.tmp 3],none,[]⟩,⟨some 5,.un .not (.tmp 4),none,[]⟩,⟨some 6,.call (.func 95) [.tmp 5,.const (.int .i64 8)],none,[]⟩,⟨some 2,.mov (.tmp 6),none,[]⟩]) .ret)⟩
theorem dh121:cProg Go.Proofs.Tryz.prog ⟨[],[],[]⟩ 121=some dc121:=by kernel_rfl
end Sh

namespace Sh
open Go
theorem wrap_pred (i:Nat) (h0:0 < i) (h:i < 4611686018427387904):IntKind.i64.wrap ((i:Int) - 1)=((i - 1:Nat):Int):=by
 rw [wrap_W,W_in (by omega) (by omega)];omega
section
variable {ev:Operand→DV} {lk:Nat→Option DObj} {o kk q i:Nat} {ks:List Nat} {z v:DV} {m k x:Operand} {es:List (DV×DV)}
end
end Sh

namespace Sh
open Go Go.Proofs
theorem q_When (b:Bool) (e:Int):PC 95 [.bool b,DV.int .i64 (e)] (DV.int .i64 (whenE b e)):=by
 refine pureCall_ofR dh95 rfl ?_
 conv=>whnf
 refine ⟨fun hb=>?_,fun hb=>?_⟩<;>try (exact absurd hb (by decide))
 all_goals conv=>whnf
 all_goals subst hb;rfl
theorem q_CheckRange (n l h:Int):PC 94 [DV.int .i64 (n),DV.int .i64 (l),DV.int .i64 (h)] (DV.int .i64 (withE n l h)):=by
 refine pureCall_ofR dh94 rfl ?_
 conv=>whnf
 refine ⟨fun hb=>?_,fun hb=>?_⟩<;>try (exact absurd hb (by decide))
 all_goals conv=>whnf
 ·refine .inl ?_
  conv=>whnf
  refine ⟨_,q_When ..,?_⟩
  conv=>whnf
  exact int_eq (by simp_all [withE,whenE];split<;>split<;>omega)
 ·refine .inl ?_
  conv=>whnf
  refine ⟨_,q_When ..,?_⟩
  conv=>whnf
  exact int_eq (by simp_all [withE,whenE])
theorem q_First (l:List Int) (hl:l.length < 4611686018427387904):PC 48 [iL l] (DV.int .i64 (firstE l)):=by
 refine pureCall_ofR dh48 rfl ?_
 conv=>whnf
 refine dwp_loopR (P:=Tryz.prog) (G:=GC) (k:=dk48_0) (b:=db48_0) (α:=Nat) (fun i=>[(0,iL l),(3,DV.int .i64 (i))]) (fun _=>[]) (fun i=>i≤l.length∧firstE l=firstE (l.drop i)) (fun i=>l.length - i) 0 ⟨rfl,rfl,rfl⟩ ⟨Nat.zero_le _,rfl⟩ ?_
 intro i ⟨h1,h2⟩
 conv=>whnf
 refine ⟨fun hb=>?_,fun hb=>?_⟩<;>try (exact absurd hb (by decide))
 ·have hi:i < l.length:=by simpa using hb
  have hd:=firstE_drop l i hi
  conv=>whnf
  rw [getD_enc _ _ (i) 0 hi]
  refine ⟨idxA hi rfl,?_⟩
  conv=>whnf
  refine ⟨fun hb=>?_,fun hb=>?_⟩<;>try (exact absurd hb (by decide))
  ·conv=>whnf
   rw [getD_enc _ _ (i) 0 hi]
   refine ⟨idxA hi rfl,?_⟩
   conv=>whnf
   exact int_eq (by simp_all)
  ·conv=>whnf
   rw [wrap_succ i (by omega)]
   exact ⟨i+1,rfl,rfl,rfl,⟨hi,by simp_all⟩,by omega⟩
 ·conv=>whnf
  have:i=l.length:=by simp at hb;omega
  subst this
  exact int_eq (by rw [h2];simp [firstE])
end Sh

namespace Sh
open Go
theorem sumI_cons (a:Int) (l:List Int):sumI (a :: l)=a+sumI l:=rfl
end Sh

namespace Sh
open Go
theorem cmpI_neg {a b:Int}:cmpI a b < 0 ↔ a < b:=by unfold cmpI;split<;>(try split)<;>omega
theorem cmpI_zero {a b:Int}:cmpI a b=0 ↔ a=b:=by unfold cmpI;split<;>(try split)<;>omega
theorem cmpP_lt {x m:Pl} (h:cmpP x m < 0):m.worth≤x.worth:=by
 unfold cmpP at h
 split at h
 ·have:=cmpI_neg.1 h;omega
 ·rename_i h1
  have:=cmpI_zero.1 (Classical.not_not.1 h1);omega
theorem cmpP_ge {x m:Pl} (h:¬ cmpP x m < 0):x.worth≤m.worth:=by
 unfold cmpP at h
 split at h
 ·rename_i h1
  have h2:=mt cmpI_neg.2 h;omega
 ·rename_i h1
  have:=cmpI_zero.1 (Classical.not_not.1 h1);omega
theorem minP_worth:∀ (l:List Pl) (m:Pl),m.worth≤(minP m l).worth∧∀ x ∈ l,x.worth≤(minP m l).worth
 |[],m=>by unfold minP;simp
 |x :: r,m=>by
  unfold minP
  obtain ⟨h1,h2⟩:=minP_worth r (if cmpP x m < 0 then x else m)
  have h3:m.worth≤(if cmpP x m < 0 then x else m).worth∧x.worth≤(if cmpP x m < 0 then x else m).worth:=by
   split
   ·rename_i h;exact ⟨cmpP_lt h,Int.le_refl _⟩
   ·rename_i h;exact ⟨Int.le_refl _,cmpP_ge h⟩
  refine ⟨Int.le_trans h3.1 h1,fun y hy=>?_⟩
  rcases List.mem_cons.1 hy with rfl|hy
  ·exact Int.le_trans h3.2 h1
  ·exact h2 y hy
theorem bestP_worth {l:List Pl}:∀ x ∈ l,x.worth≤(bestP l).worth:=by
 cases l with
 |nil=>simp
 |cons x r =>
  intro y hy
  rcases List.mem_cons.1 hy with rfl|hy
  ·exact (minP_worth r y).1
  ·exact (minP_worth r x).2 y hy
end Sh

namespace Sh
open Go Go.Proofs
theorem q_HasInt (l:List Int) (n:Int) (hl:l.length < 4611686018427387904):PC 83 [iL l,DV.int .i64 (n)] (.bool (decide (n ∈ l))):=by
 have e0:((l.map (DV.int .i64)).length:Int)=l.length:=by simp
 refine pureCall_ofR dh83 rfl ?_
 conv=>whnf
 refine dwp_loopR (P:=Tryz.prog) (G:=GC) (k:=dk83_0) (b:=db83_0) (α:=Nat) (fun i=>[(0,iL l),(1,DV.int .i64 (n)),(5,DV.int .i64 (i))]) (fun _=>[]) (fun i=>i≤l.length∧n ∉ l.take i) (fun i=>l.length - i) 0 ⟨rfl,rfl,rfl⟩ ⟨Nat.zero_le _,by simp⟩ ?_
 intro i ⟨h1,h2⟩
 conv=>whnf
 refine ⟨fun hb=>?_,fun hb=>?_⟩
 ·have hi:i < l.length:=by simpa using hb
  clear hb
  conv=>whnf
  rw [getD_enc _ _ (i) 0 hi]
  refine ⟨idxA hi rfl,?_⟩
  conv=>whnf
  refine ⟨fun hg=>?_,fun hg=>?_⟩
  ·have hg:l.getD i 0=n:=of_decide_eq_true hg
   conv=>whnf
   exact bool_eq (decide_eq_true (by rw [← hg];exact getD_in 0 hi)).symm
  ·have hg:¬ l.getD i 0=n:=of_decide_eq_false hg
   conv=>whnf
   rw [wrap_succ i (by omega)]
   refine ⟨i+1,rfl,rfl,rfl,⟨hi,?_⟩,by omega⟩
   rw [take_snoc l i 0 hi,List.mem_append]
   rintro (h|h)
   ·exact h2 h
   ·simp only [List.mem_cons,List.not_mem_nil,or_false] at h;exact hg h.symm
 ·have hi:i=l.length:=by have:=of_decide_eq_false hb;rw [e0] at this;omega
  rw [hi,List.take_length] at h2
  conv=>whnf
  exact bool_eq (decide_eq_false h2).symm
end Sh

namespace Sh
open Go
theorem cmpI_self (a:Int):cmpI a a=0:=cmpI_zero.2 rfl
theorem cmpI_swap (a b:Int):cmpI b a = -cmpI a b:=by unfold cmpI;split<;>(try split)<;>(try split)<;>omega
theorem cmpL_self:∀ a:List Int,cmpL a a=0
 |[]=>rfl
 |a :: r=>by unfold cmpL;rw [cmpI_self,if_neg (by simp)];exact cmpL_self r
theorem cmpL_swap:∀ a b:List Int,cmpL b a = -cmpL a b
 |[],[]=>rfl
 |[],_ :: _=>rfl
 |_ :: _,[]=>rfl
 |a :: r,b :: t=>by
  unfold cmpL
  rw [cmpI_swap a b]
  have:=cmpL_swap r t
  split<;>split<;>omega
theorem cmpL_zero:∀ {a b:List Int},cmpL a b=0→a=b
 |[],[],_=>rfl
 |[],_ :: _,h=>by cases h
 |_ :: _,[],h=>by cases h
 |a :: r,b :: t,h=>by
  unfold cmpL at h
  split at h
  ·rename_i h1;exact absurd h h1
  ·rename_i h1
   rw [cmpI_zero.1 (Classical.not_not.1 h1),cmpL_zero h]
theorem cmpL_trans:∀ {a b c:List Int},cmpL a b≤0→cmpL b c≤0→cmpL a c≤0
 |[],[],_,_,h=>h
 |[],_ :: _,[],_,h=>by unfold cmpL at h;omega
 |[],_ :: _,_ :: _,_,_=>by unfold cmpL;omega
 |_ :: _,[],_,h,_=>by unfold cmpL at h;omega
 |_ :: _,_ :: _,[],_,h=>by unfold cmpL at h;omega
 |a :: r,b :: t,c :: u,h1,h2=>by
  unfold cmpL at h1 h2 ⊢
  by_cases e1:a=b
  ·subst e1
   rw [cmpI_self,if_neg (by simp)] at h1
   split
   ·rename_i h3;rw [if_pos h3] at h2;exact h2
   ·rename_i h3;rw [if_neg h3] at h2;exact cmpL_trans h1 h2
  ·have e1':cmpI a b≠0:=fun h=>e1 (cmpI_zero.1 h)
   rw [if_pos e1'] at h1
   have hab:=cmpI_neg.1 (show cmpI a b < 0 by omega)
   have hbc:b≤c:=by
    by_cases e2:b=c
    ·omega
    ·have e2':cmpI b c≠0:=fun h=>e2 (cmpI_zero.1 h)
     rw [if_pos e2'] at h2
     have:=cmpI_neg.1 (show cmpI b c < 0 by omega);omega
   have:=cmpI_neg.2 (show a < c by omega)
   rw [if_pos (by omega)];omega
def leP (a b:Pl):Prop:=cmpP a b≤0
theorem leP_iff (a b:Pl):leP a b ↔ b.worth < a.worth∨(a.worth=b.worth∧(a.idx.length < b.idx.length∨(a.idx.length=b.idx.length∧cmpL a.idx b.idx≤0))):=by
 unfold leP cmpP
 have h1:=@cmpI_neg b.worth a.worth
 have h2:=@cmpI_zero b.worth a.worth
 have h3:=@cmpI_neg (a.idx.length:Int) (b.idx.length:Int)
 have h4:=@cmpI_zero (a.idx.length:Int) (b.idx.length:Int)
 split
 ·omega
 ·split<;>omega
theorem leP_refl (a:Pl):leP a a:=(leP_iff a a).2 (.inr ⟨rfl,.inr ⟨rfl,by rw [cmpL_self];exact Int.le_refl _⟩⟩)
theorem leP_trans {a b c:Pl} (h1:leP a b) (h2:leP b c):leP a c:=by
 rw [leP_iff] at *
 rcases h1 with h1|⟨h1,h1'⟩
 ·rcases h2 with h2|⟨h2,_⟩<;>exact .inl (by omega)
 ·rcases h2 with h2|⟨h2,h2'⟩
  ·exact .inl (by omega)
  ·refine .inr ⟨by omega,?_⟩
   rcases h1' with h1'|⟨h1',h1''⟩
   ·rcases h2' with h2'|⟨h2',_⟩<;>exact .inl (by omega)
   ·rcases h2' with h2'|⟨h2',h2''⟩
    ·exact .inl (by omega)
    ·exact .inr ⟨by omega,cmpL_trans h1'' h2''⟩
theorem leP_of_not {a b:Pl} (h:¬ cmpP a b < 0):leP b a:=by
 rw [leP_iff]
 have:=(leP_iff a b)
 unfold leP at this
 by_cases e:cmpP a b=0
 ·have h1:=this.1 (by omega)
  have h2:a=b:=by
   unfold cmpP at e
   split at e
   ·rename_i h;exact absurd e h
   ·rename_i h3
    split at e
    ·rename_i h;exact absurd e h
    ·have hw:=cmpI_zero.1 (Classical.not_not.1 h3)
     have hi:=cmpL_zero e
     cases a;cases b;simp_all
  subst h2
  exact .inr ⟨rfl,.inr ⟨rfl,by rw [cmpL_self];exact Int.le_refl _⟩⟩
 ·have h1:=mt this.2 (by omega)
  have:=cmpL_swap a.idx b.idx
  omega
theorem leP_of_lt {a b:Pl} (h:cmpP a b < 0):leP a b:=Int.le_of_lt h
theorem minP_le:∀ (l:List Pl) (m:Pl),leP (minP m l) m∧∀ x ∈ l,leP (minP m l) x
 |[],m=>⟨leP_refl m,by simp⟩
 |x :: r,m=>by
  unfold minP
  obtain ⟨h1,h2⟩:=minP_le r (if cmpP x m < 0 then x else m)
  have h3:leP (if cmpP x m < 0 then x else m) m∧leP (if cmpP x m < 0 then x else m) x:=by
   split
   ·rename_i h;exact ⟨leP_of_lt h,leP_refl x⟩
   ·rename_i h;exact ⟨leP_refl m,leP_of_not h⟩
  refine ⟨leP_trans h1 h3.1,fun y hy=>?_⟩
  rcases List.mem_cons.1 hy with rfl|hy
  ·exact leP_trans h1 h3.2
  ·exact h2 y hy
theorem bestP_le {l:List Pl}:∀ x ∈ l,leP (bestP l) x:=by
 cases l with
 |nil=>simp
 |cons x r =>
  intro y hy
  rcases List.mem_cons.1 hy with rfl|hy
  ·exact (minP_le r y).1
  ·exact (minP_le r x).2 y hy
end Sh

namespace Sh
open Go
theorem inc_weak {n:Nat} {l:List Int} {lo lo':Int} (h:Inc n lo l) (hl:lo'≤lo):Inc n lo' l:=by
 cases l with
 |nil=>trivial
 |cons x r=>exact ⟨by have:=h.1;omega,h.2.1,h.2.2⟩
end Sh

namespace Sh
open Go
def db51_0 : DC := (.seq (.seq (.ops false [⟨some 7,.mov (.tmp 5),none,[]⟩,⟨some 8,.mov (.tmp 1),none,[]⟩,⟨some 9,.len (.tmp 8),none,[]⟩,⟨some 10,.bin .lss (.tmp 7) (.tmp 9),none,[]⟩]) (.cond (.tmp 10) .skip (.exit 0))) (.seq (.block 1 none (.seq (.ops true [⟨some 13,.mov (.tmp 1),none,[]⟩,⟨some 14,.mov (.tmp 5),none,[]⟩,⟨some 15,.iaddr 1 (.tmp 13) (.tmp 14),none,[0,1]⟩,⟨some 16,.load none (.tmp 15),none,[2,0,1]⟩,⟨some 17,.bin .lss (.tmp 16) (.const (.int .i64 0)),none,[3,2,0,1]⟩,⟨some 18,.mov (.tmp 17),none,[4,3,2,0,1]⟩,⟨some 19,.mov (.tmp 1),some (18,false),[5,4,3,2,0,1]⟩,⟨some 20,.mov (.tmp 5),some (18,false),[5,4,3,2,0,1]⟩,⟨some 21,.iaddr 1 (.tmp 19) (.tmp 20),some (18,false),[6,5,4,3,2,0,1,7]⟩,⟨some 22,.load none (.tmp 21),some (18,false),[8,6,5,4,3,2,0,1,7]⟩,⟨some 23,.mov (.tmp 0),some (18,false),[5,4,3,2,0,1]⟩,⟨some 24,.len (.tmp 23),some (18,false),[10,5,4,3,2,0,1]⟩,⟨some 25,.bin .geq (.tmp 22) (.tmp 24),some (18,false),[9,8,6,5,4,3,2,0,1,7,11,10]⟩,⟨some 26,.pick (.tmp 18) (.const (.bool true)) (.tmp 25),none,[5,4,3,2,0,1,12,9,8,6,7,11,10]⟩,⟨some 27,.call (.func 95) [.tmp 26,.const (.int .i64 10)],none,[13,5,4,3,2,0,1,12,9,8,6,7,11,10]⟩,⟨some 28,.mov (.tmp 1),none,[]⟩,⟨some 29,.mov (.tmp 5),none,[]⟩,⟨some 30,.slice 1 (.tmp 28) none (some (.tmp 29)) none,none,[15,16]⟩,⟨some 31,.mov (.tmp 1),none,[]⟩,⟨some 32,.mov (.tmp 5),none,[]⟩,⟨some 33,.iaddr 1 (.tmp 31) (.tmp 32),none,[18,19]⟩,⟨some 34,.load none (.tmp 33),none,[20,18,19]⟩,⟨some 35,.call (.func 83) [.tmp 30,.tmp 34],none,[17,15,16,21,20,18,19,14,13,5,4,3,2,0,1,12,9,8,6,7,11,10]⟩,⟨some 36,.call (.func 95) [.tmp 35,.const (.int .i64 9)],none,[22,17,15,16,21,20,18,19,14,13,5,4,3,2,0,1,12,9,8,6,7,11,10]⟩,⟨some 37,.lit true 1 2 (.int .i64 0) [(0,(.tmp 27)),(1,(.tmp 36))],none,[14,13,5,4,3,2,0,1,12,9,8,6,7,11,10,23,22,17,15,16,21,20,18,19]⟩,⟨some 38,.call (.func 48) [.tmp 37],none,[24,14,13,5,4,3,2,0,1,12,9,8,6,7,11,10,23,22,17,15,16,21,20,18,19]⟩,⟨some 6,.mov (.tmp 38),none,[25,24,14,13,5,4,3,2,0,1,12,9,8,6,7,11,10,23,22,17,15,16,21,20,18,19]⟩]) (.seq (.ops false [⟨some 39,.mov (.tmp 6),none,[]⟩,⟨some 40,.bin .neq (.tmp 39) (.const (.int .i64 0)),none,[]⟩]) (.cond (.tmp 40) (.seq (.ops false [⟨some 41,.mov (.tmp 6),none,[]⟩,⟨some 4,.mov (.tmp 41),none,[]⟩]) .ret) .skip)))) (.ops false [⟨some 11,.mov (.tmp 5),none,[]⟩,⟨some 12,.bin .add (.tmp 11) (.const (.int .i64 1)),none,[]⟩,⟨some 5,.mov (.tmp 12),none,[]⟩])))
def dk51_0 : Keep := ⟨[],[0,1,5],[]⟩
def dc51 : DFunc := ⟨42,2,[.tmp 4],.seq (.ops false [⟨some 4,.mov (.const (.int .i64 0)),none,[]⟩]) (.seq (.seq (.ops false [⟨some 5,.mov (.const (.int .i64 0)),none,[]⟩]) (.block 0 (some ⟨[],[],[]⟩) (.loop dk51_0 db51_0))) (.seq (.ops false [⟨some 4,.mov (.const (.int .i64 0)),none,[]⟩]) .ret))⟩
theorem dh51:cProg Go.Proofs.Tryz.prog ⟨[(0,⟨[],[0,1,5],[]⟩)],[(0,⟨[],[],[]⟩)],[37]⟩ 51=some dc51:=by kernel_rfl
def db52_0 : DC := (.seq (.seq (.ops false [⟨some 7,.mov (.tmp 5),none,[]⟩,⟨some 8,.mov (.tmp 1),none,[]⟩,⟨some 9,.len (.tmp 8),none,[]⟩,⟨some 10,.bin .lss (.tmp 7) (.tmp 9),none,[]⟩]) (.cond (.tmp 10) .skip (.exit 0))) (.seq (.block 1 none (.seq (.ops true [⟨some 13,.mov (.tmp 1),none,[]⟩,⟨some 14,.mov (.tmp 5),none,[]⟩,⟨some 15,.iaddr 1 (.tmp 13) (.tmp 14),none,[0,1]⟩,⟨some 16,.load none (.tmp 15),none,[2,0,1]⟩,⟨some 17,.bin .lss (.tmp 16) (.const (.int .i64 0)),none,[3,2,0,1]⟩,⟨some 18,.mov (.tmp 17),none,[4,3,2,0,1]⟩,⟨some 19,.mov (.tmp 1),some (18,false),[5,4,3,2,0,1]⟩,⟨some 20,.mov (.tmp 5),some (18,false),[5,4,3,2,0,1]⟩,⟨some 21,.iaddr 1 (.tmp 19) (.tmp 20),some (18,false),[6,5,4,3,2,0,1,7]⟩,⟨some 22,.load none (.tmp 21),some (18,false),[8,6,5,4,3,2,0,1,7]⟩,⟨some 23,.mov (.tmp 0),some (18,false),[5,4,3,2,0,1]⟩,⟨some 24,.len (.tmp 23),some (18,false),[10,5,4,3,2,0,1]⟩,⟨some 25,.bin .geq (.tmp 22) (.tmp 24),some (18,false),[9,8,6,5,4,3,2,0,1,7,11,10]⟩,⟨some 26,.pick (.tmp 18) (.const (.bool true)) (.tmp 25),none,[5,4,3,2,0,1,12,9,8,6,7,11,10]⟩,⟨some 27,.call (.func 95) [.tmp 26,.const (.int .i64 10)],none,[13,5,4,3,2,0,1,12,9,8,6,7,11,10]⟩,⟨some 28,.mov (.tmp 5),none,[]⟩,⟨some 29,.bin .gtr (.tmp 28) (.const (.int .i64 0)),none,[15]⟩,⟨some 30,.mov (.tmp 29),none,[16,15,14,13,5,4,3,2,0,1,12,9,8,6,7,11,10]⟩,⟨some 31,.mov (.tmp 1),some (30,true),[17,16,15,14,13,5,4,3,2,0,1,12,9,8,6,7,11,10]⟩,⟨some 32,.mov (.tmp 5),some (30,true),[17,16,15,14,13,5,4,3,2,0,1,12,9,8,6,7,11,10]⟩,⟨some 33,.iaddr 1 (.tmp 31) (.tmp 32),some (30,true),[18,17,16,15,14,13,5,4,3,2,0,1,12,9,8,6,7,11,10,19]⟩,⟨some 34,.load none (.tmp 33),some (30,true),[20,18,17,16,15,14,13,5,4,3,2,0,1,12,9,8,6,7,11,10,19]⟩,⟨some 35,.mov (.tmp 1),some (30,true),[17,16,15,14,13,5,4,3,2,0,1,12,9,8,6,7,11,10]⟩,⟨some 36,.mov (.tmp 5),some (30,true),[17,16,15,14,13,5,4,3,2,0,1,12,9,8,6,7,11,10]⟩,⟨some 37,.bin .sub (.tmp 36) (.const (.int .i64 1)),some (30,true),[23,17,16,15,14,13,5,4,3,2,0,1,12,9,8,6,7,11,10]⟩,⟨some 38,.minmax true (.const (.int .i64 0)) [.tmp 37],some (30,true),[24,23,17,16,15,14,13,5,4,3,2,0,1,12,9,8,6,7,11,10]⟩,⟨some 39,.iaddr 1 (.tmp 35) (.tmp 38),some (30,true),[22,17,16,15,14,13,5,4,3,2,0,1,12,9,8,6,7,11,10,25,24,23]⟩,⟨some 40,.load none (.tmp 39),some (30,true),[26,22,17,16,15,14,13,5,4,3,2,0,1,12,9,8,6,7,11,10,25,24,23]⟩,⟨some 41,.bin .leq (.tmp 34) (.tmp 40),some (30,true),[21,20,18,17,16,15,14,13,5,4,3,2,0,1,12,9,8,6,7,11,10,19,27,26,22,25,24,23]⟩,⟨some 42,.pick (.tmp 30) (.tmp 41) (.const (.bool false)),none,[17,16,15,14,13,5,4,3,2,0,1,12,9,8,6,7,11,10,28,21,20,18,19,27,26,22,25,24,23]⟩,⟨some 43,.call (.func 95) [.tmp 42,.const (.int .i64 11)],none,[29,17,16,15,14,13,5,4,3,2,0,1,12,9,8,6,7,11,10,28,21,20,18,19,27,26,22,25,24,23]⟩,⟨some 44,.lit true 1 2 (.int .i64 0) [(0,(.tmp 27)),(1,(.tmp 43))],none,[14,13,5,4,3,2,0,1,12,9,8,6,7,11,10,30,29,17,16,15,28,21,20,18,19,27,26,22,25,24,23]⟩,⟨some 45,.call (.func 48) [.tmp 44],none,[31,14,13,5,4,3,2,0,1,12,9,8,6,7,11,10,30,29,17,16,15,28,21,20,18,19,27,26,22,25,24,23]⟩,⟨some 6,.mov (.tmp 45),none,[32,31,14,13,5,4,3,2,0,1,12,9,8,6,7,11,10,30,29,17,16,15,28,21,20,18,19,27,26,22,25,24,23]⟩]) (.seq (.ops false [⟨some 46,.mov (.tmp 6),none,[]⟩,⟨some 47,.bin .neq (.tmp 46) (.const (.int .i64 0)),none,[]⟩]) (.cond (.tmp 47) (.seq (.ops false [⟨some 48,.mov (.tmp 6),none,[]⟩,⟨some 4,.mov (.tmp 48),none,[]⟩]) .ret) .skip)))) (.ops false [⟨some 11,.mov (.tmp 5),none,[]⟩,⟨some 12,.bin .add (.tmp 11) (.const (.int .i64 1)),none,[]⟩,⟨some 5,.mov (.tmp 12),none,[]⟩])))
def dk52_0 : Keep := ⟨[],[0,1,5],[]⟩
def dc52 : DFunc := ⟨49,2,[.tmp 4],.seq (.ops false [⟨some 4,.mov (.const (.int .i64 0)),none,[]⟩]) (.seq (.seq (.ops false [⟨some 5,.mov (.const (.int .i64 0)),none,[]⟩]) (.block 0 (some ⟨[],[],[]⟩) (.loop dk52_0 db52_0))) (.seq (.ops false [⟨some 4,.mov (.const (.int .i64 0)),none,[]⟩]) .ret))⟩
theorem dh52:cProg Go.Proofs.Tryz.prog ⟨[(0,⟨[],[0,1,5],[]⟩)],[(0,⟨[],[],[]⟩)],[44]⟩ 52=some dc52:=by kernel_rfl
def db153_0 : DC := (.seq (.seq (.ops false [⟨some 14,.mov (.tmp 3),none,[]⟩,⟨some 15,.mov (.tmp 0),none,[]⟩,⟨some 16,.lenS (.tmp 15),none,[]⟩,⟨some 17,.bin .lss (.tmp 14) (.tmp 16),none,[]⟩]) (.cond (.tmp 17) .skip (.exit 0))) (.seq (.block 1 none (.seq (.ops false [⟨some 20,.mov (.tmp 0),none,[]⟩,⟨some 21,.mov (.tmp 3),none,[]⟩,⟨some 22,.indexS (.tmp 20) (.tmp 21),none,[]⟩,⟨some 23,.bin .geq (.tmp 22) (.const (.int .u8 65)),none,[]⟩,⟨some 24,.mov (.tmp 23),none,[]⟩,⟨some 25,.mov (.tmp 0),some (24,true),[]⟩,⟨some 26,.mov (.tmp 3),some (24,true),[]⟩,⟨some 27,.indexS (.tmp 25) (.tmp 26),some (24,true),[]⟩,⟨some 28,.bin .leq (.tmp 27) (.const (.int .u8 90)),some (24,true),[]⟩,⟨some 29,.pick (.tmp 24) (.tmp 28) (.const (.bool false)),none,[]⟩,⟨some 30,.mov (.tmp 29),none,[]⟩,⟨some 31,.mov (.tmp 0),some (30,false),[]⟩,⟨some 32,.mov (.tmp 3),some (30,false),[]⟩,⟨some 33,.indexS (.tmp 31) (.tmp 32),some (30,false),[]⟩,⟨some 34,.bin .geq (.tmp 33) (.const (.int .u8 97)),some (30,false),[]⟩,⟨some 35,.mov (.tmp 34),some (30,false),[]⟩,⟨some 36,.mov (.tmp 0),some (35,true),[]⟩,⟨some 37,.mov (.tmp 3),some (35,true),[]⟩,⟨some 38,.indexS (.tmp 36) (.tmp 37),some (35,true),[]⟩,⟨some 39,.bin .leq (.tmp 38) (.const (.int .u8 122)),some (35,true),[]⟩,⟨some 40,.pick (.tmp 35) (.tmp 39) (.const (.bool false)),some (30,false),[]⟩,⟨some 41,.pick (.tmp 30) (.const (.bool true)) (.tmp 40),none,[]⟩,⟨some 4,.mov (.tmp 41),none,[]⟩]) (.seq (.ops false [⟨some 42,.mov (.tmp 0),none,[]⟩,⟨some 43,.mov (.tmp 3),none,[]⟩,⟨some 44,.indexS (.tmp 42) (.tmp 43),none,[]⟩,⟨some 45,.bin .geq (.tmp 44) (.const (.int .u8 48)),none,[]⟩,⟨some 46,.mov (.tmp 45),none,[]⟩,⟨some 47,.mov (.tmp 0),some (46,true),[]⟩,⟨some 48,.mov (.tmp 3),some (46,true),[]⟩,⟨some 49,.indexS (.tmp 47) (.tmp 48),some (46,true),[]⟩,⟨some 50,.bin .leq (.tmp 49) (.const (.int .u8 57)),some (46,true),[]⟩,⟨some 51,.pick (.tmp 46) (.tmp 50) (.const (.bool false)),none,[]⟩,⟨some 52,.mov (.tmp 51),none,[]⟩,⟨some 53,.mov (.tmp 0),some (52,false),[]⟩,⟨some 54,.mov (.tmp 3),some (52,false),[]⟩,⟨some 55,.indexS (.tmp 53) (.tmp 54),some (52,false),[]⟩,⟨some 56,.bin .eql (.tmp 55) (.const (.int .u8 95)),some (52,false),[]⟩,⟨some 57,.pick (.tmp 52) (.const (.bool true)) (.tmp 56),none,[]⟩,⟨some 5,.mov (.tmp 57),none,[]⟩]) (.seq (.ops false [⟨some 58,.mov (.tmp 4),none,[]⟩,⟨some 59,.un .not (.tmp 58),none,[]⟩,⟨some 60,.mov (.tmp 59),none,[]⟩,⟨some 61,.mov (.tmp 3),some (60,true),[]⟩,⟨some 62,.bin .eql (.tmp 61) (.const (.int .i64 0)),some (60,true),[]⟩,⟨some 63,.mov (.tmp 62),some (60,true),[]⟩,⟨some 64,.mov (.tmp 5),some (63,false),[]⟩,⟨some 65,.un .not (.tmp 64),some (63,false),[]⟩,⟨some 66,.pick (.tmp 63) (.const (.bool true)) (.tmp 65),some (60,true),[]⟩,⟨some 67,.pick (.tmp 60) (.tmp 66) (.const (.bool false)),none,[]⟩]) (.cond (.tmp 67) (.seq (.ops false [⟨some 2,.mov (.const (.bool false)),none,[]⟩]) .ret) .skip))))) (.ops false [⟨some 18,.mov (.tmp 3),none,[]⟩,⟨some 19,.bin .add (.tmp 18) (.const (.int .i64 1)),none,[]⟩,⟨some 3,.mov (.tmp 19),none,[]⟩])))
def dk153_0 : Keep := ⟨[],[0,3],[]⟩
def dc153 : DFunc := ⟨68,1,[.tmp 2],.seq (.ops false [⟨some 2,.mov (.const (.bool false)),none,[]⟩]) (.seq (.seq (.ops false [⟨some 6,.mov (.tmp 0),none,[]⟩,⟨some 7,.lenS (.tmp 6),none,[]⟩,⟨some 8,.bin .eql (.tmp 7) (.const (.int .i64 0)),none,[]⟩,⟨some 9,.mov (.tmp 8),none,[]⟩,⟨some 10,.mov (.tmp 0),some (9,false),[]⟩,⟨some 11,.lenS (.tmp 10),some (9,false),[]⟩,⟨some 12,.bin .gtr (.tmp 11) (.const (.int .i64 24)),some (9,false),[]⟩,⟨some 13,.pick (.tmp 9) (.const (.bool true)) (.tmp 12),none,[]⟩]) (.cond (.tmp 13) (.seq (.ops false [⟨some 2,.mov (.const (.bool false)),none,[]⟩]) .ret) .skip)) (.seq (.seq (.ops false [⟨some 3,.mov (.const (.int .i64 0)),none,[]⟩]) (.block 0 (some ⟨[],[],[]⟩) (.loop dk153_0 db153_0))) (.seq (.ops false [⟨some 2,.mov (.const (.bool true)),none,[]⟩]) .ret)))⟩
theorem dh153:cProg Go.Proofs.Tryz.prog ⟨[(0,⟨[],[0,3],[]⟩)],[(0,⟨[],[],[]⟩)],[]⟩ 153=some dc153:=by kernel_rfl
end Sh

namespace Sh
open Go
theorem absI_swap (a b:Int):absI (a - b)=absI (b - a):=by unfold absI;split<;>split<;>omega
theorem disP_swap (p q:Pt):disP p q=disP q p:=by unfold disP;rw [absI_swap p.x,absI_swap p.y]
theorem disP_tri (p q r:Pt):disP p r≤disP p q+disP q r:=by
 unfold disP absI;split<;>split<;>split<;>split<;>split<;>split<;>omega
theorem wayF_append (l:List Std) (home:Pt):∀ (a:List Int) (p:Pt) (i:Int) (b:List Int),wayF l home p (a++i :: b)=wayF l (atS l i) p a+wayF l home (atS l i) b
 |[],p,i,b=>rfl
 |x :: a,p,i,b=>by
  show disP p (atS l x)+wayF l home (atS l x) (a++i :: b)=_
  rw [wayF_append l home a]
  show _=disP p (atS l x)+wayF l (atS l i) (atS l x) a+_
  omega
end Sh

namespace Sh
open Go Go.Proofs
theorem r_checkPoint (p:Pt):PC 120 [encPt p] (DV.int .i64 (chkPt p)):=by
 refine pureCall_ofR dh120 rfl ?_
 conv=>whnf
 repeat' (first
  |(refine ⟨fun hg=>?_,fun hg=>?_⟩<;>first|contradiction|(conv=>whnf))
  |(refine Or.inl ?_;conv=>whnf)
  |(refine ⟨_,q_CheckRange ..,?_⟩;conv=>whnf)
  |(refine ⟨_,q_First [_,_] (by simp),?_⟩;conv=>whnf)
  |(refine And.intro ?_ ?_;kernel_rfl;conv=>whnf))
 rfl
theorem r_CheckPrice (n:Int):PC 59 [DV.int .i64 (n)] (DV.int .i64 (withE n 0 1000)):=by
 refine pureCall_ofR dh59 rfl ?_
 conv=>whnf
 repeat' (first
  |(refine ⟨fun hg=>?_,fun hg=>?_⟩<;>first|contradiction|(conv=>whnf))
  |(refine Or.inl ?_;conv=>whnf)
  |(refine ⟨_,q_CheckRange ..,?_⟩;conv=>whnf)
  |(refine And.intro ?_ ?_;kernel_rfl;conv=>whnf))
 rfl
theorem r_CheckCrew (c:Crw):PC 49 [encC c] (DV.int .i64 (chkCr c)):=by
 have k1:=r_checkPoint c.depot
 refine pureCall_ofR dh49 rfl ?_
 conv=>whnf
 repeat' (first
  |(refine ⟨fun hg=>?_,fun hg=>?_⟩<;>first|contradiction|(conv=>whnf))
  |(refine Or.inl ?_;conv=>whnf)
  |(refine ⟨_,k1,?_⟩;conv=>whnf)
  |(refine ⟨_,r_CheckPrice ..,?_⟩;conv=>whnf)
  |(refine ⟨_,q_CheckRange ..,?_⟩;conv=>whnf)
  |(refine ⟨_,q_First [_,_,_] (by simp),?_⟩;conv=>whnf)
  |(refine And.intro ?_ ?_;kernel_rfl;conv=>whnf))
 rfl
theorem q_IsName (s:List UInt8) (hs:s.length < 1073741824):PC 153 [.str s] (.bool (nameB s)):=by
 refine pureCall_ofR dh153 rfl ?_
 conv=>whnf
 repeat' (first
  |(refine ⟨fun hg=>?_,fun hg=>?_⟩<;>first|contradiction|(replace hg:=of_decide_eq_true hg;first|(exfalso;omega;done)|(conv=>whnf))|(replace hg:=of_decide_eq_false hg;first|(exfalso;omega;done)|(conv=>whnf))|(skip;conv=>whnf)|(conv=>whnf))
  |(refine Or.inl ?_;conv=>whnf)
  |(refine And.intro ?_ ?_;kernel_rfl;conv=>whnf))
 ·have hg:(24:Int) < s.length:=hg
  refine bool_eq ?_
  unfold nameB
  rw [show decide (s.length≤24)=false from decide_eq_false (by omega)];simp
 ·have hl24:¬ (24:Int) < s.length:=hg
  rename_i hl0
  have hl0:¬ ((s.length:Int)=0):=by first|exact hl0|exact of_decide_eq_false hl0
  refine dwp_loopU (P:=Tryz.prog) (G:=GC) (k:=dk153_0) (b:=db153_0) (α:=Nat) (fun i=>[(3,DV.int .i64 (i))]) (fun i=>[]) (fun i=>i≤s.length∧∀ j,j < i→nmAt s j=true) (fun i=>s.length - i) 0 ⟨Nat.zero_le _,fun d h=>by omega⟩ ?_
  conv=>whnf
  refine ⟨rfl,rfl,?_⟩
  conv=>whnf
  refine ⟨rfl,?_⟩
  intro i ⟨h1,h2⟩
  conv=>whnf
  refine ⟨fun hb=>?_,fun hb=>?_⟩
  ·have hi:i < s.length:=by simpa using hb
   clear hb
   conv=>whnf
   refine ⟨⟨by omega,by omega⟩,?_⟩
   rw [Int.toNat_natCast]
   have hl:=isLet_iff (s.getD i 0)
   have ho:=isOth_iff (s.getD i 0)
   have hn:=nmAt_iff s i
   have hbad:=nameB_bad hi
   generalize isLet (s.getD i 0)=L at *
   generalize isOth (s.getD i 0)=O at *
   generalize hcv:(s.getD i 0).toNat=c at *
   have hn':nmAt s i=true ↔ ((97≤c∧c≤122)∨(65≤c∧c≤90))∨(i≠0∧(c=95∨(48≤c∧c≤57))):=by rw [hn,hl,ho]
   have hi0:(0:Int)≤(i:Int)∧(i:Int) < (s.length:Int):=by omega
   conv=>whnf
   repeat' (first
    |(refine ⟨fun hg=>?_,fun hg=>?_⟩<;>first|contradiction|(replace hg:=of_decide_eq_true hg;first|(exfalso;omega;done)|(conv=>whnf))|(replace hg:=of_decide_eq_false hg;first|(exfalso;omega;done)|(conv=>whnf))|(skip;conv=>whnf)|(conv=>whnf))
    |(refine Or.inl ?_;conv=>whnf)
    |(refine ⟨hi0,?_⟩;rw [Int.toNat_natCast,hcv];conv=>whnf)
    |(refine And.intro ?_ ?_;kernel_rfl;conv=>whnf))
   all_goals
    first
    |(refine bool_eq (hbad ?_).symm
      cases hnm:nmAt s i with
      |false=>rfl
      |true =>
       exfalso
       have hq:=hn'.1 hnm
       clear hn' hn hl ho hbad h2
       simp only [cond_true,cond_false,Bool.not_true,Bool.not_false,decide_eq_true_eq,Bool.not_eq_true',decide_eq_false_iff_not,Bool.not_eq_false'] at *
       omega)
    |(rw [wrap_succ i (by omega)]
      refine ⟨i+1,rfl,rfl,rfl,⟨hi,fun j hj=>?_⟩,by omega⟩
      by_cases h:j=i
      ·subst h
       refine hn'.2 ?_
       clear hn' hn hl ho hbad h2
       simp only [cond_true,cond_false,Bool.not_true,Bool.not_false,decide_eq_true_eq,Bool.not_eq_true',decide_eq_false_iff_not,Bool.not_eq_false'] at *
       omega
      ·exact h2 j (by omega))
  ·have hi:i=s.length:=by have:=of_decide_eq_false hb;omega
   clear hb
   subst hi
   conv=>whnf
   refine bool_eq ?_
   rw [nameB_ok h2,decide_eq_true (show s.length≤24 by omega),decide_eq_true (show s≠[] from fun e=>by rw [e] at hl0;exact hl0 rfl)];rfl
 ·rename_i hl0
  have hl0:((s.length:Int)=0):=by first|exact hl0|exact of_decide_eq_true hl0
  have h0:s=[]:=List.eq_nil_of_length_eq_zero (by omega)
  subst h0;rfl
end Sh

namespace Sh
open Go Go.Proofs
theorem q_CheckName (s:List UInt8) (hs:s.length < 1073741824):PC 121 [.str s] (DV.int .i64 (whenE (!nameB s) 8)):=by
 have k1:=q_IsName s hs
 refine pureCall_ofR dh121 rfl ?_
 conv=>whnf
 repeat' (first
  |(refine ⟨fun hg=>?_,fun hg=>?_⟩<;>first|contradiction|(conv=>whnf))
  |(refine Or.inl ?_;conv=>whnf)
  |(refine ⟨_,k1,?_⟩;conv=>whnf)
  |(refine ⟨_,q_When ..,?_⟩;conv=>whnf)
  |(refine And.intro ?_ ?_;kernel_rfl;conv=>whnf))
 rfl
end Sh

namespace Sh
open Go Go.Proofs
theorem firstE_nine (r:List Int):firstE (9 :: r)=9:=by simp [firstE]
theorem r_CheckStands (l:List Std) (hl:l.length < 1073741824) (hn:∀ s ∈ l,s.name.length < 1073741824):PC 50 [tsV l] (DV.int .i64 (chkStd l)):=by
 have e0:((l.map encT).length:Int)=l.length:=by simp
 refine pureCall_ofR dh50 rfl ?_
 conv=>whnf
 refine ⟨fun hg=>?_,fun hg=>?_⟩
 ·have hg:=of_decide_eq_true hg
  rw [e0] at hg
  conv=>whnf
  exact int_eq (by unfold chkStd;rw [if_pos (by omega)])
 ·have hg:=of_decide_eq_false hg
  rw [e0] at hg
  have hk:chkStd l=chkTs (knS l 0) (l.drop 0):=by unfold chkStd;rw [if_neg (by omega)];rfl
  rw [hk]
  clear hk
  conv=>whnf
  refine dwp_loopU (P:=Tryz.prog) (G:=GC) (k:=dk50_1) (b:=db50_1) (α:=Nat) (fun i=>[(3,DV.int .i64 (i))]) (fun i=>[]) (fun i=>i≤l.length∧chkTs (knS l 0) (l.drop 0)=chkTs (knS l i) (l.drop i)) (fun i=>l.length - i) 0 ⟨Nat.zero_le _,rfl⟩ ?_
  conv=>whnf
  refine ⟨rfl,rfl,?_⟩
  conv=>whnf
  refine ⟨rfl,?_⟩
  intro i ⟨h1,h2⟩
  conv=>whnf
  refine ⟨fun hb=>?_,fun hb=>?_⟩
  ·have hi:i < l.length:=by simpa using hb
   clear hb
   have hd:=chkTs_drop l i hi
   have hnm:=hn _ (getD_in T0 hi)
   have kN:=q_CheckName (l.getD i T0).name hnm
   have kP:=r_checkPoint (l.getD i T0).at_
   have hte:tE (knS l i) (l.getD i T0)=firstE [whenE (!nameB (l.getD i T0).name) 8,whenE (decide ((l.getD i T0).name ∈ knS l i)) 9,chkPt (l.getD i T0).at_,withE (l.getD i T0).worth 0 1000000,withE (l.getD i T0).water 0 10000]:=rfl
   conv=>whnf
   rw [getD_enc _ _ (i) T0 hi]
   refine ⟨idxA hi rfl,?_⟩
   conv=>whnf
   repeat' (first
    |(refine ⟨fun hg=>?_,fun hg=>?_⟩<;>first|contradiction|(conv=>whnf))
    |(refine Or.inl ?_;conv=>whnf)
    |(refine ⟨_,kN ..,?_⟩;conv=>whnf)
    |(refine And.intro ?_ ?_;kernel_rfl;conv=>whnf))
   ·have hg:=of_decide_eq_true hg
    have hq:tE (knS l i) (l.getD i T0)=whenE (!nameB (l.getD i T0).name) 8:=by rw [hte];simp only [firstE];rw [if_pos hg]
    rw [hq,if_pos hg] at hd
    exact int_eq (by rw [h2,hd])
   ·have hg:=of_decide_eq_false hg
    have hte:tE (knS l i) (l.getD i T0)=firstE [whenE (decide ((l.getD i T0).name ∈ knS l i)) 9,chkPt (l.getD i T0).at_,withE (l.getD i T0).worth 0 1000000,withE (l.getD i T0).water 0 10000]:=by rw [hte];simp only [firstE];rw [if_neg hg]
    refine dwp_loopU (P:=Tryz.prog) (G:=GC) (k:=dk50_0) (b:=db50_0) (α:=Nat) (fun k=>[(5,DV.int .i64 (k))]) (fun k=>[]) (fun k=>k≤i∧∀ j,j < k→(l.getD j T0).name≠(l.getD i T0).name) (fun k=>i - k) 0 ⟨Nat.zero_le _,fun j h=>by omega⟩ ?_
    conv=>whnf
    refine ⟨rfl,rfl,?_⟩
    conv=>whnf
    refine ⟨rfl,?_⟩
    intro k ⟨h3,h4⟩
    conv=>whnf
    refine ⟨fun hb=>?_,fun hb=>?_⟩
    ·have hk:k < i:=by have:=of_decide_eq_true hb;omega
     clear hb
     conv=>whnf
     rw [getD_enc _ _ (k) T0 (by omega:k < l.length)]
     refine ⟨idxA (by omega:k < l.length) rfl,?_⟩
     conv=>whnf
     rw [getD_enc _ _ (i) T0 hi]
     refine ⟨idxA hi rfl,?_⟩
     conv=>whnf
     refine ⟨by kernel_rfl,?_⟩
     conv=>whnf
     refine ⟨fun hg=>?_,fun hg=>?_⟩
     ·have hg:=of_decide_eq_true hg
      conv=>whnf
      have hm:(l.getD i T0).name ∈ knS l i:=List.mem_map.2 ⟨l.getD k T0,by
       have:(l.take i).getD k T0=l.getD k T0:=by simp [List.getD_eq_getElem?_getD,hk]
       rw [← this];exact getD_in T0 (by rw [List.length_take];omega),hg⟩
      have hq:tE (knS l i) (l.getD i T0)=9:=by rw [hte,decide_eq_true hm,show whenE true 9=9 from rfl,firstE_nine]
      rw [hq,if_pos (by decide)] at hd
      exact int_eq (by rw [h2,hd])
     ·have hg:=of_decide_eq_false hg
      conv=>whnf
      rw [wrap_succ k (by omega)]
      refine ⟨k+1,rfl,rfl,rfl,⟨hk,fun j hj=>?_⟩,by omega⟩
      by_cases h:j=k
      ·subst h;exact hg
      ·exact h4 j (by omega)
    ·have hk:k=i:=by have:=of_decide_eq_false hb;omega
     subst hk
     clear hb
     have hm:(l.getD k T0).name ∉ knS l k:=fun e=>by
      obtain ⟨t,ht,he⟩:=List.mem_map.1 e
      obtain ⟨j,hj,rfl⟩:=List.mem_iff_getElem.1 ht
      have hj':j < k:=by rw [List.length_take] at hj;omega
      refine h4 j hj' ?_
      rw [← he]
      simp [List.getD_eq_getElem?_getD,show j < l.length by omega]
     rw [decide_eq_false hm,show whenE false 9=0 from rfl,firstE_z] at hte
     conv=>whnf
     repeat' (first
      |(refine ⟨fun hg=>?_,fun hg=>?_⟩<;>first|contradiction|(exfalso;revert hg;simp;done)|(exfalso;exact absurd (of_decide_eq_true hg) (by assumption))|(exfalso;exact absurd (by assumption) (of_decide_eq_false hg))|(conv=>whnf))
      |(refine Or.inl ?_;conv=>whnf)
      |(refine ⟨_,kP,?_⟩;conv=>whnf)
      |(refine ⟨_,q_CheckRange ..,?_⟩;conv=>whnf)
      |(refine ⟨_,q_First [_,_,_] (by simp),?_⟩;conv=>whnf)
      |(rw [getD_enc _ _ k T0 hi];refine ⟨idxA hi rfl,?_⟩;conv=>whnf)
      |(refine And.intro ?_ ?_;kernel_rfl;conv=>whnf))
     ·have hg:=of_decide_eq_true hg
      rw [← hte] at hg
      rw [if_pos hg] at hd
      exact int_eq (by rw [h2,hd,hte])
     ·have hg:=of_decide_eq_false hg
      rw [← hte] at hg
      rw [if_neg hg] at hd
      rw [wrap_succ k (by omega)]
      exact ⟨k+1,rfl,rfl,rfl,⟨hi,by rw [h2,hd]⟩,by omega⟩
  ·have hi:i=l.length:=by have:=of_decide_eq_false hb;rw [e0] at this;omega
   clear hb
   conv=>whnf
   exact int_eq (by rw [h2,hi,List.drop_of_length_le (Nat.le_refl _)];rfl)
end Sh

namespace Sh
open Go Go.Proofs
theorem r_CheckSet (l:List Std) (ws:List Int) (hl:l.length < 1073741824) (hw:ws.length < 1073741824):PC 52 [tsV l,iL ws] (DV.int .i64 (chkWs l.length (-1) ws)):=by
 have e0:((ws.map (DV.int .i64)).length:Int)=ws.length:=by simp
 have e1:((l.map encT).length:Int)=l.length:=by simp
 refine pureCall_ofR dh52 rfl ?_
 conv=>whnf
 refine dwp_loopU (P:=Tryz.prog) (G:=GC) (k:=dk52_0) (b:=db52_0) (α:=Nat) (fun i=>[(5,DV.int .i64 (i))]) (fun _=>[]) (fun i=>i≤ws.length∧chkWs l.length (-1) ws=chkWs l.length (lastW ws i) (ws.drop i)) (fun i=>ws.length - i) 0 ⟨Nat.zero_le _,rfl⟩ ?_
 conv=>whnf
 refine ⟨rfl,rfl,?_⟩
 conv=>whnf
 refine ⟨rfl,?_⟩
 intro i ⟨h1,h2⟩
 conv=>whnf
 refine ⟨fun hb=>?_,fun hb=>?_⟩
 ·have hi:i < ws.length:=by simpa using hb
  have hd:=chkWs_drop l.length ws i hi
  clear hb
  have hp:0 < i→lastW ws i=ws.getD (i - 1) 0:=fun h=>by unfold lastW;rw [if_neg (by omega)]
  have hz:i=0→lastW ws i = -1:=fun h=>by unfold lastW;rw [if_pos h]
  have hmx:0 < i→minmaxI true 0 (IntKind.i64.wrap ((i:Int) - 1))=((i - 1:Nat):Int):=fun h=>by
   rw [wrap_pred i h (by omega)]
   unfold minmaxI
   show (if ((i - 1:Nat):Int) > 0 then _ else _)=_
   split<;>omega
  have fin:∀ b c,b=decide (ws.getD i 0 < 0∨(l.length:Int)≤ws.getD i 0)→(¬ ws.getD i 0 < 0→c=decide (ws.getD i 0≤lastW ws i))→firstE [whenE b 10,whenE c 11]=wE l.length (ws.getD i 0) (lastW ws i):=fun b c g1 g2=>wE_first g1 g2
  have hdec:¬ ws.getD i 0 < 0→decide (((l.map encT).length:Int)≤ws.getD i 0)=decide (ws.getD i 0 < 0∨(l.length:Int)≤ws.getD i 0):=fun h=>by rw [e1,decide_eq_decide];omega
  have hyes:ws.getD i 0 < 0→true=decide (ws.getD i 0 < 0∨(l.length:Int)≤ws.getD i 0):=fun h=>(decide_eq_true (.inl h)).symm
  by_cases i0:(0:Int) < (i:Int)
  all_goals by_cases hx:ws.getD i 0 < 0
  all_goals
   conv=>whnf
   repeat' (first
    |(refine ⟨fun hg=>?_,fun hg=>?_⟩<;>first|contradiction|(exfalso;revert hg;simp;done)|(exfalso;exact absurd (of_decide_eq_true hg) (by assumption))|(exfalso;exact absurd (by assumption) (of_decide_eq_false hg))|(conv=>whnf))
    |(refine Or.inl ?_;conv=>whnf)
    |(refine ⟨_,q_When ..,?_⟩;conv=>whnf)
    |(refine ⟨_,q_First [_,_] (by simp),?_⟩;conv=>whnf)
    |(rw [getD_enc _ _ i 0 hi];refine ⟨idxA hi rfl,?_⟩;conv=>whnf)
    |(rw [hmx (by omega),getD_enc _ _ (i - 1) 0 (by omega)];refine ⟨idxA (by omega) rfl,?_⟩;conv=>whnf)
    |(refine And.intro ?_ ?_;kernel_rfl;conv=>whnf))
  all_goals
   first
   |contradiction
   |(have hg:firstE [whenE _ 10,whenE _ 11]≠0:=of_decide_eq_true hg
     rw [fin _ _ (by first|exact hyes hx|exact hdec hx) (fun hx'=>by first|exact absurd hx hx'|(rw [hp (by omega)];rfl)|(rw [hz (by omega)];symm;exact decide_eq_false (by omega)))] at hg ⊢
     rw [if_pos hg] at hd
     exact int_eq (by rw [h2,hd]))
   |(have hg:¬ firstE [whenE _ 10,whenE _ 11]≠0:=of_decide_eq_false hg
     rw [fin _ _ (by first|exact hyes hx|exact hdec hx) (fun hx'=>by first|exact absurd hx hx'|(rw [hp (by omega)];rfl)|(rw [hz (by omega)];symm;exact decide_eq_false (by omega)))] at hg
     rw [if_neg hg] at hd
     rw [wrap_succ i (by omega)]
     exact ⟨i+1,rfl,rfl,rfl,⟨hi,by rw [h2,hd]⟩,by omega⟩)
 ·have hi:i=ws.length:=by have:=of_decide_eq_false hb;rw [e0] at this;omega
  clear hb
  conv=>whnf
  exact int_eq (by rw [h2,hi,List.drop_of_length_le (Nat.le_refl _)];rfl)
end Sh

namespace Sh
open Go Go.Proofs
theorem r_CheckOrder (l:List Std) (o:List Int) (hl:l.length < 1073741824) (hw:o.length < 1073741824):PC 51 [tsV l,iL o] (DV.int .i64 (chkO l.length [] o)):=by
 have e0:((o.map (DV.int .i64)).length:Int)=o.length:=by simp
 have e1:((l.map encT).length:Int)=l.length:=by simp
 refine pureCall_ofR dh51 rfl ?_
 conv=>whnf
 refine dwp_loopU (P:=Tryz.prog) (G:=GC) (k:=dk51_0) (b:=db51_0) (α:=Nat) (fun i=>[(5,DV.int .i64 (i))]) (fun _=>[]) (fun i=>i≤o.length∧chkO l.length [] o=chkO l.length (o.take i) (o.drop i)) (fun i=>o.length - i) 0 ⟨Nat.zero_le _,rfl⟩ ?_
 conv=>whnf
 refine ⟨rfl,rfl,?_⟩
 conv=>whnf
 refine ⟨rfl,?_⟩
 intro i ⟨h1,h2⟩
 conv=>whnf
 refine ⟨fun hb=>?_,fun hb=>?_⟩
 ·have hi:i < o.length:=by simpa using hb
  have hd:=chkO_drop l.length o i hi
  clear hb
  have kH:=q_HasInt (o.take i) (o.getD i 0) (by rw [List.length_take];omega)
  have hwd:window (o.map (DV.int .i64)) 0 i=(o.take i).map (DV.int .i64):=by simp [window]
  have hdec:¬ o.getD i 0 < 0→decide (((l.map encT).length:Int)≤o.getD i 0)=decide (o.getD i 0 < 0∨(l.length:Int)≤o.getD i 0):=fun h=>by rw [e1,decide_eq_decide];omega
  have hyes:o.getD i 0 < 0→true=decide (o.getD i 0 < 0∨(l.length:Int)≤o.getD i 0):=fun h=>(decide_eq_true (.inl h)).symm
  by_cases hx:o.getD i 0 < 0
  all_goals
   conv=>whnf
   rw [getD_enc _ _ (i) 0 hi]
   refine ⟨idxA hi rfl,?_⟩
   conv=>whnf
   repeat' (first
    |(refine ⟨fun hg=>?_,fun hg=>?_⟩<;>first|contradiction|(exfalso;revert hg;simp;done)|(exfalso;exact absurd (of_decide_eq_true hg) (by assumption))|(exfalso;exact absurd (by assumption) (of_decide_eq_false hg))|(conv=>whnf))
    |(refine Or.inl ?_;conv=>whnf)
    |(refine ⟨_,q_When ..,?_⟩;conv=>whnf)
    |(refine ⟨_,q_First [_,_] (by simp),?_⟩;conv=>whnf)
    |(refine ⟨_,kH,?_⟩;conv=>whnf)
    |(rw [getD_enc _ _ i 0 hi];refine ⟨idxA hi rfl,?_⟩;conv=>whnf)
    |(refine ⟨⟨by omega,by omega,by rw [e0];omega,fun e he=>iD_ok o e he⟩,?_⟩;rw [show Int.toNat 0=0 from rfl,show ((i:Int) - 0).toNat=i by omega,hwd];conv=>whnf)
    |(refine And.intro ?_ ?_;kernel_rfl;conv=>whnf))
  all_goals
   first
   |contradiction
   |(have hg:firstE [whenE _ 10,whenE _ 9]≠0:=of_decide_eq_true hg
     rw [oE_first (n:=l.length) (x:=o.getD i 0) (seen:=o.take i) (by first|exact hyes hx|exact hdec hx) rfl] at hg ⊢
     rw [if_pos hg] at hd
     exact int_eq (by rw [h2,hd]))
   |(have hg:¬ firstE [whenE _ 10,whenE _ 9]≠0:=of_decide_eq_false hg
     rw [oE_first (n:=l.length) (x:=o.getD i 0) (seen:=o.take i) (by first|exact hyes hx|exact hdec hx) rfl] at hg
     rw [if_neg hg] at hd
     rw [wrap_succ i (by omega)]
     exact ⟨i+1,rfl,rfl,rfl,⟨hi,by rw [h2,hd]⟩,by omega⟩)
 ·have hi:i=o.length:=by have:=of_decide_eq_false hb;rw [e0] at this;omega
  clear hb
  conv=>whnf
  exact int_eq (by rw [h2,hi,List.drop_of_length_le (Nat.le_refl _)];rfl)
end Sh

namespace Sh
open Go
def db46_0 : DC := (.seq (.ops false [⟨some 9,.bin .lss (.tmp 8) (.tmp 7),none,[]⟩]) (.seq (.cond (.tmp 9) .skip (.exit 0)) (.seq (.block 1 none (.seq (.ops false [⟨some 10,.iaddr 5 (.tmp 6) (.tmp 8),none,[]⟩,⟨some 11,.load (some 5) (.tmp 10),none,[]⟩,⟨some 5,.alloc (.agg [.str [],.int .i64 0,.int .i64 0,.int .i64 0,.int .i64 0]) 5,none,[]⟩,⟨none,.store 5 (.tmp 5) (.tmp 11),none,[]⟩]) (.ops false [⟨some 12,.mov (.tmp 3),none,[]⟩,⟨some 13,.load (some 5) (.tmp 5),none,[]⟩,⟨some 14,.lit true 5 1 (.agg [.str [],.int .i64 0,.int .i64 0,.int .i64 0,.int .i64 0]) [(0,(.tmp 13))],none,[]⟩,⟨some 15,.append false 5 (.tmp 12) (.tmp 14),none,[]⟩,⟨some 3,.mov (.tmp 15),none,[]⟩]))) (.ops false [⟨some 16,.bin .add (.tmp 8) (.const (.int .i64 1)),none,[]⟩,⟨some 8,.mov (.tmp 16),none,[]⟩]))))
def dk46_0 : Keep := ⟨[(3,5)],[3,6,7,8],[3]⟩
def dc46 : DFunc := ⟨18,1,[.tmp 2],.seq (.ops false [⟨some 2,.mov (.const (.slice none 0 0)),none,[]⟩]) (.seq (.ops false [⟨some 3,.mov (.const (.slice none 0 0)),none,[]⟩]) (.seq (.seq (.ops false [⟨some 6,.mov (.tmp 0),none,[]⟩,⟨some 7,.len (.tmp 6),none,[]⟩,⟨some 8,.mov (.const (.int .i64 0)),none,[]⟩]) (.block 0 (some ⟨[],[3],[3]⟩) (.loop dk46_0 db46_0))) (.seq (.ops false [⟨some 17,.mov (.tmp 3),none,[]⟩,⟨some 2,.mov (.tmp 17),none,[]⟩]) .ret)))⟩
theorem dh46:cProg Go.Proofs.Tryz.prog ⟨[(0,⟨[(3,5)],[3,6,7,8],[3]⟩)],[(0,⟨[],[3],[3]⟩)],[14]⟩ 46=some dc46:=by kernel_rfl
end Sh

namespace Sh
open Go
theorem wayF_snoc (l:List Std) (home:Pt) (a:List Int) (p:Pt) (i:Int):wayF l home p (a++[i])=wayF l (atS l i) p a+disP (atS l i) home:=by
 rw [wayF_append];rfl
theorem wayF_rev (l:List Std):∀ (a:List Int) (p q:Pt),wayF l q p a=wayF l p q a.reverse
 |[],p,q=>disP_swap p q
 |i :: a,p,q=>by
  rw [List.reverse_cons,wayF_snoc,← wayF_rev l a (atS l i) q]
  show disP p (atS l i)+_=_
  rw [disP_swap p];omega
theorem wayS_rev (c:Crw) (l:List Std) (o:List Int):wayS c l o.reverse=wayS c l o:=(wayF_rev l o c.depot c.depot).symm
theorem wayF_erase (l:List Std) (home:Pt):∀ (a:List Int) (p:Pt) (x:Int),wayF l home p (a.erase x)≤wayF l home p a
 |[],p,x=>Int.le_refl _
 |i :: a,p,x=>by
  by_cases e:i=x
  ·subst e
   rw [List.erase_cons_head]
   cases a with
   |nil =>
    show disP p home≤disP p (atS l i)+disP (atS l i) home
    exact disP_tri _ _ _
   |cons j a =>
    show disP p (atS l j)+_≤disP p (atS l i)+(disP (atS l i) (atS l j)+_)
    have:=disP_tri p (atS l i) (atS l j)
    omega
  ·rw [List.erase_cons_tail (by simpa using e)]
   have:=wayF_erase l home a (atS l i) x
   show disP p (atS l i)+_≤disP p (atS l i)+_
   omega
theorem short_less {c:Crw} {l:List Std} {x:Int} {r:List Int} {b b':List Int×Int} (h:Shortest c l (x :: r) b) (h':Shortest c l r b'):b'.2≤b.2:=by
 have h1:(b.1.erase x).Perm r:=by
  have:=h.perm.erase x
  rwa [List.erase_cons_head] at this
 have h2:=h'.least _ h1
 have h3:=wayF_erase l c.depot b.1 c.depot x
 have h4:=h.way
 unfold wayS at h2 h4
 omega
theorem chosen_spec {c:Crw} (hc:OkCr c) (l:List Std):(∃ set,Inc l.length (-1) set∧sumV l set≤c.tank∧chosenS c l=rndS c l set)∧(∀ set,Inc l.length (-1) set→sumV l set≤c.tank→leP (chosenS c l) (rndS c l set))∧0≤(chosenS c l).worth:=by
 have hm:=bestP_mem (l:=rnds c l) (fun e=>by have:=rnds_nil hc l;rw [e] at this;cases this)
 refine ⟨mem_rnds.1 hm,fun set h1 h2=>bestP_le _ (mem_rnds.2 ⟨set,h1,h2,rfl⟩),?_⟩
 have:=bestP_worth _ (rnds_nil hc l)
 exact this
theorem sum_sub {g:Nat→Int} (hg:∀ i,0≤g i):∀ (n:Nat) (set:List Int),Inc n (-1) set→sumI (set.map fun i=>g i.toNat)≤sumI (rng n g)
 |0,set,h=>by
  cases set with
  |nil=>exact Int.le_refl _
  |cons x r=>have:=h.1;have:=h.2.1;omega
 |n+1,set,h=>by
  rw [rng_succ,sumI_append,sumI_one]
  rcases inc_split h with h1|⟨l',rfl,h1⟩
  ·have:=sum_sub hg n set h1
   have:=hg n
   omega
  ·have:=sum_sub hg n l' h1
   rw [List.map_append,sumI_append]
   show _+sumI [g (Int.toNat (n:Int))]≤_
   rw [sumI_one,Int.toNat_natCast]
   omega
theorem rng_list {α:Type} (l:List α) (d:α):rng l.length (fun i=>l.getD i d)=l:=by
 apply List.ext_getElem
 ·simp [rng]
 ·intro i h1 h2
  simp [rng,List.getD_eq_getElem?_getD,h2]
theorem bound_le {c:Crw} (hc:OkCr c) {l:List Std} (hl:∀ s ∈ l,OkStd s) {p:Int} (hp:0≤p):(chosenS c l).worth≤boundS c l p:=by
 obtain ⟨⟨set,h1,h2,h3⟩,_,_⟩:=chosen_spec hc l
 rw [h3]
 have hs:=shortS_spec hc hl (inc_in h1)
 have hn:=Int.mul_nonneg hc.p0 hs.nn
 show sumW l set - c.price * (shortS c l set).2≤_
 have h4:=sum_sub (g:=fun i=>max 0 ((l.getD i T0).worth - p * (l.getD i T0).water)) (fun i=>by omega) l.length set h1
 have h5:rng l.length (fun i=>max 0 ((l.getD i T0).worth - p * (l.getD i T0).water))=l.map fun s=>max 0 (s.worth - p * s.water):=by
  have:=rng_map l.length (fun i=>l.getD i T0) (fun s=>max 0 (s.worth - p * s.water))
  rw [rng_list] at this
  exact this.symm
 rw [h5] at h4
 have h6:∀ st:List Int,sumW l st≤sumI (st.map fun i=>max 0 ((l.getD i.toNat T0).worth - p * (l.getD i.toNat T0).water))+p * sumV l st:=fun st=>by
  unfold sumW sumV
  induction st with
  |nil=>show (0:Int)≤0+p * 0;simp
  |cons i r ih =>
   rw [List.map_cons,List.map_cons,List.map_cons,sumI_cons,sumI_cons,sumI_cons,Int.mul_add]
   omega
 have h7:=h6 set
 have h8:=Int.mul_le_mul_of_nonneg_left h2 hp
 unfold boundS
 omega
theorem shortS_congr {c c':Crw} (l:List Std) (set:List Int) (h:c'.depot=c.depot):shortS c' l set=shortS c l set:=by
 have hw:∀ o,wayS c' l o=wayS c l o:=fun o=>by unfold wayS;rw [h]
 unfold shortS
 generalize permsS set=os
 generalize (([],-1):List Int×Int)=b
 induction os generalizing b with
 |nil=>rfl
 |cons o os ih=>unfold shortF;rw [hw,ih]
theorem chosen_tank {c c':Crw} (hc:OkCr c) (hc':OkCr c') (l:List Std) (h:c'.depot=c.depot) (hp:c'.price=c.price) (ht:c.tank≤c'.tank):(chosenS c l).worth≤(chosenS c' l).worth:=by
 obtain ⟨⟨set,h1,h2,h3⟩,_,_⟩:=chosen_spec hc l
 have h4:rndS c' l set=rndS c l set:=by unfold rndS;rw [shortS_congr l set h,hp]
 have:=bestP_worth (l:=rnds c' l) (rndS c' l set) (mem_rnds.2 ⟨set,h1,by omega,rfl⟩)
 rw [h4] at this
 rw [h3];exact this
theorem chosen_price {c c':Crw} (hc:OkCr c) (hc':OkCr c') {l:List Std} (hl:∀ s ∈ l,OkStd s) (h:c'.depot=c.depot) (ht:c'.tank=c.tank) (hp:c.price≤c'.price):(chosenS c' l).worth≤(chosenS c l).worth:=by
 obtain ⟨⟨set,h1,h2,h3⟩,_,_⟩:=chosen_spec hc' l
 have hs:=shortS_spec hc hl (inc_in h1)
 have h4:=Int.mul_le_mul_of_nonneg_right hp hs.nn
 have h5:=bestP_worth (l:=rnds c l) (rndS c l set) (mem_rnds.2 ⟨set,h1,by omega,rfl⟩)
 rw [h3]
 show sumW l set - c'.price * (shortS c' l set).2≤_
 rw [shortS_congr l set h]
 have h5:sumW l set - c.price * (shortS c l set).2≤_:=h5
 unfold chosenS
 omega
end Sh

namespace Sh
open Go
def dc20 : DFunc := ⟨6,1,[.tmp 2],.seq (.ops false [⟨some 2,.mov (.const (.slice none 0 0)),none,[]⟩]) (.seq (.ops false [⟨some 3,.lit true 1 0 (.int .i64 0) [],none,[]⟩,⟨some 4,.mov (.tmp 0),none,[]⟩,⟨some 5,.append true 1 (.tmp 3) (.tmp 4),none,[]⟩,⟨some 2,.mov (.tmp 5),none,[]⟩]) .ret)⟩
theorem dh20:cProg Go.Proofs.Tryz.prog ⟨[],[],[3,5]⟩ 20=some dc20:=by kernel_rfl
def db84_0 : DC := (.seq (.seq (.ops false [⟨some 12,.mov (.tmp 6),none,[]⟩,⟨some 13,.mov (.tmp 1),none,[]⟩,⟨some 14,.bin .lss (.tmp 12) (.tmp 13),none,[]⟩]) (.cond (.tmp 14) .skip (.exit 0))) (.seq (.block 1 none (.ops false [⟨some 17,.mov (.tmp 5),none,[]⟩,⟨some 18,.mov (.tmp 6),none,[]⟩,⟨some 19,.lit true 1 1 (.int .i64 0) [(0,(.tmp 18))],none,[]⟩,⟨some 20,.append false 1 (.tmp 17) (.tmp 19),none,[]⟩,⟨some 5,.mov (.tmp 20),none,[]⟩])) (.ops false [⟨some 15,.mov (.tmp 6),none,[]⟩,⟨some 16,.bin .add (.tmp 15) (.const (.int .i64 1)),none,[]⟩,⟨some 6,.mov (.tmp 16),none,[]⟩])))
def dk84_0 : Keep := ⟨[(5,1)],[0,1,5,6],[5]⟩
def db84_1 : DC := (.seq (.seq (.ops false [⟨some 24,.mov (.tmp 8),none,[]⟩,⟨some 25,.bin .geq (.tmp 24) (.const (.int .i64 1)),none,[]⟩]) (.cond (.tmp 25) .skip (.exit 2))) (.seq (.block 3 none (.seq (.ops false [⟨some 28,.mov (.tmp 7),none,[]⟩,⟨some 29,.bin .mul (.const (.int .i64 39373)) (.tmp 28),none,[]⟩,⟨some 30,.bin .add (.tmp 29) (.const (.int .i64 17)),none,[]⟩,⟨some 31,.bin .rem (.tmp 30) (.const (.int .i64 2147483647)),none,[]⟩,⟨some 7,.mov (.tmp 31),none,[]⟩]) (.seq (.ops false [⟨some 32,.mov (.tmp 7),none,[]⟩,⟨some 33,.mov (.tmp 8),none,[]⟩,⟨some 34,.bin .add (.tmp 33) (.const (.int .i64 1)),none,[]⟩,⟨some 35,.bin .rem (.tmp 32) (.tmp 34),none,[]⟩,⟨some 9,.mov (.tmp 35),none,[]⟩]) (.seq (.ops true [⟨some 36,.mov (.tmp 5),none,[]⟩,⟨some 37,.mov (.tmp 8),none,[]⟩,⟨some 38,.iaddr 1 (.tmp 36) (.tmp 37),none,[0,1]⟩,⟨some 39,.load none (.tmp 38),none,[2,0,1]⟩,⟨some 40,.mov (.tmp 5),none,[]⟩,⟨some 41,.mov (.tmp 9),none,[]⟩,⟨some 42,.iaddr 1 (.tmp 40) (.tmp 41),none,[4,5]⟩,⟨some 43,.load none (.tmp 42),none,[6,4,5]⟩,⟨some 10,.mov (.tmp 39),none,[3,2,0,1]⟩,⟨some 11,.mov (.tmp 43),none,[7,6,4,5,8,3,2,0,1]⟩]) (.seq (.ops false [⟨some 44,.mov (.tmp 5),none,[]⟩,⟨some 45,.mov (.tmp 8),none,[]⟩,⟨some 46,.mov (.tmp 11),none,[]⟩,⟨some 47,.iaddr 1 (.tmp 44) (.tmp 45),none,[]⟩,⟨none,.store 1 (.tmp 47) (.tmp 46),none,[]⟩]) (.ops false [⟨some 48,.mov (.tmp 5),none,[]⟩,⟨some 49,.mov (.tmp 9),none,[]⟩,⟨some 50,.mov (.tmp 10),none,[]⟩,⟨some 51,.iaddr 1 (.tmp 48) (.tmp 49),none,[]⟩,⟨none,.store 1 (.tmp 51) (.tmp 50),none,[]⟩])))))) (.ops false [⟨some 26,.mov (.tmp 8),none,[]⟩,⟨some 27,.bin .sub (.tmp 26) (.const (.int .i64 1)),none,[]⟩,⟨some 8,.mov (.tmp 27),none,[]⟩])))
def dk84_1 : Keep := ⟨[],[5,7,8],[5,19,20]⟩
def dc84 : DFunc := ⟨53,2,[.tmp 4],.seq (.ops false [⟨some 4,.mov (.const (.slice none 0 0)),none,[]⟩]) (.seq (.ops false [⟨some 5,.mov (.const (.slice none 0 0)),none,[]⟩]) (.seq (.seq (.ops false [⟨some 6,.mov (.const (.int .i64 0)),none,[]⟩]) (.block 0 (some ⟨[],[0,1,5],[5]⟩) (.loop dk84_0 db84_0))) (.seq (.ops false [⟨some 21,.mov (.tmp 0),none,[]⟩,⟨some 7,.mov (.tmp 21),none,[]⟩]) (.seq (.seq (.ops false [⟨some 22,.mov (.tmp 1),none,[]⟩,⟨some 23,.bin .sub (.tmp 22) (.const (.int .i64 1)),none,[]⟩,⟨some 8,.mov (.tmp 23),none,[]⟩]) (.block 2 (some ⟨[],[5],[5,19,20]⟩) (.loop dk84_1 db84_1))) (.seq (.ops false [⟨some 52,.mov (.tmp 5),none,[]⟩,⟨some 4,.mov (.tmp 52),none,[]⟩]) .ret)))))⟩
theorem dh84:cProg Go.Proofs.Tryz.prog ⟨[(0,⟨[(5,1)],[0,1,5,6],[5]⟩),(2,⟨[],[5,7,8],[5,19,20]⟩)],[(0,⟨[],[0,1,5],[5]⟩),(2,⟨[],[5],[5,19,20]⟩)],[19]⟩ 84=some dc84:=by kernel_rfl
end Sh

namespace Sh
open Go Go.Proofs
theorem l_told (l:List Std) (hl:l.length < 1073741824):PC 46 [.list (l.map encT)] (.list (l.map encT)):=by
 have e0:((l.map encT).length:Int)=l.length:=by simp
 refine pureCall_ofR dh46 rfl ?_
 conv=>whnf
 refine dwp_loopU (P:=Tryz.prog) (G:=GC) (k:=dk46_0) (b:=db46_0) (α:=Nat) (fun i=>[(3,.own 3 0 ((l.take i).map encT).length ((l.take i).map encT).length),(8,DV.int .i64 (i))]) (fun i=>[(3,.row 5 ((l.take i).map encT) false)]) (fun i=>i≤l.length) (fun i=>l.length - i) 0 (Nat.zero_le _) ?_
 conv=>whnf
 refine ⟨rfl,rfl,?_⟩
 conv=>whnf
 refine ⟨rfl,?_⟩
 intro i h1
 conv=>whnf
 refine ⟨fun hb=>?_,fun hb=>?_⟩
 ·have hi:i < l.length:=by simpa using hb
  clear hb
  have hs:(l.take (i+1)).map encT=(l.take i).map encT++[encT (l.getD i T0)]:=by rw [take_snoc l i T0 hi,List.map_append];rfl
  have hln:((l.take i).map encT).length=i:=by simp;omega
  generalize hR':(l.take (i+1)).map encT=R' at *
  generalize hR:(l.take i).map encT=R at *
  conv=>whnf
  rw [getD_enc _ _ (i) T0 hi]
  refine ⟨idxA hi rfl,?_⟩
  conv=>whnf
  refine ⟨⟨rfl,rfl,rfl,by rw [hln];simp;omega,fun e he=>by simp at he;subst he;rfl⟩,?_⟩
  conv=>whnf
  rw [wrap_succ i (by omega)]
  refine ⟨i+1,rfl,?_,?_,hi,by omega⟩
  ·rw [hR',hs];rfl
  ·rw [hR',hs];rfl
 ·have hi:i=l.length:=by have:=of_decide_eq_false hb;rw [e0] at this;omega
  clear hb
  rw [hi,List.take_length]
  conv=>whnf
  refine ⟨rfl,?_⟩
  rw [window_full]
  first|rfl|(show DV.list _=_;rfl)
theorem l_ints (l:List Int) (hl:l.length < 1073741824):PC 20 [iL l] (iL l):=by
 refine pureCall_ofR dh20 rfl ?_
 conv=>whnf
 refine ⟨⟨by simp;omega,fun e he=>iD_ok l e he,fun e he=>by simp at he⟩,?_⟩
 conv=>whnf
 rfl
end Sh

namespace Sh
open Go
end Sh

set_option maxHeartbeats 2000000
namespace Sh
open Go Go.Proofs
end Sh

namespace Sh
open Go
end Sh

set_option maxHeartbeats 4000000
namespace Sh
open Go Go.Proofs
theorem bo_eq (c:Crw) (l:List Std) (p:Int):firstE [chkCT c l,withE p 0 1000]=chkBo c l p:=by
 unfold chkBo chkCT
 simp only [firstE]
 by_cases h1:chkCr c≠0
 ·simp [h1]
 ·by_cases h2:chkStd l≠0
  ·simp [h1,h2]
  ·have h1:=Classical.not_not.1 h1
   have h2:=Classical.not_not.1 h2
   simp [h1,h2]
end Sh

namespace Sh
open Go
end Sh

namespace Sh
open Go Go.Proofs
end Sh

namespace Sh
open Go
def db13_0 : DC := (.seq (.ops false [⟨some 74,.bin .lss (.tmp 73) (.tmp 72),none,[]⟩]) (.seq (.cond (.tmp 74) .skip (.exit 0)) (.seq (.block 1 none (.seq (.ops false [⟨some 75,.mov (.tmp 73),none,[]⟩,⟨some 9,.mov (.tmp 75),none,[]⟩]) (.seq (.ops false [⟨some 76,.iaddrA 3 1 false (.tmp 5) (.const (.int .i64 1)),none,[]⟩,⟨some 77,.load none (.tmp 76),none,[]⟩,⟨some 78,.mov (.tmp 9),none,[]⟩,⟨some 79,.bin .shr (.tmp 77) (.tmp 78),none,[]⟩,⟨some 80,.bin .and (.tmp 79) (.const (.int .u16 1)),none,[]⟩,⟨some 81,.bin .eql (.tmp 80) (.const (.int .u16 1)),none,[]⟩]) (.cond (.tmp 81) (.ops false [⟨some 82,.mov (.tmp 7),none,[]⟩,⟨some 83,.mov (.tmp 9),none,[]⟩,⟨some 84,.lit true 1 1 (.int .i64 0) [(0,(.tmp 83))],none,[]⟩,⟨some 85,.append false 1 (.tmp 82) (.tmp 84),none,[]⟩,⟨some 7,.mov (.tmp 85),none,[]⟩]) .skip)))) (.ops false [⟨some 86,.bin .add (.tmp 73) (.const (.int .i64 1)),none,[]⟩,⟨some 73,.mov (.tmp 86),none,[]⟩]))))
def dk13_0 : Keep := ⟨[(7,1)],[1,3,5,7,8,72,73],[3,5,7,44,45,92,122,123]⟩
def db13_1 : DC := (.seq (.ops false [⟨some 96,.bin .lss (.tmp 95) (.tmp 94),none,[]⟩]) (.seq (.cond (.tmp 96) .skip (.exit 2)) (.seq (.block 3 none (.seq (.ops false [⟨some 97,.mov (.tmp 95),none,[]⟩,⟨some 98,.iaddr 1 (.tmp 93) (.tmp 95),none,[]⟩,⟨some 99,.load none (.tmp 98),none,[]⟩,⟨some 11,.mov (.tmp 97),none,[]⟩,⟨some 12,.mov (.tmp 99),none,[]⟩]) (.ops false [⟨some 100,.mov (.tmp 10),none,[]⟩,⟨some 101,.mov (.tmp 11),none,[]⟩,⟨some 102,.mov (.tmp 7),none,[]⟩,⟨some 103,.mov (.tmp 12),none,[]⟩,⟨some 104,.iaddr 1 (.tmp 102) (.tmp 103),none,[]⟩,⟨some 105,.load none (.tmp 104),none,[]⟩,⟨some 106,.iaddr 1 (.tmp 100) (.tmp 101),none,[]⟩,⟨none,.store 1 (.tmp 106) (.tmp 105),none,[]⟩]))) (.ops false [⟨some 107,.bin .add (.tmp 95) (.const (.int .i64 1)),none,[]⟩,⟨some 95,.mov (.tmp 107),none,[]⟩]))))
def dk13_1 : Keep := ⟨[],[1,3,5,7,8,10,93,94,95],[3,5,7,44,45,84,85,92,122,123]⟩
def db13_2 : DC := (.seq (.ops false [⟨some 111,.bin .lss (.tmp 110) (.tmp 109),none,[]⟩]) (.seq (.cond (.tmp 111) .skip (.exit 4)) (.seq (.block 5 none (.seq (.ops false [⟨some 112,.mov (.tmp 110),none,[]⟩,⟨some 13,.mov (.tmp 112),none,[]⟩]) (.ops false [⟨some 113,.mov (.tmp 8),none,[]⟩,⟨some 114,.mov (.tmp 10),none,[]⟩,⟨some 115,.mov (.tmp 10),none,[]⟩,⟨some 116,.len (.tmp 115),none,[]⟩,⟨some 117,.bin .sub (.tmp 116) (.const (.int .i64 1)),none,[]⟩,⟨some 118,.mov (.tmp 13),none,[]⟩,⟨some 119,.bin .sub (.tmp 117) (.tmp 118),none,[]⟩,⟨some 120,.iaddr 1 (.tmp 114) (.tmp 119),none,[]⟩,⟨some 121,.load none (.tmp 120),none,[]⟩,⟨some 122,.lit true 1 1 (.int .i64 0) [(0,(.tmp 121))],none,[]⟩,⟨some 123,.append false 1 (.tmp 113) (.tmp 122),none,[]⟩,⟨some 8,.mov (.tmp 123),none,[]⟩]))) (.ops false [⟨some 124,.bin .add (.tmp 110) (.const (.int .i64 1)),none,[]⟩,⟨some 110,.mov (.tmp 124),none,[]⟩]))))
def dk13_2 : Keep := ⟨[(8,1)],[1,3,5,7,8,10,109,110],[3,5,7,8,44,45,84,85,92]⟩
def db13_3 : DC := (.seq (.ops false [⟨some 192,.bin .lss (.tmp 191) (.tmp 190),none,[]⟩]) (.seq (.cond (.tmp 192) .skip (.exit 6)) (.seq (.block 7 none (.seq (.ops false [⟨some 193,.iaddr 1 (.tmp 189) (.tmp 191),none,[]⟩,⟨some 194,.load none (.tmp 193),none,[]⟩,⟨some 22,.mov (.tmp 194),none,[]⟩]) (.seq (.ops false [⟨some 195,.mov (.tmp 18),none,[]⟩,⟨some 196,.mov (.tmp 22),none,[]⟩,⟨some 197,.call (.func 83) [.tmp 195,.tmp 196],none,[]⟩,⟨some 198,.un .not (.tmp 197),none,[]⟩]) (.cond (.tmp 198) (.seq (.ops false [⟨some 6,.mov (.const (.bool false)),none,[]⟩]) .ret) .skip)))) (.ops false [⟨some 199,.bin .add (.tmp 191) (.const (.int .i64 1)),none,[]⟩,⟨some 191,.mov (.tmp 199),none,[]⟩]))))
def dk13_3 : Keep := ⟨[],[1,3,5,7,18,19,189,190,191],[3,5,7,44,45,84,85,92,122,123]⟩
def db13_4 : DC := (.seq (.ops false [⟨some 297,.bin .lss (.tmp 296) (.tmp 295),none,[]⟩]) (.seq (.cond (.tmp 297) .skip (.exit 8)) (.seq (.block 9 none (.seq (.ops false [⟨some 298,.iaddr 1 (.tmp 294) (.tmp 296),none,[]⟩,⟨some 299,.load none (.tmp 298),none,[]⟩,⟨some 39,.mov (.tmp 299),none,[]⟩]) (.ops true [⟨some 300,.mov (.tmp 36),none,[]⟩,⟨some 301,.mov (.tmp 1),none,[]⟩,⟨some 302,.mov (.tmp 39),none,[]⟩,⟨some 303,.iaddr 5 (.tmp 301) (.tmp 302),none,[1,2]⟩,⟨some 304,.faddr 3 1 false (.tmp 303),none,[3,1,2]⟩,⟨some 305,.load none (.tmp 304),none,[4,3,1,2]⟩,⟨some 306,.bin .add (.tmp 300) (.tmp 305),none,[0,5,4,3,1,2]⟩,⟨some 307,.mov (.tmp 37),none,[]⟩,⟨some 308,.mov (.tmp 1),none,[]⟩,⟨some 309,.mov (.tmp 39),none,[]⟩,⟨some 310,.iaddr 5 (.tmp 308) (.tmp 309),none,[8,9]⟩,⟨some 311,.faddr 4 1 false (.tmp 310),none,[10,8,9]⟩,⟨some 312,.load none (.tmp 311),none,[11,10,8,9]⟩,⟨some 313,.bin .add (.tmp 307) (.tmp 312),none,[7,12,11,10,8,9]⟩,⟨some 36,.mov (.tmp 306),none,[6,0,5,4,3,1,2]⟩,⟨some 37,.mov (.tmp 313),none,[13,7,12,11,10,8,9,14,6,0,5,4,3,1,2]⟩]))) (.ops false [⟨some 314,.bin .add (.tmp 296) (.const (.int .i64 1)),none,[]⟩,⟨some 296,.mov (.tmp 314),none,[]⟩]))))
def dk13_4 : Keep := ⟨[],[1,3,5,7,19,28,29,34,35,36,37,294,295,296],[3,5,7,44,45,84,85,92,122,123]⟩
def db13_5 : DC := (.seq (.ops false [⟨some 349,.bin .lss (.tmp 348) (.tmp 347),none,[]⟩]) (.seq (.cond (.tmp 349) .skip (.exit 10)) (.seq (.block 11 none (.seq (.ops false [⟨some 350,.iaddr 1 (.tmp 346) (.tmp 348),none,[]⟩,⟨some 351,.load none (.tmp 350),none,[]⟩,⟨some 43,.mov (.tmp 351),none,[]⟩]) (.ops true [⟨some 352,.mov (.tmp 40),none,[]⟩,⟨some 353,.mov (.tmp 1),none,[]⟩,⟨some 354,.mov (.tmp 43),none,[]⟩,⟨some 355,.iaddr 5 (.tmp 353) (.tmp 354),none,[1,2]⟩,⟨some 356,.faddr 3 1 false (.tmp 355),none,[3,1,2]⟩,⟨some 357,.load none (.tmp 356),none,[4,3,1,2]⟩,⟨some 358,.bin .add (.tmp 352) (.tmp 357),none,[0,5,4,3,1,2]⟩,⟨some 359,.mov (.tmp 41),none,[]⟩,⟨some 360,.mov (.tmp 1),none,[]⟩,⟨some 361,.mov (.tmp 43),none,[]⟩,⟨some 362,.iaddr 5 (.tmp 360) (.tmp 361),none,[8,9]⟩,⟨some 363,.faddr 4 1 false (.tmp 362),none,[10,8,9]⟩,⟨some 364,.load none (.tmp 363),none,[11,10,8,9]⟩,⟨some 365,.bin .add (.tmp 359) (.tmp 364),none,[7,12,11,10,8,9]⟩,⟨some 40,.mov (.tmp 358),none,[6,0,5,4,3,1,2]⟩,⟨some 41,.mov (.tmp 365),none,[13,7,12,11,10,8,9,14,6,0,5,4,3,1,2]⟩]))) (.ops false [⟨some 366,.bin .add (.tmp 348) (.const (.int .i64 1)),none,[]⟩,⟨some 348,.mov (.tmp 366),none,[]⟩]))))
def dk13_5 : Keep := ⟨[],[1,3,5,7,28,29,40,41,346,347,348],[3,5,7,44,45,84,85,92,122,123]⟩
def dc13 : DFunc := ⟨441,3,[.tmp 6],.seq (.ops false [⟨some 3,.boxI 4 (.tmp 0),none,[]⟩,⟨some 5,.boxI 3 (.tmp 2),none,[]⟩,⟨some 6,.mov (.const (.bool false)),none,[]⟩]) (.seq (.seq (.ops false [⟨some 52,.load (some 4) (.tmp 3),none,[]⟩,⟨some 53,.call (.func 49) [.tmp 52],none,[]⟩,⟨some 54,.bin .neq (.tmp 53) (.const (.int .i64 0)),none,[]⟩,⟨some 55,.mov (.tmp 54),none,[]⟩,⟨some 56,.mov (.tmp 1),some (55,false),[]⟩,⟨some 57,.call (.func 44) [.tmp 56],some (55,false),[]⟩,⟨some 58,.un .not (.tmp 57),some (55,false),[]⟩,⟨some 59,.pick (.tmp 55) (.const (.bool true)) (.tmp 58),none,[]⟩,⟨some 60,.mov (.tmp 59),none,[]⟩,⟨some 61,.mov (.tmp 1),some (60,false),[]⟩,⟨some 62,.len (.tmp 61),some (60,false),[]⟩,⟨some 63,.bin .gtr (.tmp 62) (.const (.int .i64 5)),some (60,false),[]⟩,⟨some 64,.pick (.tmp 60) (.const (.bool true)) (.tmp 63),none,[]⟩,⟨some 65,.mov (.tmp 64),none,[]⟩,⟨some 66,.mov (.tmp 1),some (65,false),[]⟩,⟨some 67,.call (.func 50) [.tmp 66],some (65,false),[]⟩,⟨some 68,.bin .neq (.tmp 67) (.const (.int .i64 0)),some (65,false),[]⟩,⟨some 69,.pick (.tmp 65) (.const (.bool true)) (.tmp 68),none,[]⟩]) (.cond (.tmp 69) (.seq (.ops false [⟨some 70,.call (.func 17) [],none,[]⟩,⟨some 6,.mov (.tmp 70),none,[]⟩]) .ret) .skip)) (.seq (.ops false [⟨some 7,.mov (.const (.slice none 0 0)),none,[]⟩,⟨some 8,.mov (.const (.slice none 0 0)),none,[]⟩]) (.seq (.seq (.ops false [⟨some 71,.mov (.tmp 1),none,[]⟩,⟨some 72,.len (.tmp 71),none,[]⟩,⟨some 73,.mov (.const (.int .i64 0)),none,[]⟩]) (.block 0 (some ⟨[],[1,3,5,7,8],[3,5,7,44,45,92,122,123]⟩) (.loop dk13_0 db13_0))) (.seq (.ops false [⟨some 87,.iaddrA 3 1 false (.tmp 5) (.const (.int .i64 0)),none,[]⟩,⟨some 88,.load none (.tmp 87),none,[]⟩,⟨some 89,.conv .i64 (.tmp 88),none,[]⟩,⟨some 90,.mov (.tmp 7),none,[]⟩,⟨some 91,.len (.tmp 90),none,[]⟩,⟨some 92,.call (.func 84) [.tmp 89,.tmp 91],none,[]⟩,⟨some 10,.mov (.tmp 92),none,[]⟩]) (.seq (.seq (.ops false [⟨some 93,.mov (.tmp 10),none,[]⟩,⟨some 94,.len (.tmp 93),none,[]⟩,⟨some 95,.mov (.const (.int .i64 0)),none,[]⟩]) (.block 2 (some ⟨[],[1,3,5,7,8,10],[3,5,7,44,45,84,85,92,122,123]⟩) (.loop dk13_1 db13_1))) (.seq (.seq (.ops false [⟨some 108,.mov (.tmp 10),none,[]⟩,⟨some 109,.len (.tmp 108),none,[]⟩,⟨some 110,.mov (.const (.int .i64 0)),none,[]⟩]) (.block 4 (some ⟨[],[1,3,5,7,8,10],[3,5,7,8,44,45,84,85,92]⟩) (.loop dk13_2 db13_2))) (.seq (.ops true [⟨some 126,.load (some 4) (.tmp 3),none,[]⟩,⟨some 127,.mov (.tmp 1),none,[]⟩,⟨some 128,.call (.func 46) [.tmp 127],none,[1]⟩,⟨some 129,.mov (.tmp 10),none,[]⟩,⟨some 130,.call (.func 20) [.tmp 129],none,[3,2,1]⟩,⟨some 131,.call (.func 45) [.tmp 126,.tmp 128,.tmp 130],none,[0,2,1,4,3]⟩,⟨some 125,.mov (.tmp 131),none,[5,0,2,1,4,3]⟩,⟨some 132,.extract (.tmp 125) 0,none,[6,5,0,2,1,4,3]⟩,⟨some 133,.extract (.tmp 125) 1,none,[6,5,0,2,1,4,3]⟩,⟨some 14,.mov (.tmp 132),none,[7,6,5,0,2,1,4,3]⟩,⟨some 15,.mov (.tmp 133),none,[8,6,5,0,2,1,4,3,9,7]⟩]) (.seq (.ops true [⟨some 135,.load (some 4) (.tmp 3),none,[]⟩,⟨some 136,.mov (.tmp 1),none,[]⟩,⟨some 137,.call (.func 46) [.tmp 136],none,[1]⟩,⟨some 138,.mov (.tmp 8),none,[]⟩,⟨some 139,.call (.func 45) [.tmp 135,.tmp 137,.tmp 138],none,[0,2,1,3]⟩,⟨some 134,.mov (.tmp 139),none,[4,0,2,1,3]⟩,⟨some 140,.extract (.tmp 134) 0,none,[5,4,0,2,1,3]⟩,⟨some 141,.extract (.tmp 134) 1,none,[5,4,0,2,1,3]⟩,⟨some 16,.mov (.tmp 140),none,[6,5,4,0,2,1,3]⟩,⟨some 17,.mov (.tmp 141),none,[7,5,4,0,2,1,3,8,6]⟩]) (.seq (.ops true [⟨some 143,.load (some 4) (.tmp 3),none,[]⟩,⟨some 144,.mov (.tmp 1),none,[]⟩,⟨some 145,.call (.func 46) [.tmp 144],none,[1]⟩,⟨some 146,.mov (.tmp 7),none,[]⟩,⟨some 147,.call (.func 20) [.tmp 146],none,[3,2,1]⟩,⟨some 148,.call (.func 47) [.tmp 143,.tmp 145,.tmp 147],none,[0,2,1,4,3]⟩,⟨some 142,.mov (.tmp 148),none,[5,0,2,1,4,3]⟩,⟨some 149,.extract (.tmp 142) 0,none,[6,5,0,2,1,4,3]⟩,⟨some 150,.extract (.tmp 142) 1,none,[6,5,0,2,1,4,3]⟩,⟨some 151,.extract (.tmp 142) 2,none,[6,5,0,2,1,4,3]⟩,⟨some 18,.mov (.tmp 149),none,[7,6,5,0,2,1,4,3]⟩,⟨some 19,.mov (.tmp 150),none,[8,6,5,0,2,1,4,3,10,7]⟩,⟨some 20,.mov (.tmp 151),none,[9,6,5,0,2,1,4,3,11,8,10,7]⟩]) (.seq (.seq (.ops false [⟨some 152,.mov (.tmp 15),none,[]⟩,⟨some 153,.bin .neq (.tmp 152) (.const (.int .i64 0)),none,[]⟩,⟨some 154,.mov (.tmp 153),none,[]⟩,⟨some 155,.mov (.tmp 17),some (154,false),[]⟩,⟨some 156,.bin .neq (.tmp 155) (.const (.int .i64 0)),some (154,false),[]⟩,⟨some 157,.pick (.tmp 154) (.const (.bool true)) (.tmp 156),none,[]⟩,⟨some 158,.mov (.tmp 157),none,[]⟩,⟨some 159,.mov (.tmp 20),some (158,false),[]⟩,⟨some 160,.bin .neq (.tmp 159) (.const (.int .i64 0)),some (158,false),[]⟩,⟨some 161,.pick (.tmp 158) (.const (.bool true)) (.tmp 160),none,[]⟩,⟨some 162,.mov (.tmp 161),none,[]⟩,⟨some 163,.mov (.tmp 14),some (162,false),[]⟩,⟨some 164,.mov (.tmp 16),some (162,false),[]⟩,⟨some 165,.bin .neq (.tmp 163) (.tmp 164),some (162,false),[]⟩,⟨some 166,.pick (.tmp 162) (.const (.bool true)) (.tmp 165),none,[]⟩,⟨some 167,.mov (.tmp 166),none,[]⟩,⟨some 168,.mov (.tmp 19),some (167,false),[]⟩,⟨some 169,.mov (.tmp 14),some (167,false),[]⟩,⟨some 170,.bin .gtr (.tmp 168) (.tmp 169),some (167,false),[]⟩,⟨some 171,.pick (.tmp 167) (.const (.bool true)) (.tmp 170),none,[]⟩,⟨some 172,.mov (.tmp 171),none,[]⟩,⟨some 173,.mov (.tmp 19),some (172,false),[]⟩,⟨some 174,.bin .lss (.tmp 173) (.const (.int .i64 0)),some (172,false),[]⟩,⟨some 175,.pick (.tmp 172) (.const (.bool true)) (.tmp 174),none,[]⟩,⟨some 176,.mov (.tmp 175),none,[]⟩,⟨some 177,.mov (.tmp 18),some (176,false),[]⟩,⟨some 178,.len (.tmp 177),some (176,false),[]⟩,⟨some 179,.mov (.tmp 7),some (176,false),[]⟩,⟨some 180,.len (.tmp 179),some (176,false),[]⟩,⟨some 181,.bin .neq (.tmp 178) (.tmp 180),some (176,false),[]⟩,⟨some 182,.pick (.tmp 176) (.const (.bool true)) (.tmp 181),none,[]⟩,⟨some 183,.mov (.tmp 182),none,[]⟩,⟨some 184,.mov (.tmp 1),some (183,false),[]⟩,⟨some 185,.mov (.tmp 18),some (183,false),[]⟩,⟨some 186,.call (.func 51) [.tmp 184,.tmp 185],some (183,false),[]⟩,⟨some 187,.bin .neq (.tmp 186) (.const (.int .i64 0)),some (183,false),[]⟩,⟨some 188,.pick (.tmp 183) (.const (.bool true)) (.tmp 187),none,[]⟩]) (.cond (.tmp 188) (.seq (.ops false [⟨some 6,.mov (.const (.bool false)),none,[]⟩]) .ret) .skip)) (.seq (.seq (.ops false [⟨some 189,.mov (.tmp 7),none,[]⟩,⟨some 190,.len (.tmp 189),none,[]⟩,⟨some 191,.mov (.const (.int .i64 0)),none,[]⟩]) (.block 6 (some ⟨[],[1,3,5,7,18,19],[3,5,7,44,45,84,85,92,122,123]⟩) (.loop dk13_3 db13_3))) (.seq (.ops true [⟨some 201,.load (some 4) (.tmp 3),none,[]⟩,⟨some 202,.mov (.tmp 1),none,[]⟩,⟨some 203,.call (.func 46) [.tmp 202],none,[1]⟩,⟨some 204,.mov (.tmp 18),none,[]⟩,⟨some 205,.call (.func 20) [.tmp 204],none,[3,2,1]⟩,⟨some 206,.call (.func 45) [.tmp 201,.tmp 203,.tmp 205],none,[0,2,1,4,3]⟩,⟨some 200,.mov (.tmp 206),none,[5,0,2,1,4,3]⟩,⟨some 207,.extract (.tmp 200) 0,none,[6,5,0,2,1,4,3]⟩,⟨some 208,.extract (.tmp 200) 1,none,[6,5,0,2,1,4,3]⟩,⟨some 23,.mov (.tmp 207),none,[7,6,5,0,2,1,4,3]⟩,⟨some 24,.mov (.tmp 208),none,[8,6,5,0,2,1,4,3,9,7]⟩]) (.seq (.seq (.ops false [⟨some 209,.mov (.tmp 24),none,[]⟩,⟨some 210,.bin .neq (.tmp 209) (.const (.int .i64 0)),none,[]⟩,⟨some 211,.mov (.tmp 210),none,[]⟩,⟨some 212,.mov (.tmp 23),some (211,false),[]⟩,⟨some 213,.mov (.tmp 19),some (211,false),[]⟩,⟨some 214,.bin .neq (.tmp 212) (.tmp 213),some (211,false),[]⟩,⟨some 215,.pick (.tmp 211) (.const (.bool true)) (.tmp 214),none,[]⟩]) (.cond (.tmp 215) (.seq (.ops false [⟨some 6,.mov (.const (.bool false)),none,[]⟩]) .ret) .skip)) (.seq (.seq (.ops false [⟨some 216,.mov (.tmp 7),none,[]⟩,⟨some 217,.len (.tmp 216),none,[]⟩,⟨some 218,.bin .gtr (.tmp 217) (.const (.int .i64 0)),none,[]⟩]) (.cond (.tmp 218) (.seq (.ops true [⟨some 220,.load (some 4) (.tmp 3),none,[]⟩,⟨some 221,.mov (.tmp 1),none,[]⟩,⟨some 222,.call (.func 46) [.tmp 221],none,[1]⟩,⟨some 223,.mov (.tmp 7),none,[]⟩,⟨some 224,.slice 1 (.tmp 223) (some (.const (.int .i64 1))) none none,none,[3]⟩,⟨some 225,.call (.func 20) [.tmp 224],none,[4,3,2,1]⟩,⟨some 226,.call (.func 47) [.tmp 220,.tmp 222,.tmp 225],none,[0,2,1,5,4,3]⟩,⟨some 219,.mov (.tmp 226),none,[6,0,2,1,5,4,3]⟩,⟨some 227,.extract (.tmp 219) 0,none,[7,6,0,2,1,5,4,3]⟩,⟨some 228,.extract (.tmp 219) 1,none,[7,6,0,2,1,5,4,3]⟩,⟨some 229,.extract (.tmp 219) 2,none,[7,6,0,2,1,5,4,3]⟩,⟨some 25,.mov (.tmp 227),none,[8,7,6,0,2,1,5,4,3]⟩,⟨some 26,.mov (.tmp 228),none,[9,7,6,0,2,1,5,4,3,11,8]⟩,⟨some 27,.mov (.tmp 229),none,[10,7,6,0,2,1,5,4,3,12,9,11,8]⟩]) (.seq (.ops false [⟨some 230,.mov (.tmp 27),none,[]⟩,⟨some 231,.bin .neq (.tmp 230) (.const (.int .i64 0)),none,[]⟩,⟨some 232,.mov (.tmp 231),none,[]⟩,⟨some 233,.mov (.tmp 26),some (232,false),[]⟩,⟨some 234,.mov (.tmp 19),some (232,false),[]⟩,⟨some 235,.bin .gtr (.tmp 233) (.tmp 234),some (232,false),[]⟩,⟨some 236,.pick (.tmp 232) (.const (.bool true)) (.tmp 235),none,[]⟩]) (.cond (.tmp 236) (.seq (.ops false [⟨some 6,.mov (.const (.bool false)),none,[]⟩]) .ret) .skip))) .skip)) (.seq (.ops true [⟨some 238,.load (some 4) (.tmp 3),none,[]⟩,⟨some 239,.mov (.tmp 1),none,[]⟩,⟨some 240,.call (.func 46) [.tmp 239],none,[1]⟩,⟨some 241,.call (.func 57) [.tmp 238,.tmp 240],none,[0,2,1]⟩,⟨some 237,.mov (.tmp 241),none,[3,0,2,1]⟩,⟨some 242,.extract (.tmp 237) 0,none,[4,3,0,2,1]⟩,⟨some 243,.extract (.tmp 237) 1,none,[4,3,0,2,1]⟩,⟨some 244,.extract (.tmp 237) 2,none,[4,3,0,2,1]⟩,⟨some 28,.mov (.tmp 242),none,[5,4,3,0,2,1]⟩,⟨some 29,.mov (.tmp 243),none,[6,4,3,0,2,1,8,5]⟩,⟨some 30,.mov (.tmp 244),none,[7,4,3,0,2,1,9,6,8,5]⟩]) (.seq (.ops true [⟨some 246,.load (some 4) (.tmp 3),none,[]⟩,⟨some 247,.mov (.tmp 1),none,[]⟩,⟨some 248,.call (.func 46) [.tmp 247],none,[1]⟩,⟨some 249,.iaddrA 3 1 false (.tmp 5) (.const (.int .i64 2)),none,[]⟩,⟨some 250,.load none (.tmp 249),none,[3]⟩,⟨some 251,.conv .i64 (.tmp 250),none,[4,3]⟩,⟨some 252,.bin .rem (.tmp 251) (.const (.int .i64 1001)),none,[5,4,3]⟩,⟨some 253,.call (.func 58) [.tmp 246,.tmp 248,.tmp 252],none,[0,2,1,6,5,4,3]⟩,⟨some 245,.mov (.tmp 253),none,[7,0,2,1,6,5,4,3]⟩,⟨some 254,.extract (.tmp 245) 0,none,[8,7,0,2,1,6,5,4,3]⟩,⟨some 255,.extract (.tmp 245) 1,none,[8,7,0,2,1,6,5,4,3]⟩,⟨some 31,.mov (.tmp 254),none,[9,8,7,0,2,1,6,5,4,3]⟩,⟨some 32,.mov (.tmp 255),none,[10,8,7,0,2,1,6,5,4,3,11,9]⟩]) (.seq (.seq (.ops false [⟨some 256,.mov (.tmp 30),none,[]⟩,⟨some 257,.bin .neq (.tmp 256) (.const (.int .i64 0)),none,[]⟩,⟨some 258,.mov (.tmp 257),none,[]⟩,⟨some 259,.mov (.tmp 32),some (258,false),[]⟩,⟨some 260,.bin .neq (.tmp 259) (.const (.int .i64 0)),some (258,false),[]⟩,⟨some 261,.pick (.tmp 258) (.const (.bool true)) (.tmp 260),none,[]⟩,⟨some 262,.mov (.tmp 261),none,[]⟩,⟨some 263,.mov (.tmp 28),some (262,false),[]⟩,⟨some 264,.len (.tmp 263),some (262,false),[]⟩,⟨some 265,.mov (.tmp 1),some (262,false),[]⟩,⟨some 266,.len (.tmp 265),some (262,false),[]⟩,⟨some 267,.bin .gtr (.tmp 264) (.tmp 266),some (262,false),[]⟩,⟨some 268,.pick (.tmp 262) (.const (.bool true)) (.tmp 267),none,[]⟩,⟨some 269,.mov (.tmp 268),none,[]⟩,⟨some 270,.mov (.tmp 1),some (269,false),[]⟩,⟨some 271,.mov (.tmp 28),some (269,false),[]⟩,⟨some 272,.call (.func 52) [.tmp 270,.tmp 271],some (269,false),[]⟩,⟨some 273,.bin .neq (.tmp 272) (.const (.int .i64 0)),some (269,false),[]⟩,⟨some 274,.pick (.tmp 269) (.const (.bool true)) (.tmp 273),none,[]⟩,⟨some 275,.mov (.tmp 274),none,[]⟩,⟨some 276,.mov (.tmp 29),some (275,false),[]⟩,⟨some 277,.bin .lss (.tmp 276) (.const (.int .i64 0)),some (275,false),[]⟩,⟨some 278,.pick (.tmp 275) (.const (.bool true)) (.tmp 277),none,[]⟩,⟨some 279,.mov (.tmp 278),none,[]⟩,⟨some 280,.mov (.tmp 29),some (279,false),[]⟩,⟨some 281,.mov (.tmp 31),some (279,false),[]⟩,⟨some 282,.bin .gtr (.tmp 280) (.tmp 281),some (279,false),[]⟩,⟨some 283,.pick (.tmp 279) (.const (.bool true)) (.tmp 282),none,[]⟩]) (.cond (.tmp 283) (.seq (.ops false [⟨some 6,.mov (.const (.bool false)),none,[]⟩]) .ret) .skip)) (.seq (.ops true [⟨some 285,.load (some 4) (.tmp 3),none,[]⟩,⟨some 286,.mov (.tmp 1),none,[]⟩,⟨some 287,.call (.func 46) [.tmp 286],none,[1]⟩,⟨some 288,.mov (.tmp 28),none,[]⟩,⟨some 289,.call (.func 20) [.tmp 288],none,[3,2,1]⟩,⟨some 290,.call (.func 47) [.tmp 285,.tmp 287,.tmp 289],none,[0,2,1,4,3]⟩,⟨some 284,.mov (.tmp 290),none,[5,0,2,1,4,3]⟩,⟨some 291,.extract (.tmp 284) 0,none,[6,5,0,2,1,4,3]⟩,⟨some 292,.extract (.tmp 284) 1,none,[6,5,0,2,1,4,3]⟩,⟨some 293,.extract (.tmp 284) 2,none,[6,5,0,2,1,4,3]⟩,⟨some 33,.mov (.tmp 291),none,[7,6,5,0,2,1,4,3]⟩,⟨some 34,.mov (.tmp 292),none,[8,6,5,0,2,1,4,3,10,7]⟩,⟨some 35,.mov (.tmp 293),none,[9,6,5,0,2,1,4,3,11,8,10,7]⟩]) (.seq (.ops false [⟨some 36,.mov (.const (.int .i64 0)),none,[]⟩,⟨some 37,.mov (.const (.int .i64 0)),none,[]⟩]) (.seq (.seq (.ops false [⟨some 294,.mov (.tmp 28),none,[]⟩,⟨some 295,.len (.tmp 294),none,[]⟩,⟨some 296,.mov (.const (.int .i64 0)),none,[]⟩]) (.block 8 (some ⟨[],[1,3,5,7,19,28,29,34,35,36,37],[3,5,7,44,45,84,85,92,122,123]⟩) (.loop dk13_4 db13_4))) (.seq (.seq (.ops false [⟨some 315,.mov (.tmp 35),none,[]⟩,⟨some 316,.bin .neq (.tmp 315) (.const (.int .i64 0)),none,[]⟩,⟨some 317,.mov (.tmp 316),none,[]⟩,⟨some 318,.mov (.tmp 37),some (317,false),[]⟩,⟨some 319,.faddr 2 1 false (.tmp 3),some (317,false),[]⟩,⟨some 320,.load none (.tmp 319),some (317,false),[]⟩,⟨some 321,.bin .gtr (.tmp 318) (.tmp 320),some (317,false),[]⟩,⟨some 322,.pick (.tmp 317) (.const (.bool true)) (.tmp 321),none,[]⟩,⟨some 323,.mov (.tmp 322),none,[]⟩,⟨some 324,.mov (.tmp 34),some (323,false),[]⟩,⟨some 325,.bin .lss (.tmp 324) (.const (.int .i64 0)),some (323,false),[]⟩,⟨some 326,.pick (.tmp 323) (.const (.bool true)) (.tmp 325),none,[]⟩,⟨some 327,.mov (.tmp 326),none,[]⟩,⟨some 328,.mov (.tmp 34),some (327,false),[]⟩,⟨some 329,.bin .gtr (.tmp 328) (.const (.int .i64 100000)),some (327,false),[]⟩,⟨some 330,.pick (.tmp 327) (.const (.bool true)) (.tmp 329),none,[]⟩,⟨some 331,.mov (.tmp 330),none,[]⟩,⟨some 332,.mov (.tmp 29),some (331,false),[]⟩,⟨some 333,.mov (.tmp 36),some (331,false),[]⟩,⟨some 334,.faddr 3 1 false (.tmp 3),some (331,false),[]⟩,⟨some 335,.load none (.tmp 334),some (331,false),[]⟩,⟨some 336,.mov (.tmp 34),some (331,false),[]⟩,⟨some 337,.bin .mul (.tmp 335) (.tmp 336),some (331,false),[]⟩,⟨some 338,.bin .sub (.tmp 333) (.tmp 337),some (331,false),[]⟩,⟨some 339,.bin .neq (.tmp 332) (.tmp 338),some (331,false),[]⟩,⟨some 340,.pick (.tmp 331) (.const (.bool true)) (.tmp 339),none,[]⟩]) (.cond (.tmp 340) (.seq (.ops false [⟨some 6,.mov (.const (.bool false)),none,[]⟩]) .ret) .skip)) (.seq (.ops false [⟨some 341,.faddr 3 1 false (.tmp 3),none,[]⟩,⟨some 342,.load none (.tmp 341),none,[]⟩,⟨some 343,.un .neg (.tmp 342),none,[]⟩,⟨some 344,.mov (.tmp 19),none,[]⟩,⟨some 345,.bin .mul (.tmp 343) (.tmp 344),none,[]⟩,⟨some 40,.mov (.tmp 345),none,[]⟩,⟨some 41,.mov (.const (.int .i64 0)),none,[]⟩]) (.seq (.seq (.ops false [⟨some 346,.mov (.tmp 7),none,[]⟩,⟨some 347,.len (.tmp 346),none,[]⟩,⟨some 348,.mov (.const (.int .i64 0)),none,[]⟩]) (.block 10 (some ⟨[],[1,3,5,7,28,29,40,41],[3,5,7,44,45,84,85,92,122,123]⟩) (.loop dk13_5 db13_5))) (.seq (.seq (.ops false [⟨some 367,.mov (.tmp 41),none,[]⟩,⟨some 368,.faddr 2 1 false (.tmp 3),none,[]⟩,⟨some 369,.load none (.tmp 368),none,[]⟩,⟨some 370,.bin .leq (.tmp 367) (.tmp 369),none,[]⟩,⟨some 371,.mov (.tmp 370),none,[]⟩,⟨some 372,.mov (.tmp 40),some (371,true),[]⟩,⟨some 373,.mov (.tmp 29),some (371,true),[]⟩,⟨some 374,.bin .gtr (.tmp 372) (.tmp 373),some (371,true),[]⟩,⟨some 375,.mov (.tmp 374),some (371,true),[]⟩,⟨some 376,.mov (.tmp 40),some (375,false),[]⟩,⟨some 377,.mov (.tmp 29),some (375,false),[]⟩,⟨some 378,.bin .eql (.tmp 376) (.tmp 377),some (375,false),[]⟩,⟨some 379,.mov (.tmp 378),some (375,false),[]⟩,⟨some 380,.mov (.tmp 7),some (379,true),[]⟩,⟨some 381,.len (.tmp 380),some (379,true),[]⟩,⟨some 382,.mov (.tmp 28),some (379,true),[]⟩,⟨some 383,.len (.tmp 382),some (379,true),[]⟩,⟨some 384,.bin .lss (.tmp 381) (.tmp 383),some (379,true),[]⟩,⟨some 385,.pick (.tmp 379) (.tmp 384) (.const (.bool false)),some (375,false),[]⟩,⟨some 386,.pick (.tmp 375) (.const (.bool true)) (.tmp 385),some (371,true),[]⟩,⟨some 387,.pick (.tmp 371) (.tmp 386) (.const (.bool false)),none,[]⟩]) (.cond (.tmp 387) (.seq (.ops false [⟨some 6,.mov (.const (.bool false)),none,[]⟩]) .ret) .skip)) (.seq (.ops true [⟨some 388,.load (some 4) (.tmp 3),none,[]⟩,⟨some 389,.load (some 4) (.tmp 3),none,[]⟩,⟨some 44,.alloc (.agg [.int .i64 0,.int .i64 0,.int .i64 0,.int .i64 0]) 4,none,[]⟩,⟨some 45,.alloc (.agg [.int .i64 0,.int .i64 0,.int .i64 0,.int .i64 0]) 4,none,[]⟩,⟨none,.store 4 (.tmp 44) (.tmp 388),none,[2,0,3]⟩,⟨none,.store 4 (.tmp 45) (.tmp 389),none,[3,1,4,2,0]⟩]) (.seq (.ops false [⟨some 390,.faddr 2 1 false (.tmp 3),none,[]⟩,⟨some 391,.load none (.tmp 390),none,[]⟩,⟨some 392,.iaddrA 3 1 false (.tmp 5) (.const (.int .i64 0)),none,[]⟩,⟨some 393,.load none (.tmp 392),none,[]⟩,⟨some 394,.conv .i64 (.tmp 393),none,[]⟩,⟨some 395,.bin .add (.tmp 391) (.tmp 394),none,[]⟩,⟨some 396,.minmax false (.const (.int .i64 10000)) [.tmp 395],none,[]⟩,⟨some 397,.faddr 2 1 false (.tmp 44),none,[]⟩,⟨none,.store 1 (.tmp 397) (.tmp 396),none,[]⟩]) (.seq (.ops false [⟨some 398,.faddr 3 1 false (.tmp 3),none,[]⟩,⟨some 399,.load none (.tmp 398),none,[]⟩,⟨some 400,.iaddrA 3 1 false (.tmp 5) (.const (.int .i64 1)),none,[]⟩,⟨some 401,.load none (.tmp 400),none,[]⟩,⟨some 402,.conv .i64 (.tmp 401),none,[]⟩,⟨some 403,.bin .add (.tmp 399) (.tmp 402),none,[]⟩,⟨some 404,.minmax false (.const (.int .i64 1000)) [.tmp 403],none,[]⟩,⟨some 405,.faddr 3 1 false (.tmp 45),none,[]⟩,⟨none,.store 1 (.tmp 405) (.tmp 404),none,[]⟩]) (.seq (.ops true [⟨some 407,.load (some 4) (.tmp 44),none,[]⟩,⟨some 408,.mov (.tmp 1),none,[]⟩,⟨some 409,.call (.func 46) [.tmp 408],none,[1]⟩,⟨some 410,.call (.func 57) [.tmp 407,.tmp 409],none,[0,2,1]⟩,⟨some 406,.mov (.tmp 410),none,[3,0,2,1]⟩,⟨some 411,.extract (.tmp 406) 0,none,[4,3,0,2,1]⟩,⟨some 412,.extract (.tmp 406) 1,none,[4,3,0,2,1]⟩,⟨some 413,.extract (.tmp 406) 2,none,[4,3,0,2,1]⟩,⟨some 46,.mov (.tmp 411),none,[5,4,3,0,2,1]⟩,⟨some 47,.mov (.tmp 412),none,[6,4,3,0,2,1,8,5]⟩,⟨some 48,.mov (.tmp 413),none,[7,4,3,0,2,1,9,6,8,5]⟩]) (.seq (.ops true [⟨some 415,.load (some 4) (.tmp 45),none,[]⟩,⟨some 416,.mov (.tmp 1),none,[]⟩,⟨some 417,.call (.func 46) [.tmp 416],none,[1]⟩,⟨some 418,.call (.func 57) [.tmp 415,.tmp 417],none,[0,2,1]⟩,⟨some 414,.mov (.tmp 418),none,[3,0,2,1]⟩,⟨some 419,.extract (.tmp 414) 0,none,[4,3,0,2,1]⟩,⟨some 420,.extract (.tmp 414) 1,none,[4,3,0,2,1]⟩,⟨some 421,.extract (.tmp 414) 2,none,[4,3,0,2,1]⟩,⟨some 49,.mov (.tmp 419),none,[5,4,3,0,2,1]⟩,⟨some 50,.mov (.tmp 420),none,[6,4,3,0,2,1,8,5]⟩,⟨some 51,.mov (.tmp 421),none,[7,4,3,0,2,1,9,6,8,5]⟩]) (.seq (.ops false [⟨some 422,.mov (.tmp 48),none,[]⟩,⟨some 423,.bin .eql (.tmp 422) (.const (.int .i64 0)),none,[]⟩,⟨some 424,.mov (.tmp 423),none,[]⟩,⟨some 425,.mov (.tmp 51),some (424,true),[]⟩,⟨some 426,.bin .eql (.tmp 425) (.const (.int .i64 0)),some (424,true),[]⟩,⟨some 427,.pick (.tmp 424) (.tmp 426) (.const (.bool false)),none,[]⟩,⟨some 428,.mov (.tmp 427),none,[]⟩,⟨some 429,.mov (.tmp 47),some (428,true),[]⟩,⟨some 430,.mov (.tmp 29),some (428,true),[]⟩,⟨some 431,.bin .geq (.tmp 429) (.tmp 430),some (428,true),[]⟩,⟨some 432,.pick (.tmp 428) (.tmp 431) (.const (.bool false)),none,[]⟩,⟨some 433,.mov (.tmp 432),none,[]⟩,⟨some 434,.mov (.tmp 50),some (433,true),[]⟩,⟨some 435,.mov (.tmp 29),some (433,true),[]⟩,⟨some 436,.bin .leq (.tmp 434) (.tmp 435),some (433,true),[]⟩,⟨some 437,.pick (.tmp 433) (.tmp 436) (.const (.bool false)),none,[]⟩,⟨some 438,.mov (.tmp 437),none,[]⟩,⟨some 439,.call (.func 17) [],some (438,true),[]⟩,⟨some 440,.pick (.tmp 438) (.tmp 439) (.const (.bool false)),none,[]⟩,⟨some 6,.mov (.tmp 440),none,[]⟩]) .ret))))))))))))))))))))))))))))))⟩
theorem dh13:cProg Go.Proofs.Tryz.prog ⟨[(0,⟨[(7,1)],[1,3,5,7,8,72,73],[3,5,7,44,45,92,122,123]⟩),(2,⟨[],[1,3,5,7,8,10,93,94,95],[3,5,7,44,45,84,85,92,122,123]⟩),(4,⟨[(8,1)],[1,3,5,7,8,10,109,110],[3,5,7,8,44,45,84,85,92]⟩),(6,⟨[],[1,3,5,7,18,19,189,190,191],[3,5,7,44,45,84,85,92,122,123]⟩),(8,⟨[],[1,3,5,7,19,28,29,34,35,36,37,294,295,296],[3,5,7,44,45,84,85,92,122,123]⟩),(10,⟨[],[1,3,5,7,28,29,40,41,346,347,348],[3,5,7,44,45,84,85,92,122,123]⟩)],[(0,⟨[],[1,3,5,7,8],[3,5,7,44,45,92,122,123]⟩),(2,⟨[],[1,3,5,7,8,10],[3,5,7,44,45,84,85,92,122,123]⟩),(4,⟨[],[1,3,5,7,8,10],[3,5,7,8,44,45,84,85,92]⟩),(6,⟨[],[1,3,5,7,18,19],[3,5,7,44,45,84,85,92,122,123]⟩),(8,⟨[],[1,3,5,7,19,28,29,34,35,36,37],[3,5,7,44,45,84,85,92,122,123]⟩),(10,⟨[],[1,3,5,7,28,29,40,41],[3,5,7,44,45,84,85,92,122,123]⟩)],[3,5,84,122]⟩ 13=some dc13:=by kernel_rfl
end Sh

namespace Sh
open Go Go.Proofs
def rngI (n:Nat):List Int:=(List.range n).map fun (j:Nat)=>(j:Int)
theorem rngI_succ (n:Nat):rngI (n+1)=rngI n++[(n:Int)]:=by unfold rngI;rw [List.range_succ,List.map_append];rfl
theorem rngI_len (n:Nat):(rngI n).length=n:=by unfold rngI;simp
def swapI (l:List Int) (i k:Nat):List Int:=(l.set i (l.getD k 0)).set k (l.getD i 0)
theorem swapI_perm (l:List Int) (i k:Nat) (hi:i < l.length) (hk:k < l.length):(swapI l i k).Perm l:=by
 unfold swapI
 have:=List.set_set_perm hi hk
 rwa [List.getD_eq_getElem?_getD,List.getD_eq_getElem?_getD,List.getElem?_eq_getElem hi,List.getElem?_eq_getElem hk]
def stepX (x:Int):Int:=(39373 * x+17) % 2147483647
def drawF:Nat→Int→List Int→List Int
 |0,_,out=>out
 |i+1,x,out=>drawF i (stepX x) (swapI out (i+1) (stepX x % ((i:Int)+2)).toNat)
theorem swapI_len (l:List Int) (i k:Nat):(swapI l i k).length=l.length:=by unfold swapI;rw [List.length_set,List.length_set]
theorem stepX_bd (x:Int):0≤stepX x∧stepX x≤2147483646:=by unfold stepX;omega
theorem drawF_perm:∀ (i:Nat) (x:Int) (out:List Int),i < out.length∨i=0→(drawF i x out).Perm out
 |0,_,out,_=>List.Perm.refl _
 |i+1,x,out,h=>by
  have h:i+1 < out.length:=by omega
  have:=stepX_bd x
  have h2:=Int.emod_lt_of_pos (stepX x) (show (0:Int) < (i:Int)+2 by omega)
  refine (drawF_perm i _ _ (.inl (by rw [swapI_len];omega))).trans (swapI_perm _ _ _ h (by omega))
def drawL (x:Int) (n:Nat):List Int:=drawF (n - 1) x (rngI n)
theorem drawL_perm (x:Int) (n:Nat):(drawL x n).Perm (rngI n):=drawF_perm _ _ _ (by rw [rngI_len];omega)
theorem h_Draw (x0:Int) (hx0:0≤x0) (hx1:x0≤2147483646) (n:Nat) (hn:n < 1073741824):HCall Tryz.prog GC 84 [DV.int .i64 (x0),DV.int .i64 ((n:Int))] [] (.own 5 0 n n) [(5,.row 1 (iD (drawL x0 n)) false)]:=by
 refine hCall_ofR dh84 rfl (by kernel_rfl) (by kernel_rfl) ?_
 conv=>whnf
 refine dwp_loopU (P:=Tryz.prog) (G:=GC) (k:=dk84_0) (b:=db84_0) (α:=Nat) (fun i=>[(5,.own 5 0 (iD (rngI i)).length (iD (rngI i)).length),(6,DV.int .i64 (i))]) (fun i=>[(5,.row 1 (iD (rngI i)) false)]) (fun i=>i≤n) (fun i=>n - i) 0 (Nat.zero_le _) ?_
 conv=>whnf
 refine ⟨rfl,rfl,?_⟩
 conv=>whnf
 refine ⟨rfl,?_⟩
 intro i h1
 have h1:i≤n:=h1
 conv=>whnf
 refine ⟨fun hb=>?_,fun hb=>?_⟩
 ·have hi:i < n:=by have:=of_decide_eq_true hb;omega
  clear hb
  have hs:=rngI_succ i
  have hln:(iD (rngI i)).length=i:=by rw [iD_len,rngI_len]
  have hd:iD (rngI (i+1))=iD (rngI i)++[DV.int .i64 ((i:Int))]:=by rw [hs,iD_app]
  generalize hR':iD (rngI (i+1))=R' at *
  generalize hR:iD (rngI i)=R at *
  conv=>whnf
  refine ⟨⟨rfl,rfl,rfl,by rw [hln];simp;omega,fun e he=>by simp at he;subst he;rfl⟩,?_⟩
  conv=>whnf
  rw [wrap_succ i (by omega)]
  refine ⟨i+1,rfl,?_,?_,hi,by omega⟩
  ·rw [hR',hd];rfl
  ·rw [hR',hd];rfl
 ·have hi:i=n:=by have:=of_decide_eq_false hb;omega
  subst hi
  clear hb
  conv=>whnf
  rw [show IntKind.i64.wrap ((i:Int) - 1)=(i:Int) - 1 from wrap_in (by omega) (by omega)]
  refine dwp_loopU (P:=Tryz.prog) (G:=GC) (k:=dk84_1) (b:=db84_1) (α:=Int×List Int×Int) (fun a=>[(7,DV.int .i64 (a.1)),(8,DV.int .i64 (a.2.2))]) (fun a=>[(5,.row 1 (iD a.2.1) false)]) (fun a=>0≤a.1∧a.1≤2147483646∧a.2.1.length=i ∧ -1≤a.2.2∧a.2.2 < i∧drawF a.2.2.toNat a.1 a.2.1=drawL x0 i) (fun a=>(a.2.2+1).toNat) (x0,rngI i,(i:Int) - 1) ⟨hx0,hx1,rngI_len i,by show -1≤(i:Int) - 1;omega,by show (i:Int) - 1 < i;omega,by show drawF ((i:Int) - 1).toNat x0 (rngI i)=drawL x0 i;rw [show ((i:Int) - 1).toNat=i - 1 by omega];rfl⟩ ?_
  conv=>whnf
  refine ⟨rfl,rfl,?_⟩
  conv=>whnf
  refine ⟨rfl,?_⟩
  intro ⟨x,out,j⟩ ⟨h2,h3,h4,h5,h6,h7⟩
  have h2:0≤x:=h2
  have h3:x≤2147483646:=h3
  have h4:out.length=i:=h4
  have h5 : -1≤j:=h5
  have h6:j < i:=h6
  have h7:drawF j.toNat x out=drawL x0 i:=h7
  have hlq:(iD (rngI i)).length=(iD out).length:=by rw [iD_len,iD_len,rngI_len,h4]
  have hln:((iD (rngI i)).length:Int)=i:=by rw [iD_len,rngI_len]
  conv=>whnf
  refine ⟨fun hb=>?_,fun hb=>?_⟩
  ·have hj:1≤j:=of_decide_eq_true hb
   clear hb
   obtain ⟨m,rfl⟩:∃ m:Nat,j=(m:Int)+1:=⟨(j - 1).toNat,by omega⟩
   have hb1:=stepX_bd x
   have hk0:=Int.emod_nonneg (stepX x) (show (m:Int)+2≠0 by omega)
   have hk1:=Int.emod_lt_of_pos (stepX x) (show (0:Int) < (m:Int)+2 by omega)
   obtain ⟨K,hK⟩:∃ K:Nat,stepX x % ((m:Int)+2)=K:=⟨(stepX x % ((m:Int)+2)).toNat,by omega⟩
   have h8:drawF m (stepX x) (swapI out (m+1) K)=drawL x0 i:=by
    rw [← h7,show ((m:Int)+1).toNat=m+1 by omega]
    show _=drawF m (stepX x) (swapI out (m+1) (stepX x % ((m:Int)+2)).toNat)
    rw [hK];rfl
   have e1:(39373 * x+17).tmod 2147483647=stepX x:=by unfold stepX;rw [Int.tmod_eq_emod_of_nonneg (by omega)]
   have e2:(stepX x).tmod ((m:Int)+2)=K:=by rw [Int.tmod_eq_emod_of_nonneg (by omega),hK]
   conv=>whnf
   rw [wrap_in (n:=39373 * x) (by omega) (by omega),wrap_in (n:=39373 * x+17) (by omega) (by omega),e1]
   refine ⟨by decide,?_⟩
   conv=>whnf
   rw [show IntKind.i64.wrap ((m:Int)+1+1)=(m:Int)+2 by rw [wrap_in (by omega) (by omega)];omega,e2]
   refine ⟨by first|(show ((m:Int)+2)≠0;omega)|(show IntKind.i64.wrap ((m:Int)+1+1)≠0;rw [wrap_in (by omega) (by omega)];omega),?_⟩
   conv=>whnf
   have g1:=iD_get out (m+1) (by omega)
   have g2:=iD_get out K (by omega)
   refine ⟨⟨hlq,by show 0≤(m:Int)+1;omega,by show (m:Int)+1 < _;rw [hln];omega⟩,?_⟩
   rw [show ((m:Int)+1).toNat=m+1 by omega]
   conv=>whnf
   rw [show (iD (x,out,(m:Int)+1).2.1).getD (0+(m+1)) .undef=DV.int .i64 (out.getD (m+1) 0) by rw [Nat.zero_add];exact g1]
   refine ⟨⟨hlq,by decide⟩,?_⟩
   conv=>whnf
   refine ⟨⟨hlq,by omega,by rw [hln];omega⟩,?_⟩
   rw [Int.toNat_natCast]
   conv=>whnf
   rw [show (iD (x,out,(m:Int)+1).2.1).getD (0+K) .undef=DV.int .i64 (out.getD K 0) by rw [Nat.zero_add];exact g2]
   refine ⟨⟨hlq,by decide⟩,?_⟩
   conv=>whnf
   refine ⟨by kernel_rfl,?_⟩
   conv=>whnf
   refine ⟨⟨hlq,by show 0≤(m:Int)+1;omega,by show (m:Int)+1 < _;rw [hln];omega⟩,?_⟩
   rw [show ((m:Int)+1).toNat=m+1 by omega]
   conv=>whnf
   refine ⟨⟨hlq,by decide,rfl⟩,?_⟩
   conv=>whnf
   have hl2:∀ v,(iD (rngI i)).length=((iD (x,out,(m:Int)+1).2.1).set (0+(m+1)) v).length:=fun v=>by rw [List.length_set];exact hlq
   refine ⟨⟨hl2 _,by omega,by rw [hln];omega⟩,?_⟩
   rw [Int.toNat_natCast]
   conv=>whnf
   refine ⟨⟨hl2 _,by decide,rfl⟩,?_⟩
   conv=>whnf
   rw [show IntKind.i64.wrap ((m:Int)+1 - 1)=(m:Int) by rw [wrap_in (by omega) (by omega)];omega]
   have hset:∀ v w,v=(DV.int .i64 (out.getD K 0))→w=(DV.int .i64 (out.getD (m+1) 0))→((iD out).set (0+(m+1)) v).set (0+K) w=iD (swapI out (m+1) K):=fun v w hv hw=>by
    rw [hv,hw,Nat.zero_add,Nat.zero_add,iD_set,iD_set];rfl
   refine ⟨(stepX x,swapI out (m+1) K,(m:Int)),rfl,rfl,?_,⟨hb1.1,hb1.2,by rw [swapI_len];exact h4,by show -1≤(m:Int);omega,by show (m:Int) < i;omega,by rw [← h8];rfl⟩,by show ((m:Int)+1).toNat < ((m:Int)+1+1).toNat;omega⟩
   show [(5,DObj.row 1 (((iD out).set (0+(m+1)) _).set (0+K) _) false)]=_
   refine congrArg (fun r=>[(5,DObj.row 1 r false)]) (hset _ _ ?_ ?_)<;>rfl
  ·have hj:¬ 1≤j:=of_decide_eq_false hb
   clear hb
   rw [show j.toNat=0 by omega] at h7
   have h7:out=drawL x0 i:=h7
   subst h7
   conv=>whnf
   rw [show (iD (rngI i)).length=i by rw [iD_len,rngI_len]]
   exact ⟨rfl,rfl⟩
end Sh

namespace Sh
open Go
theorem bitsF_inc (b:Nat):∀ n:Nat,Inc n (-1) (bitsF b n)
 |0=>trivial
 |n+1=>by
  rw [bitsF_succ]
  split
  ·exact inc_append (bitsF_inc b n) (by omega)
  ·exact inc_up (bitsF_inc b n)
theorem chkWs_of_inc {n:Nat}:∀ {l:List Int} {lo:Int},Inc n lo l → -1≤lo→chkWs n lo l=0
 |[],_,_,_=>rfl
 |x :: r,lo,h,h0=>by
  have h1:=h.1
  have h2:=h.2.1
  unfold chkWs
  rw [if_neg (by omega),if_neg (by omega)]
  exact chkWs_of_inc h.2.2 (by omega)
theorem sumW_snocI (l:List Std) (a:List Int) (x:Int):sumW l (a++[x])=sumW l a+(l.getD x.toNat T0).worth:=by
 unfold sumW;rw [List.map_append,sumI_append,List.map_singleton,sumI_one]
theorem sumV_snocI (l:List Std) (a:List Int) (x:Int):sumV l (a++[x])=sumV l a+(l.getD x.toNat T0).water:=by
 unfold sumV;rw [List.map_append,sumI_append,List.map_singleton,sumI_one]
def mixF (f:Int→Int) (l:List Int) (i:Nat):List Int:=(l.take i).map f++l.drop i
theorem mixF_len (f:Int→Int) (l:List Int) (i:Nat):(mixF f l i).length=l.length:=by unfold mixF;simp;omega
theorem mixF_get (f:Int→Int) (l:List Int) (i:Nat) (h:i < l.length):(mixF f l i).getD i 0=l.getD i 0:=by
 unfold mixF
 have hl:((l.take i).map f).length=i:=by simp;omega
 rw [List.getD_eq_getElem?_getD,List.getElem?_append_right (by omega),hl,Nat.sub_self,List.getElem?_drop,Nat.add_zero,← List.getD_eq_getElem?_getD]
theorem mixF_succ (f:Int→Int) (l:List Int) (i:Nat) (h:i < l.length):mixF f l (i+1)=(mixF f l i).set i (f (l.getD i 0)):=by
 unfold mixF
 have hl:((l.take i).map f).length=i:=by simp;omega
 rw [take_snoc l i 0 h,List.map_append,drop_getD l i 0 h,List.set_append_right _ _ (by omega),hl,Nat.sub_self]
 simp
theorem mixF_all (f:Int→Int) (l:List Int):mixF f l l.length=l.map f:=by unfold mixF;simp
theorem rev_get (l:List Int) (i:Nat) (h:i < l.length):l.reverse.getD i 0=l.getD (l.length - 1 - i) 0:=by
 rw [List.getD_eq_getElem?_getD,List.getD_eq_getElem?_getD,List.getElem?_reverse h]
theorem rounds_best {c:Crw} (hc:OkCr c) {l:List Std} {st:List Int} (hi:Inc l.length (-1) st) (hw:sumV l st≤c.tank) :
  ¬ ((chosenS c l).worth < sumW l st - c.price * (shortS c l st).2)∧(sumW l st - c.price * (shortS c l st).2=(chosenS c l).worth→¬ st.length < (chosenS c l).idx.length):=by
 have h:=(chosen_spec hc l).2.1 st hi hw
 rw [leP_iff] at h
 have e1:(rndS c l st).worth=sumW l st - c.price * (shortS c l st).2:=rfl
 have e2:(rndS c l st).idx=st:=rfl
 rw [e1,e2] at h
 omega
theorem chosen_round {c:Crw} (hc:OkCr c) (l:List Std):Inc l.length (-1) (chosenS c l).idx∧sumV l (chosenS c l).idx≤c.tank∧(chosenS c l).worth=sumW l (chosenS c l).idx - c.price * (shortS c l (chosenS c l).idx).2:=by
 obtain ⟨⟨set,h1,h2,h3⟩,_,_⟩:=chosen_spec hc l
 rw [h3]
 exact ⟨h1,h2,rfl⟩
end Sh

set_option maxHeartbeats 8000000
namespace Sh
open Go Go.Proofs
theorem chkO_ok {n:Nat}:∀ (o seen:List Int),(∀ x ∈ o,0≤x∧x < n)→(seen++o).Nodup→chkO n seen o=0
 |[],_,_,_=>rfl
 |x :: r,seen,h,hd=>by
  have h1:=h x (List.mem_cons_self ..)
  have h2:x ∉ seen:=fun hm=>by
   have:=(List.nodup_append.1 hd).2.2 x hm x (List.mem_cons_self ..)
   exact this rfl
  have h3:oE n x seen=0:=by unfold oE;rw [if_neg (by omega),if_neg h2]
  unfold chkO
  rw [h3,if_neg (by decide)]
  exact chkO_ok r _ (fun y hy=>h y (List.mem_cons_of_mem _ hy)) (by rw [List.append_assoc];exact hd)
theorem shr16 (b i:Nat) (h:i≤12):shrI .u16 (b:Int) (i:Int)=((b / 2 ^ i:Nat):Int):=by
 unfold shrI
 rw [Int.toNat_natCast,show min i IntKind.u16.bits=i from Nat.min_eq_left (by show i≤16;omega),Int.fdiv_eq_ediv_of_nonneg _ (Int.pow_nonneg (by decide)),Int.natCast_ediv,Int.natCast_pow]
 rfl
theorem and16 (x:Nat):andI .u16 (x:Int) 1=((x % 2:Nat):Int):=by
 unfold andI
 have h1:(BitVec.ofInt IntKind.u16.bits (x:Int) &&& BitVec.ofInt IntKind.u16.bits 1).toNat=x % 2:=by
  show (BitVec.ofInt 16 (x:Int) &&& BitVec.ofInt 16 1).toNat=x % 2
  rw [BitVec.ofInt_natCast,BitVec.toNat_and,show (BitVec.ofInt 16 1).toNat=1 from by decide,Nat.and_one_is_mod,BitVec.toNat_ofNat]
  omega
 rw [h1]
 rcases Nat.mod_two_eq_zero_or_one x with h|h<;>rw [h]<;>rfl
theorem chkCr_of {c:Crw} (hp:chkPt c.depot=0) (t0:0≤c.tank) (t1:c.tank≤10000) (p0:0≤c.price) (p1:c.price≤1000):chkCr c=0:=by
 unfold chkCr withE
 rw [hp,if_neg (by omega),if_neg (by omega)]
 rfl
theorem short_far {c:Crw} {l:List Std} {set:List Int} (hc:OkCr c) (hl:∀ s ∈ l,OkStd s) (h5:l.length≤5) (hs:SetOk l.length set):0≤(shortS c l set).2∧(shortS c l set).2≤24000:=by
 have h:=shortS_spec hc hl hs.inr
 have h2:=wayS_bd hc hl (o:=(shortS c l set).1) (fun i hi=>hs.inr i (h.perm.subset hi))
 have h3:=h.perm.length_eq
 have h4:=hs.len
 rw [h.way] at h2
 have:=h.nn
 omega
theorem l_WashCrews (aw:PC 17 [] (.bool true)) (c:Crw) (l:List Std) (hU:l.length≤9223372036854775807) (n:Int×Int×Int) (hN:(0≤n.1∧n.1≤65535)∧(0≤n.2.1∧n.2.1≤65535)∧(0≤n.2.2∧n.2.2≤65535)):PC 13 [encC c,tsV l,.agg [.int .u16 n.1,.int .u16 n.2.1,.int .u16 n.2.2]] (.bool true):=by
 obtain ⟨n0,n1,n2⟩:=n
 obtain ⟨⟨p0,q0⟩,⟨p1,q1⟩,⟨p2,q2⟩⟩:=hN
 dsimp only at p0 q0 p1 q1 p2 q2
 show PC _ [encC c,tsV l,.agg [.int .u16 n0,.int .u16 n1,.int .u16 n2]] _
 obtain ⟨z1,rfl⟩:=Int.eq_ofNat_of_zero_le p1
 have e0:((l.map encT).length:Int)=l.length:=by simp
 have kS:PC 44 [tsV l] _:=r_ShortStandsU l hU
 have kC:=r_CheckCrew c
 by_cases h1:chkCr c=0
 case neg =>
  generalize chkCr c=E at *
  refine pureCall_ofR dh13 rfl ?_
  conv=>whnf
  repeat' (first
   |(refine ⟨fun hg=>?_,fun hg=>?_⟩<;>first|contradiction|(replace hg:=of_decide_eq_true hg;first|(exfalso;omega;done)|(conv=>whnf))|(replace hg:=of_decide_eq_false hg;first|(exfalso;omega;done)|(conv=>whnf))|(skip;conv=>whnf)|(conv=>whnf))
   |(refine Or.inl ?_;conv=>whnf)
   |(refine ⟨_,kS ..,?_⟩;conv=>whnf)
   |(refine ⟨_,kC ..,?_⟩;conv=>whnf)
   |(refine ⟨_,aw ..,?_⟩;conv=>whnf)
   |(refine And.intro ?_ ?_;kernel_rfl;conv=>whnf))
  all_goals rfl
 case pos =>
 have hcr:=chkCr_zero h1
 rw [h1] at kC
 by_cases hsh:ShortStandsB l=true
 case neg =>
  have hsh:ShortStandsB l=false:=by simpa using hsh
  rw [hsh] at kS
  refine pureCall_ofR dh13 rfl ?_
  conv=>whnf
  repeat' (first
   |(refine ⟨fun hg=>?_,fun hg=>?_⟩<;>first|contradiction|(replace hg:=of_decide_eq_true hg;first|(exfalso;omega;done)|(conv=>whnf))|(replace hg:=of_decide_eq_false hg;first|(exfalso;omega;done)|(conv=>whnf))|(skip;conv=>whnf)|(conv=>whnf))
   |(refine Or.inl ?_;conv=>whnf)
   |(refine ⟨_,kS ..,?_⟩;conv=>whnf)
   |(refine ⟨_,kC ..,?_⟩;conv=>whnf)
   |(refine ⟨_,aw ..,?_⟩;conv=>whnf)
   |(refine And.intro ?_ ?_;kernel_rfl;conv=>whnf))
  all_goals rfl
 case pos =>
 rw [hsh] at kS
 by_cases hl5:(5:Int) < ((l.map encT).length:Int)
 case pos =>
  refine pureCall_ofR dh13 rfl ?_
  conv=>whnf
  repeat' (first
   |(refine ⟨fun hg=>?_,fun hg=>?_⟩<;>first|contradiction|(replace hg:=of_decide_eq_true hg;first|(exfalso;omega;done)|(conv=>whnf))|(replace hg:=of_decide_eq_false hg;first|(exfalso;omega;done)|(conv=>whnf))|(skip;conv=>whnf)|(conv=>whnf))
   |(refine Or.inl ?_;conv=>whnf)
   |(refine ⟨_,kS ..,?_⟩;conv=>whnf)
   |(refine ⟨_,kC ..,?_⟩;conv=>whnf)
   |(refine ⟨_,aw ..,?_⟩;conv=>whnf)
   |(refine And.intro ?_ ?_;kernel_rfl;conv=>whnf))
  all_goals rfl
 case neg =>
 obtain ⟨hl9,hnm⟩:=ShortStandsB_spec hsh
 have hnm:∀ s ∈ l,s.name.length < 1073741824:=fun s hs=>by have:=hnm s hs;omega
 have kT:=r_CheckStands l (by omega) hnm
 by_cases h2:chkStd l=0
 case neg =>
  generalize chkStd l=E at *
  refine pureCall_ofR dh13 rfl ?_
  conv=>whnf
  repeat' (first
   |(refine ⟨fun hg=>?_,fun hg=>?_⟩<;>first|contradiction|(replace hg:=of_decide_eq_true hg;first|(exfalso;omega;done)|(conv=>whnf))|(replace hg:=of_decide_eq_false hg;first|(exfalso;omega;done)|(conv=>whnf))|(skip;conv=>whnf)|(conv=>whnf))
   |(refine Or.inl ?_;conv=>whnf)
   |(refine ⟨_,kS ..,?_⟩;conv=>whnf)
   |(refine ⟨_,kC ..,?_⟩;conv=>whnf)
   |(refine ⟨_,kT ..,?_⟩;conv=>whnf)
   |(refine ⟨_,aw ..,?_⟩;conv=>whnf)
   |(refine And.intro ?_ ?_;kernel_rfl;conv=>whnf))
  all_goals rfl
 case pos =>
 have h2k:=h2
 rw [h2] at kT
 have hl5n:l.length≤5:=by omega
 obtain ⟨_,hls⟩:=chkStd_zero h2k
 have hCT:chkCT c l=0:=by unfold chkCT;rw [h1,h2];rfl
 have a1:PC 46 [tsV l] (tsV l):=l_told l (by omega)
 generalize hst:bitsF z1 l.length=st at *
 have hinc:Inc l.length (-1) st:=by rw [← hst];exact bitsF_inc z1 _
 have hso:=setOk_of hinc
 have hstl:st.length≤5:=by have:=hso.len;omega
 have hDep:chkPt c.depot=0:=firstE_mem h1 _ (by simp)
 have hSO:∀ (c':Crw),chkCT c' l=0→∀ set,Inc l.length (-1) set→chkSO c' l set=0:=fun c' h set hi=>by
  unfold chkSO;rw [h,if_neg (by decide)];exact chkWs_of_inc hi (by omega)
 have hOO:∀ o:List Int,(∀ x ∈ o,0≤x∧x < (l.length:Int))→o.Nodup→chkOO c l o=0:=fun o h hd=>by
  unfold chkOO;rw [hCT,if_neg (by decide)];exact chkO_ok o [] h hd
 have hS:=shortS_spec hcr hls hso.inr
 have hfar:=short_far hcr hls hl5n hso
 have b3:=c_Shortest c l st (by omega) hnm (by omega)
 rw [hSO c hCT st hinc,optW_z] at b3
 have hbest:=rounds_best hcr hinc
 have i2:=l_ints st (by omega)
 have b5:0 < st.length→∃ less:List Int×Int,less.2≤(shortS c l st).2∧PC 47 [encC c,tsV l,iL (st.drop 1)] (.tuple [iL less.1,DV.int .i64 (less.2),DV.int .i64 (0)]):=fun h0=>by
  cases hc:st with
  |nil=>rw [hc] at h0;cases h0
  |cons x r =>
   have hir:Inc l.length (-1) r:=by rw [hc] at hinc;exact inc_weak hinc.2.2 (by have:=hinc.1;omega)
   have hsr:=shortS_spec (c:=c) hcr hls (setOk_of hir).inr
   have k:=c_Shortest c l r (by omega) hnm (by have:=(setOk_of hir).len;omega)
   rw [hSO c hCT r hir,optW_z] at k
   rw [hc] at hS
   exact ⟨shortS c l r,short_less hS hsr,k⟩
 have i4:=l_ints (st.drop 1) (by rw [List.length_drop];omega)
 have hcS:=hS.perm
 have hwS:=hS.way
 have hnS:=hS.nn
 have hlS:=hS.least
 clear hS
 generalize shortS c l st=B at *
 obtain ⟨B1,B2⟩:=B
 dsimp only at hcS hwS hnS hlS b5 hbest hfar
 have b3:PC 47 [encC c,tsV l,iL st] (.tuple [iL B1,DV.int .i64 (B2),DV.int .i64 (0)]):=b3
 have hBl:B1.length=st.length:=hcS.length_eq
 have hBin:∀ x ∈ B1,0≤x∧x < (l.length:Int):=fun x hx=>hso.inr x (hcS.subset hx)
 have hBnd:B1.Nodup:=hcS.nodup_iff.2 hso.nd
 have c3:=r_CheckOrder l B1 (by omega) (by omega)
 rw [chkO_ok B1 [] hBin hBnd] at c3
 have i3:=l_ints B1 (by omega)
 have b4:=c_Way c l B1 (by omega) hnm (by omega)
 rw [hOO B1 hBin hBnd,optI_z,hwS] at b4
 have b6:=c_Chosen c l (by omega) hnm
 rw [hCT,optW_z] at b6
 obtain ⟨r1,r2,r3⟩:=chosen_round hcr l
 have hV0:=(chosen_spec hcr l).2.2
 obtain ⟨p9,hp9⟩:∃ p9:Int,n2.tmod 1001=p9:=⟨_,rfl⟩
 have p90:0≤p9∧p9≤1000:=by rw [Int.tmod_eq_emod_of_nonneg (by omega)] at hp9;omega
 have b7:=c_Bound c l p9 (by omega) hnm
 have hbo:chkBo c l p9=0:=by
  rw [← bo_eq,hCT]
  unfold withE
  rw [if_neg (by omega)]
  rfl
 rw [hbo,optI_z] at b7
 have hVb:=bound_le hcr hls p90.1
 have b9:=c_Chosen ⟨c.depot,min 10000 (c.tank+n0),c.price⟩ l (by omega) hnm
 have b10:=c_Chosen ⟨c.depot,c.tank,min 1000 (c.price+z1)⟩ l (by omega) hnm
 have ht0:=hcr.t0
 have ht1:=hcr.t1
 have hp0:=hcr.p0
 have hp1:=hcr.p1
 have g9:chkCr ⟨c.depot,min 10000 (c.tank+n0),c.price⟩=0:=chkCr_of hDep (by show 0≤min 10000 (c.tank+n0);omega) (by show min 10000 (c.tank+n0)≤10000;omega) hp0 hp1
 have g10:chkCr ⟨c.depot,c.tank,min 1000 (c.price+z1)⟩=0:=chkCr_of hDep ht0 ht1 (by show 0≤min 1000 (c.price+z1);omega) (by show min 1000 (c.price+z1)≤1000;omega)
 have hV9:=chosen_tank hcr (chkCr_zero g9) l rfl rfl (by show c.tank≤min 10000 (c.tank+n0);omega)
 have hV10:=chosen_price hcr (chkCr_zero g10) hls rfl rfl (by show c.price≤min 1000 (c.price+z1);omega)
 rw [show chkCT ⟨c.depot,min 10000 (c.tank+n0),c.price⟩ l=0 by unfold chkCT;rw [g9,h2];rfl,optW_z] at b9
 rw [show chkCT ⟨c.depot,c.tank,min 1000 (c.price+z1)⟩ l=0 by unfold chkCT;rw [g10,h2];rfl,optW_z] at b10
 generalize chosenS ⟨c.depot,min 10000 (c.tank+n0),c.price⟩ l=CA at *
 generalize chosenS ⟨c.depot,c.tank,min 1000 (c.price+z1)⟩ l=CB at *
 generalize chosenS c l=CH at *
 obtain ⟨R,V⟩:=CH
 dsimp only at b6 r1 r2 r3 hV0 hVb hV9 hV10 hbest
 have hRo:=setOk_of r1
 have hRl:R.length≤5:=by have:=hRo.len;omega
 have c4:=r_CheckSet l R (by omega) (by omega)
 rw [chkWs_of_inc r1 (by omega)] at c4
 have i5:=l_ints R (by omega)
 have b8:=c_Shortest c l R (by omega) hnm (by omega)
 rw [hSO c hCT R r1,optW_z] at b8
 have hF:=short_far hcr hls hl5n hRo
 generalize shortS c l R=FF at *
 obtain ⟨F1,F⟩:=FF
 dsimp only at r3 hF
 have b8:PC 47 [encC c,tsV l,iL R] (.tuple [iL F1,DV.int .i64 (F),DV.int .i64 (0)]):=b8
 have hRin:=hRo.inr
 rw [← min_min 10000 (c.tank+n0)] at b9
 rw [← min_min 1000 (c.price+(z1:Int))] at b10
 refine pureCall_ofR dh13 rfl ?_
 conv=>whnf
 repeat' (first
  |(refine ⟨fun hg=>?_,fun hg=>?_⟩<;>first|contradiction|(replace hg:=of_decide_eq_true hg;first|(exfalso;omega;done)|(conv=>whnf))|(replace hg:=of_decide_eq_false hg;first|(exfalso;omega;done)|(conv=>whnf))|(skip;conv=>whnf)|(conv=>whnf))
  |(refine Or.inl ?_;conv=>whnf)
  |(refine ⟨_,kS ..,?_⟩;conv=>whnf)
  |(refine ⟨_,kC ..,?_⟩;conv=>whnf)
  |(refine ⟨_,kT ..,?_⟩;conv=>whnf)
  |(refine And.intro ?_ ?_;kernel_rfl;conv=>whnf))
 rw [e0]
 refine dwp_loopU (P:=Tryz.prog) (G:=GC) (k:=dk13_0) (b:=db13_0) (α:=Nat) (fun i=>[(7,.own 7 0 (iD (bitsF z1 i)).length (iD (bitsF z1 i)).length),(73,DV.int .i64 (i))]) (fun i=>[(7,.row 1 (iD (bitsF z1 i)) false)]) (fun i=>i≤l.length) (fun i=>l.length - i) 0 (Nat.zero_le _) ?_
 conv=>whnf
 refine ⟨rfl,rfl,?_⟩
 conv=>whnf
 refine ⟨rfl,?_⟩
 intro i h3
 have h3:i≤l.length:=h3
 conv=>whnf
 refine ⟨fun hb=>?_,fun hb=>?_⟩
 ·have hi:i < l.length:=by have:=of_decide_eq_true hb;omega
  clear hb
  have hs:=bitsF_succ z1 i
  have hln:=bitsF_len z1 i
  conv=>whnf
  refine ⟨⟨by decide,by decide,rfl,rfl⟩,?_⟩
  conv=>whnf
  refine ⟨by omega,?_⟩
  rw [shr16 z1 i (by omega)]
  conv=>whnf
  rw [and16]
  conv=>whnf
  refine ⟨fun hg=>?_,fun hg=>?_⟩
  ·have hg:(((z1 / 2 ^ i) % 2:Nat):Int)=1:=of_decide_eq_true hg
   rw [if_pos (by omega)] at hs
   have hd:iD (bitsF z1 (i+1))=iD (bitsF z1 i)++[DV.int .i64 ((i:Int))]:=by rw [hs,iD_app]
   have hlk:(iD (bitsF z1 i)).length≤i:=by rw [iD_len];exact hln
   generalize hR':iD (bitsF z1 (i+1))=R' at *
   generalize hR:iD (bitsF z1 i)=R at *
   conv=>whnf
   refine ⟨⟨rfl,rfl,rfl,by simp;omega,fun e he=>by simp at he;subst he;rfl⟩,?_⟩
   conv=>whnf
   rw [wrap_succ i (by omega)]
   refine ⟨i+1,rfl,?_,?_,hi,by omega⟩
   ·rw [hR',hd];rfl
   ·rw [hR',hd];rfl
  ·have hg:¬ (((z1 / 2 ^ i) % 2:Nat):Int)=1:=of_decide_eq_false hg
   rw [if_neg (by omega)] at hs
   conv=>whnf
   rw [wrap_succ i (by omega)]
   refine ⟨i+1,rfl,by rw [hs];rfl,by rw [hs];rfl,hi,by omega⟩
 ·have hi:i=l.length:=by have:=of_decide_eq_false hb;omega
  clear hb
  rw [hi,hst]
  have hNl:(iD st).length=st.length:=iD_len st
  generalize hN:(iD st).length=N at *
  have hD:=h_Draw n0 p0 (by omega) N (by omega)
  have hdp:=drawL_perm n0 N
  generalize drawL n0 N=D at *
  have hDl:D.length=N:=by rw [hdp.length_eq,rngI_len]
  have hDin:∀ x ∈ D,0≤x∧x < (N:Int):=fun x hx=>by
   obtain ⟨j,hj,rfl⟩:=List.mem_map.1 (hdp.subset hx)
   have:=List.mem_range.1 hj
   omega
  conv=>whnf
  refine ⟨⟨by decide,by decide,rfl,rfl⟩,?_⟩
  conv=>whnf
  refine ⟨hN.symm,?_⟩
  conv=>whnf
  rw [wrap_in (n:=n0) (by omega) (by omega)]
  refine .inr ⟨[(5,92)],_,_,_,_,hD,⟨rfl,by kernel_rfl,?_,?_⟩,?_⟩
  ·exact trivial
  ·exact ⟨.inr rfl,trivial⟩
  conv=>whnf
  have hlq0:N=(iD D).length:=by rw [iD_len,hDl]
  refine ⟨hlq0,?_⟩
  conv=>whnf
  refine dwp_loopU (P:=Tryz.prog) (G:=GC) (k:=dk13_1) (b:=db13_1) (α:=Nat) (fun i=>[(95,DV.int .i64 (i))]) (fun i=>[(7,.row 1 (iD st) false),(92,.row 1 (iD (mixF (fun k=>st.getD k.toNat 0) D i)) false)]) (fun i=>i≤N) (fun i=>N - i) 0 (Nat.zero_le _) ?_
  conv=>whnf
  refine ⟨rfl,rfl,?_⟩
  conv=>whnf
  refine ⟨rfl,?_⟩
  intro i h4
  have h4:i≤N:=h4
  have hlq:∀ i,N=(iD (mixF (fun k=>st.getD k.toNat 0) D i)).length:=fun i=>by rw [iD_len,mixF_len,hDl]
  conv=>whnf
  refine ⟨fun hb=>?_,fun hb=>?_⟩
  ·have hi:i < N:=by have:=of_decide_eq_true hb;omega
   clear hb
   have hgx:(iD (mixF (fun k=>st.getD k.toNat 0) D i)).getD i .undef=DV.int .i64 (D.getD i 0):=by rw [iD_get _ _ (by rw [mixF_len];omega),mixF_get _ _ _ (by omega)]
   have hDi:=hDin _ (getD_in 0 (by omega:i < D.length))
   have hsu:=mixF_succ (fun k=>st.getD k.toNat 0) D i (by omega)
   obtain ⟨K,hK⟩:∃ K:Nat,D.getD i 0=(K:Int):=⟨(D.getD i 0).toNat,by omega⟩
   rw [hK] at hDi hgx hsu
   have g2:=iD_get st K (by omega)
   conv=>whnf
   refine ⟨⟨hlq i,by omega,by omega⟩,?_⟩
   rw [Int.toNat_natCast,Nat.zero_add]
   conv=>whnf
   rw [hgx]
   refine ⟨⟨hlq i,by decide⟩,?_⟩
   conv=>whnf
   refine ⟨⟨hN.symm,by omega,by omega⟩,?_⟩
   rw [Int.toNat_natCast,Nat.zero_add]
   conv=>whnf
   rw [g2]
   refine ⟨⟨hN.symm,by decide⟩,?_⟩
   conv=>whnf
   refine ⟨⟨hlq i,by omega,by omega⟩,?_⟩
   rw [Int.toNat_natCast,Nat.zero_add]
   conv=>whnf
   refine ⟨⟨hlq i,by decide,rfl⟩,?_⟩
   conv=>whnf
   rw [wrap_succ i (by omega)]
   have hset:∀ v,v=(DV.int .i64 (st.getD K 0))→(iD (mixF (fun k=>st.getD k.toNat 0) D i)).set i v=iD (mixF (fun k=>st.getD k.toNat 0) D (i+1)):=fun v hv=>by
    rw [hv,iD_set,hsu];rfl
   refine ⟨i+1,rfl,rfl,?_,hi,by omega⟩
   show [(7,DObj.row 1 (iD st) false),(92,DObj.row 1 ((iD (mixF (fun k=>st.getD k.toNat 0) D i)).set i _) false)]=_
   refine congrArg (fun r=>[(7,DObj.row 1 (iD st) false),(92,DObj.row 1 r false)]) (hset _ ?_)
   rfl
  ·have hi:i=N:=by have:=of_decide_eq_false hb;omega
   clear hb
   have hma:mixF (fun k=>st.getD k.toNat 0) D i=D.map fun k=>st.getD k.toNat 0:=by rw [hi,← hDl];exact mixF_all _ _
   have hper:(D.map fun k=>st.getD k.toNat 0).Perm st:=by
    refine (hdp.map _).trans (List.Perm.of_eq ?_)
    unfold rngI
    rw [List.map_map]
    have:=rng_list st 0
    unfold rng at this
    rw [hNl]
    exact this
   rw [hma]
   clear hlq hlq0 hD hdp hDin hma
   generalize hO:(D.map fun k=>st.getD k.toNat 0)=O at *
   clear hO hDl
   have hOl:O.length=N:=by rw [hper.length_eq];omega
   have hlqO:N=(iD O).length:=by rw [iD_len,hOl]
   conv=>whnf
   refine ⟨hlqO,?_⟩
   conv=>whnf
   refine dwp_loopU (P:=Tryz.prog) (G:=GC) (k:=dk13_2) (b:=db13_2) (α:=Nat) (fun i=>[(8,.own 8 0 (iD (O.reverse.take i)).length (iD (O.reverse.take i)).length),(110,DV.int .i64 (i))]) (fun i=>[(7,.row 1 (iD st) false),(8,.row 1 (iD (O.reverse.take i)) false),(92,.row 1 (iD O) false)]) (fun i=>i≤N) (fun i=>N - i) 0 (Nat.zero_le _) ?_
   conv=>whnf
   refine ⟨rfl,rfl,?_⟩
   conv=>whnf
   refine ⟨rfl,?_⟩
   intro i h5
   have h5:i≤N:=h5
   conv=>whnf
   refine ⟨fun hb=>?_,fun hb=>?_⟩
   ·have hi:i < N:=by have:=of_decide_eq_true hb;omega
    clear hb
    have hrl:O.reverse.length=N:=by rw [List.length_reverse,hOl]
    have hd:=iD_take O.reverse i (by omega)
    have hlk:=iD_take_len O.reverse i (by omega)
    have hg:=rev_get O i (by omega)
    have g1:=iD_get O (O.length - 1 - i) (by omega)
    rw [← hg] at g1
    generalize hR':iD (O.reverse.take (i+1))=R' at *
    generalize hR:iD (O.reverse.take i)=R at *
    conv=>whnf
    refine ⟨hlqO,?_⟩
    conv=>whnf
    rw [wrap_in (n:=(N:Int) - 1) (by omega) (by omega),wrap_in (n:=(N:Int) - 1 - (i:Int)) (by omega) (by omega)]
    refine ⟨⟨hlqO,by omega,by omega⟩,?_⟩
    rw [show ((N:Int) - 1 - (i:Int)).toNat=O.length - 1 - i by omega,Nat.zero_add]
    conv=>whnf
    rw [g1]
    refine ⟨⟨hlqO,by decide⟩,?_⟩
    conv=>whnf
    refine ⟨⟨rfl,rfl,rfl,by rw [hlk];simp;omega,fun e he=>by simp at he;subst he;rfl⟩,?_⟩
    conv=>whnf
    rw [wrap_succ i (by omega)]
    refine ⟨i+1,rfl,?_,?_,hi,by omega⟩
    ·rw [hR',hd];rfl
    ·rw [hR',hd];rfl
   ·have hi:i=N:=by have:=of_decide_eq_false hb;omega
    clear hb
    have hrt:O.reverse.take i=O.reverse:=by rw [List.take_of_length_le (by rw [List.length_reverse];omega)]
    rw [hrt]
    have hrl:(iD O.reverse).length=N:=by rw [iD_len,List.length_reverse,hOl]
    rw [hrl]
    have hOin:∀ x ∈ O,0≤x∧x < (l.length:Int):=fun x hx=>hso.inr x (hper.subset hx)
    have hOnd:O.Nodup:=hper.nodup_iff.2 hso.nd
    have b1:=c_Way c l O (by omega) hnm (by omega)
    rw [hOO O hOin hOnd,optI_z] at b1
    have b2:=c_Way c l O.reverse (by omega) hnm (by rw [List.length_reverse];omega)
    rw [hOO O.reverse (fun x hx=>hOin x (List.mem_reverse.1 hx)) ((List.reverse_perm O).nodup_iff.2 hOnd),optI_z,wayS_rev] at b2
    have i1:=l_ints O (by omega)
    have hWA:=hlS O hper
    generalize wayS c l O=WA at *
    have hwO:window (iD O) 0 N=iD O:=by rw [hlqO];exact window_full _
    have hwR:window (iD O.reverse) 0 N=iD O.reverse:=by rw [← hrl];exact window_full _
    have hwS:window (iD st) 0 N=iD st:=by rw [← hN];exact window_full _
    conv=>whnf
    refine .inl ?_
    conv=>whnf
    refine ⟨_,a1 ..,?_⟩
    conv=>whnf
    refine .inl ?_
    conv=>whnf
    rw [hwO]
    refine ⟨hlqO,_,i1,?_⟩
    conv=>whnf
    refine .inl ?_
    conv=>whnf
    refine ⟨_,b1 ..,?_⟩
    conv=>whnf
    refine ⟨by kernel_rfl,?_⟩
    conv=>whnf
    refine .inl ?_
    conv=>whnf
    refine ⟨_,a1 ..,?_⟩
    conv=>whnf
    refine .inl ?_
    conv=>whnf
    rw [hwR]
    refine ⟨hrl.symm,_,b2,?_⟩
    conv=>whnf
    refine ⟨by kernel_rfl,?_⟩
    conv=>whnf
    refine .inl ?_
    conv=>whnf
    refine ⟨_,a1 ..,?_⟩
    conv=>whnf
    refine .inl ?_
    conv=>whnf
    rw [hwS]
    refine ⟨hN.symm,_,i2,?_⟩
    conv=>whnf
    refine .inl ?_
    conv=>whnf
    refine ⟨_,b3 ..,?_⟩
    conv=>whnf
    refine ⟨by kernel_rfl,?_⟩
    conv=>whnf
    have y1:decide (WA≠WA)=false:=by simp
    have y2:decide (WA < B2)=false:=decide_eq_false (by omega)
    have y3:decide (B2 < 0)=false:=decide_eq_false (by omega)
    have y4:decide (((B1.map (DV.int .i64)).length:Int)≠(N:Int))=false:=by rw [List.length_map];exact decide_eq_false (by omega)
    repeat' (first
     |(rw [y1];conv=>whnf)
     |(rw [y2];conv=>whnf)
     |(rw [y3];conv=>whnf)
     |(rw [y4];conv=>whnf)
     |(refine ⟨fun hg=>?_,fun hg=>?_⟩<;>first|contradiction|(exfalso;revert hg;simp;done)|(exfalso;exact absurd (of_decide_eq_true hg) (by assumption))|(exfalso;exact absurd (by assumption) (of_decide_eq_false hg))|(conv=>whnf))
     |(refine Or.inl ?_;conv=>whnf)
     |(refine ⟨hN.symm,?_⟩;conv=>whnf)
     |(refine ⟨_,c3,?_⟩;conv=>whnf)
     |(refine And.intro ?_ ?_;kernel_rfl;conv=>whnf))
    refine dwp_loopU (P:=Tryz.prog) (G:=GC) (k:=dk13_3) (b:=db13_3) (α:=Nat) (fun i=>[(191,DV.int .i64 (i))]) (fun i=>[(7,.row 1 (iD st) true),(92,.row 1 (iD O) true)]) (fun i=>i≤N) (fun i=>N - i) 0 (Nat.zero_le _) ?_
    conv=>whnf
    refine ⟨rfl,rfl,?_⟩
    conv=>whnf
    refine ⟨rfl,?_⟩
    intro i h6
    have h6:i≤N:=h6
    conv=>whnf
    refine ⟨fun hb=>?_,fun hb=>?_⟩
    ·have hi:i < N:=by have:=of_decide_eq_true hb;omega
     clear hb
     have g2:=iD_get st i (by omega)
     have kH:=q_HasInt B1 (st.getD i 0) (by omega)
     rw [decide_eq_true (hcS.mem_iff.2 (getD_in 0 (by omega)))] at kH
     conv=>whnf
     refine ⟨⟨hN.symm,by omega,by omega⟩,?_⟩
     rw [Int.toNat_natCast,Nat.zero_add]
     conv=>whnf
     rw [g2]
     refine ⟨⟨hN.symm,by decide⟩,?_⟩
     conv=>whnf
     refine .inl ?_
     conv=>whnf
     refine ⟨_,kH ..,?_⟩
     conv=>whnf
     repeat' (first
      |(refine ⟨fun hg=>?_,fun hg=>?_⟩<;>first|contradiction|(exfalso;revert hg;simp;done)|(exfalso;exact absurd (of_decide_eq_true hg) (by assumption))|(exfalso;exact absurd (by assumption) (of_decide_eq_false hg))|(conv=>whnf))
      |(refine Or.inl ?_;conv=>whnf)
      |(refine And.intro ?_ ?_;kernel_rfl;conv=>whnf))
     rw [wrap_succ i (by omega)]
     exact ⟨i+1,rfl,rfl,rfl,hi,by omega⟩
    ·have hi:i=N:=by have:=of_decide_eq_false hb;omega
     clear hb
     conv=>whnf
     refine .inl ?_
     conv=>whnf
     refine ⟨_,a1 ..,?_⟩
     conv=>whnf
     refine .inl ?_
     conv=>whnf
     refine ⟨_,i3 ..,?_⟩
     conv=>whnf
     refine .inl ?_
     conv=>whnf
     refine ⟨_,b4 ..,?_⟩
     conv=>whnf
     refine ⟨by kernel_rfl,?_⟩
     conv=>whnf
     have y7:decide (((l.map encT).length:Int) < ((R.map (DV.int .i64)).length:Int))=false:=by rw [List.length_map,List.length_map];have:=hRo.len;exact decide_eq_false (by omega)
     have y8:decide (V < 0)=false:=decide_eq_false (by omega)
     have y9:decide (boundS c l p9 < V)=false:=decide_eq_false (by omega)
     have y5:decide (B2≠B2)=false:=by simp
     repeat' (first
      |(rw [y5];conv=>whnf)
      |(refine ⟨fun hg=>?_,fun hg=>?_⟩<;>first|contradiction|(exfalso;revert hg;simp;done)|(exfalso;exact absurd (of_decide_eq_true hg) (by assumption))|(exfalso;exact absurd (by assumption) (of_decide_eq_false hg))|(conv=>whnf))
      |(refine Or.inl ?_;conv=>whnf)
      |(refine ⟨hN.symm,?_⟩;conv=>whnf)
      |(refine ⟨_,a1,?_⟩;conv=>whnf)
      |(refine And.intro ?_ ?_;kernel_rfl;conv=>whnf))
     ·rename_i hg
      have hg:(0:Int) < (N:Int):=of_decide_eq_true hg
      obtain ⟨⟨L1,L2⟩,hL,b5⟩:=b5 (by omega)
      have hL:L2≤B2:=hL
      have hwT:window (iD st) (0+Int.toNat 1) ((N:Int) - 1).toNat=iD (st.drop 1):=by
       unfold window iD
       rw [← List.map_drop,← List.map_take]
       rw [List.take_of_length_le (by rw [List.length_drop];show st.length - 1≤_;omega)]
       rfl
      refine ⟨⟨hN.symm,by decide,by omega,by omega⟩,?_⟩
      conv=>whnf
      refine .inl ?_
      conv=>whnf
      rw [hwT]
      refine ⟨hN.symm,_,i4,?_⟩
      conv=>whnf
      refine .inl ?_
      conv=>whnf
      refine ⟨_,b5 ..,?_⟩
      conv=>whnf
      refine ⟨by kernel_rfl,?_⟩
      conv=>whnf
      have y6:decide (B2 < L2)=false:=decide_eq_false (by omega)
      repeat' (first
       |(rw [y6];conv=>whnf)
       |(refine ⟨fun hg=>?_,fun hg=>?_⟩<;>first|contradiction|(exfalso;revert hg;simp;done)|(exfalso;exact absurd (of_decide_eq_true hg) (by assumption))|(exfalso;exact absurd (by assumption) (of_decide_eq_false hg))|(conv=>whnf))
       |(refine Or.inl ?_;conv=>whnf)
       |(refine ⟨_,a1,?_⟩;conv=>whnf)
       |(refine And.intro ?_ ?_;kernel_rfl;conv=>whnf))
      refine ⟨_,b6,?_⟩
      conv=>whnf
      refine ⟨by kernel_rfl,?_⟩
      conv=>whnf
      refine .inl ?_
      conv=>whnf
      refine ⟨_,a1 ..,?_⟩
      conv=>whnf
      refine ⟨⟨by decide,by decide,rfl,rfl⟩,?_⟩
      conv=>whnf
      rw [wrap_in (n:=n2) (by omega) (by omega)]
      refine ⟨by decide,?_⟩
      rw [hp9]
      conv=>whnf
      refine .inl ?_
      conv=>whnf
      refine ⟨_,b7 ..,?_⟩
      conv=>whnf
      refine ⟨by kernel_rfl,?_⟩
      conv=>whnf
      have hPF0:=Int.mul_nonneg hp0 hF.1
      have hPF1:c.price * F≤1000 * 24000:=Int.mul_le_mul hp1 hF.2 hF.1 (by decide)
      have hPB0:=Int.mul_nonneg hp0 hfar.1
      have hPB1:c.price * B2≤1000 * 24000:=Int.mul_le_mul hp1 hfar.2 hfar.1 (by decide)
      have hsR:=sumW_bd hls hRin
      have y10:decide (c.tank < sumV l R)=false:=decide_eq_false (by omega)
      have y11:decide (F < 0)=false:=decide_eq_false (by omega)
      have y12:decide (100000 < F)=false:=decide_eq_false (by omega)
      have y13:decide (V≠IntKind.i64.wrap (sumW l R - IntKind.i64.wrap (c.price * F)))=false:=by
       rw [wrap_in (n:=c.price * F) (by omega) (by omega),wrap_in (n:=sumW l R - c.price * F) (by omega) (by omega),← r3];simp
      have hneg:IntKind.i64.wrap (IntKind.i64.wrap (-c.price) * B2)=sumW l (st.take 0) - c.price * B2:=by
       rw [wrap_in (n := -c.price) (by omega) (by omega),Int.neg_mul,wrap_in (n := -(c.price * B2)) (by omega) (by omega)]
       show _=0 - _
       omega
      repeat' (first
       |(rw [y7];conv=>whnf)
       |(rw [y8];conv=>whnf)
       |(rw [y9];conv=>whnf)
       |(refine ⟨fun hg=>?_,fun hg=>?_⟩<;>first|contradiction|(exfalso;revert hg;simp;done)|(exfalso;exact absurd (of_decide_eq_true hg) (by assumption))|(exfalso;exact absurd (by assumption) (of_decide_eq_false hg))|(conv=>whnf))
       |(refine Or.inl ?_;conv=>whnf)
       |(refine ⟨_,c4,?_⟩;conv=>whnf)
       |(refine ⟨_,a1,?_⟩;conv=>whnf)
       |(refine ⟨_,i5,?_⟩;conv=>whnf)
       |(refine ⟨_,b8,?_⟩;conv=>whnf)
       |(refine And.intro ?_ ?_;kernel_rfl;conv=>whnf))
      refine dwp_loopU (P:=Tryz.prog) (G:=GC) (k:=dk13_4) (b:=db13_4) (α:=Nat) (fun i=>[(36,DV.int .i64 (sumW l (R.take i))),(37,DV.int .i64 (sumV l (R.take i))),(296,DV.int .i64 (i))]) (fun i=>[(7,.row 1 (iD st) true),(92,.row 1 (iD O) true)]) (fun i=>i≤R.length) (fun i=>R.length - i) 0 (Nat.zero_le _) ?_
      conv=>whnf
      refine ⟨rfl,rfl,?_⟩
      conv=>whnf
      refine ⟨rfl,?_⟩
      intro i h7
      have h7:i≤R.length:=h7
      conv=>whnf
      refine ⟨fun hb=>?_,fun hb=>?_⟩
      ·have hi:i < R.length:=by have:=of_decide_eq_true hb;rw [List.length_map] at this;omega
       clear hb
       have hRi:=hRin _ (getD_in 0 hi)
       have hsw:=sumW_snocI l (R.take i) (R.getD i 0)
       have hsv:=sumV_snocI l (R.take i) (R.getD i 0)
       rw [← take_snoc R i 0 hi] at hsw hsv
       have hbd:=sumW_bd hls (a:=R.take i) (fun x hx=>hRin x (List.mem_of_mem_take hx))
       have htl:(R.take i).length≤5:=by rw [List.length_take];omega
       conv=>whnf
       rw [getD_enc _ _ i 0 hi]
       refine ⟨idxA hi rfl,?_⟩
       obtain ⟨K,hK⟩:∃ K:Nat,R.getD i 0=(K:Int):=⟨(R.getD i 0).toNat,by omega⟩
       rw [hK,Int.toNat_natCast] at hsw hsv
       have hKl:K < l.length:=by omega
       have hok:=hls _ (getD_in T0 hKl)
       have hv0:=hok.v0
       have hv1:=hok.v1
       have hw0:=hok.w0
       have hw1:=hok.w1
       rw [hK]
       conv=>whnf
       rw [getD_enc _ _ (K) T0 hKl]
       refine ⟨idxA hKl rfl,?_⟩
       conv=>whnf
       rw [getD_enc _ _ K T0 hKl]
       refine ⟨idxA hKl rfl,?_⟩
       conv=>whnf
       refine ⟨by kernel_rfl,?_⟩
       conv=>whnf
       rw [wrap_in (n:=sumV l (R.take i)+_) (by omega) (by omega),wrap_in (n:=sumW l (R.take i)+_) (by omega) (by omega),← hsw,← hsv,wrap_succ i (by omega)]
       exact ⟨i+1,rfl,rfl,rfl,hi,by omega⟩
      ·have hi:i=R.length:=by have:=of_decide_eq_false hb;rw [List.length_map] at this;omega
       clear hb
       rw [hi,List.take_length]
       conv=>whnf
       repeat' (first
        |(rw [y10];conv=>whnf)
        |(rw [y11];conv=>whnf)
        |(rw [y12];conv=>whnf)
        |(rw [y13];conv=>whnf)
        |(refine ⟨fun hg=>?_,fun hg=>?_⟩<;>first|contradiction|(exfalso;revert hg;simp;done)|(exfalso;exact absurd (of_decide_eq_true hg) (by assumption))|(exfalso;exact absurd (by assumption) (of_decide_eq_false hg))|(conv=>whnf))
        |(refine Or.inl ?_;conv=>whnf)
        |(refine And.intro ?_ ?_;kernel_rfl;conv=>whnf))
       rw [hneg]
       refine dwp_loopU (P:=Tryz.prog) (G:=GC) (k:=dk13_5) (b:=db13_5) (α:=Nat) (fun i=>[(40,DV.int .i64 (sumW l (st.take i) - c.price * B2)),(41,DV.int .i64 (sumV l (st.take i))),(348,DV.int .i64 (i))]) (fun i=>[(7,.row 1 (iD st) true),(92,.row 1 (iD O) true)]) (fun i=>i≤N) (fun i=>N - i) 0 (Nat.zero_le _) ?_
       conv=>whnf
       refine ⟨rfl,rfl,?_⟩
       conv=>whnf
       refine ⟨rfl,?_⟩
       intro i h8
       have h8:i≤N:=h8
       conv=>whnf
       refine ⟨fun hb=>?_,fun hb=>?_⟩
       ·have hi:i < N:=by have:=of_decide_eq_true hb;omega
        clear hb
        have hRi:=hso.inr _ (getD_in 0 (by omega:i < st.length))
        have hsw:=sumW_snocI l (st.take i) (st.getD i 0)
        have hsv:=sumV_snocI l (st.take i) (st.getD i 0)
        rw [← take_snoc st i 0 (by omega)] at hsw hsv
        have hbd:=sumW_bd hls (a:=st.take i) (fun x hx=>hso.inr x (List.mem_of_mem_take hx))
        have htl:(st.take i).length≤5:=by rw [List.length_take];omega
        have g2:=iD_get st i (by omega)
        obtain ⟨K,hK⟩:∃ K:Nat,st.getD i 0=(K:Int):=⟨(st.getD i 0).toNat,by omega⟩
        rw [hK,Int.toNat_natCast] at hsw hsv
        have hKl:K < l.length:=by omega
        have hok:=hls _ (getD_in T0 hKl)
        have hv0:=hok.v0
        have hv1:=hok.v1
        have hw0:=hok.w0
        have hw1:=hok.w1
        rw [hK] at g2
        conv=>whnf
        refine ⟨⟨hN.symm,by omega,by omega⟩,?_⟩
        rw [Int.toNat_natCast,Nat.zero_add]
        conv=>whnf
        rw [g2]
        refine ⟨⟨hN.symm,by decide⟩,?_⟩
        conv=>whnf
        rw [getD_enc _ _ (K) T0 hKl]
        refine ⟨idxA hKl rfl,?_⟩
        conv=>whnf
        rw [getD_enc _ _ K T0 hKl]
        refine ⟨idxA hKl rfl,?_⟩
        conv=>whnf
        refine ⟨by kernel_rfl,?_⟩
        conv=>whnf
        rw [wrap_in (n:=sumV l (st.take i)+_) (by omega) (by omega),wrap_in (n:=sumW l (st.take i) - c.price * B2+_) (by omega) (by omega),show sumW l (st.take i) - c.price * B2+(l.getD K T0).worth=sumW l (st.take (i+1)) - c.price * B2 by omega,← hsv,wrap_succ i (by omega)]
        exact ⟨i+1,rfl,rfl,rfl,hi,by omega⟩
       ·have hi:i=N:=by have:=of_decide_eq_false hb;omega
        clear hb
        rw [show st.take i=st by rw [hi,hNl,List.take_length]]
        have hsS:=sumW_bd hls hso.inr
        have hz:decide (sumV l st≤c.tank)=false∨(decide (sumV l st≤c.tank)=true∧decide (V < sumW l st - c.price * B2)=false∧(decide (sumW l st - c.price * B2=V)=false∨(decide (sumW l st - c.price * B2=V)=true∧decide ((N:Int) < ((R.map (DV.int .i64)).length:Int))=false))):=by
         by_cases k1:sumV l st≤c.tank
         ·obtain ⟨k2,k3⟩:=hbest k1
          refine .inr ⟨decide_eq_true k1,decide_eq_false k2,?_⟩
          by_cases k4:sumW l st - c.price * B2=V
          ·refine .inr ⟨decide_eq_true k4,decide_eq_false ?_⟩
           have:=k3 k4
           rw [List.length_map]
           omega
          ·exact .inl (decide_eq_false k4)
         ·exact .inl (decide_eq_false k1)
        conv=>whnf
        rcases hz with k1|⟨k1,k2,k3|⟨k3,k4⟩⟩
        all_goals
         repeat' (first
          |(rw [k1];conv=>whnf)
          |(rw [k2];conv=>whnf)
          |(rw [k3];conv=>whnf)
          |(rw [k4];conv=>whnf)
          |(refine ⟨fun hg=>?_,fun hg=>?_⟩<;>first|contradiction|(exfalso;revert hg;simp;done)|(exfalso;exact absurd (of_decide_eq_true hg) (by assumption))|(exfalso;exact absurd (by assumption) (of_decide_eq_false hg))|(conv=>whnf))
          |(refine Or.inl ?_;conv=>whnf)
          |(refine ⟨hN.symm,?_⟩;conv=>whnf)
          |(refine And.intro ?_ ?_;kernel_rfl;conv=>whnf))
        all_goals
         refine ⟨⟨by decide,by decide,rfl,rfl⟩,?_⟩
         conv=>whnf
         rw [wrap_in (n:=n0) (by omega) (by omega),wrap_in (n:=c.tank+n0) (by omega) (by omega)]
         conv=>whnf
         refine ⟨⟨by decide,by decide,rfl,rfl⟩,?_⟩
         conv=>whnf
         rw [wrap_in (n:=(z1:Int)) (by omega) (by omega),wrap_in (n:=c.price+(z1:Int)) (by omega) (by omega)]
         conv=>whnf
         refine .inl ?_
         conv=>whnf
         refine ⟨_,a1 ..,?_⟩
         conv=>whnf
         refine .inl ?_
         conv=>whnf
         refine ⟨_,b9,?_⟩
         conv=>whnf
         refine ⟨by kernel_rfl,?_⟩
         conv=>whnf
         refine .inl ?_
         conv=>whnf
         refine ⟨_,a1 ..,?_⟩
         conv=>whnf
         refine .inl ?_
         conv=>whnf
         refine ⟨_,b10,?_⟩
         conv=>whnf
         refine ⟨by kernel_rfl,?_⟩
         conv=>whnf
         have y14:decide (V≤CA.worth)=true:=decide_eq_true hV9
         have y15:decide (CB.worth≤V)=true:=decide_eq_true hV10
         repeat' (first
          |(rw [y14];conv=>whnf)
          |(rw [y15];conv=>whnf)
          |(refine ⟨fun hg=>?_,fun hg=>?_⟩<;>first|contradiction|(exfalso;revert hg;simp;done)|(exfalso;exact absurd (of_decide_eq_true hg) (by assumption))|(exfalso;exact absurd (by assumption) (of_decide_eq_false hg))|(conv=>whnf))
          |(refine Or.inl ?_;conv=>whnf)
          |(refine ⟨_,aw,?_⟩;conv=>whnf)
          |(refine And.intro ?_ ?_;kernel_rfl;conv=>whnf))
         rfl
     ·rename_i hg
      refine ⟨_,b6,?_⟩
      conv=>whnf
      refine ⟨by kernel_rfl,?_⟩
      conv=>whnf
      refine .inl ?_
      conv=>whnf
      refine ⟨_,a1 ..,?_⟩
      conv=>whnf
      refine ⟨⟨by decide,by decide,rfl,rfl⟩,?_⟩
      conv=>whnf
      rw [wrap_in (n:=n2) (by omega) (by omega)]
      refine ⟨by decide,?_⟩
      rw [hp9]
      conv=>whnf
      refine .inl ?_
      conv=>whnf
      refine ⟨_,b7 ..,?_⟩
      conv=>whnf
      refine ⟨by kernel_rfl,?_⟩
      conv=>whnf
      have hPF0:=Int.mul_nonneg hp0 hF.1
      have hPF1:c.price * F≤1000 * 24000:=Int.mul_le_mul hp1 hF.2 hF.1 (by decide)
      have hPB0:=Int.mul_nonneg hp0 hfar.1
      have hPB1:c.price * B2≤1000 * 24000:=Int.mul_le_mul hp1 hfar.2 hfar.1 (by decide)
      have hsR:=sumW_bd hls hRin
      have y10:decide (c.tank < sumV l R)=false:=decide_eq_false (by omega)
      have y11:decide (F < 0)=false:=decide_eq_false (by omega)
      have y12:decide (100000 < F)=false:=decide_eq_false (by omega)
      have y13:decide (V≠IntKind.i64.wrap (sumW l R - IntKind.i64.wrap (c.price * F)))=false:=by
       rw [wrap_in (n:=c.price * F) (by omega) (by omega),wrap_in (n:=sumW l R - c.price * F) (by omega) (by omega),← r3];simp
      have hneg:IntKind.i64.wrap (IntKind.i64.wrap (-c.price) * B2)=sumW l (st.take 0) - c.price * B2:=by
       rw [wrap_in (n := -c.price) (by omega) (by omega),Int.neg_mul,wrap_in (n := -(c.price * B2)) (by omega) (by omega)]
       show _=0 - _
       omega
      repeat' (first
       |(rw [y7];conv=>whnf)
       |(rw [y8];conv=>whnf)
       |(rw [y9];conv=>whnf)
       |(refine ⟨fun hg=>?_,fun hg=>?_⟩<;>first|contradiction|(exfalso;revert hg;simp;done)|(exfalso;exact absurd (of_decide_eq_true hg) (by assumption))|(exfalso;exact absurd (by assumption) (of_decide_eq_false hg))|(conv=>whnf))
       |(refine Or.inl ?_;conv=>whnf)
       |(refine ⟨_,c4,?_⟩;conv=>whnf)
       |(refine ⟨_,a1,?_⟩;conv=>whnf)
       |(refine ⟨_,i5,?_⟩;conv=>whnf)
       |(refine ⟨_,b8,?_⟩;conv=>whnf)
       |(refine And.intro ?_ ?_;kernel_rfl;conv=>whnf))
      refine dwp_loopU (P:=Tryz.prog) (G:=GC) (k:=dk13_4) (b:=db13_4) (α:=Nat) (fun i=>[(36,DV.int .i64 (sumW l (R.take i))),(37,DV.int .i64 (sumV l (R.take i))),(296,DV.int .i64 (i))]) (fun i=>[(7,.row 1 (iD st) true),(92,.row 1 (iD O) true)]) (fun i=>i≤R.length) (fun i=>R.length - i) 0 (Nat.zero_le _) ?_
      conv=>whnf
      refine ⟨rfl,rfl,?_⟩
      conv=>whnf
      refine ⟨rfl,?_⟩
      intro i h7
      have h7:i≤R.length:=h7
      conv=>whnf
      refine ⟨fun hb=>?_,fun hb=>?_⟩
      ·have hi:i < R.length:=by have:=of_decide_eq_true hb;rw [List.length_map] at this;omega
       clear hb
       have hRi:=hRin _ (getD_in 0 hi)
       have hsw:=sumW_snocI l (R.take i) (R.getD i 0)
       have hsv:=sumV_snocI l (R.take i) (R.getD i 0)
       rw [← take_snoc R i 0 hi] at hsw hsv
       have hbd:=sumW_bd hls (a:=R.take i) (fun x hx=>hRin x (List.mem_of_mem_take hx))
       have htl:(R.take i).length≤5:=by rw [List.length_take];omega
       conv=>whnf
       rw [getD_enc _ _ i 0 hi]
       refine ⟨idxA hi rfl,?_⟩
       obtain ⟨K,hK⟩:∃ K:Nat,R.getD i 0=(K:Int):=⟨(R.getD i 0).toNat,by omega⟩
       rw [hK,Int.toNat_natCast] at hsw hsv
       have hKl:K < l.length:=by omega
       have hok:=hls _ (getD_in T0 hKl)
       have hv0:=hok.v0
       have hv1:=hok.v1
       have hw0:=hok.w0
       have hw1:=hok.w1
       rw [hK]
       conv=>whnf
       rw [getD_enc _ _ (K) T0 hKl]
       refine ⟨idxA hKl rfl,?_⟩
       conv=>whnf
       rw [getD_enc _ _ K T0 hKl]
       refine ⟨idxA hKl rfl,?_⟩
       conv=>whnf
       refine ⟨by kernel_rfl,?_⟩
       conv=>whnf
       rw [wrap_in (n:=sumV l (R.take i)+_) (by omega) (by omega),wrap_in (n:=sumW l (R.take i)+_) (by omega) (by omega),← hsw,← hsv,wrap_succ i (by omega)]
       exact ⟨i+1,rfl,rfl,rfl,hi,by omega⟩
      ·have hi:i=R.length:=by have:=of_decide_eq_false hb;rw [List.length_map] at this;omega
       clear hb
       rw [hi,List.take_length]
       conv=>whnf
       repeat' (first
        |(rw [y10];conv=>whnf)
        |(rw [y11];conv=>whnf)
        |(rw [y12];conv=>whnf)
        |(rw [y13];conv=>whnf)
        |(refine ⟨fun hg=>?_,fun hg=>?_⟩<;>first|contradiction|(exfalso;revert hg;simp;done)|(exfalso;exact absurd (of_decide_eq_true hg) (by assumption))|(exfalso;exact absurd (by assumption) (of_decide_eq_false hg))|(conv=>whnf))
        |(refine Or.inl ?_;conv=>whnf)
        |(refine And.intro ?_ ?_;kernel_rfl;conv=>whnf))
       rw [hneg]
       refine dwp_loopU (P:=Tryz.prog) (G:=GC) (k:=dk13_5) (b:=db13_5) (α:=Nat) (fun i=>[(40,DV.int .i64 (sumW l (st.take i) - c.price * B2)),(41,DV.int .i64 (sumV l (st.take i))),(348,DV.int .i64 (i))]) (fun i=>[(7,.row 1 (iD st) true),(92,.row 1 (iD O) true)]) (fun i=>i≤N) (fun i=>N - i) 0 (Nat.zero_le _) ?_
       conv=>whnf
       refine ⟨rfl,rfl,?_⟩
       conv=>whnf
       refine ⟨rfl,?_⟩
       intro i h8
       have h8:i≤N:=h8
       conv=>whnf
       refine ⟨fun hb=>?_,fun hb=>?_⟩
       ·have hi:i < N:=by have:=of_decide_eq_true hb;omega
        clear hb
        have hRi:=hso.inr _ (getD_in 0 (by omega:i < st.length))
        have hsw:=sumW_snocI l (st.take i) (st.getD i 0)
        have hsv:=sumV_snocI l (st.take i) (st.getD i 0)
        rw [← take_snoc st i 0 (by omega)] at hsw hsv
        have hbd:=sumW_bd hls (a:=st.take i) (fun x hx=>hso.inr x (List.mem_of_mem_take hx))
        have htl:(st.take i).length≤5:=by rw [List.length_take];omega
        have g2:=iD_get st i (by omega)
        obtain ⟨K,hK⟩:∃ K:Nat,st.getD i 0=(K:Int):=⟨(st.getD i 0).toNat,by omega⟩
        rw [hK,Int.toNat_natCast] at hsw hsv
        have hKl:K < l.length:=by omega
        have hok:=hls _ (getD_in T0 hKl)
        have hv0:=hok.v0
        have hv1:=hok.v1
        have hw0:=hok.w0
        have hw1:=hok.w1
        rw [hK] at g2
        conv=>whnf
        refine ⟨⟨hN.symm,by omega,by omega⟩,?_⟩
        rw [Int.toNat_natCast,Nat.zero_add]
        conv=>whnf
        rw [g2]
        refine ⟨⟨hN.symm,by decide⟩,?_⟩
        conv=>whnf
        rw [getD_enc _ _ (K) T0 hKl]
        refine ⟨idxA hKl rfl,?_⟩
        conv=>whnf
        rw [getD_enc _ _ K T0 hKl]
        refine ⟨idxA hKl rfl,?_⟩
        conv=>whnf
        refine ⟨by kernel_rfl,?_⟩
        conv=>whnf
        rw [wrap_in (n:=sumV l (st.take i)+_) (by omega) (by omega),wrap_in (n:=sumW l (st.take i) - c.price * B2+_) (by omega) (by omega),show sumW l (st.take i) - c.price * B2+(l.getD K T0).worth=sumW l (st.take (i+1)) - c.price * B2 by omega,← hsv,wrap_succ i (by omega)]
        exact ⟨i+1,rfl,rfl,rfl,hi,by omega⟩
       ·have hi:i=N:=by have:=of_decide_eq_false hb;omega
        clear hb
        rw [show st.take i=st by rw [hi,hNl,List.take_length]]
        have hsS:=sumW_bd hls hso.inr
        have hz:decide (sumV l st≤c.tank)=false∨(decide (sumV l st≤c.tank)=true∧decide (V < sumW l st - c.price * B2)=false∧(decide (sumW l st - c.price * B2=V)=false∨(decide (sumW l st - c.price * B2=V)=true∧decide ((N:Int) < ((R.map (DV.int .i64)).length:Int))=false))):=by
         by_cases k1:sumV l st≤c.tank
         ·obtain ⟨k2,k3⟩:=hbest k1
          refine .inr ⟨decide_eq_true k1,decide_eq_false k2,?_⟩
          by_cases k4:sumW l st - c.price * B2=V
          ·refine .inr ⟨decide_eq_true k4,decide_eq_false ?_⟩
           have:=k3 k4
           rw [List.length_map]
           omega
          ·exact .inl (decide_eq_false k4)
         ·exact .inl (decide_eq_false k1)
        conv=>whnf
        rcases hz with k1|⟨k1,k2,k3|⟨k3,k4⟩⟩
        all_goals
         repeat' (first
          |(rw [k1];conv=>whnf)
          |(rw [k2];conv=>whnf)
          |(rw [k3];conv=>whnf)
          |(rw [k4];conv=>whnf)
          |(refine ⟨fun hg=>?_,fun hg=>?_⟩<;>first|contradiction|(exfalso;revert hg;simp;done)|(exfalso;exact absurd (of_decide_eq_true hg) (by assumption))|(exfalso;exact absurd (by assumption) (of_decide_eq_false hg))|(conv=>whnf))
          |(refine Or.inl ?_;conv=>whnf)
          |(refine ⟨hN.symm,?_⟩;conv=>whnf)
          |(refine And.intro ?_ ?_;kernel_rfl;conv=>whnf))
        all_goals
         refine ⟨⟨by decide,by decide,rfl,rfl⟩,?_⟩
         conv=>whnf
         rw [wrap_in (n:=n0) (by omega) (by omega),wrap_in (n:=c.tank+n0) (by omega) (by omega)]
         conv=>whnf
         refine ⟨⟨by decide,by decide,rfl,rfl⟩,?_⟩
         conv=>whnf
         rw [wrap_in (n:=(z1:Int)) (by omega) (by omega),wrap_in (n:=c.price+(z1:Int)) (by omega) (by omega)]
         conv=>whnf
         refine .inl ?_
         conv=>whnf
         refine ⟨_,a1 ..,?_⟩
         conv=>whnf
         refine .inl ?_
         conv=>whnf
         refine ⟨_,b9,?_⟩
         conv=>whnf
         refine ⟨by kernel_rfl,?_⟩
         conv=>whnf
         refine .inl ?_
         conv=>whnf
         refine ⟨_,a1 ..,?_⟩
         conv=>whnf
         refine .inl ?_
         conv=>whnf
         refine ⟨_,b10,?_⟩
         conv=>whnf
         refine ⟨by kernel_rfl,?_⟩
         conv=>whnf
         have y14:decide (V≤CA.worth)=true:=decide_eq_true hV9
         have y15:decide (CB.worth≤V)=true:=decide_eq_true hV10
         repeat' (first
          |(rw [y14];conv=>whnf)
          |(rw [y15];conv=>whnf)
          |(refine ⟨fun hg=>?_,fun hg=>?_⟩<;>first|contradiction|(exfalso;revert hg;simp;done)|(exfalso;exact absurd (of_decide_eq_true hg) (by assumption))|(exfalso;exact absurd (by assumption) (of_decide_eq_false hg))|(conv=>whnf))
          |(refine Or.inl ?_;conv=>whnf)
          |(refine ⟨_,aw,?_⟩;conv=>whnf)
          |(refine And.intro ?_ ?_;kernel_rfl;conv=>whnf))
         rfl
end Sh

namespace Sh
open Go Go.Proofs Go.DataW
section
variable {H:Type} {enc:TypeId×Value→H} {W:World}
theorem opU3:Opens enc Tryz.prog W 126 (fun p:Int×Int×Int=>[DV.int .u16 p.1,DV.int .u16 p.2.1,DV.int .u16 p.2.2]) (fun p=>(0≤p.1∧p.1≤65535)∧(0≤p.2.1∧p.2.1≤65535)∧(0≤p.2.2∧p.2.2≤65535)):=by
 refine (opens_array (n:=3) (c:=1) (e:=119) (P:=Tryz.prog) (t:=126) Tryz.underlying126 (show Tryz.prog.cellsOf 119=1 by kernel_rfl) (show Tryz.prog.cellsOf 126=3 * 1 by kernel_rfl) (opens_int Tryz.underlying119)).mapB (fun l=>(l.getD 0 0,l.getD 1 0,l.getD 2 0)) (fun l h=>?_) (fun l h=>?_)
 ·match l,h with
  |[a,b,c],_=>rfl
 ·match l,h with
  |[a,b,c],h=>exact ⟨wf_u16 (h.2 a (by simp)),wf_u16 (h.2 b (by simp)),wf_u16 (h.2 c (by simp))⟩
end
end Sh
