/-
  Chapter 4's functions, walked over pure data: the library of the walk, the functions' code over data, and what each computes. (part 7)
-/
import Derived.Test.YtbkginjiknnobaaGreatDoorP6
import Derived.ChangeArms
import Derived.ChangeSame
import Derived.OpenShut
import Derived.WideShapes
import Derived.FnData
import Derived.LaidMore
import Derived.DataReads
import Derived.ProofKit
import Derived.Carry
import Derived.HandedShaped
import Derived.Shelf.Vars
import Derived.Stop.Joined
import Derived.Deep.DeepHandedRow
import Derived.Lib.LaidTab
import Derived.MakeChecks
import Derived.LaidSub
import Derived.LaidHandle
import Derived.Test.YtbkginjiknnobaaGreatDoorProg
import Derived.Lib.ItoaNum
import Derived.Lib.MapLaws
import Derived.Shelf.Small.Strs
import Derived.Shelf.Small.Wraps
import Derived.Shelf.Strings.Split
set_option linter.unusedVariables false
set_option linter.unusedSimpArgs false
namespace Sh
open Go
theorem memOf_holds (W:World):(memOf W).holds W:=fun _ _ _ h=>h
theorem calls_of_pure {G:Nat→Option DV} {f:FuncId} {ds:List DV} {d:DV} {P:Program} (h:PureCall P G f ds d) {W:World} {vs:Array Value} (hG:GOk G (memOf W)) (hT:Tabs G W) (hr:RelPs (memOf W) ds vs) :
  Calls P f vs W fun e w'=>∃ v M',e=.returned v∧M'.holds w'∧RelP M' d v∧RowKit.Below W.heap.size W w':=by
 have h1:=h.2 Fence.wide 0 ⟨fun _=>trivial,rfl⟩ rfl rfl (memOf W) W vs hG hT (memOf_holds W) hr
 refine (callsIn_wide.1 h1).mono fun e w' ⟨v,M',a,_,b,c,d,_⟩=>⟨v,M',a,b,c,d⟩
section
variable {H:Type} {enc:TypeId×Value→H} {P:Program} {W:World}
theorem arg_slice {t e:TypeId} {α:Type} {f:α→DV} {B:α→Prop} {v:Value} {d:DataW H} {p:List MemPlace} {base b0:Nat} {sp:Nat→Bool} {hd:Bool} (ht:P.underlying t=some (.slice e)) (k:Opens enc P W t (fun a=>[f a]) B)
  (hv:Value.okWide P W .any b0 t v) (h:DataW.Trod enc P W base sp hd t v d p):∃ a,RelP (memOf W) (f a) v∧B a:=by
 obtain ⟨a,len,cap,rfl⟩:=WideShapes.okWide_slice ht hv
 obtain ⟨fuel,hf⟩:=h
 obtain ⟨a,h1,h2⟩:=k _ _ _ _ _ _ hf
 exact ⟨a,h1.2 0 (by simp),h2⟩
theorem relPs_of {M:Mem} {ds:List DV} {vs:List Value} (h:RelL M ds vs):RelPs M ds vs.toArray:=by
 refine ⟨by simpa using h.1,fun i hi=>?_⟩
 have:=h.2 i hi
 simpa [List.getD_eq_getElem?_getD,Array.getD_eq_getD_getElem?] using this
end
end Sh

namespace Sh
open Go Go.Proofs
section
variable {H:Type} {enc:TypeId×Value→H} {P:Program} {W:World}
theorem arg_array {t e:TypeId} {n:Nat} {α:Type} {f:α→List DV} {B:α→Prop} {v:Value} {d:DataW H} {p:List MemPlace} {base b0:Nat} {sp:Nat→Bool} {hd:Bool} (ht:P.underlying t=some (.array n e)) (k:Opens enc P W t f B)
  (hv:Value.okWide P W .any b0 t v) (h:DataW.Trod enc P W base sp hd t v d p):∃ a,RelP (memOf W) (.agg (f a)) v∧B a:=by
 obtain ⟨cs,rfl⟩:∃ cs,v=.agg cs:=by
  simp only [Value.okWide,ht] at hv
  obtain ⟨cs,h1,_⟩:=hv
  exact ⟨cs,h1⟩
 obtain ⟨fuel,hf⟩:=h
 obtain ⟨a,h1,h2⟩:=k _ _ _ _ _ _ hf
 refine ⟨a,.agg _ _ (by simpa [Value.cells] using h1.1) (fun i hi=>?_),h2⟩
 have:=h1.2 i hi
 simpa [Value.cells,List.getD_eq_getElem?_getD,Array.getD_eq_getD_getElem?] using this
theorem handed_shaped {a:Assume} {C:Checked} {os:Os} {f:FuncId} {fn:Func} {s:ChangeSpec} {conds:List PathCond} {apart fresh handsOn again:Bool} {X:World→Array Value→Prop}
  (hX:∀ (w w':World) (args:Array Value),w.heap=w'.heap→X w args→X w' args)
  (own:ownKnob C.prog.godebug=none) (started:os.Started) (noInit:C.prog.inits.idxOf? f=none) (hfn:C.prog.funcs[f]?=some fn)
  (witness:∃ (w:World) (tape:Tape) (i:Input),w.os=os∧(w.forCall tape i).Shaped C.prog∧i.vars=[]∧Input.okWide C.prog (w.forCall tape i) .any w.heap.size f i ∧
    ((s.pre enc C.prog fn conds apart (w.forCall tape i).memory i.args∧X (w.forCall tape i).memory i.args)∧sizedMet enc C.prog fn (OpenSpec.ofChange s) apart (w.forCall tape i).memory i.args)∧a.holds C.prog (lone (Frame.enter C.prog f i.args .normal) [] (w.forCall tape i)))
  (contract:∀ (W:World) (base:Nat) (args:Array Value) (ds gs:List (DataW H)) (before:List MemPlace),
    (∀ (j:Nat) t v,fn.params[j]?=some t→args[j]?=some v→Value.okWide C.prog W .any base t v) →
    DataW.Whole enc C.prog fn.params.toList s.vars apart W args.toList ds gs before→X W args→W.ShapedOpen C.prog →
    Calls C.prog f args W fun e W'=>∃ v,e=.returned v∧s.post enc C.prog fn apart fresh handsOn again W args v W') :
  ReturnsInHanded a C os f .any (fun w args=>(s.pre enc C.prog fn conds apart w args∧X w args)∧sizedMet enc C.prog fn (OpenSpec.ofChange s) apart w args) (s.post enc C.prog fn apart fresh handsOn again):=by
 refine returnsInHanded_of_calls own started noInit witness ?_
 intro w tape i _ hsh _ hok hpre hholds
 obtain ⟨_,_,_,fn',hfn',_,_,_,_,hval⟩:=hok
 have e:fn'=fn:=Option.some.inj (hfn'.symm.trans hfn)
 subst e
 obtain ⟨⟨⟨ds,gs,before,hw,hc⟩,hx⟩,hz⟩:=hpre
 have hw':=DataW.Whole.of_heap (w':=w.forCall tape i) (by rfl) hw
 refine (contract (w.forCall tape i) w.heap.size i.args ds gs before hval hw' (hX _ _ _ (by rfl) hx) hsh).mono fun e W' ⟨v,he,hp⟩=>?_
 subst he
 exact ChangeSpec.post_blind hp
end
section
open Go.RowKit Go.WideShapes Go.ChangeShapes
variable {H:Type} {enc:TypeId×Value→H} {P:Program}
theorem postOfBelow {f:Func} {s:ChangeSpec} {apart fresh handsOn again:Bool} {W W':World} {args:Array Value} {v:Value} {ds gs:List (DataW H)} {before pa pv:List MemPlace}
  (hW:DataW.Whole enc P f.params.toList s.vars apart W args.toList ds gs before)
  (hres:∀ (b:Nat) (sp:Nat→Bool) (hd:Bool),DataW.TrodAll enc P W' b sp hd f.resultTypes.toList (v.resultList f.resultTypes.size) (s.fn H (ds++gs)).results [])
  (hargs:∀ sp:Nat→Bool,(∀ p ∈ before,sp p.block=true)→DataW.TrodAll enc P W' 0 sp true f.params.toList args.toList (s.fn H (ds++gs)).args pa)
  (hvars:∀ sp:Nat→Bool,(∀ p ∈ before,sp p.block=true)→DataW.TrodVars enc P W' sp s.vars (s.fn H (ds++gs)).vars pv)
  (hps:before=pa++pv) (hb:Below W.heap.size W W')
  (hok:∀ (j:Nat) (t:TypeId) (r:Value),f.resultTypes[j]?=some t→(v.resultList f.resultTypes.size)[j]?=some r→Value.okWide P W' .any 0 t r) :
  s.post enc P f apart fresh handsOn again W args v W':=by
 have hlt:∀ p ∈ before,p.block < W.heap.size:=fun p hp=>hW.lt p hp
 have hold:∀ p ∈ before,(fun b=>decide (b < W.heap.size)) p.block=true:=fun p hp=>by simpa using hlt p hp
 refine ⟨ds,gs,before,[],pa,pv,hW,hres _ _ _,hargs _ hold,hvars _ hold,World.keptBut_mono (fun p hp=>⟨hp,?_⟩) (hb.frame (· ∈ before)),fun _=>?_⟩
 ·rw [hps,List.mem_append] at hp
  exact Or.inr hp
 ·obtain ⟨_,_,_,_,_,hz,hn⟩:=hW
  refine ⟨hok,_,_,([]++pa)++pv,⟨[]++pa,pv,trodAll_append (hargs _ (fun _ _=>rfl)) (hres _ _ _),hvars _ (fun _ _=>rfl),rfl,?_,?_⟩,?_⟩
  ·intro b off hp
   have hin:MemPlace.cell b off ∈ before:=by rw [hps];simpa using hp
   rw [hb.frozen (hlt _ hin)]
   exact hz b off hin
  ·intro ha
   have:=hn ha
   rw [hps] at this
   simpa using this
  ·intro p hp _
   rw [hps]
   simpa using hp
theorem trodAll_stays (hl:laidOutB P=true) {W W':World} (hb:Below W.heap.size W W') {sp:Nat→Bool}:∀ {ts:List TypeId} {vs:List Value} {ds:List (DataW H)} {ps:List MemPlace},DataW.TrodAll enc P W 0 (fun _=>true) true ts vs ds ps →
  (ts.all fun t=>P.readableRec t && decide (t < P.types.size))=true→(∀ p ∈ ps,p.block < W.heap.size)→(∀ p ∈ ps,sp p.block=true)→DataW.TrodAll enc P W' 0 sp true ts vs ds ps
 |[],_,_,_,h,_,_,_=>by
  obtain ⟨rfl,rfl,rfl⟩:=trodAll_nil h
  rfl
 |t :: ts,_,_,_,h,ht,hlt,hsp=>by
  obtain ⟨v,vs,d,ds,p,q,rfl,rfl,rfl,h1,h2⟩:=trodAll_cons h
  rw [List.all_cons,Bool.and_eq_true,Bool.and_eq_true] at ht
  exact trodAll_cons_mk (WideElems.Trod_stays hl ht.1.1 (of_decide_eq_true ht.1.2) h1 (fun x hx=>hb.same (hlt x (by simp [hx]))) (fun x hx=>hsp x (by simp [hx])))
   (trodAll_stays hl hb h2 ht.2 (fun x hx=>hlt x (by simp [hx])) (fun x hx=>hsp x (by simp [hx])))
end
end Sh

set_option maxRecDepth 100000
namespace Sh
open Go
def dc12 : DFunc := ⟨6,1,[.tmp 2],.seq (.ops false [⟨some 2,.mov (.const (.bool false)),none,[]⟩]) (.seq (.ops false [⟨some 3,.mov (.tmp 0),none,[]⟩,⟨some 4,.len (.tmp 3),none,[]⟩,⟨some 5,.bin .leq (.tmp 4) (.const (.int .i64 9)),none,[]⟩,⟨some 2,.mov (.tmp 5),none,[]⟩]) .ret)⟩
theorem dh12:cProg Go.Proofs.Tryz.prog ⟨[],[],[]⟩ 12=some dc12:=by kernel_rfl
def dc15 : DFunc := ⟨12,1,[.cell 2 (some 3)],.seq (.ops false [⟨some 1,.box 3 (.tmp 0),none,[]⟩,⟨some 2,.alloc (.agg [.full [],.int .i64 0,.int .i64 0]) 3,none,[]⟩]) (.seq (.ops true [⟨some 3,.lit true 2 0 (.agg [.int .i64 0,.int .i64 0]) [],none,[]⟩,⟨some 4,.faddr 0 1 false (.tmp 1),none,[]⟩,⟨some 5,.load none (.tmp 4),none,[1]⟩,⟨some 6,.append true 2 (.tmp 3) (.tmp 5),none,[0,2,1]⟩,⟨some 7,.faddr 1 1 false (.tmp 1),none,[]⟩,⟨some 8,.load none (.tmp 7),none,[4]⟩,⟨some 9,.faddr 2 1 false (.tmp 1),none,[]⟩,⟨some 10,.load none (.tmp 9),none,[6]⟩,⟨some 11,.build [.full [],.int .i64 0,.int .i64 0] [(0,(1,(.tmp 6))),(1,(1,(.tmp 8))),(2,(1,(.tmp 10)))],none,[3,0,2,1,5,4,7,6]⟩,⟨none,.store 3 (.tmp 2) (.tmp 11),none,[8,3,0,2,1,5,4,7,6]⟩]) .ret)⟩
theorem dh15:cProg Go.Proofs.Tryz.prog ⟨[],[],[3,6]⟩ 15=some dc15:=by kernel_rfl
def dc18 : DFunc := ⟨14,1,[.tmp 2],.seq (.ops false [⟨some 1,.box 3 (.tmp 0),none,[]⟩,⟨some 2,.mov (.const (.int .i64 0)),none,[]⟩]) (.seq (.ops true [⟨some 3,.faddr 0 1 false (.tmp 1),none,[]⟩,⟨some 4,.load none (.tmp 3),none,[0]⟩,⟨some 5,.call (.func 24) [.tmp 4],none,[1,0]⟩,⟨some 6,.faddr 1 1 false (.tmp 1),none,[]⟩,⟨some 7,.load none (.tmp 6),none,[3]⟩,⟨some 8,.call (.func 52) [.tmp 7,.const (.int .i64 0),.const (.int .i64 1000)],none,[4,3,2,1,0]⟩,⟨some 9,.faddr 2 1 false (.tmp 1),none,[]⟩,⟨some 10,.load none (.tmp 9),none,[6]⟩,⟨some 11,.call (.func 52) [.tmp 10,.const (.int .i64 0),.const (.int .i64 10)],none,[7,6,5,4,3,2,1,0]⟩,⟨some 12,.lit true 1 3 (.int .i64 0) [(0,(.tmp 5)),(1,(.tmp 8)),(2,(.tmp 11))],none,[2,1,0,5,4,3,8,7,6]⟩,⟨some 13,.call (.func 83) [.tmp 12],none,[9,2,1,0,5,4,3,8,7,6]⟩,⟨some 2,.mov (.tmp 13),none,[10,9,2,1,0,5,4,3,8,7,6]⟩]) .ret)⟩
theorem dh18:cProg Go.Proofs.Tryz.prog ⟨[],[],[12]⟩ 18=some dc18:=by kernel_rfl
def db24_0 : DC := (.seq (.seq (.ops false [⟨some 19,.mov (.tmp 4),none,[]⟩,⟨some 20,.mov (.tmp 0),none,[]⟩,⟨some 21,.len (.tmp 20),none,[]⟩,⟨some 22,.bin .lss (.tmp 19) (.tmp 21),none,[]⟩]) (.cond (.tmp 22) .skip (.exit 0))) (.seq (.block 1 none (.seq (.seq (.ops true [⟨some 25,.mov (.tmp 0),none,[]⟩,⟨some 26,.mov (.tmp 4),none,[]⟩,⟨some 27,.iaddr 2 (.tmp 25) (.tmp 26),none,[0,1]⟩,⟨some 28,.faddr 0 1 false (.tmp 27),none,[2,0,1]⟩,⟨some 29,.load none (.tmp 28),none,[3,2,0,1]⟩,⟨some 30,.call (.func 52) [.tmp 29,.const (.int .i64 0),.const (.int .i64 100)],none,[4,3,2,0,1]⟩,⟨some 31,.mov (.tmp 0),none,[]⟩,⟨some 32,.mov (.tmp 4),none,[]⟩,⟨some 33,.iaddr 2 (.tmp 31) (.tmp 32),none,[6,7]⟩,⟨some 34,.faddr 1 1 false (.tmp 33),none,[8,6,7]⟩,⟨some 35,.load none (.tmp 34),none,[9,8,6,7]⟩,⟨some 36,.call (.func 52) [.tmp 35,.const (.int .i64 0),.const (.int .i64 200)],none,[10,9,8,6,7,5,4,3,2,0,1]⟩,⟨some 37,.lit true 1 2 (.int .i64 0) [(0,(.tmp 30)),(1,(.tmp 36))],none,[5,4,3,2,0,1,11,10,9,8,6,7]⟩,⟨some 38,.call (.func 83) [.tmp 37],none,[12,5,4,3,2,0,1,11,10,9,8,6,7]⟩,⟨some 5,.mov (.tmp 38),none,[13,12,5,4,3,2,0,1,11,10,9,8,6,7]⟩]) (.seq (.ops false [⟨some 39,.mov (.tmp 5),none,[]⟩,⟨some 40,.bin .neq (.tmp 39) (.const (.int .i64 0)),none,[]⟩]) (.cond (.tmp 40) (.seq (.ops false [⟨some 41,.mov (.tmp 5),none,[]⟩,⟨some 2,.mov (.tmp 41),none,[]⟩]) .ret) .skip))) (.seq (.ops true [⟨some 42,.mov (.tmp 4),none,[]⟩,⟨some 43,.bin .eql (.tmp 42) (.const (.int .i64 0)),none,[0]⟩,⟨some 44,.mov (.tmp 43),none,[1,0]⟩,⟨some 45,.mov (.tmp 0),some (44,true),[2,1,0]⟩,⟨some 46,.mov (.tmp 4),some (44,true),[2,1,0]⟩,⟨some 47,.iaddr 2 (.tmp 45) (.tmp 46),some (44,true),[3,2,1,0,4]⟩,⟨some 48,.faddr 0 1 false (.tmp 47),some (44,true),[5,3,2,1,0,4]⟩,⟨some 49,.load none (.tmp 48),some (44,true),[6,5,3,2,1,0,4]⟩,⟨some 50,.bin .neq (.tmp 49) (.const (.int .i64 0)),some (44,true),[7,6,5,3,2,1,0,4]⟩,⟨some 51,.pick (.tmp 44) (.tmp 50) (.const (.bool false)),none,[2,1,0,8,7,6,5,3,4]⟩,⟨some 52,.mov (.tmp 51),none,[9,2,1,0,8,7,6,5,3,4]⟩,⟨some 53,.mov (.tmp 4),some (52,false),[10,9,2,1,0,8,7,6,5,3,4]⟩,⟨some 54,.bin .gtr (.tmp 53) (.const (.int .i64 0)),some (52,false),[11,10,9,2,1,0,8,7,6,5,3,4]⟩,⟨some 55,.mov (.tmp 54),some (52,false),[12,11,10,9,2,1,0,8,7,6,5,3,4]⟩,⟨some 56,.mov (.tmp 0),some (55,true),[13,12,11,10,9,2,1,0,8,7,6,5,3,4]⟩,⟨some 57,.mov (.tmp 4),some (55,true),[13,12,11,10,9,2,1,0,8,7,6,5,3,4]⟩,⟨some 58,.iaddr 2 (.tmp 56) (.tmp 57),some (55,true),[14,13,12,11,10,9,2,1,0,8,7,6,5,3,4,15]⟩,⟨some 59,.faddr 0 1 false (.tmp 58),some (55,true),[16,14,13,12,11,10,9,2,1,0,8,7,6,5,3,4,15]⟩,⟨some 60,.load none (.tmp 59),some (55,true),[17,16,14,13,12,11,10,9,2,1,0,8,7,6,5,3,4,15]⟩,⟨some 61,.mov (.tmp 0),some (55,true),[13,12,11,10,9,2,1,0,8,7,6,5,3,4]⟩,⟨some 62,.mov (.tmp 4),some (55,true),[13,12,11,10,9,2,1,0,8,7,6,5,3,4]⟩,⟨some 63,.bin .sub (.tmp 62) (.const (.int .i64 1)),some (55,true),[20,13,12,11,10,9,2,1,0,8,7,6,5,3,4]⟩,⟨some 64,.iaddr 2 (.tmp 61) (.tmp 63),some (55,true),[19,13,12,11,10,9,2,1,0,8,7,6,5,3,4,21,20]⟩,⟨some 65,.faddr 0 1 false (.tmp 64),some (55,true),[22,19,13,12,11,10,9,2,1,0,8,7,6,5,3,4,21,20]⟩,⟨some 66,.load none (.tmp 65),some (55,true),[23,22,19,13,12,11,10,9,2,1,0,8,7,6,5,3,4,21,20]⟩,⟨some 67,.bin .leq (.tmp 60) (.tmp 66),some (55,true),[18,17,16,14,13,12,11,10,9,2,1,0,8,7,6,5,3,4,15,24,23,22,19,21,20]⟩,⟨some 68,.mov (.tmp 67),some (55,true),[25,18,17,16,14,13,12,11,10,9,2,1,0,8,7,6,5,3,4,15,24,23,22,19,21,20]⟩,⟨some 69,.mov (.tmp 0),some (68,false),[26,25,18,17,16,14,13,12,11,10,9,2,1,0,8,7,6,5,3,4,15,24,23,22,19,21,20]⟩,⟨some 70,.mov (.tmp 4),some (68,false),[26,25,18,17,16,14,13,12,11,10,9,2,1,0,8,7,6,5,3,4,15,24,23,22,19,21,20]⟩,⟨some 71,.iaddr 2 (.tmp 69) (.tmp 70),some (68,false),[27,26,25,18,17,16,14,13,12,11,10,9,2,1,0,8,7,6,5,3,4,15,24,23,22,19,21,20,28]⟩,⟨some 72,.faddr 1 1 false (.tmp 71),some (68,false),[29,27,26,25,18,17,16,14,13,12,11,10,9,2,1,0,8,7,6,5,3,4,15,24,23,22,19,21,20,28]⟩,⟨some 73,.load none (.tmp 72),some (68,false),[30,29,27,26,25,18,17,16,14,13,12,11,10,9,2,1,0,8,7,6,5,3,4,15,24,23,22,19,21,20,28]⟩,⟨some 74,.mov (.tmp 0),some (68,false),[26,25,18,17,16,14,13,12,11,10,9,2,1,0,8,7,6,5,3,4,15,24,23,22,19,21,20]⟩,⟨some 75,.mov (.tmp 4),some (68,false),[26,25,18,17,16,14,13,12,11,10,9,2,1,0,8,7,6,5,3,4,15,24,23,22,19,21,20]⟩,⟨some 76,.bin .sub (.tmp 75) (.const (.int .i64 1)),some (68,false),[33,26,25,18,17,16,14,13,12,11,10,9,2,1,0,8,7,6,5,3,4,15,24,23,22,19,21,20]⟩,⟨some 77,.iaddr 2 (.tmp 74) (.tmp 76),some (68,false),[32,26,25,18,17,16,14,13,12,11,10,9,2,1,0,8,7,6,5,3,4,15,24,23,22,19,21,20,34,33]⟩,⟨some 78,.faddr 1 1 false (.tmp 77),some (68,false),[35,32,26,25,18,17,16,14,13,12,11,10,9,2,1,0,8,7,6,5,3,4,15,24,23,22,19,21,20,34,33]⟩,⟨some 79,.load none (.tmp 78),some (68,false),[36,35,32,26,25,18,17,16,14,13,12,11,10,9,2,1,0,8,7,6,5,3,4,15,24,23,22,19,21,20,34,33]⟩,⟨some 80,.bin .gtr (.tmp 73) (.tmp 79),some (68,false),[31,30,29,27,26,25,18,17,16,14,13,12,11,10,9,2,1,0,8,7,6,5,3,4,15,24,23,22,19,21,20,28,37,36,35,32,34,33]⟩,⟨some 81,.pick (.tmp 68) (.const (.bool true)) (.tmp 80),some (55,true),[26,25,18,17,16,14,13,12,11,10,9,2,1,0,8,7,6,5,3,4,15,24,23,22,19,21,20,38,31,30,29,27,28,37,36,35,32,34,33]⟩,⟨some 82,.pick (.tmp 55) (.tmp 81) (.const (.bool false)),some (52,false),[13,12,11,10,9,2,1,0,8,7,6,5,3,4,39,26,25,18,17,16,14,15,24,23,22,19,21,20,38,31,30,29,27,28,37,36,35,32,34,33]⟩,⟨some 83,.pick (.tmp 52) (.const (.bool true)) (.tmp 82),none,[10,9,2,1,0,8,7,6,5,3,4,40,13,12,11,39,26,25,18,17,16,14,15,24,23,22,19,21,20,38,31,30,29,27,28,37,36,35,32,34,33]⟩]) (.cond (.tmp 83) (.seq (.ops false [⟨some 2,.mov (.const (.int .i64 11)),none,[]⟩]) .ret) .skip)))) (.ops false [⟨some 23,.mov (.tmp 4),none,[]⟩,⟨some 24,.bin .add (.tmp 23) (.const (.int .i64 1)),none,[]⟩,⟨some 4,.mov (.tmp 24),none,[]⟩])))
def dk24_0 : Keep := ⟨[],[0,4],[14]⟩
def dc24 : DFunc := ⟨93,1,[.tmp 2],.seq (.ops false [⟨some 2,.mov (.const (.int .i64 0)),none,[]⟩]) (.seq (.seq (.ops false [⟨some 6,.mov (.tmp 0),none,[]⟩,⟨some 7,.len (.tmp 6),none,[]⟩,⟨some 8,.bin .lss (.tmp 7) (.const (.int .i64 2)),none,[]⟩,⟨some 9,.call (.func 62) [.tmp 8,.const (.int .i64 16)],none,[]⟩,⟨some 10,.mov (.tmp 0),none,[]⟩,⟨some 11,.len (.tmp 10),none,[]⟩,⟨some 12,.bin .gtr (.tmp 11) (.const (.int .i64 8)),none,[]⟩,⟨some 13,.call (.func 62) [.tmp 12,.const (.int .i64 5)],none,[]⟩,⟨some 14,.lit true 1 2 (.int .i64 0) [(0,(.tmp 9)),(1,(.tmp 13))],none,[]⟩,⟨some 15,.call (.func 83) [.tmp 14],none,[]⟩,⟨some 3,.mov (.tmp 15),none,[]⟩]) (.seq (.ops false [⟨some 16,.mov (.tmp 3),none,[]⟩,⟨some 17,.bin .neq (.tmp 16) (.const (.int .i64 0)),none,[]⟩]) (.cond (.tmp 17) (.seq (.ops false [⟨some 18,.mov (.tmp 3),none,[]⟩,⟨some 2,.mov (.tmp 18),none,[]⟩]) .ret) .skip))) (.seq (.seq (.ops false [⟨some 4,.mov (.const (.int .i64 0)),none,[]⟩]) (.block 0 (some ⟨[],[0],[14]⟩) (.loop dk24_0 db24_0))) (.seq (.ops false [⟨some 84,.mov (.tmp 0),none,[]⟩,⟨some 85,.mov (.tmp 0),none,[]⟩,⟨some 86,.len (.tmp 85),none,[]⟩,⟨some 87,.bin .sub (.tmp 86) (.const (.int .i64 1)),none,[]⟩,⟨some 88,.iaddr 2 (.tmp 84) (.tmp 87),none,[]⟩,⟨some 89,.faddr 1 1 false (.tmp 88),none,[]⟩,⟨some 90,.load none (.tmp 89),none,[]⟩,⟨some 91,.bin .neq (.tmp 90) (.const (.int .i64 0)),none,[]⟩,⟨some 92,.call (.func 62) [.tmp 91,.const (.int .i64 32)],none,[]⟩,⟨some 2,.mov (.tmp 92),none,[]⟩]) .ret)))⟩
theorem dh24:cProg Go.Proofs.Tryz.prog ⟨[(0,⟨[],[0,4],[14]⟩)],[(0,⟨[],[0],[14]⟩)],[14,37]⟩ 24=some dc24:=by kernel_rfl
def db27_0 : DC := (.seq (.seq (.ops false [⟨some 12,.mov (.tmp 3),none,[]⟩,⟨some 13,.mov (.tmp 0),none,[]⟩,⟨some 14,.len (.tmp 13),none,[]⟩,⟨some 15,.bin .lss (.tmp 12) (.tmp 14),none,[]⟩]) (.cond (.tmp 15) .skip (.exit 0))) (.seq (.block 1 none (.seq (.ops false [⟨some 18,.mov (.tmp 0),none,[]⟩,⟨some 19,.mov (.tmp 3),none,[]⟩,⟨some 20,.iaddr 3 (.tmp 18) (.tmp 19),none,[]⟩,⟨some 21,.faddr 0 1 false (.tmp 20),none,[]⟩,⟨some 22,.load none (.tmp 21),none,[]⟩,⟨some 23,.call (.func 12) [.tmp 22],none,[]⟩,⟨some 24,.un .not (.tmp 23),none,[]⟩]) (.cond (.tmp 24) (.seq (.ops false [⟨some 2,.mov (.const (.bool false)),none,[]⟩]) .ret) .skip))) (.ops false [⟨some 16,.mov (.tmp 3),none,[]⟩,⟨some 17,.bin .add (.tmp 16) (.const (.int .i64 1)),none,[]⟩,⟨some 3,.mov (.tmp 17),none,[]⟩])))
def dk27_0 : Keep := ⟨[],[0,3],[]⟩
def dc27 : DFunc := ⟨25,1,[.tmp 2],.seq (.ops false [⟨some 2,.mov (.const (.bool false)),none,[]⟩]) (.seq (.seq (.ops false [⟨some 4,.mov (.tmp 0),none,[]⟩,⟨some 5,.len (.tmp 4),none,[]⟩,⟨some 6,.bin .gtr (.tmp 5) (.const (.int .i64 6)),none,[]⟩,⟨some 7,.mov (.tmp 6),none,[]⟩,⟨some 8,.mov (.tmp 0),some (7,true),[]⟩,⟨some 9,.len (.tmp 8),some (7,true),[]⟩,⟨some 10,.bin .neq (.tmp 9) (.const (.int .i64 9)),some (7,true),[]⟩,⟨some 11,.pick (.tmp 7) (.tmp 10) (.const (.bool false)),none,[]⟩]) (.cond (.tmp 11) (.seq (.ops false [⟨some 2,.mov (.const (.bool false)),none,[]⟩]) .ret) .skip)) (.seq (.seq (.ops false [⟨some 3,.mov (.const (.int .i64 0)),none,[]⟩]) (.block 0 (some ⟨[],[],[]⟩) (.loop dk27_0 db27_0))) (.seq (.ops false [⟨some 2,.mov (.const (.bool true)),none,[]⟩]) .ret)))⟩
theorem dh27:cProg Go.Proofs.Tryz.prog ⟨[(0,⟨[],[0,3],[]⟩)],[(0,⟨[],[],[]⟩)],[]⟩ 27=some dc27:=by kernel_rfl
def db29_0 : DC := (.seq (.ops false [⟨some 9,.bin .lss (.tmp 8) (.tmp 7),none,[]⟩]) (.seq (.cond (.tmp 9) .skip (.exit 0)) (.seq (.block 1 none (.seq (.ops false [⟨some 10,.iaddr 3 (.tmp 6) (.tmp 8),none,[]⟩,⟨some 11,.load (some 3) (.tmp 10),none,[]⟩,⟨some 5,.alloc (.agg [.full [],.int .i64 0,.int .i64 0]) 3,none,[]⟩,⟨none,.store 3 (.tmp 5) (.tmp 11),none,[]⟩]) (.ops false [⟨some 12,.mov (.tmp 3),none,[]⟩,⟨some 13,.load (some 3) (.tmp 5),none,[]⟩,⟨some 14,.call (.func 15) [.tmp 13],none,[]⟩,⟨some 15,.lit true 3 1 (.agg [.full [],.int .i64 0,.int .i64 0]) [(0,(.tmp 14))],none,[]⟩,⟨some 16,.append false 3 (.tmp 12) (.tmp 15),none,[]⟩,⟨some 3,.mov (.tmp 16),none,[]⟩]))) (.ops false [⟨some 17,.bin .add (.tmp 8) (.const (.int .i64 1)),none,[]⟩,⟨some 8,.mov (.tmp 17),none,[]⟩]))))
def dk29_0 : Keep := ⟨[(3,3)],[3,6,7,8],[3]⟩
def dc29 : DFunc := ⟨19,1,[.tmp 2],.seq (.ops false [⟨some 2,.mov (.const (.slice none 0 0)),none,[]⟩]) (.seq (.ops false [⟨some 3,.mov (.const (.slice none 0 0)),none,[]⟩]) (.seq (.seq (.ops false [⟨some 6,.mov (.tmp 0),none,[]⟩,⟨some 7,.len (.tmp 6),none,[]⟩,⟨some 8,.mov (.const (.int .i64 0)),none,[]⟩]) (.block 0 (some ⟨[],[3],[3]⟩) (.loop dk29_0 db29_0))) (.seq (.ops false [⟨some 18,.mov (.tmp 3),none,[]⟩,⟨some 2,.mov (.tmp 18),none,[]⟩]) .ret)))⟩
theorem dh29:cProg Go.Proofs.Tryz.prog ⟨[(0,⟨[(3,3)],[3,6,7,8],[3]⟩)],[(0,⟨[],[3],[3]⟩)],[15]⟩ 29=some dc29:=by kernel_rfl
def db32_0 : DC := (.seq (.seq (.ops false [⟨some 19,.mov (.tmp 4),none,[]⟩,⟨some 20,.mov (.tmp 0),none,[]⟩,⟨some 21,.len (.tmp 20),none,[]⟩,⟨some 22,.bin .lss (.tmp 19) (.tmp 21),none,[]⟩]) (.cond (.tmp 22) .skip (.exit 0))) (.seq (.block 1 none (.seq (.ops false [⟨some 25,.mov (.tmp 0),none,[]⟩,⟨some 26,.mov (.tmp 4),none,[]⟩,⟨some 27,.iaddr 3 (.tmp 25) (.tmp 26),none,[]⟩,⟨some 28,.load (some 3) (.tmp 27),none,[]⟩,⟨some 29,.call (.func 18) [.tmp 28],none,[]⟩,⟨some 5,.mov (.tmp 29),none,[]⟩]) (.seq (.ops false [⟨some 30,.mov (.tmp 5),none,[]⟩,⟨some 31,.bin .neq (.tmp 30) (.const (.int .i64 0)),none,[]⟩]) (.cond (.tmp 31) (.seq (.ops false [⟨some 32,.mov (.tmp 5),none,[]⟩,⟨some 2,.mov (.tmp 32),none,[]⟩]) .ret) .skip)))) (.ops false [⟨some 23,.mov (.tmp 4),none,[]⟩,⟨some 24,.bin .add (.tmp 23) (.const (.int .i64 1)),none,[]⟩,⟨some 4,.mov (.tmp 24),none,[]⟩])))
def dk32_0 : Keep := ⟨[],[0,4],[14]⟩
def dc32 : DFunc := ⟨33,1,[.tmp 2],.seq (.ops false [⟨some 2,.mov (.const (.int .i64 0)),none,[]⟩]) (.seq (.seq (.ops false [⟨some 6,.mov (.tmp 0),none,[]⟩,⟨some 7,.len (.tmp 6),none,[]⟩,⟨some 8,.bin .eql (.tmp 7) (.const (.int .i64 0)),none,[]⟩,⟨some 9,.call (.func 62) [.tmp 8,.const (.int .i64 12)],none,[]⟩,⟨some 10,.mov (.tmp 0),none,[]⟩,⟨some 11,.len (.tmp 10),none,[]⟩,⟨some 12,.bin .gtr (.tmp 11) (.const (.int .i64 8)),none,[]⟩,⟨some 13,.call (.func 62) [.tmp 12,.const (.int .i64 5)],none,[]⟩,⟨some 14,.lit true 1 2 (.int .i64 0) [(0,(.tmp 9)),(1,(.tmp 13))],none,[]⟩,⟨some 15,.call (.func 83) [.tmp 14],none,[]⟩,⟨some 3,.mov (.tmp 15),none,[]⟩]) (.seq (.ops false [⟨some 16,.mov (.tmp 3),none,[]⟩,⟨some 17,.bin .neq (.tmp 16) (.const (.int .i64 0)),none,[]⟩]) (.cond (.tmp 17) (.seq (.ops false [⟨some 18,.mov (.tmp 3),none,[]⟩,⟨some 2,.mov (.tmp 18),none,[]⟩]) .ret) .skip))) (.seq (.seq (.ops false [⟨some 4,.mov (.const (.int .i64 0)),none,[]⟩]) (.block 0 (some ⟨[],[],[14]⟩) (.loop dk32_0 db32_0))) (.seq (.ops false [⟨some 2,.mov (.const (.int .i64 0)),none,[]⟩]) .ret)))⟩
theorem dh32:cProg Go.Proofs.Tryz.prog ⟨[(0,⟨[],[0,4],[14]⟩)],[(0,⟨[],[],[14]⟩)],[14]⟩ 32=some dc32:=by kernel_rfl
def db38_0 : DC := (.seq (.seq (.ops false [⟨some 13,.mov (.tmp 4),none,[]⟩,⟨some 14,.mov (.tmp 0),none,[]⟩,⟨some 15,.len (.tmp 14),none,[]⟩,⟨some 16,.bin .lss (.tmp 13) (.tmp 15),none,[]⟩]) (.cond (.tmp 16) .skip (.exit 0))) (.seq (.block 1 none (.seq (.ops false [⟨some 19,.mov (.tmp 3),none,[]⟩,⟨some 20,.mov (.tmp 0),none,[]⟩,⟨some 21,.mov (.tmp 4),none,[]⟩,⟨some 22,.iaddr 1 (.tmp 20) (.tmp 21),none,[]⟩,⟨some 23,.load none (.tmp 22),none,[]⟩,⟨some 24,.len (.tmp 23),none,[]⟩,⟨some 25,.bin .add (.tmp 19) (.tmp 24),none,[]⟩,⟨some 3,.mov (.tmp 25),none,[]⟩]) (.seq (.ops false [⟨some 26,.mov (.tmp 0),none,[]⟩,⟨some 27,.mov (.tmp 4),none,[]⟩,⟨some 28,.iaddr 1 (.tmp 26) (.tmp 27),none,[]⟩,⟨some 29,.load none (.tmp 28),none,[]⟩,⟨some 30,.call (.func 27) [.tmp 29],none,[]⟩,⟨some 31,.un .not (.tmp 30),none,[]⟩]) (.cond (.tmp 31) (.seq (.ops false [⟨some 2,.mov (.const (.bool false)),none,[]⟩]) .ret) .skip)))) (.ops false [⟨some 17,.mov (.tmp 4),none,[]⟩,⟨some 18,.bin .add (.tmp 17) (.const (.int .i64 1)),none,[]⟩,⟨some 4,.mov (.tmp 18),none,[]⟩])))
def dk38_0 : Keep := ⟨[],[0,3,4],[]⟩
def dc38 : DFunc := ⟨34,1,[.tmp 2],.seq (.ops false [⟨some 2,.mov (.const (.bool false)),none,[]⟩]) (.seq (.seq (.ops false [⟨some 5,.mov (.tmp 0),none,[]⟩,⟨some 6,.len (.tmp 5),none,[]⟩,⟨some 7,.bin .gtr (.tmp 6) (.const (.int .i64 4)),none,[]⟩,⟨some 8,.mov (.tmp 7),none,[]⟩,⟨some 9,.mov (.tmp 0),some (8,true),[]⟩,⟨some 10,.len (.tmp 9),some (8,true),[]⟩,⟨some 11,.bin .neq (.tmp 10) (.const (.int .i64 7)),some (8,true),[]⟩,⟨some 12,.pick (.tmp 8) (.tmp 11) (.const (.bool false)),none,[]⟩]) (.cond (.tmp 12) (.seq (.ops false [⟨some 2,.mov (.const (.bool false)),none,[]⟩]) .ret) .skip)) (.seq (.ops false [⟨some 3,.mov (.const (.int .i64 0)),none,[]⟩]) (.seq (.seq (.ops false [⟨some 4,.mov (.const (.int .i64 0)),none,[]⟩]) (.block 0 (some ⟨[],[3],[]⟩) (.loop dk38_0 db38_0))) (.seq (.ops false [⟨some 32,.mov (.tmp 3),none,[]⟩,⟨some 33,.bin .leq (.tmp 32) (.const (.int .i64 24)),none,[]⟩,⟨some 2,.mov (.tmp 33),none,[]⟩]) .ret))))⟩
theorem dh38:cProg Go.Proofs.Tryz.prog ⟨[(0,⟨[],[0,3,4],[]⟩)],[(0,⟨[],[3],[]⟩)],[]⟩ 38=some dc38:=by kernel_rfl
def db40_0 : DC := (.seq (.ops false [⟨some 9,.bin .lss (.tmp 8) (.tmp 7),none,[]⟩]) (.seq (.cond (.tmp 9) .skip (.exit 0)) (.seq (.block 1 none (.seq (.ops false [⟨some 10,.iaddr 1 (.tmp 6) (.tmp 8),none,[]⟩,⟨some 11,.load none (.tmp 10),none,[]⟩,⟨some 5,.mov (.tmp 11),none,[]⟩]) (.ops false [⟨some 12,.mov (.tmp 3),none,[]⟩,⟨some 13,.mov (.tmp 5),none,[]⟩,⟨some 14,.call (.func 29) [.tmp 13],none,[]⟩,⟨some 15,.lit true 1 1 (.full []) [(0,(.tmp 14))],none,[]⟩,⟨some 16,.append false 1 (.tmp 12) (.tmp 15),none,[]⟩,⟨some 3,.mov (.tmp 16),none,[]⟩]))) (.ops false [⟨some 17,.bin .add (.tmp 8) (.const (.int .i64 1)),none,[]⟩,⟨some 8,.mov (.tmp 17),none,[]⟩]))))
def dk40_0 : Keep := ⟨[(3,1)],[3,6,7,8],[3]⟩
def dc40 : DFunc := ⟨19,1,[.tmp 2],.seq (.ops false [⟨some 2,.mov (.const (.slice none 0 0)),none,[]⟩]) (.seq (.ops false [⟨some 3,.mov (.const (.slice none 0 0)),none,[]⟩]) (.seq (.seq (.ops false [⟨some 6,.mov (.tmp 0),none,[]⟩,⟨some 7,.len (.tmp 6),none,[]⟩,⟨some 8,.mov (.const (.int .i64 0)),none,[]⟩]) (.block 0 (some ⟨[],[3],[3]⟩) (.loop dk40_0 db40_0))) (.seq (.ops false [⟨some 18,.mov (.tmp 3),none,[]⟩,⟨some 2,.mov (.tmp 18),none,[]⟩]) .ret)))⟩
theorem dh40:cProg Go.Proofs.Tryz.prog ⟨[(0,⟨[(3,1)],[3,6,7,8],[3]⟩)],[(0,⟨[],[3],[3]⟩)],[15]⟩ 40=some dc40:=by kernel_rfl
def db45_0 : DC := (.seq (.seq (.ops false [⟨some 19,.mov (.tmp 4),none,[]⟩,⟨some 20,.mov (.tmp 0),none,[]⟩,⟨some 21,.len (.tmp 20),none,[]⟩,⟨some 22,.bin .lss (.tmp 19) (.tmp 21),none,[]⟩]) (.cond (.tmp 22) .skip (.exit 0))) (.seq (.block 1 none (.seq (.ops false [⟨some 25,.mov (.tmp 0),none,[]⟩,⟨some 26,.mov (.tmp 4),none,[]⟩,⟨some 27,.iaddr 1 (.tmp 25) (.tmp 26),none,[]⟩,⟨some 28,.load none (.tmp 27),none,[]⟩,⟨some 29,.call (.func 32) [.tmp 28],none,[]⟩,⟨some 5,.mov (.tmp 29),none,[]⟩]) (.seq (.ops false [⟨some 30,.mov (.tmp 5),none,[]⟩,⟨some 31,.bin .neq (.tmp 30) (.const (.int .i64 0)),none,[]⟩]) (.cond (.tmp 31) (.seq (.ops false [⟨some 32,.mov (.tmp 5),none,[]⟩,⟨some 2,.mov (.tmp 32),none,[]⟩]) .ret) .skip)))) (.ops false [⟨some 23,.mov (.tmp 4),none,[]⟩,⟨some 24,.bin .add (.tmp 23) (.const (.int .i64 1)),none,[]⟩,⟨some 4,.mov (.tmp 24),none,[]⟩])))
def dk45_0 : Keep := ⟨[],[0,4],[14]⟩
def dc45 : DFunc := ⟨33,1,[.tmp 2],.seq (.ops false [⟨some 2,.mov (.const (.int .i64 0)),none,[]⟩]) (.seq (.seq (.ops false [⟨some 6,.mov (.tmp 0),none,[]⟩,⟨some 7,.len (.tmp 6),none,[]⟩,⟨some 8,.bin .eql (.tmp 7) (.const (.int .i64 0)),none,[]⟩,⟨some 9,.call (.func 62) [.tmp 8,.const (.int .i64 12)],none,[]⟩,⟨some 10,.mov (.tmp 0),none,[]⟩,⟨some 11,.len (.tmp 10),none,[]⟩,⟨some 12,.bin .gtr (.tmp 11) (.const (.int .i64 6)),none,[]⟩,⟨some 13,.call (.func 62) [.tmp 12,.const (.int .i64 5)],none,[]⟩,⟨some 14,.lit true 1 2 (.int .i64 0) [(0,(.tmp 9)),(1,(.tmp 13))],none,[]⟩,⟨some 15,.call (.func 83) [.tmp 14],none,[]⟩,⟨some 3,.mov (.tmp 15),none,[]⟩]) (.seq (.ops false [⟨some 16,.mov (.tmp 3),none,[]⟩,⟨some 17,.bin .neq (.tmp 16) (.const (.int .i64 0)),none,[]⟩]) (.cond (.tmp 17) (.seq (.ops false [⟨some 18,.mov (.tmp 3),none,[]⟩,⟨some 2,.mov (.tmp 18),none,[]⟩]) .ret) .skip))) (.seq (.seq (.ops false [⟨some 4,.mov (.const (.int .i64 0)),none,[]⟩]) (.block 0 (some ⟨[],[],[14]⟩) (.loop dk45_0 db45_0))) (.seq (.ops false [⟨some 2,.mov (.const (.int .i64 0)),none,[]⟩]) .ret)))⟩
theorem dh45:cProg Go.Proofs.Tryz.prog ⟨[(0,⟨[],[0,4],[14]⟩)],[(0,⟨[],[],[14]⟩)],[14]⟩ 45=some dc45:=by kernel_rfl
def dc52 : DFunc := ⟨16,3,[.tmp 6],.seq (.ops false [⟨some 6,.mov (.const (.int .i64 0)),none,[]⟩]) (.seq (.ops false [⟨some 7,.mov (.tmp 0),none,[]⟩,⟨some 8,.mov (.tmp 1),none,[]⟩,⟨some 9,.bin .lss (.tmp 7) (.tmp 8),none,[]⟩,⟨some 10,.mov (.tmp 9),none,[]⟩,⟨some 11,.mov (.tmp 0),some (10,false),[]⟩,⟨some 12,.mov (.tmp 2),some (10,false),[]⟩,⟨some 13,.bin .gtr (.tmp 11) (.tmp 12),some (10,false),[]⟩,⟨some 14,.pick (.tmp 10) (.const (.bool true)) (.tmp 13),none,[]⟩,⟨some 15,.call (.func 62) [.tmp 14,.const (.int .i64 3)],none,[]⟩,⟨some 6,.mov (.tmp 15),none,[]⟩]) .ret)⟩
theorem dh52:cProg Go.Proofs.Tryz.prog ⟨[],[],[]⟩ 52=some dc52:=by kernel_rfl
def dc62 : DFunc := ⟨7,2,[.tmp 4],.seq (.ops false [⟨some 4,.mov (.const (.int .i64 0)),none,[]⟩]) (.seq (.seq (.ops false [⟨some 5,.mov (.tmp 0),none,[]⟩]) (.cond (.tmp 5) (.seq (.ops false [⟨some 6,.mov (.tmp 1),none,[]⟩,⟨some 4,.mov (.tmp 6),none,[]⟩]) .ret) .skip)) (.seq (.ops false [⟨some 4,.mov (.const (.int .i64 0)),none,[]⟩]) .ret))⟩
theorem dh62:cProg Go.Proofs.Tryz.prog ⟨[],[],[]⟩ 62=some dc62:=by kernel_rfl
end Sh

namespace Sh
open Go
def db64_0 : DC := (.seq (.ops false [⟨some 11,.bin .lss (.tmp 10) (.tmp 9),none,[]⟩]) (.seq (.cond (.tmp 11) .skip (.exit 0)) (.seq (.block 1 none (.seq (.ops false [⟨some 12,.iaddr 1 (.tmp 8) (.tmp 10),none,[]⟩,⟨some 13,.load none (.tmp 12),none,[]⟩,⟨some 4,.mov (.tmp 13),none,[]⟩]) (.seq (.ops false [⟨some 14,.mov (.tmp 4),none,[]⟩,⟨some 15,.len (.tmp 14),none,[]⟩,⟨some 16,.bin .gtr (.tmp 15) (.const (.int .i64 4)),none,[]⟩]) (.cond (.tmp 16) (.seq (.ops false [⟨some 2,.mov (.const (.bool false)),none,[]⟩]) .ret) .skip)))) (.ops false [⟨some 17,.bin .add (.tmp 10) (.const (.int .i64 1)),none,[]⟩,⟨some 10,.mov (.tmp 17),none,[]⟩]))))
def dk64_0 : Keep := ⟨[],[0,8,9,10],[]⟩
def dc64 : DFunc := ⟨25,1,[.tmp 2],.seq (.ops false [⟨some 2,.mov (.const (.bool false)),none,[]⟩]) (.seq (.seq (.ops false [⟨some 5,.mov (.tmp 0),none,[]⟩,⟨some 6,.len (.tmp 5),none,[]⟩,⟨some 7,.bin .gtr (.tmp 6) (.const (.int .i64 3)),none,[]⟩]) (.cond (.tmp 7) (.seq (.ops false [⟨some 2,.mov (.const (.bool false)),none,[]⟩]) .ret) .skip)) (.seq (.seq (.ops false [⟨some 8,.mov (.tmp 0),none,[]⟩,⟨some 9,.len (.tmp 8),none,[]⟩,⟨some 10,.mov (.const (.int .i64 0)),none,[]⟩]) (.block 0 (some ⟨[],[0],[]⟩) (.loop dk64_0 db64_0))) (.seq (.ops false [⟨some 18,.mov (.tmp 0),none,[]⟩,⟨some 19,.call (.func 38) [.tmp 18],none,[]⟩,⟨some 20,.mov (.tmp 19),none,[]⟩,⟨some 21,.mov (.tmp 0),some (20,true),[]⟩,⟨some 22,.call (.func 45) [.tmp 21],some (20,true),[]⟩,⟨some 23,.bin .eql (.tmp 22) (.const (.int .i64 0)),some (20,true),[]⟩,⟨some 24,.pick (.tmp 20) (.tmp 23) (.const (.bool false)),none,[]⟩,⟨some 2,.mov (.tmp 24),none,[]⟩]) .ret)))⟩
theorem dh64:cProg Go.Proofs.Tryz.prog ⟨[(0,⟨[],[0,8,9,10],[]⟩)],[(0,⟨[],[0],[]⟩)],[]⟩ 64=some dc64:=by kernel_rfl
def db83_0 : DC := (.seq (.seq (.ops false [⟨some 4,.mov (.tmp 3),none,[]⟩,⟨some 5,.mov (.tmp 0),none,[]⟩,⟨some 6,.len (.tmp 5),none,[]⟩,⟨some 7,.bin .lss (.tmp 4) (.tmp 6),none,[]⟩]) (.cond (.tmp 7) .skip (.exit 0))) (.seq (.block 1 none (.seq (.ops false [⟨some 10,.mov (.tmp 0),none,[]⟩,⟨some 11,.mov (.tmp 3),none,[]⟩,⟨some 12,.iaddr 1 (.tmp 10) (.tmp 11),none,[]⟩,⟨some 13,.load none (.tmp 12),none,[]⟩,⟨some 14,.bin .neq (.tmp 13) (.const (.int .i64 0)),none,[]⟩]) (.cond (.tmp 14) (.seq (.ops false [⟨some 15,.mov (.tmp 0),none,[]⟩,⟨some 16,.mov (.tmp 3),none,[]⟩,⟨some 17,.iaddr 1 (.tmp 15) (.tmp 16),none,[]⟩,⟨some 18,.load none (.tmp 17),none,[]⟩,⟨some 2,.mov (.tmp 18),none,[]⟩]) .ret) .skip))) (.ops false [⟨some 8,.mov (.tmp 3),none,[]⟩,⟨some 9,.bin .add (.tmp 8) (.const (.int .i64 1)),none,[]⟩,⟨some 3,.mov (.tmp 9),none,[]⟩])))
def dk83_0 : Keep := ⟨[],[0,3],[]⟩
def dc83 : DFunc := ⟨19,1,[.tmp 2],.seq (.ops false [⟨some 2,.mov (.const (.int .i64 0)),none,[]⟩]) (.seq (.seq (.ops false [⟨some 3,.mov (.const (.int .i64 0)),none,[]⟩]) (.block 0 (some ⟨[],[],[]⟩) (.loop dk83_0 db83_0))) (.seq (.ops false [⟨some 2,.mov (.const (.int .i64 0)),none,[]⟩]) .ret))⟩
theorem dh83:cProg Go.Proofs.Tryz.prog ⟨[(0,⟨[],[0,3],[]⟩)],[(0,⟨[],[],[]⟩)],[]⟩ 83=some dc83:=by kernel_rfl
end Sh

namespace Sh
open Go
theorem befP_zero (t:List Pt):befP t 0=⟨-1,200⟩:=rfl
theorem befP_pos (t:List Pt) (i:Nat) (h:0 < i):befP t i=t.getD (i - 1) P0:=by cases i with
 |zero=>omega
 |succ i=>rfl
theorem befP_succ (t:List Pt) (i:Nat):befP t (i+1)=t.getD i P0:=rfl
end Sh

namespace Sh
open Go Go.Proofs
theorem q_When (b:Bool) (e:Int):PC 62 [.bool b,DV.int .i64 (e)] (DV.int .i64 (whenE b e)):=by
 refine pureCall_ofR dh62 rfl ?_
 conv=>whnf
 refine ⟨fun hb=>?_,fun hb=>?_⟩<;>try (exact absurd hb (by decide))
 all_goals conv=>whnf
 all_goals subst hb;rfl
theorem q_CheckRange (n l h:Int):PC 52 [DV.int .i64 (n),DV.int .i64 (l),DV.int .i64 (h)] (DV.int .i64 (withE n l h)):=by
 refine pureCall_ofR dh52 rfl ?_
 conv=>whnf
 refine ⟨fun hb=>?_,fun hb=>?_⟩<;>try (exact absurd hb (by decide))
 all_goals conv=>whnf
 ·refine .inl ?_
  conv=>whnf
  refine ⟨_,q_When ..,?_⟩
  conv=>whnf
  exact int_eq (by simp_all [withE,whenE];split<;>split<;>omega)
 ·refine .inl ?_
  conv=>whnf
  refine ⟨_,q_When ..,?_⟩
  conv=>whnf
  exact int_eq (by simp_all [withE,whenE])
theorem q_First (l:List Int) (hl:l.length < 4611686018427387904):PC 83 [iL l] (DV.int .i64 (firstE l)):=by
 refine pureCall_ofR dh83 rfl ?_
 conv=>whnf
 refine dwp_loopR (P:=Tryz.prog) (G:=GC) (k:=dk83_0) (b:=db83_0) (α:=Nat) (fun i=>[(0,iL l),(3,DV.int .i64 (i))]) (fun _=>[]) (fun i=>i≤l.length∧firstE l=firstE (l.drop i)) (fun i=>l.length - i) 0 ⟨rfl,rfl,rfl⟩ ⟨Nat.zero_le _,rfl⟩ ?_
 intro i ⟨h1,h2⟩
 conv=>whnf
 refine ⟨fun hb=>?_,fun hb=>?_⟩<;>try (exact absurd hb (by decide))
 ·have hi:i < l.length:=by simpa using hb
  have hd:=firstE_drop l i hi
  conv=>whnf
  rw [getD_enc _ _ (i) 0 hi]
  refine ⟨idxA hi rfl,?_⟩
  conv=>whnf
  refine ⟨fun hb=>?_,fun hb=>?_⟩<;>try (exact absurd hb (by decide))
  ·conv=>whnf
   rw [getD_enc _ _ (i) 0 hi]
   refine ⟨idxA hi rfl,?_⟩
   conv=>whnf
   exact int_eq (by simp_all)
  ·conv=>whnf
   rw [wrap_succ i (by omega)]
   exact ⟨i+1,rfl,rfl,rfl,⟨hi,by simp_all⟩,by omega⟩
 ·conv=>whnf
  have:i=l.length:=by simp at hb;omega
  subst this
  exact int_eq (by rw [h2];simp [firstE])
end Sh

namespace Sh
open Go Go.Proofs
theorem r_CheckTable (t:List Pt) (hl:t.length < 1073741824):PC 24 [tbl t] (DV.int .i64 (chkTab t)):=by
 have e0:((t.map encPt).length:Int)=t.length:=by simp
 refine pureCall_ofR dh24 rfl ?_
 conv=>whnf
 refine .inl ?_
 conv=>whnf
 refine ⟨_,q_When ..,?_⟩
 conv=>whnf
 refine .inl ?_
 conv=>whnf
 refine ⟨_,q_When ..,?_⟩
 conv=>whnf
 refine .inl ?_
 conv=>whnf
 refine ⟨_,q_First [_,_] (by simp),?_⟩
 conv=>whnf
 refine ⟨fun hb=>?_,fun hb=>?_⟩<;>try (exact absurd hb (by decide))
 ·have hb:=of_decide_eq_true hb
  conv=>whnf
  exact int_eq (by rw [e0] at hb ⊢;unfold chkTab sizeE;rw [if_pos hb])
 ·have hb0:=of_decide_eq_false hb
  clear hb
  have hk:chkTab t=chkL true ⟨-1,200⟩ t:=by unfold chkTab sizeE;rw [e0] at hb0;rw [if_neg hb0]
  conv=>whnf
  refine dwp_loopR (P:=Tryz.prog) (G:=GC) (k:=dk24_0) (b:=db24_0) (α:=Nat) (fun i=>[(0,tbl t),(4,DV.int .i64 (i))]) (fun _=>[]) (fun i=>i≤t.length∧chkL true ⟨-1,200⟩ t=chkL (decide (i=0)) (befP t i) (t.drop i)) (fun i=>t.length - i) 0 ⟨rfl,rfl,rfl⟩ ⟨Nat.zero_le _,rfl⟩ ?_
  intro i ⟨h1,h2⟩
  conv=>whnf
  refine ⟨fun hb=>?_,fun hb=>?_⟩
  ·have hi:i < t.length:=by simpa using hb
   conv=>whnf
   rw [getD_enc _ _ (i) P0 hi]
   refine ⟨idxA hi rfl,?_⟩
   conv=>whnf
   refine .inl ?_
   conv=>whnf
   refine ⟨_,q_CheckRange ..,?_⟩
   conv=>whnf
   rw [getD_enc _ _ (i) P0 hi]
   refine ⟨idxA hi rfl,?_⟩
   conv=>whnf
   refine .inl ?_
   conv=>whnf
   refine ⟨_,q_CheckRange ..,?_⟩
   conv=>whnf
   refine .inl ?_
   conv=>whnf
   refine ⟨_,q_First [_,_] (by simp),?_⟩
   conv=>whnf
   refine ⟨by kernel_rfl,?_⟩
   conv=>whnf
   refine ⟨fun hb=>?_,fun hb=>?_⟩<;>try (exact absurd hb (by decide))
   ·have hb:=of_decide_eq_true hb
    have hs:chkL true ⟨-1,200⟩ t=if chkStep (decide (i=0)) (befP t i) (t.getD i P0)≠0 then chkStep (decide (i=0)) (befP t i) (t.getD i P0) else chkL false (t.getD i P0) (t.drop (i+1)):=by rw [h2,drop_getD t i P0 hi];rfl
    conv=>whnf
    exact int_eq (by rw [hk,hs];clear hk hs h2 hb0 e0 h1 hl;grind [chkStep,firstE])
   ·have hb:=of_decide_eq_false hb
    conv=>whnf
    repeat' (first
     |(refine ⟨fun hg=>?_,fun hg=>?_⟩<;>first|contradiction|(conv=>whnf))
     |(refine Or.inl ?_;conv=>whnf)
     |(refine ⟨_,q_When ..,?_⟩;conv=>whnf)
     |(rw [getD_enc _ _ i P0 hi];refine ⟨idxA hi rfl,?_⟩;conv=>whnf)
     |(rw [wrap_pred i (by simp only [decide_eq_true_eq,Int.natCast_pos] at *;omega) (by omega),getD_enc _ _ (i - 1) P0 (by omega)];refine ⟨idxA (by omega) rfl,?_⟩;conv=>whnf)
     |(refine And.intro ?_ ?_;kernel_rfl;conv=>whnf))
    all_goals (try rw [wrap_succ i (by omega)])
    all_goals have hs:chkL true ⟨-1,200⟩ t=if chkStep (decide (i=0)) (befP t i) (t.getD i P0)≠0 then chkStep (decide (i=0)) (befP t i) (t.getD i P0) else chkL false (t.getD i P0) (t.drop (i+1)):=by rw [h2,drop_getD t i P0 hi];rfl
    all_goals first
     |(refine ⟨i+1,rfl,rfl,rfl,⟨hi,?_⟩,Nat.sub_lt_sub_left hi (Nat.lt_succ_self i)⟩;rw [hs];clear hk hs h2 hb0 e0 h1 hl;simp only [Bool.cond_true,Bool.cond_false,Bool.not_false,Bool.not_true,decide_true,Bool.and_true,decide_eq_true_eq,decide_eq_false_iff_not,Int.natCast_eq_zero,Int.natCast_pos,befP_succ] at *;generalize t.getD i P0=p at *;rcases Nat.eq_zero_or_pos i with hz|hz;(subst hz;simp only [befP_zero];grind [chkStep,firstE,withE,whenE]);(rw [befP_pos t i hz] at *;generalize t.getD (i - 1) P0=q at *;grind [chkStep,firstE,withE,whenE]))
     |(refine int_eq ?_;rw [hk,hs];clear hk hs h2 hb0 e0 h1 hl;simp only [Bool.cond_true,Bool.cond_false,Bool.not_false,Bool.not_true,decide_true,Bool.and_true,decide_eq_true_eq,decide_eq_false_iff_not,Int.natCast_eq_zero,Int.natCast_pos,befP_succ] at *;generalize t.getD i P0=p at *;rcases Nat.eq_zero_or_pos i with hz|hz;(subst hz;simp only [befP_zero];grind [chkStep,firstE,withE,whenE]);(rw [befP_pos t i hz] at *;generalize t.getD (i - 1) P0=q at *;grind [chkStep,firstE,withE,whenE]))
  ·have hi:i=t.length:=by have:=of_decide_eq_false hb;rw [e0] at this;omega
   have hn:0 < t.length:=by
    have:=sizeE_zero (n:=t.length) (by unfold sizeE;rw [e0] at hb0;exact Classical.not_not.1 hb0)
    omega
   rw [hk,h2,hi,List.drop_length,befP_pos t _ hn]
   conv=>whnf
   rw [e0,wrap_pred t.length hn (by omega)]
   rw [getD_enc _ _ (t.length - 1) P0 (by omega)]
   refine ⟨⟨by omega,by omega,rfl⟩,?_⟩
   conv=>whnf
   refine .inl ?_
   conv=>whnf
   refine ⟨_,q_When ..,?_⟩
   conv=>whnf
   rfl
end Sh

namespace Sh
open Go Go.Proofs
theorem r_CheckCell (c:Cel) (hl:c.tb.length < 1073741824):PC 18 [encC c] (DV.int .i64 (chkCell c)):=by
 refine pureCall_ofR dh18 rfl ?_
 conv=>whnf
 repeat' (first
  |(refine ⟨fun hg=>?_,fun hg=>?_⟩<;>first|contradiction|(conv=>whnf))
  |(refine Or.inl ?_;conv=>whnf)
  |(refine ⟨_,r_CheckTable _ hl,?_⟩;conv=>whnf)
  |(refine ⟨_,q_CheckRange ..,?_⟩;conv=>whnf)
  |(refine ⟨_,q_First [_,_,_] (by simp),?_⟩;conv=>whnf)
  |(refine And.intro ?_ ?_;kernel_rfl;conv=>whnf))
 rfl
end Sh

namespace Sh
open Go Go.Proofs
theorem r_CheckChain (l:List Cel) (hl:l.length < 1073741824) (hc:∀ c ∈ l,c.tb.length < 1073741824):PC 32 [chn l] (DV.int .i64 (chkChain l)):=by
 have e0:((l.map encC).length:Int)=l.length:=by simp
 refine pureCall_ofR dh32 rfl ?_
 conv=>whnf
 repeat' (first
  |(refine ⟨fun hg=>?_,fun hg=>?_⟩<;>first|contradiction|(conv=>whnf))
  |(refine Or.inl ?_;conv=>whnf)
  |(refine ⟨_,q_When ..,?_⟩;conv=>whnf)
  |(refine ⟨_,q_First [_,_] (by simp),?_⟩;conv=>whnf)
  |(refine And.intro ?_ ?_;kernel_rfl;conv=>whnf))
 ·have hg:=of_decide_eq_true hg
  exact int_eq (by rw [e0] at hg ⊢;unfold chkChain countE;rw [if_pos hg])
 ·have hg:=of_decide_eq_false hg
  have hk:chkChain l=firstE (l.map chkCell):=by rw [e0] at hg;unfold chkChain countE;rw [if_neg hg]
  refine dwp_loopR (P:=Tryz.prog) (G:=GC) (k:=dk32_0) (b:=db32_0) (α:=Nat) (fun i=>[(0,chn l),(4,DV.int .i64 (i))]) (fun _=>[]) (fun i=>i≤l.length∧chkChain l=firstE ((l.map chkCell).drop i)) (fun i=>l.length - i) 0 ⟨rfl,rfl,rfl⟩ ⟨Nat.zero_le _,hk⟩ ?_
  intro i ⟨h1,h2⟩
  conv=>whnf
  refine ⟨fun hb=>?_,fun hb=>?_⟩
  ·have hi:i < l.length:=by simpa using hb
   have hd:=firstE_drop (l.map chkCell) i (by simpa using hi)
   rw [show (l.map chkCell).getD i 0=chkCell (l.getD i C0) by simp [List.getD_eq_getElem?_getD,hi]] at hd
   conv=>whnf
   rw [getD_enc _ _ (i) C0 hi]
   refine ⟨idxA hi rfl,?_⟩
   conv=>whnf
   repeat' (first
    |(refine ⟨fun hg=>?_,fun hg=>?_⟩<;>first|contradiction|(conv=>whnf))
    |(refine Or.inl ?_;conv=>whnf)
    |(refine ⟨_,r_CheckCell _ (hc _ (getD_in C0 hi)),?_⟩;conv=>whnf)
    |(refine And.intro ?_ ?_;kernel_rfl;conv=>whnf))
   ·have hg:=of_decide_eq_true hg
    exact int_eq (by rw [h2,hd,if_pos hg])
   ·have hg:=of_decide_eq_false hg
    rw [wrap_succ i (by omega)]
    exact ⟨i+1,rfl,rfl,rfl,⟨hi,by rw [h2,hd,if_neg hg]⟩,by omega⟩
  ·have hi:i=l.length:=by have:=of_decide_eq_false hb;rw [e0] at this;omega
   conv=>whnf
   exact int_eq (by rw [h2,hi,List.drop_of_length_le (by simp)];rfl)
end Sh

namespace Sh
open Go Go.Proofs
theorem r_ShortTable (t:List Pt):PC 12 [tbl t] (.bool (decide (t.length≤9))):=by
 have e0:((t.map encPt).length:Int)=t.length:=by simp
 refine pureCall_ofR dh12 rfl ?_
 conv=>whnf
 exact bool_eq (by rw [e0];simp;omega)
theorem l_cell (c:Cel) (hl:c.tb.length < 1073741824):PC 15 [encC c] (encC c):=by
 refine pureCall_ofR dh15 rfl ?_
 conv=>whnf
 refine ⟨⟨by simp;omega,fun e he=>by obtain ⟨p,_,rfl⟩:=List.mem_map.1 he;rfl,fun e he=>by simp at he⟩,?_⟩
 rw [show ([]:List DV).reverse++List.map encPt c.tb=List.map encPt c.tb from rfl]
 conv=>whnf
 repeat' (first
  |(refine ⟨fun hg=>?_,fun hg=>?_⟩<;>first|contradiction|(conv=>whnf))
  |(refine Or.inl ?_;conv=>whnf)
  |(refine And.intro ?_ ?_;kernel_rfl;conv=>whnf))
 rfl
def oC (l:List Cel) (i:Nat):List DV:=(l.take i).map encC
theorem oC_len (l:List Cel) (i:Nat) (h:i≤l.length):(oC l i).length=i:=by simp [oC];omega
theorem oC_succ (l:List Cel) (i:Nat) (h:i < l.length):oC l (i+1)=oC l i++[encC (l.getD i C0)]:=take_map_succ _ l i C0 h
theorem l_cells (l:List Cel) (hl:l.length < 1073741824) (hcs:∀ c ∈ l,c.tb.length < 1073741824):PC 29 [chn l] (chn l):=by
 have e0:((l.map encC).length:Int)=l.length:=by simp
 refine pureCall_ofR dh29 rfl ?_
 conv=>whnf
 refine dwp_loopR (P:=Tryz.prog) (G:=GC) (k:=dk29_0) (b:=db29_0) (α:=Nat) (fun i=>[(3,.own 3 0 (oC l i).length (oC l i).length),(6,chn l),(7,.int .i64 (l.map encC).length),(8,DV.int .i64 (i))]) (fun i=>[(3,.row 3 (oC l i) false)]) (fun i=>i≤l.length) (fun i=>l.length - i) 0 ⟨rfl,rfl,rfl⟩ (Nat.zero_le _) ?_
 intro i h1
 conv=>whnf
 refine ⟨fun hb=>?_,fun hb=>?_⟩
 ·have hi:i < l.length:=by simpa using hb
  conv=>whnf
  rw [getD_enc _ _ (i) C0 hi]
  refine ⟨idxA hi rfl,?_⟩
  conv=>whnf
  repeat' (first
   |(refine ⟨fun hg=>?_,fun hg=>?_⟩<;>first|contradiction|(conv=>whnf))
   |(refine Or.inl ?_;conv=>whnf)
   |(refine ⟨_,l_cell _ (hcs _ (getD_in C0 hi)),?_⟩;conv=>whnf)
   |(refine And.intro ?_ ?_;kernel_rfl;conv=>whnf))
  refine ⟨⟨rfl,rfl,rfl,by rw [oC_len l i h1];simp;omega,fun e he=>by simp at he;subst he;rfl⟩,?_⟩
  conv=>whnf
  rw [wrap_succ i (by omega)]
  refine ⟨i+1,rfl,?_,?_,hi,by omega⟩
  ·rw [oC_succ l i hi];rfl
  ·rw [oC_succ l i hi];rfl
 ·have hi:i=l.length:=by have:=of_decide_eq_false hb;rw [e0] at this;omega
  conv=>whnf
  refine ⟨rfl,?_⟩
  rw [window_full,hi]
  show DV.list (oC l l.length)=_
  unfold oC
  rw [List.take_length];rfl
def shortN (n:Nat):Bool:=!(decide (6 < n) && !decide (n=9))
def shortC (l:List Cel):Bool:=shortN l.length && l.all fun c=>decide (c.tb.length≤9)
theorem all_take {α:Type} (p:α→Bool) (l:List α) (i:Nat) (d:α) (hi:i < l.length) (h:(l.take i).all p=true) (h2:p (l.getD i d)=true):(l.take (i+1)).all p=true:=by
 rw [take_snoc l i d hi,List.all_append,h,List.all_cons,h2];rfl
theorem all_not {α:Type} (p:α→Bool) (l:List α) (i:Nat) (d:α) (hi:i < l.length) (h2:p (l.getD i d)=false):l.all p=false:=by
 rw [List.all_eq_false]
 exact ⟨_,getD_in d hi,by rw [h2];simp⟩
theorem r_ShortChain (l:List Cel):PC 27 [chn l] (.bool (shortC l)):=by
 have e0:((l.map encC).length:Int)=l.length:=by simp
 refine pureCall_ofR dh27 rfl ?_
 conv=>whnf
 repeat' (first
  |(refine ⟨fun hg=>?_,fun hg=>?_⟩<;>first|contradiction|(conv=>whnf))
  |(refine Or.inl ?_;conv=>whnf)
  |(refine And.intro ?_ ?_;kernel_rfl;conv=>whnf))
 ·rw [e0] at *
  refine bool_eq ?_
  symm
  rename_i hq
  have hq:=of_decide_eq_true hq
  have hg:=of_decide_eq_true hg
  have:shortN l.length=false:=by simp only [shortN];simp;omega
  unfold shortC;rw [this];rfl
 all_goals
  have hk:shortN l.length=true:=by
   rename_i hq
   rw [e0] at *
   have hq:¬ ((6:Int) < l.length∧¬ ((l.length:Int)=9)):=by simp at hq hg;omega
   simp only [shortN];simp;omega
 all_goals have h9:l.length≤9:=by (simp only [shortN] at hk;simp at hk;omega)
 all_goals refine dwp_loopR (P:=Tryz.prog) (G:=GC) (k:=dk27_0) (b:=db27_0) (α:=Nat) (fun i=>[(0,chn l),(3,DV.int .i64 (i))]) (fun _=>[]) (fun i=>i≤l.length∧(l.take i).all (fun c=>decide (c.tb.length≤9))=true) (fun i=>l.length - i) 0 ⟨rfl,rfl,rfl⟩ ⟨Nat.zero_le _,rfl⟩ ?_
 all_goals intro i ⟨h1,h2⟩
 all_goals conv=>whnf
 all_goals refine ⟨fun hb=>?_,fun hb=>?_⟩
 any_goals
  have hi:i < l.length:=by simpa using hb
  conv=>whnf
  rw [getD_enc _ _ (i) C0 hi]
  refine ⟨idxA hi rfl,?_⟩
  conv=>whnf
  repeat' (first
   |(refine ⟨fun hg=>?_,fun hg=>?_⟩<;>first|contradiction|(conv=>whnf))
   |(refine Or.inl ?_;conv=>whnf)
   |(refine ⟨_,r_ShortTable ..,?_⟩;conv=>whnf)
   |(refine And.intro ?_ ?_;kernel_rfl;conv=>whnf))
  ·have hg:decide ((l.getD i C0).tb.length≤9)=false:=by simpa using hg
   refine bool_eq ?_
   unfold shortC
   rw [all_not _ l i C0 hi hg,Bool.and_false]
  ·have hg:decide ((l.getD i C0).tb.length≤9)=true:=by simpa using hg
   rw [wrap_succ i (by omega)]
   exact ⟨i+1,rfl,rfl,rfl,⟨hi,all_take _ l i C0 hi h2 hg⟩,by omega⟩
 all_goals
  have hi:i=l.length:=by have:=of_decide_eq_false hb;rw [e0] at this;omega
  conv=>whnf
  refine bool_eq ?_
  rw [hi,List.take_length] at h2
  unfold shortC
  rw [hk,h2];rfl
theorem shortC_spec {l:List Cel} (h:shortC l=true):l.length≤9∧∀ c ∈ l,c.tb.length≤9:=by
 unfold shortC at h
 rw [Bool.and_eq_true] at h
 refine ⟨?_,fun c hc=>by simpa using List.all_eq_true.1 h.2 c hc⟩
 have:=h.1
 simp only [shortN] at this
 simp at this
 omega
end Sh

namespace Sh
open Go Go.Proofs
theorem r_CheckField (f:List (List Cel)) (hl:f.length < 1073741824) (hc:∀ l ∈ f,l.length < 1073741824∧∀ c ∈ l,c.tb.length < 1073741824):PC 45 [fld f] (DV.int .i64 (chkField f)):=by
 have e0:((f.map chn).length:Int)=f.length:=by simp
 refine pureCall_ofR dh45 rfl ?_
 conv=>whnf
 repeat' (first
  |(refine ⟨fun hg=>?_,fun hg=>?_⟩<;>first|contradiction|(conv=>whnf))
  |(refine Or.inl ?_;conv=>whnf)
  |(refine ⟨_,q_When ..,?_⟩;conv=>whnf)
  |(refine ⟨_,q_First [_,_] (by simp),?_⟩;conv=>whnf)
  |(refine And.intro ?_ ?_;kernel_rfl;conv=>whnf))
 ·have hg:=of_decide_eq_true hg
  exact int_eq (by rw [e0] at hg ⊢;unfold chkField countE;rw [if_pos hg])
 ·have hg:=of_decide_eq_false hg
  have hk:chkField f=firstE (f.map chkChain):=by rw [e0] at hg;unfold chkField countE;rw [if_neg hg]
  refine dwp_loopR (P:=Tryz.prog) (G:=GC) (k:=dk45_0) (b:=db45_0) (α:=Nat) (fun i=>[(0,fld f),(4,DV.int .i64 (i))]) (fun _=>[]) (fun i=>i≤f.length∧chkField f=firstE ((f.map chkChain).drop i)) (fun i=>f.length - i) 0 ⟨rfl,rfl,rfl⟩ ⟨Nat.zero_le _,hk⟩ ?_
  intro i ⟨h1,h2⟩
  conv=>whnf
  refine ⟨fun hb=>?_,fun hb=>?_⟩
  ·have hi:i < f.length:=by simpa using hb
   have hd:=firstE_drop (f.map chkChain) i (by simpa using hi)
   rw [show (f.map chkChain).getD i 0=chkChain (f.getD i []) by simp [List.getD_eq_getElem?_getD,hi]] at hd
   have hm:=hc _ (getD_in [] hi)
   conv=>whnf
   rw [getD_enc _ _ (i) [] hi]
   refine ⟨idxA hi rfl,?_⟩
   conv=>whnf
   repeat' (first
    |(refine ⟨fun hg=>?_,fun hg=>?_⟩<;>first|contradiction|(conv=>whnf))
    |(refine Or.inl ?_;conv=>whnf)
    |(refine ⟨_,r_CheckChain _ hm.1 hm.2,?_⟩;conv=>whnf)
    |(refine And.intro ?_ ?_;kernel_rfl;conv=>whnf))
   ·have hg:=of_decide_eq_true hg
    exact int_eq (by rw [h2,hd,if_pos hg])
   ·have hg:=of_decide_eq_false hg
    rw [wrap_succ i (by omega)]
    exact ⟨i+1,rfl,rfl,rfl,⟨hi,by rw [h2,hd,if_neg hg]⟩,by omega⟩
  ·have hi:i=f.length:=by have:=of_decide_eq_false hb;rw [e0] at this;omega
   conv=>whnf
   exact int_eq (by rw [h2,hi,List.drop_of_length_le (by simp)];rfl)
end Sh

namespace Sh
open Go Go.Proofs
def oF (f:List (List Cel)) (i:Nat):List DV:=(f.take i).map chn
theorem oF_len (l:List (List Cel)) (i:Nat) (h:i≤l.length):(oF l i).length=i:=by simp [oF];omega
theorem oF_succ (l:List (List Cel)) (i:Nat) (h:i < l.length):oF l (i+1)=oF l i++[chn (l.getD i [])]:=take_map_succ _ l i [] h
theorem l_field (f:List (List Cel)) (hl:LenF f):PC 40 [fld f] (fld f):=by
 have e0:((f.map chn).length:Int)=f.length:=by simp
 have hl1:=hl.1
 refine pureCall_ofR dh40 rfl ?_
 conv=>whnf
 refine dwp_loopR (P:=Tryz.prog) (G:=GC) (k:=dk40_0) (b:=db40_0) (α:=Nat) (fun i=>[(3,.own 3 0 (oF f i).length (oF f i).length),(6,fld f),(7,.int .i64 (f.map chn).length),(8,DV.int .i64 (i))]) (fun i=>[(3,.row 1 (oF f i) false)]) (fun i=>i≤f.length) (fun i=>f.length - i) 0 ⟨rfl,rfl,rfl⟩ (Nat.zero_le _) ?_
 intro i h1
 conv=>whnf
 refine ⟨fun hb=>?_,fun hb=>?_⟩
 ·have hi:i < f.length:=by simpa using hb
  have hm:=hl.2 _ (getD_in [] hi)
  conv=>whnf
  rw [getD_enc _ _ (i) [] hi]
  refine ⟨idxA hi rfl,?_⟩
  conv=>whnf
  repeat' (first
   |(refine ⟨fun hg=>?_,fun hg=>?_⟩<;>first|contradiction|(conv=>whnf))
   |(refine Or.inl ?_;conv=>whnf)
   |(refine ⟨_,l_cells _ hm.1 hm.2,?_⟩;conv=>whnf)
   |(refine And.intro ?_ ?_;kernel_rfl;conv=>whnf))
  refine ⟨⟨rfl,rfl,rfl,by rw [oF_len f i h1];simp;omega,fun e he=>by simp at he;subst he;rfl⟩,?_⟩
  conv=>whnf
  rw [wrap_succ i (by omega)]
  refine ⟨i+1,rfl,?_,?_,hi,by omega⟩
  ·rw [oF_succ f i hi];rfl
  ·rw [oF_succ f i hi];rfl
 ·have hi:i=f.length:=by have:=of_decide_eq_false hb;rw [e0] at this;omega
  conv=>whnf
  refine ⟨rfl,?_⟩
  rw [window_full,hi]
  show DV.list (oF f f.length)=_
  unfold oF
  rw [List.take_length];rfl
end Sh

namespace Sh
open Go
end Sh

set_option maxHeartbeats 1000000
namespace Sh
open Go Go.Proofs
end Sh

namespace Sh
open Go
end Sh

set_option maxHeartbeats 2000000
namespace Sh
open Go Go.Proofs
end Sh

namespace Sh
open Go
end Sh

namespace Sh
open Go Go.Proofs
def shortFN (n:Nat):Bool:=!(decide (4 < n) && !decide (n=7))
def lenT (f:List (List Cel)) (i:Nat):Int:=sumI ((f.take i).map fun l=>(l.length:Int))
theorem lenT_succ (f:List (List Cel)) (i:Nat) (h:i < f.length):lenT f (i+1)=lenT f i+(f.getD i []).length:=by
 unfold lenT;rw [take_map_succ _ f i [] h,sumI_append,sumI_one]
def shortF (f:List (List Cel)):Bool:=shortFN f.length && (f.all shortC && decide (lenT f f.length≤24))
theorem shortC_len {l:List Cel} (h:shortC l=true):l.length≤9:=(shortC_spec h).1
theorem lenT_bd {f:List (List Cel)} {i:Nat} (h:(f.take i).all shortC=true):0≤lenT f i∧lenT f i≤9 * i:=by
 have h1:=sumI_bd (l:=(f.take i).map fun l=>(l.length:Int)) (A:=0) (B:=9) (fun x hx=>by
  obtain ⟨l,hl,rfl⟩:=List.mem_map.1 hx
  have:=shortC_len (List.all_eq_true.1 h l hl)
  omega)
 have h2:((f.take i).map fun l=>(l.length:Int)).length≤i:=by simp;omega
 unfold lenT
 omega
theorem r_ShortField (f:List (List Cel)):PC 38 [fld f] (.bool (shortF f)):=by
 have e0:((f.map chn).length:Int)=f.length:=by simp
 refine pureCall_ofR dh38 rfl ?_
 conv=>whnf
 repeat' (first
  |(refine ⟨fun hg=>?_,fun hg=>?_⟩<;>first|contradiction|(conv=>whnf))
  |(refine Or.inl ?_;conv=>whnf)
  |(refine And.intro ?_ ?_;kernel_rfl;conv=>whnf))
 ·rw [e0] at *
  refine bool_eq ?_
  symm
  rename_i hq
  have hq:=of_decide_eq_true hq
  have hg:=of_decide_eq_true hg
  have:shortFN f.length=false:=by simp only [shortFN];simp;omega
  unfold shortF;rw [this];rfl
 all_goals
  have hk:shortFN f.length=true:=by
   rename_i hq
   rw [e0] at *
   have hq:¬ ((4:Int) < f.length∧¬ ((f.length:Int)=7)):=by simp at hq hg;omega
   simp only [shortFN];simp;omega
 all_goals have h7:f.length≤7:=by (simp only [shortFN] at hk;simp at hk;omega)
 all_goals refine dwp_loopR (P:=Tryz.prog) (G:=GC) (k:=dk38_0) (b:=db38_0) (α:=Nat) (fun i=>[(0,fld f),(3,DV.int .i64 (lenT f i)),(4,DV.int .i64 (i))]) (fun _=>[]) (fun i=>i≤f.length∧(f.take i).all shortC=true) (fun i=>f.length - i) 0 ⟨rfl,rfl,rfl⟩ ⟨Nat.zero_le _,rfl⟩ ?_
 all_goals intro i ⟨h1,h2⟩
 all_goals have hb2:=lenT_bd h2
 all_goals conv=>whnf
 all_goals refine ⟨fun hb=>?_,fun hb=>?_⟩
 any_goals
  have hi:i < f.length:=by simpa using hb
  have e1:(((f.getD i []).map encC).length:Int)=(f.getD i []).length:=by simp
  conv=>whnf
  rw [getD_enc _ _ (i) [] hi]
  refine ⟨idxA hi rfl,?_⟩
  conv=>whnf
  rw [getD_enc _ _ (i) [] hi]
  refine ⟨idxA hi rfl,?_⟩
  conv=>whnf
  repeat' (first
   |(refine ⟨fun hg=>?_,fun hg=>?_⟩<;>first|contradiction|(conv=>whnf))
   |(refine Or.inl ?_;conv=>whnf)
   |(refine ⟨_,r_ShortChain ..,?_⟩;conv=>whnf)
   |(refine And.intro ?_ ?_;kernel_rfl;conv=>whnf))
  ·have hg:shortC (f.getD i [])=false:=by simpa using hg
   refine bool_eq ?_
   unfold shortF
   rw [all_not _ f i [] hi hg,Bool.false_and,Bool.and_false]
  ·have hg:shortC (f.getD i [])=true:=by simpa using hg
   have hq:=shortC_len hg
   rw [wrap_succ i (by omega)]
   refine ⟨i+1,rfl,?_,rfl,⟨hi,all_take _ f i [] hi h2 hg⟩,by omega⟩
   show [(0,fld f),(3,DV.int .i64 (IntKind.i64.wrap (lenT f i+(((f.getD i []).map encC).length:Int)))),_]=_
   rw [e1,wrap_W,W_in (by omega) (by omega),← lenT_succ f i hi];rfl
 all_goals
  have hi:i=f.length:=by have:=of_decide_eq_false hb;rw [e0] at this;omega
  conv=>whnf
  refine bool_eq ?_
  rw [hi,List.take_length] at h2
  unfold shortF
  rw [hk,h2,hi];rfl
theorem shortF_spec {f:List (List Cel)} (h:shortF f=true):f.length≤7∧(∀ l ∈ f,shortC l=true)∧LenF f:=by
 unfold shortF at h
 rw [Bool.and_eq_true,Bool.and_eq_true] at h
 have h7:f.length≤7:=by
  have:=h.1
  simp only [shortFN] at this
  simp at this
  omega
 have hA:=List.all_eq_true.1 h.2.1
 refine ⟨h7,hA,by omega,fun l hl=>?_⟩
 have:=shortC_spec (hA l hl)
 exact ⟨by omega,fun c hc=>by have:=this.2 c hc;omega⟩
end Sh

namespace Sh
open Go Go.Proofs
end Sh

namespace Sh
open Go
def db9_0 : DC := (.seq (.ops false [⟨some 71,.bin .lss (.tmp 70) (.tmp 69),none,[]⟩]) (.seq (.cond (.tmp 71) .skip (.exit 2)) (.seq (.block 3 none (.seq (.ops false [⟨some 72,.mov (.tmp 70),none,[]⟩,⟨some 13,.mov (.tmp 72),none,[]⟩]) (.seq (.ops false [⟨some 14,.mov (.const (.int .i64 0)),none,[]⟩]) (.seq (.seq (.ops false [⟨some 73,.mov (.tmp 11),none,[]⟩,⟨some 74,.mov (.tmp 2),none,[]⟩,⟨some 75,.len (.tmp 74),none,[]⟩,⟨some 76,.bin .lss (.tmp 73) (.tmp 75),none,[]⟩]) (.cond (.tmp 76) (.ops false [⟨some 77,.mov (.tmp 2),none,[]⟩,⟨some 78,.mov (.tmp 11),none,[]⟩,⟨some 79,.iaddr 1 (.tmp 77) (.tmp 78),none,[]⟩,⟨some 80,.load none (.tmp 79),none,[]⟩,⟨some 81,.conv .i64 (.tmp 80),none,[]⟩,⟨some 82,.mov (.tmp 8),none,[]⟩,⟨some 83,.bin .mul (.const (.int .i64 2)) (.tmp 82),none,[]⟩,⟨some 84,.bin .add (.tmp 83) (.const (.int .i64 1)),none,[]⟩,⟨some 85,.bin .rem (.tmp 81) (.tmp 84),none,[]⟩,⟨some 86,.mov (.tmp 8),none,[]⟩,⟨some 87,.bin .sub (.tmp 85) (.tmp 86),none,[]⟩,⟨some 14,.mov (.tmp 87),none,[]⟩]) .skip)) (.seq (.ops false [⟨some 88,.mov (.tmp 0),none,[]⟩,⟨some 89,.mov (.tmp 12),none,[]⟩,⟨some 90,.iaddr 1 (.tmp 88) (.tmp 89),none,[]⟩,⟨some 91,.load none (.tmp 90),none,[]⟩,⟨some 92,.mov (.tmp 13),none,[]⟩,⟨some 93,.iaddr 3 (.tmp 91) (.tmp 92),none,[]⟩,⟨some 94,.faddr 1 1 false (.tmp 93),none,[]⟩,⟨some 95,.load none (.tmp 94),none,[]⟩,⟨some 15,.mov (.tmp 95),none,[]⟩]) (.seq (.ops false [⟨some 96,.mov (.tmp 9),none,[]⟩,⟨some 97,.mov (.tmp 12),none,[]⟩,⟨some 98,.iaddr 1 (.tmp 96) (.tmp 97),none,[]⟩,⟨some 99,.load none (.tmp 98),none,[]⟩,⟨some 100,.mov (.tmp 13),none,[]⟩,⟨some 101,.mov (.tmp 15),none,[]⟩,⟨some 102,.mov (.tmp 14),none,[]⟩,⟨some 103,.mov (.tmp 14),none,[]⟩,⟨some 104,.bin .sub (.const (.int .i64 0)) (.tmp 103),none,[]⟩,⟨some 105,.minmax true (.tmp 102) [.tmp 104],none,[]⟩,⟨some 106,.bin .sub (.tmp 101) (.tmp 105),none,[]⟩,⟨some 107,.minmax true (.const (.int .i64 0)) [.tmp 106],none,[]⟩,⟨some 108,.iaddr 3 (.tmp 99) (.tmp 100),none,[]⟩,⟨some 109,.faddr 1 1 false (.tmp 108),none,[]⟩,⟨none,.store 1 (.tmp 109) (.tmp 107),none,[]⟩]) (.seq (.ops false [⟨some 110,.mov (.tmp 10),none,[]⟩,⟨some 111,.mov (.tmp 12),none,[]⟩,⟨some 112,.iaddr 1 (.tmp 110) (.tmp 111),none,[]⟩,⟨some 113,.load none (.tmp 112),none,[]⟩,⟨some 114,.mov (.tmp 13),none,[]⟩,⟨some 115,.mov (.tmp 15),none,[]⟩,⟨some 116,.mov (.tmp 14),none,[]⟩,⟨some 117,.bin .add (.tmp 115) (.tmp 116),none,[]⟩,⟨some 118,.minmax true (.const (.int .i64 0)) [.tmp 117],none,[]⟩,⟨some 119,.minmax false (.const (.int .i64 1000)) [.tmp 118],none,[]⟩,⟨some 120,.iaddr 3 (.tmp 113) (.tmp 114),none,[]⟩,⟨some 121,.faddr 1 1 false (.tmp 120),none,[]⟩,⟨none,.store 1 (.tmp 121) (.tmp 119),none,[]⟩]) (.ops false [⟨some 122,.mov (.tmp 11),none,[]⟩,⟨some 123,.bin .add (.tmp 122) (.const (.int .i64 1)),none,[]⟩,⟨some 11,.mov (.tmp 123),none,[]⟩])))))))) (.ops false [⟨some 124,.bin .add (.tmp 70) (.const (.int .i64 1)),none,[]⟩,⟨some 70,.mov (.tmp 124),none,[]⟩]))))
def dk9_0 : Keep := ⟨[],[0,2,7,8,9,10,11,12,61,62,69,70],[4,9,10,16,240,242,247,248]⟩
def db9_1 : DC := (.seq (.ops false [⟨some 63,.bin .lss (.tmp 62) (.tmp 61),none,[]⟩]) (.seq (.cond (.tmp 63) .skip (.exit 0)) (.seq (.block 1 (some ⟨[],[0,2,7,8,9,10,11,61,62],[4,9,10,16,240,242,247,248]⟩) (.seq (.ops false [⟨some 64,.mov (.tmp 62),none,[]⟩,⟨some 12,.mov (.tmp 64),none,[]⟩]) (.seq (.ops false [⟨some 65,.mov (.tmp 0),none,[]⟩,⟨some 66,.mov (.tmp 12),none,[]⟩,⟨some 67,.iaddr 1 (.tmp 65) (.tmp 66),none,[]⟩,⟨some 68,.load none (.tmp 67),none,[]⟩,⟨some 69,.len (.tmp 68),none,[]⟩,⟨some 70,.mov (.const (.int .i64 0)),none,[]⟩]) (.block 2 (some ⟨[],[0,2,7,8,9,10,11,61,62],[4,9,10,16,240,242,247,248]⟩) (.loop dk9_0 db9_0))))) (.ops false [⟨some 125,.bin .add (.tmp 62) (.const (.int .i64 1)),none,[]⟩,⟨some 62,.mov (.tmp 125),none,[]⟩]))))
def dk9_1 : Keep := ⟨[],[0,2,7,8,9,10,11,61,62],[4,9,10,16,240,242,247,248]⟩
def db9_2 : DC := (.seq (.ops false [⟨some 234,.bin .lss (.tmp 233) (.tmp 232),none,[]⟩]) (.seq (.cond (.tmp 234) .skip (.exit 4)) (.seq (.block 5 none (.seq (.ops false [⟨some 235,.mov (.tmp 233),none,[]⟩,⟨some 32,.mov (.tmp 235),none,[]⟩]) (.seq (.ops false [⟨some 236,.mov (.tmp 0),none,[]⟩,⟨some 237,.mov (.tmp 32),none,[]⟩,⟨some 238,.iaddr 1 (.tmp 236) (.tmp 237),none,[]⟩,⟨some 239,.load none (.tmp 238),none,[]⟩,⟨some 240,.lit true 1 1 (.full []) [(0,(.tmp 239))],none,[]⟩,⟨some 241,.mov (.tmp 30),none,[]⟩,⟨some 242,.append true 1 (.tmp 240) (.tmp 241),none,[]⟩,⟨some 30,.mov (.tmp 242),none,[]⟩]) (.ops false [⟨some 243,.mov (.tmp 31),none,[]⟩,⟨some 244,.mov (.tmp 0),none,[]⟩,⟨some 245,.iaddr 1 (.tmp 244) (.const (.int .i64 0)),none,[]⟩,⟨some 246,.load none (.tmp 245),none,[]⟩,⟨some 247,.lit true 1 1 (.full []) [(0,(.tmp 246))],none,[]⟩,⟨some 248,.append false 1 (.tmp 243) (.tmp 247),none,[]⟩,⟨some 31,.mov (.tmp 248),none,[]⟩])))) (.ops false [⟨some 249,.bin .add (.tmp 233) (.const (.int .i64 1)),none,[]⟩,⟨some 233,.mov (.tmp 249),none,[]⟩]))))
def dk9_2 : Keep := ⟨[(31,1)],[0,30,31,232,233],[4,9,10,16,31]⟩
def dc9 : DFunc := ⟨294,3,[.tmp 6],.seq (.ops false [⟨some 4,.box 2 (.tmp 1),none,[]⟩,⟨some 6,.mov (.const (.bool false)),none,[]⟩]) (.seq (.seq (.ops false [⟨some 39,.mov (.tmp 0),none,[]⟩,⟨some 40,.call (.func 64) [.tmp 39],none,[]⟩,⟨some 41,.un .not (.tmp 40),none,[]⟩,⟨some 42,.mov (.tmp 41),none,[]⟩,⟨some 43,.mov (.tmp 2),some (42,false),[]⟩,⟨some 44,.len (.tmp 43),some (42,false),[]⟩,⟨some 45,.bin .gtr (.tmp 44) (.const (.int .i64 12)),some (42,false),[]⟩,⟨some 46,.pick (.tmp 42) (.const (.bool true)) (.tmp 45),none,[]⟩]) (.cond (.tmp 46) (.seq (.ops false [⟨some 47,.call (.func 13) [],none,[]⟩,⟨some 6,.mov (.tmp 47),none,[]⟩]) .ret) .skip)) (.seq (.ops true [⟨some 48,.iaddrA 2 1 false (.tmp 4) (.const (.int .i64 0)),none,[]⟩,⟨some 49,.load none (.tmp 48),none,[0]⟩,⟨some 50,.conv .i64 (.tmp 49),none,[1,0]⟩,⟨some 51,.bin .rem (.tmp 50) (.const (.int .i64 801)),none,[2,1,0]⟩,⟨some 52,.iaddrA 2 1 false (.tmp 4) (.const (.int .i64 1)),none,[]⟩,⟨some 53,.load none (.tmp 52),none,[4]⟩,⟨some 54,.conv .i64 (.tmp 53),none,[5,4]⟩,⟨some 55,.bin .rem (.tmp 54) (.const (.int .i64 1001)),none,[6,5,4]⟩,⟨some 7,.mov (.tmp 51),none,[3,2,1,0]⟩,⟨some 8,.mov (.tmp 55),none,[7,6,5,4,8,3,2,1,0]⟩]) (.seq (.ops false [⟨some 56,.mov (.tmp 0),none,[]⟩,⟨some 57,.call (.func 66) [.tmp 56],none,[]⟩,⟨some 58,.mov (.tmp 0),none,[]⟩,⟨some 59,.call (.func 66) [.tmp 58],none,[]⟩,⟨some 9,.mov (.tmp 57),none,[]⟩,⟨some 10,.mov (.tmp 59),none,[]⟩]) (.seq (.ops false [⟨some 11,.mov (.const (.int .i64 0)),none,[]⟩]) (.seq (.seq (.ops false [⟨some 60,.mov (.tmp 0),none,[]⟩,⟨some 61,.len (.tmp 60),none,[]⟩,⟨some 62,.mov (.const (.int .i64 0)),none,[]⟩]) (.block 0 (some ⟨[],[0,7,8,9,10],[4,9,10,16,240,242,247,248]⟩) (.loop dk9_1 db9_1))) (.seq (.ops false [⟨some 127,.mov (.tmp 0),none,[]⟩,⟨some 128,.call (.func 40) [.tmp 127],none,[]⟩,⟨some 129,.mov (.tmp 7),none,[]⟩,⟨some 130,.mov (.tmp 8),none,[]⟩,⟨some 131,.call (.func 51) [.tmp 128,.tmp 129,.tmp 130],none,[]⟩,⟨some 126,.mov (.tmp 131),none,[]⟩,⟨some 132,.extract (.tmp 126) 0,none,[]⟩,⟨some 133,.extract (.tmp 126) 1,none,[]⟩,⟨some 16,.alloc (.agg [.int .i64 0,.int .i64 0]) 2,none,[]⟩,⟨none,.store 2 (.tmp 16) (.tmp 132),none,[]⟩,⟨some 17,.mov (.tmp 133),none,[]⟩]) (.seq (.ops false [⟨some 135,.mov (.tmp 0),none,[]⟩,⟨some 136,.call (.func 40) [.tmp 135],none,[]⟩,⟨some 137,.mov (.tmp 7),none,[]⟩,⟨some 138,.call (.func 41) [.tmp 136,.tmp 137],none,[]⟩,⟨some 134,.mov (.tmp 138),none,[]⟩,⟨some 139,.extract (.tmp 134) 0,none,[]⟩,⟨some 140,.extract (.tmp 134) 1,none,[]⟩,⟨some 18,.mov (.tmp 139),none,[]⟩,⟨some 19,.mov (.tmp 140),none,[]⟩]) (.seq (.ops false [⟨some 142,.mov (.tmp 9),none,[]⟩,⟨some 143,.call (.func 40) [.tmp 142],none,[]⟩,⟨some 144,.mov (.tmp 7),none,[]⟩,⟨some 145,.call (.func 41) [.tmp 143,.tmp 144],none,[]⟩,⟨some 141,.mov (.tmp 145),none,[]⟩,⟨some 146,.extract (.tmp 141) 0,none,[]⟩,⟨some 147,.extract (.tmp 141) 1,none,[]⟩,⟨some 20,.mov (.tmp 146),none,[]⟩,⟨some 21,.mov (.tmp 147),none,[]⟩]) (.seq (.ops false [⟨some 149,.mov (.tmp 10),none,[]⟩,⟨some 150,.call (.func 40) [.tmp 149],none,[]⟩,⟨some 151,.mov (.tmp 7),none,[]⟩,⟨some 152,.call (.func 41) [.tmp 150,.tmp 151],none,[]⟩,⟨some 148,.mov (.tmp 152),none,[]⟩,⟨some 153,.extract (.tmp 148) 0,none,[]⟩,⟨some 154,.extract (.tmp 148) 1,none,[]⟩,⟨some 22,.mov (.tmp 153),none,[]⟩,⟨some 23,.mov (.tmp 154),none,[]⟩]) (.seq (.ops false [⟨some 156,.mov (.tmp 0),none,[]⟩,⟨some 157,.call (.func 40) [.tmp 156],none,[]⟩,⟨some 158,.call (.func 55) [.tmp 157],none,[]⟩,⟨some 155,.mov (.tmp 158),none,[]⟩,⟨some 159,.extract (.tmp 155) 0,none,[]⟩,⟨some 160,.extract (.tmp 155) 1,none,[]⟩,⟨some 161,.extract (.tmp 155) 2,none,[]⟩,⟨some 24,.mov (.tmp 159),none,[]⟩,⟨some 25,.mov (.tmp 160),none,[]⟩,⟨some 26,.mov (.tmp 161),none,[]⟩]) (.seq (.ops false [⟨some 163,.mov (.tmp 9),none,[]⟩,⟨some 164,.call (.func 40) [.tmp 163],none,[]⟩,⟨some 165,.call (.func 55) [.tmp 164],none,[]⟩,⟨some 162,.mov (.tmp 165),none,[]⟩,⟨some 166,.extract (.tmp 162) 0,none,[]⟩,⟨some 167,.extract (.tmp 162) 1,none,[]⟩,⟨some 168,.extract (.tmp 162) 2,none,[]⟩,⟨some 27,.mov (.tmp 166),none,[]⟩,⟨some 28,.mov (.tmp 167),none,[]⟩,⟨some 29,.mov (.tmp 168),none,[]⟩]) (.seq (.seq (.ops false [⟨some 169,.mov (.tmp 17),none,[]⟩,⟨some 170,.bin .neq (.tmp 169) (.const (.int .i64 0)),none,[]⟩,⟨some 171,.mov (.tmp 170),none,[]⟩,⟨some 172,.mov (.tmp 19),some (171,false),[]⟩,⟨some 173,.bin .neq (.tmp 172) (.const (.int .i64 0)),some (171,false),[]⟩,⟨some 174,.pick (.tmp 171) (.const (.bool true)) (.tmp 173),none,[]⟩,⟨some 175,.mov (.tmp 174),none,[]⟩,⟨some 176,.mov (.tmp 21),some (175,false),[]⟩,⟨some 177,.bin .neq (.tmp 176) (.const (.int .i64 0)),some (175,false),[]⟩,⟨some 178,.pick (.tmp 175) (.const (.bool true)) (.tmp 177),none,[]⟩,⟨some 179,.mov (.tmp 178),none,[]⟩,⟨some 180,.mov (.tmp 23),some (179,false),[]⟩,⟨some 181,.bin .neq (.tmp 180) (.const (.int .i64 0)),some (179,false),[]⟩,⟨some 182,.pick (.tmp 179) (.const (.bool true)) (.tmp 181),none,[]⟩,⟨some 183,.mov (.tmp 182),none,[]⟩,⟨some 184,.mov (.tmp 26),some (183,false),[]⟩,⟨some 185,.bin .neq (.tmp 184) (.const (.int .i64 0)),some (183,false),[]⟩,⟨some 186,.pick (.tmp 183) (.const (.bool true)) (.tmp 185),none,[]⟩,⟨some 187,.mov (.tmp 186),none,[]⟩,⟨some 188,.mov (.tmp 29),some (187,false),[]⟩,⟨some 189,.bin .neq (.tmp 188) (.const (.int .i64 0)),some (187,false),[]⟩,⟨some 190,.pick (.tmp 187) (.const (.bool true)) (.tmp 189),none,[]⟩,⟨some 191,.mov (.tmp 190),none,[]⟩,⟨some 192,.mov (.tmp 20),some (191,false),[]⟩,⟨some 193,.mov (.tmp 18),some (191,false),[]⟩,⟨some 194,.bin .gtr (.tmp 192) (.tmp 193),some (191,false),[]⟩,⟨some 195,.pick (.tmp 191) (.const (.bool true)) (.tmp 194),none,[]⟩,⟨some 196,.mov (.tmp 195),none,[]⟩,⟨some 197,.mov (.tmp 18),some (196,false),[]⟩,⟨some 198,.faddr 0 1 false (.tmp 16),some (196,false),[]⟩,⟨some 199,.load none (.tmp 198),some (196,false),[]⟩,⟨some 200,.bin .lss (.tmp 197) (.tmp 199),some (196,false),[]⟩,⟨some 201,.pick (.tmp 196) (.const (.bool true)) (.tmp 200),none,[]⟩,⟨some 202,.mov (.tmp 201),none,[]⟩,⟨some 203,.mov (.tmp 18),some (202,false),[]⟩,⟨some 204,.faddr 1 1 false (.tmp 16),some (202,false),[]⟩,⟨some 205,.load none (.tmp 204),some (202,false),[]⟩,⟨some 206,.bin .gtr (.tmp 203) (.tmp 205),some (202,false),[]⟩,⟨some 207,.pick (.tmp 202) (.const (.bool true)) (.tmp 206),none,[]⟩,⟨some 208,.mov (.tmp 207),none,[]⟩,⟨some 209,.mov (.tmp 22),some (208,false),[]⟩,⟨some 210,.faddr 0 1 false (.tmp 16),some (208,false),[]⟩,⟨some 211,.load none (.tmp 210),some (208,false),[]⟩,⟨some 212,.bin .lss (.tmp 209) (.tmp 211),some (208,false),[]⟩,⟨some 213,.pick (.tmp 208) (.const (.bool true)) (.tmp 212),none,[]⟩,⟨some 214,.mov (.tmp 213),none,[]⟩,⟨some 215,.mov (.tmp 22),some (214,false),[]⟩,⟨some 216,.faddr 1 1 false (.tmp 16),some (214,false),[]⟩,⟨some 217,.load none (.tmp 216),some (214,false),[]⟩,⟨some 218,.bin .gtr (.tmp 215) (.tmp 217),some (214,false),[]⟩,⟨some 219,.pick (.tmp 214) (.const (.bool true)) (.tmp 218),none,[]⟩,⟨some 220,.mov (.tmp 219),none,[]⟩,⟨some 221,.mov (.tmp 20),some (220,false),[]⟩,⟨some 222,.faddr 0 1 false (.tmp 16),some (220,false),[]⟩,⟨some 223,.load none (.tmp 222),some (220,false),[]⟩,⟨some 224,.bin .lss (.tmp 221) (.tmp 223),some (220,false),[]⟩,⟨some 225,.pick (.tmp 220) (.const (.bool true)) (.tmp 224),none,[]⟩,⟨some 226,.mov (.tmp 225),none,[]⟩,⟨some 227,.mov (.tmp 28),some (226,false),[]⟩,⟨some 228,.mov (.tmp 25),some (226,false),[]⟩,⟨some 229,.bin .gtr (.tmp 227) (.tmp 228),some (226,false),[]⟩,⟨some 230,.pick (.tmp 226) (.const (.bool true)) (.tmp 229),none,[]⟩]) (.cond (.tmp 230) (.seq (.ops false [⟨some 6,.mov (.const (.bool false)),none,[]⟩]) .ret) .skip)) (.seq (.ops false [⟨some 30,.mov (.const (.slice none 0 0)),none,[]⟩,⟨some 31,.mov (.const (.slice none 0 0)),none,[]⟩]) (.seq (.seq (.ops false [⟨some 231,.mov (.tmp 0),none,[]⟩,⟨some 232,.len (.tmp 231),none,[]⟩,⟨some 233,.mov (.const (.int .i64 0)),none,[]⟩]) (.block 4 (some ⟨[],[0,30,31],[4,9,10,16,31]⟩) (.loop dk9_2 db9_2))) (.seq (.ops false [⟨some 251,.mov (.tmp 0),none,[]⟩,⟨some 252,.call (.func 40) [.tmp 251],none,[]⟩,⟨some 253,.call (.func 44) [.tmp 252],none,[]⟩,⟨some 250,.mov (.tmp 253),none,[]⟩,⟨some 254,.extract (.tmp 250) 0,none,[]⟩,⟨some 255,.extract (.tmp 250) 1,none,[]⟩,⟨some 33,.mov (.tmp 254),none,[]⟩,⟨some 34,.mov (.tmp 255),none,[]⟩]) (.seq (.ops false [⟨some 257,.mov (.tmp 30),none,[]⟩,⟨some 258,.call (.func 40) [.tmp 257],none,[]⟩,⟨some 259,.call (.func 44) [.tmp 258],none,[]⟩,⟨some 256,.mov (.tmp 259),none,[]⟩,⟨some 260,.extract (.tmp 256) 0,none,[]⟩,⟨some 261,.extract (.tmp 256) 1,none,[]⟩,⟨some 35,.mov (.tmp 260),none,[]⟩,⟨some 36,.mov (.tmp 261),none,[]⟩]) (.seq (.ops false [⟨some 263,.mov (.tmp 31),none,[]⟩,⟨some 264,.call (.func 40) [.tmp 263],none,[]⟩,⟨some 265,.call (.func 44) [.tmp 264],none,[]⟩,⟨some 262,.mov (.tmp 265),none,[]⟩,⟨some 266,.extract (.tmp 262) 0,none,[]⟩,⟨some 267,.extract (.tmp 262) 1,none,[]⟩,⟨some 37,.mov (.tmp 266),none,[]⟩,⟨some 38,.mov (.tmp 267),none,[]⟩]) (.seq (.ops false [⟨some 268,.mov (.tmp 34),none,[]⟩,⟨some 269,.bin .eql (.tmp 268) (.const (.int .i64 0)),none,[]⟩,⟨some 270,.mov (.tmp 269),none,[]⟩,⟨some 271,.mov (.tmp 36),some (270,true),[]⟩,⟨some 272,.bin .eql (.tmp 271) (.const (.int .i64 0)),some (270,true),[]⟩,⟨some 273,.pick (.tmp 270) (.tmp 272) (.const (.bool false)),none,[]⟩,⟨some 274,.mov (.tmp 273),none,[]⟩,⟨some 275,.mov (.tmp 38),some (274,true),[]⟩,⟨some 276,.bin .eql (.tmp 275) (.const (.int .i64 0)),some (274,true),[]⟩,⟨some 277,.pick (.tmp 274) (.tmp 276) (.const (.bool false)),none,[]⟩,⟨some 278,.mov (.tmp 277),none,[]⟩,⟨some 279,.mov (.tmp 33),some (278,true),[]⟩,⟨some 280,.bin .geq (.tmp 279) (.const (.int .i64 0)),some (278,true),[]⟩,⟨some 281,.pick (.tmp 278) (.tmp 280) (.const (.bool false)),none,[]⟩,⟨some 282,.mov (.tmp 281),none,[]⟩,⟨some 283,.mov (.tmp 35),some (282,true),[]⟩,⟨some 284,.mov (.tmp 33),some (282,true),[]⟩,⟨some 285,.bin .eql (.tmp 283) (.tmp 284),some (282,true),[]⟩,⟨some 286,.pick (.tmp 282) (.tmp 285) (.const (.bool false)),none,[]⟩,⟨some 287,.mov (.tmp 286),none,[]⟩,⟨some 288,.mov (.tmp 37),some (287,true),[]⟩,⟨some 289,.bin .eql (.tmp 288) (.const (.int .i64 0)),some (287,true),[]⟩,⟨some 290,.pick (.tmp 287) (.tmp 289) (.const (.bool false)),none,[]⟩,⟨some 291,.mov (.tmp 290),none,[]⟩,⟨some 292,.call (.func 13) [],some (291,true),[]⟩,⟨some 293,.pick (.tmp 291) (.tmp 292) (.const (.bool false)),none,[]⟩,⟨some 6,.mov (.tmp 293),none,[]⟩]) .ret))))))))))))))))))⟩
theorem dh9:cProg Go.Proofs.Tryz.prog ⟨[(0,⟨[],[0,2,7,8,9,10,11,61,62],[4,9,10,16,240,242,247,248]⟩),(2,⟨[],[0,2,7,8,9,10,11,12,61,62,69,70],[4,9,10,16,240,242,247,248]⟩),(4,⟨[(31,1)],[0,30,31,232,233],[4,9,10,16,31]⟩)],[(2,⟨[],[0,2,7,8,9,10,11,61,62],[4,9,10,16,240,242,247,248]⟩),(1,⟨[],[0,2,7,8,9,10,11,61,62],[4,9,10,16,240,242,247,248]⟩),(0,⟨[],[0,7,8,9,10],[4,9,10,16,240,242,247,248]⟩),(4,⟨[],[0,30,31],[4,9,10,16,31]⟩)],[240,242,247]⟩ 9=some dc9:=by kernel_rfl
end Sh

namespace Sh
open Go
def db66_0 : DC := (.seq (.seq (.ops false [⟨some 14,.mov (.tmp 6),none,[]⟩,⟨some 15,.mov (.tmp 0),none,[]⟩,⟨some 16,.mov (.tmp 4),none,[]⟩,⟨some 17,.iaddr 1 (.tmp 15) (.tmp 16),none,[]⟩,⟨some 18,.load none (.tmp 17),none,[]⟩,⟨some 19,.len (.tmp 18),none,[]⟩,⟨some 20,.bin .lss (.tmp 14) (.tmp 19),none,[]⟩]) (.cond (.tmp 20) .skip (.exit 2))) (.seq (.block 3 none (.seq (.ops false [⟨some 23,.mov (.tmp 0),none,[]⟩,⟨some 24,.mov (.tmp 4),none,[]⟩,⟨some 25,.iaddr 1 (.tmp 23) (.tmp 24),none,[]⟩,⟨some 26,.load none (.tmp 25),none,[]⟩,⟨some 27,.mov (.tmp 6),none,[]⟩,⟨some 28,.iaddr 3 (.tmp 26) (.tmp 27),none,[]⟩,⟨some 29,.load (some 3) (.tmp 28),none,[]⟩,⟨some 7,.alloc (.agg [.full [],.int .i64 0,.int .i64 0]) 3,none,[]⟩,⟨none,.store 3 (.tmp 7) (.tmp 29),none,[]⟩]) (.seq (.ops false [⟨some 30,.lit true 2 0 (.agg [.int .i64 0,.int .i64 0]) [],none,[]⟩,⟨some 31,.faddr 0 1 false (.tmp 7),none,[]⟩,⟨some 32,.load none (.tmp 31),none,[]⟩,⟨some 33,.append true 2 (.tmp 30) (.tmp 32),none,[]⟩,⟨some 34,.faddr 0 1 false (.tmp 7),none,[]⟩,⟨none,.store 1 (.tmp 34) (.tmp 33),none,[]⟩]) (.ops false [⟨some 35,.mov (.tmp 5),none,[]⟩,⟨some 36,.load (some 3) (.tmp 7),none,[]⟩,⟨some 37,.lit true 3 1 (.agg [.full [],.int .i64 0,.int .i64 0]) [(0,(.tmp 36))],none,[]⟩,⟨some 38,.appendN 3 3 (.tmp 35) (.tmp 37),none,[]⟩,⟨some 5,.mov (.tmp 38),none,[]⟩])))) (.ops false [⟨some 21,.mov (.tmp 6),none,[]⟩,⟨some 22,.bin .add (.tmp 21) (.const (.int .i64 1)),none,[]⟩,⟨some 6,.mov (.tmp 22),none,[]⟩])))
def dk66_0 : Keep := ⟨[],[0,3,4,5,6],[3,41,42]⟩
def db66_1 : DC := (.seq (.seq (.ops false [⟨some 8,.mov (.tmp 4),none,[]⟩,⟨some 9,.mov (.tmp 0),none,[]⟩,⟨some 10,.len (.tmp 9),none,[]⟩,⟨some 11,.bin .lss (.tmp 8) (.tmp 10),none,[]⟩]) (.cond (.tmp 11) .skip (.exit 0))) (.seq (.block 1 (some ⟨[],[0,3,4],[3]⟩) (.seq (.ops false [⟨some 5,.mov (.const (.slice none 0 0)),none,[]⟩]) (.seq (.seq (.ops false [⟨some 6,.mov (.const (.int .i64 0)),none,[]⟩]) (.block 2 (some ⟨[],[0,3,4,5],[3,41,42]⟩) (.loop dk66_0 db66_0))) (.ops false [⟨some 39,.mov (.tmp 3),none,[]⟩,⟨some 40,.mov (.tmp 5),none,[]⟩,⟨some 41,.litV 1 1 (.full []) [(0,(.tmp 40))],none,[]⟩,⟨some 42,.append false 1 (.tmp 39) (.tmp 41),none,[]⟩,⟨some 3,.mov (.tmp 42),none,[]⟩])))) (.ops false [⟨some 12,.mov (.tmp 4),none,[]⟩,⟨some 13,.bin .add (.tmp 12) (.const (.int .i64 1)),none,[]⟩,⟨some 4,.mov (.tmp 13),none,[]⟩])))
def dk66_1 : Keep := ⟨[(3,1010003)],[0,3,4],[3]⟩
def dc66 : DFunc := ⟨44,1,[.tmp 2],.seq (.ops false [⟨some 2,.mov (.const (.slice none 0 0)),none,[]⟩]) (.seq (.ops false [⟨some 3,.mov (.const (.slice none 0 0)),none,[]⟩]) (.seq (.seq (.ops false [⟨some 4,.mov (.const (.int .i64 0)),none,[]⟩]) (.block 0 (some ⟨[],[3],[3]⟩) (.loop dk66_1 db66_1))) (.seq (.ops false [⟨some 43,.mov (.tmp 3),none,[]⟩,⟨some 2,.mov (.tmp 43),none,[]⟩]) .ret)))⟩
theorem dh66:cProg Go.Proofs.Tryz.prog ⟨[(0,⟨[(3,1010003)],[0,3,4],[3]⟩),(2,⟨[],[0,3,4,5,6],[3,41,42]⟩)],[(2,⟨[],[0,3,4,5],[3,41,42]⟩),(1,⟨[],[0,3,4],[3]⟩),(0,⟨[],[3],[3]⟩)],[30,33,37,41,2000041,1000038000003]⟩ 66=some dc66:=by kernel_rfl
end Sh

namespace Sh
open Go Go.Proofs
def ownR (f:List (List Cel)) (i:Nat):List DV:=(f.take i).map fun l=>.inn (l.map encC)
theorem ownR_len (f:List (List Cel)) (i:Nat) (h:i≤f.length):(ownR f i).length=i:=by simp [ownR];omega
theorem ownR_succ (f:List (List Cel)) (i:Nat) (h:i < f.length):ownR f (i+1)=ownR f i++[.inn ((f.getD i []).map encC)]:=take_map_succ _ f i [] h
def clR (l:List Cel) (k:Nat):List DV:=(l.take k).map encC
theorem clR_len (l:List Cel) (k:Nat) (h:k≤l.length):(clR l k).length=k:=by simp [clR];omega
theorem clR_succ (l:List Cel) (k:Nat) (h:k < l.length):clR l (k+1)=clR l k++[encC (l.getD k C0)]:=take_map_succ _ l k C0 h
def lV (l:List Cel) (n:Nat):Nat→DV
 |0=>.full []
 |k+1=>.sub 3 n 0 (clR l (k+1)).length (clR l (k+1)).length
def pdV (l:List Cel) (n:Nat):Nat→Option (Nat×List DV)
 |0=>none
 |k+1=>some (n,clR l (k+1))
theorem r_Own (f:List (List Cel)) (hl:LenF f) (hne:∀ l ∈ f,l≠[]):HCall Tryz.prog GC 66 [fld f] [] (.own 3 0 (ownR f f.length).length (ownR f f.length).length) [(3,.nrow 1 0 3 (ownR f f.length) none)]:=by
 have e0:((f.map chn).length:Int)=f.length:=by simp
 obtain ⟨hl1,hl2⟩:=hl
 refine hCall_ofR dh66 rfl (by kernel_rfl) (by kernel_rfl) ?_
 conv=>whnf
 refine dwp_loopR (P:=Tryz.prog) (G:=GC) (k:=dk66_1) (b:=db66_1) (α:=Nat) (fun i=>[(0,fld f),(3,.own 3 0 (ownR f i).length (ownR f i).length),(4,DV.int .i64 (i))]) (fun i=>[(3,.nrow 1 0 3 (ownR f i) none)]) (fun i=>i≤f.length) (fun i=>f.length - i) 0 ⟨rfl,rfl,rfl⟩ (Nat.zero_le _) ?_
 intro i h1
 conv=>whnf
 refine ⟨fun hb=>?_,fun hb=>?_⟩
 ·have hi:i < f.length:=by simpa using hb
  clear hb
  have hlm:=hl2 _ (getD_in [] hi)
  have hnn:=hne _ (getD_in [] hi)
  have hol:=ownR_len f i h1
  conv=>whnf
  generalize hL:f.getD i []=l at *
  obtain ⟨g1,g2⟩:=hlm
  refine dwp_loopR (P:=Tryz.prog) (G:=GC) (k:=dk66_0) (b:=db66_0) (α:=Nat) (fun k=>[(0,fld f),(3,.own 3 0 (ownR f i).length (ownR f i).length),(4,DV.int .i64 (i)),(5,lV l (ownR f i).length k),(6,DV.int .i64 (k))]) (fun k=>[(3,.nrow 1 0 3 (ownR f i) (pdV l (ownR f i).length k))]) (fun k=>k≤l.length) (fun k=>l.length - k) 0 ⟨rfl,rfl,rfl⟩ (Nat.zero_le _) ?_
  intro k h2
  conv=>whnf
  rw [getD_enc _ _ (i) [] hi]
  refine ⟨idxA hi rfl,?_⟩
  conv=>whnf
  refine ⟨fun hb=>?_,fun hb=>?_⟩
  ·have hk:k < l.length:=by rw [hL] at hb;simpa using hb
   clear hb
   have hcs:=clR_succ l k hk
   have hg2:=g2 _ (getD_in C0 hk)
   conv=>whnf
   rw [getD_enc _ _ (i) [] hi]
   refine ⟨idxA hi rfl,?_⟩
   conv=>whnf
   rw [hL]
   rw [getD_enc _ _ (k) C0 hk]
   refine ⟨idxA hk rfl,?_⟩
   conv=>whnf
   refine ⟨⟨by rw [List.length_map];show 0+_≤_;omega,fun e he=>by obtain ⟨x,_,rfl⟩:=List.mem_map.1 he;rfl,fun e he=>by cases he⟩,?_⟩
   conv=>whnf
   rcases k with _|k
   ·conv=>whnf
    refine ⟨⟨by show 1≤1073741824;decide,fun e he=>by simp at he;subst he;rfl⟩,?_⟩
    conv=>whnf
    rw [wrap_succ 0 (by omega)]
    refine ⟨1,rfl,?_,?_,hk,by omega⟩
    ·have hv:lV l (ownR f i).length 1=.sub 3 (ownR f i).length 0 ([encC (l.getD 0 C0)]:List DV).length ([encC (l.getD 0 C0)]:List DV).length:=by
      show DV.sub 3 _ 0 (clR l (0+1)).length (clR l (0+1)).length=_
      rw [hcs];rfl
     rw [hv];rfl
    ·have hv:pdV l (ownR f i).length 1=some ((ownR f i).length,[encC (l.getD 0 C0)]):=by
      show some (_,clR l (0+1))=_
      rw [hcs];rfl
     rw [hv];rfl
   ·conv=>whnf
    refine ⟨⟨rfl,rfl,rfl,rfl,by rw [clR_len l (k+1) h2];show k+1+1≤1073741824;omega,fun e he=>by simp at he;subst he;rfl⟩,?_⟩
    conv=>whnf
    rw [wrap_succ (k+1) (by omega)]
    refine ⟨k+1+1,rfl,?_,?_,hk,by omega⟩
    ·have hv:lV l (ownR f i).length (k+1+1)=.sub 3 (ownR f i).length 0 (clR l (k+1)++[encC (l.getD (k+1) C0)]).length (clR l (k+1)++[encC (l.getD (k+1) C0)]).length:=by
      show DV.sub 3 _ 0 (clR l (k+1+1)).length (clR l (k+1+1)).length=_
      rw [hcs]
     rw [hv];rfl
    ·have hv:pdV l (ownR f i).length (k+1+1)=some ((ownR f i).length,clR l (k+1)++[encC (l.getD (k+1) C0)]):=by
      show some (_,clR l (k+1+1))=_
      rw [hcs]
     rw [hv];rfl
  ·have hk:k=l.length:=by have:=of_decide_eq_false hb;rw [hL] at this;simp at this;omega
   clear hb
   rcases k with _|k
   ·exact absurd (List.eq_nil_of_length_eq_zero hk.symm) hnn
   conv=>whnf
   refine ⟨⟨rfl,rfl,rfl,by omega,rfl,rfl,rfl,rfl,rfl⟩,?_⟩
   conv=>whnf
   rw [wrap_succ i (by omega)]
   have hr:ownR f (i+1)=ownR f i++[.inn (clR l (k+1))]:=by
    rw [ownR_succ f i hi,hL]
    unfold clR
    rw [hk,List.take_length]
   have hrl:(ownR f (i+1)).length=(ownR f i).length+1:=by rw [hr];simp
   refine ⟨i+1,rfl,?_,?_,hi,by omega⟩
   ·rw [hrl];rfl
   ·rw [hr];rfl
 ·have hi:i=f.length:=by have:=of_decide_eq_false hb;rw [e0] at this;omega
  clear hb
  subst hi
  conv=>whnf
  exact ⟨rfl,rfl⟩
end Sh

namespace Sh
open Go Go.Proofs
theorem ev_sublen {opd:Operand→DV} {lk:Nat→Option DObj} {d:Nat} {x:Operand} {n i off len tot sz c isz:Nat} {es l:List DV} (hc:innOf c (es.getD i .undef)=some l) (hx:opd x=.sub n i off len tot) (hl:lk n=some (.nrow sz c isz es none)) :
  evalOp opd lk d (.len x)=.ok (some (tot=l.length)) (.int .i64 len) []:=by
 unfold evalOp;dsimp only;rw [hx];dsimp only;rw [hl];dsimp only;rw [hc]
theorem ev_subiaddr {opd:Operand→DV} {lk:Nat→Option DObj} {d:Nat} {x y:Operand} {n i off len tot sz c isz:Nat} {es l:List DV} {k:IntKind} {j:Int} (hc:innOf c (es.getD i .undef)=some l) (hx:opd x=.sub n i off len tot) (hy:opd y=.int k j) (hl:lk n=some (.nrow sz c isz es none)) :
  evalOp opd lk d (.iaddr isz x y)=.ok (some (tot=l.length∧0≤j∧j < len)) (.sptr n i (off+j.toNat) 0 tot) []:=by
 unfold evalOp;dsimp only;rw [hy];dsimp only;rw [hx];dsimp only;rw [hl];dsimp only;rw [hc];dsimp only;rw [Nat.beq_refl];rfl
theorem ev_subfaddr {opd:Operand→DV} {lk:Nat→Option DObj} {d:Nat} {x:Operand} {n i j o tot sz c isz off s:Nat} {es l:List DV} {agg:Bool} (hc:innOf c (es.getD i .undef)=some l) (hx:opd x=.sptr n i j o tot) (hl:lk n=some (.nrow sz c isz es none)) :
  evalOp opd lk d (.faddr off s agg x)=.ok (some (tot=l.length)) (.sptr n i j (o+off) tot) []:=by
 unfold evalOp;dsimp only;rw [hx];dsimp only;rw [hl];dsimp only;rw [hc]
theorem ev_substore {opd:Operand→DV} {lk:Nat→Option DObj} {d:Nat} {x y:Operand} {n i j tot sz c:Nat} {es l:List DV} {v:Int} (hc:innOf c (es.getD i .undef)=some l) (hx:opd x=.sptr n i j 1 tot) (hy:opd y=.int .i64 v) (hl:lk n=some (.nrow sz c 3 es none)) :
  evalOp opd lk d (.store 1 x y)=.okF [] (some (tot=l.length∧1+1≤3∧okE 1 (.int .i64 v)=true)) (.tuple []) [(n,.nrow sz c 3 (es.set i (setInn sz c (es.getD i .undef) (l.set j (.agg (setCells (l.getD j .undef).cells 1 [.int .i64 v]))))) none)]:=by
 unfold evalOp;dsimp only;rw [hx];dsimp only;rw [hl];dsimp only;rw [hc];dsimp only;rw [hy];rfl
end Sh

namespace Sh
open Go Go.Proofs
end Sh

namespace Sh
open Go Go.Proofs
end Sh

namespace Sh
open Go Go.Proofs
end Sh

namespace Sh
open Go Go.Proofs
end Sh

namespace Sh
open Go Go.Proofs
end Sh

namespace Sh
open Go
end Sh

namespace Sh
open Go Go.Proofs
end Sh

namespace Sh
open Go Go.Proofs
end Sh

namespace Sh
open Go Go.Proofs
end Sh

namespace Go.Proofs
open Go.Shelf
end Go.Proofs
namespace Sh
open Go Go.Proofs
end Sh

namespace Sh
open Go
end Sh

namespace Sh
open Go Go.Proofs
end Sh

namespace Sh
open Go
end Sh

namespace Sh
open Go Go.Proofs
end Sh

namespace Sh
open Go
theorem sumI_reverse (l:List Int):sumI l.reverse=sumI l:=by
 induction l with
 |nil=>rfl
 |cons x r ih =>
  rw [List.reverse_cons,sumI_append,ih,sumI_one]
  show _=x+sumI r
  omega
theorem firstE_zeros:∀ {l:List Int},(∀ x ∈ l,x=0)→firstE l=0
 |[],_=>rfl
 |x :: r,h=>by
  have h0:=h x (List.mem_cons_self ..)
  have ih:=firstE_zeros (l:=r) (fun y hy=>h y (List.mem_cons_of_mem _ hy))
  simp [firstE,h0,ih]
theorem chkChain_cells {l:List Cel} (h:chkChain l=0):countE l.length 8=0∧∀ c ∈ l,chkCell c=0:=by
 unfold chkChain at h
 split at h
 ·exact absurd h ‹_›
 ·exact ⟨Classical.not_not.1 ‹_›,fun c hc=>firstE_mem h _ (List.mem_map_of_mem hc)⟩
theorem chkChain_of {l:List Cel} (h0:countE l.length 8=0) (h:∀ c ∈ l,chkCell c=0):chkChain l=0:=by
 unfold chkChain
 rw [if_neg (by omega)]
 exact firstE_zeros fun x hx=>by obtain ⟨c,hc,rfl⟩:=List.mem_map.1 hx;exact h c hc
end Sh

namespace Sh
open Go Go.Proofs
end Sh

namespace Sh
open Go Go.Proofs
end Sh

namespace Sh
open Go Go.Proofs
end Sh

namespace Sh
open Go
theorem crv_len' (f:List (List Cel)):(crv f).length=(endF f).toNat+1:=rng_len _ _
theorem crv_get {f:List (List Cel)} {v:Nat} (h:v < (crv f).length):(crv f).getD v 0=curF f v:=by
 rw [crv_len'] at h;exact rng_getD _ _ h
theorem sumI_le {α:Type} {l:List α} {g h:α→Int} (hh:∀ x ∈ l,g x≤h x):sumI (l.map g)≤sumI (l.map h):=by
 induction l with
 |nil=>exact Int.le_refl _
 |cons x r ih =>
  have h1:=ih (fun y hy=>hh y (List.mem_cons_of_mem _ hy))
  have h2:=hh x (List.mem_cons_self ..)
  show g x+sumI (r.map g)≤h x+sumI (r.map h)
  omega
theorem mxL_ge {l:List Int} {x:Int} (hx:x ∈ l):x≤mxL l:=by
 have hge:∀ (l:List Int) (m:Int),(∀ y ∈ l,y≤l.foldl mx m)∧m≤l.foldl mx m:=by
  intro l
  induction l with
  |nil=>intro m;exact ⟨fun y hy=>by simp at hy,Int.le_refl _⟩
  |cons z r ih =>
   intro m
   have h2:=ih (mx m z)
   have h3:=mx_ge m z
   refine ⟨fun y hy=>?_,by show m≤r.foldl mx (mx m z);omega⟩
   show y≤r.foldl mx (mx m z)
   rcases List.mem_cons.1 hy with rfl|hy
   ·omega
   ·exact h2.1 y hy
 exact (hge l 0).1 x hx
theorem OkC.volt_le {c:Cel} (h:OkC c) (n:Int):(voltC c n).1≤(voltC c 0).1:=by
 have h1:=h.1.last_bd
 have h2:=h.2.2.2
 have h3:=vDown_bd c n ((lastX c.tb).toNat+1)
 rw [h.volt0]
 unfold voltC
 simp only
 omega
theorem chV_le {l:List Cel} (h:OkH l) (n:Int):chV l n≤chV l 0:=sumI_le (fun c hc=>(h.2.2 c hc).volt_le n)
theorem hD_none {l:List Cel} {v:Int} (h:∀ n:Int,chV l n < v):∀ k,hD l v k = -1
 |0=>rfl
 |k+1=>by
  have:=h (k:Int)
  unfold hD
  rw [if_neg (by omega)]
  exact hD_none h k
theorem curH_zero {l:List Cel} (h:OkH l) {v:Int} (hv:chV l 0 < v):curH l v=0:=by
 have e:=hD_none (l:=l) (v:=v) (fun n=>by have:=chV_le h n;omega) 201
 unfold curH
 rw [e];rfl
theorem sumI_zero {α:Type} {l:List α} {g:α→Int} (h:∀ x ∈ l,g x=0):sumI (l.map g)=0:=by
 induction l with
 |nil=>rfl
 |cons x r ih =>
  have h1:=ih (fun y hy=>h y (List.mem_cons_of_mem _ hy))
  have h2:=h x (List.mem_cons_self ..)
  show g x+sumI (r.map g)=0
  omega
theorem curF_end {f:List (List Cel)} (h:OkF f) {v:Int} (hv:endF f < v):curF f v=0:=by
 refine sumI_zero (fun l hl=>curH_zero (h.2.2 l hl) ?_)
 have:chV l 0≤endF f:=mxL_ge (List.mem_map.2 ⟨l,hl,rfl⟩)
 omega
theorem hiA_in (l:List Int) (hn:l≠[]):hiA l l.length < l.length:=by
 have hpos:=List.length_pos_iff.2 hn
 have hA:∀ i,i≤l.length→hiA l i < l.length:=by
  intro i
  induction i with
  |zero=>intro _;exact hpos
  |succ i ih=>intro hi;unfold hiA;split;omega;exact ih (by omega)
 exact hA _ (Nat.le_refl _)
end Sh

namespace Sh
open Go
def Dim (c c':Cel):Prop:=c'.tb=c.tb∧c'.dr=c.dr∧c.li≤c'.li
theorem curC_dim {c c':Cel} (hT:OkT c.tb) (h:Dim c c') {v:Int} (hv:0≤v):curC c v≤curC c' v:=by
 unfold curC;rw [h.1]
 exact Int.ediv_le_ediv (by decide) (Int.mul_le_mul_of_nonneg_left h.2.2 (hT.cur_bd hv).1)
theorem vDown_dim {c c':Cel} (hT:OkT c.tb) (h:Dim c c') (hd:0≤c.dr) (n:Int):∀ j,(vDown c n j).1≤(vDown c' n j).1
 |0=>by unfold vDown;rw [h.2.1];exact Int.le_refl _
 |j+1=>by
  have h1:=vDown_dim hT h hd n j
  have h2:=curC_dim hT h (v:=(j:Int)) (by omega)
  have h3:=vDown_bd c n j
  unfold vDown
  split
  ·rw [if_pos (by omega)];exact Int.le_refl _
  ·split
   ·simp only;omega
   ·exact h1
theorem volt_dim {c c':Cel} (hT:OkT c.tb) (h:Dim c c') (hd:0≤c.dr) (n:Int):(voltC c n).1≤(voltC c' n).1:=by
 unfold voltC;rw [h.1];exact vDown_dim hT h hd n _
theorem hD_le {l l':List Cel} {v:Int} (h:∀ n:Int,chV l n≤chV l' n):∀ k,hD l v k≤hD l' v k
 |0=>Int.le_refl _
 |k+1=>by
  have h1:=hD_le (v:=v) h k
  have h2:=hD_bd l v k
  have h3:=h (k:Int)
  unfold hD
  split<;>split<;>omega
theorem curH_le {l l':List Cel} {v:Int} (h:∀ n:Int,chV l n≤chV l' n):curH l v≤curH l' v:=by
 have h1:=hD_le (v:=v) h 201
 unfold curH
 split<;>split<;>omega
def offF (f:List (List Cel)):Nat→Nat
 |0=>0
 |i+1=>offF f i+(f.getD i []).length
def mpC (g:Nat→Cel→Cel) (o:Nat) (l:List Cel):List Cel:=rng l.length fun k=>g (o+k) (l.getD k C0)
def mpF (g:Nat→Cel→Cel) (f:List (List Cel)):List (List Cel):=rng f.length fun i=>mpC g (offF f i) (f.getD i [])
theorem rng_id {α:Type} (l:List α) (d:α):rng l.length (fun k=>l.getD k d)=l:=by
 have:=map_rng (fun x=>x) l d
 simpa using this.symm
theorem mpF_id (f:List (List Cel)):mpF (fun _ c=>c) f=f:=by
 unfold mpF mpC
 rw [show (fun i=>rng (f.getD i []).length fun k=>(f.getD i []).getD k C0)=fun i=>f.getD i [] from funext fun i=>rng_id _ _]
 exact rng_id _ _
theorem mpF_lit (f:List (List Cel)) (b:Int):mpF (fun _ c=>litC b c) f=litF f b:=by
 unfold mpF mpC litF
 rw [map_rng _ f []]
 refine rng_congr fun i hi=>?_
 (try dsimp only)
 rw [map_rng _ _ C0]
def Up (g h:Nat→Cel→Cel):Prop:=∀ n c,OkC c→OkT (g n c).tb∧0≤(g n c).dr∧Dim (g n c) (h n c)
theorem chV_mp {g h:Nat→Cel→Cel} (U:Up g h) {l:List Cel} (hl:∀ c ∈ l,OkC c) (o:Nat) (n:Int):chV (mpC g o l) n≤chV (mpC h o l) n:=by
 unfold chV mpC
 rw [rng_map,rng_map]
 unfold rng
 refine sumI_le fun k hk=>?_
 have hk:=List.mem_range.1 hk
 obtain ⟨a,b,c⟩:=U (o+k) _ (hl _ (getD_in C0 hk))
 exact volt_dim a c b n
theorem curF_mp {g h:Nat→Cel→Cel} (U:Up g h) {f:List (List Cel)} (hf:OkF f) (v:Int):curF (mpF g f) v≤curF (mpF h f) v:=by
 unfold curF mpF
 rw [rng_map,rng_map]
 unfold rng
 refine sumI_le fun i hi=>?_
 have hi:=List.mem_range.1 hi
 exact curH_le fun n=>chV_mp U (hf.2.2 _ (getD_in [] hi)).2.2 _ n
theorem chkF_mp {g:Nat→Cel→Cel} (hg:∀ n c,chkCell c=0→chkCell (g n c)=0) {f:List (List Cel)} (hz:chkField f=0):chkField (mpF g f)=0:=by
 have hc:∀ l ∈ f,chkChain l=0:=fun l hl=>by
  unfold chkField at hz
  split at hz
  ·exact absurd hz ‹_›
  ·exact firstE_mem hz _ (List.mem_map_of_mem hl)
 have h0:countE f.length 6=0:=by
  unfold chkField at hz
  split at hz
  ·exact absurd hz ‹_›
  ·rename_i h;exact Classical.not_not.1 h
 unfold chkField
 have e:(mpF g f).length=f.length:=rng_len _ _
 rw [e,if_neg (by rw [h0];simp)]
 refine firstE_zeros fun x hx=>?_
 obtain ⟨m,hm,rfl⟩:=List.mem_map.1 hx
 obtain ⟨i,hi,rfl⟩:=List.mem_map.1 hm
 have hi:=List.mem_range.1 hi
 obtain ⟨a,b⟩:=chkChain_cells (hc _ (getD_in [] hi))
 refine chkChain_of (by unfold mpC;rw [rng_len];exact a) fun c hc=>?_
 obtain ⟨k,hk,rfl⟩:=List.mem_map.1 hc
 exact hg _ _ (b _ (getD_in C0 (List.mem_range.1 hk)))
theorem chkCell_li {c:Cel} (h:chkCell c=0) {x:Int} (h0:0≤x) (h1:x≤1000):chkCell { c with li:=x }=0:=by
 unfold chkCell at h ⊢
 obtain ⟨a,h⟩:=firstE_cons h
 obtain ⟨_,h⟩:=firstE_cons h
 have e:withE x 0 1000=0:=by unfold withE;rw [if_neg (by omega)]
 show firstE [chkTab c.tb,withE x 0 1000,withE c.dr 0 10]=0
 unfold firstE
 rw [if_neg (by rw [a];simp)]
 unfold firstE
 rw [if_neg (by rw [e];simp)]
 exact h
theorem hi_at {f:List (List Cel)} (h:OkF f):∃ A:Nat,(hiF f).2=(A:Int) * curF f A:=by
 have hn:=(crv_ok h).2
 have hA:=hiA_in (crv f) hn
 refine ⟨hiA (crv f) (crv f).length,?_⟩
 rw [← crv_get hA];rfl
theorem hi_ge {f:List (List Cel)} (h:OkF f) (v:Nat):(v:Int) * curF f v≤(hiF f).2:=by
 have hb:=hiF_bd h
 by_cases hv:v < (crv f).length
 ·have:=hb.2.2 v hv
  rwa [crv_get hv] at this
 ·rw [crv_len'] at hv
  have he:=endF_bd h
  rw [curF_end h (by omega:endF f < (v:Int))]
  simpa using hb.1
theorem hi_le {f f':List (List Cel)} (h1:OkF f) (h2:OkF f') (h:∀ v:Int,curF f v≤curF f' v):(hiF f).2≤(hiF f').2:=by
 obtain ⟨A,e⟩:=hi_at h1
 rw [e]
 exact Int.le_trans (Int.mul_le_mul_of_nonneg_left (h A) (by omega)) (hi_ge h2 A)
theorem curF_one (l:List Cel) (v:Int):curF [l] v=curH l v:=by simp [curF,sumI]
theorem sumI_mul {α:Type} (a:Int) (l:List α) (g:α→Int):sumI (l.map fun x=>a * g x)=a * sumI (l.map g):=by
 induction l with
 |nil=>simp [sumI]
 |cons x r ih =>
  show a * g x+sumI (r.map fun x=>a * g x)=a * (g x+sumI (r.map g))
  rw [ih,Int.mul_add]
theorem misT_all (f:List (List Cel)):misT f f.length=sumI (f.map fun l=>(hiF [l]).2):=by unfold misT;rw [List.take_length]
theorem misF_pos {f:List (List Cel)} (h:OkF f):0≤misF f:=by
 obtain ⟨A,e⟩:=hi_at h
 have h1:(hiF f).2≤sumI (f.map fun l=>(hiF [l]).2):=by
  rw [e];unfold curF
  rw [← sumI_mul]
  refine sumI_le fun l hl=>?_
  rw [← curF_one]
  exact hi_ge (h.one hl) A
 unfold misF;rw [misT_all];omega
theorem mxL_reverse (l:List Int):mxL l.reverse=mxL l:=by
 have key:∀ a b:List Int,(∀ x ∈ a,x ∈ b)→mxL a≤mxL b:=fun a b h=>by
  have h0:0≤mxL b:=by
   have:∀ (l:List Int) (m:Int),m≤l.foldl mx m:=by
    intro l
    induction l with
    |nil=>intro m;exact Int.le_refl _
    |cons z r ih=>intro m;have h2:=ih (mx m z);have h3:=mx_ge m z;show m≤r.foldl mx (mx m z);omega
   exact this b 0
  exact (mxL_bd h0 fun x hx=>mxL_ge (h x hx)).2
 exact Int.le_antisymm (key _ _ fun x hx=>List.mem_reverse.1 hx) (key _ _ fun x hx=>List.mem_reverse.2 hx)
theorem hiF_reverse (f:List (List Cel)):hiF f.reverse=hiF f:=by
 have e1:endF f.reverse=endF f:=by unfold endF;rw [List.map_reverse,mxL_reverse]
 have e2:crv f.reverse=crv f:=by
  unfold crv;rw [e1]
  refine rng_congr fun v _=>?_
  unfold curF;rw [List.map_reverse,sumI_reverse]
 unfold hiF;rw [e2]
theorem misF_reverse (f:List (List Cel)):misF f.reverse=misF f:=by
 unfold misF
 rw [misT_all,misT_all,hiF_reverse,List.map_reverse,sumI_reverse]
theorem sumI_rep (n:Nat) (a:Int):sumI (List.replicate n a)=n * a:=by
 induction n with
 |zero=>simp [sumI]
 |succ n ih =>
  rw [List.replicate_succ]
  show a+sumI (List.replicate n a)=_
  rw [ih,Int.natCast_add,Int.add_mul];omega
theorem misF_same {n:Nat} {l:List Cel} (h:OkF (List.replicate n l)) (h1:OkF [l]):misF (List.replicate n l)=0:=by
 have ec:∀ v:Int,curF (List.replicate n l) v=n * curF [l] v:=fun v=>by
  unfold curF;rw [List.map_replicate,sumI_rep];simp [sumI]
 have e1:misT (List.replicate n l) (List.replicate n l).length=n * (hiF [l]).2:=by rw [misT_all,List.map_replicate,sumI_rep]
 have a1:(hiF (List.replicate n l)).2≤n * (hiF [l]).2:=by
  obtain ⟨A,e⟩:=hi_at h
  rw [e,ec,Int.mul_left_comm]
  exact Int.mul_le_mul_of_nonneg_left (hi_ge h1 A) (by omega)
 have a2:n * (hiF [l]).2≤(hiF (List.replicate n l)).2:=by
  obtain ⟨A,e⟩:=hi_at h1
  rw [e,Int.mul_left_comm,← ec]
  exact hi_ge h A
 unfold misF;rw [e1];omega
theorem chkF_all {f f':List (List Cel)} (hz:chkField f=0) (hl:f'.length=f.length) (hm:∀ l ∈ f',l ∈ f):chkField f'=0:=by
 unfold chkField at hz ⊢
 rw [hl]
 split at hz
 ·exact absurd hz ‹_›
 ·rename_i h
  rw [if_neg h]
  refine firstE_zeros fun x hx=>?_
  obtain ⟨m,hm',rfl⟩:=List.mem_map.1 hx
  exact firstE_mem hz _ (List.mem_map_of_mem (hm m hm'))
end Sh

namespace Sh
open Go Go.Proofs
def gR (g:Nat→Cel→Cel) (o:Nat) (l:List Cel) (k:Nat):List DV:=rng l.length fun m=>encC (if m < k then g (o+m) (l.getD m C0) else l.getD m C0)
def gRow (g:Nat→Cel→Cel) (f:List (List Cel)) (i k j:Nat):List DV:=gR g (offF f j) (f.getD j []) (if j < i then (f.getD j []).length else if j=i then k else 0)
def gO (g:Nat→Cel→Cel) (f:List (List Cel)) (i k:Nat):List DV:=rng f.length fun j=>.inn (gRow g f i k j)
variable {g:Nat→Cel→Cel} {f:List (List Cel)} {i k o:Nat} {l:List Cel}
theorem gR_len (g:Nat→Cel→Cel) (o:Nat) (l:List Cel) (k:Nat):(gR g o l k).length=l.length:=rng_len _ _
theorem gR_get (h:k < l.length):(gR g o l k).getD k .undef=encC (l.getD k C0):=by
 unfold gR;rw [rng_getD _ _ h,if_neg (by omega)]
theorem gR_set:(gR g o l k).set k (encC (g (o+k) (l.getD k C0)))=gR g o l (k+1):=by
 unfold gR
 rw [rng_set]
 refine rng_congr (fun m hm=>?_)
 (try dsimp only)
 by_cases e:m=k
 ·subst e;simp
 ·rw [if_neg e]
  by_cases e2:m < k
  ·rw [if_pos e2,if_pos (by omega)]
  ·rw [if_neg e2,if_neg (by omega)]
theorem gR_zero (g:Nat→Cel→Cel) (o:Nat) (l:List Cel):l.map encC=gR g o l 0:=by
 rw [map_rng encC l C0];unfold gR
 exact rng_congr (fun k hk=>by (try dsimp only);rw [if_neg (by omega)])
theorem gR_all (g:Nat→Cel→Cel) (o:Nat) (l:List Cel):gR g o l l.length=(mpC g o l).map encC:=by
 unfold gR mpC
 rw [rng_map]
 exact rng_congr (fun k hk=>by (try dsimp only);rw [if_pos hk])
theorem gO_len (g:Nat→Cel→Cel) (f:List (List Cel)) (i k:Nat):(gO g f i k).length=f.length:=rng_len _ _
theorem gO_get (h:i < f.length):(gO g f i k).getD i .undef=.inn (gR g (offF f i) (f.getD i []) k):=by
 unfold gO
 rw [rng_getD _ _ h]
 unfold gRow
 rw [if_neg (Nat.lt_irrefl i),if_pos rfl]
theorem gO_set (h:i < f.length):(gO g f i k).set i (.inn (gR g (offF f i) (f.getD i []) (k+1)))=gO g f i (k+1):=by
 unfold gO
 rw [rng_set]
 refine rng_congr fun j hj=>?_
 (try dsimp only)
 by_cases e:j=i
 ·subst e
  rw [if_pos rfl];unfold gRow;rw [if_neg (Nat.lt_irrefl j),if_pos rfl]
 ·rw [if_neg e];unfold gRow;rw [if_neg e,if_neg e]
theorem gO_next:gO g f i (f.getD i []).length=gO g f (i+1) 0:=by
 unfold gO
 refine rng_congr fun j hj=>?_
 unfold gRow
 congr 2
 by_cases e:j=i
 ·subst e;rw [if_neg (Nat.lt_irrefl j),if_pos rfl,if_pos (by omega)]
 ·rw [if_neg e]
  by_cases e2:j < i
  ·rw [if_pos e2,if_pos (by omega)]
  ·rw [if_neg e2,if_neg (by omega)];split<;>rfl
theorem gO_zero (g:Nat→Cel→Cel) (f:List (List Cel)):ownR f f.length=gO g f 0 0:=by
 unfold ownR gO
 rw [List.take_length,map_rng _ f []]
 refine rng_congr fun j hj=>?_
 unfold gRow
 rw [if_neg (Nat.not_lt_zero j)]
 (try dsimp only)
 rw [gR_zero g (offF f j) (f.getD j [])]
 split<;>rfl
theorem gO_all (g:Nat→Cel→Cel) (f:List (List Cel)):(gO g f f.length 0).map closeD=(mpF g f).map chn:=by
 unfold gO mpF
 rw [rng_map,rng_map]
 refine rng_congr fun j hj=>?_
 unfold gRow
 (try dsimp only)
 rw [if_pos hj,gR_all];rfl
end Sh

namespace Sh
open Go Go.Proofs
def smallF (f:List (List Cel)):Bool:=decide (f.length≤3) && ((f.all fun l=>decide (l.length≤4)) && (shortF f && decide (chkField f=0)))
theorem l_small (f:List (List Cel)):PC 64 [fld f] (.bool (smallF f)):=by
 have e0:((f.map chn).length:Int)=f.length:=by simp
 refine pureCall_ofR dh64 rfl ?_
 conv=>whnf
 refine ⟨fun hg=>?_,fun hg=>?_⟩
 ·have hg:=of_decide_eq_true hg
  rw [e0] at hg
  conv=>whnf
  exact bool_eq (by unfold smallF;rw [decide_eq_false (by omega:¬ f.length≤3)];rfl)
 ·have hg:=of_decide_eq_false hg
  rw [e0] at hg
  conv=>whnf
  refine dwp_loopR (P:=Tryz.prog) (G:=GC) (k:=dk64_0) (b:=db64_0) (α:=Nat) (fun i=>[(0,fld f),(8,fld f),(9,.int .i64 (f.map chn).length),(10,DV.int .i64 (i))]) (fun _=>[]) (fun i=>i≤f.length∧((f.take i).all fun l=>decide (l.length≤4))=true) (fun i=>f.length - i) 0 ⟨rfl,rfl,rfl⟩ ⟨Nat.zero_le _,rfl⟩ ?_
  intro i ⟨h1,h2⟩
  conv=>whnf
  refine ⟨fun hb=>?_,fun hb=>?_⟩
  ·have hi:i < f.length:=by simpa using hb
   have e1:(((f.getD i []).map encC).length:Int)=(f.getD i []).length:=by simp
   clear hb
   conv=>whnf
   rw [getD_enc _ _ (i) [] hi]
   refine ⟨idxA hi rfl,?_⟩
   conv=>whnf
   refine ⟨fun hq=>?_,fun hq=>?_⟩
   ·have hq:=of_decide_eq_true hq
    rw [e1] at hq
    conv=>whnf
    refine bool_eq ?_
    unfold smallF
    rw [all_not _ f i [] hi (decide_eq_false (by omega)),Bool.false_and,Bool.and_false]
   ·have hq:=of_decide_eq_false hq
    rw [e1] at hq
    conv=>whnf
    rw [wrap_succ i (by omega)]
    exact ⟨i+1,rfl,rfl,rfl,⟨hi,all_take _ f i [] hi h2 (decide_eq_true (by omega))⟩,by omega⟩
  ·have hi:i=f.length:=by have:=of_decide_eq_false hb;rw [e0] at this;omega
   rw [hi,List.take_length] at h2
   clear hb
   have hsm:smallF f=(shortF f && decide (chkField f=0)):=by
    unfold smallF
    rw [h2,decide_eq_true (by omega:f.length≤3)];rfl
   rw [hsm]
   conv=>whnf
   repeat' (first
    |(refine ⟨fun hg=>?_,fun hg=>?_⟩<;>first|contradiction|(conv=>whnf))
    |(refine Or.inl ?_;conv=>whnf)
    |(refine ⟨_,r_ShortField ..,?_⟩;conv=>whnf)
    |(refine ⟨_,r_CheckField f (shortF_spec (by assumption)).2.2.1 (shortF_spec (by assumption)).2.2.2,?_⟩;conv=>whnf)
    |(refine And.intro ?_ ?_;kernel_rfl;conv=>whnf))
   all_goals (first
    |(refine bool_eq ?_;rw [‹shortF f=true›];rfl)
    |(refine bool_eq ?_;rw [show shortF f=false from ‹_›];rfl)
    |trace_state)
theorem smallF_spec {f:List (List Cel)} (h:smallF f=true):f.length≤3∧shortF f=true∧chkField f=0:=by
 unfold smallF at h
 simp only [Bool.and_eq_true,decide_eq_true_eq] at h
 exact ⟨h.1,h.2.2.1,h.2.2.2⟩
end Sh

set_option maxHeartbeats 4000000
namespace Sh
open Go Go.Proofs
def uL (l:List Int):DV:=.list (l.map (DV.int .u16))
def dOf (by_:List Int) (err:Int) (k:Nat):Int:=if k < by_.length then (by_.getD k 0).tmod (2 * err+1) - err else 0
def lsG (by_:List Int) (err:Int) (n:Nat) (c:Cel):Cel:={ c with li:=minmaxI true 0 (c.li - minmaxI true (dOf by_ err n) (-dOf by_ err n)) }
def otG (by_:List Int) (err:Int) (n:Nat) (c:Cel):Cel:={ c with li:=minmaxI false 1000 (minmaxI true 0 (c.li+dOf by_ err n)) }
theorem offF_bd {f:List (List Cel)} (h:OkF f):∀ i,i≤f.length→offF f i≤8 * i
 |0,_=>Nat.le_refl _
 |i+1,hi=>by
  have h1:=offF_bd h i (by omega)
  have h2:=(h.2.2 _ (getD_in [] (by omega:i < f.length))).2.1
  show offF f i+(f.getD i []).length≤_
  omega
theorem mmT (a b:Int):minmaxI true a b=if b > a then b else a:=rfl
theorem mmF (a b:Int):minmaxI false a b=if b < a then b else a:=rfl
theorem ls_val {by_:List Int} {E:Int} {n:Nat} {c:Cel} {D:Int} (hd:dOf by_ E n=D) (h1 : -1000≤D∧D≤1000) (h2:0≤c.li∧c.li≤1000):minmaxI true 0 (IntKind.i64.wrap (c.li - minmaxI true D (IntKind.i64.wrap (0 - D))))=(lsG by_ E n c).li:=by
 unfold lsG
 rw [hd,show IntKind.i64.wrap (0 - D) = -D by rw [wrap_W,W_in (by omega) (by omega)];omega]
 have : -1000≤minmaxI true D (-D)∧minmaxI true D (-D)≤1000:=by rw [mmT];split<;>omega
 rw [show IntKind.i64.wrap (c.li - minmaxI true D (-D))=c.li - minmaxI true D (-D) from W_in (by omega) (by omega)]
theorem ot_val {by_:List Int} {E:Int} {n:Nat} {c:Cel} {D:Int} (hd:dOf by_ E n=D) (h1 : -1000≤D∧D≤1000) (h2:0≤c.li∧c.li≤1000):minmaxI false 1000 (minmaxI true 0 (IntKind.i64.wrap (c.li+D)))=(otG by_ E n c).li:=by
 unfold otG
 rw [hd,show IntKind.i64.wrap (c.li+D)=c.li+D from W_in (by omega) (by omega)]
theorem OkF.len {f:List (List Cel)} (h:OkF f):LenF f:=⟨by have:=h.2.1;omega,fun l hl=>⟨by have:=(h.2.2 l hl).2.1;omega,fun c hc=>by have:=((h.2.2 l hl).2.2 c hc).1.2.1;omega⟩⟩
theorem withE_i {n l h:Int} (h1:l≤n) (h2:n≤h):withE n l h=0:=by unfold withE;rw [if_neg (by omega)]
theorem bnd_in {f:List (List Cel)} {v e:Int} (hz:chkField f=0) (hv:0≤v∧v≤800) (he:0≤e∧e≤1000):bndS f v e=((curF (litF f (-e)) v,curF (litF f e) v),0):=by
 unfold bndS
 rw [hz,withE_i hv.1 hv.2,withE_i he.1 he.2,if_neg (by simp [firstE])]
theorem fcur_in {f:List (List Cel)} {v:Int} (hz:chkField f=0) (hv:0≤v∧v≤800):fcurS f v=(curF f v,0):=by
 unfold fcurS
 rw [hz,withE_i hv.1 hv.2,if_neg (by simp [firstE])]
theorem dOf_bd {by_:List Int} (hby:∀ x ∈ by_,0≤x∧x≤65535) {E:Int} (hE:0≤E) (n:Nat) : -E≤dOf by_ E n∧dOf by_ E n≤E:=by
 unfold dOf
 split
 ·rename_i h
  have h0:=(hby _ (getD_in 0 h)).1
  have h1:=Int.tmod_nonneg (2 * E+1) h0
  have h2:=Int.tmod_lt_of_pos (by_.getD n 0) (show (0:Int) < 2 * E+1 by omega)
  omega
 ·omega
theorem up_of {g h:Nat→Cel→Cel} (hh:∀ n c,OkC c→(g n c).tb=c.tb∧(g n c).dr=c.dr∧(h n c).tb=c.tb∧(h n c).dr=c.dr∧(g n c).li≤(h n c).li):Up g h:=fun n c hc=>by
 obtain ⟨a1,a2,a3,a4,a5⟩:=hh n c hc
 exact ⟨by rw [a1];exact hc.1,by rw [a2];exact hc.2.2.2.1,by rw [a3,a1],by rw [a4,a2],a5⟩
theorem cl_val (c:Cel) (hc:OkC c) {b:Int} (hb : -1000≤b∧b≤1000):(litC b c).li=if c.li+b < 0 then 0 else if c.li+b < 1000 then c.li+b else 1000:=by
 have:=hc.2
 unfold litC clampL
 (try dsimp only)
 rw [W_in (by omega) (by omega)]
 by_cases h1:0 < c.li+b
 ·rw [if_pos h1,if_neg (by omega:¬ c.li+b < 0)]
 ·rw [if_neg h1,if_pos (by decide:(0:Int) < 1000)]
  by_cases h2:c.li+b < 0
  ·rw [if_pos h2]
  ·rw [if_neg h2,if_pos (by omega)];omega
theorem up1 {by_:List Int} (hby:∀ x ∈ by_,0≤x∧x≤65535) {E:Int} (hE:0≤E∧E≤1000):Up (lsG by_ E) (fun _ c=>c):=up_of fun n c hc=>⟨rfl,rfl,rfl,rfl,by
 have h0:=hc.2;have h1:=dOf_bd hby hE.1 n
 show minmaxI true 0 (c.li - minmaxI true _ _)≤c.li
 rw [mmT,mmT];split<;>split<;>omega⟩
theorem up2 {E:Int} (hE:0≤E∧E≤1000):Up (fun _ c=>litC (-E) c) (fun _ c=>c):=up_of fun n c hc=>⟨rfl,rfl,rfl,rfl,by
 have h0:=hc.2
 show (litC (-E) c).li≤c.li
 rw [cl_val c hc (by omega)];split
 ·omega
 ·split<;>omega⟩
theorem up3 {E:Int} (hE:0≤E∧E≤1000):Up (fun _ c=>c) (fun _ c=>litC E c):=up_of fun n c hc=>⟨rfl,rfl,rfl,rfl,by
 have h0:=hc.2
 show c.li≤(litC E c).li
 rw [cl_val c hc (by omega)];split
 ·omega
 ·split<;>omega⟩
theorem up4 {by_:List Int} (hby:∀ x ∈ by_,0≤x∧x≤65535) {E:Int} (hE:0≤E∧E≤1000):Up (fun _ c=>litC (-E) c) (otG by_ E):=up_of fun n c hc=>⟨rfl,rfl,rfl,rfl,by
 have h0:=hc.2;have h1:=dOf_bd hby hE.1 n
 show (litC (-E) c).li≤minmaxI false 1000 (minmaxI true 0 _)
 rw [cl_val c hc (by omega),mmF,mmT]
 split
 ·split<;>split<;>omega
 ·split<;>split<;>split<;>omega⟩
theorem up5 {by_:List Int} (hby:∀ x ∈ by_,0≤x∧x≤65535) {E:Int} (hE:0≤E∧E≤1000):Up (otG by_ E) (fun _ c=>litC E c):=up_of fun n c hc=>⟨rfl,rfl,rfl,rfl,by
 have h0:=hc.2;have h1:=dOf_bd hby hE.1 n
 show minmaxI false 1000 (minmaxI true 0 _)≤(litC E c).li
 rw [cl_val c hc (by omega),mmF,mmT]
 split<;>split<;>split<;>(try split)<;>omega⟩
theorem up6 {by_:List Int} (hby:∀ x ∈ by_,0≤x∧x≤65535) {E:Int} (hE:0≤E∧E≤1000):Up (fun _ c=>litC (-E) c) (lsG by_ E):=up_of fun n c hc=>⟨rfl,rfl,rfl,rfl,by
 have h0:=hc.2;have h1:=dOf_bd hby hE.1 n
 show (litC (-E) c).li≤minmaxI true 0 (c.li - minmaxI true _ _)
 rw [cl_val c hc (by omega),mmT,mmT]
 split<;>split<;>split<;>(try split)<;>omega⟩
def tvD (f:List (List Cel)):Nat→DV
 |0=>.full []
 |i+1=>.list (((f.take (i+1)).reverse).map chn)
theorem tvD_succ {f:List (List Cel)} {i:Nat} (h:i < f.length):tvD f (i+1)=DV.list ([DV.list (List.map encC (f.getD i []))].reverse++((f.take i).reverse).map chn):=by
 show DV.list (((f.take (i+1)).reverse).map chn)=_
 rw [take_snoc f i [] h,List.reverse_append];rfl
theorem rep_snoc {α:Type} (n:Nat) (a:α):List.replicate (n+1) a=List.replicate n a++[a]:=List.replicate_succ'
theorem OkF.ne' {f:List (List Cel)} (h:OkF f):∀ l ∈ f,l≠[]:=fun l hl e=>by
 have:=(h.2.2 l hl).1
 rw [e] at this;simp at this
theorem l_CurveDarker (aw:PC 13 [] (.bool true)) (f:List (List Cel)) (ab:Int×Int) (hab:(0≤ab.1∧ab.1≤65535)∧(0≤ab.2∧ab.2≤65535)) (by_:List Int) (hby:∀ x ∈ by_,0≤x∧x≤65535):PC 9 [fld f,.agg [.int .u16 ab.1,.int .u16 ab.2],uL by_] (.bool true):=by
 obtain ⟨x,y⟩:=ab
 obtain ⟨hx,hy⟩:=hab
 simp only at hx hy
 show PC 9 [fld f,.agg [.int .u16 x,.int .u16 y],uL by_] (.bool true)
 have e1:((by_.map (DV.int .u16)).length:Int)=by_.length:=by simp
 have hwx:IntKind.i64.wrap x=x:=W_in (by omega) (by omega)
 have hwy:IntKind.i64.wrap y=y:=W_in (by omega) (by omega)
 refine pureCall_ofR dh9 rfl ?_
 conv=>whnf
 have hvb:0≤(IntKind.i64.wrap x).tmod 801∧(IntKind.i64.wrap x).tmod 801≤800:=by
  rw [hwx]
  have:=Int.tmod_nonneg 801 hx.1
  have:=Int.tmod_lt_of_pos x (show (0:Int) < 801 by decide)
  omega
 have hnb:0≤(IntKind.i64.wrap y).tmod 1001∧(IntKind.i64.wrap y).tmod 1001≤1000:=by
  rw [hwy]
  have:=Int.tmod_nonneg 1001 hy.1
  have:=Int.tmod_lt_of_pos y (show (0:Int) < 1001 by decide)
  omega
 repeat' (first
  |(refine ⟨fun hg=>?_,fun hg=>?_⟩<;>first|contradiction|(conv=>whnf))
  |(refine Or.inl ?_;conv=>whnf)
  |(refine ⟨_,l_small ..,?_⟩;conv=>whnf)
  |(refine ⟨_,aw ..,?_⟩;conv=>whnf)
  |(refine And.intro ?_ ?_;kernel_rfl;conv=>whnf))
 all_goals (try rfl)
 have hs:=smallF_spec (f:=f) (by simpa using ‹(!smallF f)=false›)
 have h12:by_.length≤12:=by
  have h:decide (12 < ((by_.map (DV.int .u16)).length:Int))=false:=hg
  have h:=of_decide_eq_false h
  rw [e1] at h;omega
 clear hg
 obtain ⟨hf3,hsF,hz⟩:=hs
 have hF:=chkField_zero hz
 have hl:=(shortF_spec hsF).2.2
 refine ⟨by decide,?_⟩
 conv=>whnf
 refine ⟨by decide,?_⟩
 conv=>whnf
 generalize hV:(IntKind.i64.wrap x).tmod 801=V at *
 refine ⟨by decide,?_⟩
 conv=>whnf
 generalize hE:(IntKind.i64.wrap y).tmod 1001=E at *
 have hO1:=r_Own f hl hF.ne'
 have hO2:=r_Own f hl hF.ne'
 rw [gO_zero (lsG by_ E) f] at hO1
 rw [gO_zero (otG by_ E) f] at hO2
 refine ⟨by decide,?_⟩
 conv=>whnf
 (try (refine ⟨by kernel_rfl,?_⟩;conv=>whnf))
 refine .inr ⟨[(3,9)],_,_,_,_,hO1,⟨rfl,by kernel_rfl,?_,?_⟩,?_⟩
 ·exact trivial
 ·exact ⟨.inr rfl,trivial⟩
 conv=>whnf
 refine .inr ⟨[(3,10)],_,_,_,_,hO2,⟨rfl,by kernel_rfl,?_,?_⟩,?_⟩
 ·exact trivial
 ·exact ⟨.inr rfl,trivial⟩
 conv=>whnf
 have e0:∀ g i k,((gO g f i k).length:Int)=f.length:=fun g i k=>by rw [gO_len]
 have hlen:∀ g i k,(gO g f 0 0).length=(gO g f i k).length:=fun g i k=>by rw [gO_len,gO_len]
 have ec:((f.map chn).length:Int)=f.length:=by simp
 refine dwp_loopR (P:=Tryz.prog) (G:=GC) (k:=dk9_1) (b:=db9_1) (α:=Nat) (fun i=>[(0,fld f),(2,uL by_),(7,DV.int .i64 (V)),(8,DV.int .i64 (E)),(9,.own 9 0 (gO (lsG by_ E) f 0 0).length (gO (lsG by_ E) f 0 0).length),(10,.own 10 0 (gO (otG by_ E) f 0 0).length (gO (otG by_ E) f 0 0).length),(11,DV.int .i64 (offF f i)),(61,.int .i64 (f.map chn).length),(62,DV.int .i64 (i))]) (fun i=>[(4,.box 2 (.agg [.int .u16 x,.int .u16 y])),(9,.nrow 1 0 3 (gO (lsG by_ E) f i 0) none),(10,.nrow 1 0 3 (gO (otG by_ E) f i 0) none)]) (fun i=>i≤f.length) (fun i=>f.length - i) 0 ?_ (Nat.zero_le _) ?_
 ·exact ⟨rfl,rfl,rfl⟩
 intro i h1
 conv=>whnf
 refine ⟨fun hb=>?_,fun hb=>?_⟩
 ·have hi:i < f.length:=by have:=of_decide_eq_true hb;rw [ec] at this;omega
  clear hb
  conv=>whnf
  rw [getD_enc _ _ (i) [] hi]
  refine ⟨idxA hi rfl,?_⟩
  conv=>whnf
  refine dwp_loopR (P:=Tryz.prog) (G:=GC) (k:=dk9_0) (b:=db9_0) (α:=Nat) (fun k=>[(0,fld f),(2,uL by_),(7,DV.int .i64 (V)),(8,DV.int .i64 (E)),(9,.own 9 0 (gO (lsG by_ E) f 0 0).length (gO (lsG by_ E) f 0 0).length),(10,.own 10 0 (gO (otG by_ E) f 0 0).length (gO (otG by_ E) f 0 0).length),(11,DV.int .i64 ((offF f i+k:Nat))),(12,DV.int .i64 (i)),(61,.int .i64 (f.map chn).length),(62,DV.int .i64 (i)),(69,.int .i64 ((f.getD i []).map encC).length),(70,DV.int .i64 (k))]) (fun k=>[(4,.box 2 (.agg [.int .u16 x,.int .u16 y])),(9,.nrow 1 0 3 (gO (lsG by_ E) f i k) none),(10,.nrow 1 0 3 (gO (otG by_ E) f i k) none)]) (fun k=>k≤(f.getD i []).length) (fun k=>(f.getD i []).length - k) 0 ?_ (Nat.zero_le _) ?_
  ·exact ⟨rfl,rfl,rfl⟩
  have ecl:(((f.getD i []).map encC).length:Int)=(f.getD i []).length:=by rw [List.length_map]
  intro k h2
  conv=>whnf
  refine ⟨fun hb=>?_,fun hb=>?_⟩
  ·have hk:k < (f.getD i []).length:=by have:=of_decide_eq_true hb;rw [ecl] at this;omega
   clear hb
   conv=>whnf
   have hcO:=(hF.2.2 _ (getD_in [] hi)).2.2 _ (getD_in C0 hk)
   generalize hc:(f.getD i []).getD k C0=c at *
   have hli:=hcO.2
   have hrow9:(gO (lsG by_ E) f i k).getD (0+Int.toNat (i:Int)) .undef=.inn (gR (lsG by_ E) (offF f i) (f.getD i []) k):=by rw [Int.toNat_natCast,Nat.zero_add];exact gO_get hi
   have hrow10:(gO (otG by_ E) f i k).getD (0+Int.toNat (i:Int)) .undef=.inn (gR (otG by_ E) (offF f i) (f.getD i []) k):=by rw [Int.toNat_natCast,Nat.zero_add];exact gO_get hi
   have hin9:innOf 0 ((gO (lsG by_ E) f i k).getD (0+Int.toNat (i:Int)) .undef)=some (gR (lsG by_ E) (offF f i) (f.getD i []) k):=by rw [hrow9];rfl
   have hin10:innOf 0 ((gO (otG by_ E) f i k).getD (0+Int.toNat (i:Int)) .undef)=some (gR (otG by_ E) (offF f i) (f.getD i []) k):=by rw [hrow10];rfl
   have hcel9:(gR (lsG by_ E) (offF f i) (f.getD i []) k).getD (0+Int.toNat (k:Int)) .undef=encC c:=by rw [Int.toNat_natCast,Nat.zero_add,gR_get hk,hc]
   have hcel10:(gR (otG by_ E) (offF f i) (f.getD i []) k).getD (0+Int.toNat (k:Int)) .undef=encC c:=by rw [Int.toNat_natCast,Nat.zero_add,gR_get hk,hc]
   have hoff:=offF_bd hF i (by omega)
   have hk8:=(hF.2.2 _ (getD_in [] hi)).2.1
   have hwE:IntKind.i64.wrap (IntKind.i64.wrap (2 * E)+1)=2 * E+1:=by rw [show IntKind.i64.wrap (2 * E)=2 * E from W_in (by omega) (by omega)];exact W_in (by omega) (by omega)
   refine ⟨fun hg=>?_,fun hg=>?_⟩
   ·have hj:offF f i+k < by_.length:=by have:=of_decide_eq_true hg;rw [e1] at this;omega
    clear hg
    have hbj:=hby _ (getD_in 0 hj)
    have hm1:=Int.tmod_nonneg (2 * E+1) hbj.1
    have hm2:=Int.tmod_lt_of_pos (by_.getD (offF f i+k) 0) (show (0:Int) < 2 * E+1 by omega)
    have hd:dOf by_ E (offF f i+k)=(by_.getD (offF f i+k) 0).tmod (2 * E+1) - E:=if_pos hj
    conv=>whnf
    rw [getD_enc _ _ (offF f i+k) 0 hj]
    refine ⟨idxA hj rfl,?_⟩
    conv=>whnf
    rw [hwE,show IntKind.i64.wrap (by_.getD (offF f i+k) 0)=by_.getD (offF f i+k) 0 from W_in (by omega) (by omega)]
    refine ⟨by omega,?_⟩
    conv=>whnf
    rw [show IntKind.i64.wrap ((by_.getD (offF f i+k) 0).tmod (2 * E+1) - E)=dOf by_ E (offF f i+k) by rw [hd];exact W_in (by omega) (by omega)]
    have hdb : -1000≤dOf by_ E (offF f i+k)∧dOf by_ E (offF f i+k)≤1000:=by rw [hd];omega
    clear hm1 hm2
    rw [getD_enc _ _ (i) [] hi]
    refine ⟨idxA hi rfl,?_⟩
    conv=>whnf
    rw [getD_enc _ _ (k) C0 hk]
    refine ⟨idxA hk rfl,?_⟩
    conv=>whnf
    rw [hc]
    repeat first
     |(rw [ev_sublen hin9 rfl rfl];conv=>whnf
       refine ⟨rfl,?_⟩;conv=>whnf)
     |(rw [ev_subiaddr hin9 rfl rfl rfl];conv=>whnf
       refine ⟨⟨rfl,by omega,by rw [gR_len];omega⟩,?_⟩;conv=>whnf)
     |(rw [ev_subfaddr hin9 rfl rfl];conv=>whnf
       refine ⟨rfl,?_⟩;conv=>whnf)
     |(refine ⟨⟨hlen _ i k,by omega,by rw [gO_len];omega⟩,?_⟩;conv=>whnf)
     |(refine ⟨⟨hlen _ i k,by decide⟩,?_⟩;rw [hrow9];conv=>whnf)
    rw [ev_substore hin9 rfl rfl rfl]
    conv=>whnf
    refine ⟨⟨rfl,by decide,rfl⟩,?_⟩
    conv=>whnf
    repeat first
     |(rw [ev_sublen hin10 rfl rfl];conv=>whnf
       refine ⟨rfl,?_⟩;conv=>whnf)
     |(rw [ev_subiaddr hin10 rfl rfl rfl];conv=>whnf
       refine ⟨⟨rfl,by omega,by rw [gR_len];omega⟩,?_⟩;conv=>whnf)
     |(rw [ev_subfaddr hin10 rfl rfl];conv=>whnf
       refine ⟨rfl,?_⟩;conv=>whnf)
     |(refine ⟨⟨hlen _ i k,by omega,by rw [gO_len];omega⟩,?_⟩;conv=>whnf)
     |(refine ⟨⟨hlen _ i k,by decide⟩,?_⟩;rw [hrow10];conv=>whnf)
    rw [ev_substore hin10 rfl rfl rfl]
    conv=>whnf
    refine ⟨⟨rfl,by decide,rfl⟩,?_⟩
    conv=>whnf
    rw [wrap_succ k (by omega),wrap_succ (offF f i+k) (by omega)]
    refine ⟨k+1,rfl,rfl,?_,hk,by omega⟩
    have hv9:gO (lsG by_ E) f i (k+1)=(gO (lsG by_ E) f i k).set (0+Int.toNat (i:Int)) (.inn ((gR (lsG by_ E) (offF f i) (f.getD i []) k).set (0+Int.toNat (k:Int)) (.agg (setCells ((gR (lsG by_ E) (offF f i) (f.getD i []) k).getD (0+Int.toNat (k:Int)) .undef).cells 1 [DV.int .i64 (minmaxI true 0 (IntKind.i64.wrap (c.li - minmaxI true (dOf by_ E (offF f i+k)) (IntKind.i64.wrap (0 - dOf by_ E (offF f i+k))))))])))):=by
     rw [hcel9,Int.toNat_natCast,Int.toNat_natCast,Nat.zero_add,Nat.zero_add,ls_val rfl hdb ⟨hli.1,hli.2.1⟩,← gO_set hi,← gR_set,hc];rfl
    have hv10:gO (otG by_ E) f i (k+1)=(gO (otG by_ E) f i k).set (0+Int.toNat (i:Int)) (.inn ((gR (otG by_ E) (offF f i) (f.getD i []) k).set (0+Int.toNat (k:Int)) (.agg (setCells ((gR (otG by_ E) (offF f i) (f.getD i []) k).getD (0+Int.toNat (k:Int)) .undef).cells 1 [DV.int .i64 (minmaxI false 1000 (minmaxI true 0 (IntKind.i64.wrap (c.li+dOf by_ E (offF f i+k)))))])))):=by
     rw [hcel10,Int.toNat_natCast,Int.toNat_natCast,Nat.zero_add,Nat.zero_add,ot_val rfl hdb ⟨hli.1,hli.2.1⟩,← gO_set hi,← gR_set,hc];rfl
    rw [hv9,hv10]
    rfl
   ·have hj:¬ offF f i+k < by_.length:=by have:=of_decide_eq_false hg;rw [e1] at this;omega
    clear hg
    have hd:dOf by_ E (offF f i+k)=0:=if_neg hj
    have hdb : -1000≤(0:Int)∧(0:Int)≤1000:=by omega
    conv=>whnf
    rw [getD_enc _ _ (i) [] hi]
    refine ⟨idxA hi rfl,?_⟩
    conv=>whnf
    rw [getD_enc _ _ (k) C0 hk]
    refine ⟨idxA hk rfl,?_⟩
    conv=>whnf
    rw [hc]
    repeat first
     |(rw [ev_sublen hin9 rfl rfl];conv=>whnf
       refine ⟨rfl,?_⟩;conv=>whnf)
     |(rw [ev_subiaddr hin9 rfl rfl rfl];conv=>whnf
       refine ⟨⟨rfl,by omega,by rw [gR_len];omega⟩,?_⟩;conv=>whnf)
     |(rw [ev_subfaddr hin9 rfl rfl];conv=>whnf
       refine ⟨rfl,?_⟩;conv=>whnf)
     |(refine ⟨⟨hlen _ i k,by omega,by rw [gO_len];omega⟩,?_⟩;conv=>whnf)
     |(refine ⟨⟨hlen _ i k,by decide⟩,?_⟩;rw [hrow9];conv=>whnf)
    rw [ev_substore hin9 rfl rfl rfl]
    conv=>whnf
    refine ⟨⟨rfl,by decide,rfl⟩,?_⟩
    conv=>whnf
    repeat first
     |(rw [ev_sublen hin10 rfl rfl];conv=>whnf
       refine ⟨rfl,?_⟩;conv=>whnf)
     |(rw [ev_subiaddr hin10 rfl rfl rfl];conv=>whnf
       refine ⟨⟨rfl,by omega,by rw [gR_len];omega⟩,?_⟩;conv=>whnf)
     |(rw [ev_subfaddr hin10 rfl rfl];conv=>whnf
       refine ⟨rfl,?_⟩;conv=>whnf)
     |(refine ⟨⟨hlen _ i k,by omega,by rw [gO_len];omega⟩,?_⟩;conv=>whnf)
     |(refine ⟨⟨hlen _ i k,by decide⟩,?_⟩;rw [hrow10];conv=>whnf)
    rw [ev_substore hin10 rfl rfl rfl]
    conv=>whnf
    refine ⟨⟨rfl,by decide,rfl⟩,?_⟩
    conv=>whnf
    rw [wrap_succ k (by omega),wrap_succ (offF f i+k) (by omega)]
    refine ⟨k+1,rfl,rfl,?_,hk,by omega⟩
    have hv9:gO (lsG by_ E) f i (k+1)=(gO (lsG by_ E) f i k).set (0+Int.toNat (i:Int)) (.inn ((gR (lsG by_ E) (offF f i) (f.getD i []) k).set (0+Int.toNat (k:Int)) (.agg (setCells ((gR (lsG by_ E) (offF f i) (f.getD i []) k).getD (0+Int.toNat (k:Int)) .undef).cells 1 [DV.int .i64 (minmaxI true 0 (IntKind.i64.wrap (c.li - minmaxI true (0) (IntKind.i64.wrap (0 - 0)))))])))):=by
     rw [hcel9,Int.toNat_natCast,Int.toNat_natCast,Nat.zero_add,Nat.zero_add,ls_val hd hdb ⟨hli.1,hli.2.1⟩,← gO_set hi,← gR_set,hc];rfl
    have hv10:gO (otG by_ E) f i (k+1)=(gO (otG by_ E) f i k).set (0+Int.toNat (i:Int)) (.inn ((gR (otG by_ E) (offF f i) (f.getD i []) k).set (0+Int.toNat (k:Int)) (.agg (setCells ((gR (otG by_ E) (offF f i) (f.getD i []) k).getD (0+Int.toNat (k:Int)) .undef).cells 1 [DV.int .i64 (minmaxI false 1000 (minmaxI true 0 (IntKind.i64.wrap (c.li+0))))])))):=by
     rw [hcel10,Int.toNat_natCast,Int.toNat_natCast,Nat.zero_add,Nat.zero_add,ot_val hd hdb ⟨hli.1,hli.2.1⟩,← gO_set hi,← gR_set,hc];rfl
    rw [hv9,hv10]
    rfl
  ·have hk:k=(f.getD i []).length:=by have:=of_decide_eq_false hb;rw [ecl] at this;omega
   clear hb
   conv=>whnf
   rw [wrap_succ i (by omega),hk]
   refine ⟨i+1,rfl,rfl,?_,hi,by omega⟩
   rw [← gO_next,← gO_next]
   rfl
 ·have hi:i=f.length:=by have:=of_decide_eq_false hb;rw [ec] at this;omega
  clear hb
  subst hi
  have hlo:chkField (mpF (lsG by_ E) f)=0:=chkF_mp (fun n c h=>chkCell_li h (by rw [mmT];split<;>omega) (by have:=(chkCell_zero h).2;rw [mmT,mmT];split<;>split<;>omega)) hz
  have hoo:chkField (mpF (otG by_ E) f)=0:=chkF_mp (fun n c h=>chkCell_li h (by rw [mmF,mmT];split<;>split<;>omega) (by rw [mmF,mmT];split<;>split<;>omega)) hz
  have hFl:=chkField_zero hlo
  have hFo:=chkField_zero hoo
  have hll:=hFl.len
  have hlo':=hFo.len
  have k1:=l_field f hl
  have k2:PC 51 [fld f,DV.int .i64 (V),DV.int .i64 (E)] (.tuple [.agg [DV.int .i64 (curF (litF f (-E)) V),DV.int .i64 (curF (litF f E) V)],DV.int .i64 (0)]):=by have:=c_Bounds f V E hl;rw [bnd_in hz hvb hnb] at this;exact this
  have k3:PC 41 [fld f,DV.int .i64 (V)] (.tuple [DV.int .i64 (curF f V),DV.int .i64 (0)]):=by have:=c_FieldCurrent f V hl;rw [fcur_in hz hvb] at this;exact this
  have k4:=l_field _ hll
  have k5:=l_field _ hlo'
  have k6:PC 41 [fld (mpF (lsG by_ E) f),DV.int .i64 (V)] (.tuple [DV.int .i64 (curF (mpF (lsG by_ E) f) V),DV.int .i64 (0)]):=by have:=c_FieldCurrent _ V hll;rw [fcur_in hlo hvb] at this;exact this
  have k7:PC 41 [fld (mpF (otG by_ E) f),DV.int .i64 (V)] (.tuple [DV.int .i64 (curF (mpF (otG by_ E) f) V),DV.int .i64 (0)]):=by have:=c_FieldCurrent _ V hlo';rw [fcur_in hoo hvb] at this;exact this
  have k8:PC 55 [fld f] (.tuple [DV.int .i64 ((hiF f).1),DV.int .i64 ((hiF f).2),DV.int .i64 (0)]):=by have:=c_Highest f hl;rw [show highS f=((hiF f).1,(hiF f).2,0) by unfold highS;rw [if_neg (by omega)]] at this;exact this
  have k9:PC 55 [fld (mpF (lsG by_ E) f)] (.tuple [DV.int .i64 ((hiF (mpF (lsG by_ E) f)).1),DV.int .i64 ((hiF (mpF (lsG by_ E) f)).2),DV.int .i64 (0)]):=by have:=c_Highest _ hll;rw [show highS (mpF (lsG by_ E) f)=((hiF (mpF (lsG by_ E) f)).1,(hiF (mpF (lsG by_ E) f)).2,0) by unfold highS;rw [if_neg (by omega)]] at this;exact this
  have hwl:∀ g,window (List.map closeD (gO g f f.length 0)) 0 (gO g f 0 0).length=(mpF g f).map chn:=fun g=>by
   have hw:=window_full ((gO g f f.length 0).map closeD)
   rw [List.length_map,gO_len] at hw
   rw [gO_len,hw,gO_all]
  have hlen2:∀ g,(gO g f 0 0).length=(List.map closeD (gO g f f.length 0)).length:=fun g=>by rw [List.length_map,gO_len,gO_len]
  have q1:∀ v,curF (mpF (lsG by_ E) f) v≤curF f v:=fun v=>by have:=curF_mp (up1 hby hnb) hF v;rwa [mpF_id] at this
  have q2:curF (litF f (-E)) V≤curF f V:=by have:=curF_mp (up2 hnb) hF V;rwa [mpF_id,mpF_lit] at this
  have q3:curF f V≤curF (litF f E) V:=by have:=curF_mp (up3 hnb) hF V;rwa [mpF_id,mpF_lit] at this
  have q4:curF (litF f (-E)) V≤curF (mpF (otG by_ E) f) V:=by have:=curF_mp (up4 hby hnb) hF V;rwa [mpF_lit] at this
  have q5:curF (mpF (otG by_ E) f) V≤curF (litF f E) V:=by have:=curF_mp (up5 hby hnb) hF V;rwa [mpF_lit] at this
  have q6:curF (litF f (-E)) V≤curF (mpF (lsG by_ E) f) V:=by have:=curF_mp (up6 hby hnb) hF V;rwa [mpF_lit] at this
  have q7:=hi_le hFl hF q1
  have q1:=q1 V
  repeat' (first
   |(refine ⟨fun hg=>?_,fun hg=>?_⟩<;>first|contradiction|(replace hg:=of_decide_eq_true hg;first|(exfalso;omega;done)|(conv=>whnf))|(replace hg:=of_decide_eq_false hg;first|(exfalso;omega;done)|(conv=>whnf))|(skip;conv=>whnf)|(conv=>whnf))
   |(refine Or.inl ?_;conv=>whnf)
   |(refine ⟨_,k1,?_⟩;conv=>whnf)
   |(refine ⟨_,k2,?_⟩;conv=>whnf)
   |(refine ⟨_,k3,?_⟩;conv=>whnf)
   |(refine ⟨_,k4,?_⟩;conv=>whnf)
   |(refine ⟨_,k5,?_⟩;conv=>whnf)
   |(refine ⟨_,k6,?_⟩;conv=>whnf)
   |(refine ⟨_,k7,?_⟩;conv=>whnf)
   |(refine ⟨_,k8,?_⟩;conv=>whnf)
   |(refine ⟨_,k9,?_⟩;conv=>whnf)
   |(refine ⟨hlen _ _ _,?_⟩;rw [hwl];conv=>whnf)
   |(refine ⟨hlen2 _,?_⟩;rw [hwl];conv=>whnf)
   |(refine And.intro ?_ ?_;kernel_rfl;conv=>whnf))
  clear q1 q2 q3 q4 q5 q6 q7 k2 k3 k4 k5 k6 k7 k8 k9 hwl hlen hlen2
  generalize List.map closeD (gO (lsG by_ E) f f.length 0)=A9
  generalize List.map closeD (gO (otG by_ E) f f.length 0)=A10
  generalize curF (litF f (-E)) V=Lo
  generalize curF (litF f E) V=Hi
  have hf0:(0:Int) < (f.length:Nat):=by have:=hF.1;omega
  have hf1:0 < f.length:=by have:=hF.1;omega
  refine dwp_loopR (P:=Tryz.prog) (G:=GC) (k:=dk9_2) (b:=db9_2) (α:=Nat) (fun i=>[(0,fld f),(30,tvD f i),(31,.own 31 0 (List.replicate i (chn (f.getD 0 []))).length (List.replicate i (chn (f.getD 0 []))).length),(232,.int .i64 (f.map chn).length),(233,DV.int .i64 (i))]) (fun i=>[(4,.box 2 (.agg [.int .u16 x,.int .u16 y])),(9,.row 1 A9 true),(10,.row 1 A10 true),(16,.box 2 (.agg [DV.int .i64 (Lo),DV.int .i64 (Hi)])),(31,.row 1 (List.replicate i (chn (f.getD 0 []))) false)]) (fun i=>i≤f.length) (fun i=>f.length - i) 0 ?_ (Nat.zero_le _) ?_
  ·exact ⟨rfl,rfl,rfl⟩
  intro i h1
  conv=>whnf
  refine ⟨fun hb=>?_,fun hb=>?_⟩
  ·have hi:i < f.length:=by have:=of_decide_eq_true hb;rw [ec] at this;omega
   clear hb
   conv=>whnf
   rw [getD_enc _ _ (i) [] hi]
   refine ⟨idxA hi rfl,?_⟩
   conv=>whnf
   rcases i with _|i
   ·conv=>whnf
    refine ⟨⟨by show 1+0≤1073741824;decide,(fun e he=>by cases he),fun e he=>by simp at he;subst he;rfl⟩,?_⟩
    conv=>whnf
    rw [getD_enc' _ _ (0) [] (by decide) hf0]
    refine ⟨idxB (by decide) hf0 rfl,?_⟩
    conv=>whnf
    refine ⟨⟨rfl,rfl,rfl,by rw [List.length_replicate];(first|(simp;done)|(simp;omega)),fun e he=>by simp at he;subst he;rfl⟩,?_⟩
    conv=>whnf
    rw [wrap_succ (0) (by omega)]
    have hr:=rep_snoc (0) (chn (f.getD 0 []))
    refine ⟨0+1,rfl,?_,?_,hi,by omega⟩
    ·rw [tvD_succ hi,hr];(try rfl)
    ·rw [hr];(try rfl)
   ·conv=>whnf
    refine ⟨⟨by have h:=List.length_take_le (i+1) f;rw [show (((f.take (i+1)).reverse).map chn).length=(f.take (i+1)).length by simp];show 1+(f.take (i+1)).length≤_;omega,(fun e he=>by obtain ⟨q,_,rfl⟩:=List.mem_map.1 he;rfl),fun e he=>by simp at he;subst he;rfl⟩,?_⟩
    conv=>whnf
    rw [getD_enc' _ _ (0) [] (by decide) hf0]
    refine ⟨idxB (by decide) hf0 rfl,?_⟩
    conv=>whnf
    refine ⟨⟨rfl,rfl,rfl,by rw [List.length_replicate];(first|(simp;done)|(simp;omega)),fun e he=>by simp at he;subst he;rfl⟩,?_⟩
    conv=>whnf
    rw [wrap_succ (i+1) (by omega)]
    have hr:=rep_snoc (i+1) (chn (f.getD 0 []))
    refine ⟨i+1+1,rfl,?_,?_,hi,by omega⟩
    ·rw [tvD_succ hi,hr];(try rfl)
    ·rw [hr];(try rfl)
  ·have hi:i=f.length:=by have:=of_decide_eq_false hb;rw [ec] at this;omega
   clear hb
   rcases i with _|i
   ·omega
   have ht:(f.take (i+1)).reverse=f.reverse:=by rw [hi,List.take_length]
   have hzr:chkField f.reverse=0:=chkF_all hz (by simp) (fun l hl=>List.mem_reverse.1 hl)
   have hzs:chkField (List.replicate (i+1) (f.getD 0 []))=0:=chkF_all hz (by simp;omega) (fun l hl=>by rw [(List.mem_replicate.1 hl).2];exact getD_in [] hf1)
   have hFr:=chkField_zero hzr
   have hFs:=chkField_zero hzs
   have m0:=misF_pos hF
   have m1:=misF_reverse f
   have m2:=misF_same hFs (hF.one (getD_in [] hf1))
   have k2:PC 44 [fld f] (.tuple [DV.int .i64 (misF f),DV.int .i64 (0)]):=by have:=c_Mismatch f hl;rw [show misS f=(misF f,0) by unfold misS;rw [if_neg (by omega)]] at this;exact this
   have k3:=l_field _ hFr.len
   have k4:PC 44 [fld f.reverse] (.tuple [DV.int .i64 (misF f),DV.int .i64 (0)]):=by have:=c_Mismatch _ hFr.len;rw [show misS f.reverse=(misF f,0) by unfold misS;rw [if_neg (by omega),m1]] at this;exact this
   rw [← ht] at k3 k4
   have k5:=l_field _ hFs.len
   have k6:PC 44 [fld (List.replicate (i+1) (f.getD 0 []))] (.tuple [DV.int .i64 (0),DV.int .i64 (0)]):=by have:=c_Mismatch _ hFs.len;rw [show misS (List.replicate (i+1) (f.getD 0 []))=(0,0) by unfold misS;rw [if_neg (by omega),m2]] at this;exact this
   have hws:window (List.replicate (i+1) (chn (f.getD 0 []))) 0 (List.replicate (i+1) (chn (f.getD 0 []))).length=(List.replicate (i+1) (f.getD 0 [])).map chn:=by rw [window_full,List.map_replicate]
   clear hFr hFs hzr hzs
   conv=>whnf
   repeat' (first
    |(refine ⟨fun hg=>?_,fun hg=>?_⟩<;>first|contradiction|(replace hg:=of_decide_eq_true hg;first|(exfalso;omega;done)|(conv=>whnf))|(replace hg:=of_decide_eq_false hg;first|(exfalso;omega;done)|(conv=>whnf))|(skip;conv=>whnf)|(conv=>whnf))
    |(refine Or.inl ?_;conv=>whnf)
    |(refine ⟨_,k1,?_⟩;conv=>whnf)
    |(refine ⟨_,k2,?_⟩;conv=>whnf)
    |(refine ⟨_,k3,?_⟩;conv=>whnf)
    |(refine ⟨_,k4,?_⟩;conv=>whnf)
    |(refine ⟨_,k5,?_⟩;conv=>whnf)
    |(refine ⟨_,k6,?_⟩;conv=>whnf)
    |(refine ⟨_,aw ..,?_⟩;conv=>whnf)
    |(refine ⟨rfl,?_⟩;rw [hws];conv=>whnf)
    |(refine And.intro ?_ ?_;kernel_rfl;conv=>whnf))
   all_goals first
    |rfl
    |trace_state
end Sh

namespace Sh
open Go Go.Proofs Go.ChangeShapes Go.WideShapes Go.ChangeAt Go.RowKit
theorem cl92:Tryz.prog.cellsOf 92=1:=by kernel_rfl
variable {H:Type} {enc:TypeId×Value→H} {W:World}
theorem opU16s:Opens enc Tryz.prog W 94 (fun l:List Int=>[uL l]) (fun l=>∀ x ∈ l,0≤x∧x≤65535) :=
 (opens_slice Tryz.underlying94 1 cl92 (by decide) (f:=DV.int .u16) (opens_int Tryz.underlying92)).map id (fun _=>rfl) (fun _ h x hx=>wf_u16 (h.2 x hx))
end Sh
