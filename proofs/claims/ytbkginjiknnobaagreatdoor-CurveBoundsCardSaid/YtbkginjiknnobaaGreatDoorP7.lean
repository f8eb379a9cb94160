/-
  Chapter 4's functions, walked over pure data: the library of the walk, the functions' code over data, and what each computes. (part 7)
-/
import Derived.Test.YtbkginjiknnobaaGreatDoorP6
import Derived.ChangeArms
import Derived.ChangeSame
import Derived.OpenShut
import Derived.WideShapes
import Derived.FnData
import Derived.LaidMore
import Derived.DataReads
import Derived.ProofKit
import Derived.Carry
import Derived.HandedShaped
import Derived.Shelf.Vars
import Derived.Stop.Joined
import Derived.Deep.DeepHandedRow
import Derived.Lib.LaidTab
import Derived.MakeChecks
import Derived.LaidSub
import Derived.LaidHandle
import Derived.Test.YtbkginjiknnobaaGreatDoorProg
import Derived.Lib.ItoaNum
set_option linter.unusedVariables false
set_option linter.unusedSimpArgs false
namespace Sh
open Go
theorem memOf_holds (W:World):(memOf W).holds W:=fun _ _ _ h=>h
theorem calls_of_pure {G:Nat→Option DV} {f:FuncId} {ds:List DV} {d:DV} {P:Program} (h:PureCall P G f ds d) {W:World} {vs:Array Value} (hG:GOk G (memOf W)) (hT:Tabs G W) (hr:RelPs (memOf W) ds vs) :
  Calls P f vs W fun e w'=>∃ v M',e=.returned v∧M'.holds w'∧RelP M' d v∧RowKit.Below W.heap.size W w':=by
 have h1:=h.2 Fence.wide 0 ⟨fun _=>trivial,rfl⟩ rfl rfl (memOf W) W vs hG hT (memOf_holds W) hr
 refine (callsIn_wide.1 h1).mono fun e w' ⟨v,M',a,_,b,c,d,_⟩=>⟨v,M',a,b,c,d⟩
section
variable {H:Type} {enc:TypeId×Value→H} {P:Program} {W:World}
theorem arg_slice {t e:TypeId} {α:Type} {f:α→DV} {B:α→Prop} {v:Value} {d:DataW H} {p:List MemPlace} {base b0:Nat} {sp:Nat→Bool} {hd:Bool} (ht:P.underlying t=some (.slice e)) (k:Opens enc P W t (fun a=>[f a]) B)
  (hv:Value.okWide P W .any b0 t v) (h:DataW.Trod enc P W base sp hd t v d p):∃ a,RelP (memOf W) (f a) v∧B a:=by
 obtain ⟨a,len,cap,rfl⟩:=WideShapes.okWide_slice ht hv
 obtain ⟨fuel,hf⟩:=h
 obtain ⟨a,h1,h2⟩:=k _ _ _ _ _ _ hf
 exact ⟨a,h1.2 0 (by simp),h2⟩
theorem arg_int {t:TypeId} {k:IntKind} {v:Value} {d:DataW H} {p:List MemPlace} {base b0:Nat} {sp:Nat→Bool} {hd:Bool} (ht:P.underlying t=some (.int k))
  (hv:Value.okWide P W .any b0 t v) (h:DataW.Trod enc P W base sp hd t v d p):∃ n,v=.int k n∧(Lit.int k n).wf=true:=by
 obtain ⟨n,rfl⟩:=WideShapes.okWide_int ht hv
 obtain ⟨fuel,hf⟩:=h
 obtain ⟨m,e,_,hw⟩:=DataW.trod_int ht hf
 simp only [Value.cells,List.cons.injEq,Value.int.injEq] at e
 exact ⟨n,rfl,by rw [e.1.2];exact hw⟩
theorem relPs_of {M:Mem} {ds:List DV} {vs:List Value} (h:RelL M ds vs):RelPs M ds vs.toArray:=by
 refine ⟨by simpa using h.1,fun i hi=>?_⟩
 have:=h.2 i hi
 simpa [List.getD_eq_getElem?_getD,Array.getD_eq_getD_getElem?] using this
end
end Sh

namespace Sh
open Go Go.Proofs
section
variable {H:Type} {enc:TypeId×Value→H} {P:Program} {W:World}
theorem handed_shaped {a:Assume} {C:Checked} {os:Os} {f:FuncId} {fn:Func} {s:ChangeSpec} {conds:List PathCond} {apart fresh handsOn again:Bool} {X:World→Array Value→Prop}
  (hX:∀ (w w':World) (args:Array Value),w.heap=w'.heap→X w args→X w' args)
  (own:ownKnob C.prog.godebug=none) (started:os.Started) (noInit:C.prog.inits.idxOf? f=none) (hfn:C.prog.funcs[f]?=some fn)
  (witness:∃ (w:World) (tape:Tape) (i:Input),w.os=os∧(w.forCall tape i).Shaped C.prog∧i.vars=[]∧Input.okWide C.prog (w.forCall tape i) .any w.heap.size f i ∧
    ((s.pre enc C.prog fn conds apart (w.forCall tape i).memory i.args∧X (w.forCall tape i).memory i.args)∧sizedMet enc C.prog fn (OpenSpec.ofChange s) apart (w.forCall tape i).memory i.args)∧a.holds C.prog (lone (Frame.enter C.prog f i.args .normal) [] (w.forCall tape i)))
  (contract:∀ (W:World) (base:Nat) (args:Array Value) (ds gs:List (DataW H)) (before:List MemPlace),
    (∀ (j:Nat) t v,fn.params[j]?=some t→args[j]?=some v→Value.okWide C.prog W .any base t v) →
    DataW.Whole enc C.prog fn.params.toList s.vars apart W args.toList ds gs before→X W args→W.ShapedOpen C.prog →
    Calls C.prog f args W fun e W'=>∃ v,e=.returned v∧s.post enc C.prog fn apart fresh handsOn again W args v W') :
  ReturnsInHanded a C os f .any (fun w args=>(s.pre enc C.prog fn conds apart w args∧X w args)∧sizedMet enc C.prog fn (OpenSpec.ofChange s) apart w args) (s.post enc C.prog fn apart fresh handsOn again):=by
 refine returnsInHanded_of_calls own started noInit witness ?_
 intro w tape i _ hsh _ hok hpre hholds
 obtain ⟨_,_,_,fn',hfn',_,_,_,_,hval⟩:=hok
 have e:fn'=fn:=Option.some.inj (hfn'.symm.trans hfn)
 subst e
 obtain ⟨⟨⟨ds,gs,before,hw,hc⟩,hx⟩,hz⟩:=hpre
 have hw':=DataW.Whole.of_heap (w':=w.forCall tape i) (by rfl) hw
 refine (contract (w.forCall tape i) w.heap.size i.args ds gs before hval hw' (hX _ _ _ (by rfl) hx) hsh).mono fun e W' ⟨v,he,hp⟩=>?_
 subst he
 exact ChangeSpec.post_blind hp
end
section
open Go.RowKit Go.WideShapes Go.ChangeShapes
variable {H:Type} {enc:TypeId×Value→H} {P:Program}
theorem postOfBelow {f:Func} {s:ChangeSpec} {apart fresh handsOn again:Bool} {W W':World} {args:Array Value} {v:Value} {ds gs:List (DataW H)} {before pa pv:List MemPlace}
  (hW:DataW.Whole enc P f.params.toList s.vars apart W args.toList ds gs before)
  (hres:∀ (b:Nat) (sp:Nat→Bool) (hd:Bool),DataW.TrodAll enc P W' b sp hd f.resultTypes.toList (v.resultList f.resultTypes.size) (s.fn H (ds++gs)).results [])
  (hargs:∀ sp:Nat→Bool,(∀ p ∈ before,sp p.block=true)→DataW.TrodAll enc P W' 0 sp true f.params.toList args.toList (s.fn H (ds++gs)).args pa)
  (hvars:∀ sp:Nat→Bool,(∀ p ∈ before,sp p.block=true)→DataW.TrodVars enc P W' sp s.vars (s.fn H (ds++gs)).vars pv)
  (hps:before=pa++pv) (hb:Below W.heap.size W W')
  (hok:∀ (j:Nat) (t:TypeId) (r:Value),f.resultTypes[j]?=some t→(v.resultList f.resultTypes.size)[j]?=some r→Value.okWide P W' .any 0 t r) :
  s.post enc P f apart fresh handsOn again W args v W':=by
 have hlt:∀ p ∈ before,p.block < W.heap.size:=fun p hp=>hW.lt p hp
 have hold:∀ p ∈ before,(fun b=>decide (b < W.heap.size)) p.block=true:=fun p hp=>by simpa using hlt p hp
 refine ⟨ds,gs,before,[],pa,pv,hW,hres _ _ _,hargs _ hold,hvars _ hold,World.keptBut_mono (fun p hp=>⟨hp,?_⟩) (hb.frame (· ∈ before)),fun _=>?_⟩
 ·rw [hps,List.mem_append] at hp
  exact Or.inr hp
 ·obtain ⟨_,_,_,_,_,hz,hn⟩:=hW
  refine ⟨hok,_,_,([]++pa)++pv,⟨[]++pa,pv,trodAll_append (hargs _ (fun _ _=>rfl)) (hres _ _ _),hvars _ (fun _ _=>rfl),rfl,?_,?_⟩,?_⟩
  ·intro b off hp
   have hin:MemPlace.cell b off ∈ before:=by rw [hps];simpa using hp
   rw [hb.frozen (hlt _ hin)]
   exact hz b off hin
  ·intro ha
   have:=hn ha
   rw [hps] at this
   simpa using this
  ·intro p hp _
   rw [hps]
   simpa using hp
theorem trodAll_stays (hl:laidOutB P=true) {W W':World} (hb:Below W.heap.size W W') {sp:Nat→Bool}:∀ {ts:List TypeId} {vs:List Value} {ds:List (DataW H)} {ps:List MemPlace},DataW.TrodAll enc P W 0 (fun _=>true) true ts vs ds ps →
  (ts.all fun t=>P.readableRec t && decide (t < P.types.size))=true→(∀ p ∈ ps,p.block < W.heap.size)→(∀ p ∈ ps,sp p.block=true)→DataW.TrodAll enc P W' 0 sp true ts vs ds ps
 |[],_,_,_,h,_,_,_=>by
  obtain ⟨rfl,rfl,rfl⟩:=trodAll_nil h
  rfl
 |t :: ts,_,_,_,h,ht,hlt,hsp=>by
  obtain ⟨v,vs,d,ds,p,q,rfl,rfl,rfl,h1,h2⟩:=trodAll_cons h
  rw [List.all_cons,Bool.and_eq_true,Bool.and_eq_true] at ht
  exact trodAll_cons_mk (WideElems.Trod_stays hl ht.1.1 (of_decide_eq_true ht.1.2) h1 (fun x hx=>hb.same (hlt x (by simp [hx]))) (fun x hx=>hsp x (by simp [hx])))
   (trodAll_stays hl hb h2 ht.2 (fun x hx=>hlt x (by simp [hx])) (fun x hx=>hsp x (by simp [hx])))
end
end Sh

set_option maxRecDepth 100000
namespace Sh
open Go
def dc12 : DFunc := ⟨6,1,[.tmp 2],.seq (.ops false [⟨some 2,.mov (.const (.bool false)),none,[]⟩]) (.seq (.ops false [⟨some 3,.mov (.tmp 0),none,[]⟩,⟨some 4,.len (.tmp 3),none,[]⟩,⟨some 5,.bin .leq (.tmp 4) (.const (.int .i64 9)),none,[]⟩,⟨some 2,.mov (.tmp 5),none,[]⟩]) .ret)⟩
theorem dh12:cProg Go.Proofs.Tryz.prog ⟨[],[],[]⟩ 12=some dc12:=by kernel_rfl
def dc15 : DFunc := ⟨12,1,[.cell 2 (some 3)],.seq (.ops false [⟨some 1,.box 3 (.tmp 0),none,[]⟩,⟨some 2,.alloc (.agg [.full [],.int .i64 0,.int .i64 0]) 3,none,[]⟩]) (.seq (.ops true [⟨some 3,.lit true 2 0 (.agg [.int .i64 0,.int .i64 0]) [],none,[]⟩,⟨some 4,.faddr 0 1 false (.tmp 1),none,[]⟩,⟨some 5,.load none (.tmp 4),none,[1]⟩,⟨some 6,.append true 2 (.tmp 3) (.tmp 5),none,[0,2,1]⟩,⟨some 7,.faddr 1 1 false (.tmp 1),none,[]⟩,⟨some 8,.load none (.tmp 7),none,[4]⟩,⟨some 9,.faddr 2 1 false (.tmp 1),none,[]⟩,⟨some 10,.load none (.tmp 9),none,[6]⟩,⟨some 11,.build [.full [],.int .i64 0,.int .i64 0] [(0,(1,(.tmp 6))),(1,(1,(.tmp 8))),(2,(1,(.tmp 10)))],none,[3,0,2,1,5,4,7,6]⟩,⟨none,.store 3 (.tmp 2) (.tmp 11),none,[8,3,0,2,1,5,4,7,6]⟩]) .ret)⟩
theorem dh15:cProg Go.Proofs.Tryz.prog ⟨[],[],[3,6]⟩ 15=some dc15:=by kernel_rfl
def dc17 : DFunc := ⟨5,1,[.tmp 2],.seq (.ops false [⟨some 2,.mov (.const (.int .i64 0)),none,[]⟩]) (.seq (.ops false [⟨some 3,.mov (.tmp 0),none,[]⟩,⟨some 4,.call (.func 83) [.tmp 3],none,[]⟩,⟨some 2,.mov (.tmp 4),none,[]⟩]) .ret)⟩
theorem dh17:cProg Go.Proofs.Tryz.prog ⟨[],[],[]⟩ 17=some dc17:=by kernel_rfl
def dc18 : DFunc := ⟨14,1,[.tmp 2],.seq (.ops false [⟨some 1,.box 3 (.tmp 0),none,[]⟩,⟨some 2,.mov (.const (.int .i64 0)),none,[]⟩]) (.seq (.ops true [⟨some 3,.faddr 0 1 false (.tmp 1),none,[]⟩,⟨some 4,.load none (.tmp 3),none,[0]⟩,⟨some 5,.call (.func 24) [.tmp 4],none,[1,0]⟩,⟨some 6,.faddr 1 1 false (.tmp 1),none,[]⟩,⟨some 7,.load none (.tmp 6),none,[3]⟩,⟨some 8,.call (.func 52) [.tmp 7,.const (.int .i64 0),.const (.int .i64 1000)],none,[4,3,2,1,0]⟩,⟨some 9,.faddr 2 1 false (.tmp 1),none,[]⟩,⟨some 10,.load none (.tmp 9),none,[6]⟩,⟨some 11,.call (.func 52) [.tmp 10,.const (.int .i64 0),.const (.int .i64 10)],none,[7,6,5,4,3,2,1,0]⟩,⟨some 12,.lit true 1 3 (.int .i64 0) [(0,(.tmp 5)),(1,(.tmp 8)),(2,(.tmp 11))],none,[2,1,0,5,4,3,8,7,6]⟩,⟨some 13,.call (.func 83) [.tmp 12],none,[9,2,1,0,5,4,3,8,7,6]⟩,⟨some 2,.mov (.tmp 13),none,[10,9,2,1,0,5,4,3,8,7,6]⟩]) .ret)⟩
theorem dh18:cProg Go.Proofs.Tryz.prog ⟨[],[],[12]⟩ 18=some dc18:=by kernel_rfl
def dc19 : DFunc := ⟨5,1,[.tmp 2],.seq (.ops false [⟨some 2,.mov (.const (.int .i64 0)),none,[]⟩]) (.seq (.ops false [⟨some 3,.mov (.tmp 0),none,[]⟩,⟨some 4,.call (.func 52) [.tmp 3,.const (.int .i64 0),.const (.int .i64 800)],none,[]⟩,⟨some 2,.mov (.tmp 4),none,[]⟩]) .ret)⟩
theorem dh19:cProg Go.Proofs.Tryz.prog ⟨[],[],[]⟩ 19=some dc19:=by kernel_rfl
def dc21 : DFunc := ⟨13,2,[.tmp 4],.seq (.ops false [⟨some 2,.box 3 (.tmp 0),none,[]⟩,⟨some 4,.mov (.const (.int .i64 0)),none,[]⟩]) (.seq (.ops true [⟨some 5,.faddr 0 1 false (.tmp 2),none,[]⟩,⟨some 6,.load none (.tmp 5),none,[0]⟩,⟨some 7,.mov (.tmp 1),none,[]⟩,⟨some 8,.call (.func 85) [.tmp 6,.tmp 7],none,[1,0,2]⟩,⟨some 9,.faddr 1 1 false (.tmp 2),none,[]⟩,⟨some 10,.load none (.tmp 9),none,[4]⟩,⟨some 11,.bin .mul (.tmp 8) (.tmp 10),none,[3,1,0,2,5,4]⟩,⟨some 12,.call (.func 84) [.tmp 11,.const (.int .i64 1000)],none,[6,3,1,0,2,5,4]⟩,⟨some 4,.mov (.tmp 12),none,[7,6,3,1,0,2,5,4]⟩]) .ret)⟩
theorem dh21:cProg Go.Proofs.Tryz.prog ⟨[],[],[]⟩ 21=some dc21:=by kernel_rfl
def db24_0 : DC := (.seq (.seq (.ops false [⟨some 19,.mov (.tmp 4),none,[]⟩,⟨some 20,.mov (.tmp 0),none,[]⟩,⟨some 21,.len (.tmp 20),none,[]⟩,⟨some 22,.bin .lss (.tmp 19) (.tmp 21),none,[]⟩]) (.cond (.tmp 22) .skip (.exit 0))) (.seq (.block 1 none (.seq (.seq (.ops true [⟨some 25,.mov (.tmp 0),none,[]⟩,⟨some 26,.mov (.tmp 4),none,[]⟩,⟨some 27,.iaddr 2 (.tmp 25) (.tmp 26),none,[0,1]⟩,⟨some 28,.faddr 0 1 false (.tmp 27),none,[2,0,1]⟩,⟨some 29,.load none (.tmp 28),none,[3,2,0,1]⟩,⟨some 30,.call (.func 52) [.tmp 29,.const (.int .i64 0),.const (.int .i64 100)],none,[4,3,2,0,1]⟩,⟨some 31,.mov (.tmp 0),none,[]⟩,⟨some 32,.mov (.tmp 4),none,[]⟩,⟨some 33,.iaddr 2 (.tmp 31) (.tmp 32),none,[6,7]⟩,⟨some 34,.faddr 1 1 false (.tmp 33),none,[8,6,7]⟩,⟨some 35,.load none (.tmp 34),none,[9,8,6,7]⟩,⟨some 36,.call (.func 52) [.tmp 35,.const (.int .i64 0),.const (.int .i64 200)],none,[10,9,8,6,7,5,4,3,2,0,1]⟩,⟨some 37,.lit true 1 2 (.int .i64 0) [(0,(.tmp 30)),(1,(.tmp 36))],none,[5,4,3,2,0,1,11,10,9,8,6,7]⟩,⟨some 38,.call (.func 83) [.tmp 37],none,[12,5,4,3,2,0,1,11,10,9,8,6,7]⟩,⟨some 5,.mov (.tmp 38),none,[13,12,5,4,3,2,0,1,11,10,9,8,6,7]⟩]) (.seq (.ops false [⟨some 39,.mov (.tmp 5),none,[]⟩,⟨some 40,.bin .neq (.tmp 39) (.const (.int .i64 0)),none,[]⟩]) (.cond (.tmp 40) (.seq (.ops false [⟨some 41,.mov (.tmp 5),none,[]⟩,⟨some 2,.mov (.tmp 41),none,[]⟩]) .ret) .skip))) (.seq (.ops true [⟨some 42,.mov (.tmp 4),none,[]⟩,⟨some 43,.bin .eql (.tmp 42) (.const (.int .i64 0)),none,[0]⟩,⟨some 44,.mov (.tmp 43),none,[1,0]⟩,⟨some 45,.mov (.tmp 0),some (44,true),[2,1,0]⟩,⟨some 46,.mov (.tmp 4),some (44,true),[2,1,0]⟩,⟨some 47,.iaddr 2 (.tmp 45) (.tmp 46),some (44,true),[3,2,1,0,4]⟩,⟨some 48,.faddr 0 1 false (.tmp 47),some (44,true),[5,3,2,1,0,4]⟩,⟨some 49,.load none (.tmp 48),some (44,true),[6,5,3,2,1,0,4]⟩,⟨some 50,.bin .neq (.tmp 49) (.const (.int .i64 0)),some (44,true),[7,6,5,3,2,1,0,4]⟩,⟨some 51,.pick (.tmp 44) (.tmp 50) (.const (.bool false)),none,[2,1,0,8,7,6,5,3,4]⟩,⟨some 52,.mov (.tmp 51),none,[9,2,1,0,8,7,6,5,3,4]⟩,⟨some 53,.mov (.tmp 4),some (52,false),[10,9,2,1,0,8,7,6,5,3,4]⟩,⟨some 54,.bin .gtr (.tmp 53) (.const (.int .i64 0)),some (52,false),[11,10,9,2,1,0,8,7,6,5,3,4]⟩,⟨some 55,.mov (.tmp 54),some (52,false),[12,11,10,9,2,1,0,8,7,6,5,3,4]⟩,⟨some 56,.mov (.tmp 0),some (55,true),[13,12,11,10,9,2,1,0,8,7,6,5,3,4]⟩,⟨some 57,.mov (.tmp 4),some (55,true),[13,12,11,10,9,2,1,0,8,7,6,5,3,4]⟩,⟨some 58,.iaddr 2 (.tmp 56) (.tmp 57),some (55,true),[14,13,12,11,10,9,2,1,0,8,7,6,5,3,4,15]⟩,⟨some 59,.faddr 0 1 false (.tmp 58),some (55,true),[16,14,13,12,11,10,9,2,1,0,8,7,6,5,3,4,15]⟩,⟨some 60,.load none (.tmp 59),some (55,true),[17,16,14,13,12,11,10,9,2,1,0,8,7,6,5,3,4,15]⟩,⟨some 61,.mov (.tmp 0),some (55,true),[13,12,11,10,9,2,1,0,8,7,6,5,3,4]⟩,⟨some 62,.mov (.tmp 4),some (55,true),[13,12,11,10,9,2,1,0,8,7,6,5,3,4]⟩,⟨some 63,.bin .sub (.tmp 62) (.const (.int .i64 1)),some (55,true),[20,13,12,11,10,9,2,1,0,8,7,6,5,3,4]⟩,⟨some 64,.iaddr 2 (.tmp 61) (.tmp 63),some (55,true),[19,13,12,11,10,9,2,1,0,8,7,6,5,3,4,21,20]⟩,⟨some 65,.faddr 0 1 false (.tmp 64),some (55,true),[22,19,13,12,11,10,9,2,1,0,8,7,6,5,3,4,21,20]⟩,⟨some 66,.load none (.tmp 65),some (55,true),[23,22,19,13,12,11,10,9,2,1,0,8,7,6,5,3,4,21,20]⟩,⟨some 67,.bin .leq (.tmp 60) (.tmp 66),some (55,true),[18,17,16,14,13,12,11,10,9,2,1,0,8,7,6,5,3,4,15,24,23,22,19,21,20]⟩,⟨some 68,.mov (.tmp 67),some (55,true),[25,18,17,16,14,13,12,11,10,9,2,1,0,8,7,6,5,3,4,15,24,23,22,19,21,20]⟩,⟨some 69,.mov (.tmp 0),some (68,false),[26,25,18,17,16,14,13,12,11,10,9,2,1,0,8,7,6,5,3,4,15,24,23,22,19,21,20]⟩,⟨some 70,.mov (.tmp 4),some (68,false),[26,25,18,17,16,14,13,12,11,10,9,2,1,0,8,7,6,5,3,4,15,24,23,22,19,21,20]⟩,⟨some 71,.iaddr 2 (.tmp 69) (.tmp 70),some (68,false),[27,26,25,18,17,16,14,13,12,11,10,9,2,1,0,8,7,6,5,3,4,15,24,23,22,19,21,20,28]⟩,⟨some 72,.faddr 1 1 false (.tmp 71),some (68,false),[29,27,26,25,18,17,16,14,13,12,11,10,9,2,1,0,8,7,6,5,3,4,15,24,23,22,19,21,20,28]⟩,⟨some 73,.load none (.tmp 72),some (68,false),[30,29,27,26,25,18,17,16,14,13,12,11,10,9,2,1,0,8,7,6,5,3,4,15,24,23,22,19,21,20,28]⟩,⟨some 74,.mov (.tmp 0),some (68,false),[26,25,18,17,16,14,13,12,11,10,9,2,1,0,8,7,6,5,3,4,15,24,23,22,19,21,20]⟩,⟨some 75,.mov (.tmp 4),some (68,false),[26,25,18,17,16,14,13,12,11,10,9,2,1,0,8,7,6,5,3,4,15,24,23,22,19,21,20]⟩,⟨some 76,.bin .sub (.tmp 75) (.const (.int .i64 1)),some (68,false),[33,26,25,18,17,16,14,13,12,11,10,9,2,1,0,8,7,6,5,3,4,15,24,23,22,19,21,20]⟩,⟨some 77,.iaddr 2 (.tmp 74) (.tmp 76),some (68,false),[32,26,25,18,17,16,14,13,12,11,10,9,2,1,0,8,7,6,5,3,4,15,24,23,22,19,21,20,34,33]⟩,⟨some 78,.faddr 1 1 false (.tmp 77),some (68,false),[35,32,26,25,18,17,16,14,13,12,11,10,9,2,1,0,8,7,6,5,3,4,15,24,23,22,19,21,20,34,33]⟩,⟨some 79,.load none (.tmp 78),some (68,false),[36,35,32,26,25,18,17,16,14,13,12,11,10,9,2,1,0,8,7,6,5,3,4,15,24,23,22,19,21,20,34,33]⟩,⟨some 80,.bin .gtr (.tmp 73) (.tmp 79),some (68,false),[31,30,29,27,26,25,18,17,16,14,13,12,11,10,9,2,1,0,8,7,6,5,3,4,15,24,23,22,19,21,20,28,37,36,35,32,34,33]⟩,⟨some 81,.pick (.tmp 68) (.const (.bool true)) (.tmp 80),some (55,true),[26,25,18,17,16,14,13,12,11,10,9,2,1,0,8,7,6,5,3,4,15,24,23,22,19,21,20,38,31,30,29,27,28,37,36,35,32,34,33]⟩,⟨some 82,.pick (.tmp 55) (.tmp 81) (.const (.bool false)),some (52,false),[13,12,11,10,9,2,1,0,8,7,6,5,3,4,39,26,25,18,17,16,14,15,24,23,22,19,21,20,38,31,30,29,27,28,37,36,35,32,34,33]⟩,⟨some 83,.pick (.tmp 52) (.const (.bool true)) (.tmp 82),none,[10,9,2,1,0,8,7,6,5,3,4,40,13,12,11,39,26,25,18,17,16,14,15,24,23,22,19,21,20,38,31,30,29,27,28,37,36,35,32,34,33]⟩]) (.cond (.tmp 83) (.seq (.ops false [⟨some 2,.mov (.const (.int .i64 11)),none,[]⟩]) .ret) .skip)))) (.ops false [⟨some 23,.mov (.tmp 4),none,[]⟩,⟨some 24,.bin .add (.tmp 23) (.const (.int .i64 1)),none,[]⟩,⟨some 4,.mov (.tmp 24),none,[]⟩])))
def dk24_0 : Keep := ⟨[],[0,4],[14]⟩
def dc24 : DFunc := ⟨93,1,[.tmp 2],.seq (.ops false [⟨some 2,.mov (.const (.int .i64 0)),none,[]⟩]) (.seq (.seq (.ops false [⟨some 6,.mov (.tmp 0),none,[]⟩,⟨some 7,.len (.tmp 6),none,[]⟩,⟨some 8,.bin .lss (.tmp 7) (.const (.int .i64 2)),none,[]⟩,⟨some 9,.call (.func 62) [.tmp 8,.const (.int .i64 16)],none,[]⟩,⟨some 10,.mov (.tmp 0),none,[]⟩,⟨some 11,.len (.tmp 10),none,[]⟩,⟨some 12,.bin .gtr (.tmp 11) (.const (.int .i64 8)),none,[]⟩,⟨some 13,.call (.func 62) [.tmp 12,.const (.int .i64 5)],none,[]⟩,⟨some 14,.lit true 1 2 (.int .i64 0) [(0,(.tmp 9)),(1,(.tmp 13))],none,[]⟩,⟨some 15,.call (.func 83) [.tmp 14],none,[]⟩,⟨some 3,.mov (.tmp 15),none,[]⟩]) (.seq (.ops false [⟨some 16,.mov (.tmp 3),none,[]⟩,⟨some 17,.bin .neq (.tmp 16) (.const (.int .i64 0)),none,[]⟩]) (.cond (.tmp 17) (.seq (.ops false [⟨some 18,.mov (.tmp 3),none,[]⟩,⟨some 2,.mov (.tmp 18),none,[]⟩]) .ret) .skip))) (.seq (.seq (.ops false [⟨some 4,.mov (.const (.int .i64 0)),none,[]⟩]) (.block 0 (some ⟨[],[0],[14]⟩) (.loop dk24_0 db24_0))) (.seq (.ops false [⟨some 84,.mov (.tmp 0),none,[]⟩,⟨some 85,.mov (.tmp 0),none,[]⟩,⟨some 86,.len (.tmp 85),none,[]⟩,⟨some 87,.bin .sub (.tmp 86) (.const (.int .i64 1)),none,[]⟩,⟨some 88,.iaddr 2 (.tmp 84) (.tmp 87),none,[]⟩,⟨some 89,.faddr 1 1 false (.tmp 88),none,[]⟩,⟨some 90,.load none (.tmp 89),none,[]⟩,⟨some 91,.bin .neq (.tmp 90) (.const (.int .i64 0)),none,[]⟩,⟨some 92,.call (.func 62) [.tmp 91,.const (.int .i64 32)],none,[]⟩,⟨some 2,.mov (.tmp 92),none,[]⟩]) .ret)))⟩
theorem dh24:cProg Go.Proofs.Tryz.prog ⟨[(0,⟨[],[0,4],[14]⟩)],[(0,⟨[],[0],[14]⟩)],[14,37]⟩ 24=some dc24:=by kernel_rfl
def db27_0 : DC := (.seq (.seq (.ops false [⟨some 12,.mov (.tmp 3),none,[]⟩,⟨some 13,.mov (.tmp 0),none,[]⟩,⟨some 14,.len (.tmp 13),none,[]⟩,⟨some 15,.bin .lss (.tmp 12) (.tmp 14),none,[]⟩]) (.cond (.tmp 15) .skip (.exit 0))) (.seq (.block 1 none (.seq (.ops false [⟨some 18,.mov (.tmp 0),none,[]⟩,⟨some 19,.mov (.tmp 3),none,[]⟩,⟨some 20,.iaddr 3 (.tmp 18) (.tmp 19),none,[]⟩,⟨some 21,.faddr 0 1 false (.tmp 20),none,[]⟩,⟨some 22,.load none (.tmp 21),none,[]⟩,⟨some 23,.call (.func 12) [.tmp 22],none,[]⟩,⟨some 24,.un .not (.tmp 23),none,[]⟩]) (.cond (.tmp 24) (.seq (.ops false [⟨some 2,.mov (.const (.bool false)),none,[]⟩]) .ret) .skip))) (.ops false [⟨some 16,.mov (.tmp 3),none,[]⟩,⟨some 17,.bin .add (.tmp 16) (.const (.int .i64 1)),none,[]⟩,⟨some 3,.mov (.tmp 17),none,[]⟩])))
def dk27_0 : Keep := ⟨[],[0,3],[]⟩
def dc27 : DFunc := ⟨25,1,[.tmp 2],.seq (.ops false [⟨some 2,.mov (.const (.bool false)),none,[]⟩]) (.seq (.seq (.ops false [⟨some 4,.mov (.tmp 0),none,[]⟩,⟨some 5,.len (.tmp 4),none,[]⟩,⟨some 6,.bin .gtr (.tmp 5) (.const (.int .i64 6)),none,[]⟩,⟨some 7,.mov (.tmp 6),none,[]⟩,⟨some 8,.mov (.tmp 0),some (7,true),[]⟩,⟨some 9,.len (.tmp 8),some (7,true),[]⟩,⟨some 10,.bin .neq (.tmp 9) (.const (.int .i64 9)),some (7,true),[]⟩,⟨some 11,.pick (.tmp 7) (.tmp 10) (.const (.bool false)),none,[]⟩]) (.cond (.tmp 11) (.seq (.ops false [⟨some 2,.mov (.const (.bool false)),none,[]⟩]) .ret) .skip)) (.seq (.seq (.ops false [⟨some 3,.mov (.const (.int .i64 0)),none,[]⟩]) (.block 0 (some ⟨[],[],[]⟩) (.loop dk27_0 db27_0))) (.seq (.ops false [⟨some 2,.mov (.const (.bool true)),none,[]⟩]) .ret)))⟩
theorem dh27:cProg Go.Proofs.Tryz.prog ⟨[(0,⟨[],[0,3],[]⟩)],[(0,⟨[],[],[]⟩)],[]⟩ 27=some dc27:=by kernel_rfl
def db29_0 : DC := (.seq (.ops false [⟨some 9,.bin .lss (.tmp 8) (.tmp 7),none,[]⟩]) (.seq (.cond (.tmp 9) .skip (.exit 0)) (.seq (.block 1 none (.seq (.ops false [⟨some 10,.iaddr 3 (.tmp 6) (.tmp 8),none,[]⟩,⟨some 11,.load (some 3) (.tmp 10),none,[]⟩,⟨some 5,.alloc (.agg [.full [],.int .i64 0,.int .i64 0]) 3,none,[]⟩,⟨none,.store 3 (.tmp 5) (.tmp 11),none,[]⟩]) (.ops false [⟨some 12,.mov (.tmp 3),none,[]⟩,⟨some 13,.load (some 3) (.tmp 5),none,[]⟩,⟨some 14,.call (.func 15) [.tmp 13],none,[]⟩,⟨some 15,.lit true 3 1 (.agg [.full [],.int .i64 0,.int .i64 0]) [(0,(.tmp 14))],none,[]⟩,⟨some 16,.append false 3 (.tmp 12) (.tmp 15),none,[]⟩,⟨some 3,.mov (.tmp 16),none,[]⟩]))) (.ops false [⟨some 17,.bin .add (.tmp 8) (.const (.int .i64 1)),none,[]⟩,⟨some 8,.mov (.tmp 17),none,[]⟩]))))
def dk29_0 : Keep := ⟨[(3,3)],[3,6,7,8],[3]⟩
def dc29 : DFunc := ⟨19,1,[.tmp 2],.seq (.ops false [⟨some 2,.mov (.const (.slice none 0 0)),none,[]⟩]) (.seq (.ops false [⟨some 3,.mov (.const (.slice none 0 0)),none,[]⟩]) (.seq (.seq (.ops false [⟨some 6,.mov (.tmp 0),none,[]⟩,⟨some 7,.len (.tmp 6),none,[]⟩,⟨some 8,.mov (.const (.int .i64 0)),none,[]⟩]) (.block 0 (some ⟨[],[3],[3]⟩) (.loop dk29_0 db29_0))) (.seq (.ops false [⟨some 18,.mov (.tmp 3),none,[]⟩,⟨some 2,.mov (.tmp 18),none,[]⟩]) .ret)))⟩
theorem dh29:cProg Go.Proofs.Tryz.prog ⟨[(0,⟨[(3,3)],[3,6,7,8],[3]⟩)],[(0,⟨[],[3],[3]⟩)],[15]⟩ 29=some dc29:=by kernel_rfl
def db32_0 : DC := (.seq (.seq (.ops false [⟨some 19,.mov (.tmp 4),none,[]⟩,⟨some 20,.mov (.tmp 0),none,[]⟩,⟨some 21,.len (.tmp 20),none,[]⟩,⟨some 22,.bin .lss (.tmp 19) (.tmp 21),none,[]⟩]) (.cond (.tmp 22) .skip (.exit 0))) (.seq (.block 1 none (.seq (.ops false [⟨some 25,.mov (.tmp 0),none,[]⟩,⟨some 26,.mov (.tmp 4),none,[]⟩,⟨some 27,.iaddr 3 (.tmp 25) (.tmp 26),none,[]⟩,⟨some 28,.load (some 3) (.tmp 27),none,[]⟩,⟨some 29,.call (.func 18) [.tmp 28],none,[]⟩,⟨some 5,.mov (.tmp 29),none,[]⟩]) (.seq (.ops false [⟨some 30,.mov (.tmp 5),none,[]⟩,⟨some 31,.bin .neq (.tmp 30) (.const (.int .i64 0)),none,[]⟩]) (.cond (.tmp 31) (.seq (.ops false [⟨some 32,.mov (.tmp 5),none,[]⟩,⟨some 2,.mov (.tmp 32),none,[]⟩]) .ret) .skip)))) (.ops false [⟨some 23,.mov (.tmp 4),none,[]⟩,⟨some 24,.bin .add (.tmp 23) (.const (.int .i64 1)),none,[]⟩,⟨some 4,.mov (.tmp 24),none,[]⟩])))
def dk32_0 : Keep := ⟨[],[0,4],[14]⟩
def dc32 : DFunc := ⟨33,1,[.tmp 2],.seq (.ops false [⟨some 2,.mov (.const (.int .i64 0)),none,[]⟩]) (.seq (.seq (.ops false [⟨some 6,.mov (.tmp 0),none,[]⟩,⟨some 7,.len (.tmp 6),none,[]⟩,⟨some 8,.bin .eql (.tmp 7) (.const (.int .i64 0)),none,[]⟩,⟨some 9,.call (.func 62) [.tmp 8,.const (.int .i64 12)],none,[]⟩,⟨some 10,.mov (.tmp 0),none,[]⟩,⟨some 11,.len (.tmp 10),none,[]⟩,⟨some 12,.bin .gtr (.tmp 11) (.const (.int .i64 8)),none,[]⟩,⟨some 13,.call (.func 62) [.tmp 12,.const (.int .i64 5)],none,[]⟩,⟨some 14,.lit true 1 2 (.int .i64 0) [(0,(.tmp 9)),(1,(.tmp 13))],none,[]⟩,⟨some 15,.call (.func 83) [.tmp 14],none,[]⟩,⟨some 3,.mov (.tmp 15),none,[]⟩]) (.seq (.ops false [⟨some 16,.mov (.tmp 3),none,[]⟩,⟨some 17,.bin .neq (.tmp 16) (.const (.int .i64 0)),none,[]⟩]) (.cond (.tmp 17) (.seq (.ops false [⟨some 18,.mov (.tmp 3),none,[]⟩,⟨some 2,.mov (.tmp 18),none,[]⟩]) .ret) .skip))) (.seq (.seq (.ops false [⟨some 4,.mov (.const (.int .i64 0)),none,[]⟩]) (.block 0 (some ⟨[],[],[14]⟩) (.loop dk32_0 db32_0))) (.seq (.ops false [⟨some 2,.mov (.const (.int .i64 0)),none,[]⟩]) .ret)))⟩
theorem dh32:cProg Go.Proofs.Tryz.prog ⟨[(0,⟨[],[0,4],[14]⟩)],[(0,⟨[],[],[14]⟩)],[14]⟩ 32=some dc32:=by kernel_rfl
def dc35 : DFunc := ⟨9,2,[.tmp 4],.seq (.ops false [⟨some 4,.mov (.const (.int .i64 0)),none,[]⟩]) (.seq (.ops false [⟨some 5,.mov (.tmp 0),none,[]⟩,⟨some 6,.call (.func 92) [.tmp 5],none,[]⟩,⟨some 7,.mov (.tmp 1),none,[]⟩,⟨some 8,.call (.func 91) [.tmp 6,.tmp 7],none,[]⟩,⟨some 4,.mov (.tmp 8),none,[]⟩]) .ret)⟩
theorem dh35:cProg Go.Proofs.Tryz.prog ⟨[],[],[]⟩ 35=some dc35:=by kernel_rfl
def db38_0 : DC := (.seq (.seq (.ops false [⟨some 13,.mov (.tmp 4),none,[]⟩,⟨some 14,.mov (.tmp 0),none,[]⟩,⟨some 15,.len (.tmp 14),none,[]⟩,⟨some 16,.bin .lss (.tmp 13) (.tmp 15),none,[]⟩]) (.cond (.tmp 16) .skip (.exit 0))) (.seq (.block 1 none (.seq (.ops false [⟨some 19,.mov (.tmp 3),none,[]⟩,⟨some 20,.mov (.tmp 0),none,[]⟩,⟨some 21,.mov (.tmp 4),none,[]⟩,⟨some 22,.iaddr 1 (.tmp 20) (.tmp 21),none,[]⟩,⟨some 23,.load none (.tmp 22),none,[]⟩,⟨some 24,.len (.tmp 23),none,[]⟩,⟨some 25,.bin .add (.tmp 19) (.tmp 24),none,[]⟩,⟨some 3,.mov (.tmp 25),none,[]⟩]) (.seq (.ops false [⟨some 26,.mov (.tmp 0),none,[]⟩,⟨some 27,.mov (.tmp 4),none,[]⟩,⟨some 28,.iaddr 1 (.tmp 26) (.tmp 27),none,[]⟩,⟨some 29,.load none (.tmp 28),none,[]⟩,⟨some 30,.call (.func 27) [.tmp 29],none,[]⟩,⟨some 31,.un .not (.tmp 30),none,[]⟩]) (.cond (.tmp 31) (.seq (.ops false [⟨some 2,.mov (.const (.bool false)),none,[]⟩]) .ret) .skip)))) (.ops false [⟨some 17,.mov (.tmp 4),none,[]⟩,⟨some 18,.bin .add (.tmp 17) (.const (.int .i64 1)),none,[]⟩,⟨some 4,.mov (.tmp 18),none,[]⟩])))
def dk38_0 : Keep := ⟨[],[0,3,4],[]⟩
def dc38 : DFunc := ⟨34,1,[.tmp 2],.seq (.ops false [⟨some 2,.mov (.const (.bool false)),none,[]⟩]) (.seq (.seq (.ops false [⟨some 5,.mov (.tmp 0),none,[]⟩,⟨some 6,.len (.tmp 5),none,[]⟩,⟨some 7,.bin .gtr (.tmp 6) (.const (.int .i64 4)),none,[]⟩,⟨some 8,.mov (.tmp 7),none,[]⟩,⟨some 9,.mov (.tmp 0),some (8,true),[]⟩,⟨some 10,.len (.tmp 9),some (8,true),[]⟩,⟨some 11,.bin .neq (.tmp 10) (.const (.int .i64 7)),some (8,true),[]⟩,⟨some 12,.pick (.tmp 8) (.tmp 11) (.const (.bool false)),none,[]⟩]) (.cond (.tmp 12) (.seq (.ops false [⟨some 2,.mov (.const (.bool false)),none,[]⟩]) .ret) .skip)) (.seq (.ops false [⟨some 3,.mov (.const (.int .i64 0)),none,[]⟩]) (.seq (.seq (.ops false [⟨some 4,.mov (.const (.int .i64 0)),none,[]⟩]) (.block 0 (some ⟨[],[3],[]⟩) (.loop dk38_0 db38_0))) (.seq (.ops false [⟨some 32,.mov (.tmp 3),none,[]⟩,⟨some 33,.bin .leq (.tmp 32) (.const (.int .i64 24)),none,[]⟩,⟨some 2,.mov (.tmp 33),none,[]⟩]) .ret))))⟩
theorem dh38:cProg Go.Proofs.Tryz.prog ⟨[(0,⟨[],[0,3,4],[]⟩)],[(0,⟨[],[3],[]⟩)],[]⟩ 38=some dc38:=by kernel_rfl
def db40_0 : DC := (.seq (.ops false [⟨some 9,.bin .lss (.tmp 8) (.tmp 7),none,[]⟩]) (.seq (.cond (.tmp 9) .skip (.exit 0)) (.seq (.block 1 none (.seq (.ops false [⟨some 10,.iaddr 1 (.tmp 6) (.tmp 8),none,[]⟩,⟨some 11,.load none (.tmp 10),none,[]⟩,⟨some 5,.mov (.tmp 11),none,[]⟩]) (.ops false [⟨some 12,.mov (.tmp 3),none,[]⟩,⟨some 13,.mov (.tmp 5),none,[]⟩,⟨some 14,.call (.func 29) [.tmp 13],none,[]⟩,⟨some 15,.lit true 1 1 (.full []) [(0,(.tmp 14))],none,[]⟩,⟨some 16,.append false 1 (.tmp 12) (.tmp 15),none,[]⟩,⟨some 3,.mov (.tmp 16),none,[]⟩]))) (.ops false [⟨some 17,.bin .add (.tmp 8) (.const (.int .i64 1)),none,[]⟩,⟨some 8,.mov (.tmp 17),none,[]⟩]))))
def dk40_0 : Keep := ⟨[(3,1)],[3,6,7,8],[3]⟩
def dc40 : DFunc := ⟨19,1,[.tmp 2],.seq (.ops false [⟨some 2,.mov (.const (.slice none 0 0)),none,[]⟩]) (.seq (.ops false [⟨some 3,.mov (.const (.slice none 0 0)),none,[]⟩]) (.seq (.seq (.ops false [⟨some 6,.mov (.tmp 0),none,[]⟩,⟨some 7,.len (.tmp 6),none,[]⟩,⟨some 8,.mov (.const (.int .i64 0)),none,[]⟩]) (.block 0 (some ⟨[],[3],[3]⟩) (.loop dk40_0 db40_0))) (.seq (.ops false [⟨some 18,.mov (.tmp 3),none,[]⟩,⟨some 2,.mov (.tmp 18),none,[]⟩]) .ret)))⟩
theorem dh40:cProg Go.Proofs.Tryz.prog ⟨[(0,⟨[(3,1)],[3,6,7,8],[3]⟩)],[(0,⟨[],[3],[3]⟩)],[15]⟩ 40=some dc40:=by kernel_rfl
def db45_0 : DC := (.seq (.seq (.ops false [⟨some 19,.mov (.tmp 4),none,[]⟩,⟨some 20,.mov (.tmp 0),none,[]⟩,⟨some 21,.len (.tmp 20),none,[]⟩,⟨some 22,.bin .lss (.tmp 19) (.tmp 21),none,[]⟩]) (.cond (.tmp 22) .skip (.exit 0))) (.seq (.block 1 none (.seq (.ops false [⟨some 25,.mov (.tmp 0),none,[]⟩,⟨some 26,.mov (.tmp 4),none,[]⟩,⟨some 27,.iaddr 1 (.tmp 25) (.tmp 26),none,[]⟩,⟨some 28,.load none (.tmp 27),none,[]⟩,⟨some 29,.call (.func 32) [.tmp 28],none,[]⟩,⟨some 5,.mov (.tmp 29),none,[]⟩]) (.seq (.ops false [⟨some 30,.mov (.tmp 5),none,[]⟩,⟨some 31,.bin .neq (.tmp 30) (.const (.int .i64 0)),none,[]⟩]) (.cond (.tmp 31) (.seq (.ops false [⟨some 32,.mov (.tmp 5),none,[]⟩,⟨some 2,.mov (.tmp 32),none,[]⟩]) .ret) .skip)))) (.ops false [⟨some 23,.mov (.tmp 4),none,[]⟩,⟨some 24,.bin .add (.tmp 23) (.const (.int .i64 1)),none,[]⟩,⟨some 4,.mov (.tmp 24),none,[]⟩])))
def dk45_0 : Keep := ⟨[],[0,4],[14]⟩
def dc45 : DFunc := ⟨33,1,[.tmp 2],.seq (.ops false [⟨some 2,.mov (.const (.int .i64 0)),none,[]⟩]) (.seq (.seq (.ops false [⟨some 6,.mov (.tmp 0),none,[]⟩,⟨some 7,.len (.tmp 6),none,[]⟩,⟨some 8,.bin .eql (.tmp 7) (.const (.int .i64 0)),none,[]⟩,⟨some 9,.call (.func 62) [.tmp 8,.const (.int .i64 12)],none,[]⟩,⟨some 10,.mov (.tmp 0),none,[]⟩,⟨some 11,.len (.tmp 10),none,[]⟩,⟨some 12,.bin .gtr (.tmp 11) (.const (.int .i64 6)),none,[]⟩,⟨some 13,.call (.func 62) [.tmp 12,.const (.int .i64 5)],none,[]⟩,⟨some 14,.lit true 1 2 (.int .i64 0) [(0,(.tmp 9)),(1,(.tmp 13))],none,[]⟩,⟨some 15,.call (.func 83) [.tmp 14],none,[]⟩,⟨some 3,.mov (.tmp 15),none,[]⟩]) (.seq (.ops false [⟨some 16,.mov (.tmp 3),none,[]⟩,⟨some 17,.bin .neq (.tmp 16) (.const (.int .i64 0)),none,[]⟩]) (.cond (.tmp 17) (.seq (.ops false [⟨some 18,.mov (.tmp 3),none,[]⟩,⟨some 2,.mov (.tmp 18),none,[]⟩]) .ret) .skip))) (.seq (.seq (.ops false [⟨some 4,.mov (.const (.int .i64 0)),none,[]⟩]) (.block 0 (some ⟨[],[],[14]⟩) (.loop dk45_0 db45_0))) (.seq (.ops false [⟨some 2,.mov (.const (.int .i64 0)),none,[]⟩]) .ret)))⟩
theorem dh45:cProg Go.Proofs.Tryz.prog ⟨[(0,⟨[],[0,4],[14]⟩)],[(0,⟨[],[],[14]⟩)],[14]⟩ 45=some dc45:=by kernel_rfl
def db49_0 : DC := (.seq (.seq (.ops false [⟨some 7,.mov (.tmp 6),none,[]⟩,⟨some 8,.mov (.tmp 0),none,[]⟩,⟨some 9,.len (.tmp 8),none,[]⟩,⟨some 10,.bin .lss (.tmp 7) (.tmp 9),none,[]⟩]) (.cond (.tmp 10) .skip (.exit 0))) (.seq (.block 1 none (.ops false [⟨some 13,.mov (.tmp 5),none,[]⟩,⟨some 14,.mov (.tmp 0),none,[]⟩,⟨some 15,.mov (.tmp 6),none,[]⟩,⟨some 16,.iaddr 1 (.tmp 14) (.tmp 15),none,[]⟩,⟨some 17,.load none (.tmp 16),none,[]⟩,⟨some 18,.mov (.tmp 1),none,[]⟩,⟨some 19,.call (.func 35) [.tmp 17,.tmp 18],none,[]⟩,⟨some 20,.bin .add (.tmp 13) (.tmp 19),none,[]⟩,⟨some 5,.mov (.tmp 20),none,[]⟩])) (.ops false [⟨some 11,.mov (.tmp 6),none,[]⟩,⟨some 12,.bin .add (.tmp 11) (.const (.int .i64 1)),none,[]⟩,⟨some 6,.mov (.tmp 12),none,[]⟩])))
def dk49_0 : Keep := ⟨[],[0,1,5,6],[]⟩
def dc49 : DFunc := ⟨22,2,[.tmp 4],.seq (.ops false [⟨some 4,.mov (.const (.int .i64 0)),none,[]⟩]) (.seq (.ops false [⟨some 5,.mov (.const (.int .i64 0)),none,[]⟩]) (.seq (.seq (.ops false [⟨some 6,.mov (.const (.int .i64 0)),none,[]⟩]) (.block 0 (some ⟨[],[5],[]⟩) (.loop dk49_0 db49_0))) (.seq (.ops false [⟨some 21,.mov (.tmp 5),none,[]⟩,⟨some 4,.mov (.tmp 21),none,[]⟩]) .ret)))⟩
theorem dh49:cProg Go.Proofs.Tryz.prog ⟨[(0,⟨[],[0,1,5,6],[]⟩)],[(0,⟨[],[5],[]⟩)],[]⟩ 49=some dc49:=by kernel_rfl
def dc52 : DFunc := ⟨16,3,[.tmp 6],.seq (.ops false [⟨some 6,.mov (.const (.int .i64 0)),none,[]⟩]) (.seq (.ops false [⟨some 7,.mov (.tmp 0),none,[]⟩,⟨some 8,.mov (.tmp 1),none,[]⟩,⟨some 9,.bin .lss (.tmp 7) (.tmp 8),none,[]⟩,⟨some 10,.mov (.tmp 9),none,[]⟩,⟨some 11,.mov (.tmp 0),some (10,false),[]⟩,⟨some 12,.mov (.tmp 2),some (10,false),[]⟩,⟨some 13,.bin .gtr (.tmp 11) (.tmp 12),some (10,false),[]⟩,⟨some 14,.pick (.tmp 10) (.const (.bool true)) (.tmp 13),none,[]⟩,⟨some 15,.call (.func 62) [.tmp 14,.const (.int .i64 3)],none,[]⟩,⟨some 6,.mov (.tmp 15),none,[]⟩]) .ret)⟩
theorem dh52:cProg Go.Proofs.Tryz.prog ⟨[],[],[]⟩ 52=some dc52:=by kernel_rfl
def dc62 : DFunc := ⟨7,2,[.tmp 4],.seq (.ops false [⟨some 4,.mov (.const (.int .i64 0)),none,[]⟩]) (.seq (.seq (.ops false [⟨some 5,.mov (.tmp 0),none,[]⟩]) (.cond (.tmp 5) (.seq (.ops false [⟨some 6,.mov (.tmp 1),none,[]⟩,⟨some 4,.mov (.tmp 6),none,[]⟩]) .ret) .skip)) (.seq (.ops false [⟨some 4,.mov (.const (.int .i64 0)),none,[]⟩]) .ret))⟩
theorem dh62:cProg Go.Proofs.Tryz.prog ⟨[],[],[]⟩ 62=some dc62:=by kernel_rfl
end Sh

namespace Sh
open Go
def db83_0 : DC := (.seq (.seq (.ops false [⟨some 4,.mov (.tmp 3),none,[]⟩,⟨some 5,.mov (.tmp 0),none,[]⟩,⟨some 6,.len (.tmp 5),none,[]⟩,⟨some 7,.bin .lss (.tmp 4) (.tmp 6),none,[]⟩]) (.cond (.tmp 7) .skip (.exit 0))) (.seq (.block 1 none (.seq (.ops false [⟨some 10,.mov (.tmp 0),none,[]⟩,⟨some 11,.mov (.tmp 3),none,[]⟩,⟨some 12,.iaddr 1 (.tmp 10) (.tmp 11),none,[]⟩,⟨some 13,.load none (.tmp 12),none,[]⟩,⟨some 14,.bin .neq (.tmp 13) (.const (.int .i64 0)),none,[]⟩]) (.cond (.tmp 14) (.seq (.ops false [⟨some 15,.mov (.tmp 0),none,[]⟩,⟨some 16,.mov (.tmp 3),none,[]⟩,⟨some 17,.iaddr 1 (.tmp 15) (.tmp 16),none,[]⟩,⟨some 18,.load none (.tmp 17),none,[]⟩,⟨some 2,.mov (.tmp 18),none,[]⟩]) .ret) .skip))) (.ops false [⟨some 8,.mov (.tmp 3),none,[]⟩,⟨some 9,.bin .add (.tmp 8) (.const (.int .i64 1)),none,[]⟩,⟨some 3,.mov (.tmp 9),none,[]⟩])))
def dk83_0 : Keep := ⟨[],[0,3],[]⟩
def dc83 : DFunc := ⟨19,1,[.tmp 2],.seq (.ops false [⟨some 2,.mov (.const (.int .i64 0)),none,[]⟩]) (.seq (.seq (.ops false [⟨some 3,.mov (.const (.int .i64 0)),none,[]⟩]) (.block 0 (some ⟨[],[],[]⟩) (.loop dk83_0 db83_0))) (.seq (.ops false [⟨some 2,.mov (.const (.int .i64 0)),none,[]⟩]) .ret))⟩
theorem dh83:cProg Go.Proofs.Tryz.prog ⟨[(0,⟨[],[0,3],[]⟩)],[(0,⟨[],[],[]⟩)],[]⟩ 83=some dc83:=by kernel_rfl
def dc84 : DFunc := ⟨17,2,[.tmp 4],.seq (.ops false [⟨some 4,.mov (.const (.int .i64 0)),none,[]⟩]) (.seq (.ops false [⟨some 6,.mov (.tmp 0),none,[]⟩,⟨some 7,.mov (.tmp 1),none,[]⟩,⟨some 8,.bin .quo (.tmp 6) (.tmp 7),none,[]⟩,⟨some 5,.mov (.tmp 8),none,[]⟩]) (.seq (.seq (.ops false [⟨some 9,.mov (.tmp 5),none,[]⟩,⟨some 10,.mov (.tmp 1),none,[]⟩,⟨some 11,.bin .mul (.tmp 9) (.tmp 10),none,[]⟩,⟨some 12,.mov (.tmp 0),none,[]⟩,⟨some 13,.bin .gtr (.tmp 11) (.tmp 12),none,[]⟩]) (.cond (.tmp 13) (.ops false [⟨some 14,.mov (.tmp 5),none,[]⟩,⟨some 15,.bin .sub (.tmp 14) (.const (.int .i64 1)),none,[]⟩,⟨some 5,.mov (.tmp 15),none,[]⟩]) .skip)) (.seq (.ops false [⟨some 16,.mov (.tmp 5),none,[]⟩,⟨some 4,.mov (.tmp 16),none,[]⟩]) .ret)))⟩
theorem dh84:cProg Go.Proofs.Tryz.prog ⟨[],[],[]⟩ 84=some dc84:=by kernel_rfl
def db85_0 : DC := (.seq (.seq (.ops false [⟨some 8,.mov (.tmp 5),none,[]⟩,⟨some 9,.mov (.tmp 0),none,[]⟩,⟨some 10,.len (.tmp 9),none,[]⟩,⟨some 11,.bin .lss (.tmp 8) (.tmp 10),none,[]⟩]) (.cond (.tmp 11) .skip (.exit 0))) (.seq (.block 1 none (.seq (.ops true [⟨some 14,.mov (.tmp 0),none,[]⟩,⟨some 15,.mov (.tmp 5),none,[]⟩,⟨some 16,.bin .sub (.tmp 15) (.const (.int .i64 1)),none,[1]⟩,⟨some 17,.iaddr 2 (.tmp 14) (.tmp 16),none,[0,2,1]⟩,⟨some 18,.load (some 2) (.tmp 17),none,[3,0,2,1]⟩,⟨some 19,.mov (.tmp 0),none,[]⟩,⟨some 20,.mov (.tmp 5),none,[]⟩,⟨some 21,.iaddr 2 (.tmp 19) (.tmp 20),none,[5,6]⟩,⟨some 22,.load (some 2) (.tmp 21),none,[7,5,6]⟩,⟨some 6,.alloc (.agg [.int .i64 0,.int .i64 0]) 2,none,[]⟩,⟨some 7,.alloc (.agg [.int .i64 0,.int .i64 0]) 2,none,[]⟩,⟨none,.store 2 (.tmp 6) (.tmp 18),none,[9,4,3,0,2,1,10]⟩,⟨none,.store 2 (.tmp 7) (.tmp 22),none,[10,8,7,5,6,11,9,4,3,0,2,1]⟩]) (.seq (.ops false [⟨some 23,.mov (.tmp 1),none,[]⟩,⟨some 24,.faddr 0 1 false (.tmp 6),none,[]⟩,⟨some 25,.load none (.tmp 24),none,[]⟩,⟨some 26,.bin .geq (.tmp 23) (.tmp 25),none,[]⟩,⟨some 27,.mov (.tmp 26),none,[]⟩,⟨some 28,.mov (.tmp 1),some (27,true),[]⟩,⟨some 29,.faddr 0 1 false (.tmp 7),some (27,true),[]⟩,⟨some 30,.load none (.tmp 29),some (27,true),[]⟩,⟨some 31,.bin .lss (.tmp 28) (.tmp 30),some (27,true),[]⟩,⟨some 32,.pick (.tmp 27) (.tmp 31) (.const (.bool false)),none,[]⟩]) (.cond (.tmp 32) (.seq (.ops true [⟨some 33,.faddr 1 1 false (.tmp 6),none,[]⟩,⟨some 34,.load none (.tmp 33),none,[0]⟩,⟨some 35,.faddr 1 1 false (.tmp 7),none,[]⟩,⟨some 36,.load none (.tmp 35),none,[2]⟩,⟨some 37,.faddr 1 1 false (.tmp 6),none,[]⟩,⟨some 38,.load none (.tmp 37),none,[4]⟩,⟨some 39,.bin .sub (.tmp 36) (.tmp 38),none,[3,2,5,4]⟩,⟨some 40,.mov (.tmp 1),none,[]⟩,⟨some 41,.faddr 0 1 false (.tmp 6),none,[]⟩,⟨some 42,.load none (.tmp 41),none,[8]⟩,⟨some 43,.bin .sub (.tmp 40) (.tmp 42),none,[7,9,8]⟩,⟨some 44,.bin .mul (.tmp 39) (.tmp 43),none,[6,3,2,5,4,10,7,9,8]⟩,⟨some 45,.faddr 0 1 false (.tmp 7),none,[]⟩,⟨some 46,.load none (.tmp 45),none,[12]⟩,⟨some 47,.faddr 0 1 false (.tmp 6),none,[]⟩,⟨some 48,.load none (.tmp 47),none,[14]⟩,⟨some 49,.bin .sub (.tmp 46) (.tmp 48),none,[13,12,15,14]⟩,⟨some 50,.call (.func 84) [.tmp 44,.tmp 49],none,[11,6,3,2,5,4,10,7,9,8,16,13,12,15,14]⟩,⟨some 51,.bin .add (.tmp 34) (.tmp 50),none,[1,0,17,11,6,3,2,5,4,10,7,9,8,16,13,12,15,14]⟩,⟨some 4,.mov (.tmp 51),none,[18,1,0,17,11,6,3,2,5,4,10,7,9,8,16,13,12,15,14]⟩]) .ret) .skip)))) (.ops false [⟨some 12,.mov (.tmp 5),none,[]⟩,⟨some 13,.bin .add (.tmp 12) (.const (.int .i64 1)),none,[]⟩,⟨some 5,.mov (.tmp 13),none,[]⟩])))
def dk85_0 : Keep := ⟨[],[0,1,5],[]⟩
def dc85 : DFunc := ⟨52,2,[.tmp 4],.seq (.ops false [⟨some 4,.mov (.const (.int .i64 0)),none,[]⟩]) (.seq (.seq (.ops false [⟨some 5,.mov (.const (.int .i64 1)),none,[]⟩]) (.block 0 (some ⟨[],[],[]⟩) (.loop dk85_0 db85_0))) (.seq (.ops false [⟨some 4,.mov (.const (.int .i64 0)),none,[]⟩]) .ret))⟩
theorem dh85:cProg Go.Proofs.Tryz.prog ⟨[(0,⟨[],[0,1,5],[]⟩)],[(0,⟨[],[],[]⟩)],[]⟩ 85=some dc85:=by kernel_rfl
def dc86 : DFunc := ⟨10,1,[.tmp 2],.seq (.ops false [⟨some 2,.mov (.const (.int .i64 0)),none,[]⟩]) (.seq (.ops false [⟨some 3,.mov (.tmp 0),none,[]⟩,⟨some 4,.mov (.tmp 0),none,[]⟩,⟨some 5,.len (.tmp 4),none,[]⟩,⟨some 6,.bin .sub (.tmp 5) (.const (.int .i64 1)),none,[]⟩,⟨some 7,.iaddr 2 (.tmp 3) (.tmp 6),none,[]⟩,⟨some 8,.faddr 0 1 false (.tmp 7),none,[]⟩,⟨some 9,.load none (.tmp 8),none,[]⟩,⟨some 2,.mov (.tmp 9),none,[]⟩]) .ret)⟩
theorem dh86:cProg Go.Proofs.Tryz.prog ⟨[],[],[]⟩ 86=some dc86:=by kernel_rfl
def db91_0 : DC := (.seq (.seq (.ops false [⟨some 7,.mov (.tmp 6),none,[]⟩,⟨some 8,.mov (.tmp 0),none,[]⟩,⟨some 9,.len (.tmp 8),none,[]⟩,⟨some 10,.bin .lss (.tmp 7) (.tmp 9),none,[]⟩]) (.cond (.tmp 10) .skip (.exit 0))) (.seq (.block 1 none (.seq (.ops false [⟨some 13,.mov (.tmp 0),none,[]⟩,⟨some 14,.mov (.tmp 6),none,[]⟩,⟨some 15,.iaddr 1 (.tmp 13) (.tmp 14),none,[]⟩,⟨some 16,.load none (.tmp 15),none,[]⟩,⟨some 17,.mov (.tmp 1),none,[]⟩,⟨some 18,.bin .geq (.tmp 16) (.tmp 17),none,[]⟩]) (.cond (.tmp 18) (.ops false [⟨some 19,.mov (.tmp 6),none,[]⟩,⟨some 5,.mov (.tmp 19),none,[]⟩]) .skip))) (.ops false [⟨some 11,.mov (.tmp 6),none,[]⟩,⟨some 12,.bin .add (.tmp 11) (.const (.int .i64 1)),none,[]⟩,⟨some 6,.mov (.tmp 12),none,[]⟩])))
def dk91_0 : Keep := ⟨[],[0,1,5,6],[]⟩
def dc91 : DFunc := ⟨21,2,[.tmp 4],.seq (.ops false [⟨some 4,.mov (.const (.int .i64 0)),none,[]⟩]) (.seq (.ops false [⟨some 5,.mov (.const (.int .i64 0)),none,[]⟩]) (.seq (.seq (.ops false [⟨some 6,.mov (.const (.int .i64 0)),none,[]⟩]) (.block 0 (some ⟨[],[5],[]⟩) (.loop dk91_0 db91_0))) (.seq (.ops false [⟨some 20,.mov (.tmp 5),none,[]⟩,⟨some 4,.mov (.tmp 20),none,[]⟩]) .ret)))⟩
theorem dh91:cProg Go.Proofs.Tryz.prog ⟨[(0,⟨[],[0,1,5,6],[]⟩)],[(0,⟨[],[5],[]⟩)],[]⟩ 91=some dc91:=by kernel_rfl
def db92_0 : DC := (.seq (.seq (.ops false [⟨some 17,.mov (.tmp 6),none,[]⟩,⟨some 18,.mov (.tmp 0),none,[]⟩,⟨some 19,.mov (.tmp 4),none,[]⟩,⟨some 20,.iaddr 3 (.tmp 18) (.tmp 19),none,[]⟩,⟨some 21,.faddr 0 1 false (.tmp 20),none,[]⟩,⟨some 22,.load none (.tmp 21),none,[]⟩,⟨some 23,.call (.func 86) [.tmp 22],none,[]⟩,⟨some 24,.bin .leq (.tmp 17) (.tmp 23),none,[]⟩]) (.cond (.tmp 24) .skip (.exit 2))) (.seq (.block 3 none (.ops false [⟨some 27,.mov (.tmp 5),none,[]⟩,⟨some 28,.mov (.tmp 0),none,[]⟩,⟨some 29,.mov (.tmp 4),none,[]⟩,⟨some 30,.iaddr 3 (.tmp 28) (.tmp 29),none,[]⟩,⟨some 31,.load (some 3) (.tmp 30),none,[]⟩,⟨some 32,.mov (.tmp 6),none,[]⟩,⟨some 33,.call (.func 21) [.tmp 31,.tmp 32],none,[]⟩,⟨some 34,.lit true 1 1 (.int .i64 0) [(0,(.tmp 33))],none,[]⟩,⟨some 35,.append false 1 (.tmp 27) (.tmp 34),none,[]⟩,⟨some 5,.mov (.tmp 35),none,[]⟩])) (.ops false [⟨some 25,.mov (.tmp 6),none,[]⟩,⟨some 26,.bin .add (.tmp 25) (.const (.int .i64 1)),none,[]⟩,⟨some 6,.mov (.tmp 26),none,[]⟩])))
def dk92_0 : Keep := ⟨[(5,1)],[0,3,4,5,6],[5,10]⟩
def db92_1 : DC := (.seq (.seq (.ops false [⟨some 46,.mov (.tmp 9),none,[]⟩,⟨some 47,.mov (.tmp 5),none,[]⟩,⟨some 48,.len (.tmp 47),none,[]⟩,⟨some 49,.bin .lss (.tmp 46) (.tmp 48),none,[]⟩]) (.cond (.tmp 49) .skip (.exit 6))) (.seq (.block 7 none (.seq (.ops false [⟨some 52,.mov (.tmp 5),none,[]⟩,⟨some 53,.mov (.tmp 9),none,[]⟩,⟨some 54,.iaddr 1 (.tmp 52) (.tmp 53),none,[]⟩,⟨some 55,.load none (.tmp 54),none,[]⟩,⟨some 56,.mov (.tmp 7),none,[]⟩,⟨some 57,.bin .geq (.tmp 55) (.tmp 56),none,[]⟩]) (.cond (.tmp 57) (.ops false [⟨some 58,.mov (.tmp 9),none,[]⟩,⟨some 8,.mov (.tmp 58),none,[]⟩]) .skip))) (.ops false [⟨some 50,.mov (.tmp 9),none,[]⟩,⟨some 51,.bin .add (.tmp 50) (.const (.int .i64 1)),none,[]⟩,⟨some 9,.mov (.tmp 51),none,[]⟩])))
def dk92_1 : Keep := ⟨[],[0,3,4,5,7,8,9],[5,10,34,35]⟩
def db92_2 : DC := (.seq (.seq (.ops false [⟨some 36,.mov (.tmp 7),none,[]⟩,⟨some 37,.bin .leq (.tmp 36) (.const (.int .i64 200)),none,[]⟩]) (.cond (.tmp 37) .skip (.exit 4))) (.seq (.block 5 (some ⟨[],[0,3,4,5,7],[5,10,34,35]⟩) (.seq (.ops false [⟨some 40,.mov (.tmp 0),none,[]⟩,⟨some 41,.mov (.tmp 4),none,[]⟩,⟨some 42,.iaddr 3 (.tmp 40) (.tmp 41),none,[]⟩,⟨some 43,.faddr 2 1 false (.tmp 42),none,[]⟩,⟨some 44,.load none (.tmp 43),none,[]⟩,⟨some 45,.bin .sub (.const (.int .i64 0)) (.tmp 44),none,[]⟩,⟨some 8,.mov (.tmp 45),none,[]⟩]) (.seq (.seq (.ops false [⟨some 9,.mov (.const (.int .i64 0)),none,[]⟩]) (.block 6 (some ⟨[],[0,3,4,5,7,8],[5,10,34,35]⟩) (.loop dk92_1 db92_1))) (.ops false [⟨some 59,.mov (.tmp 3),none,[]⟩,⟨some 60,.mov (.tmp 7),none,[]⟩,⟨some 61,.mov (.tmp 3),none,[]⟩,⟨some 62,.mov (.tmp 7),none,[]⟩,⟨some 63,.iaddr 1 (.tmp 61) (.tmp 62),none,[]⟩,⟨some 64,.load none (.tmp 63),none,[]⟩,⟨some 65,.mov (.tmp 8),none,[]⟩,⟨some 66,.bin .add (.tmp 64) (.tmp 65),none,[]⟩,⟨some 67,.iaddr 1 (.tmp 59) (.tmp 60),none,[]⟩,⟨none,.store 1 (.tmp 67) (.tmp 66),none,[]⟩])))) (.ops false [⟨some 38,.mov (.tmp 7),none,[]⟩,⟨some 39,.bin .add (.tmp 38) (.const (.int .i64 1)),none,[]⟩,⟨some 7,.mov (.tmp 39),none,[]⟩])))
def dk92_2 : Keep := ⟨[],[0,3,4,5,7],[5,10,34,35]⟩
def db92_3 : DC := (.seq (.seq (.ops false [⟨some 11,.mov (.tmp 4),none,[]⟩,⟨some 12,.mov (.tmp 0),none,[]⟩,⟨some 13,.len (.tmp 12),none,[]⟩,⟨some 14,.bin .lss (.tmp 11) (.tmp 13),none,[]⟩]) (.cond (.tmp 14) .skip (.exit 0))) (.seq (.block 1 (some ⟨[],[0,3,4],[10]⟩) (.seq (.ops false [⟨some 5,.mov (.const (.slice none 0 0)),none,[]⟩]) (.seq (.seq (.ops false [⟨some 6,.mov (.const (.int .i64 0)),none,[]⟩]) (.block 2 (some ⟨[],[0,3,4,5],[5,10]⟩) (.loop dk92_0 db92_0))) (.seq (.ops false [⟨some 7,.mov (.const (.int .i64 0)),none,[]⟩]) (.block 4 (some ⟨[],[0,3,4],[10,34,35]⟩) (.loop dk92_2 db92_2)))))) (.ops false [⟨some 15,.mov (.tmp 4),none,[]⟩,⟨some 16,.bin .add (.tmp 15) (.const (.int .i64 1)),none,[]⟩,⟨some 4,.mov (.tmp 16),none,[]⟩])))
def dk92_3 : Keep := ⟨[],[0,3,4],[10]⟩
def dc92 : DFunc := ⟨69,1,[.tmp 2],.seq (.ops false [⟨some 2,.mov (.const (.slice none 0 0)),none,[]⟩]) (.seq (.ops false [⟨some 10,.mkslice 1 (.int .i64 0) (.const (.int .i64 201)) (.const (.int .i64 201)),none,[]⟩,⟨some 3,.mov (.tmp 10),none,[]⟩]) (.seq (.seq (.ops false [⟨some 4,.mov (.const (.int .i64 0)),none,[]⟩]) (.block 0 (some ⟨[],[3],[10]⟩) (.loop dk92_3 db92_3))) (.seq (.ops false [⟨some 68,.mov (.tmp 3),none,[]⟩,⟨some 2,.mov (.tmp 68),none,[]⟩]) .ret)))⟩
theorem dh92:cProg Go.Proofs.Tryz.prog ⟨[(0,⟨[],[0,3,4],[10]⟩),(2,⟨[(5,1)],[0,3,4,5,6],[5,10]⟩),(4,⟨[],[0,3,4,5,7],[5,10,34,35]⟩),(6,⟨[],[0,3,4,5,7,8,9],[5,10,34,35]⟩)],[(2,⟨[],[0,3,4,5],[5,10]⟩),(6,⟨[],[0,3,4,5,7,8],[5,10,34,35]⟩),(5,⟨[],[0,3,4,5,7],[5,10,34,35]⟩),(4,⟨[],[0,3,4],[10,34,35]⟩),(1,⟨[],[0,3,4],[10]⟩),(0,⟨[],[3],[10]⟩)],[34]⟩ 92=some dc92:=by kernel_rfl
end Sh

namespace Sh
open Go
theorem befP_zero (t:List Pt):befP t 0=⟨-1,200⟩:=rfl
theorem befP_pos (t:List Pt) (i:Nat) (h:0 < i):befP t i=t.getD (i - 1) P0:=by cases i with
 |zero=>omega
 |succ i=>rfl
theorem befP_succ (t:List Pt) (i:Nat):befP t (i+1)=t.getD i P0:=rfl
end Sh

namespace Sh
open Go Go.Proofs
theorem q_When (b:Bool) (e:Int):PC 62 [.bool b,DV.int .i64 (e)] (DV.int .i64 (whenE b e)):=by
 refine pureCall_ofR dh62 rfl ?_
 conv=>whnf
 refine ⟨fun hb=>?_,fun hb=>?_⟩<;>try (exact absurd hb (by decide))
 all_goals conv=>whnf
 all_goals subst hb;rfl
theorem q_CheckRange (n l h:Int):PC 52 [DV.int .i64 (n),DV.int .i64 (l),DV.int .i64 (h)] (DV.int .i64 (withE n l h)):=by
 refine pureCall_ofR dh52 rfl ?_
 conv=>whnf
 refine ⟨fun hb=>?_,fun hb=>?_⟩<;>try (exact absurd hb (by decide))
 all_goals conv=>whnf
 ·refine .inl ?_
  conv=>whnf
  refine ⟨_,q_When ..,?_⟩
  conv=>whnf
  exact int_eq (by simp_all [withE,whenE];split<;>split<;>omega)
 ·refine .inl ?_
  conv=>whnf
  refine ⟨_,q_When ..,?_⟩
  conv=>whnf
  exact int_eq (by simp_all [withE,whenE])
theorem q_First (l:List Int) (hl:l.length < 4611686018427387904):PC 83 [iL l] (DV.int .i64 (firstE l)):=by
 refine pureCall_ofR dh83 rfl ?_
 conv=>whnf
 refine dwp_loopR (P:=Tryz.prog) (G:=GC) (k:=dk83_0) (b:=db83_0) (α:=Nat) (fun i=>[(0,iL l),(3,DV.int .i64 (i))]) (fun _=>[]) (fun i=>i≤l.length∧firstE l=firstE (l.drop i)) (fun i=>l.length - i) 0 ⟨rfl,rfl,rfl⟩ ⟨Nat.zero_le _,rfl⟩ ?_
 intro i ⟨h1,h2⟩
 conv=>whnf
 refine ⟨fun hb=>?_,fun hb=>?_⟩<;>try (exact absurd hb (by decide))
 ·have hi:i < l.length:=by simpa using hb
  have hd:=firstE_drop l i hi
  conv=>whnf
  rw [getD_enc _ _ (i) 0 hi]
  refine ⟨idxA hi rfl,?_⟩
  conv=>whnf
  refine ⟨fun hb=>?_,fun hb=>?_⟩<;>try (exact absurd hb (by decide))
  ·conv=>whnf
   rw [getD_enc _ _ (i) 0 hi]
   refine ⟨idxA hi rfl,?_⟩
   conv=>whnf
   exact int_eq (by simp_all)
  ·conv=>whnf
   rw [wrap_succ i (by omega)]
   exact ⟨i+1,rfl,rfl,rfl,⟨hi,by simp_all⟩,by omega⟩
 ·conv=>whnf
  have:i=l.length:=by simp at hb;omega
  subst this
  exact int_eq (by rw [h2];simp [firstE])
theorem l_first (l:List Int) (hl:l.length < 4611686018427387904):PC 17 [iL l] (DV.int .i64 (firstE l)):=by
 refine pureCall_ofR dh17 rfl ?_
 conv=>whnf
 refine .inl ?_
 conv=>whnf
 refine ⟨_,q_First _ hl,?_⟩
 conv=>whnf
 rfl
theorem q_Floor (n d:Int) (h:d≠0):PC 84 [DV.int .i64 (n),DV.int .i64 (d)] (DV.int .i64 (floorW n d)):=by
 refine pureCall_ofR dh84 rfl ?_
 conv=>whnf
 refine ⟨h,?_⟩
 conv=>whnf
 refine ⟨fun hb=>?_,fun hb=>?_⟩<;>try (exact absurd hb (by decide))
 ·conv=>whnf
  have hb:=of_decide_eq_true hb
  exact int_eq (by simp only [wrap_W] at hb ⊢;rw [floorW,if_pos hb])
 ·conv=>whnf
  have hb:=of_decide_eq_false hb
  exact int_eq (by simp only [wrap_W] at hb ⊢;rw [floorW,if_neg hb])
theorem r_CheckVolt (n:Int):PC 19 [DV.int .i64 (n)] (DV.int .i64 (withE n 0 800)):=by
 refine pureCall_ofR dh19 rfl ?_
 conv=>whnf
 refine .inl ?_
 conv=>whnf
 refine ⟨_,q_CheckRange ..,?_⟩
 conv=>whnf
 rfl
end Sh

namespace Sh
open Go Go.Proofs
theorem r_CheckTable (t:List Pt) (hl:t.length < 1073741824):PC 24 [tbl t] (DV.int .i64 (chkTab t)):=by
 have e0:((t.map encPt).length:Int)=t.length:=by simp
 refine pureCall_ofR dh24 rfl ?_
 conv=>whnf
 refine .inl ?_
 conv=>whnf
 refine ⟨_,q_When ..,?_⟩
 conv=>whnf
 refine .inl ?_
 conv=>whnf
 refine ⟨_,q_When ..,?_⟩
 conv=>whnf
 refine .inl ?_
 conv=>whnf
 refine ⟨_,q_First [_,_] (by simp),?_⟩
 conv=>whnf
 refine ⟨fun hb=>?_,fun hb=>?_⟩<;>try (exact absurd hb (by decide))
 ·have hb:=of_decide_eq_true hb
  conv=>whnf
  exact int_eq (by rw [e0] at hb ⊢;unfold chkTab sizeE;rw [if_pos hb])
 ·have hb0:=of_decide_eq_false hb
  clear hb
  have hk:chkTab t=chkL true ⟨-1,200⟩ t:=by unfold chkTab sizeE;rw [e0] at hb0;rw [if_neg hb0]
  conv=>whnf
  refine dwp_loopR (P:=Tryz.prog) (G:=GC) (k:=dk24_0) (b:=db24_0) (α:=Nat) (fun i=>[(0,tbl t),(4,DV.int .i64 (i))]) (fun _=>[]) (fun i=>i≤t.length∧chkL true ⟨-1,200⟩ t=chkL (decide (i=0)) (befP t i) (t.drop i)) (fun i=>t.length - i) 0 ⟨rfl,rfl,rfl⟩ ⟨Nat.zero_le _,rfl⟩ ?_
  intro i ⟨h1,h2⟩
  conv=>whnf
  refine ⟨fun hb=>?_,fun hb=>?_⟩
  ·have hi:i < t.length:=by simpa using hb
   conv=>whnf
   rw [getD_enc _ _ (i) P0 hi]
   refine ⟨idxA hi rfl,?_⟩
   conv=>whnf
   refine .inl ?_
   conv=>whnf
   refine ⟨_,q_CheckRange ..,?_⟩
   conv=>whnf
   rw [getD_enc _ _ (i) P0 hi]
   refine ⟨idxA hi rfl,?_⟩
   conv=>whnf
   refine .inl ?_
   conv=>whnf
   refine ⟨_,q_CheckRange ..,?_⟩
   conv=>whnf
   refine .inl ?_
   conv=>whnf
   refine ⟨_,q_First [_,_] (by simp),?_⟩
   conv=>whnf
   refine ⟨by kernel_rfl,?_⟩
   conv=>whnf
   refine ⟨fun hb=>?_,fun hb=>?_⟩<;>try (exact absurd hb (by decide))
   ·have hb:=of_decide_eq_true hb
    have hs:chkL true ⟨-1,200⟩ t=if chkStep (decide (i=0)) (befP t i) (t.getD i P0)≠0 then chkStep (decide (i=0)) (befP t i) (t.getD i P0) else chkL false (t.getD i P0) (t.drop (i+1)):=by rw [h2,drop_getD t i P0 hi];rfl
    conv=>whnf
    exact int_eq (by rw [hk,hs];clear hk hs h2 hb0 e0 h1 hl;grind [chkStep,firstE])
   ·have hb:=of_decide_eq_false hb
    conv=>whnf
    repeat' (first
     |(refine ⟨fun hg=>?_,fun hg=>?_⟩<;>first|contradiction|(conv=>whnf))
     |(refine Or.inl ?_;conv=>whnf)
     |(refine ⟨_,q_When ..,?_⟩;conv=>whnf)
     |(rw [getD_enc _ _ i P0 hi];refine ⟨idxA hi rfl,?_⟩;conv=>whnf)
     |(rw [wrap_pred i (by simp only [decide_eq_true_eq,Int.natCast_pos] at *;omega) (by omega),getD_enc _ _ (i - 1) P0 (by omega)];refine ⟨idxA (by omega) rfl,?_⟩;conv=>whnf)
     |(refine And.intro ?_ ?_;kernel_rfl;conv=>whnf))
    all_goals (try rw [wrap_succ i (by omega)])
    all_goals have hs:chkL true ⟨-1,200⟩ t=if chkStep (decide (i=0)) (befP t i) (t.getD i P0)≠0 then chkStep (decide (i=0)) (befP t i) (t.getD i P0) else chkL false (t.getD i P0) (t.drop (i+1)):=by rw [h2,drop_getD t i P0 hi];rfl
    all_goals first
     |(refine ⟨i+1,rfl,rfl,rfl,⟨hi,?_⟩,Nat.sub_lt_sub_left hi (Nat.lt_succ_self i)⟩;rw [hs];clear hk hs h2 hb0 e0 h1 hl;simp only [Bool.cond_true,Bool.cond_false,Bool.not_false,Bool.not_true,decide_true,Bool.and_true,decide_eq_true_eq,decide_eq_false_iff_not,Int.natCast_eq_zero,Int.natCast_pos,befP_succ] at *;generalize t.getD i P0=p at *;rcases Nat.eq_zero_or_pos i with hz|hz;(subst hz;simp only [befP_zero];grind [chkStep,firstE,withE,whenE]);(rw [befP_pos t i hz] at *;generalize t.getD (i - 1) P0=q at *;grind [chkStep,firstE,withE,whenE]))
     |(refine int_eq ?_;rw [hk,hs];clear hk hs h2 hb0 e0 h1 hl;simp only [Bool.cond_true,Bool.cond_false,Bool.not_false,Bool.not_true,decide_true,Bool.and_true,decide_eq_true_eq,decide_eq_false_iff_not,Int.natCast_eq_zero,Int.natCast_pos,befP_succ] at *;generalize t.getD i P0=p at *;rcases Nat.eq_zero_or_pos i with hz|hz;(subst hz;simp only [befP_zero];grind [chkStep,firstE,withE,whenE]);(rw [befP_pos t i hz] at *;generalize t.getD (i - 1) P0=q at *;grind [chkStep,firstE,withE,whenE]))
  ·have hi:i=t.length:=by have:=of_decide_eq_false hb;rw [e0] at this;omega
   have hn:0 < t.length:=by
    have:=sizeE_zero (n:=t.length) (by unfold sizeE;rw [e0] at hb0;exact Classical.not_not.1 hb0)
    omega
   rw [hk,h2,hi,List.drop_length,befP_pos t _ hn]
   conv=>whnf
   rw [e0,wrap_pred t.length hn (by omega)]
   rw [getD_enc _ _ (t.length - 1) P0 (by omega)]
   refine ⟨⟨by omega,by omega,rfl⟩,?_⟩
   conv=>whnf
   refine .inl ?_
   conv=>whnf
   refine ⟨_,q_When ..,?_⟩
   conv=>whnf
   rfl
theorem r_tableCurrent (t:List Pt) (v:Int) (h:OkT t) (h0:0≤v) (h1:v≤1000):PC 85 [tbl t,DV.int .i64 (v)] (DV.int .i64 (curT t v)):=by
 have e0:((t.map encPt).length:Int)=t.length:=by simp
 have hlen:=h.2.1
 have hlen2:=h.1
 refine pureCall_ofR dh85 rfl ?_
 conv=>whnf
 refine dwp_loopR (P:=Tryz.prog) (G:=GC) (k:=dk85_0) (b:=db85_0) (α:=Nat) (fun i=>[(0,tbl t),(1,DV.int .i64 (v)),(5,.int .i64 ((i+1:Nat):Int))]) (fun _=>[]) (fun i=>i+1≤t.length∧(t.getD i P0).x≤v∧curT t v=curT (t.drop i) v) (fun i=>t.length - i) 0 ⟨rfl,rfl,rfl⟩ ⟨by omega,?_,rfl⟩ ?_
 ·obtain ⟨p,r,rfl,q1,_⟩:=h.2.2
  show p.x≤v
  omega
 intro i ⟨h2,h3,h4⟩
 conv=>whnf
 refine ⟨fun hb=>?_,fun hb=>?_⟩
 ·have hi:i+1 < t.length:=by have:=of_decide_eq_true hb;rw [e0] at this;omega
  have hst:=h.step hi
  have hat:=h.at (i:=i) (by omega)
  have hat2:=h.at hi
  have hcd:=curT_drop t i v hi
  conv=>whnf
  rw [show IntKind.i64.wrap (((i+1:Nat):Int) - 1)=(i:Int) by rw [wrap_W,W_in (by omega) (by omega)];omega]
  rw [getD_enc _ _ (i) P0 (by omega:i < t.length)]
  refine ⟨idxA (by omega:i < t.length) rfl,?_⟩
  conv=>whnf
  rw [getD_enc _ _ (i+1) P0 hi]
  refine ⟨idxA hi rfl,?_⟩
  conv=>whnf
  have hd:W ((t.getD (i+1) P0).x - (t.getD i P0).x)≠0:=by have:=hst.2.1;rw [W_in (by omega) (by omega)];omega
  repeat' (first
   |(refine ⟨fun hg=>?_,fun hg=>?_⟩<;>first|contradiction|(conv=>whnf))
   |(refine Or.inl ?_;conv=>whnf)
   |(refine ⟨_,q_Floor _ _ hd,?_⟩;conv=>whnf)
   |(refine And.intro ?_ ?_;kernel_rfl;conv=>whnf))
  all_goals (try rw [wrap_succ (i+1) (by omega)])
  all_goals simp only [Bool.cond_true,Bool.cond_false,Bool.not_true,decide_eq_true_eq,decide_eq_false_iff_not] at hg
  ·exact int_eq (by rw [h4,hcd,if_pos hg];exact seg_floor ⟨hat.1,hat.2.1,hat.2.2.1,hat.2.2.2.1⟩ hst h0 h1)
  ·exact ⟨i+1,rfl,rfl,rfl,⟨hi,by omega,by rw [h4,hcd,if_neg hg]⟩,by omega⟩
  ·rename_i hq
   simp only [Bool.not_true,decide_eq_false_iff_not] at hq
   exact absurd h3 hq
 ·have hi:i+1=t.length:=by have:=of_decide_eq_false hb;rw [e0] at this;omega
  conv=>whnf
  exact int_eq (by rw [h4,drop_getD t i P0 (by omega),hi,List.drop_length];rfl)
end Sh

namespace Sh
open Go Go.Proofs
theorem r_Last (t:List Pt) (h:OkT t):PC 86 [tbl t] (DV.int .i64 (lastX t)):=by
 have e0:((t.map encPt).length:Int)=t.length:=by simp
 have hlen:=h.2.1
 have hlen2:=h.1
 refine pureCall_ofR dh86 rfl ?_
 conv=>whnf
 rw [e0,wrap_pred t.length (by omega) (by omega),getD_enc _ _ (t.length - 1) P0 (by omega)]
 refine ⟨⟨by omega,by omega,rfl⟩,?_⟩
 conv=>whnf
 exact int_eq (lastX_getD t (by intro e;rw [e] at hlen2;simp at hlen2)).symm
theorem r_Current (c:Cel) (v:Int) (h:OkC c) (h0:0≤v) (h1:v≤1000):PC 21 [encC c,DV.int .i64 (v)] (DV.int .i64 (curC c v)):=by
 have hp:=h.prod h0
 refine pureCall_ofR dh21 rfl ?_
 conv=>whnf
 repeat' (first
  |(refine ⟨fun hg=>?_,fun hg=>?_⟩<;>first|contradiction|(conv=>whnf))
  |(refine Or.inl ?_;conv=>whnf)
  |(refine ⟨_,r_tableCurrent _ _ h.1 h0 h1,?_⟩;conv=>whnf)
  |(refine ⟨_,q_Floor _ _ (by decide),?_⟩;conv=>whnf)
  |(refine And.intro ?_ ?_;kernel_rfl;conv=>whnf))
 exact int_eq (by rw [wrap_W,W_in (by omega) (by omega),floor_div (by decide) (by omega) (by omega) (by decide)];rfl)
theorem r_CheckCell (c:Cel) (hl:c.tb.length < 1073741824):PC 18 [encC c] (DV.int .i64 (chkCell c)):=by
 refine pureCall_ofR dh18 rfl ?_
 conv=>whnf
 repeat' (first
  |(refine ⟨fun hg=>?_,fun hg=>?_⟩<;>first|contradiction|(conv=>whnf))
  |(refine Or.inl ?_;conv=>whnf)
  |(refine ⟨_,r_CheckTable _ hl,?_⟩;conv=>whnf)
  |(refine ⟨_,q_CheckRange ..,?_⟩;conv=>whnf)
  |(refine ⟨_,q_First [_,_,_] (by simp),?_⟩;conv=>whnf)
  |(refine And.intro ?_ ?_;kernel_rfl;conv=>whnf))
 rfl
end Sh

namespace Sh
open Go Go.Proofs
theorem r_CheckChain (l:List Cel) (hl:l.length < 1073741824) (hc:∀ c ∈ l,c.tb.length < 1073741824):PC 32 [chn l] (DV.int .i64 (chkChain l)):=by
 have e0:((l.map encC).length:Int)=l.length:=by simp
 refine pureCall_ofR dh32 rfl ?_
 conv=>whnf
 repeat' (first
  |(refine ⟨fun hg=>?_,fun hg=>?_⟩<;>first|contradiction|(conv=>whnf))
  |(refine Or.inl ?_;conv=>whnf)
  |(refine ⟨_,q_When ..,?_⟩;conv=>whnf)
  |(refine ⟨_,q_First [_,_] (by simp),?_⟩;conv=>whnf)
  |(refine And.intro ?_ ?_;kernel_rfl;conv=>whnf))
 ·have hg:=of_decide_eq_true hg
  exact int_eq (by rw [e0] at hg ⊢;unfold chkChain countE;rw [if_pos hg])
 ·have hg:=of_decide_eq_false hg
  have hk:chkChain l=firstE (l.map chkCell):=by rw [e0] at hg;unfold chkChain countE;rw [if_neg hg]
  refine dwp_loopR (P:=Tryz.prog) (G:=GC) (k:=dk32_0) (b:=db32_0) (α:=Nat) (fun i=>[(0,chn l),(4,DV.int .i64 (i))]) (fun _=>[]) (fun i=>i≤l.length∧chkChain l=firstE ((l.map chkCell).drop i)) (fun i=>l.length - i) 0 ⟨rfl,rfl,rfl⟩ ⟨Nat.zero_le _,hk⟩ ?_
  intro i ⟨h1,h2⟩
  conv=>whnf
  refine ⟨fun hb=>?_,fun hb=>?_⟩
  ·have hi:i < l.length:=by simpa using hb
   have hd:=firstE_drop (l.map chkCell) i (by simpa using hi)
   rw [show (l.map chkCell).getD i 0=chkCell (l.getD i C0) by simp [List.getD_eq_getElem?_getD,hi]] at hd
   conv=>whnf
   rw [getD_enc _ _ (i) C0 hi]
   refine ⟨idxA hi rfl,?_⟩
   conv=>whnf
   repeat' (first
    |(refine ⟨fun hg=>?_,fun hg=>?_⟩<;>first|contradiction|(conv=>whnf))
    |(refine Or.inl ?_;conv=>whnf)
    |(refine ⟨_,r_CheckCell _ (hc _ (getD_in C0 hi)),?_⟩;conv=>whnf)
    |(refine And.intro ?_ ?_;kernel_rfl;conv=>whnf))
   ·have hg:=of_decide_eq_true hg
    exact int_eq (by rw [h2,hd,if_pos hg])
   ·have hg:=of_decide_eq_false hg
    rw [wrap_succ i (by omega)]
    exact ⟨i+1,rfl,rfl,rfl,⟨hi,by rw [h2,hd,if_neg hg]⟩,by omega⟩
  ·have hi:i=l.length:=by have:=of_decide_eq_false hb;rw [e0] at this;omega
   conv=>whnf
   exact int_eq (by rw [h2,hi,List.drop_of_length_le (by simp)];rfl)
end Sh

namespace Sh
open Go
def vsS (l:List Cel) (i n:Nat):List DV:=rng 201 (fun k=>DV.int .i64 (chVi l k (if k < n then i+1 else i)))
theorem vsS_len (l:List Cel) (i n:Nat):(vsS l i n).length=201:=rng_len _ _
theorem vsS_get {l:List Cel} {i n:Nat} (h:n < 201):(vsS l i n).getD n .undef=DV.int .i64 (chVi l n i):=by
 unfold vsS;rw [rng_getD _ _ h,if_neg (by omega)]
theorem vsS_set (l:List Cel) (i n:Nat):(vsS l i n).set n (DV.int .i64 (chVi l n (i+1)))=vsS l i (n+1):=by
 unfold vsS
 rw [rng_set]
 refine rng_congr (fun k hk=>?_)
 (try dsimp only)
 by_cases e:k=n
 ·subst e;simp
 ·rw [if_neg e]
  by_cases e2:k < n
  ·rw [if_pos e2,if_pos (by omega)]
  ·rw [if_neg e2,if_neg (by omega)]
theorem vsS_next (l:List Cel) (i:Nat):vsS l i 201=vsS l (i+1) 0:=by
 unfold vsS
 exact rng_congr (fun k hk=>by (try dsimp only);rw [if_pos hk,if_neg (by omega)])
theorem vsS_zero (l:List Cel):List.replicate 201 (DV.int .i64 0)=vsS l 0 0:=by
 rw [rng_const];unfold vsS
 exact rng_congr (fun k hk=>by (try dsimp only);rw [if_neg (by omega)];rfl)
theorem vsS_all (l:List Cel):vsS l l.length 0=(rng 201 fun k=>chV l k).map (DV.int .i64):=by
 rw [rng_map];unfold vsS
 exact rng_congr (fun k hk=>by (try dsimp only);rw [if_neg (by omega),chVi_all])
def cuS (c:Cel) (j:Nat):List DV:=rng j (fun k=>DV.int .i64 (curC c k))
theorem cuS_len (c:Cel) (j:Nat):(cuS c j).length=j:=rng_len _ _
theorem cuS_succ (c:Cel) (j:Nat):cuS c (j+1)=cuS c j++[DV.int .i64 (curC c j)]:=rng_succ _ _
theorem cuS_get {c:Cel} {L j:Nat} (h:j < L):(cuS c L).getD j .undef=DV.int .i64 (curC c j):=by unfold cuS;rw [rng_getD _ _ h]
section
variable {ev:Operand→DV} {lk:Nat→Option DObj} {o kk q i:Nat} {ks:List Nat} {z v:DV} {m k x:Operand} {es:List (DV×DV)}
end
end Sh

namespace Sh
open Go Go.Proofs
theorem r_chosen (l:List Cel) (f:Nat→Int) (v:Int) (hf:∀ n,n < 201→f n=chV l n):PC 91 [iL (rng 201 f),DV.int .i64 (v)] (DV.int .i64 (curH l v)):=by
 refine pureCall_ofR dh91 rfl ?_
 conv=>whnf
 refine dwp_loopR (P:=Tryz.prog) (G:=GC) (k:=dk91_0) (b:=db91_0) (α:=Nat) (fun k=>[(0,iL (rng 201 f)),(1,DV.int .i64 (v)),(5,DV.int .i64 (if 0 < hD l v k then hD l v k else 0)),(6,DV.int .i64 (k))]) (fun _=>[]) (fun k=>k≤201) (fun k=>201 - k) 0 ⟨rfl,rfl,rfl⟩ (Nat.zero_le _) ?_
 intro k hk
 have e0:(((rng 201 f).map (DV.int .i64)).length:Int)=201:=by rw [List.length_map,rng_len];rfl
 have hlen:(rng 201 f).length=201:=rng_len _ _
 conv=>whnf
 refine ⟨fun hb=>?_,fun hb=>?_⟩
 ·have hk2:=of_decide_eq_true hb
  rw [e0] at hk2
  have hk3:k < (rng 201 f).length:=by omega
  have hd:=hD_bd l v k
  conv=>whnf
  rw [getD_enc _ _ (k) 0 hk3]
  refine ⟨idxA hk3 rfl,?_⟩
  conv=>whnf
  rw [rng_getD f 0 (by omega:k < 201),hf k (by omega)]
  repeat' (first
   |(refine ⟨fun hg=>?_,fun hg=>?_⟩<;>first|contradiction|(conv=>whnf))
   |(refine Or.inl ?_;conv=>whnf)
   |(refine And.intro ?_ ?_;kernel_rfl;conv=>whnf))
  all_goals rw [wrap_succ k (by omega)]
  ·have hg:=of_decide_eq_true hg
   refine ⟨k+1,rfl,?_,rfl,by omega,by omega⟩
   have e:hD l v (k+1)=(k:Int):=by rw [hD,if_pos hg]
   rw [e]
   have e2:(if 0 < (k:Int) then (k:Int) else 0)=k:=by split<;>omega
   rw [e2];rfl
  ·have hg:=of_decide_eq_false hg
   refine ⟨k+1,rfl,?_,rfl,by omega,by omega⟩
   have e:hD l v (k+1)=hD l v k:=by rw [hD,if_neg hg]
   rw [e];rfl
 ·have hk2:=of_decide_eq_false hb
  rw [e0] at hk2
  have:k=201:=by omega
  subst this
  conv=>whnf
  rfl
end Sh

namespace Sh
open Go Go.Proofs
theorem r_Volts (l:List Cel) (h:OkH l):PC 92 [chn l] (iL (rng 201 fun k=>chV l k)):=by
 have e0:((l.map encC).length:Int)=l.length:=by simp
 have hl:=h.2.1
 refine pureCall_ofR dh92 rfl ?_
 conv=>whnf
 refine ⟨⟨by decide,by decide,by decide,rfl,rfl⟩,?_⟩
 rw [show (Int.toNat 201)=201 from rfl,vsS_zero l]
 conv=>whnf
 refine dwp_loopR (P:=Tryz.prog) (G:=GC) (k:=dk92_3) (b:=db92_3) (α:=Nat) (fun i=>[(0,chn l),(3,.own 10 0 201 201),(4,DV.int .i64 (i))]) (fun i=>[(10,.row 1 (vsS l i 0) false)]) (fun i=>i≤l.length) (fun i=>l.length - i) 0 ⟨rfl,rfl,rfl⟩ (Nat.zero_le _) ?_
 intro i h1
 conv=>whnf
 refine ⟨fun hb=>?_,fun hb=>?_⟩
 ·have hi:i < l.length:=by simpa using hb
  have hc:=h.2.2 _ (getD_in C0 hi)
  have hx:=hc.1.last_bd
  obtain ⟨L,hL⟩:∃ L:Nat,(L:Int)=lastX (l.getD i C0).tb+1:=⟨(lastX (l.getD i C0).tb+1).toNat,by omega⟩
  have hge:(l.map encC).getD (Int.toNat (i:Int)) .undef=encC (l.getD i C0):=getD_enc encC l i C0 hi
  generalize hcd:l.getD i C0=c at *
  conv=>whnf
  refine dwp_loopR (P:=Tryz.prog) (G:=GC) (k:=dk92_0) (b:=db92_0) (α:=Nat) (fun j=>[(0,chn l),(3,.own 10 0 201 201),(4,DV.int .i64 (i)),(5,.own 5 0 (cuS c j).length (cuS c j).length),(6,DV.int .i64 (j))]) (fun j=>[(5,.row 1 (cuS c j) false),(10,.row 1 (vsS l i 0) false)]) (fun j=>j≤L) (fun j=>L - j) 0 ⟨rfl,rfl,rfl⟩ (Nat.zero_le _) ?_
  intro j hj
  conv=>whnf
  rw [hge]
  refine ⟨idxA hi rfl,?_⟩
  conv=>whnf
  repeat' (first
   |(refine ⟨fun hg=>?_,fun hg=>?_⟩<;>first|contradiction|(conv=>whnf))
   |(refine Or.inl ?_;conv=>whnf)
   |(refine ⟨_,r_Last _ hc.1,?_⟩;conv=>whnf)
   |(refine And.intro ?_ ?_;kernel_rfl;conv=>whnf))
  ·have hg:=of_decide_eq_true hg
   rw [hge]
   refine ⟨idxA hi rfl,?_⟩
   conv=>whnf
   repeat' (first
    |(refine ⟨fun hg=>?_,fun hg=>?_⟩<;>first|contradiction|(conv=>whnf))
    |(refine Or.inl ?_;conv=>whnf)
    |(refine ⟨_,r_Current _ _ hc (by omega) (by omega),?_⟩;conv=>whnf)
    |(refine And.intro ?_ ?_;kernel_rfl;conv=>whnf))
   refine ⟨⟨rfl,rfl,rfl,by rw [cuS_len];simp;omega,fun e he=>by simp at he;subst he;rfl⟩,?_⟩
   conv=>whnf
   rw [wrap_succ j (by omega)]
   refine ⟨j+1,rfl,?_,?_,by omega,by omega⟩
   ·rw [cuS_succ];rfl
   ·rw [cuS_succ];rfl
  ·have hg:=of_decide_eq_false hg
   have hj:j=L:=by omega
   subst hj
   rw [cuS_len]
   refine dwp_loopR (P:=Tryz.prog) (G:=GC) (k:=dk92_2) (b:=db92_2) (α:=Nat) (fun n=>[(0,chn l),(3,.own 10 0 201 201),(4,DV.int .i64 (i)),(5,.own 5 0 j j),(7,DV.int .i64 (n))]) (fun n=>[(5,.row 1 (cuS c j) false),(10,.row 1 (vsS l i n) false)]) (fun n=>n≤201) (fun n=>201 - n) 0 ⟨rfl,rfl,rfl⟩ (Nat.zero_le _) ?_
   intro n hn
   conv=>whnf
   refine ⟨fun hb=>?_,fun hb=>?_⟩
   ·have hn2:=of_decide_eq_true hb
    have hn3:n < 201:=by omega
    conv=>whnf
    rw [hge]
    refine ⟨idxA hi rfl,?_⟩
    conv=>whnf
    rw [show IntKind.i64.wrap (0 - c.dr) = -c.dr by have:=hc.2.2.2;rw [wrap_W,W_in (by omega) (by omega)];omega]
    refine dwp_loopR (P:=Tryz.prog) (G:=GC) (k:=dk92_1) (b:=db92_1) (α:=Nat) (fun k=>[(0,chn l),(3,.own 10 0 201 201),(4,DV.int .i64 (i)),(5,.own 5 0 j j),(7,DV.int .i64 (n)),(8,DV.int .i64 ((vDown c n k).1)),(9,DV.int .i64 (k))]) (fun _=>[(5,.row 1 (cuS c j) false),(10,.row 1 (vsS l i n) false)]) (fun k=>k≤j) (fun k=>j - k) 0 ⟨rfl,rfl,rfl⟩ (Nat.zero_le _) ?_
    intro k hk
    conv=>whnf
    refine ⟨(cuS_len c j).symm,?_⟩
    conv=>whnf
    refine ⟨fun hb=>?_,fun hb=>?_⟩
    ·have hk2:=of_decide_eq_true hb
     conv=>whnf
     refine ⟨⟨(cuS_len c j).symm,by omega,by omega⟩,?_⟩
     conv=>whnf
     rw [Int.toNat_natCast,Nat.zero_add,cuS_get (by omega:k < j)]
     refine ⟨⟨(cuS_len c j).symm,by decide⟩,?_⟩
     conv=>whnf
     repeat' (first
      |(refine ⟨fun hg=>?_,fun hg=>?_⟩<;>first|contradiction|(conv=>whnf))
      |(refine Or.inl ?_;conv=>whnf)
      |(refine And.intro ?_ ?_;kernel_rfl;conv=>whnf))
     all_goals rw [wrap_succ k (by omega)]
     ·have hg:=of_decide_eq_true hg
      refine ⟨k+1,rfl,?_,rfl,by omega,by omega⟩
      have e:vDown c n (k+1)=(↑k,true):=by rw [vDown,if_pos hg]
      rw [e];rfl
     ·have hg:=of_decide_eq_false hg
      refine ⟨k+1,rfl,?_,rfl,by omega,by omega⟩
      have e:vDown c n (k+1)=vDown c n k:=by rw [vDown,if_neg hg]
      rw [e];rfl
    ·have hk2:=of_decide_eq_false hb
     have:k=j:=by omega
     subst this
     have hv:(vDown c n k).1=(voltC c n).1:=by unfold voltC;rw [show (lastX c.tb).toNat+1=k by omega]
     have b1:=chVi_bd h n i
     have b2:=hc.volt_bd n
     have hs:IntKind.i64.wrap (chVi l n i+(vDown c n k).1)=chVi l n (i+1):=by
      rw [hv,wrap_W,W_in (by omega) (by omega),chVi_succ l n i hi,hcd]
     conv=>whnf
     refine ⟨⟨(vsS_len _ _ _).symm,by omega,by omega⟩,?_⟩
     conv=>whnf
     rw [Int.toNat_natCast,Nat.zero_add,vsS_get hn3]
     refine ⟨⟨(vsS_len _ _ _).symm,by decide⟩,?_⟩
     conv=>whnf
     rw [hs]
     refine ⟨⟨(vsS_len _ _ _).symm,by omega,by omega⟩,?_⟩
     conv=>whnf
     refine ⟨⟨(vsS_len _ _ _).symm,by decide,rfl⟩,?_⟩
     conv=>whnf
     rw [wrap_succ n (by omega)]
     refine ⟨n+1,rfl,rfl,?_,by omega,by omega⟩
     show [(5,DObj.row 1 (cuS c k) false),(10,DObj.row 1 ((vsS l i n).set (0+n) (DV.int .i64 (chVi l n (i+1)))) false)]=_
     rw [Nat.zero_add,vsS_set]
   ·have hn2:=of_decide_eq_false hb
    have:n=201:=by omega
    subst this
    conv=>whnf
    rw [wrap_succ i (by omega)]
    refine ⟨i+1,rfl,rfl,?_,hi,by omega⟩
    show [(10,DObj.row 1 (vsS l i 201) false)]=_
    rw [vsS_next]
 ·have hi:i=l.length:=by have:=of_decide_eq_false hb;rw [e0] at this;omega
  conv=>whnf
  refine ⟨(vsS_len _ _ _).symm,?_⟩
  show DV.list (window (vsS l i 0) 0 201)=_
  have:=window_full (vsS l i 0)
  rw [vsS_len] at this
  rw [this,hi,vsS_all];rfl
end Sh

namespace Sh
open Go Go.Proofs
theorem r_ChainCurrent (l:List Cel) (v:Int) (h:OkH l):PC 35 [chn l,DV.int .i64 (v)] (DV.int .i64 (curH l v)):=by
 refine pureCall_ofR dh35 rfl ?_
 conv=>whnf
 repeat' (first
  |(refine ⟨fun hg=>?_,fun hg=>?_⟩<;>first|contradiction|(conv=>whnf))
  |(refine Or.inl ?_;conv=>whnf)
  |(refine ⟨_,r_Volts _ h,?_⟩;conv=>whnf)
  |(refine ⟨_,r_chosen l (fun k=>chV l k) v (fun _ _=>rfl),?_⟩;conv=>whnf)
  |(refine And.intro ?_ ?_;kernel_rfl;conv=>whnf))
 rfl
theorem r_ShortTable (t:List Pt):PC 12 [tbl t] (.bool (decide (t.length≤9))):=by
 have e0:((t.map encPt).length:Int)=t.length:=by simp
 refine pureCall_ofR dh12 rfl ?_
 conv=>whnf
 exact bool_eq (by rw [e0];simp;omega)
theorem l_cell (c:Cel) (hl:c.tb.length < 1073741824):PC 15 [encC c] (encC c):=by
 refine pureCall_ofR dh15 rfl ?_
 conv=>whnf
 refine ⟨⟨by simp;omega,fun e he=>by obtain ⟨p,_,rfl⟩:=List.mem_map.1 he;rfl,fun e he=>by simp at he⟩,?_⟩
 rw [show ([]:List DV).reverse++List.map encPt c.tb=List.map encPt c.tb from rfl]
 conv=>whnf
 repeat' (first
  |(refine ⟨fun hg=>?_,fun hg=>?_⟩<;>first|contradiction|(conv=>whnf))
  |(refine Or.inl ?_;conv=>whnf)
  |(refine And.intro ?_ ?_;kernel_rfl;conv=>whnf))
 rfl
def oC (l:List Cel) (i:Nat):List DV:=(l.take i).map encC
theorem oC_len (l:List Cel) (i:Nat) (h:i≤l.length):(oC l i).length=i:=by simp [oC];omega
theorem oC_succ (l:List Cel) (i:Nat) (h:i < l.length):oC l (i+1)=oC l i++[encC (l.getD i C0)]:=take_map_succ _ l i C0 h
theorem l_cells (l:List Cel) (hl:l.length < 1073741824) (hcs:∀ c ∈ l,c.tb.length < 1073741824):PC 29 [chn l] (chn l):=by
 have e0:((l.map encC).length:Int)=l.length:=by simp
 refine pureCall_ofR dh29 rfl ?_
 conv=>whnf
 refine dwp_loopR (P:=Tryz.prog) (G:=GC) (k:=dk29_0) (b:=db29_0) (α:=Nat) (fun i=>[(3,.own 3 0 (oC l i).length (oC l i).length),(6,chn l),(7,.int .i64 (l.map encC).length),(8,DV.int .i64 (i))]) (fun i=>[(3,.row 3 (oC l i) false)]) (fun i=>i≤l.length) (fun i=>l.length - i) 0 ⟨rfl,rfl,rfl⟩ (Nat.zero_le _) ?_
 intro i h1
 conv=>whnf
 refine ⟨fun hb=>?_,fun hb=>?_⟩
 ·have hi:i < l.length:=by simpa using hb
  conv=>whnf
  rw [getD_enc _ _ (i) C0 hi]
  refine ⟨idxA hi rfl,?_⟩
  conv=>whnf
  repeat' (first
   |(refine ⟨fun hg=>?_,fun hg=>?_⟩<;>first|contradiction|(conv=>whnf))
   |(refine Or.inl ?_;conv=>whnf)
   |(refine ⟨_,l_cell _ (hcs _ (getD_in C0 hi)),?_⟩;conv=>whnf)
   |(refine And.intro ?_ ?_;kernel_rfl;conv=>whnf))
  refine ⟨⟨rfl,rfl,rfl,by rw [oC_len l i h1];simp;omega,fun e he=>by simp at he;subst he;rfl⟩,?_⟩
  conv=>whnf
  rw [wrap_succ i (by omega)]
  refine ⟨i+1,rfl,?_,?_,hi,by omega⟩
  ·rw [oC_succ l i hi];rfl
  ·rw [oC_succ l i hi];rfl
 ·have hi:i=l.length:=by have:=of_decide_eq_false hb;rw [e0] at this;omega
  conv=>whnf
  refine ⟨rfl,?_⟩
  rw [window_full,hi]
  show DV.list (oC l l.length)=_
  unfold oC
  rw [List.take_length];rfl
def shortN (n:Nat):Bool:=!(decide (6 < n) && !decide (n=9))
def shortC (l:List Cel):Bool:=shortN l.length && l.all fun c=>decide (c.tb.length≤9)
theorem all_take {α:Type} (p:α→Bool) (l:List α) (i:Nat) (d:α) (hi:i < l.length) (h:(l.take i).all p=true) (h2:p (l.getD i d)=true):(l.take (i+1)).all p=true:=by
 rw [take_snoc l i d hi,List.all_append,h,List.all_cons,h2];rfl
theorem all_not {α:Type} (p:α→Bool) (l:List α) (i:Nat) (d:α) (hi:i < l.length) (h2:p (l.getD i d)=false):l.all p=false:=by
 rw [List.all_eq_false]
 exact ⟨_,getD_in d hi,by rw [h2];simp⟩
theorem r_ShortChain (l:List Cel):PC 27 [chn l] (.bool (shortC l)):=by
 have e0:((l.map encC).length:Int)=l.length:=by simp
 refine pureCall_ofR dh27 rfl ?_
 conv=>whnf
 repeat' (first
  |(refine ⟨fun hg=>?_,fun hg=>?_⟩<;>first|contradiction|(conv=>whnf))
  |(refine Or.inl ?_;conv=>whnf)
  |(refine And.intro ?_ ?_;kernel_rfl;conv=>whnf))
 ·rw [e0] at *
  refine bool_eq ?_
  symm
  rename_i hq
  have hq:=of_decide_eq_true hq
  have hg:=of_decide_eq_true hg
  have:shortN l.length=false:=by simp only [shortN];simp;omega
  unfold shortC;rw [this];rfl
 all_goals
  have hk:shortN l.length=true:=by
   rename_i hq
   rw [e0] at *
   have hq:¬ ((6:Int) < l.length∧¬ ((l.length:Int)=9)):=by simp at hq hg;omega
   simp only [shortN];simp;omega
 all_goals have h9:l.length≤9:=by (simp only [shortN] at hk;simp at hk;omega)
 all_goals refine dwp_loopR (P:=Tryz.prog) (G:=GC) (k:=dk27_0) (b:=db27_0) (α:=Nat) (fun i=>[(0,chn l),(3,DV.int .i64 (i))]) (fun _=>[]) (fun i=>i≤l.length∧(l.take i).all (fun c=>decide (c.tb.length≤9))=true) (fun i=>l.length - i) 0 ⟨rfl,rfl,rfl⟩ ⟨Nat.zero_le _,rfl⟩ ?_
 all_goals intro i ⟨h1,h2⟩
 all_goals conv=>whnf
 all_goals refine ⟨fun hb=>?_,fun hb=>?_⟩
 any_goals
  have hi:i < l.length:=by simpa using hb
  conv=>whnf
  rw [getD_enc _ _ (i) C0 hi]
  refine ⟨idxA hi rfl,?_⟩
  conv=>whnf
  repeat' (first
   |(refine ⟨fun hg=>?_,fun hg=>?_⟩<;>first|contradiction|(conv=>whnf))
   |(refine Or.inl ?_;conv=>whnf)
   |(refine ⟨_,r_ShortTable ..,?_⟩;conv=>whnf)
   |(refine And.intro ?_ ?_;kernel_rfl;conv=>whnf))
  ·have hg:decide ((l.getD i C0).tb.length≤9)=false:=by simpa using hg
   refine bool_eq ?_
   unfold shortC
   rw [all_not _ l i C0 hi hg,Bool.and_false]
  ·have hg:decide ((l.getD i C0).tb.length≤9)=true:=by simpa using hg
   rw [wrap_succ i (by omega)]
   exact ⟨i+1,rfl,rfl,rfl,⟨hi,all_take _ l i C0 hi h2 hg⟩,by omega⟩
 all_goals
  have hi:i=l.length:=by have:=of_decide_eq_false hb;rw [e0] at this;omega
  conv=>whnf
  refine bool_eq ?_
  rw [hi,List.take_length] at h2
  unfold shortC
  rw [hk,h2];rfl
theorem shortC_spec {l:List Cel} (h:shortC l=true):l.length≤9∧∀ c ∈ l,c.tb.length≤9:=by
 unfold shortC at h
 rw [Bool.and_eq_true] at h
 refine ⟨?_,fun c hc=>by simpa using List.all_eq_true.1 h.2 c hc⟩
 have:=h.1
 simp only [shortN] at this
 simp at this
 omega
end Sh

namespace Sh
open Go Go.Proofs
theorem r_CheckField (f:List (List Cel)) (hl:f.length < 1073741824) (hc:∀ l ∈ f,l.length < 1073741824∧∀ c ∈ l,c.tb.length < 1073741824):PC 45 [fld f] (DV.int .i64 (chkField f)):=by
 have e0:((f.map chn).length:Int)=f.length:=by simp
 refine pureCall_ofR dh45 rfl ?_
 conv=>whnf
 repeat' (first
  |(refine ⟨fun hg=>?_,fun hg=>?_⟩<;>first|contradiction|(conv=>whnf))
  |(refine Or.inl ?_;conv=>whnf)
  |(refine ⟨_,q_When ..,?_⟩;conv=>whnf)
  |(refine ⟨_,q_First [_,_] (by simp),?_⟩;conv=>whnf)
  |(refine And.intro ?_ ?_;kernel_rfl;conv=>whnf))
 ·have hg:=of_decide_eq_true hg
  exact int_eq (by rw [e0] at hg ⊢;unfold chkField countE;rw [if_pos hg])
 ·have hg:=of_decide_eq_false hg
  have hk:chkField f=firstE (f.map chkChain):=by rw [e0] at hg;unfold chkField countE;rw [if_neg hg]
  refine dwp_loopR (P:=Tryz.prog) (G:=GC) (k:=dk45_0) (b:=db45_0) (α:=Nat) (fun i=>[(0,fld f),(4,DV.int .i64 (i))]) (fun _=>[]) (fun i=>i≤f.length∧chkField f=firstE ((f.map chkChain).drop i)) (fun i=>f.length - i) 0 ⟨rfl,rfl,rfl⟩ ⟨Nat.zero_le _,hk⟩ ?_
  intro i ⟨h1,h2⟩
  conv=>whnf
  refine ⟨fun hb=>?_,fun hb=>?_⟩
  ·have hi:i < f.length:=by simpa using hb
   have hd:=firstE_drop (f.map chkChain) i (by simpa using hi)
   rw [show (f.map chkChain).getD i 0=chkChain (f.getD i []) by simp [List.getD_eq_getElem?_getD,hi]] at hd
   have hm:=hc _ (getD_in [] hi)
   conv=>whnf
   rw [getD_enc _ _ (i) [] hi]
   refine ⟨idxA hi rfl,?_⟩
   conv=>whnf
   repeat' (first
    |(refine ⟨fun hg=>?_,fun hg=>?_⟩<;>first|contradiction|(conv=>whnf))
    |(refine Or.inl ?_;conv=>whnf)
    |(refine ⟨_,r_CheckChain _ hm.1 hm.2,?_⟩;conv=>whnf)
    |(refine And.intro ?_ ?_;kernel_rfl;conv=>whnf))
   ·have hg:=of_decide_eq_true hg
    exact int_eq (by rw [h2,hd,if_pos hg])
   ·have hg:=of_decide_eq_false hg
    rw [wrap_succ i (by omega)]
    exact ⟨i+1,rfl,rfl,rfl,⟨hi,by rw [h2,hd,if_neg hg]⟩,by omega⟩
  ·have hi:i=f.length:=by have:=of_decide_eq_false hb;rw [e0] at this;omega
   conv=>whnf
   exact int_eq (by rw [h2,hi,List.drop_of_length_le (by simp)];rfl)
end Sh

namespace Sh
open Go Go.Proofs
theorem r_FieldCurrent (f:List (List Cel)) (v:Int) (h:OkF f):PC 49 [fld f,DV.int .i64 (v)] (DV.int .i64 (curF f v)):=by
 have e0:((f.map chn).length:Int)=f.length:=by simp
 have hl:=h.2.1
 refine pureCall_ofR dh49 rfl ?_
 conv=>whnf
 refine dwp_loopR (P:=Tryz.prog) (G:=GC) (k:=dk49_0) (b:=db49_0) (α:=Nat) (fun i=>[(0,fld f),(1,DV.int .i64 (v)),(5,DV.int .i64 (curFi f v i)),(6,DV.int .i64 (i))]) (fun _=>[]) (fun i=>i≤f.length) (fun i=>f.length - i) 0 ⟨rfl,rfl,rfl⟩ (Nat.zero_le _) ?_
 intro i h1
 conv=>whnf
 refine ⟨fun hb=>?_,fun hb=>?_⟩
 ·have hi:i < f.length:=by simpa using hb
  have hc:=h.2.2 _ (getD_in [] hi)
  have b1:=curFi_bd f hl v i
  have b2:=curH_bd (f.getD i []) v
  conv=>whnf
  rw [getD_enc _ _ (i) [] hi]
  refine ⟨idxA hi rfl,?_⟩
  conv=>whnf
  repeat' (first
   |(refine ⟨fun hg=>?_,fun hg=>?_⟩<;>first|contradiction|(conv=>whnf))
   |(refine Or.inl ?_;conv=>whnf)
   |(refine ⟨_,r_ChainCurrent _ _ hc,?_⟩;conv=>whnf)
   |(refine And.intro ?_ ?_;kernel_rfl;conv=>whnf))
  rw [wrap_succ i (by omega),show IntKind.i64.wrap (curFi f v i+curH (f.getD i []) v)=curFi f v (i+1) by rw [wrap_W,W_in (by omega) (by omega),curFi_succ f v i hi]]
  exact ⟨i+1,rfl,rfl,rfl,hi,by omega⟩
 ·have hi:i=f.length:=by have:=of_decide_eq_false hb;rw [e0] at this;omega
  conv=>whnf
  exact int_eq (by rw [hi,curFi_all])
end Sh

namespace Sh
open Go Go.Proofs
def oF (f:List (List Cel)) (i:Nat):List DV:=(f.take i).map chn
theorem oF_len (l:List (List Cel)) (i:Nat) (h:i≤l.length):(oF l i).length=i:=by simp [oF];omega
theorem oF_succ (l:List (List Cel)) (i:Nat) (h:i < l.length):oF l (i+1)=oF l i++[chn (l.getD i [])]:=take_map_succ _ l i [] h
theorem l_field (f:List (List Cel)) (hl:LenF f):PC 40 [fld f] (fld f):=by
 have e0:((f.map chn).length:Int)=f.length:=by simp
 have hl1:=hl.1
 refine pureCall_ofR dh40 rfl ?_
 conv=>whnf
 refine dwp_loopR (P:=Tryz.prog) (G:=GC) (k:=dk40_0) (b:=db40_0) (α:=Nat) (fun i=>[(3,.own 3 0 (oF f i).length (oF f i).length),(6,fld f),(7,.int .i64 (f.map chn).length),(8,DV.int .i64 (i))]) (fun i=>[(3,.row 1 (oF f i) false)]) (fun i=>i≤f.length) (fun i=>f.length - i) 0 ⟨rfl,rfl,rfl⟩ (Nat.zero_le _) ?_
 intro i h1
 conv=>whnf
 refine ⟨fun hb=>?_,fun hb=>?_⟩
 ·have hi:i < f.length:=by simpa using hb
  have hm:=hl.2 _ (getD_in [] hi)
  conv=>whnf
  rw [getD_enc _ _ (i) [] hi]
  refine ⟨idxA hi rfl,?_⟩
  conv=>whnf
  repeat' (first
   |(refine ⟨fun hg=>?_,fun hg=>?_⟩<;>first|contradiction|(conv=>whnf))
   |(refine Or.inl ?_;conv=>whnf)
   |(refine ⟨_,l_cells _ hm.1 hm.2,?_⟩;conv=>whnf)
   |(refine And.intro ?_ ?_;kernel_rfl;conv=>whnf))
  refine ⟨⟨rfl,rfl,rfl,by rw [oF_len f i h1];simp;omega,fun e he=>by simp at he;subst he;rfl⟩,?_⟩
  conv=>whnf
  rw [wrap_succ i (by omega)]
  refine ⟨i+1,rfl,?_,?_,hi,by omega⟩
  ·rw [oF_succ f i hi];rfl
  ·rw [oF_succ f i hi];rfl
 ·have hi:i=f.length:=by have:=of_decide_eq_false hb;rw [e0] at this;omega
  conv=>whnf
  refine ⟨rfl,?_⟩
  rw [window_full,hi]
  show DV.list (oF f f.length)=_
  unfold oF
  rw [List.take_length];rfl
end Sh

namespace Sh
open Go
end Sh

set_option maxHeartbeats 1000000
namespace Sh
open Go Go.Proofs
end Sh

namespace Sh
open Go
end Sh

set_option maxHeartbeats 2000000
namespace Sh
open Go Go.Proofs
end Sh

namespace Sh
open Go
end Sh

namespace Sh
open Go Go.Proofs
def shortFN (n:Nat):Bool:=!(decide (4 < n) && !decide (n=7))
def lenT (f:List (List Cel)) (i:Nat):Int:=sumI ((f.take i).map fun l=>(l.length:Int))
theorem lenT_succ (f:List (List Cel)) (i:Nat) (h:i < f.length):lenT f (i+1)=lenT f i+(f.getD i []).length:=by
 unfold lenT;rw [take_map_succ _ f i [] h,sumI_append,sumI_one]
def shortF (f:List (List Cel)):Bool:=shortFN f.length && (f.all shortC && decide (lenT f f.length≤24))
theorem shortC_len {l:List Cel} (h:shortC l=true):l.length≤9:=(shortC_spec h).1
theorem lenT_bd {f:List (List Cel)} {i:Nat} (h:(f.take i).all shortC=true):0≤lenT f i∧lenT f i≤9 * i:=by
 have h1:=sumI_bd (l:=(f.take i).map fun l=>(l.length:Int)) (A:=0) (B:=9) (fun x hx=>by
  obtain ⟨l,hl,rfl⟩:=List.mem_map.1 hx
  have:=shortC_len (List.all_eq_true.1 h l hl)
  omega)
 have h2:((f.take i).map fun l=>(l.length:Int)).length≤i:=by simp;omega
 unfold lenT
 omega
theorem r_ShortField (f:List (List Cel)):PC 38 [fld f] (.bool (shortF f)):=by
 have e0:((f.map chn).length:Int)=f.length:=by simp
 refine pureCall_ofR dh38 rfl ?_
 conv=>whnf
 repeat' (first
  |(refine ⟨fun hg=>?_,fun hg=>?_⟩<;>first|contradiction|(conv=>whnf))
  |(refine Or.inl ?_;conv=>whnf)
  |(refine And.intro ?_ ?_;kernel_rfl;conv=>whnf))
 ·rw [e0] at *
  refine bool_eq ?_
  symm
  rename_i hq
  have hq:=of_decide_eq_true hq
  have hg:=of_decide_eq_true hg
  have:shortFN f.length=false:=by simp only [shortFN];simp;omega
  unfold shortF;rw [this];rfl
 all_goals
  have hk:shortFN f.length=true:=by
   rename_i hq
   rw [e0] at *
   have hq:¬ ((4:Int) < f.length∧¬ ((f.length:Int)=7)):=by simp at hq hg;omega
   simp only [shortFN];simp;omega
 all_goals have h7:f.length≤7:=by (simp only [shortFN] at hk;simp at hk;omega)
 all_goals refine dwp_loopR (P:=Tryz.prog) (G:=GC) (k:=dk38_0) (b:=db38_0) (α:=Nat) (fun i=>[(0,fld f),(3,DV.int .i64 (lenT f i)),(4,DV.int .i64 (i))]) (fun _=>[]) (fun i=>i≤f.length∧(f.take i).all shortC=true) (fun i=>f.length - i) 0 ⟨rfl,rfl,rfl⟩ ⟨Nat.zero_le _,rfl⟩ ?_
 all_goals intro i ⟨h1,h2⟩
 all_goals have hb2:=lenT_bd h2
 all_goals conv=>whnf
 all_goals refine ⟨fun hb=>?_,fun hb=>?_⟩
 any_goals
  have hi:i < f.length:=by simpa using hb
  have e1:(((f.getD i []).map encC).length:Int)=(f.getD i []).length:=by simp
  conv=>whnf
  rw [getD_enc _ _ (i) [] hi]
  refine ⟨idxA hi rfl,?_⟩
  conv=>whnf
  rw [getD_enc _ _ (i) [] hi]
  refine ⟨idxA hi rfl,?_⟩
  conv=>whnf
  repeat' (first
   |(refine ⟨fun hg=>?_,fun hg=>?_⟩<;>first|contradiction|(conv=>whnf))
   |(refine Or.inl ?_;conv=>whnf)
   |(refine ⟨_,r_ShortChain ..,?_⟩;conv=>whnf)
   |(refine And.intro ?_ ?_;kernel_rfl;conv=>whnf))
  ·have hg:shortC (f.getD i [])=false:=by simpa using hg
   refine bool_eq ?_
   unfold shortF
   rw [all_not _ f i [] hi hg,Bool.false_and,Bool.and_false]
  ·have hg:shortC (f.getD i [])=true:=by simpa using hg
   have hq:=shortC_len hg
   rw [wrap_succ i (by omega)]
   refine ⟨i+1,rfl,?_,rfl,⟨hi,all_take _ f i [] hi h2 hg⟩,by omega⟩
   show [(0,fld f),(3,DV.int .i64 (IntKind.i64.wrap (lenT f i+(((f.getD i []).map encC).length:Int)))),_]=_
   rw [e1,wrap_W,W_in (by omega) (by omega),← lenT_succ f i hi];rfl
 all_goals
  have hi:i=f.length:=by have:=of_decide_eq_false hb;rw [e0] at this;omega
  conv=>whnf
  refine bool_eq ?_
  rw [hi,List.take_length] at h2
  unfold shortF
  rw [hk,h2,hi];rfl
theorem shortF_spec {f:List (List Cel)} (h:shortF f=true):f.length≤7∧(∀ l ∈ f,shortC l=true)∧LenF f:=by
 unfold shortF at h
 rw [Bool.and_eq_true,Bool.and_eq_true] at h
 have h7:f.length≤7:=by
  have:=h.1
  simp only [shortFN] at this
  simp at this
  omega
 have hA:=List.all_eq_true.1 h.2.1
 refine ⟨h7,hA,by omega,fun l hl=>?_⟩
 have:=shortC_spec (hA l hl)
 exact ⟨by omega,fun c hc=>by have:=this.2 c hc;omega⟩
end Sh

namespace Sh
open Go Go.Proofs
end Sh

namespace Sh
open Go
def dc6 : DFunc := ⟨56,3,[.tmp 6],.seq (.ops false [⟨some 6,.mov (.const (.bool false)),none,[]⟩]) (.seq (.seq (.ops false [⟨some 11,.mov (.tmp 0),none,[]⟩,⟨some 12,.call (.func 38) [.tmp 11],none,[]⟩,⟨some 13,.un .not (.tmp 12),none,[]⟩]) (.cond (.tmp 13) (.seq (.ops false [⟨some 14,.call (.func 13) [],none,[]⟩,⟨some 6,.mov (.tmp 14),none,[]⟩]) .ret) .skip)) (.seq (.ops false [⟨some 16,.mov (.tmp 0),none,[]⟩,⟨some 17,.call (.func 40) [.tmp 16],none,[]⟩,⟨some 18,.mov (.tmp 1),none,[]⟩,⟨some 19,.mov (.tmp 2),none,[]⟩,⟨some 20,.call (.func 51) [.tmp 17,.tmp 18,.tmp 19],none,[]⟩,⟨some 15,.mov (.tmp 20),none,[]⟩,⟨some 21,.extract (.tmp 15) 0,none,[]⟩,⟨some 22,.extract (.tmp 15) 1,none,[]⟩,⟨some 7,.alloc (.agg [.int .i64 0,.int .i64 0]) 2,none,[]⟩,⟨none,.store 2 (.tmp 7) (.tmp 21),none,[]⟩,⟨some 8,.mov (.tmp 22),none,[]⟩]) (.seq (.ops false [⟨some 23,.mov (.tmp 0),none,[]⟩,⟨some 24,.call (.func 45) [.tmp 23],none,[]⟩,⟨some 25,.mov (.tmp 1),none,[]⟩,⟨some 26,.call (.func 19) [.tmp 25],none,[]⟩,⟨some 27,.mov (.tmp 2),none,[]⟩,⟨some 28,.call (.func 52) [.tmp 27,.const (.int .i64 0),.const (.int .i64 1000)],none,[]⟩,⟨some 29,.lit true 1 3 (.int .i64 0) [(0,(.tmp 24)),(1,(.tmp 26)),(2,(.tmp 28))],none,[]⟩,⟨some 30,.call (.func 17) [.tmp 29],none,[]⟩,⟨some 9,.mov (.tmp 30),none,[]⟩]) (.seq (.ops false [⟨some 10,.alloc (.agg [.int .i64 0,.int .i64 0]) 2,none,[]⟩]) (.seq (.seq (.ops false [⟨some 31,.mov (.tmp 9),none,[]⟩,⟨some 32,.bin .eql (.tmp 31) (.const (.int .i64 0)),none,[]⟩]) (.cond (.tmp 32) (.ops false [⟨some 33,.mov (.tmp 0),none,[]⟩,⟨some 34,.mov (.tmp 2),none,[]⟩,⟨some 35,.bin .sub (.const (.int .i64 0)) (.tmp 34),none,[]⟩,⟨some 36,.call (.func 53) [.tmp 33,.tmp 35],none,[]⟩,⟨some 37,.mov (.tmp 1),none,[]⟩,⟨some 38,.call (.func 49) [.tmp 36,.tmp 37],none,[]⟩,⟨some 39,.mov (.tmp 0),none,[]⟩,⟨some 40,.mov (.tmp 2),none,[]⟩,⟨some 41,.call (.func 53) [.tmp 39,.tmp 40],none,[]⟩,⟨some 42,.mov (.tmp 1),none,[]⟩,⟨some 43,.call (.func 49) [.tmp 41,.tmp 42],none,[]⟩,⟨some 44,.build [.int .i64 0,.int .i64 0] [(0,(1,(.tmp 38))),(1,(1,(.tmp 43)))],none,[]⟩,⟨none,.store 2 (.tmp 10) (.tmp 44),none,[]⟩]) .skip)) (.seq (.ops false [⟨some 45,.load (some 2) (.tmp 7),none,[]⟩,⟨some 46,.load (some 2) (.tmp 10),none,[]⟩,⟨some 47,.eqA false [1,1] (.tmp 45) (.tmp 46),none,[]⟩,⟨some 48,.mov (.tmp 47),none,[]⟩,⟨some 49,.mov (.tmp 8),some (48,true),[]⟩,⟨some 50,.mov (.tmp 9),some (48,true),[]⟩,⟨some 51,.bin .eql (.tmp 49) (.tmp 50),some (48,true),[]⟩,⟨some 52,.pick (.tmp 48) (.tmp 51) (.const (.bool false)),none,[]⟩,⟨some 53,.mov (.tmp 52),none,[]⟩,⟨some 54,.call (.func 13) [],some (53,true),[]⟩,⟨some 55,.pick (.tmp 53) (.tmp 54) (.const (.bool false)),none,[]⟩,⟨some 6,.mov (.tmp 55),none,[]⟩]) .ret))))))⟩
theorem dh6:cProg Go.Proofs.Tryz.prog ⟨[],[],[29]⟩ 6=some dc6:=by kernel_rfl
end Sh

namespace Sh
open Go
def db53_0 : DC := (.seq (.seq (.ops false [⟨some 16,.mov (.tmp 7),none,[]⟩,⟨some 17,.mov (.tmp 5),none,[]⟩,⟨some 18,.mov (.tmp 6),none,[]⟩,⟨some 19,.iaddr 1 (.tmp 17) (.tmp 18),none,[]⟩,⟨some 20,.load none (.tmp 19),none,[]⟩,⟨some 21,.len (.tmp 20),none,[]⟩,⟨some 22,.bin .lss (.tmp 16) (.tmp 21),none,[]⟩]) (.cond (.tmp 22) .skip (.exit 2))) (.seq (.block 3 none (.ops true [⟨some 25,.mov (.tmp 5),none,[]⟩,⟨some 26,.mov (.tmp 6),none,[]⟩,⟨some 27,.iaddr 1 (.tmp 25) (.tmp 26),none,[0,1]⟩,⟨some 28,.load none (.tmp 27),none,[2,0,1]⟩,⟨some 29,.mov (.tmp 7),none,[]⟩,⟨some 30,.mov (.tmp 5),none,[]⟩,⟨some 31,.mov (.tmp 6),none,[]⟩,⟨some 32,.iaddr 1 (.tmp 30) (.tmp 31),none,[5,6]⟩,⟨some 33,.load none (.tmp 32),none,[7,5,6]⟩,⟨some 34,.mov (.tmp 7),none,[]⟩,⟨some 35,.iaddr 3 (.tmp 33) (.tmp 34),none,[8,7,5,6,9]⟩,⟨some 36,.faddr 1 1 false (.tmp 35),none,[10,8,7,5,6,9]⟩,⟨some 37,.load none (.tmp 36),none,[11,10,8,7,5,6,9]⟩,⟨some 38,.mov (.tmp 1),none,[]⟩,⟨some 39,.bin .add (.tmp 37) (.tmp 38),none,[12,11,10,8,7,5,6,9,13]⟩,⟨some 40,.minmax false (.const (.int .i64 1000)) [.tmp 39],none,[14,12,11,10,8,7,5,6,9,13]⟩,⟨some 41,.minmax true (.const (.int .i64 0)) [.tmp 40],none,[15,14,12,11,10,8,7,5,6,9,13]⟩,⟨some 42,.iaddr 3 (.tmp 28) (.tmp 29),none,[3,2,0,1,4,5,6,7,8,9,10,11,12,13,14,15,16]⟩,⟨some 43,.faddr 1 1 false (.tmp 42),none,[17,3,2,0,1,4,5,6,7,8,9,10,11,12,13,14,15,16]⟩,⟨none,.store 1 (.tmp 43) (.tmp 41),none,[18,17,3,2,0,1,4,5,6,7,8,9,10,11,12,13,14,15,16]⟩])) (.ops false [⟨some 23,.mov (.tmp 7),none,[]⟩,⟨some 24,.bin .add (.tmp 23) (.const (.int .i64 1)),none,[]⟩,⟨some 7,.mov (.tmp 24),none,[]⟩])))
def dk53_0 : Keep := ⟨[],[1,5,6,7],[9]⟩
def db53_1 : DC := (.seq (.seq (.ops false [⟨some 10,.mov (.tmp 6),none,[]⟩,⟨some 11,.mov (.tmp 5),none,[]⟩,⟨some 12,.len (.tmp 11),none,[]⟩,⟨some 13,.bin .lss (.tmp 10) (.tmp 12),none,[]⟩]) (.cond (.tmp 13) .skip (.exit 0))) (.seq (.block 1 (some ⟨[],[1,5,6],[9]⟩) (.seq (.ops false [⟨some 7,.mov (.const (.int .i64 0)),none,[]⟩]) (.block 2 (some ⟨[],[1,5,6],[9]⟩) (.loop dk53_0 db53_0)))) (.ops false [⟨some 14,.mov (.tmp 6),none,[]⟩,⟨some 15,.bin .add (.tmp 14) (.const (.int .i64 1)),none,[]⟩,⟨some 6,.mov (.tmp 15),none,[]⟩])))
def dk53_1 : Keep := ⟨[],[1,5,6],[9]⟩
def dc53 : DFunc := ⟨45,2,[.tmp 4],.seq (.ops false [⟨some 4,.mov (.const (.slice none 0 0)),none,[]⟩]) (.seq (.ops false [⟨some 8,.mov (.tmp 0),none,[]⟩,⟨some 9,.call (.func 66) [.tmp 8],none,[]⟩,⟨some 5,.mov (.tmp 9),none,[]⟩]) (.seq (.seq (.ops false [⟨some 6,.mov (.const (.int .i64 0)),none,[]⟩]) (.block 0 (some ⟨[],[5],[9]⟩) (.loop dk53_1 db53_1))) (.seq (.ops false [⟨some 44,.mov (.tmp 5),none,[]⟩,⟨some 4,.mov (.tmp 44),none,[]⟩]) .ret)))⟩
theorem dh53:cProg Go.Proofs.Tryz.prog ⟨[(0,⟨[],[1,5,6],[9]⟩),(2,⟨[],[1,5,6,7],[9]⟩)],[(2,⟨[],[1,5,6],[9]⟩),(1,⟨[],[1,5,6],[9]⟩),(0,⟨[],[5],[9]⟩)],[]⟩ 53=some dc53:=by kernel_rfl
def db66_0 : DC := (.seq (.seq (.ops false [⟨some 14,.mov (.tmp 6),none,[]⟩,⟨some 15,.mov (.tmp 0),none,[]⟩,⟨some 16,.mov (.tmp 4),none,[]⟩,⟨some 17,.iaddr 1 (.tmp 15) (.tmp 16),none,[]⟩,⟨some 18,.load none (.tmp 17),none,[]⟩,⟨some 19,.len (.tmp 18),none,[]⟩,⟨some 20,.bin .lss (.tmp 14) (.tmp 19),none,[]⟩]) (.cond (.tmp 20) .skip (.exit 2))) (.seq (.block 3 none (.seq (.ops false [⟨some 23,.mov (.tmp 0),none,[]⟩,⟨some 24,.mov (.tmp 4),none,[]⟩,⟨some 25,.iaddr 1 (.tmp 23) (.tmp 24),none,[]⟩,⟨some 26,.load none (.tmp 25),none,[]⟩,⟨some 27,.mov (.tmp 6),none,[]⟩,⟨some 28,.iaddr 3 (.tmp 26) (.tmp 27),none,[]⟩,⟨some 29,.load (some 3) (.tmp 28),none,[]⟩,⟨some 7,.alloc (.agg [.full [],.int .i64 0,.int .i64 0]) 3,none,[]⟩,⟨none,.store 3 (.tmp 7) (.tmp 29),none,[]⟩]) (.seq (.ops false [⟨some 30,.lit true 2 0 (.agg [.int .i64 0,.int .i64 0]) [],none,[]⟩,⟨some 31,.faddr 0 1 false (.tmp 7),none,[]⟩,⟨some 32,.load none (.tmp 31),none,[]⟩,⟨some 33,.append true 2 (.tmp 30) (.tmp 32),none,[]⟩,⟨some 34,.faddr 0 1 false (.tmp 7),none,[]⟩,⟨none,.store 1 (.tmp 34) (.tmp 33),none,[]⟩]) (.ops false [⟨some 35,.mov (.tmp 5),none,[]⟩,⟨some 36,.load (some 3) (.tmp 7),none,[]⟩,⟨some 37,.lit true 3 1 (.agg [.full [],.int .i64 0,.int .i64 0]) [(0,(.tmp 36))],none,[]⟩,⟨some 38,.appendN 3 3 (.tmp 35) (.tmp 37),none,[]⟩,⟨some 5,.mov (.tmp 38),none,[]⟩])))) (.ops false [⟨some 21,.mov (.tmp 6),none,[]⟩,⟨some 22,.bin .add (.tmp 21) (.const (.int .i64 1)),none,[]⟩,⟨some 6,.mov (.tmp 22),none,[]⟩])))
def dk66_0 : Keep := ⟨[],[0,3,4,5,6],[3,41,42]⟩
def db66_1 : DC := (.seq (.seq (.ops false [⟨some 8,.mov (.tmp 4),none,[]⟩,⟨some 9,.mov (.tmp 0),none,[]⟩,⟨some 10,.len (.tmp 9),none,[]⟩,⟨some 11,.bin .lss (.tmp 8) (.tmp 10),none,[]⟩]) (.cond (.tmp 11) .skip (.exit 0))) (.seq (.block 1 (some ⟨[],[0,3,4],[3]⟩) (.seq (.ops false [⟨some 5,.mov (.const (.slice none 0 0)),none,[]⟩]) (.seq (.seq (.ops false [⟨some 6,.mov (.const (.int .i64 0)),none,[]⟩]) (.block 2 (some ⟨[],[0,3,4,5],[3,41,42]⟩) (.loop dk66_0 db66_0))) (.ops false [⟨some 39,.mov (.tmp 3),none,[]⟩,⟨some 40,.mov (.tmp 5),none,[]⟩,⟨some 41,.litV 1 1 (.full []) [(0,(.tmp 40))],none,[]⟩,⟨some 42,.append false 1 (.tmp 39) (.tmp 41),none,[]⟩,⟨some 3,.mov (.tmp 42),none,[]⟩])))) (.ops false [⟨some 12,.mov (.tmp 4),none,[]⟩,⟨some 13,.bin .add (.tmp 12) (.const (.int .i64 1)),none,[]⟩,⟨some 4,.mov (.tmp 13),none,[]⟩])))
def dk66_1 : Keep := ⟨[(3,1010003)],[0,3,4],[3]⟩
def dc66 : DFunc := ⟨44,1,[.tmp 2],.seq (.ops false [⟨some 2,.mov (.const (.slice none 0 0)),none,[]⟩]) (.seq (.ops false [⟨some 3,.mov (.const (.slice none 0 0)),none,[]⟩]) (.seq (.seq (.ops false [⟨some 4,.mov (.const (.int .i64 0)),none,[]⟩]) (.block 0 (some ⟨[],[3],[3]⟩) (.loop dk66_1 db66_1))) (.seq (.ops false [⟨some 43,.mov (.tmp 3),none,[]⟩,⟨some 2,.mov (.tmp 43),none,[]⟩]) .ret)))⟩
theorem dh66:cProg Go.Proofs.Tryz.prog ⟨[(0,⟨[(3,1010003)],[0,3,4],[3]⟩),(2,⟨[],[0,3,4,5,6],[3,41,42]⟩)],[(2,⟨[],[0,3,4,5],[3,41,42]⟩),(1,⟨[],[0,3,4],[3]⟩),(0,⟨[],[3],[3]⟩)],[30,33,37,41,2000041,1000038000003]⟩ 66=some dc66:=by kernel_rfl
end Sh

namespace Sh
open Go Go.Proofs
def ownR (f:List (List Cel)) (i:Nat):List DV:=(f.take i).map fun l=>.inn (l.map encC)
theorem ownR_len (f:List (List Cel)) (i:Nat) (h:i≤f.length):(ownR f i).length=i:=by simp [ownR];omega
theorem ownR_succ (f:List (List Cel)) (i:Nat) (h:i < f.length):ownR f (i+1)=ownR f i++[.inn ((f.getD i []).map encC)]:=take_map_succ _ f i [] h
def clR (l:List Cel) (k:Nat):List DV:=(l.take k).map encC
theorem clR_len (l:List Cel) (k:Nat) (h:k≤l.length):(clR l k).length=k:=by simp [clR];omega
theorem clR_succ (l:List Cel) (k:Nat) (h:k < l.length):clR l (k+1)=clR l k++[encC (l.getD k C0)]:=take_map_succ _ l k C0 h
def lV (l:List Cel) (n:Nat):Nat→DV
 |0=>.full []
 |k+1=>.sub 3 n 0 (clR l (k+1)).length (clR l (k+1)).length
def pdV (l:List Cel) (n:Nat):Nat→Option (Nat×List DV)
 |0=>none
 |k+1=>some (n,clR l (k+1))
theorem r_Own (f:List (List Cel)) (hl:LenF f) (hne:∀ l ∈ f,l≠[]):HCall Tryz.prog GC 66 [fld f] [] (.own 3 0 (ownR f f.length).length (ownR f f.length).length) [(3,.nrow 1 0 3 (ownR f f.length) none)]:=by
 have e0:((f.map chn).length:Int)=f.length:=by simp
 obtain ⟨hl1,hl2⟩:=hl
 refine hCall_ofR dh66 rfl (by kernel_rfl) (by kernel_rfl) ?_
 conv=>whnf
 refine dwp_loopR (P:=Tryz.prog) (G:=GC) (k:=dk66_1) (b:=db66_1) (α:=Nat) (fun i=>[(0,fld f),(3,.own 3 0 (ownR f i).length (ownR f i).length),(4,DV.int .i64 (i))]) (fun i=>[(3,.nrow 1 0 3 (ownR f i) none)]) (fun i=>i≤f.length) (fun i=>f.length - i) 0 ⟨rfl,rfl,rfl⟩ (Nat.zero_le _) ?_
 intro i h1
 conv=>whnf
 refine ⟨fun hb=>?_,fun hb=>?_⟩
 ·have hi:i < f.length:=by simpa using hb
  clear hb
  have hlm:=hl2 _ (getD_in [] hi)
  have hnn:=hne _ (getD_in [] hi)
  have hol:=ownR_len f i h1
  conv=>whnf
  generalize hL:f.getD i []=l at *
  obtain ⟨g1,g2⟩:=hlm
  refine dwp_loopR (P:=Tryz.prog) (G:=GC) (k:=dk66_0) (b:=db66_0) (α:=Nat) (fun k=>[(0,fld f),(3,.own 3 0 (ownR f i).length (ownR f i).length),(4,DV.int .i64 (i)),(5,lV l (ownR f i).length k),(6,DV.int .i64 (k))]) (fun k=>[(3,.nrow 1 0 3 (ownR f i) (pdV l (ownR f i).length k))]) (fun k=>k≤l.length) (fun k=>l.length - k) 0 ⟨rfl,rfl,rfl⟩ (Nat.zero_le _) ?_
  intro k h2
  conv=>whnf
  rw [getD_enc _ _ (i) [] hi]
  refine ⟨idxA hi rfl,?_⟩
  conv=>whnf
  refine ⟨fun hb=>?_,fun hb=>?_⟩
  ·have hk:k < l.length:=by rw [hL] at hb;simpa using hb
   clear hb
   have hcs:=clR_succ l k hk
   have hg2:=g2 _ (getD_in C0 hk)
   conv=>whnf
   rw [getD_enc _ _ (i) [] hi]
   refine ⟨idxA hi rfl,?_⟩
   conv=>whnf
   rw [hL]
   rw [getD_enc _ _ (k) C0 hk]
   refine ⟨idxA hk rfl,?_⟩
   conv=>whnf
   refine ⟨⟨by rw [List.length_map];show 0+_≤_;omega,fun e he=>by obtain ⟨x,_,rfl⟩:=List.mem_map.1 he;rfl,fun e he=>by cases he⟩,?_⟩
   conv=>whnf
   rcases k with _|k
   ·conv=>whnf
    refine ⟨⟨by show 1≤1073741824;decide,fun e he=>by simp at he;subst he;rfl⟩,?_⟩
    conv=>whnf
    rw [wrap_succ 0 (by omega)]
    refine ⟨1,rfl,?_,?_,hk,by omega⟩
    ·have hv:lV l (ownR f i).length 1=.sub 3 (ownR f i).length 0 ([encC (l.getD 0 C0)]:List DV).length ([encC (l.getD 0 C0)]:List DV).length:=by
      show DV.sub 3 _ 0 (clR l (0+1)).length (clR l (0+1)).length=_
      rw [hcs];rfl
     rw [hv];rfl
    ·have hv:pdV l (ownR f i).length 1=some ((ownR f i).length,[encC (l.getD 0 C0)]):=by
      show some (_,clR l (0+1))=_
      rw [hcs];rfl
     rw [hv];rfl
   ·conv=>whnf
    refine ⟨⟨rfl,rfl,rfl,rfl,by rw [clR_len l (k+1) h2];show k+1+1≤1073741824;omega,fun e he=>by simp at he;subst he;rfl⟩,?_⟩
    conv=>whnf
    rw [wrap_succ (k+1) (by omega)]
    refine ⟨k+1+1,rfl,?_,?_,hk,by omega⟩
    ·have hv:lV l (ownR f i).length (k+1+1)=.sub 3 (ownR f i).length 0 (clR l (k+1)++[encC (l.getD (k+1) C0)]).length (clR l (k+1)++[encC (l.getD (k+1) C0)]).length:=by
      show DV.sub 3 _ 0 (clR l (k+1+1)).length (clR l (k+1+1)).length=_
      rw [hcs]
     rw [hv];rfl
    ·have hv:pdV l (ownR f i).length (k+1+1)=some ((ownR f i).length,clR l (k+1)++[encC (l.getD (k+1) C0)]):=by
      show some (_,clR l (k+1+1))=_
      rw [hcs]
     rw [hv];rfl
  ·have hk:k=l.length:=by have:=of_decide_eq_false hb;rw [hL] at this;simp at this;omega
   clear hb
   rcases k with _|k
   ·exact absurd (List.eq_nil_of_length_eq_zero hk.symm) hnn
   conv=>whnf
   refine ⟨⟨rfl,rfl,rfl,by omega,rfl,rfl,rfl,rfl,rfl⟩,?_⟩
   conv=>whnf
   rw [wrap_succ i (by omega)]
   have hr:ownR f (i+1)=ownR f i++[.inn (clR l (k+1))]:=by
    rw [ownR_succ f i hi,hL]
    unfold clR
    rw [hk,List.take_length]
   have hrl:(ownR f (i+1)).length=(ownR f i).length+1:=by rw [hr];simp
   refine ⟨i+1,rfl,?_,?_,hi,by omega⟩
   ·rw [hrl];rfl
   ·rw [hr];rfl
 ·have hi:i=f.length:=by have:=of_decide_eq_false hb;rw [e0] at this;omega
  clear hb
  subst hi
  conv=>whnf
  exact ⟨rfl,rfl⟩
end Sh

namespace Sh
open Go Go.Proofs
def rowL (f:List (List Cel)) (b:Int) (i k j:Nat):List DV:=litR (f.getD j []) b (if j < i then (f.getD j []).length else if j=i then k else 0)
def litO (f:List (List Cel)) (b:Int) (i k:Nat):List DV:=rng f.length fun j=>.inn (rowL f b i k j)
theorem litO_len (f:List (List Cel)) (b:Int) (i k:Nat):(litO f b i k).length=f.length:=rng_len _ _
theorem litO_get {f:List (List Cel)} {b:Int} {i k:Nat} (h:i < f.length):(litO f b i k).getD i .undef=.inn (litR (f.getD i []) b k):=by
 unfold litO
 rw [rng_getD _ _ h]
 unfold rowL
 rw [if_neg (Nat.lt_irrefl i),if_pos rfl]
theorem litO_set {f:List (List Cel)} {b:Int} {i k:Nat} (h:i < f.length):(litO f b i k).set i (.inn (litR (f.getD i []) b (k+1)))=litO f b i (k+1):=by
 unfold litO
 rw [rng_set]
 refine rng_congr fun j hj=>?_
 (try dsimp only)
 by_cases e:j=i
 ·subst e
  rw [if_pos rfl];unfold rowL;rw [if_neg (Nat.lt_irrefl j),if_pos rfl]
 ·rw [if_neg e];unfold rowL;rw [if_neg e,if_neg e]
theorem litO_next {f:List (List Cel)} {b:Int} {i:Nat}:litO f b i (f.getD i []).length=litO f b (i+1) 0:=by
 unfold litO
 refine rng_congr fun j hj=>?_
 unfold rowL
 congr 2
 by_cases e:j=i
 ·subst e;rw [if_neg (Nat.lt_irrefl j),if_pos rfl,if_pos (by omega)]
 ·rw [if_neg e]
  by_cases e2:j < i
  ·rw [if_pos e2,if_pos (by omega)]
  ·rw [if_neg e2,if_neg (by omega)];split<;>rfl
theorem litO_zero (f:List (List Cel)) (b:Int):ownR f f.length=litO f b 0 0:=by
 unfold ownR litO
 rw [List.take_length,map_rng _ f []]
 refine rng_congr fun j hj=>?_
 unfold rowL
 rw [if_neg (Nat.not_lt_zero j)]
 (try dsimp only)
 rw [litR_zero (f.getD j []) b]
 split<;>rfl
theorem litO_all (f:List (List Cel)) (b:Int):(litO f b f.length 0).map closeD=(litF f b).map chn:=by
 unfold litO litF
 rw [rng_map,List.map_map,map_rng _ f []]
 refine rng_congr fun j hj=>?_
 unfold rowL
 (try dsimp only)
 rw [if_pos hj,litR_all];rfl
theorem clamp_mm (x:Int):minmaxI true 0 (minmaxI false 1000 x)=clampL x:=by
 have e1:minmaxI false 1000 x=if x < 1000 then x else 1000:=rfl
 have e2:∀ y:Int,minmaxI true 0 y=if y > 0 then y else 0:=fun _=>rfl
 rw [e2,e1]
 unfold clampL
 by_cases a:x < 1000
 ·rw [if_pos a]
  by_cases b:0 < x
  ·rw [if_pos (show x > 0 from b),if_pos a]
  ·rw [if_neg (show ¬ x > 0 from b)];rfl
 ·rw [if_neg a,if_pos (show (1000:Int) > 0 by decide)];simp only [if_pos (show 0 < x by omega)];rw [if_neg a]
theorem ev_sublen {opd:Operand→DV} {lk:Nat→Option DObj} {d:Nat} {x:Operand} {n i off len tot sz c isz:Nat} {es l:List DV} (hc:innOf c (es.getD i .undef)=some l) (hx:opd x=.sub n i off len tot) (hl:lk n=some (.nrow sz c isz es none)) :
  evalOp opd lk d (.len x)=.ok (some (tot=l.length)) (.int .i64 len) []:=by
 unfold evalOp;dsimp only;rw [hx];dsimp only;rw [hl];dsimp only;rw [hc]
theorem ev_subiaddr {opd:Operand→DV} {lk:Nat→Option DObj} {d:Nat} {x y:Operand} {n i off len tot sz c isz:Nat} {es l:List DV} {k:IntKind} {j:Int} (hc:innOf c (es.getD i .undef)=some l) (hx:opd x=.sub n i off len tot) (hy:opd y=.int k j) (hl:lk n=some (.nrow sz c isz es none)) :
  evalOp opd lk d (.iaddr isz x y)=.ok (some (tot=l.length∧0≤j∧j < len)) (.sptr n i (off+j.toNat) 0 tot) []:=by
 unfold evalOp;dsimp only;rw [hy];dsimp only;rw [hx];dsimp only;rw [hl];dsimp only;rw [hc];dsimp only;rw [Nat.beq_refl];rfl
theorem ev_subfaddr {opd:Operand→DV} {lk:Nat→Option DObj} {d:Nat} {x:Operand} {n i j o tot sz c isz off s:Nat} {es l:List DV} {agg:Bool} (hc:innOf c (es.getD i .undef)=some l) (hx:opd x=.sptr n i j o tot) (hl:lk n=some (.nrow sz c isz es none)) :
  evalOp opd lk d (.faddr off s agg x)=.ok (some (tot=l.length)) (.sptr n i j (o+off) tot) []:=by
 unfold evalOp;dsimp only;rw [hx];dsimp only;rw [hl];dsimp only;rw [hc]
theorem ev_subload {opd:Operand→DV} {lk:Nat→Option DObj} {d:Nat} {x:Operand} {n i j off tot sz c isz:Nat} {es l:List DV} (hc:innOf c (es.getD i .undef)=some l) (hx:opd x=.sptr n i j off tot) (hl:lk n=some (.nrow sz c isz es none)) :
  evalOp opd lk d (.load none x)=.ok (some (tot=l.length∧off < isz)) ((l.getD j .undef).cells.getD off .undef) []:=by
 unfold evalOp;dsimp only;rw [hx];dsimp only;rw [hl];dsimp only;rw [hc]
theorem ev_substore {opd:Operand→DV} {lk:Nat→Option DObj} {d:Nat} {x y:Operand} {n i j tot sz c:Nat} {es l:List DV} {v:Int} (hc:innOf c (es.getD i .undef)=some l) (hx:opd x=.sptr n i j 1 tot) (hy:opd y=.int .i64 v) (hl:lk n=some (.nrow sz c 3 es none)) :
  evalOp opd lk d (.store 1 x y)=.okF [] (some (tot=l.length∧1+1≤3∧okE 1 (.int .i64 v)=true)) (.tuple []) [(n,.nrow sz c 3 (es.set i (setInn sz c (es.getD i .undef) (l.set j (.agg (setCells (l.getD j .undef).cells 1 [.int .i64 v]))))) none)]:=by
 unfold evalOp;dsimp only;rw [hx];dsimp only;rw [hl];dsimp only;rw [hc];dsimp only;rw [hy];rfl
theorem r_Lit (f:List (List Cel)) (b:Int) (hl:LenF f) (hne:∀ l ∈ f,l≠[]):PC 53 [fld f,DV.int .i64 (b)] (fld (litF f b)):=by
 have hl0:=hl
 obtain ⟨hl1,hl2⟩:=hl
 have hO:=r_Own f hl0 hne
 rw [litO_zero f b] at hO
 refine pureCall_ofR dh53 rfl ?_
 conv=>whnf
 refine .inr ⟨[(3,9)],_,_,_,_,hO,⟨rfl,by kernel_rfl,?_,?_⟩,?_⟩
 ·exact trivial
 ·exact ⟨.inr rfl,trivial⟩
 conv=>whnf
 have hlen:∀ i k,(litO f b 0 0).length=(litO f b i k).length:=fun i k=>by rw [litO_len,litO_len]
 have e0:(litO f b 0 0).length=f.length:=litO_len _ _ _ _
 refine dwp_loopR (P:=Tryz.prog) (G:=GC) (k:=dk53_1) (b:=db53_1) (α:=Nat) (fun i=>[(1,DV.int .i64 (b)),(5,.own 9 0 (litO f b 0 0).length (litO f b 0 0).length),(6,DV.int .i64 (i))]) (fun i=>[(9,.nrow 1 0 3 (litO f b i 0) none)]) (fun i=>i≤f.length) (fun i=>f.length - i) 0 ⟨rfl,rfl,rfl⟩ (Nat.zero_le _) ?_
 intro i h1
 conv=>whnf
 refine ⟨hlen i 0,?_⟩
 conv=>whnf
 refine ⟨fun hb=>?_,fun hb=>?_⟩
 ·have hi:i < f.length:=by have:=of_decide_eq_true hb;rw [e0] at this;omega
  clear hb
  conv=>whnf
  refine dwp_loopR (P:=Tryz.prog) (G:=GC) (k:=dk53_0) (b:=db53_0) (α:=Nat) (fun k=>[(1,DV.int .i64 (b)),(5,.own 9 0 (litO f b 0 0).length (litO f b 0 0).length),(6,DV.int .i64 (i)),(7,DV.int .i64 (k))]) (fun k=>[(9,.nrow 1 0 3 (litO f b i k) none)]) (fun k=>k≤(f.getD i []).length) (fun k=>(f.getD i []).length - k) 0 ⟨rfl,rfl,rfl⟩ (Nat.zero_le _) ?_
  intro k h2
  have hrow:=litO_get (b:=b) (k:=k) hi
  have hrl:=litR_len (f.getD i []) b k
  have hrow0:(litO f b i k).getD (0+Int.toNat (i:Int)) .undef=.inn (litR (f.getD i []) b k):=by rw [Int.toNat_natCast,Nat.zero_add];exact hrow
  conv=>whnf
  refine ⟨⟨hlen i k,by omega,by omega⟩,?_⟩
  conv=>whnf
  refine ⟨⟨hlen i k,by decide⟩,?_⟩
  rw [hrow0]
  conv=>whnf
  have hin:innOf 0 ((litO f b i k).getD (0+Int.toNat (i:Int)) .undef)=some (litR (f.getD i []) b k):=by rw [hrow0];rfl
  rw [ev_sublen hin rfl rfl]
  conv=>whnf
  refine ⟨rfl,?_⟩
  conv=>whnf
  refine ⟨fun hb=>?_,fun hb=>?_⟩
  ·have hk:k < (f.getD i []).length:=by have:=of_decide_eq_true hb;rw [hrl] at this;omega
   clear hb
   conv=>whnf
   repeat first
    |(rw [ev_sublen hin rfl rfl];conv=>whnf
      refine ⟨rfl,?_⟩;conv=>whnf)
    |(rw [ev_subiaddr hin rfl rfl rfl];conv=>whnf
      refine ⟨⟨rfl,by omega,by rw [hrl];omega⟩,?_⟩;conv=>whnf)
    |(rw [ev_subfaddr hin rfl rfl];conv=>whnf
      refine ⟨rfl,?_⟩;conv=>whnf)
    |(rw [ev_subload hin rfl rfl];conv=>whnf
      refine ⟨⟨rfl,by decide⟩,?_⟩;conv=>whnf)
    |(refine ⟨⟨hlen i k,by omega,by omega⟩,?_⟩;conv=>whnf)
    |(refine ⟨⟨hlen i k,by decide⟩,?_⟩;rw [hrow0];conv=>whnf)
   have hcel:(litR (f.getD i []) b k).getD (0+Int.toNat (k:Int)) .undef=encC ((f.getD i []).getD k C0):=by rw [Int.toNat_natCast,Nat.zero_add];exact litR_get hk
   rw [hcel]
   conv=>whnf
   repeat first
    |(rw [ev_sublen hin rfl rfl];conv=>whnf
      refine ⟨rfl,?_⟩;conv=>whnf)
    |(rw [ev_subiaddr hin rfl rfl rfl];conv=>whnf
      refine ⟨⟨rfl,by omega,by rw [hrl];omega⟩,?_⟩;conv=>whnf)
    |(rw [ev_subfaddr hin rfl rfl];conv=>whnf
      refine ⟨rfl,?_⟩;conv=>whnf)
    |(rw [ev_subload hin rfl rfl];conv=>whnf
      refine ⟨⟨rfl,by decide⟩,?_⟩;conv=>whnf)
    |(refine ⟨⟨hlen i k,by omega,by omega⟩,?_⟩;conv=>whnf)
    |(refine ⟨⟨hlen i k,by decide⟩,?_⟩;rw [hrow0];conv=>whnf)
   rw [ev_substore hin rfl rfl rfl]
   conv=>whnf
   refine ⟨⟨rfl,by decide,rfl⟩,?_⟩
   conv=>whnf
   refine ⟨by kernel_rfl,?_⟩
   conv=>whnf
   rw [wrap_succ k (by have:=(hl2 _ (getD_in [] hi)).1;omega)]
   refine ⟨k+1,rfl,rfl,?_,hk,by omega⟩
   have hv:litO f b i (k+1)=(litO f b i k).set (0+Int.toNat (i:Int)) (.inn ((litR (f.getD i []) b k).set (0+Int.toNat (k:Int)) (.agg (setCells ((litR (f.getD i []) b k).getD (0+Int.toNat (k:Int)) .undef).cells 1 [DV.int .i64 (minmaxI true 0 (minmaxI false 1000 (IntKind.i64.wrap (((f.getD i []).getD k C0).li+b))))])))):=by
    rw [hcel,Int.toNat_natCast,Int.toNat_natCast,Nat.zero_add,Nat.zero_add,clamp_mm,← litO_set hi,← litR_set];rfl
   rw [hv]
   rfl
  ·have hk:k=(f.getD i []).length:=by have:=of_decide_eq_false hb;rw [hrl] at this;omega
   clear hb
   conv=>whnf
   rw [wrap_succ i (by omega)]
   refine ⟨i+1,rfl,rfl,?_,hi,by omega⟩
   rw [hk,litO_next]
   rfl
 ·have hi:i=f.length:=by have:=of_decide_eq_false hb;rw [e0] at this;omega
  clear hb
  subst hi
  conv=>whnf
  refine ⟨hlen _ 0,?_⟩
  show DV.list (window (List.map closeD (litO f b f.length 0)) 0 (litO f b 0 0).length)=_
  have hw:=window_full ((litO f b f.length 0).map closeD)
  rw [List.length_map,litO_len] at hw
  rw [e0,hw,litO_all];rfl
end Sh

namespace Sh
open Go Go.Proofs
theorem OkF.ne {f:List (List Cel)} (h:OkF f):∀ l ∈ f,l≠[]:=fun l hl e=>by
 have:=(h.2.2 l hl).1
 rw [e] at this;simp at this
theorem bnd_ok {f:List (List Cel)} {v e:Int} (h:decide (firstE [chkField f,withE v 0 800,withE e 0 1000]=0)=true):OkF f∧0≤e∧e≤1000∧bndS f v e=((curF (litF f (-e)) v,curF (litF f e) v),0):=by
 have h:=of_decide_eq_true h
 obtain ⟨z1,hz⟩:=firstE_cons h
 obtain ⟨z2,hz⟩:=firstE_cons hz
 obtain ⟨z3,hz⟩:=firstE_cons hz
 have he:=withE_zero z3
 refine ⟨chkField_zero z1,he.1,he.2,?_⟩
 unfold bndS;rw [if_neg (by omega)]
theorem bnd_no {f:List (List Cel)} {v e:Int} (h:decide (firstE [chkField f,withE v 0 800,withE e 0 1000]=0)=false):bndS f v e=((0,0),firstE [chkField f,withE v 0 800,withE e 0 1000]):=by
 have h:=of_decide_eq_false h
 unfold bndS;rw [if_pos h]
theorem l_CurveBounds (aw:PC 13 [] (.bool true)) (f:List (List Cel)) (v e:Int):PC 6 [fld f,DV.int .i64 (v),DV.int .i64 (e)] (.bool true):=by
 refine pureCall_ofR dh6 rfl ?_
 conv=>whnf
 repeat' (first
  |(refine ⟨fun hg=>?_,fun hg=>?_⟩<;>first|contradiction|(conv=>whnf))
  |(refine Or.inl ?_;conv=>whnf)
  |(refine ⟨_,r_ShortField ..,?_⟩;conv=>whnf)
  |(refine ⟨_,aw ..,?_⟩;conv=>whnf)
  |(refine And.intro ?_ ?_;kernel_rfl;conv=>whnf))
 ·rfl
 have hs:=shortF_spec (f:=f) (by simpa using hg)
 clear hg
 have hl:=hs.2.2
 have k1:=l_field f hl
 have k2:=c_Bounds f v e hl
 have k3:=r_CheckField f hl.1 hl.2
 repeat' (first
  |(refine ⟨fun hg=>?_,fun hg=>?_⟩<;>first|contradiction|(conv=>whnf))
  |(refine Or.inl ?_;conv=>whnf)
  |(refine ⟨_,k1,?_⟩;conv=>whnf)
  |(refine ⟨_,k2,?_⟩;conv=>whnf)
  |(refine ⟨_,k3,?_⟩;conv=>whnf)
  |(refine ⟨_,r_CheckVolt ..,?_⟩;conv=>whnf)
  |(refine ⟨_,q_CheckRange ..,?_⟩;conv=>whnf)
  |(refine ⟨_,l_first [_,_,_] (by simp),?_⟩;conv=>whnf)
  |(refine ⟨_,aw ..,?_⟩;conv=>whnf)
  |(refine And.intro ?_ ?_;kernel_rfl;conv=>whnf))
 ·obtain ⟨hok,he0,he1,hb⟩:=bnd_ok hg
  have hne:=hok.ne
  rw [show IntKind.i64.wrap (0 - e) = -e by rw [wrap_W,W_in (by omega) (by omega)];omega]
  have k4:=fun b=>r_Lit f b hl hne
  have k5:=fun b=>r_FieldCurrent (litF f b) v (hok.lit b)
  have hz:=of_decide_eq_true hg
  clear hg
  generalize bndS f v e=R at *
  subst hb
  repeat' (first
   |(refine ⟨fun hg=>?_,fun hg=>?_⟩<;>first|contradiction|(conv=>whnf))
   |(refine Or.inl ?_;conv=>whnf)
   |(refine ⟨_,k4 _,?_⟩;conv=>whnf)
   |(refine ⟨_,k5 _,?_⟩;conv=>whnf)
   |(refine ⟨_,aw ..,?_⟩;conv=>whnf)
   |(refine And.intro ?_ ?_;kernel_rfl;conv=>whnf))
  all_goals (first
   |rfl
   |(exfalso;rw [hz] at hg;simp at hg;done)
   |(exfalso;simp at *;done)
   |trace_state)
 all_goals have hb:=bnd_no (by assumption)
 all_goals generalize bndS f v e=R at *
 all_goals subst hb
 all_goals (first
  |rfl
  |(exfalso;simp at *;done)
  |trace_state)
end Sh
