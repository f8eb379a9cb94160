/-
  Chapter 9's functions, walked over pure data: the library of the walk, the functions' code over data, and what each computes. (part 7)
-/
import Derived.Test.YtjgckckimeldeaaGreatDoorP6
import Derived.ChangeArms
import Derived.ChangeSame
import Derived.OpenShut
import Derived.WideShapes
import Derived.FnData
import Derived.LaidMore
import Derived.DataReads
import Derived.ProofKit
import Derived.Carry
import Derived.HandedShaped
import Derived.Shelf.Vars
import Derived.Stop.Joined
import Derived.Deep.DeepHandedRow
import Derived.Lib.LaidTab
import Derived.MakeChecks
import Derived.LaidSub
import Derived.LaidHandle
import Derived.Test.YtjgckckimeldeaaGreatDoorProg
set_option linter.unusedVariables false
set_option linter.unusedSimpArgs false
namespace Sh
open Go
theorem memOf_holds (W:World):(memOf W).holds W:=fun _ _ _ h=>h
theorem calls_of_pure {G:Nat→Option DV} {f:FuncId} {ds:List DV} {d:DV} {P:Program} (h:PureCall P G f ds d) {W:World} {vs:Array Value} (hG:GOk G (memOf W)) (hT:Tabs G W) (hr:RelPs (memOf W) ds vs) :
  Calls P f vs W fun e w'=>∃ v M',e=.returned v∧M'.holds w'∧RelP M' d v∧RowKit.Below W.heap.size W w':=by
 have h1:=h.2 Fence.wide 0 ⟨fun _=>trivial,rfl⟩ rfl rfl (memOf W) W vs hG hT (memOf_holds W) hr
 refine (callsIn_wide.1 h1).mono fun e w' ⟨v,M',a,_,b,c,d,_⟩=>⟨v,M',a,b,c,d⟩
section
variable {H:Type} {enc:TypeId×Value→H} {P:Program} {W:World}
theorem arg_struct {t:TypeId} {fs:Array Field} {α:Type} {e:α→List DV} {B:α→Prop} {v:Value} {d:DataW H} {p:List MemPlace} {base b0:Nat} {sp:Nat→Bool} {hd:Bool} (ht:P.underlying t=some (.struct fs)) (k:Opens enc P W t e B)
  (hv:Value.okWide P W .any b0 t v) (h:DataW.Trod enc P W base sp hd t v d p):∃ a,RelP (memOf W) (.agg (e a)) v∧B a:=by
 obtain ⟨cs,rfl,hsz⟩:=WideShapes.okWide_struct ht hv
 obtain ⟨fuel,hf⟩:=h
 obtain ⟨a,h1,h2⟩:=k _ _ _ _ _ _ hf
 refine ⟨a,.agg _ _ (by simpa [Value.cells] using h1.1) (fun i hi=>?_),h2⟩
 have:=h1.2 i hi
 simpa [Value.cells,List.getD_eq_getElem?_getD,Array.getD_eq_getD_getElem?] using this
theorem relPs_of {M:Mem} {ds:List DV} {vs:List Value} (h:RelL M ds vs):RelPs M ds vs.toArray:=by
 refine ⟨by simpa using h.1,fun i hi=>?_⟩
 have:=h.2 i hi
 simpa [List.getD_eq_getElem?_getD,Array.getD_eq_getD_getElem?] using this
end
end Sh

namespace Sh
open Go Go.Proofs
section
variable {H:Type} {enc:TypeId×Value→H} {P:Program} {W:World}
theorem arg_array {t e:TypeId} {n:Nat} {α:Type} {f:α→List DV} {B:α→Prop} {v:Value} {d:DataW H} {p:List MemPlace} {base b0:Nat} {sp:Nat→Bool} {hd:Bool} (ht:P.underlying t=some (.array n e)) (k:Opens enc P W t f B)
  (hv:Value.okWide P W .any b0 t v) (h:DataW.Trod enc P W base sp hd t v d p):∃ a,RelP (memOf W) (.agg (f a)) v∧B a:=by
 obtain ⟨cs,rfl⟩:∃ cs,v=.agg cs:=by
  simp only [Value.okWide,ht] at hv
  obtain ⟨cs,h1,_⟩:=hv
  exact ⟨cs,h1⟩
 obtain ⟨fuel,hf⟩:=h
 obtain ⟨a,h1,h2⟩:=k _ _ _ _ _ _ hf
 refine ⟨a,.agg _ _ (by simpa [Value.cells] using h1.1) (fun i hi=>?_),h2⟩
 have:=h1.2 i hi
 simpa [Value.cells,List.getD_eq_getElem?_getD,Array.getD_eq_getD_getElem?] using this
theorem handed_shaped {a:Assume} {C:Checked} {os:Os} {f:FuncId} {fn:Func} {s:ChangeSpec} {conds:List PathCond} {apart fresh handsOn again:Bool} {X:World→Array Value→Prop}
  (hX:∀ (w w':World) (args:Array Value),w.heap=w'.heap→X w args→X w' args)
  (own:ownKnob C.prog.godebug=none) (started:os.Started) (noInit:C.prog.inits.idxOf? f=none) (hfn:C.prog.funcs[f]?=some fn)
  (witness:∃ (w:World) (tape:Tape) (i:Input),w.os=os∧(w.forCall tape i).Shaped C.prog∧i.vars=[]∧Input.okWide C.prog (w.forCall tape i) .any w.heap.size f i ∧
    ((s.pre enc C.prog fn conds apart (w.forCall tape i).memory i.args∧X (w.forCall tape i).memory i.args)∧sizedMet enc C.prog fn (OpenSpec.ofChange s) apart (w.forCall tape i).memory i.args)∧a.holds C.prog (lone (Frame.enter C.prog f i.args .normal) [] (w.forCall tape i)))
  (contract:∀ (W:World) (base:Nat) (args:Array Value) (ds gs:List (DataW H)) (before:List MemPlace),
    (∀ (j:Nat) t v,fn.params[j]?=some t→args[j]?=some v→Value.okWide C.prog W .any base t v) →
    DataW.Whole enc C.prog fn.params.toList s.vars apart W args.toList ds gs before→X W args→W.ShapedOpen C.prog →
    Calls C.prog f args W fun e W'=>∃ v,e=.returned v∧s.post enc C.prog fn apart fresh handsOn again W args v W') :
  ReturnsInHanded a C os f .any (fun w args=>(s.pre enc C.prog fn conds apart w args∧X w args)∧sizedMet enc C.prog fn (OpenSpec.ofChange s) apart w args) (s.post enc C.prog fn apart fresh handsOn again):=by
 refine returnsInHanded_of_calls own started noInit witness ?_
 intro w tape i _ hsh _ hok hpre hholds
 obtain ⟨_,_,_,fn',hfn',_,_,_,_,hval⟩:=hok
 have e:fn'=fn:=Option.some.inj (hfn'.symm.trans hfn)
 subst e
 obtain ⟨⟨⟨ds,gs,before,hw,hc⟩,hx⟩,hz⟩:=hpre
 have hw':=DataW.Whole.of_heap (w':=w.forCall tape i) (by rfl) hw
 refine (contract (w.forCall tape i) w.heap.size i.args ds gs before hval hw' (hX _ _ _ (by rfl) hx) hsh).mono fun e W' ⟨v,he,hp⟩=>?_
 subst he
 exact ChangeSpec.post_blind hp
end
section
open Go.RowKit Go.WideShapes Go.ChangeShapes
variable {H:Type} {enc:TypeId×Value→H} {P:Program}
theorem postOfBelow {f:Func} {s:ChangeSpec} {apart fresh handsOn again:Bool} {W W':World} {args:Array Value} {v:Value} {ds gs:List (DataW H)} {before pa pv:List MemPlace}
  (hW:DataW.Whole enc P f.params.toList s.vars apart W args.toList ds gs before)
  (hres:∀ (b:Nat) (sp:Nat→Bool) (hd:Bool),DataW.TrodAll enc P W' b sp hd f.resultTypes.toList (v.resultList f.resultTypes.size) (s.fn H (ds++gs)).results [])
  (hargs:∀ sp:Nat→Bool,(∀ p ∈ before,sp p.block=true)→DataW.TrodAll enc P W' 0 sp true f.params.toList args.toList (s.fn H (ds++gs)).args pa)
  (hvars:∀ sp:Nat→Bool,(∀ p ∈ before,sp p.block=true)→DataW.TrodVars enc P W' sp s.vars (s.fn H (ds++gs)).vars pv)
  (hps:before=pa++pv) (hb:Below W.heap.size W W')
  (hok:∀ (j:Nat) (t:TypeId) (r:Value),f.resultTypes[j]?=some t→(v.resultList f.resultTypes.size)[j]?=some r→Value.okWide P W' .any 0 t r) :
  s.post enc P f apart fresh handsOn again W args v W':=by
 have hlt:∀ p ∈ before,p.block < W.heap.size:=fun p hp=>hW.lt p hp
 have hold:∀ p ∈ before,(fun b=>decide (b < W.heap.size)) p.block=true:=fun p hp=>by simpa using hlt p hp
 refine ⟨ds,gs,before,[],pa,pv,hW,hres _ _ _,hargs _ hold,hvars _ hold,World.keptBut_mono (fun p hp=>⟨hp,?_⟩) (hb.frame (· ∈ before)),fun _=>?_⟩
 ·rw [hps,List.mem_append] at hp
  exact Or.inr hp
 ·obtain ⟨_,_,_,_,_,hz,hn⟩:=hW
  refine ⟨hok,_,_,([]++pa)++pv,⟨[]++pa,pv,trodAll_append (hargs _ (fun _ _=>rfl)) (hres _ _ _),hvars _ (fun _ _=>rfl),rfl,?_,?_⟩,?_⟩
  ·intro b off hp
   have hin:MemPlace.cell b off ∈ before:=by rw [hps];simpa using hp
   rw [hb.frozen (hlt _ hin)]
   exact hz b off hin
  ·intro ha
   have:=hn ha
   rw [hps] at this
   simpa using this
  ·intro p hp _
   rw [hps]
   simpa using hp
theorem trodAll_stays (hl:laidOutB P=true) {W W':World} (hb:Below W.heap.size W W') {sp:Nat→Bool}:∀ {ts:List TypeId} {vs:List Value} {ds:List (DataW H)} {ps:List MemPlace},DataW.TrodAll enc P W 0 (fun _=>true) true ts vs ds ps →
  (ts.all fun t=>P.readableRec t && decide (t < P.types.size))=true→(∀ p ∈ ps,p.block < W.heap.size)→(∀ p ∈ ps,sp p.block=true)→DataW.TrodAll enc P W' 0 sp true ts vs ds ps
 |[],_,_,_,h,_,_,_=>by
  obtain ⟨rfl,rfl,rfl⟩:=trodAll_nil h
  rfl
 |t :: ts,_,_,_,h,ht,hlt,hsp=>by
  obtain ⟨v,vs,d,ds,p,q,rfl,rfl,rfl,h1,h2⟩:=trodAll_cons h
  rw [List.all_cons,Bool.and_eq_true,Bool.and_eq_true] at ht
  exact trodAll_cons_mk (WideElems.Trod_stays hl ht.1.1 (of_decide_eq_true ht.1.2) h1 (fun x hx=>hb.same (hlt x (by simp [hx]))) (fun x hx=>hsp x (by simp [hx])))
   (trodAll_stays hl hb h2 ht.2 (fun x hx=>hlt x (by simp [hx])) (fun x hx=>hsp x (by simp [hx])))
end
end Sh

set_option maxRecDepth 100000
namespace Sh
open Go
def dc18 : DFunc := ⟨6,1,[.tmp 2],sq [oq 2 (.mov (.const (.slice none 0 0)))] (sq [oq 3 (.lit true 1 0 (.int .i64 0) []),mq 4 0,oq 5 (.append true 1 (.tmp 3) (.tmp 4)),mq 2 5] .ret)⟩
theorem dh18:cProg Go.Proofs.Tryz.prog ⟨[],[],[3,5]⟩ 18=some dc18:=by kernel_rfl
def dc20 : DFunc := ⟨5,1,[.tmp 2],sq [oq 2 (.mov (iq 0))] (sq [mq 3 0,oq 4 (.call (.func 88) [.tmp 3]),mq 2 4] .ret)⟩
theorem dh20:cProg Go.Proofs.Tryz.prog ⟨[],[],[]⟩ 20=some dc20:=by kernel_rfl
def dc41 : DFunc := ⟨26,1,[.tmp 2],sq [oq 1 (.box 5 (.tmp 0)),oq 2 (.mov (iq 0))] (.seq (.seq (.ops true [oq 4 (.faddr 0 1 false (.tmp 1)),⟨some 5,.load none (.tmp 4),none,[0]⟩,⟨some 6,.call (.func 89) [.tmp 5,iq 1,iq 24],none,[1,0]⟩,oq 7 (.faddr 1 1 false (.tmp 1)),⟨some 8,.load none (.tmp 7),none,[3]⟩,⟨some 9,.call (.func 89) [.tmp 8,iq 1,iq 24],none,[4,3,2,1,0]⟩,oq 10 (.faddr 2 1 false (.tmp 1)),⟨some 11,.load none (.tmp 10),none,[6]⟩,⟨some 12,.call (.func 89) [.tmp 11,iq 0,iq 1000],none,[7,6,5,4,3,2,1,0]⟩,oq 13 (.faddr 3 1 false (.tmp 1)),⟨some 14,.load none (.tmp 13),none,[9]⟩,⟨some 15,.call (.func 89) [.tmp 14,iq 0,iq 100000],none,[10,9,8,7,6,5,4,3,2,1,0]⟩,⟨some 16,.lit true 1 4 (.int .i64 0) [(0,(.tmp 6)),(1,(.tmp 9)),(2,(.tmp 12)),(3,(.tmp 15))],none,[2,1,0,5,4,3,8,7,6,11,10,9]⟩,⟨some 17,.call (.func 88) [.tmp 16],none,[12,2,1,0,5,4,3,8,7,6,11,10,9]⟩,⟨some 3,.mov (.tmp 17),none,[13,12,2,1,0,5,4,3,8,7,6,11,10,9]⟩]) (sq [mq 18 3,oq 19 (.bin .neq (.tmp 18) (iq 0))] (.cond (.tmp 19) (sq [mq 20 3,mq 2 20] .ret) .skip))) (sq [oq 21 (.faddr 4 1 false (.tmp 1)),oq 22 (.load none (.tmp 21)),oq 23 (.faddr 0 1 false (.tmp 1)),oq 24 (.load none (.tmp 23)),oq 25 (.call (.func 89) [.tmp 22,iq 0,.tmp 24]),mq 2 25] .ret))⟩
theorem dh41:cProg Go.Proofs.Tryz.prog ⟨[],[],[16]⟩ 41=some dc41:=by kernel_rfl
def dc42 : DFunc := ⟨10,1,[.tmp 2],sq [oq 2 (.mov (iq 0))] (sq [mq 3 0,oq 4 (.len (.tmp 3)),oq 5 (.call (.func 87) [.tmp 4,iq 24]),mq 6 0,oq 7 (.call (.func 90) [.tmp 6,iq (-100000),iq 100000]),oq 8 (.lit true 1 2 (.int .i64 0) [(0,(.tmp 5)),(1,(.tmp 7))]),oq 9 (.call (.func 88) [.tmp 8]),mq 2 9] .ret)⟩
theorem dh42:cProg Go.Proofs.Tryz.prog ⟨[],[],[8]⟩ 42=some dc42:=by kernel_rfl
def dc43 : DFunc := ⟨5,1,[.tmp 2],sq [oq 2 (.mov (iq 0))] (sq [mq 3 0,oq 4 (.call (.func 89) [.tmp 3,iq (-100000),iq 100000]),mq 2 4] .ret)⟩
theorem dh43:cProg Go.Proofs.Tryz.prog ⟨[],[],[]⟩ 43=some dc43:=by kernel_rfl
def dc44 : DFunc := ⟨9,2,[.tmp 4],sq [oq 2 (.box 5 (.tmp 0)),oq 4 (.mov (iq 0))] (sq [mq 5 1,oq 6 (.faddr 0 1 false (.tmp 2)),oq 7 (.load none (.tmp 6)),oq 8 (.call (.func 89) [.tmp 5,iq 0,.tmp 7]),mq 4 8] .ret)⟩
theorem dh44:cProg Go.Proofs.Tryz.prog ⟨[],[],[]⟩ 44=some dc44:=by kernel_rfl
def dc45 : DFunc := ⟨20,4,[.tmp 8,.tmp 9],sq [oq 4 (.box 5 (.tmp 0)),oq 8 (.mov (iq 0)),oq 9 (.mov (iq 0))] (.seq (sq [oq 10 (.load (some 5) (.tmp 4)),mq 11 2,mq 12 3,oq 13 (.call (.func 110) [.tmp 10,.tmp 11,.tmp 12]),oq 14 (.un .not (.tmp 13))] (.cond (.tmp 14) (sq [oq 8 (.mov (iq 0)),oq 9 (.mov (iq 21))] .ret) .skip)) (sq [oq 15 (.load (some 5) (.tmp 4)),mq 16 1,mq 17 2,mq 18 3,oq 19 (.call (.func 111) [.tmp 15,.tmp 16,.tmp 17,.tmp 18]),mq 8 19,oq 9 (.mov (iq 0))] .ret))⟩
theorem dh45:cProg Go.Proofs.Tryz.prog ⟨[],[],[]⟩ 45=some dc45:=by kernel_rfl
def db46_0 : DC := (.seq (sq [mq 17 8,mq 18 2,oq 19 (.len (.tmp 18)),oq 20 (.bin .lss (.tmp 17) (.tmp 19))] (.cond (.tmp 20) .skip (.exit 0))) (.seq (.block 1 none (.seq (.seq (.ops true [oq 23 (.load (some 5) (.tmp 3)),mq 24 2,mq 25 8,⟨some 26,.iaddr 1 (.tmp 24) (.tmp 25),none,[1,2]⟩,⟨some 27,.load none (.tmp 26),none,[3,1,2]⟩,⟨some 28,.call (.func 44) [.tmp 23,.tmp 27],none,[0,4,3,1,2]⟩,oq 29 (.load (some 5) (.tmp 3)),mq 30 7,mq 31 2,mq 32 8,⟨some 33,.iaddr 1 (.tmp 31) (.tmp 32),none,[8,9]⟩,⟨some 34,.load none (.tmp 33),none,[10,8,9]⟩,⟨some 35,.call (.func 110) [.tmp 29,.tmp 30,.tmp 34],none,[6,7,11,10,8,9,5,0,4,3,1,2]⟩,⟨some 36,.un .not (.tmp 35),none,[12,6,7,11,10,8,9,5,0,4,3,1,2]⟩,⟨some 37,.call (.func 58) [.tmp 36,iq 21],none,[13,12,6,7,11,10,8,9,5,0,4,3,1,2]⟩,⟨some 38,.lit true 1 2 (.int .i64 0) [(0,(.tmp 28)),(1,(.tmp 37))],none,[5,0,4,3,1,2,14,13,12,6,7,11,10,8,9]⟩,⟨some 39,.call (.func 88) [.tmp 38],none,[15,5,0,4,3,1,2,14,13,12,6,7,11,10,8,9]⟩,⟨some 9,.mov (.tmp 39),none,[16,15,5,0,4,3,1,2,14,13,12,6,7,11,10,8,9]⟩]) (sq [mq 40 9,oq 41 (.bin .neq (.tmp 40) (iq 0))] (.cond (.tmp 41) (sq [mq 42 9,mq 6 42] .ret) .skip))) (pq [mq 43 2,mq 44 8,oq 45 (.iaddr 1 (.tmp 43) (.tmp 44)),oq 46 (.load none (.tmp 45)),mq 7 46]))) (pq [mq 21 8,oq 22 (.bin .add (.tmp 21) (iq 1)),mq 8 22])))
def dk46_0 : Keep := ⟨[],[2,3,7,8],[3]⟩
def dc46 : DFunc := ⟨47,3,[.tmp 6],sq [oq 3 (.box 5 (.tmp 0)),oq 6 (.mov (iq 0))] (.seq (sq [mq 10 2,oq 11 (.len (.tmp 10)),mq 12 1,oq 13 (.len (.tmp 12)),oq 14 (.bin .neq (.tmp 11) (.tmp 13))] (.cond (.tmp 14) (sq [oq 6 (.mov (iq 2))] .ret) .skip)) (sq [oq 15 (.faddr 4 1 false (.tmp 3)),oq 16 (.load none (.tmp 15)),mq 7 16] (.seq (sq [oq 8 (.mov (iq 0))] (.block 0 (some ⟨[],[],[3]⟩) (.loop dk46_0 db46_0))) (sq [oq 6 (.mov (iq 0))] .ret))))⟩
theorem dh46:cProg Go.Proofs.Tryz.prog ⟨[(0,⟨[],[2,3,7,8],[3]⟩)],[(0,⟨[],[],[3]⟩)],[38]⟩ 46=some dc46:=by kernel_rfl
def db47_0 : DC := (.seq (sq [mq 12 9,mq 13 2,oq 14 (.len (.tmp 13)),oq 15 (.bin .lss (.tmp 12) (.tmp 14))] (.cond (.tmp 15) .skip (.exit 0))) (.seq (.block 1 none (.seq (.ops true [mq 18 7,oq 19 (.load (some 5) (.tmp 3)),mq 20 1,mq 21 9,⟨some 22,.iaddr 1 (.tmp 20) (.tmp 21),none,[2,3]⟩,⟨some 23,.load none (.tmp 22),none,[4,2,3]⟩,mq 24 8,mq 25 2,mq 26 9,⟨some 27,.iaddr 1 (.tmp 25) (.tmp 26),none,[7,8]⟩,⟨some 28,.load none (.tmp 27),none,[9,7,8]⟩,⟨some 29,.call (.func 111) [.tmp 19,.tmp 23,.tmp 24,.tmp 28],none,[1,5,4,2,3,6,10,9,7,8]⟩,⟨some 30,.bin .add (.tmp 18) (.tmp 29),none,[0,11,1,5,4,2,3,6,10,9,7,8]⟩,⟨some 7,.mov (.tmp 30),none,[12,0,11,1,5,4,2,3,6,10,9,7,8]⟩]) (pq [mq 31 2,mq 32 9,oq 33 (.iaddr 1 (.tmp 31) (.tmp 32)),oq 34 (.load none (.tmp 33)),mq 8 34]))) (pq [mq 16 9,oq 17 (.bin .add (.tmp 16) (iq 1)),mq 9 17])))
def dk47_0 : Keep := ⟨[],[1,2,3,7,8,9],[3]⟩
def dc47 : DFunc := ⟨36,3,[.tmp 6],sq [oq 3 (.box 5 (.tmp 0)),oq 6 (.mov (iq 0))] (.seq (.ops true [oq 10 (.faddr 4 1 false (.tmp 3)),⟨some 11,.load none (.tmp 10),none,[0]⟩,oq 7 (.mov (iq 0)),⟨some 8,.mov (.tmp 11),none,[1,0,2]⟩]) (.seq (sq [oq 9 (.mov (iq 0))] (.block 0 (some ⟨[],[7],[3]⟩) (.loop dk47_0 db47_0))) (sq [mq 35 7,mq 6 35] .ret)))⟩
theorem dh47:cProg Go.Proofs.Tryz.prog ⟨[(0,⟨[],[1,2,3,7,8,9],[3]⟩)],[(0,⟨[],[7],[3]⟩)],[]⟩ 47=some dc47:=by kernel_rfl
def db48_0 : DC := (.seq (sq [mq 10 7,mq 11 1,oq 12 (.len (.tmp 11)),oq 13 (.bin .lss (.tmp 10) (.tmp 12))] (.cond (.tmp 13) .skip (.exit 0))) (.seq (.block 1 none (sq [mq 16 5,mq 17 6,mq 18 1,mq 19 7,oq 20 (.iaddr 1 (.tmp 18) (.tmp 19)),oq 21 (.load none (.tmp 20)),oq 22 (.bin .sub (.tmp 17) (.tmp 21)),oq 23 (.minmax true (iq 0) [.tmp 22]),oq 24 (.bin .add (.tmp 16) (.tmp 23)),mq 5 24] (pq [mq 25 1,mq 26 7,oq 27 (.iaddr 1 (.tmp 25) (.tmp 26)),oq 28 (.load none (.tmp 27)),mq 6 28]))) (pq [mq 14 7,oq 15 (.bin .add (.tmp 14) (iq 1)),mq 7 15])))
def dk48_0 : Keep := ⟨[],[1,5,6,7],[2]⟩
def dc48 : DFunc := ⟨30,2,[.tmp 4],sq [oq 2 (.box 5 (.tmp 0)),oq 4 (.mov (iq 0))] (.seq (.ops true [oq 8 (.faddr 4 1 false (.tmp 2)),⟨some 9,.load none (.tmp 8),none,[0]⟩,oq 5 (.mov (iq 0)),⟨some 6,.mov (.tmp 9),none,[1,0,2]⟩]) (.seq (sq [oq 7 (.mov (iq 0))] (.block 0 (some ⟨[],[5],[2]⟩) (.loop dk48_0 db48_0))) (sq [mq 29 5,mq 4 29] .ret)))⟩
theorem dh48:cProg Go.Proofs.Tryz.prog ⟨[(0,⟨[],[1,5,6,7],[2]⟩)],[(0,⟨[],[5],[2]⟩)],[]⟩ 48=some dc48:=by kernel_rfl
def dc58 : DFunc := ⟨7,2,[.tmp 4],sq [oq 4 (.mov (iq 0))] (.seq (sq [mq 5 0] (.cond (.tmp 5) (sq [mq 6 1,mq 4 6] .ret) .skip)) (sq [oq 4 (.mov (iq 0))] .ret))⟩
theorem dh58:cProg Go.Proofs.Tryz.prog ⟨[],[],[]⟩ 58=some dc58:=by kernel_rfl
end Sh

namespace Sh
open Go
def dc87 : DFunc := ⟨14,2,[.tmp 4],sq [oq 4 (.mov (iq 0))] (sq [mq 5 0,oq 6 (.bin .eql (.tmp 5) (iq 0)),oq 7 (.call (.func 58) [.tmp 6,iq 12]),mq 8 0,mq 9 1,oq 10 (.bin .gtr (.tmp 8) (.tmp 9)),oq 11 (.call (.func 58) [.tmp 10,iq 5]),oq 12 (.lit true 1 2 (.int .i64 0) [(0,(.tmp 7)),(1,(.tmp 11))]),oq 13 (.call (.func 88) [.tmp 12]),mq 4 13] .ret)⟩
theorem dh87:cProg Go.Proofs.Tryz.prog ⟨[],[],[12]⟩ 87=some dc87:=by kernel_rfl
def db88_0 : DC := (.seq (sq [mq 4 3,mq 5 0,oq 6 (.len (.tmp 5)),oq 7 (.bin .lss (.tmp 4) (.tmp 6))] (.cond (.tmp 7) .skip (.exit 0))) (.seq (.block 1 none (sq [mq 10 0,mq 11 3,oq 12 (.iaddr 1 (.tmp 10) (.tmp 11)),oq 13 (.load none (.tmp 12)),oq 14 (.bin .neq (.tmp 13) (iq 0))] (.cond (.tmp 14) (sq [mq 15 0,mq 16 3,oq 17 (.iaddr 1 (.tmp 15) (.tmp 16)),oq 18 (.load none (.tmp 17)),mq 2 18] .ret) .skip))) (pq [mq 8 3,oq 9 (.bin .add (.tmp 8) (iq 1)),mq 3 9])))
def dk88_0 : Keep := ⟨[],[0,3],[]⟩
def dc88 : DFunc := ⟨19,1,[.tmp 2],sq [oq 2 (.mov (iq 0))] (.seq (sq [oq 3 (.mov (iq 0))] (.block 0 (some ⟨[],[],[]⟩) (.loop dk88_0 db88_0))) (sq [oq 2 (.mov (iq 0))] .ret))⟩
theorem dh88:cProg Go.Proofs.Tryz.prog ⟨[(0,⟨[],[0,3],[]⟩)],[(0,⟨[],[],[]⟩)],[]⟩ 88=some dc88:=by kernel_rfl
def dc89 : DFunc := ⟨16,3,[.tmp 6],sq [oq 6 (.mov (iq 0))] (sq [mq 7 0,mq 8 1,oq 9 (.bin .lss (.tmp 7) (.tmp 8)),mq 10 9,gq 11 (.mov (.tmp 0)) 10 false,gq 12 (.mov (.tmp 2)) 10 false,gq 13 (.bin .gtr (.tmp 11) (.tmp 12)) 10 false,oq 14 (.pick (.tmp 10) (bq true) (.tmp 13)),oq 15 (.call (.func 58) [.tmp 14,iq 3]),mq 6 15] .ret)⟩
theorem dh89:cProg Go.Proofs.Tryz.prog ⟨[],[],[]⟩ 89=some dc89:=by kernel_rfl
def db90_0 : DC := (.seq (sq [mq 9 7,mq 10 0,oq 11 (.len (.tmp 10)),oq 12 (.bin .lss (.tmp 9) (.tmp 11))] (.cond (.tmp 12) .skip (.exit 0))) (.seq (.block 1 none (sq [mq 15 0,mq 16 7,oq 17 (.iaddr 1 (.tmp 15) (.tmp 16)),oq 18 (.load none (.tmp 17)),mq 19 1,mq 20 2,oq 21 (.call (.func 89) [.tmp 18,.tmp 19,.tmp 20]),mq 8 21] (sq [mq 22 8,oq 23 (.bin .neq (.tmp 22) (iq 0))] (.cond (.tmp 23) (sq [mq 24 8,mq 6 24] .ret) .skip)))) (pq [mq 13 7,oq 14 (.bin .add (.tmp 13) (iq 1)),mq 7 14])))
def dk90_0 : Keep := ⟨[],[0,1,2,7],[]⟩
def dc90 : DFunc := ⟨25,3,[.tmp 6],sq [oq 6 (.mov (iq 0))] (.seq (sq [oq 7 (.mov (iq 0))] (.block 0 (some ⟨[],[],[]⟩) (.loop dk90_0 db90_0))) (sq [oq 6 (.mov (iq 0))] .ret))⟩
theorem dh90:cProg Go.Proofs.Tryz.prog ⟨[(0,⟨[],[0,1,2,7],[]⟩)],[(0,⟨[],[],[]⟩)],[]⟩ 90=some dc90:=by kernel_rfl
def dc110 : DFunc := ⟨17,3,[.tmp 6],sq [oq 3 (.box 5 (.tmp 0)),oq 6 (.mov (bq false))] (sq [mq 7 1,mq 8 2,oq 9 (.bin .sub (.tmp 7) (.tmp 8)),mq 10 2,mq 11 1,oq 12 (.bin .sub (.tmp 10) (.tmp 11)),oq 13 (.minmax true (.tmp 9) [.tmp 12]),oq 14 (.faddr 1 1 false (.tmp 3)),oq 15 (.load none (.tmp 14)),oq 16 (.bin .leq (.tmp 13) (.tmp 15)),mq 6 16] .ret)⟩
theorem dh110:cProg Go.Proofs.Tryz.prog ⟨[],[],[]⟩ 110=some dc110:=by kernel_rfl
def dc111 : DFunc := ⟨35,4,[.tmp 8],sq [oq 4 (.box 5 (.tmp 0)),oq 8 (.mov (iq 0))] (.seq (sq [mq 9 3,mq 10 2,oq 11 (.bin .geq (.tmp 9) (.tmp 10))] (.cond (.tmp 11) (sq [mq 12 1,mq 13 3,mq 14 2,oq 15 (.bin .sub (.tmp 13) (.tmp 14)),oq 16 (.bin .mul (.tmp 12) (.tmp 15)),oq 17 (.bin .sub (iq 0) (.tmp 16)),mq 8 17] .ret) .skip)) (sq [mq 18 1,mq 19 2,mq 20 3,oq 21 (.bin .sub (.tmp 19) (.tmp 20)),oq 22 (.faddr 2 1 false (.tmp 4)),oq 23 (.load none (.tmp 22)),oq 24 (.bin .sub (iq 1000) (.tmp 23)),oq 25 (.bin .mul (.tmp 21) (.tmp 24)),oq 26 (.bin .quo (.tmp 25) (iq 1000)),oq 27 (.bin .mul (.tmp 18) (.tmp 26)),oq 28 (.faddr 3 1 false (.tmp 4)),oq 29 (.load none (.tmp 28)),mq 30 2,mq 31 3,oq 32 (.bin .sub (.tmp 30) (.tmp 31)),oq 33 (.bin .mul (.tmp 29) (.tmp 32)),oq 34 (.bin .sub (.tmp 27) (.tmp 33)),mq 8 34] .ret))⟩
theorem dh111:cProg Go.Proofs.Tryz.prog ⟨[],[],[]⟩ 111=some dc111:=by kernel_rfl
end Sh

namespace Sh
open Go Go.Proofs
theorem q_When (b:Bool) (e:Int):PC 58 [.bool b,DV.int .i64 (e)] (DV.int .i64 (whenE b e)):=by
 refine pureCall_ofR dh58 rfl ?_
 conv=>whnf
 refine ⟨fun hb=>?_,fun hb=>?_⟩<;>try (exact absurd hb (by decide))
 all_goals conv=>whnf
 all_goals subst hb;rfl
theorem q_CheckRange (n l h:Int):PC 89 [DV.int .i64 (n),DV.int .i64 (l),DV.int .i64 (h)] (DV.int .i64 (withE n l h)):=by
 refine pureCall_ofR dh89 rfl ?_
 conv=>whnf
 refine ⟨fun hb=>?_,fun hb=>?_⟩<;>try (exact absurd hb (by decide))
 all_goals conv=>whnf
 ·refine .inl ?_
  conv=>whnf
  refine ⟨_,q_When ..,?_⟩
  conv=>whnf
  exact int_eq (by simp_all [withE,whenE];split<;>split<;>omega)
 ·refine .inl ?_
  conv=>whnf
  refine ⟨_,q_When ..,?_⟩
  conv=>whnf
  exact int_eq (by simp_all [withE,whenE])
theorem q_First (l:List Int) (hl:l.length < 4611686018427387904):PC 88 [iL l] (DV.int .i64 (firstE l)):=by
 refine pureCall_ofR dh88 rfl ?_
 conv=>whnf
 refine dwp_loopR (P:=Tryz.prog) (G:=GC) (k:=dk88_0) (b:=db88_0) (α:=Nat) (fun i=>[(0,iL l),(3,DV.int .i64 (i))]) (fun _=>[]) (fun i=>i≤l.length∧firstE l=firstE (l.drop i)) (fun i=>l.length - i) 0 ⟨rfl,rfl,rfl⟩ ⟨Nat.zero_le _,rfl⟩ ?_
 intro i ⟨h1,h2⟩
 conv=>whnf
 refine ⟨fun hb=>?_,fun hb=>?_⟩<;>try (exact absurd hb (by decide))
 ·have hi:i < l.length:=by simpa using hb
  have hd:=firstE_drop l i hi
  conv=>whnf
  rw [getD_enc _ _ (i) 0 hi]
  refine ⟨idxA hi rfl,?_⟩
  conv=>whnf
  refine ⟨fun hb=>?_,fun hb=>?_⟩<;>try (exact absurd hb (by decide))
  ·conv=>whnf
   rw [getD_enc _ _ (i) 0 hi]
   refine ⟨idxA hi rfl,?_⟩
   conv=>whnf
   exact int_eq (by simp_all)
  ·conv=>whnf
   rw [wrap_succ i (by omega)]
   exact ⟨i+1,rfl,rfl,rfl,⟨hi,by simp_all⟩,by omega⟩
 ·conv=>whnf
  have:i=l.length:=by simp at hb;omega
  subst this
  exact int_eq (by rw [h2];simp [firstE])
end Sh

namespace Sh
open Go Go.Proofs
theorem firstE_one (a:Int):firstE [a]=a:=by simp only [firstE];split<;>simp_all
theorem r_counted (n m:Int):PC 87 [DV.int .i64 (n),DV.int .i64 (m)] (DV.int .i64 (countE n m)):=by
 refine pureCall_ofR dh87 rfl ?_
 conv=>whnf
 repeat' (first
  |(refine ⟨fun hg=>?_,fun hg=>?_⟩<;>first|contradiction|(conv=>whnf))
  |(refine Or.inl ?_;conv=>whnf)
  |(refine ⟨_,q_When ..,?_⟩;conv=>whnf)
  |(refine ⟨_,q_First [_,_] (by simp),?_⟩;conv=>whnf)
  |(refine And.intro ?_ ?_;kernel_rfl;conv=>whnf))
 rfl
theorem r_numbers (l:List Int) (lo hi:Int) (hl:l.length < 1073741824):PC 90 [iL l,DV.int .i64 (lo),DV.int .i64 (hi)] (DV.int .i64 (firstE (l.map fun n=>withE n lo hi))):=by
 have e0:((l.map (DV.int .i64)).length:Int)=l.length:=by simp
 refine pureCall_ofR dh90 rfl ?_
 conv=>whnf
 refine dwp_loopU (P:=Tryz.prog) (G:=GC) (k:=dk90_0) (b:=db90_0) (α:=Nat) (fun i=>[(7,DV.int .i64 (i))]) (fun _=>[]) (fun i=>i≤l.length∧firstE (l.map fun n=>withE n lo hi)=firstE ((l.map fun n=>withE n lo hi).drop i)) (fun i=>l.length - i) 0 ⟨Nat.zero_le _,rfl⟩ ?_
 conv=>whnf
 refine ⟨rfl,rfl,?_⟩
 conv=>whnf
 refine ⟨rfl,?_⟩
 intro i ⟨h1,h2⟩
 conv=>whnf
 refine ⟨fun hb=>?_,fun hb=>?_⟩
 ·have hi':i < l.length:=by simpa using hb
  have hd:=firstE_drop (l.map fun n=>withE n lo hi) i (by simpa using hi')
  rw [show (l.map fun n=>withE n lo hi).getD i 0=withE (l.getD i 0) lo hi by simp [List.getD_eq_getElem?_getD,hi']] at hd
  clear hb
  conv=>whnf
  rw [getD_enc _ _ (i) 0 hi']
  refine ⟨idxA hi' rfl,?_⟩
  conv=>whnf
  repeat' (first
   |(refine ⟨fun hg=>?_,fun hg=>?_⟩<;>first|contradiction|(conv=>whnf))
   |(refine Or.inl ?_;conv=>whnf)
   |(refine ⟨_,q_CheckRange ..,?_⟩;conv=>whnf)
   |(refine And.intro ?_ ?_;kernel_rfl;conv=>whnf))
  ·have hg:withE (l.getD i 0) lo hi≠0:=of_decide_eq_true hg
   rw [if_pos hg] at hd
   exact int_eq (by rw [h2,hd])
  ·have hg:¬ withE (l.getD i 0) lo hi≠0:=of_decide_eq_false hg
   rw [if_neg hg] at hd
   rw [wrap_succ i (by omega)]
   exact ⟨i+1,rfl,rfl,rfl,⟨hi',by rw [h2,hd]⟩,by omega⟩
 ·have hi':i=l.length:=by have:=of_decide_eq_false hb;rw [e0] at this;omega
  clear hb
  conv=>whnf
  exact int_eq (by rw [h2,hi',List.drop_of_length_le (by simp)];rfl)
theorem r_CheckPrices (l:List Int) (hl:l.length < 1073741824):PC 42 [iL l] (DV.int .i64 (chkPs l)):=by
 have e0:((l.map (DV.int .i64)).length:Int)=l.length:=by simp
 have k1:=r_numbers l (-100000) 100000 hl
 refine pureCall_ofR dh42 rfl ?_
 conv=>whnf
 repeat' (first
  |(refine ⟨fun hg=>?_,fun hg=>?_⟩<;>first|contradiction|(conv=>whnf))
  |(refine Or.inl ?_;conv=>whnf)
  |(refine ⟨_,k1,?_⟩;conv=>whnf)
  |(refine ⟨_,r_counted ..,?_⟩;conv=>whnf)
  |(refine ⟨_,q_First [_,_] (by simp),?_⟩;conv=>whnf)
  |(refine And.intro ?_ ?_;kernel_rfl;conv=>whnf))
 refine int_eq ?_
 rw [e0];rfl
theorem r_CheckPrice (n:Int):PC 43 [DV.int .i64 (n)] (DV.int .i64 (prE n)):=by
 refine pureCall_ofR dh43 rfl ?_
 conv=>whnf
 repeat' (first
  |(refine ⟨fun hg=>?_,fun hg=>?_⟩<;>first|contradiction|(conv=>whnf))
  |(refine Or.inl ?_;conv=>whnf)
  |(refine ⟨_,q_CheckRange ..,?_⟩;conv=>whnf)
  |(refine And.intro ?_ ?_;kernel_rfl;conv=>whnf))
 rfl
end Sh

namespace Sh
open Go Go.Proofs
theorem l_ints (l:List Int) (hl:l.length < 1073741824):PC 18 [iL l] (iL l):=by
 refine pureCall_ofR dh18 rfl ?_
 conv=>whnf
 refine ⟨⟨by simp;omega,fun e he=>by obtain ⟨q,_,rfl⟩:=List.mem_map.1 he;rfl,fun e he=>by simp at he⟩,?_⟩
 conv=>whnf
 rfl
end Sh

namespace Sh
open Go Go.Proofs
theorem chkBa_two (b:Ba):chkBa b=if firstE [withE b.ca 1 24,withE b.ra 1 24,withE b.lo 0 1000,withE b.we 0 100000]≠0 then firstE [withE b.ca 1 24,withE b.ra 1 24,withE b.lo 0 1000,withE b.we 0 100000] else withE b.le 0 b.ca:=by
 unfold chkBa
 generalize withE b.ca 1 24=x1
 generalize withE b.ra 1 24=x2
 generalize withE b.lo 0 1000=x3
 generalize withE b.we 0 100000=x4
 generalize withE b.le 0 b.ca=x5
 simp only [firstE]
 grind
theorem r_CheckBattery (b:Ba):PC 41 [encB b] (DV.int .i64 (chkBa b)):=by
 have h2:=chkBa_two b
 refine pureCall_ofR dh41 rfl ?_
 conv=>whnf
 repeat' (first
  |(refine ⟨fun hg=>?_,fun hg=>?_⟩<;>first|contradiction|(conv=>whnf))
  |(refine Or.inl ?_;conv=>whnf)
  |(refine ⟨_,q_CheckRange ..,?_⟩;conv=>whnf)
  |(refine ⟨_,q_First [_,_,_,_] (by simp),?_⟩;conv=>whnf)
  |(refine And.intro ?_ ?_;kernel_rfl;conv=>whnf))
 ·have hg:_≠_:=of_decide_eq_true hg
  rw [if_pos hg] at h2
  rw [h2];rfl
 ·have hg:=of_decide_eq_false hg
  rw [if_neg hg] at h2
  rw [h2];rfl
theorem r_CheckLevel (b:Ba) (n:Int):PC 44 [encB b,DV.int .i64 (n)] (DV.int .i64 (lvE b n)):=by
 refine pureCall_ofR dh44 rfl ?_
 conv=>whnf
 repeat' (first
  |(refine ⟨fun hg=>?_,fun hg=>?_⟩<;>first|contradiction|(conv=>whnf))
  |(refine Or.inl ?_;conv=>whnf)
  |(refine ⟨_,q_CheckRange ..,?_⟩;conv=>whnf)
  |(refine And.intro ?_ ?_;kernel_rfl;conv=>whnf))
 rfl
theorem r_mayG (b:Ba) (f t:Int):PC 110 [encB b,DV.int .i64 (f),DV.int .i64 (t)] (.bool (decide (minmaxI true (IntKind.i64.wrap (f - t)) (IntKind.i64.wrap (t - f))≤b.ra))):=by
 refine pureCall_ofR dh110 rfl ?_
 conv=>whnf
 rfl
theorem may_far {b:Ba} {f t:Int} (hf:OkL24 f) (ht:OkL24 t):decide (minmaxI true (IntKind.i64.wrap (f - t)) (IntKind.i64.wrap (t - f))≤b.ra)=!farB b f t:=by
 obtain ⟨f0,f1⟩:=hf
 obtain ⟨t0,t1⟩:=ht
 have e1:IntKind.i64.wrap (t - f)=t - f:=wrap_in (by omega) (by omega)
 have e2:IntKind.i64.wrap (f - t)=f - t:=wrap_in (by omega) (by omega)
 rw [e1,e2]
 have hm:minmaxI true (f - t) (t - f)=if t - f > f - t then t - f else f - t:=rfl
 rw [hm]
 unfold farB
 rw [Bool.not_or,← decide_not,← decide_not,← Bool.decide_and]
 refine decide_eq_decide.2 ?_
 split<;>omega
theorem r_may (b:Ba) (f t:Int) (hf:OkL24 f) (ht:OkL24 t):PC 110 [encB b,DV.int .i64 (f),DV.int .i64 (t)] (.bool (!farB b f t)):=by
 have:=r_mayG b f t
 rwa [may_far hf ht] at this
end Sh

namespace Sh
open Go Go.Proofs
theorem r_worth (b:Ba) (hb:OkB b) (p f t:Int) (hp:OkP p) (hf:OkL24 f) (ht:OkL24 t):PC 111 [encB b,DV.int .i64 (p),DV.int .i64 (f),DV.int .i64 (t)] (DV.int .i64 (wthI b p f t)):=by
 obtain ⟨f0,f1⟩:=hf
 obtain ⟨t0,t1⟩:=ht
 have e1:IntKind.i64.wrap (t - f)=t - f:=wrap_in (by omega) (by omega)
 have e2:IntKind.i64.wrap (f - t)=f - t:=wrap_in (by omega) (by omega)
 have hl0:=hb.l0
 have hl1:=hb.l1
 refine pureCall_ofR dh111 rfl ?_
 conv=>whnf
 refine ⟨fun hg=>?_,fun hg=>?_⟩
 ·have hg:f≤t:=of_decide_eq_true hg
  have hm:=pmul_bd hp (d:=t - f) (by omega) (by omega)
  conv=>whnf
  rw [e1,wrap_in (n:=p * (t - f)) (by omega) (by omega),wrap_in (by omega) (by omega)]
  refine int_eq ?_
  unfold wthI
  by_cases e:f < t
  ·rw [if_pos e];omega
  ·have e2:t=f:=by omega
   rw [if_neg e,if_neg (by omega),e2];simp
 ·have hg:¬ f≤t:=of_decide_eq_false hg
  have hl:=left_bd hb (d:=f - t) (by omega) (by omega)
  have hpm:=pmul_bd hp hl.2.2.1 hl.2.2.2.1
  have hwm:=wmul_bd hb (d:=f - t) (by omega) (by omega)
  conv=>whnf
  refine ⟨by decide,?_⟩
  conv=>whnf
  rw [e2,wrap_in (n:=1000 - b.lo) (by omega) (by omega),wrap_in (n:=(f - t) * (1000 - b.lo)) (by omega) (by omega),hl.2.2.2.2,wrap_in (n:=(f - t) * (1000 - b.lo) / 1000) (by omega) (by omega),wrap_in (n:=p * ((f - t) * (1000 - b.lo) / 1000)) (by omega) (by omega),wrap_in (n:=b.we * (f - t)) (by omega) (by omega),wrap_in (by omega) (by omega)]
  refine int_eq ?_
  unfold wthI
  rw [if_neg (by omega),if_pos (by omega)]
theorem r_Worth (b:Ba) (p f t:Int) (h:firstE [chkBa b,prE p,lvE b f,lvE b t]=0):PC 45 [encB b,DV.int .i64 (p),DV.int .i64 (f),DV.int .i64 (t)] (.tuple [DV.int .i64 ((worthS b p f t).1),DV.int .i64 ((worthS b p f t).2)]):=by
 obtain ⟨hb,hp,hf,ht⟩:=worth_ok h
 have hv:worthS b p f t=if farB b f t then (0,21) else (wthI b p f t,0):=by rw [worthS,if_neg (by omega)]
 rw [hv]
 clear hv
 have k1:=r_may b f t hf ht
 cases hfar:farB b f t with
 |true =>
  rw [hfar] at k1
  refine pureCall_ofR dh45 rfl ?_
  conv=>whnf
  repeat' (first
   |(refine ⟨fun hg=>?_,fun hg=>?_⟩<;>first|contradiction|(conv=>whnf))
   |(refine Or.inl ?_;conv=>whnf)
   |(refine ⟨_,k1,?_⟩;conv=>whnf)
   |(refine And.intro ?_ ?_;kernel_rfl;conv=>whnf))
  rfl
 |false =>
  rw [hfar] at k1
  refine pureCall_ofR dh45 rfl ?_
  conv=>whnf
  repeat' (first
   |(refine ⟨fun hg=>?_,fun hg=>?_⟩<;>first|contradiction|(conv=>whnf))
   |(refine Or.inl ?_;conv=>whnf)
   |(refine ⟨_,k1,?_⟩;conv=>whnf)
   |(refine ⟨_,r_worth b hb p f t hp hf ht,?_⟩;conv=>whnf)
   |(refine And.intro ?_ ?_;kernel_rfl;conv=>whnf))
  rfl
theorem stepE {b:Ba} (hc:b.ca≤24) {f:Int} (n:Int) (hf:OkL24 f):firstE [lvE b n,whenE (!decide (minmaxI true (IntKind.i64.wrap (f - n)) (IntKind.i64.wrap (n - f))≤b.ra)) 21]=if lvE b n≠0 then lvE b n else if farB b f n then 21 else 0:=by
 by_cases h:lvE b n≠0
 ·rw [if_pos h];simp only [firstE];rw [if_pos h]
 ·have h0:lvE b n=0:=Classical.not_not.1 h
  have hn:=lvE_ok h0
  rw [if_neg h,may_far hf ⟨hn.1,by omega⟩,h0]
  cases farB b f n<;>rfl
theorem r_CheckPlan (b:Ba) (hok:OkB b) (ps ls:List Int) (hl:ls.length < 1073741824):PC 46 [encB b,iL ps,iL ls] (DV.int .i64 (if ls.length≠ps.length then 2 else plE b b.le ls)):=by
 have e0:∀ l:List Int,((l.map (DV.int .i64)).length:Int)=l.length:=by simp
 have hc1:=hok.c1
 refine pureCall_ofR dh46 rfl ?_
 conv=>whnf
 repeat' (first
  |(refine ⟨fun hg=>?_,fun hg=>?_⟩<;>first|contradiction|(conv=>whnf))
  |(refine Or.inl ?_;conv=>whnf)
  |(refine And.intro ?_ ?_;kernel_rfl;conv=>whnf))
 ·have hg:=of_decide_eq_true hg
  rw [e0,e0] at hg
  rw [if_pos (by omega)];rfl
 ·have hg:=of_decide_eq_false hg
  rw [e0,e0] at hg
  rw [if_neg (by omega)]
  clear hg
  refine dwp_loopU (P:=Tryz.prog) (G:=GC) (k:=dk46_0) (b:=db46_0) (α:=Nat) (fun i=>[(7,DV.int .i64 (prvN b ls i)),(8,DV.int .i64 (i))]) (fun _=>[(3,.box 5 (encB b))]) (fun i=>i≤ls.length∧OkL24 (prvN b ls i)∧plE b b.le ls=plE b (prvN b ls i) (ls.drop i)) (fun i=>ls.length - i) 0 ⟨Nat.zero_le _,⟨hok.e0,by have:=hok.e1;show b.le≤24;omega⟩,rfl⟩ ?_
  conv=>whnf
  refine ⟨rfl,rfl,?_⟩
  conv=>whnf
  refine ⟨rfl,?_⟩
  intro i h1
  obtain ⟨h1,h2,h3⟩:=h1
  conv=>whnf
  refine ⟨fun hb=>?_,fun hb=>?_⟩
  ·have hi:i < ls.length:=by have:=of_decide_eq_true hb;rw [e0] at this;omega
   have hd:=plE_drop b ls i hi
   clear hb
   conv=>whnf
   rw [getD_enc _ _ (i) 0 hi]
   refine ⟨idxA hi rfl,?_⟩
   conv=>whnf
   repeat' (first
    |(refine ⟨fun hg=>?_,fun hg=>?_⟩<;>first|contradiction|(conv=>whnf))
    |(refine Or.inl ?_;conv=>whnf)
    |(refine ⟨_,r_CheckLevel ..,?_⟩;conv=>whnf)
    |(refine ⟨_,r_mayG ..,?_⟩;conv=>whnf)
    |(refine ⟨_,q_When ..,?_⟩;conv=>whnf)
    |(refine ⟨_,q_First [_,_] (by simp),?_⟩;conv=>whnf)
    |(rw [getD_enc _ _ i 0 hi];refine ⟨idxA hi rfl,?_⟩;conv=>whnf)
    |(refine And.intro ?_ ?_;kernel_rfl;conv=>whnf))
   all_goals have hse:=stepE hc1 (ls.getD i 0) h2
   ·have hg:firstE _≠0:=of_decide_eq_true hg
    refine int_eq ?_
    rw [h3,hd]
    rw [hse] at hg ⊢
    by_cases e:lvE b (ls.getD i 0)≠0
    ·rw [if_pos e,if_pos e]
    ·rw [if_neg e] at hg ⊢
     rw [if_neg e]
     cases hfr:farB b (prvN b ls i) (ls.getD i 0) with
     |true=>rfl
     |false=>rw [hfr] at hg;exact absurd rfl hg
   ·have hg:¬ firstE _≠0:=of_decide_eq_false hg
    rw [hse] at hg
    by_cases e:lvE b (ls.getD i 0)≠0
    ·rw [if_pos e] at hg;exact absurd e hg
    ·rw [if_neg e] at hg hd
     have hlv:=lvE_ok (Classical.not_not.1 e)
     cases hfr:farB b (prvN b ls i) (ls.getD i 0) with
     |true=>rw [hfr] at hg;exact absurd (by decide) hg
     |false =>
      rw [hfr] at hd
      rw [wrap_succ i (by omega)]
      exact ⟨i+1,rfl,rfl,rfl,⟨hi,⟨hlv.1,by rw [prvN_succ];omega⟩,by rw [h3,hd];rfl⟩,by omega⟩
  ·have hi:i=ls.length:=by have:=of_decide_eq_false hb;rw [e0] at this;omega
   clear hb
   conv=>whnf
   exact int_eq (by rw [h3,hi,List.drop_of_length_le (Nat.le_refl _)];rfl)
end Sh

namespace Sh
open Go Go.Proofs
theorem r_Value (b:Ba) (hb:OkB b) (ps ls:List Int) (hp:∀ p ∈ ps,OkP p) (hps:ps.length≤24) (hl:ls.length=ps.length) (hok:OkLs b ls):PC 47 [encB b,iL ps,iL ls] (DV.int .i64 (valI b ps ls ls.length)):=by
 have e0:∀ l:List Int,((l.map (DV.int .i64)).length:Int)=l.length:=by simp
 refine pureCall_ofR dh47 rfl ?_
 conv=>whnf
 refine ⟨by kernel_rfl,?_⟩
 conv=>whnf
 refine dwp_loopU (P:=Tryz.prog) (G:=GC) (k:=dk47_0) (b:=db47_0) (α:=Nat) (fun i=>[(7,DV.int .i64 (valI b ps ls i)),(8,DV.int .i64 (prvN b ls i)),(9,DV.int .i64 (i))]) (fun _=>[(3,.box 5 (encB b))]) (fun i=>i≤ls.length) (fun i=>ls.length - i) 0 (Nat.zero_le _) ?_
 conv=>whnf
 refine ⟨rfl,rfl,?_⟩
 conv=>whnf
 refine ⟨rfl,?_⟩
 intro i h1
 conv=>whnf
 refine ⟨fun hb=>?_,fun hb=>?_⟩
 ·have hi:i < ls.length:=by have:=of_decide_eq_true hb;rw [e0] at this;omega
  clear hb
  have hi2:i < ps.length:=by omega
  have hv:=valI_bd (by assumption) hp hok (i:=i) (by omega) (by omega)
  have hv2:=valI_bd (by assumption) hp hok (i:=i+1) (by omega) (by omega)
  have hs:=valI_succ b ps ls i
  rw [hs] at hv2
  unfold valN at hs hv2
  conv=>whnf
  repeat' (first
   |(refine ⟨fun hg=>?_,fun hg=>?_⟩<;>first|contradiction|(conv=>whnf))
   |(refine Or.inl ?_;conv=>whnf)
   |(refine ⟨_,r_worth b (by assumption) _ _ _ (hp _ (getD_in 0 hi2)) (prv_ok (by assumption) hok (by omega)) (lev_ok (by assumption) hok hi),?_⟩;conv=>whnf)
   |(rw [getD_enc _ _ i 0 hi2];refine ⟨idxA hi2 rfl,?_⟩;conv=>whnf)
   |(rw [getD_enc _ _ i 0 hi];refine ⟨idxA hi rfl,?_⟩;conv=>whnf)
   |(refine And.intro ?_ ?_;kernel_rfl;conv=>whnf))
  rw [wrap_succ i (by omega),wrap_in (by omega) (by omega),← hs]
  exact ⟨i+1,rfl,rfl,rfl,hi,by omega⟩
 ·have hi:i=ls.length:=by have:=of_decide_eq_false hb;rw [e0] at this;omega
  clear hb
  conv=>whnf
  rw [hi];rfl
theorem r_Age (b:Ba) (hb:OkB b) (ls:List Int) (hps:ls.length≤24) (hok:OkLs b ls):PC 48 [encB b,iL ls] (DV.int .i64 (ageI b ls ls.length)):=by
 have e0:∀ l:List Int,((l.map (DV.int .i64)).length:Int)=l.length:=by simp
 refine pureCall_ofR dh48 rfl ?_
 conv=>whnf
 refine ⟨by kernel_rfl,?_⟩
 conv=>whnf
 refine dwp_loopU (P:=Tryz.prog) (G:=GC) (k:=dk48_0) (b:=db48_0) (α:=Nat) (fun i=>[(5,DV.int .i64 (ageI b ls i)),(6,DV.int .i64 (prvN b ls i)),(7,DV.int .i64 (i))]) (fun _=>[(2,.box 5 (encB b))]) (fun i=>i≤ls.length) (fun i=>ls.length - i) 0 (Nat.zero_le _) ?_
 conv=>whnf
 refine ⟨rfl,rfl,?_⟩
 conv=>whnf
 refine ⟨rfl,?_⟩
 intro i h1
 conv=>whnf
 refine ⟨fun hc=>?_,fun hc=>?_⟩
 ·have hi:i < ls.length:=by have:=of_decide_eq_true hc;rw [e0] at this;omega
  clear hc
  obtain ⟨q1,q3⟩:=prv_ok hb hok (k:=i) (by omega)
  obtain ⟨q2,q4⟩:=lev_ok hb hok hi
  have hv:=ageI_bd hb hok (i:=i) (by omega)
  have hv2:=ageN_bd hb hok hi
  have e1:minmaxI true 0 (IntKind.i64.wrap (prvN b ls i - ls.getD i 0))=ageN b ls i:=by
   rw [wrap_in (by omega) (by omega)]
   show (if prvN b ls i - ls.getD i 0 > 0 then _ else _)=max _ _
   split<;>omega
  have hs:=ageI_succ b ls i
  conv=>whnf
  repeat' (first
   |(refine ⟨fun hg=>?_,fun hg=>?_⟩<;>first|contradiction|(conv=>whnf))
   |(refine Or.inl ?_;conv=>whnf)
   |(rw [getD_enc _ _ i 0 hi];refine ⟨idxA hi rfl,?_⟩;conv=>whnf)
   |(refine And.intro ?_ ?_;kernel_rfl;conv=>whnf))
  rw [wrap_succ i (by omega),e1,wrap_in (n:=ageI b ls i+ageN b ls i) (by omega) (by omega),← hs]
  exact ⟨i+1,rfl,rfl,rfl,hi,by omega⟩
 ·have hi:i=ls.length:=by have:=of_decide_eq_false hc;rw [e0] at this;omega
  clear hc
  conv=>whnf
  rw [hi];rfl
end Sh

namespace Sh
open Go Go.Proofs
theorem l_first (l:List Int) (hl:l.length < 4611686018427387904):PC 20 [iL l] (DV.int .i64 (firstE l)):=by
 refine pureCall_ofR dh20 rfl ?_
 conv=>whnf
 refine .inl ?_
 conv=>whnf
 refine ⟨_,q_First _ hl,?_⟩
 conv=>whnf
 rfl
end Sh

namespace Sh
open Go
def dc5 : DFunc := ⟨171,3,[.tmp 6],sq [oq 3 (.box 5 (.tmp 0)),oq 4 (.box 2 (.tmp 1)),oq 5 (.box 3 (.tmp 2)),oq 6 (.mov (bq false))] (.seq (sq [oq 20 (.faddr 0 1 false (.tmp 4)),oq 21 (.load none (.tmp 20)),oq 22 (.len (.tmp 21)),oq 23 (.bin .gtr (.tmp 22) (iq 25)),mq 24 23,gq 25 (.faddr 1 1 false (.tmp 4)) 24 false,gq 26 (.load none (.tmp 25)) 24 false,gq 27 (.len (.tmp 26)) 24 false,gq 28 (.bin .gtr (.tmp 27) (iq 25)) 24 false,oq 29 (.pick (.tmp 24) (bq true) (.tmp 28))] (.cond (.tmp 29) (sq [oq 30 (.call (.func 13) []),mq 6 30] .ret) .skip)) (sq [oq 32 (.load (some 5) (.tmp 3)),oq 33 (.iaddrA 3 1 false (.tmp 5) (iq 0)),oq 34 (.load none (.tmp 33)),oq 35 (.iaddrA 3 1 false (.tmp 5) (iq 1)),oq 36 (.load none (.tmp 35)),oq 37 (.iaddrA 3 1 false (.tmp 5) (iq 2)),oq 38 (.load none (.tmp 37)),oq 39 (.call (.func 37) [.tmp 32,.tmp 34,.tmp 36,.tmp 38]),mq 31 39,oq 40 (.extract (.tmp 31) 0),oq 41 (.extract (.tmp 31) 1),mq 7 40,mq 8 41] (.seq (.ops true [oq 42 (.load (some 5) (.tmp 3)),oq 43 (.faddr 0 1 false (.tmp 4)),⟨some 44,.load none (.tmp 43),none,[1]⟩,⟨some 45,.call (.func 18) [.tmp 44],none,[2,1]⟩,oq 46 (.faddr 1 1 false (.tmp 4)),⟨some 47,.load none (.tmp 46),none,[4]⟩,⟨some 48,.call (.func 18) [.tmp 47],none,[5,4,3,2,1]⟩,⟨some 49,.call (.func 38) [.tmp 42,.tmp 45,.tmp 48],none,[0,3,2,1,6,5,4]⟩,⟨some 9,.mov (.tmp 49),none,[7,0,3,2,1,6,5,4]⟩]) (.seq (.ops true [oq 51 (.load (some 5) (.tmp 3)),oq 52 (.faddr 0 1 false (.tmp 4)),⟨some 53,.load none (.tmp 52),none,[1]⟩,⟨some 54,.call (.func 18) [.tmp 53],none,[2,1]⟩,oq 55 (.faddr 1 1 false (.tmp 4)),⟨some 56,.load none (.tmp 55),none,[4]⟩,⟨some 57,.call (.func 18) [.tmp 56],none,[5,4,3,2,1]⟩,⟨some 58,.call (.func 39) [.tmp 51,.tmp 54,.tmp 57],none,[0,3,2,1,6,5,4]⟩,⟨some 50,.mov (.tmp 58),none,[7,0,3,2,1,6,5,4]⟩,⟨some 59,.extract (.tmp 50) 0,none,[8,7,0,3,2,1,6,5,4]⟩,⟨some 60,.extract (.tmp 50) 1,none,[8,7,0,3,2,1,6,5,4]⟩,⟨some 10,.mov (.tmp 59),none,[9,8,7,0,3,2,1,6,5,4]⟩,⟨some 11,.mov (.tmp 60),none,[10,8,7,0,3,2,1,6,5,4,11,9]⟩]) (.seq (.ops true [oq 62 (.load (some 5) (.tmp 3)),oq 63 (.faddr 0 1 false (.tmp 4)),⟨some 64,.load none (.tmp 63),none,[1]⟩,⟨some 65,.call (.func 18) [.tmp 64],none,[2,1]⟩,oq 66 (.faddr 1 1 false (.tmp 4)),⟨some 67,.load none (.tmp 66),none,[4]⟩,⟨some 68,.call (.func 18) [.tmp 67],none,[5,4,3,2,1]⟩,⟨some 69,.call (.func 40) [.tmp 62,.tmp 65,.tmp 68],none,[0,3,2,1,6,5,4]⟩,⟨some 61,.mov (.tmp 69),none,[7,0,3,2,1,6,5,4]⟩,⟨some 70,.extract (.tmp 61) 0,none,[8,7,0,3,2,1,6,5,4]⟩,⟨some 71,.extract (.tmp 61) 1,none,[8,7,0,3,2,1,6,5,4]⟩,⟨some 12,.mov (.tmp 70),none,[9,8,7,0,3,2,1,6,5,4]⟩,⟨some 13,.mov (.tmp 71),none,[10,8,7,0,3,2,1,6,5,4,11,9]⟩]) (sq [oq 72 (.load (some 5) (.tmp 3)),oq 73 (.call (.func 41) [.tmp 72]),mq 14 73] (sq [mq 74 14,mq 75 14,oq 76 (.faddr 0 1 false (.tmp 4)),oq 77 (.load none (.tmp 76)),oq 78 (.call (.func 42) [.tmp 77]),oq 79 (.lit true 1 2 (.int .i64 0) [(0,(.tmp 75)),(1,(.tmp 78))]),oq 80 (.call (.func 20) [.tmp 79]),mq 15 74,mq 16 80] (.seq (sq [mq 81 14,oq 82 (.bin .eql (.tmp 81) (iq 0))] (.cond (.tmp 82) (.ops true [oq 83 (.iaddrA 3 1 false (.tmp 5) (iq 0)),⟨some 84,.load none (.tmp 83),none,[0]⟩,⟨some 85,.call (.func 43) [.tmp 84],none,[1,0]⟩,oq 86 (.load (some 5) (.tmp 3)),oq 87 (.iaddrA 3 1 false (.tmp 5) (iq 1)),⟨some 88,.load none (.tmp 87),none,[4]⟩,⟨some 89,.call (.func 44) [.tmp 86,.tmp 88],none,[3,5,4,2,1,0]⟩,oq 90 (.load (some 5) (.tmp 3)),oq 91 (.iaddrA 3 1 false (.tmp 5) (iq 2)),⟨some 92,.load none (.tmp 91),none,[8]⟩,⟨some 93,.call (.func 44) [.tmp 90,.tmp 92],none,[7,9,8,6,3,5,4,2,1,0]⟩,⟨some 94,.lit true 1 3 (.int .i64 0) [(0,(.tmp 85)),(1,(.tmp 89)),(2,(.tmp 93))],none,[2,1,0,6,3,5,4,10,7,9,8]⟩,⟨some 95,.call (.func 20) [.tmp 94],none,[11,2,1,0,6,3,5,4,10,7,9,8]⟩,⟨some 15,.mov (.tmp 95),none,[12,11,2,1,0,6,3,5,4,10,7,9,8]⟩]) .skip)) (sq [oq 17 (.mov (iq 0)),oq 18 (.mov (iq 0)),oq 19 (.mov (iq 0))] (.seq (sq [mq 96 15,oq 97 (.bin .eql (.tmp 96) (iq 0))] (.cond (.tmp 97) (pq [oq 99 (.load (some 5) (.tmp 3)),oq 100 (.iaddrA 3 1 false (.tmp 5) (iq 0)),oq 101 (.load none (.tmp 100)),oq 102 (.iaddrA 3 1 false (.tmp 5) (iq 1)),oq 103 (.load none (.tmp 102)),oq 104 (.iaddrA 3 1 false (.tmp 5) (iq 2)),oq 105 (.load none (.tmp 104)),oq 106 (.call (.func 45) [.tmp 99,.tmp 101,.tmp 103,.tmp 105]),mq 98 106,oq 107 (.extract (.tmp 98) 0),oq 108 (.extract (.tmp 98) 1),mq 17 107,mq 15 108]) .skip)) (.seq (sq [mq 109 16,oq 110 (.bin .eql (.tmp 109) (iq 0))] (.cond (.tmp 110) (pq [oq 111 (.load (some 5) (.tmp 3)),oq 112 (.faddr 0 1 false (.tmp 4)),oq 113 (.load none (.tmp 112)),oq 114 (.faddr 1 1 false (.tmp 4)),oq 115 (.load none (.tmp 114)),oq 116 (.call (.func 46) [.tmp 111,.tmp 113,.tmp 115]),mq 16 116]) .skip)) (.seq (sq [mq 117 16,oq 118 (.bin .eql (.tmp 117) (iq 0))] (.cond (.tmp 118) (.ops true [oq 119 (.load (some 5) (.tmp 3)),oq 120 (.faddr 0 1 false (.tmp 4)),⟨some 121,.load none (.tmp 120),none,[1]⟩,oq 122 (.faddr 1 1 false (.tmp 4)),⟨some 123,.load none (.tmp 122),none,[3]⟩,⟨some 124,.call (.func 47) [.tmp 119,.tmp 121,.tmp 123],none,[0,2,1,4,3]⟩,oq 125 (.load (some 5) (.tmp 3)),oq 126 (.faddr 1 1 false (.tmp 4)),⟨some 127,.load none (.tmp 126),none,[7]⟩,⟨some 128,.call (.func 48) [.tmp 125,.tmp 127],none,[6,8,7,5,0,2,1,4,3]⟩,⟨some 18,.mov (.tmp 124),none,[5,0,2,1,4,3,9,6,8,7]⟩,⟨some 19,.mov (.tmp 128),none,[9,6,8,7,5,0,2,1,4,3,10]⟩]) .skip)) (sq [oq 129 (.load (some 5) (.tmp 3)),oq 130 (.call (.func 49) [.tmp 129]),mq 131 14,oq 132 (.bin .eql (.tmp 130) (.tmp 131)),mq 133 132,gq 134 (.mov (.tmp 7)) 133 true,gq 135 (.mov (.tmp 17)) 133 true,gq 136 (.bin .eql (.tmp 134) (.tmp 135)) 133 true,oq 137 (.pick (.tmp 133) (.tmp 136) (bq false)),mq 138 137,gq 139 (.mov (.tmp 8)) 138 true,gq 140 (.mov (.tmp 15)) 138 true,gq 141 (.bin .eql (.tmp 139) (.tmp 140)) 138 true,oq 142 (.pick (.tmp 138) (.tmp 141) (bq false)),mq 143 142,gq 144 (.mov (.tmp 9)) 143 true,gq 145 (.mov (.tmp 16)) 143 true,gq 146 (.bin .eql (.tmp 144) (.tmp 145)) 143 true,oq 147 (.pick (.tmp 143) (.tmp 146) (bq false)),mq 148 147,gq 149 (.mov (.tmp 10)) 148 true,gq 150 (.mov (.tmp 18)) 148 true,gq 151 (.bin .eql (.tmp 149) (.tmp 150)) 148 true,oq 152 (.pick (.tmp 148) (.tmp 151) (bq false)),mq 153 152,gq 154 (.mov (.tmp 11)) 153 true,gq 155 (.mov (.tmp 16)) 153 true,gq 156 (.bin .eql (.tmp 154) (.tmp 155)) 153 true,oq 157 (.pick (.tmp 153) (.tmp 156) (bq false)),mq 158 157,gq 159 (.mov (.tmp 12)) 158 true,gq 160 (.mov (.tmp 19)) 158 true,gq 161 (.bin .eql (.tmp 159) (.tmp 160)) 158 true,oq 162 (.pick (.tmp 158) (.tmp 161) (bq false)),mq 163 162,gq 164 (.mov (.tmp 13)) 163 true,gq 165 (.mov (.tmp 16)) 163 true,gq 166 (.bin .eql (.tmp 164) (.tmp 165)) 163 true,oq 167 (.pick (.tmp 163) (.tmp 166) (bq false)),mq 168 167,gq 169 (.call (.func 13) []) 168 true,oq 170 (.pick (.tmp 168) (.tmp 169) (bq false)),mq 6 170] .ret)))))))))))))⟩
theorem dh5:cProg Go.Proofs.Tryz.prog ⟨[],[],[79,94]⟩ 5=some dc5:=by kernel_rfl
end Sh

set_option maxHeartbeats 4000000
namespace Sh
open Go Go.Proofs
theorem firstE_zero_cons (l:List Int):firstE (0 :: l)=firstE l:=rfl
theorem worthS_bad {b:Ba} {p f t:Int} (h:chkBa b≠0):worthS b p f t=(0,chkBa b):=by
 have:firstE [chkBa b,prE p,lvE b f,lvE b t]=chkBa b:=by simp only [firstE];rw [if_pos h]
 unfold worthS;rw [this,if_pos h]
theorem worthS_e {b:Ba} {p f t:Int} (h:chkBa b=0) (h2:firstE [prE p,lvE b f,lvE b t]≠0):worthS b p f t=(0,firstE [prE p,lvE b f,lvE b t]):=by
 unfold worthS;rw [h,firstE_zero_cons,if_pos h2]
theorem planE_bad {b:Ba} {ps ls:List Int} (h:chkBa b≠0):planE b ps ls=chkBa b:=by
 have e:chkBP b ps=chkBa b:=by unfold chkBP;simp only [firstE];rw [if_pos h]
 unfold planE;rw [e,if_pos h]
theorem planE_ps {b:Ba} {ps ls:List Int} (h:chkBa b=0) (h2:chkPs ps≠0):planE b ps ls=chkPs ps:=by
 have e:chkBP b ps=chkPs ps:=by rw [chkBP_eq,h,firstE_zero_cons,firstE_one]
 unfold planE;rw [e,if_pos h2]
theorem planE_ls {b:Ba} {ps ls:List Int} (h:chkBa b=0) (h2:chkPs ps=0):planE b ps ls=if ls.length≠ps.length then 2 else plE b b.le ls:=by
 have e:chkBP b ps=0:=by rw [chkBP_eq,h,firstE_zero_cons,firstE_one,h2]
 unfold planE;rw [e,if_neg (by omega)]
theorem l_TradePlans (aw:PC 13 [] (.bool true)) (b:Ba) (x:List Int×List Int) (n:Int×Int×Int):PC 5 [encB b,encPn x.1 x.2,.agg [DV.int .i64 (n.1),DV.int .i64 (n.2.1),DV.int .i64 (n.2.2)]] (.bool true):=by
 obtain ⟨ps,ls⟩:=x
 obtain ⟨n0,n1,n2⟩:=n
 have e0:((ps.map (DV.int .i64)).length:Int)=ps.length:=by simp
 have e1:((ls.map (DV.int .i64)).length:Int)=ls.length:=by simp
 refine pureCall_ofR dh5 rfl ?_
 conv=>whnf
 repeat' (first
  |(refine ⟨fun hg=>?_,fun hg=>?_⟩<;>first|contradiction|(conv=>whnf))
  |(refine Or.inl ?_;conv=>whnf)
  |(refine ⟨_,aw ..,?_⟩;conv=>whnf)
  |(refine And.intro ?_ ?_;kernel_rfl;conv=>whnf))
 all_goals (try rfl)
 have hd:ps.length < 1073741824∧ls.length < 1073741824:=by
  have h1:=of_decide_eq_false ‹decide (25 < ((ps.map (DV.int .i64)).length:Int))=false›
  have h2:=of_decide_eq_false hg
  rw [e0] at h1
  rw [e1] at h2
  omega
 clear hg
 obtain ⟨hps,hls⟩:=hd
 have j1:=l_ints ps hps
 have j2:=l_ints ls hls
 have w1:=c_Worth b n0 n1 n2
 have p1:=c_CheckPlan b ps ls hps hls
 have v1:=c_Value b ps ls hps hls
 have a1:=c_Age b ps ls hps hls
 have m1:=c_CheckBattery b
 have m2:=r_CheckBattery b
 have m3:=r_CheckPrices ps hps
 have c1:=r_CheckPrice n0
 have c2:=r_CheckLevel b n1
 have c3:=r_CheckLevel b n2
 have f3:=l_first [prE n0,lvE b n1,lvE b n2] (by simp)
 have f2:=l_first [chkBa b,chkPs ps] (by simp)
 by_cases z:chkBa b=0
 ·have hb:=chkBa_ok z
  have g2:firstE [chkBa b,chkPs ps]=chkPs ps:=by rw [z,firstE_zero_cons,firstE_one]
  rw [g2,z] at f2
  have hpl:=fun h2:chkPs ps≠0=>planE_ps (ls:=ls) z h2
  have hpl2:=fun h2:chkPs ps=0=>planE_ls (ls:=ls) z h2
  have hw1:=fun h:firstE [prE n0,lvE b n1,lvE b n2]≠0=>worthS_e z h
  have hw2:=fun h:firstE [prE n0,lvE b n1,lvE b n2]=0=>r_Worth b n0 n1 n2 (by rw [z,firstE_zero_cons];exact h)
  rw [z] at m1 m2
  clear z g2
  by_cases F:firstE [prE n0,lvE b n1,lvE b n2]=0
  ·have rw2:=hw2 F
   generalize worthS b n0 n1 n2=X at *
   rw [F] at f3
   by_cases Z:chkPs ps=0
   ·have hQ:=hpl2 Z
    have rp:=r_CheckPlan b hb ps ls hls
    rw [← hQ] at rp
    rw [Z] at m3 f2
    by_cases R:planE b ps ls=0
    ·obtain ⟨_,q1,q2,q3,q4,q5⟩:=planE_ok R
     rw [show valS b ps ls=(valI b ps ls ls.length,0) by rw [valS,if_neg (by omega)]] at v1
     rw [show ageS b ps ls=(ageI b ls ls.length,0) by rw [ageS,if_neg (by omega)]] at a1
     have rv:=r_Value b hb ps ls q3 q2 q4 q5
     have ra:=r_Age b hb ls (by omega) q5
     rw [R] at p1 rp
     repeat' (first
      |(refine ⟨fun hg=>?_,fun hg=>?_⟩<;>first|contradiction|(replace hg:=of_decide_eq_true hg;first|(exfalso;omega;done)|(conv=>whnf))|(replace hg:=of_decide_eq_false hg;first|(exfalso;omega;done)|(conv=>whnf))|(skip;conv=>whnf)|(conv=>whnf))
      |(refine Or.inl ?_;conv=>whnf)
      |(refine ⟨_,j1 ..,?_⟩;conv=>whnf)
      |(refine ⟨_,j2 ..,?_⟩;conv=>whnf)
      |(refine ⟨_,w1 ..,?_⟩;conv=>whnf)
      |(refine ⟨_,p1 ..,?_⟩;conv=>whnf)
      |(refine ⟨_,v1 ..,?_⟩;conv=>whnf)
      |(refine ⟨_,a1 ..,?_⟩;conv=>whnf)
      |(refine ⟨_,m1 ..,?_⟩;conv=>whnf)
      |(refine ⟨_,m2 ..,?_⟩;conv=>whnf)
      |(refine ⟨_,m3 ..,?_⟩;conv=>whnf)
      |(refine ⟨_,f2 ..,?_⟩;conv=>whnf)
      |(refine ⟨_,c1 ..,?_⟩;conv=>whnf)
      |(refine ⟨_,c2 ..,?_⟩;conv=>whnf)
      |(refine ⟨_,c3 ..,?_⟩;conv=>whnf)
      |(refine ⟨_,f3 ..,?_⟩;conv=>whnf)
      |(refine ⟨_,rw2 ..,?_⟩;conv=>whnf)
      |(refine ⟨_,rp ..,?_⟩;conv=>whnf)
      |(refine ⟨_,rv ..,?_⟩;conv=>whnf)
      |(refine ⟨_,ra ..,?_⟩;conv=>whnf)
      |(refine ⟨_,aw ..,?_⟩;conv=>whnf)
      |(refine ⟨⟨by decide,by decide⟩,?_⟩;conv=>whnf)
      |(refine And.intro ?_ ?_;kernel_rfl;conv=>whnf))
     all_goals first
      |rfl
      |(exfalso;simp at *;done)
      |trace_state
    ·rw [show valS b ps ls=(0,planE b ps ls) by rw [valS,if_pos R]] at v1
     rw [show ageS b ps ls=(0,planE b ps ls) by rw [ageS,if_pos R]] at a1
     generalize planE b ps ls=R1 at *
     repeat' (first
      |(refine ⟨fun hg=>?_,fun hg=>?_⟩<;>first|contradiction|(replace hg:=of_decide_eq_true hg;first|(exfalso;omega;done)|(conv=>whnf))|(replace hg:=of_decide_eq_false hg;first|(exfalso;omega;done)|(conv=>whnf))|(skip;conv=>whnf)|(conv=>whnf))
      |(refine Or.inl ?_;conv=>whnf)
      |(refine ⟨_,j1 ..,?_⟩;conv=>whnf)
      |(refine ⟨_,j2 ..,?_⟩;conv=>whnf)
      |(refine ⟨_,w1 ..,?_⟩;conv=>whnf)
      |(refine ⟨_,p1 ..,?_⟩;conv=>whnf)
      |(refine ⟨_,v1 ..,?_⟩;conv=>whnf)
      |(refine ⟨_,a1 ..,?_⟩;conv=>whnf)
      |(refine ⟨_,m1 ..,?_⟩;conv=>whnf)
      |(refine ⟨_,m2 ..,?_⟩;conv=>whnf)
      |(refine ⟨_,m3 ..,?_⟩;conv=>whnf)
      |(refine ⟨_,f2 ..,?_⟩;conv=>whnf)
      |(refine ⟨_,c1 ..,?_⟩;conv=>whnf)
      |(refine ⟨_,c2 ..,?_⟩;conv=>whnf)
      |(refine ⟨_,c3 ..,?_⟩;conv=>whnf)
      |(refine ⟨_,f3 ..,?_⟩;conv=>whnf)
      |(refine ⟨_,rw2 ..,?_⟩;conv=>whnf)
      |(refine ⟨_,rp ..,?_⟩;conv=>whnf)
      |(refine ⟨_,aw ..,?_⟩;conv=>whnf)
      |(refine ⟨⟨by decide,by decide⟩,?_⟩;conv=>whnf)
      |(refine And.intro ?_ ?_;kernel_rfl;conv=>whnf))
     all_goals first
      |rfl
      |(exfalso;simp at *;done)
      |trace_state
   ·have hQ:=hpl Z
    rw [show valS b ps ls=(0,planE b ps ls) by rw [valS,if_pos (by rw [hQ];exact Z)]] at v1
    rw [show ageS b ps ls=(0,planE b ps ls) by rw [ageS,if_pos (by rw [hQ];exact Z)]] at a1
    rw [hQ] at p1 v1 a1
    generalize chkPs ps=Z1 at *
    repeat' (first
     |(refine ⟨fun hg=>?_,fun hg=>?_⟩<;>first|contradiction|(replace hg:=of_decide_eq_true hg;first|(exfalso;omega;done)|(conv=>whnf))|(replace hg:=of_decide_eq_false hg;first|(exfalso;omega;done)|(conv=>whnf))|(skip;conv=>whnf)|(conv=>whnf))
     |(refine Or.inl ?_;conv=>whnf)
     |(refine ⟨_,j1 ..,?_⟩;conv=>whnf)
     |(refine ⟨_,j2 ..,?_⟩;conv=>whnf)
     |(refine ⟨_,w1 ..,?_⟩;conv=>whnf)
     |(refine ⟨_,p1 ..,?_⟩;conv=>whnf)
     |(refine ⟨_,v1 ..,?_⟩;conv=>whnf)
     |(refine ⟨_,a1 ..,?_⟩;conv=>whnf)
     |(refine ⟨_,m1 ..,?_⟩;conv=>whnf)
     |(refine ⟨_,m2 ..,?_⟩;conv=>whnf)
     |(refine ⟨_,m3 ..,?_⟩;conv=>whnf)
     |(refine ⟨_,f2 ..,?_⟩;conv=>whnf)
     |(refine ⟨_,c1 ..,?_⟩;conv=>whnf)
     |(refine ⟨_,c2 ..,?_⟩;conv=>whnf)
     |(refine ⟨_,c3 ..,?_⟩;conv=>whnf)
     |(refine ⟨_,f3 ..,?_⟩;conv=>whnf)
     |(refine ⟨_,rw2 ..,?_⟩;conv=>whnf)
     |(refine ⟨_,aw ..,?_⟩;conv=>whnf)
     |(refine ⟨⟨by decide,by decide⟩,?_⟩;conv=>whnf)
     |(refine And.intro ?_ ?_;kernel_rfl;conv=>whnf))
    all_goals first
     |rfl
     |(exfalso;simp at *;done)
     |trace_state
  ·rw [hw1 F] at w1
   generalize firstE [prE n0,lvE b n1,lvE b n2]=F1 at *
   by_cases Z:chkPs ps=0
   ·have hQ:=hpl2 Z
    have rp:=r_CheckPlan b hb ps ls hls
    rw [← hQ] at rp
    rw [Z] at m3 f2
    by_cases R:planE b ps ls=0
    ·obtain ⟨_,q1,q2,q3,q4,q5⟩:=planE_ok R
     rw [show valS b ps ls=(valI b ps ls ls.length,0) by rw [valS,if_neg (by omega)]] at v1
     rw [show ageS b ps ls=(ageI b ls ls.length,0) by rw [ageS,if_neg (by omega)]] at a1
     have rv:=r_Value b hb ps ls q3 q2 q4 q5
     have ra:=r_Age b hb ls (by omega) q5
     rw [R] at p1 rp
     repeat' (first
      |(refine ⟨fun hg=>?_,fun hg=>?_⟩<;>first|contradiction|(replace hg:=of_decide_eq_true hg;first|(exfalso;omega;done)|(conv=>whnf))|(replace hg:=of_decide_eq_false hg;first|(exfalso;omega;done)|(conv=>whnf))|(skip;conv=>whnf)|(conv=>whnf))
      |(refine Or.inl ?_;conv=>whnf)
      |(refine ⟨_,j1 ..,?_⟩;conv=>whnf)
      |(refine ⟨_,j2 ..,?_⟩;conv=>whnf)
      |(refine ⟨_,w1 ..,?_⟩;conv=>whnf)
      |(refine ⟨_,p1 ..,?_⟩;conv=>whnf)
      |(refine ⟨_,v1 ..,?_⟩;conv=>whnf)
      |(refine ⟨_,a1 ..,?_⟩;conv=>whnf)
      |(refine ⟨_,m1 ..,?_⟩;conv=>whnf)
      |(refine ⟨_,m2 ..,?_⟩;conv=>whnf)
      |(refine ⟨_,m3 ..,?_⟩;conv=>whnf)
      |(refine ⟨_,f2 ..,?_⟩;conv=>whnf)
      |(refine ⟨_,c1 ..,?_⟩;conv=>whnf)
      |(refine ⟨_,c2 ..,?_⟩;conv=>whnf)
      |(refine ⟨_,c3 ..,?_⟩;conv=>whnf)
      |(refine ⟨_,f3 ..,?_⟩;conv=>whnf)
      |(refine ⟨_,rp ..,?_⟩;conv=>whnf)
      |(refine ⟨_,rv ..,?_⟩;conv=>whnf)
      |(refine ⟨_,ra ..,?_⟩;conv=>whnf)
      |(refine ⟨_,aw ..,?_⟩;conv=>whnf)
      |(refine ⟨⟨by decide,by decide⟩,?_⟩;conv=>whnf)
      |(refine And.intro ?_ ?_;kernel_rfl;conv=>whnf))
     all_goals first
      |rfl
      |(exfalso;simp at *;done)
      |trace_state
    ·rw [show valS b ps ls=(0,planE b ps ls) by rw [valS,if_pos R]] at v1
     rw [show ageS b ps ls=(0,planE b ps ls) by rw [ageS,if_pos R]] at a1
     generalize planE b ps ls=R1 at *
     repeat' (first
      |(refine ⟨fun hg=>?_,fun hg=>?_⟩<;>first|contradiction|(replace hg:=of_decide_eq_true hg;first|(exfalso;omega;done)|(conv=>whnf))|(replace hg:=of_decide_eq_false hg;first|(exfalso;omega;done)|(conv=>whnf))|(skip;conv=>whnf)|(conv=>whnf))
      |(refine Or.inl ?_;conv=>whnf)
      |(refine ⟨_,j1 ..,?_⟩;conv=>whnf)
      |(refine ⟨_,j2 ..,?_⟩;conv=>whnf)
      |(refine ⟨_,w1 ..,?_⟩;conv=>whnf)
      |(refine ⟨_,p1 ..,?_⟩;conv=>whnf)
      |(refine ⟨_,v1 ..,?_⟩;conv=>whnf)
      |(refine ⟨_,a1 ..,?_⟩;conv=>whnf)
      |(refine ⟨_,m1 ..,?_⟩;conv=>whnf)
      |(refine ⟨_,m2 ..,?_⟩;conv=>whnf)
      |(refine ⟨_,m3 ..,?_⟩;conv=>whnf)
      |(refine ⟨_,f2 ..,?_⟩;conv=>whnf)
      |(refine ⟨_,c1 ..,?_⟩;conv=>whnf)
      |(refine ⟨_,c2 ..,?_⟩;conv=>whnf)
      |(refine ⟨_,c3 ..,?_⟩;conv=>whnf)
      |(refine ⟨_,f3 ..,?_⟩;conv=>whnf)
      |(refine ⟨_,rp ..,?_⟩;conv=>whnf)
      |(refine ⟨_,aw ..,?_⟩;conv=>whnf)
      |(refine ⟨⟨by decide,by decide⟩,?_⟩;conv=>whnf)
      |(refine And.intro ?_ ?_;kernel_rfl;conv=>whnf))
     all_goals first
      |rfl
      |(exfalso;simp at *;done)
      |trace_state
   ·have hQ:=hpl Z
    rw [show valS b ps ls=(0,planE b ps ls) by rw [valS,if_pos (by rw [hQ];exact Z)]] at v1
    rw [show ageS b ps ls=(0,planE b ps ls) by rw [ageS,if_pos (by rw [hQ];exact Z)]] at a1
    rw [hQ] at p1 v1 a1
    generalize chkPs ps=Z1 at *
    repeat' (first
     |(refine ⟨fun hg=>?_,fun hg=>?_⟩<;>first|contradiction|(replace hg:=of_decide_eq_true hg;first|(exfalso;omega;done)|(conv=>whnf))|(replace hg:=of_decide_eq_false hg;first|(exfalso;omega;done)|(conv=>whnf))|(skip;conv=>whnf)|(conv=>whnf))
     |(refine Or.inl ?_;conv=>whnf)
     |(refine ⟨_,j1 ..,?_⟩;conv=>whnf)
     |(refine ⟨_,j2 ..,?_⟩;conv=>whnf)
     |(refine ⟨_,w1 ..,?_⟩;conv=>whnf)
     |(refine ⟨_,p1 ..,?_⟩;conv=>whnf)
     |(refine ⟨_,v1 ..,?_⟩;conv=>whnf)
     |(refine ⟨_,a1 ..,?_⟩;conv=>whnf)
     |(refine ⟨_,m1 ..,?_⟩;conv=>whnf)
     |(refine ⟨_,m2 ..,?_⟩;conv=>whnf)
     |(refine ⟨_,m3 ..,?_⟩;conv=>whnf)
     |(refine ⟨_,f2 ..,?_⟩;conv=>whnf)
     |(refine ⟨_,c1 ..,?_⟩;conv=>whnf)
     |(refine ⟨_,c2 ..,?_⟩;conv=>whnf)
     |(refine ⟨_,c3 ..,?_⟩;conv=>whnf)
     |(refine ⟨_,f3 ..,?_⟩;conv=>whnf)
     |(refine ⟨_,aw ..,?_⟩;conv=>whnf)
     |(refine ⟨⟨by decide,by decide⟩,?_⟩;conv=>whnf)
     |(refine And.intro ?_ ?_;kernel_rfl;conv=>whnf))
    all_goals first
     |rfl
     |(exfalso;simp at *;done)
     |trace_state
 ·have hQ:=planE_bad (ps:=ps) (ls:=ls) z
  rw [worthS_bad z] at w1
  rw [show valS b ps ls=(0,planE b ps ls) by rw [valS,if_pos (by rw [hQ];exact z)]] at v1
  rw [show ageS b ps ls=(0,planE b ps ls) by rw [ageS,if_pos (by rw [hQ];exact z)]] at a1
  rw [hQ] at p1 v1 a1
  have g2:firstE [chkBa b,chkPs ps]=chkBa b:=by simp only [firstE];rw [if_pos z]
  rw [g2] at f2
  generalize chkBa b=E at *
  repeat' (first
   |(refine ⟨fun hg=>?_,fun hg=>?_⟩<;>first|contradiction|(replace hg:=of_decide_eq_true hg;first|(exfalso;omega;done)|(conv=>whnf))|(replace hg:=of_decide_eq_false hg;first|(exfalso;omega;done)|(conv=>whnf))|(skip;conv=>whnf)|(conv=>whnf))
   |(refine Or.inl ?_;conv=>whnf)
   |(refine ⟨_,j1 ..,?_⟩;conv=>whnf)
   |(refine ⟨_,j2 ..,?_⟩;conv=>whnf)
   |(refine ⟨_,w1 ..,?_⟩;conv=>whnf)
   |(refine ⟨_,p1 ..,?_⟩;conv=>whnf)
   |(refine ⟨_,v1 ..,?_⟩;conv=>whnf)
   |(refine ⟨_,a1 ..,?_⟩;conv=>whnf)
   |(refine ⟨_,m1 ..,?_⟩;conv=>whnf)
   |(refine ⟨_,m2 ..,?_⟩;conv=>whnf)
   |(refine ⟨_,m3 ..,?_⟩;conv=>whnf)
   |(refine ⟨_,f2 ..,?_⟩;conv=>whnf)
   |(refine ⟨_,aw ..,?_⟩;conv=>whnf)
   |(refine ⟨⟨by decide,by decide⟩,?_⟩;conv=>whnf)
   |(refine And.intro ?_ ?_;kernel_rfl;conv=>whnf))
  all_goals first
   |rfl
   |(exfalso;simp at *;done)
   |trace_state
end Sh
