/-
  Chapter 9's functions, walked over pure data: the library of the walk, the functions' code over data, and what each computes. (part 7)
-/
import Derived.Test.YtjgckckimeldeaaGreatDoorP6
import Derived.ChangeArms
import Derived.ChangeSame
import Derived.OpenShut
import Derived.WideShapes
import Derived.FnData
import Derived.LaidMore
import Derived.DataReads
import Derived.ProofKit
import Derived.Carry
import Derived.HandedShaped
import Derived.Shelf.Vars
import Derived.Stop.Joined
import Derived.Deep.DeepHandedRow
import Derived.Lib.LaidTab
import Derived.MakeChecks
import Derived.LaidSub
import Derived.LaidHandle
import Derived.Test.YtjgckckimeldeaaGreatDoorProg
set_option linter.unusedVariables false
set_option linter.unusedSimpArgs false
namespace Sh
open Go
theorem memOf_holds (W:World):(memOf W).holds W:=fun _ _ _ h=>h
theorem calls_of_pure {G:Nat→Option DV} {f:FuncId} {ds:List DV} {d:DV} {P:Program} (h:PureCall P G f ds d) {W:World} {vs:Array Value} (hG:GOk G (memOf W)) (hT:Tabs G W) (hr:RelPs (memOf W) ds vs) :
  Calls P f vs W fun e w'=>∃ v M',e=.returned v∧M'.holds w'∧RelP M' d v∧RowKit.Below W.heap.size W w':=by
 have h1:=h.2 Fence.wide 0 ⟨fun _=>trivial,rfl⟩ rfl rfl (memOf W) W vs hG hT (memOf_holds W) hr
 refine (callsIn_wide.1 h1).mono fun e w' ⟨v,M',a,_,b,c,d,_⟩=>⟨v,M',a,b,c,d⟩
section
variable {H:Type} {enc:TypeId×Value→H} {P:Program} {W:World}
theorem arg_struct {t:TypeId} {fs:Array Field} {α:Type} {e:α→List DV} {B:α→Prop} {v:Value} {d:DataW H} {p:List MemPlace} {base b0:Nat} {sp:Nat→Bool} {hd:Bool} (ht:P.underlying t=some (.struct fs)) (k:Opens enc P W t e B)
  (hv:Value.okWide P W .any b0 t v) (h:DataW.Trod enc P W base sp hd t v d p):∃ a,RelP (memOf W) (.agg (e a)) v∧B a:=by
 obtain ⟨cs,rfl,hsz⟩:=WideShapes.okWide_struct ht hv
 obtain ⟨fuel,hf⟩:=h
 obtain ⟨a,h1,h2⟩:=k _ _ _ _ _ _ hf
 refine ⟨a,.agg _ _ (by simpa [Value.cells] using h1.1) (fun i hi=>?_),h2⟩
 have:=h1.2 i hi
 simpa [Value.cells,List.getD_eq_getElem?_getD,Array.getD_eq_getD_getElem?] using this
theorem arg_slice {t e:TypeId} {α:Type} {f:α→DV} {B:α→Prop} {v:Value} {d:DataW H} {p:List MemPlace} {base b0:Nat} {sp:Nat→Bool} {hd:Bool} (ht:P.underlying t=some (.slice e)) (k:Opens enc P W t (fun a=>[f a]) B)
  (hv:Value.okWide P W .any b0 t v) (h:DataW.Trod enc P W base sp hd t v d p):∃ a,RelP (memOf W) (f a) v∧B a:=by
 obtain ⟨a,len,cap,rfl⟩:=WideShapes.okWide_slice ht hv
 obtain ⟨fuel,hf⟩:=h
 obtain ⟨a,h1,h2⟩:=k _ _ _ _ _ _ hf
 exact ⟨a,h1.2 0 (by simp),h2⟩
theorem relPs_of {M:Mem} {ds:List DV} {vs:List Value} (h:RelL M ds vs):RelPs M ds vs.toArray:=by
 refine ⟨by simpa using h.1,fun i hi=>?_⟩
 have:=h.2 i hi
 simpa [List.getD_eq_getElem?_getD,Array.getD_eq_getD_getElem?] using this
end
end Sh

namespace Sh
open Go Go.Proofs
section
variable {H:Type} {enc:TypeId×Value→H} {P:Program} {W:World}
theorem handed_shaped {a:Assume} {C:Checked} {os:Os} {f:FuncId} {fn:Func} {s:ChangeSpec} {conds:List PathCond} {apart fresh handsOn again:Bool} {X:World→Array Value→Prop}
  (hX:∀ (w w':World) (args:Array Value),w.heap=w'.heap→X w args→X w' args)
  (own:ownKnob C.prog.godebug=none) (started:os.Started) (noInit:C.prog.inits.idxOf? f=none) (hfn:C.prog.funcs[f]?=some fn)
  (witness:∃ (w:World) (tape:Tape) (i:Input),w.os=os∧(w.forCall tape i).Shaped C.prog∧i.vars=[]∧Input.okWide C.prog (w.forCall tape i) .any w.heap.size f i ∧
    ((s.pre enc C.prog fn conds apart (w.forCall tape i).memory i.args∧X (w.forCall tape i).memory i.args)∧sizedMet enc C.prog fn (OpenSpec.ofChange s) apart (w.forCall tape i).memory i.args)∧a.holds C.prog (lone (Frame.enter C.prog f i.args .normal) [] (w.forCall tape i)))
  (contract:∀ (W:World) (base:Nat) (args:Array Value) (ds gs:List (DataW H)) (before:List MemPlace),
    (∀ (j:Nat) t v,fn.params[j]?=some t→args[j]?=some v→Value.okWide C.prog W .any base t v) →
    DataW.Whole enc C.prog fn.params.toList s.vars apart W args.toList ds gs before→X W args→W.ShapedOpen C.prog →
    Calls C.prog f args W fun e W'=>∃ v,e=.returned v∧s.post enc C.prog fn apart fresh handsOn again W args v W') :
  ReturnsInHanded a C os f .any (fun w args=>(s.pre enc C.prog fn conds apart w args∧X w args)∧sizedMet enc C.prog fn (OpenSpec.ofChange s) apart w args) (s.post enc C.prog fn apart fresh handsOn again):=by
 refine returnsInHanded_of_calls own started noInit witness ?_
 intro w tape i _ hsh _ hok hpre hholds
 obtain ⟨_,_,_,fn',hfn',_,_,_,_,hval⟩:=hok
 have e:fn'=fn:=Option.some.inj (hfn'.symm.trans hfn)
 subst e
 obtain ⟨⟨⟨ds,gs,before,hw,hc⟩,hx⟩,hz⟩:=hpre
 have hw':=DataW.Whole.of_heap (w':=w.forCall tape i) (by rfl) hw
 refine (contract (w.forCall tape i) w.heap.size i.args ds gs before hval hw' (hX _ _ _ (by rfl) hx) hsh).mono fun e W' ⟨v,he,hp⟩=>?_
 subst he
 exact ChangeSpec.post_blind hp
end
section
open Go.RowKit Go.WideShapes Go.ChangeShapes
variable {H:Type} {enc:TypeId×Value→H} {P:Program}
theorem postOfBelow {f:Func} {s:ChangeSpec} {apart fresh handsOn again:Bool} {W W':World} {args:Array Value} {v:Value} {ds gs:List (DataW H)} {before pa pv:List MemPlace}
  (hW:DataW.Whole enc P f.params.toList s.vars apart W args.toList ds gs before)
  (hres:∀ (b:Nat) (sp:Nat→Bool) (hd:Bool),DataW.TrodAll enc P W' b sp hd f.resultTypes.toList (v.resultList f.resultTypes.size) (s.fn H (ds++gs)).results [])
  (hargs:∀ sp:Nat→Bool,(∀ p ∈ before,sp p.block=true)→DataW.TrodAll enc P W' 0 sp true f.params.toList args.toList (s.fn H (ds++gs)).args pa)
  (hvars:∀ sp:Nat→Bool,(∀ p ∈ before,sp p.block=true)→DataW.TrodVars enc P W' sp s.vars (s.fn H (ds++gs)).vars pv)
  (hps:before=pa++pv) (hb:Below W.heap.size W W')
  (hok:∀ (j:Nat) (t:TypeId) (r:Value),f.resultTypes[j]?=some t→(v.resultList f.resultTypes.size)[j]?=some r→Value.okWide P W' .any 0 t r) :
  s.post enc P f apart fresh handsOn again W args v W':=by
 have hlt:∀ p ∈ before,p.block < W.heap.size:=fun p hp=>hW.lt p hp
 have hold:∀ p ∈ before,(fun b=>decide (b < W.heap.size)) p.block=true:=fun p hp=>by simpa using hlt p hp
 refine ⟨ds,gs,before,[],pa,pv,hW,hres _ _ _,hargs _ hold,hvars _ hold,World.keptBut_mono (fun p hp=>⟨hp,?_⟩) (hb.frame (· ∈ before)),fun _=>?_⟩
 ·rw [hps,List.mem_append] at hp
  exact Or.inr hp
 ·obtain ⟨_,_,_,_,_,hz,hn⟩:=hW
  refine ⟨hok,_,_,([]++pa)++pv,⟨[]++pa,pv,trodAll_append (hargs _ (fun _ _=>rfl)) (hres _ _ _),hvars _ (fun _ _=>rfl),rfl,?_,?_⟩,?_⟩
  ·intro b off hp
   have hin:MemPlace.cell b off ∈ before:=by rw [hps];simpa using hp
   rw [hb.frozen (hlt _ hin)]
   exact hz b off hin
  ·intro ha
   have:=hn ha
   rw [hps] at this
   simpa using this
  ·intro p hp _
   rw [hps]
   simpa using hp
theorem trodAll_stays (hl:laidOutB P=true) {W W':World} (hb:Below W.heap.size W W') {sp:Nat→Bool}:∀ {ts:List TypeId} {vs:List Value} {ds:List (DataW H)} {ps:List MemPlace},DataW.TrodAll enc P W 0 (fun _=>true) true ts vs ds ps →
  (ts.all fun t=>P.readableRec t && decide (t < P.types.size))=true→(∀ p ∈ ps,p.block < W.heap.size)→(∀ p ∈ ps,sp p.block=true)→DataW.TrodAll enc P W' 0 sp true ts vs ds ps
 |[],_,_,_,h,_,_,_=>by
  obtain ⟨rfl,rfl,rfl⟩:=trodAll_nil h
  rfl
 |t :: ts,_,_,_,h,ht,hlt,hsp=>by
  obtain ⟨v,vs,d,ds,p,q,rfl,rfl,rfl,h1,h2⟩:=trodAll_cons h
  rw [List.all_cons,Bool.and_eq_true,Bool.and_eq_true] at ht
  exact trodAll_cons_mk (WideElems.Trod_stays hl ht.1.1 (of_decide_eq_true ht.1.2) h1 (fun x hx=>hb.same (hlt x (by simp [hx]))) (fun x hx=>hsp x (by simp [hx])))
   (trodAll_stays hl hb h2 ht.2 (fun x hx=>hlt x (by simp [hx])) (fun x hx=>hsp x (by simp [hx])))
end
end Sh

set_option maxRecDepth 100000
namespace Sh
open Go
def dc18 : DFunc := ⟨6,1,[.tmp 2],sq [oq 2 (.mov (.const (.slice none 0 0)))] (sq [oq 3 (.lit true 1 0 (.int .i64 0) []),mq 4 0,oq 5 (.append true 1 (.tmp 3) (.tmp 4)),mq 2 5] .ret)⟩
theorem dh18:cProg Go.Proofs.Tryz.prog ⟨[],[],[3,5]⟩ 18=some dc18:=by kernel_rfl
def dc20 : DFunc := ⟨5,1,[.tmp 2],sq [oq 2 (.mov (iq 0))] (sq [mq 3 0,oq 4 (.call (.func 88) [.tmp 3]),mq 2 4] .ret)⟩
theorem dh20:cProg Go.Proofs.Tryz.prog ⟨[],[],[]⟩ 20=some dc20:=by kernel_rfl
def dc41 : DFunc := ⟨26,1,[.tmp 2],sq [oq 1 (.box 5 (.tmp 0)),oq 2 (.mov (iq 0))] (.seq (.seq (.ops true [oq 4 (.faddr 0 1 false (.tmp 1)),⟨some 5,.load none (.tmp 4),none,[0]⟩,⟨some 6,.call (.func 89) [.tmp 5,iq 1,iq 24],none,[1,0]⟩,oq 7 (.faddr 1 1 false (.tmp 1)),⟨some 8,.load none (.tmp 7),none,[3]⟩,⟨some 9,.call (.func 89) [.tmp 8,iq 1,iq 24],none,[4,3,2,1,0]⟩,oq 10 (.faddr 2 1 false (.tmp 1)),⟨some 11,.load none (.tmp 10),none,[6]⟩,⟨some 12,.call (.func 89) [.tmp 11,iq 0,iq 1000],none,[7,6,5,4,3,2,1,0]⟩,oq 13 (.faddr 3 1 false (.tmp 1)),⟨some 14,.load none (.tmp 13),none,[9]⟩,⟨some 15,.call (.func 89) [.tmp 14,iq 0,iq 100000],none,[10,9,8,7,6,5,4,3,2,1,0]⟩,⟨some 16,.lit true 1 4 (.int .i64 0) [(0,(.tmp 6)),(1,(.tmp 9)),(2,(.tmp 12)),(3,(.tmp 15))],none,[2,1,0,5,4,3,8,7,6,11,10,9]⟩,⟨some 17,.call (.func 88) [.tmp 16],none,[12,2,1,0,5,4,3,8,7,6,11,10,9]⟩,⟨some 3,.mov (.tmp 17),none,[13,12,2,1,0,5,4,3,8,7,6,11,10,9]⟩]) (sq [mq 18 3,oq 19 (.bin .neq (.tmp 18) (iq 0))] (.cond (.tmp 19) (sq [mq 20 3,mq 2 20] .ret) .skip))) (sq [oq 21 (.faddr 4 1 false (.tmp 1)),oq 22 (.load none (.tmp 21)),oq 23 (.faddr 0 1 false (.tmp 1)),oq 24 (.load none (.tmp 23)),oq 25 (.call (.func 89) [.tmp 22,iq 0,.tmp 24]),mq 2 25] .ret))⟩
theorem dh41:cProg Go.Proofs.Tryz.prog ⟨[],[],[16]⟩ 41=some dc41:=by kernel_rfl
def dc42 : DFunc := ⟨10,1,[.tmp 2],sq [oq 2 (.mov (iq 0))] (sq [mq 3 0,oq 4 (.len (.tmp 3)),oq 5 (.call (.func 87) [.tmp 4,iq 24]),mq 6 0,oq 7 (.call (.func 90) [.tmp 6,iq (-100000),iq 100000]),oq 8 (.lit true 1 2 (.int .i64 0) [(0,(.tmp 5)),(1,(.tmp 7))]),oq 9 (.call (.func 88) [.tmp 8]),mq 2 9] .ret)⟩
theorem dh42:cProg Go.Proofs.Tryz.prog ⟨[],[],[8]⟩ 42=some dc42:=by kernel_rfl
def db50_0 : DC := (.seq (sq [mq 4 3,mq 5 0,oq 6 (.len (.tmp 5)),oq 7 (.bin .lss (.tmp 4) (.tmp 6))] (.cond (.tmp 7) .skip (.exit 0))) (.seq (.block 1 none (sq [mq 10 0,mq 11 3,oq 12 (.iaddr 1 (.tmp 10) (.tmp 11)),oq 13 (.load none (.tmp 12)),oq 14 (.len (.tmp 13)),oq 15 (.bin .gtr (.tmp 14) (iq 10)),mq 16 15,gq 17 (.mov (.tmp 0)) 16 true,gq 18 (.mov (.tmp 3)) 16 true,gq 19 (.iaddr 1 (.tmp 17) (.tmp 18)) 16 true,gq 20 (.load none (.tmp 19)) 16 true,gq 21 (.len (.tmp 20)) 16 true,gq 22 (.bin .neq (.tmp 21) (iq 26)) 16 true,oq 23 (.pick (.tmp 16) (.tmp 22) (bq false))] (.cond (.tmp 23) (sq [oq 2 (.mov (bq false))] .ret) .skip))) (pq [mq 8 3,oq 9 (.bin .add (.tmp 8) (iq 1)),mq 3 9])))
def dk50_0 : Keep := ⟨[],[0,3],[]⟩
def dc50 : DFunc := ⟨32,1,[.tmp 2],sq [oq 2 (.mov (bq false))] (.seq (sq [oq 3 (.mov (iq 0))] (.block 0 (some ⟨[],[0],[]⟩) (.loop dk50_0 db50_0))) (sq [mq 24 0,oq 25 (.len (.tmp 24)),oq 26 (.bin .leq (.tmp 25) (iq 8)),mq 27 26,gq 28 (.mov (.tmp 0)) 27 false,gq 29 (.len (.tmp 28)) 27 false,gq 30 (.bin .eql (.tmp 29) (iq 26)) 27 false,oq 31 (.pick (.tmp 27) (bq true) (.tmp 30)),mq 2 31] .ret))⟩
theorem dh50:cProg Go.Proofs.Tryz.prog ⟨[(0,⟨[],[0,3],[]⟩)],[(0,⟨[],[0],[]⟩)],[]⟩ 50=some dc50:=by kernel_rfl
def db54_0 : DC := (.seq (sq [mq 5 4,mq 6 0,oq 7 (.len (.tmp 6)),oq 8 (.bin .lss (.tmp 5) (.tmp 7))] (.cond (.tmp 8) .skip (.exit 0))) (.seq (.block 1 none (pq [mq 11 3,oq 12 (.lit true 1 0 (.int .i64 0) []),mq 13 0,mq 14 4,oq 15 (.iaddr 1 (.tmp 13) (.tmp 14)),oq 16 (.load none (.tmp 15)),oq 17 (.appendN 3 1 (.tmp 12) (.tmp 16)),oq 18 (.litV 1 1 (.full []) [(0,(.tmp 17))]),oq 19 (.append false 1 (.tmp 11) (.tmp 18)),mq 3 19])) (pq [mq 9 4,oq 10 (.bin .add (.tmp 9) (iq 1)),mq 4 10])))
def dk54_0 : Keep := ⟨[(3,1010001)],[0,3,4],[3]⟩
def dc54 : DFunc := ⟨21,1,[.tmp 2],sq [oq 2 (.mov (.const (.slice none 0 0)))] (sq [oq 3 (.mov (.const (.slice none 0 0)))] (.seq (sq [oq 4 (.mov (iq 0))] (.block 0 (some ⟨[],[3],[3]⟩) (.loop dk54_0 db54_0))) (sq [mq 20 3,mq 2 20] .ret)))⟩
theorem dh54:cProg Go.Proofs.Tryz.prog ⟨[(0,⟨[(3,1010001)],[0,3,4],[3]⟩)],[(0,⟨[],[3],[3]⟩)],[12,17,18,2000018,1000017000003]⟩ 54=some dc54:=by kernel_rfl
def db55_0 : DC := (.seq (sq [mq 22 10,oq 23 (.faddr 0 1 false (.tmp 2)),oq 24 (.load none (.tmp 23)),oq 25 (.bin .leq (.tmp 22) (.tmp 24))] (.cond (.tmp 25) .skip (.exit 2))) (.seq (.block 3 none (.seq (.ops true [oq 28 (.load (some 5) (.tmp 2)),mq 29 8,mq 30 10,⟨some 31,.call (.func 110) [.tmp 28,.tmp 29,.tmp 30],none,[0,1,2]⟩,⟨some 32,.mov (.tmp 31),none,[3,0,1,2]⟩,⟨some 33,.load (some 5) (.tmp 2),some (32,true),[4,3,0,1,2]⟩,⟨some 34,.mov (.tmp 1),some (32,true),[4,3,0,1,2]⟩,⟨some 35,.mov (.tmp 9),some (32,true),[4,3,0,1,2]⟩,⟨some 36,.iaddr 1 (.tmp 34) (.tmp 35),some (32,true),[6,4,3,0,1,2,7]⟩,⟨some 37,.load none (.tmp 36),some (32,true),[8,6,4,3,0,1,2,7]⟩,⟨some 38,.mov (.tmp 8),some (32,true),[4,3,0,1,2]⟩,⟨some 39,.mov (.tmp 10),some (32,true),[4,3,0,1,2]⟩,⟨some 40,.call (.func 111) [.tmp 33,.tmp 37,.tmp 38,.tmp 39],some (32,true),[5,4,3,0,1,2,9,8,6,7,10,11]⟩,⟨some 41,.mov (.tmp 6),some (32,true),[4,3,0,1,2]⟩,⟨some 42,.mov (.tmp 9),some (32,true),[4,3,0,1,2]⟩,⟨some 43,.bin .add (.tmp 42) (iq 1),some (32,true),[14,4,3,0,1,2]⟩,⟨some 44,.iaddr 1 (.tmp 41) (.tmp 43),some (32,true),[13,4,3,0,1,2,15,14]⟩,⟨some 45,.load none (.tmp 44),some (32,true),[16,13,4,3,0,1,2,15,14]⟩,⟨some 46,.mov (.tmp 10),some (32,true),[4,3,0,1,2]⟩,⟨some 47,.iaddr 1 (.tmp 45) (.tmp 46),some (32,true),[17,16,13,4,3,0,1,2,15,14,18]⟩,⟨some 48,.load none (.tmp 47),some (32,true),[19,17,16,13,4,3,0,1,2,15,14,18]⟩,⟨some 49,.bin .add (.tmp 40) (.tmp 48),some (32,true),[12,5,4,3,0,1,2,9,8,6,7,10,11,20,19,17,16,13,15,14,18]⟩,⟨some 50,.mov (.tmp 6),some (32,true),[4,3,0,1,2]⟩,⟨some 51,.mov (.tmp 9),some (32,true),[4,3,0,1,2]⟩,⟨some 52,.iaddr 1 (.tmp 50) (.tmp 51),some (32,true),[22,4,3,0,1,2,23]⟩,⟨some 53,.load none (.tmp 52),some (32,true),[24,22,4,3,0,1,2,23]⟩,⟨some 54,.mov (.tmp 8),some (32,true),[4,3,0,1,2]⟩,⟨some 55,.iaddr 1 (.tmp 53) (.tmp 54),some (32,true),[25,24,22,4,3,0,1,2,23,26]⟩,⟨some 56,.load none (.tmp 55),some (32,true),[27,25,24,22,4,3,0,1,2,23,26]⟩,⟨some 57,.bin .eql (.tmp 49) (.tmp 56),some (32,true),[21,12,5,4,3,0,1,2,9,8,6,7,10,11,20,19,17,16,13,15,14,18,28,27,25,24,22,23,26]⟩,⟨some 58,.pick (.tmp 32) (.tmp 57) (bq false),none,[4,3,0,1,2,29,21,12,5,9,8,6,7,10,11,20,19,17,16,13,15,14,18,28,27,25,24,22,23,26]⟩]) (.cond (.tmp 58) (sq [mq 59 10,mq 8 59] (sq [mq 60 7,mq 61 10,oq 62 (.lit true 1 1 (.int .i64 0) [(0,(.tmp 61))]),oq 63 (.append false 1 (.tmp 60) (.tmp 62)),mq 7 63] (.exit 2))) .skip))) (pq [mq 26 10,oq 27 (.bin .add (.tmp 26) (iq 1)),mq 10 27])))
def dk55_0 : Keep := ⟨[(7,1)],[1,2,6,7,8,9,10],[2,7]⟩
def db55_1 : DC := (.seq (sq [mq 16 9,mq 17 1,oq 18 (.len (.tmp 17)),oq 19 (.bin .lss (.tmp 16) (.tmp 18))] (.cond (.tmp 19) .skip (.exit 0))) (.seq (.block 1 (some ⟨[],[1,2,6,7,8,9],[2,7]⟩) (sq [oq 10 (.mov (iq 0))] (.block 2 (some ⟨[],[1,2,6,7,8,9],[2,7]⟩) (.loop dk55_0 db55_0)))) (pq [mq 20 9,oq 21 (.bin .add (.tmp 20) (iq 1)),mq 9 21])))
def dk55_1 : Keep := ⟨[(7,1)],[1,2,6,7,8,9],[2,7]⟩
def dc55 : DFunc := ⟨72,2,[.tmp 4,.tmp 5],sq [oq 2 (.box 5 (.tmp 0)),oq 4 (.mov (.const (.slice none 0 0))),oq 5 (.mov (iq 0))] (sq [oq 11 (.load (some 5) (.tmp 2)),mq 12 1,oq 13 (.call (.func 56) [.tmp 11,.tmp 12]),mq 6 13] (sq [oq 7 (.mov (.const (.slice none 0 0)))] (sq [oq 14 (.faddr 4 1 false (.tmp 2)),oq 15 (.load none (.tmp 14)),mq 8 15] (.seq (sq [oq 9 (.mov (iq 0))] (.block 0 (some ⟨[],[2,6,7],[2,7]⟩) (.loop dk55_1 db55_1))) (.seq (.ops true [mq 64 7,mq 65 6,⟨some 66,.iaddr 1 (.tmp 65) (iq 0),none,[1]⟩,⟨some 67,.load none (.tmp 66),none,[2,1]⟩,oq 68 (.faddr 4 1 false (.tmp 2)),⟨some 69,.load none (.tmp 68),none,[4]⟩,⟨some 70,.iaddr 1 (.tmp 67) (.tmp 69),none,[3,2,1,5,4]⟩,⟨some 71,.load none (.tmp 70),none,[6,3,2,1,5,4]⟩,⟨some 4,.mov (.tmp 64),none,[0]⟩,⟨some 5,.mov (.tmp 71),none,[7,6,3,2,1,5,4,8,0]⟩]) .ret)))))⟩
theorem dh55:cProg Go.Proofs.Tryz.prog ⟨[(0,⟨[(7,1)],[1,2,6,7,8,9],[2,7]⟩),(2,⟨[(7,1)],[1,2,6,7,8,9,10],[2,7]⟩)],[(2,⟨[],[1,2,6,7,8,9],[2,7]⟩),(1,⟨[],[1,2,6,7,8,9],[2,7]⟩),(0,⟨[],[2,6,7],[2,7]⟩)],[62]⟩ 55=some dc55:=by kernel_rfl
def db56_0 : DC := (.seq (sq [mq 37 11,oq 38 (.faddr 0 1 false (.tmp 2)),oq 39 (.load none (.tmp 38)),oq 40 (.bin .leq (.tmp 37) (.tmp 39))] (.cond (.tmp 40) .skip (.exit 4))) (.seq (.block 5 none (sq [oq 43 (.load (some 5) (.tmp 2)),mq 44 9,mq 45 11,oq 46 (.call (.func 110) [.tmp 43,.tmp 44,.tmp 45])] (.cond (.tmp 46) (.ops true [mq 47 10,oq 48 (.load (some 5) (.tmp 2)),mq 49 1,mq 50 7,⟨some 51,.iaddr 1 (.tmp 49) (.tmp 50),none,[2,3]⟩,⟨some 52,.load none (.tmp 51),none,[4,2,3]⟩,mq 53 9,mq 54 11,⟨some 55,.call (.func 111) [.tmp 48,.tmp 52,.tmp 53,.tmp 54],none,[1,5,4,2,3,6,7]⟩,mq 56 6,mq 57 11,⟨some 58,.iaddr 1 (.tmp 56) (.tmp 57),none,[9,10]⟩,⟨some 59,.load none (.tmp 58),none,[11,9,10]⟩,⟨some 60,.bin .add (.tmp 55) (.tmp 59),none,[8,1,5,4,2,3,6,7,12,11,9,10]⟩,⟨some 61,.minmax true (.tmp 47) [.tmp 60],none,[0,13,8,1,5,4,2,3,6,7,12,11,9,10]⟩,⟨some 10,.mov (.tmp 61),none,[14,0,13,8,1,5,4,2,3,6,7,12,11,9,10]⟩]) .skip))) (pq [mq 41 11,oq 42 (.bin .add (.tmp 41) (iq 1)),mq 11 42])))
def dk56_0 : Keep := ⟨[],[1,2,5,6,7,8,9,10,11],[2,8]⟩
def db56_1 : DC := (.seq (sq [mq 27 9,oq 28 (.faddr 0 1 false (.tmp 2)),oq 29 (.load none (.tmp 28)),oq 30 (.bin .leq (.tmp 27) (.tmp 29))] (.cond (.tmp 30) .skip (.exit 2))) (.seq (.block 3 (some ⟨[],[1,2,5,6,7,8,9],[2,8]⟩) (sq [mq 33 6,mq 34 9,oq 35 (.iaddr 1 (.tmp 33) (.tmp 34)),oq 36 (.load none (.tmp 35)),mq 10 36] (.seq (sq [oq 11 (.mov (iq 0))] (.block 4 (some ⟨[],[1,2,5,6,7,8,9,10],[2,8]⟩) (.loop dk56_0 db56_0))) (pq [mq 62 8,mq 63 10,oq 64 (.lit true 1 1 (.int .i64 0) [(0,(.tmp 63))]),oq 65 (.append false 1 (.tmp 62) (.tmp 64)),mq 8 65])))) (pq [mq 31 9,oq 32 (.bin .add (.tmp 31) (iq 1)),mq 9 32])))
def dk56_1 : Keep := ⟨[(8,1)],[1,2,5,6,7,8,9],[2,8]⟩
def db56_2 : DC := (.seq (sq [mq 23 7,oq 24 (.bin .geq (.tmp 23) (iq 0))] (.cond (.tmp 24) .skip (.exit 0))) (.seq (.block 1 (some ⟨[],[1,2,5,6,7],[2]⟩) (sq [oq 8 (.mov (.const (.slice none 0 0)))] (.seq (sq [oq 9 (.mov (iq 0))] (.block 2 (some ⟨[],[1,2,5,7,8],[2,8]⟩) (.loop dk56_1 db56_1))) (sq [mq 66 8,oq 67 (.lit false 1 1 (.full []) [(0,(.tmp 66))]),mq 68 5,oq 69 (.append false 1 (.tmp 67) (.tmp 68)),mq 5 69] (pq [mq 70 8,mq 6 70]))))) (pq [mq 25 7,oq 26 (.bin .sub (.tmp 25) (iq 1)),mq 7 26])))
def dk56_2 : Keep := ⟨[],[1,2,5,6,7],[2]⟩
def dc56 : DFunc := ⟨72,2,[.tmp 4],sq [oq 2 (.box 5 (.tmp 0)),oq 4 (.mov (.const (.slice none 0 0)))] (sq [oq 5 (.mov (.const (.slice none 0 0)))] (sq [oq 12 (.faddr 0 1 false (.tmp 2)),oq 13 (.load none (.tmp 12)),oq 14 (.bin .add (.tmp 13) (iq 1)),oq 15 (.mkslice 1 (.int .i64 0) (.tmp 14) (.tmp 14)),mq 6 15] (sq [mq 16 5,mq 17 6,oq 18 (.lit true 1 1 (.full []) [(0,(.tmp 17))]),oq 19 (.append false 1 (.tmp 16) (.tmp 18)),mq 5 19] (.seq (sq [mq 20 1,oq 21 (.len (.tmp 20)),oq 22 (.bin .sub (.tmp 21) (iq 1)),mq 7 22] (.block 0 (some ⟨[],[5],[2]⟩) (.loop dk56_2 db56_2))) (sq [mq 71 5,mq 4 71] .ret)))))⟩
theorem dh56:cProg Go.Proofs.Tryz.prog ⟨[(0,⟨[],[1,2,5,6,7],[2]⟩),(2,⟨[(8,1)],[1,2,5,6,7,8,9],[2,8]⟩),(4,⟨[],[1,2,5,6,7,8,9,10,11],[2,8]⟩)],[(4,⟨[],[1,2,5,6,7,8,9,10],[2,8]⟩),(3,⟨[],[1,2,5,6,7,8,9],[2,8]⟩),(2,⟨[],[1,2,5,7,8],[2,8]⟩),(1,⟨[],[1,2,5,6,7],[2]⟩),(0,⟨[],[5],[2]⟩)],[18,64]⟩ 56=some dc56:=by kernel_rfl
def db57_0 : DC := (.seq (sq [mq 16 7,mq 17 2,oq 18 (.len (.tmp 17)),oq 19 (.bin .lss (.tmp 16) (.tmp 18))] (.cond (.tmp 19) .skip (.exit 0))) (.seq (.block 1 none (.seq (.ops true [mq 22 2,mq 23 7,⟨some 24,.iaddr 1 (.tmp 22) (.tmp 23),none,[0,1]⟩,⟨some 25,.load none (.tmp 24),none,[2,0,1]⟩,⟨some 26,.len (.tmp 25),none,[3,2,0,1]⟩,oq 27 (.faddr 0 1 false (.tmp 3)),⟨some 28,.load none (.tmp 27),none,[5]⟩,⟨some 29,.bin .add (.tmp 28) (iq 1),none,[6,5]⟩,⟨some 30,.bin .neq (.tmp 26) (.tmp 29),none,[4,3,2,0,1,7,6,5]⟩]) (.cond (.tmp 30) (sq [oq 6 (.mov (iq 2))] .ret) .skip))) (pq [mq 20 7,oq 21 (.bin .add (.tmp 20) (iq 1)),mq 7 21])))
def dk57_0 : Keep := ⟨[],[2,3,7],[3]⟩
def db57_1 : DC := (.seq (sq [mq 31 8,mq 32 2,oq 33 (.len (.tmp 32)),oq 34 (.bin .lss (.tmp 31) (.tmp 33))] (.cond (.tmp 34) .skip (.exit 2))) (.seq (.block 3 none (sq [mq 37 2,mq 38 8,oq 39 (.iaddr 1 (.tmp 37) (.tmp 38)),oq 40 (.load none (.tmp 39)),oq 41 (.call (.func 90) [.tmp 40,iq (-10000000000),iq 10000000000]),mq 9 41] (sq [mq 42 9,oq 43 (.bin .neq (.tmp 42) (iq 0))] (.cond (.tmp 43) (sq [mq 44 9,mq 6 44] .ret) .skip)))) (pq [mq 35 8,oq 36 (.bin .add (.tmp 35) (iq 1)),mq 8 36])))
def dk57_1 : Keep := ⟨[],[2,8],[3]⟩
def dc57 : DFunc := ⟨45,3,[.tmp 6],sq [oq 3 (.box 5 (.tmp 0)),oq 6 (.mov (iq 0))] (.seq (sq [mq 10 2,oq 11 (.len (.tmp 10)),mq 12 1,oq 13 (.len (.tmp 12)),oq 14 (.bin .add (.tmp 13) (iq 1)),oq 15 (.bin .neq (.tmp 11) (.tmp 14))] (.cond (.tmp 15) (sq [oq 6 (.mov (iq 2))] .ret) .skip)) (.seq (sq [oq 7 (.mov (iq 0))] (.block 0 (some ⟨[],[2],[3]⟩) (.loop dk57_0 db57_0))) (.seq (sq [oq 8 (.mov (iq 0))] (.block 2 (some ⟨[],[],[3]⟩) (.loop dk57_1 db57_1))) (sq [oq 6 (.mov (iq 0))] .ret))))⟩
theorem dh57:cProg Go.Proofs.Tryz.prog ⟨[(0,⟨[],[2,3,7],[3]⟩),(2,⟨[],[2,8],[3]⟩)],[(0,⟨[],[2],[3]⟩),(2,⟨[],[],[3]⟩)],[]⟩ 57=some dc57:=by kernel_rfl
def dc58 : DFunc := ⟨7,2,[.tmp 4],sq [oq 4 (.mov (iq 0))] (.seq (sq [mq 5 0] (.cond (.tmp 5) (sq [mq 6 1,mq 4 6] .ret) .skip)) (sq [oq 4 (.mov (iq 0))] .ret))⟩
theorem dh58:cProg Go.Proofs.Tryz.prog ⟨[],[],[]⟩ 58=some dc58:=by kernel_rfl
def db59_0 : DC := (.seq (sq [mq 13 9,oq 14 (.faddr 0 1 false (.tmp 4)),oq 15 (.load none (.tmp 14)),oq 16 (.bin .leq (.tmp 13) (.tmp 15))] (.cond (.tmp 16) .skip (.exit 0))) (.seq (.block 1 none (sq [mq 19 2,mq 20 1,oq 21 (.len (.tmp 20)),oq 22 (.iaddr 1 (.tmp 19) (.tmp 21)),oq 23 (.load none (.tmp 22)),mq 24 9,oq 25 (.iaddr 1 (.tmp 23) (.tmp 24)),oq 26 (.load none (.tmp 25)),oq 27 (.bin .neq (.tmp 26) (iq 0))] (.cond (.tmp 27) (sq [oq 8 (.mov (bq false))] .ret) .skip))) (pq [mq 17 9,oq 18 (.bin .add (.tmp 17) (iq 1)),mq 9 18])))
def dk59_0 : Keep := ⟨[],[1,2,3,4,9],[4]⟩
def db59_1 : DC := (.seq (sq [mq 40 12,oq 41 (.faddr 0 1 false (.tmp 4)),oq 42 (.load none (.tmp 41)),oq 43 (.bin .leq (.tmp 40) (.tmp 42))] (.cond (.tmp 43) .skip (.exit 6))) (.seq (.block 7 none (.seq (.ops true [oq 46 (.load (some 5) (.tmp 4)),mq 47 11,mq 48 12,⟨some 49,.call (.func 110) [.tmp 46,.tmp 47,.tmp 48],none,[0,1,2]⟩,⟨some 50,.mov (.tmp 49),none,[3,0,1,2]⟩,⟨some 51,.mov (.tmp 2),some (50,true),[4,3,0,1,2]⟩,⟨some 52,.mov (.tmp 10),some (50,true),[4,3,0,1,2]⟩,⟨some 53,.iaddr 1 (.tmp 51) (.tmp 52),some (50,true),[5,4,3,0,1,2,6]⟩,⟨some 54,.load none (.tmp 53),some (50,true),[7,5,4,3,0,1,2,6]⟩,⟨some 55,.mov (.tmp 11),some (50,true),[4,3,0,1,2]⟩,⟨some 56,.iaddr 1 (.tmp 54) (.tmp 55),some (50,true),[8,7,5,4,3,0,1,2,6,9]⟩,⟨some 57,.load none (.tmp 56),some (50,true),[10,8,7,5,4,3,0,1,2,6,9]⟩,⟨some 58,.load (some 5) (.tmp 4),some (50,true),[4,3,0,1,2]⟩,⟨some 59,.mov (.tmp 1),some (50,true),[4,3,0,1,2]⟩,⟨some 60,.mov (.tmp 10),some (50,true),[4,3,0,1,2]⟩,⟨some 61,.iaddr 1 (.tmp 59) (.tmp 60),some (50,true),[13,4,3,0,1,2,14]⟩,⟨some 62,.load none (.tmp 61),some (50,true),[15,13,4,3,0,1,2,14]⟩,⟨some 63,.mov (.tmp 11),some (50,true),[4,3,0,1,2]⟩,⟨some 64,.mov (.tmp 12),some (50,true),[4,3,0,1,2]⟩,⟨some 65,.call (.func 111) [.tmp 58,.tmp 62,.tmp 63,.tmp 64],some (50,true),[12,4,3,0,1,2,16,15,13,14,17,18]⟩,⟨some 66,.mov (.tmp 2),some (50,true),[4,3,0,1,2]⟩,⟨some 67,.mov (.tmp 10),some (50,true),[4,3,0,1,2]⟩,⟨some 68,.bin .add (.tmp 67) (iq 1),some (50,true),[21,4,3,0,1,2]⟩,⟨some 69,.iaddr 1 (.tmp 66) (.tmp 68),some (50,true),[20,4,3,0,1,2,22,21]⟩,⟨some 70,.load none (.tmp 69),some (50,true),[23,20,4,3,0,1,2,22,21]⟩,⟨some 71,.mov (.tmp 12),some (50,true),[4,3,0,1,2]⟩,⟨some 72,.iaddr 1 (.tmp 70) (.tmp 71),some (50,true),[24,23,20,4,3,0,1,2,22,21,25]⟩,⟨some 73,.load none (.tmp 72),some (50,true),[26,24,23,20,4,3,0,1,2,22,21,25]⟩,⟨some 74,.bin .add (.tmp 65) (.tmp 73),some (50,true),[19,12,4,3,0,1,2,16,15,13,14,17,18,27,26,24,23,20,22,21,25]⟩,⟨some 75,.bin .lss (.tmp 57) (.tmp 74),some (50,true),[11,10,8,7,5,4,3,0,1,2,6,9,28,19,12,16,15,13,14,17,18,27,26,24,23,20,22,21,25]⟩,⟨some 76,.pick (.tmp 50) (.tmp 75) (bq false),none,[4,3,0,1,2,29,11,10,8,7,5,6,9,28,19,12,16,15,13,14,17,18,27,26,24,23,20,22,21,25]⟩]) (.cond (.tmp 76) (sq [oq 8 (.mov (bq false))] .ret) .skip))) (pq [mq 44 12,oq 45 (.bin .add (.tmp 44) (iq 1)),mq 12 45])))
def dk59_1 : Keep := ⟨[],[1,2,3,4,10,11,12],[4]⟩
def db59_2 : DC := (.seq (sq [mq 34 11,oq 35 (.faddr 0 1 false (.tmp 4)),oq 36 (.load none (.tmp 35)),oq 37 (.bin .leq (.tmp 34) (.tmp 36))] (.cond (.tmp 37) .skip (.exit 4))) (.seq (.block 5 (some ⟨[],[1,2,3,4,10,11],[4]⟩) (sq [oq 12 (.mov (iq 0))] (.block 6 (some ⟨[],[1,2,3,4,10,11],[4]⟩) (.loop dk59_1 db59_1)))) (pq [mq 38 11,oq 39 (.bin .add (.tmp 38) (iq 1)),mq 11 39])))
def dk59_2 : Keep := ⟨[],[1,2,3,4,10,11],[4]⟩
def db59_3 : DC := (.seq (sq [mq 28 10,mq 29 1,oq 30 (.len (.tmp 29)),oq 31 (.bin .lss (.tmp 28) (.tmp 30))] (.cond (.tmp 31) .skip (.exit 2))) (.seq (.block 3 (some ⟨[],[1,2,3,4,10],[4]⟩) (sq [oq 11 (.mov (iq 0))] (.block 4 (some ⟨[],[1,2,3,4,10],[4]⟩) (.loop dk59_2 db59_2)))) (pq [mq 32 10,oq 33 (.bin .add (.tmp 32) (iq 1)),mq 10 33])))
def dk59_3 : Keep := ⟨[],[1,2,3,4,10],[4]⟩
def dc59 : DFunc := ⟨86,4,[.tmp 8],sq [oq 4 (.box 5 (.tmp 0)),oq 8 (.mov (bq false))] (.seq (sq [oq 9 (.mov (iq 0))] (.block 0 (some ⟨[],[1,2,3,4],[4]⟩) (.loop dk59_0 db59_0))) (.seq (sq [oq 10 (.mov (iq 0))] (.block 2 (some ⟨[],[2,3,4],[4]⟩) (.loop dk59_3 db59_3))) (.seq (.ops true [mq 77 2,⟨some 78,.iaddr 1 (.tmp 77) (iq 0),none,[0]⟩,⟨some 79,.load none (.tmp 78),none,[1,0]⟩,oq 80 (.faddr 4 1 false (.tmp 4)),⟨some 81,.load none (.tmp 80),none,[3]⟩,⟨some 82,.iaddr 1 (.tmp 79) (.tmp 81),none,[2,1,0,4,3]⟩,⟨some 83,.load none (.tmp 82),none,[5,2,1,0,4,3]⟩,mq 84 3,⟨some 85,.bin .eql (.tmp 83) (.tmp 84),none,[6,5,2,1,0,4,3,7]⟩,⟨some 8,.mov (.tmp 85),none,[8,6,5,2,1,0,4,3,7]⟩]) .ret)))⟩
theorem dh59:cProg Go.Proofs.Tryz.prog ⟨[(0,⟨[],[1,2,3,4,9],[4]⟩),(2,⟨[],[1,2,3,4,10],[4]⟩),(4,⟨[],[1,2,3,4,10,11],[4]⟩),(6,⟨[],[1,2,3,4,10,11,12],[4]⟩)],[(0,⟨[],[1,2,3,4],[4]⟩),(6,⟨[],[1,2,3,4,10,11],[4]⟩),(5,⟨[],[1,2,3,4,10,11],[4]⟩),(4,⟨[],[1,2,3,4,10],[4]⟩),(3,⟨[],[1,2,3,4,10],[4]⟩),(2,⟨[],[2,3,4],[4]⟩)],[]⟩ 59=some dc59:=by kernel_rfl
end Sh

namespace Sh
open Go
def dc87 : DFunc := ⟨14,2,[.tmp 4],sq [oq 4 (.mov (iq 0))] (sq [mq 5 0,oq 6 (.bin .eql (.tmp 5) (iq 0)),oq 7 (.call (.func 58) [.tmp 6,iq 12]),mq 8 0,mq 9 1,oq 10 (.bin .gtr (.tmp 8) (.tmp 9)),oq 11 (.call (.func 58) [.tmp 10,iq 5]),oq 12 (.lit true 1 2 (.int .i64 0) [(0,(.tmp 7)),(1,(.tmp 11))]),oq 13 (.call (.func 88) [.tmp 12]),mq 4 13] .ret)⟩
theorem dh87:cProg Go.Proofs.Tryz.prog ⟨[],[],[12]⟩ 87=some dc87:=by kernel_rfl
def db88_0 : DC := (.seq (sq [mq 4 3,mq 5 0,oq 6 (.len (.tmp 5)),oq 7 (.bin .lss (.tmp 4) (.tmp 6))] (.cond (.tmp 7) .skip (.exit 0))) (.seq (.block 1 none (sq [mq 10 0,mq 11 3,oq 12 (.iaddr 1 (.tmp 10) (.tmp 11)),oq 13 (.load none (.tmp 12)),oq 14 (.bin .neq (.tmp 13) (iq 0))] (.cond (.tmp 14) (sq [mq 15 0,mq 16 3,oq 17 (.iaddr 1 (.tmp 15) (.tmp 16)),oq 18 (.load none (.tmp 17)),mq 2 18] .ret) .skip))) (pq [mq 8 3,oq 9 (.bin .add (.tmp 8) (iq 1)),mq 3 9])))
def dk88_0 : Keep := ⟨[],[0,3],[]⟩
def dc88 : DFunc := ⟨19,1,[.tmp 2],sq [oq 2 (.mov (iq 0))] (.seq (sq [oq 3 (.mov (iq 0))] (.block 0 (some ⟨[],[],[]⟩) (.loop dk88_0 db88_0))) (sq [oq 2 (.mov (iq 0))] .ret))⟩
theorem dh88:cProg Go.Proofs.Tryz.prog ⟨[(0,⟨[],[0,3],[]⟩)],[(0,⟨[],[],[]⟩)],[]⟩ 88=some dc88:=by kernel_rfl
def dc89 : DFunc := ⟨16,3,[.tmp 6],sq [oq 6 (.mov (iq 0))] (sq [mq 7 0,mq 8 1,oq 9 (.bin .lss (.tmp 7) (.tmp 8)),mq 10 9,gq 11 (.mov (.tmp 0)) 10 false,gq 12 (.mov (.tmp 2)) 10 false,gq 13 (.bin .gtr (.tmp 11) (.tmp 12)) 10 false,oq 14 (.pick (.tmp 10) (bq true) (.tmp 13)),oq 15 (.call (.func 58) [.tmp 14,iq 3]),mq 6 15] .ret)⟩
theorem dh89:cProg Go.Proofs.Tryz.prog ⟨[],[],[]⟩ 89=some dc89:=by kernel_rfl
def db90_0 : DC := (.seq (sq [mq 9 7,mq 10 0,oq 11 (.len (.tmp 10)),oq 12 (.bin .lss (.tmp 9) (.tmp 11))] (.cond (.tmp 12) .skip (.exit 0))) (.seq (.block 1 none (sq [mq 15 0,mq 16 7,oq 17 (.iaddr 1 (.tmp 15) (.tmp 16)),oq 18 (.load none (.tmp 17)),mq 19 1,mq 20 2,oq 21 (.call (.func 89) [.tmp 18,.tmp 19,.tmp 20]),mq 8 21] (sq [mq 22 8,oq 23 (.bin .neq (.tmp 22) (iq 0))] (.cond (.tmp 23) (sq [mq 24 8,mq 6 24] .ret) .skip)))) (pq [mq 13 7,oq 14 (.bin .add (.tmp 13) (iq 1)),mq 7 14])))
def dk90_0 : Keep := ⟨[],[0,1,2,7],[]⟩
def dc90 : DFunc := ⟨25,3,[.tmp 6],sq [oq 6 (.mov (iq 0))] (.seq (sq [oq 7 (.mov (iq 0))] (.block 0 (some ⟨[],[],[]⟩) (.loop dk90_0 db90_0))) (sq [oq 6 (.mov (iq 0))] .ret))⟩
theorem dh90:cProg Go.Proofs.Tryz.prog ⟨[(0,⟨[],[0,1,2,7],[]⟩)],[(0,⟨[],[],[]⟩)],[]⟩ 90=some dc90:=by kernel_rfl
def dc110 : DFunc := ⟨17,3,[.tmp 6],sq [oq 3 (.box 5 (.tmp 0)),oq 6 (.mov (bq false))] (sq [mq 7 1,mq 8 2,oq 9 (.bin .sub (.tmp 7) (.tmp 8)),mq 10 2,mq 11 1,oq 12 (.bin .sub (.tmp 10) (.tmp 11)),oq 13 (.minmax true (.tmp 9) [.tmp 12]),oq 14 (.faddr 1 1 false (.tmp 3)),oq 15 (.load none (.tmp 14)),oq 16 (.bin .leq (.tmp 13) (.tmp 15)),mq 6 16] .ret)⟩
theorem dh110:cProg Go.Proofs.Tryz.prog ⟨[],[],[]⟩ 110=some dc110:=by kernel_rfl
def dc111 : DFunc := ⟨35,4,[.tmp 8],sq [oq 4 (.box 5 (.tmp 0)),oq 8 (.mov (iq 0))] (.seq (sq [mq 9 3,mq 10 2,oq 11 (.bin .geq (.tmp 9) (.tmp 10))] (.cond (.tmp 11) (sq [mq 12 1,mq 13 3,mq 14 2,oq 15 (.bin .sub (.tmp 13) (.tmp 14)),oq 16 (.bin .mul (.tmp 12) (.tmp 15)),oq 17 (.bin .sub (iq 0) (.tmp 16)),mq 8 17] .ret) .skip)) (sq [mq 18 1,mq 19 2,mq 20 3,oq 21 (.bin .sub (.tmp 19) (.tmp 20)),oq 22 (.faddr 2 1 false (.tmp 4)),oq 23 (.load none (.tmp 22)),oq 24 (.bin .sub (iq 1000) (.tmp 23)),oq 25 (.bin .mul (.tmp 21) (.tmp 24)),oq 26 (.bin .quo (.tmp 25) (iq 1000)),oq 27 (.bin .mul (.tmp 18) (.tmp 26)),oq 28 (.faddr 3 1 false (.tmp 4)),oq 29 (.load none (.tmp 28)),mq 30 2,mq 31 3,oq 32 (.bin .sub (.tmp 30) (.tmp 31)),oq 33 (.bin .mul (.tmp 29) (.tmp 32)),oq 34 (.bin .sub (.tmp 27) (.tmp 33)),mq 8 34] .ret))⟩
theorem dh111:cProg Go.Proofs.Tryz.prog ⟨[],[],[]⟩ 111=some dc111:=by kernel_rfl
end Sh

namespace Sh
open Go Go.Proofs
theorem q_When (b:Bool) (e:Int):PC 58 [.bool b,DV.int .i64 (e)] (DV.int .i64 (whenE b e)):=by
 refine pureCall_ofR dh58 rfl ?_
 conv=>whnf
 refine ⟨fun hb=>?_,fun hb=>?_⟩<;>try (exact absurd hb (by decide))
 all_goals conv=>whnf
 all_goals subst hb;rfl
theorem q_CheckRange (n l h:Int):PC 89 [DV.int .i64 (n),DV.int .i64 (l),DV.int .i64 (h)] (DV.int .i64 (withE n l h)):=by
 refine pureCall_ofR dh89 rfl ?_
 conv=>whnf
 refine ⟨fun hb=>?_,fun hb=>?_⟩<;>try (exact absurd hb (by decide))
 all_goals conv=>whnf
 ·refine .inl ?_
  conv=>whnf
  refine ⟨_,q_When ..,?_⟩
  conv=>whnf
  exact int_eq (by simp_all [withE,whenE];split<;>split<;>omega)
 ·refine .inl ?_
  conv=>whnf
  refine ⟨_,q_When ..,?_⟩
  conv=>whnf
  exact int_eq (by simp_all [withE,whenE])
theorem q_First (l:List Int) (hl:l.length < 4611686018427387904):PC 88 [iL l] (DV.int .i64 (firstE l)):=by
 refine pureCall_ofR dh88 rfl ?_
 conv=>whnf
 refine dwp_loopR (P:=Tryz.prog) (G:=GC) (k:=dk88_0) (b:=db88_0) (α:=Nat) (fun i=>[(0,iL l),(3,DV.int .i64 (i))]) (fun _=>[]) (fun i=>i≤l.length∧firstE l=firstE (l.drop i)) (fun i=>l.length - i) 0 ⟨rfl,rfl,rfl⟩ ⟨Nat.zero_le _,rfl⟩ ?_
 intro i ⟨h1,h2⟩
 conv=>whnf
 refine ⟨fun hb=>?_,fun hb=>?_⟩<;>try (exact absurd hb (by decide))
 ·have hi:i < l.length:=by simpa using hb
  have hd:=firstE_drop l i hi
  conv=>whnf
  rw [getD_enc _ _ (i) 0 hi]
  refine ⟨idxA hi rfl,?_⟩
  conv=>whnf
  refine ⟨fun hb=>?_,fun hb=>?_⟩<;>try (exact absurd hb (by decide))
  ·conv=>whnf
   rw [getD_enc _ _ (i) 0 hi]
   refine ⟨idxA hi rfl,?_⟩
   conv=>whnf
   exact int_eq (by simp_all)
  ·conv=>whnf
   rw [wrap_succ i (by omega)]
   exact ⟨i+1,rfl,rfl,rfl,⟨hi,by simp_all⟩,by omega⟩
 ·conv=>whnf
  have:i=l.length:=by simp at hb;omega
  subst this
  exact int_eq (by rw [h2];simp [firstE])
end Sh

namespace Sh
open Go Go.Proofs
theorem r_counted (n m:Int):PC 87 [DV.int .i64 (n),DV.int .i64 (m)] (DV.int .i64 (countE n m)):=by
 refine pureCall_ofR dh87 rfl ?_
 conv=>whnf
 repeat' (first
  |(refine ⟨fun hg=>?_,fun hg=>?_⟩<;>first|contradiction|(conv=>whnf))
  |(refine Or.inl ?_;conv=>whnf)
  |(refine ⟨_,q_When ..,?_⟩;conv=>whnf)
  |(refine ⟨_,q_First [_,_] (by simp),?_⟩;conv=>whnf)
  |(refine And.intro ?_ ?_;kernel_rfl;conv=>whnf))
 rfl
theorem r_numbers (l:List Int) (lo hi:Int) (hl:l.length < 1073741824):PC 90 [iL l,DV.int .i64 (lo),DV.int .i64 (hi)] (DV.int .i64 (firstE (l.map fun n=>withE n lo hi))):=by
 have e0:((l.map (DV.int .i64)).length:Int)=l.length:=by simp
 refine pureCall_ofR dh90 rfl ?_
 conv=>whnf
 refine dwp_loopU (P:=Tryz.prog) (G:=GC) (k:=dk90_0) (b:=db90_0) (α:=Nat) (fun i=>[(7,DV.int .i64 (i))]) (fun _=>[]) (fun i=>i≤l.length∧firstE (l.map fun n=>withE n lo hi)=firstE ((l.map fun n=>withE n lo hi).drop i)) (fun i=>l.length - i) 0 ⟨Nat.zero_le _,rfl⟩ ?_
 conv=>whnf
 refine ⟨rfl,rfl,?_⟩
 conv=>whnf
 refine ⟨rfl,?_⟩
 intro i ⟨h1,h2⟩
 conv=>whnf
 refine ⟨fun hb=>?_,fun hb=>?_⟩
 ·have hi':i < l.length:=by simpa using hb
  have hd:=firstE_drop (l.map fun n=>withE n lo hi) i (by simpa using hi')
  rw [show (l.map fun n=>withE n lo hi).getD i 0=withE (l.getD i 0) lo hi by simp [List.getD_eq_getElem?_getD,hi']] at hd
  clear hb
  conv=>whnf
  rw [getD_enc _ _ (i) 0 hi']
  refine ⟨idxA hi' rfl,?_⟩
  conv=>whnf
  repeat' (first
   |(refine ⟨fun hg=>?_,fun hg=>?_⟩<;>first|contradiction|(conv=>whnf))
   |(refine Or.inl ?_;conv=>whnf)
   |(refine ⟨_,q_CheckRange ..,?_⟩;conv=>whnf)
   |(refine And.intro ?_ ?_;kernel_rfl;conv=>whnf))
  ·have hg:withE (l.getD i 0) lo hi≠0:=of_decide_eq_true hg
   rw [if_pos hg] at hd
   exact int_eq (by rw [h2,hd])
  ·have hg:¬ withE (l.getD i 0) lo hi≠0:=of_decide_eq_false hg
   rw [if_neg hg] at hd
   rw [wrap_succ i (by omega)]
   exact ⟨i+1,rfl,rfl,rfl,⟨hi',by rw [h2,hd]⟩,by omega⟩
 ·have hi':i=l.length:=by have:=of_decide_eq_false hb;rw [e0] at this;omega
  clear hb
  conv=>whnf
  exact int_eq (by rw [h2,hi',List.drop_of_length_le (by simp)];rfl)
theorem r_CheckPrices (l:List Int) (hl:l.length < 1073741824):PC 42 [iL l] (DV.int .i64 (chkPs l)):=by
 have e0:((l.map (DV.int .i64)).length:Int)=l.length:=by simp
 have k1:=r_numbers l (-100000) 100000 hl
 refine pureCall_ofR dh42 rfl ?_
 conv=>whnf
 repeat' (first
  |(refine ⟨fun hg=>?_,fun hg=>?_⟩<;>first|contradiction|(conv=>whnf))
  |(refine Or.inl ?_;conv=>whnf)
  |(refine ⟨_,k1,?_⟩;conv=>whnf)
  |(refine ⟨_,r_counted ..,?_⟩;conv=>whnf)
  |(refine ⟨_,q_First [_,_] (by simp),?_⟩;conv=>whnf)
  |(refine And.intro ?_ ?_;kernel_rfl;conv=>whnf))
 refine int_eq ?_
 rw [e0];rfl
end Sh

namespace Sh
open Go Go.Proofs
theorem l_ints (l:List Int) (hl:l.length < 1073741824):PC 18 [iL l] (iL l):=by
 refine pureCall_ofR dh18 rfl ?_
 conv=>whnf
 refine ⟨⟨by simp;omega,fun e he=>by obtain ⟨q,_,rfl⟩:=List.mem_map.1 he;rfl,fun e he=>by simp at he⟩,?_⟩
 conv=>whnf
 rfl
end Sh

namespace Sh
open Go Go.Proofs
theorem chkBa_two (b:Ba):chkBa b=if firstE [withE b.ca 1 24,withE b.ra 1 24,withE b.lo 0 1000,withE b.we 0 100000]≠0 then firstE [withE b.ca 1 24,withE b.ra 1 24,withE b.lo 0 1000,withE b.we 0 100000] else withE b.le 0 b.ca:=by
 unfold chkBa
 generalize withE b.ca 1 24=x1
 generalize withE b.ra 1 24=x2
 generalize withE b.lo 0 1000=x3
 generalize withE b.we 0 100000=x4
 generalize withE b.le 0 b.ca=x5
 simp only [firstE]
 grind
theorem r_CheckBattery (b:Ba):PC 41 [encB b] (DV.int .i64 (chkBa b)):=by
 have h2:=chkBa_two b
 refine pureCall_ofR dh41 rfl ?_
 conv=>whnf
 repeat' (first
  |(refine ⟨fun hg=>?_,fun hg=>?_⟩<;>first|contradiction|(conv=>whnf))
  |(refine Or.inl ?_;conv=>whnf)
  |(refine ⟨_,q_CheckRange ..,?_⟩;conv=>whnf)
  |(refine ⟨_,q_First [_,_,_,_] (by simp),?_⟩;conv=>whnf)
  |(refine And.intro ?_ ?_;kernel_rfl;conv=>whnf))
 ·have hg:_≠_:=of_decide_eq_true hg
  rw [if_pos hg] at h2
  rw [h2];rfl
 ·have hg:=of_decide_eq_false hg
  rw [if_neg hg] at h2
  rw [h2];rfl
theorem r_mayG (b:Ba) (f t:Int):PC 110 [encB b,DV.int .i64 (f),DV.int .i64 (t)] (.bool (decide (minmaxI true (IntKind.i64.wrap (f - t)) (IntKind.i64.wrap (t - f))≤b.ra))):=by
 refine pureCall_ofR dh110 rfl ?_
 conv=>whnf
 rfl
theorem may_far {b:Ba} {f t:Int} (hf:OkL24 f) (ht:OkL24 t):decide (minmaxI true (IntKind.i64.wrap (f - t)) (IntKind.i64.wrap (t - f))≤b.ra)=!farB b f t:=by
 obtain ⟨f0,f1⟩:=hf
 obtain ⟨t0,t1⟩:=ht
 have e1:IntKind.i64.wrap (t - f)=t - f:=wrap_in (by omega) (by omega)
 have e2:IntKind.i64.wrap (f - t)=f - t:=wrap_in (by omega) (by omega)
 rw [e1,e2]
 have hm:minmaxI true (f - t) (t - f)=if t - f > f - t then t - f else f - t:=rfl
 rw [hm]
 unfold farB
 rw [Bool.not_or,← decide_not,← decide_not,← Bool.decide_and]
 refine decide_eq_decide.2 ?_
 split<;>omega
theorem r_may (b:Ba) (f t:Int) (hf:OkL24 f) (ht:OkL24 t):PC 110 [encB b,DV.int .i64 (f),DV.int .i64 (t)] (.bool (!farB b f t)):=by
 have:=r_mayG b f t
 rwa [may_far hf ht] at this
end Sh

namespace Sh
open Go Go.Proofs
theorem r_worth (b:Ba) (hb:OkB b) (p f t:Int) (hp:OkP p) (hf:OkL24 f) (ht:OkL24 t):PC 111 [encB b,DV.int .i64 (p),DV.int .i64 (f),DV.int .i64 (t)] (DV.int .i64 (wthI b p f t)):=by
 obtain ⟨f0,f1⟩:=hf
 obtain ⟨t0,t1⟩:=ht
 have e1:IntKind.i64.wrap (t - f)=t - f:=wrap_in (by omega) (by omega)
 have e2:IntKind.i64.wrap (f - t)=f - t:=wrap_in (by omega) (by omega)
 have hl0:=hb.l0
 have hl1:=hb.l1
 refine pureCall_ofR dh111 rfl ?_
 conv=>whnf
 refine ⟨fun hg=>?_,fun hg=>?_⟩
 ·have hg:f≤t:=of_decide_eq_true hg
  have hm:=pmul_bd hp (d:=t - f) (by omega) (by omega)
  conv=>whnf
  rw [e1,wrap_in (n:=p * (t - f)) (by omega) (by omega),wrap_in (by omega) (by omega)]
  refine int_eq ?_
  unfold wthI
  by_cases e:f < t
  ·rw [if_pos e];omega
  ·have e2:t=f:=by omega
   rw [if_neg e,if_neg (by omega),e2];simp
 ·have hg:¬ f≤t:=of_decide_eq_false hg
  have hl:=left_bd hb (d:=f - t) (by omega) (by omega)
  have hpm:=pmul_bd hp hl.2.2.1 hl.2.2.2.1
  have hwm:=wmul_bd hb (d:=f - t) (by omega) (by omega)
  conv=>whnf
  refine ⟨by decide,?_⟩
  conv=>whnf
  rw [e2,wrap_in (n:=1000 - b.lo) (by omega) (by omega),wrap_in (n:=(f - t) * (1000 - b.lo)) (by omega) (by omega),hl.2.2.2.2,wrap_in (n:=(f - t) * (1000 - b.lo) / 1000) (by omega) (by omega),wrap_in (n:=p * ((f - t) * (1000 - b.lo) / 1000)) (by omega) (by omega),wrap_in (n:=b.we * (f - t)) (by omega) (by omega),wrap_in (by omega) (by omega)]
  refine int_eq ?_
  unfold wthI
  rw [if_neg (by omega),if_pos (by omega)]
end Sh

namespace Sh
open Go Go.Proofs
def tabD (b:Ba) (ps:List Int) (i:Nat):List (List Int):=(tabT b ps).drop i
theorem tabD_succ (b:Ba) (ps:List Int) {i:Nat} (h:i < ps.length):tabD b ps i=rwA b (ps.drop i) :: tabD b ps (i+1):=by
 unfold tabD
 rw [drop_getD (tabT b ps) i [] (by rw [tabT_len];omega),tabT_get b ps (by omega)]
theorem tabD_last (b:Ba) (ps:List Int):tabD b ps ps.length=[List.replicate (lvN b) 0]:=by
 unfold tabD
 rw [drop_getD (tabT b ps) ps.length [] (by rw [tabT_len];omega),tabT_get b ps (Nat.le_refl _),List.drop_length,List.drop_of_length_le (l:=tabT b ps) (by rw [tabT_len];exact Nat.le_refl _)];rfl
theorem tmp5 {x y a a' b b' c c':DV} {k1 k2 k3 k4 k5:Nat} (h1:a=a') (h2:b=b') (h3:c=c'):[(k1,x),(k2,y),(k3,a),(k4,b),(k5,c)]=[(k1,x),(k2,y),(k3,a'),(k4,b'),(k5,c')]:=by subst h1 h2 h3;rfl
theorem res_if {kh:List Nat} {lk:Nat→Option DObj} {t:Tmps} {k n len sz:Nat} {es:List DV} {fz:Bool} (h1:tget t k=.own n 0 len len) (h2:memB n kh=false) (h3:lk n=some (.row sz es fz)) (h4:len=es.length):res kh lk (tget t k)=.list es:=by
 rw [h1,res,h2,h3]
 show (if len=es.length then DV.list (window es 0 len) else .undef)=_
 rw [if_pos h4,h4,window_full]
theorem r_Table (b:Ba) (hb:OkB b) (ps:List Int) (hp:∀ p ∈ ps,OkP p) (hps:ps.length≤24) (hn:0 < ps.length):PC 56 [encB b,iL ps] (iLL (tabT b ps)):=by
 have e0:((ps.map (DV.int .i64)).length:Int)=ps.length:=by simp
 have hlv:=hb.lv
 have hca:0≤b.ca:=by have:=hb.c0;omega
 have hc1:=hb.c1
 have ew:IntKind.i64.wrap (b.ca+1)=b.ca+1:=wrap_in (by omega) (by omega)
 have el:IntKind.i64.wrap ((ps.length:Int) - 1)=((ps.length - 1:Nat):Int):=by rw [wrap_in (by omega) (by omega)];omega
 refine pureCall_ofR dh56 rfl ?_
 conv=>whnf
 rw [ew]
 refine ⟨⟨by omega,by omega,by omega,rfl,rfl⟩,?_⟩
 conv=>whnf
 refine ⟨by simp,?_⟩
 conv=>whnf
 refine ⟨⟨by show 1≤1073741824;decide,fun e he=>by simp at he;subst he;rfl,⟨fun e he=>(by cases he),Or.inl rfl⟩⟩,?_⟩
 conv=>whnf
 refine dwp_loopR (P:=Tryz.prog) (G:=GC) (k:=dk56_2) (b:=db56_2) (α:=Nat) (fun j=>[(1,iL ps),(2,.bptr 2 0),(5,iLL (tabD b ps j)),(6,iL (rwA b (ps.drop j))),(7,DV.int .i64 ((j:Int) - 1))]) (fun j=>[(2,.box 5 (encB b))]) (fun j=>j≤ps.length) (fun j=>j) ps.length ⟨rfl,?_,rfl⟩ (Nat.le_refl _) ?_
 ·have hw:window (List.replicate (b.ca+1).toNat (DV.int .i64 (0))) 0 (b.ca+1).toNat=(List.replicate (lvN b) (0:Int)).map (DV.int .i64):=by
   have h0:(List.replicate (b.ca+1).toNat (DV.int .i64 (0))).length=(b.ca+1).toNat:=List.length_replicate
   have:=window_full (List.replicate (b.ca+1).toNat (DV.int .i64 (0)))
   rw [h0] at this
   rw [this,List.map_replicate];rfl
  refine tmp5 ?_ ?_ ?_
  ·show DV.list [DV.list (window (List.replicate (b.ca+1).toNat (DV.int .i64 (0))) 0 (b.ca+1).toNat)]=_
   rw [hw,tabD_last];rfl
  ·show (if (b.ca+1).toNat=(List.replicate (b.ca+1).toNat (DV.int .i64 (0))).length then DV.list (window (List.replicate (b.ca+1).toNat (DV.int .i64 (0))) 0 (b.ca+1).toNat) else .undef)=_
   rw [if_pos (by simp),hw,List.drop_length];rfl
  ·refine int_eq ?_
   rw [e0,wrap_in (by omega) (by omega)]
 intro j h1
 conv=>whnf
 refine ⟨fun hc=>?_,fun hc=>?_⟩
 ·obtain ⟨i,rfl⟩:∃ i,j=i+1:=⟨j - 1,by have:=of_decide_eq_true hc;omega⟩
  have hi:i < ps.length:=by omega
  clear hc
  have ej:((i+1:Nat):Int) - 1=(i:Int):=by omega
  have hst:=rwA_step b ps hi
  have htd:=tabD_succ b ps hi
  have hmx:=fun (f j:Nat) (h1:f < lvN b) (h2:j≤lvN b)=>mxN_ok hb hp hps hi h1 h2
  have hrb:=fun (f:Nat) (h1:f < lvN b)=>rwA_bd hb hp hps (i+1) h1
  have hrl:=rwA_len b (ps.drop (i+1))
  generalize hnx:rwA b (ps.drop (i+1))=nx at *
  have hpi:=hp _ (getD_in 0 hi)
  rw [ej]
  conv=>whnf
  refine dwp_loopU (P:=Tryz.prog) (G:=GC) (k:=dk56_1) (b:=db56_1) (α:=Nat) (fun f=>[(8,.own 8 0 (iD (rowT b (ps.getD i 0) nx f)).length (iD (rowT b (ps.getD i 0) nx f)).length),(9,DV.int .i64 (f))]) (fun f=>[(2,.box 5 (encB b)),(8,.row 1 (iD (rowT b (ps.getD i 0) nx f)) false)]) (fun f=>f≤lvN b) (fun f=>lvN b - f) 0 (Nat.zero_le _) ?_
  conv=>whnf
  refine ⟨rfl,rfl,?_⟩
  conv=>whnf
  refine ⟨rfl,?_⟩
  intro f h2
  conv=>whnf
  refine ⟨fun hc=>?_,fun hc=>?_⟩
  ·have hf:f < lvN b:=by have:=of_decide_eq_true hc;omega
   clear hc
   have hfl:f < nx.length:=by omega
   have hrs:iD (rowT b (ps.getD i 0) nx (f+1))=iD (rowT b (ps.getD i 0) nx f)++[DV.int .i64 (mxN b (ps.getD i 0) nx f (lvN b))]:=by rw [rowT_succ];unfold iD;rw [List.map_append];rfl
   conv=>whnf
   rw [getD_enc _ _ (f) 0 hfl]
   refine ⟨idxA hfl rfl,?_⟩
   conv=>whnf
   refine dwp_loopU (P:=Tryz.prog) (G:=GC) (k:=dk56_0) (b:=db56_0) (α:=Nat) (fun j=>[(10,DV.int .i64 (mxN b (ps.getD i 0) nx f j)),(11,DV.int .i64 (j))]) (fun _=>[(2,.box 5 (encB b)),(8,.row 1 (iD (rowT b (ps.getD i 0) nx f)) false)]) (fun j=>j≤lvN b) (fun j=>lvN b - j) 0 (Nat.zero_le _) ?_
   conv=>whnf
   refine ⟨rfl,rfl,?_⟩
   conv=>whnf
   refine ⟨rfl,?_⟩
   intro j h3
   conv=>whnf
   refine ⟨fun hc=>?_,fun hc=>?_⟩
   ·have hj:j < lvN b:=by have:=of_decide_eq_true hc;omega
    clear hc
    have hjl:j < nx.length:=by omega
    have hs:mxN b (ps.getD i 0) nx f (j+1)=if farB b f j then mxN b (ps.getD i 0) nx f j else max (mxN b (ps.getD i 0) nx f j) (wthI b (ps.getD i 0) f j+nx.getD j 0):=rfl
    have b1:=hmx f j hf (by omega)
    have b2:=hrb j hj
    have b3:=wthI_bd hb hpi (lev24 hb hf) (lev24 hb hj)
    have k1:=r_may b f j (lev24 hb hf) (lev24 hb hj)
    conv=>whnf
    cases hfr:farB b f j with
    |true =>
     rw [hfr] at k1 hs
     repeat' (first
      |(refine ⟨fun hg=>?_,fun hg=>?_⟩<;>first|contradiction|(conv=>whnf))
      |(refine Or.inl ?_;conv=>whnf)
      |(refine ⟨_,k1,?_⟩;conv=>whnf)
      |(refine And.intro ?_ ?_;kernel_rfl;conv=>whnf))
     rw [wrap_succ j (by omega)]
     refine ⟨j+1,rfl,?_,rfl,hj,by omega⟩
     rw [hs];rfl
    |false =>
     rw [hfr] at k1 hs
     repeat' (first
      |(refine ⟨fun hg=>?_,fun hg=>?_⟩<;>first|contradiction|(conv=>whnf))
      |(refine Or.inl ?_;conv=>whnf)
      |(refine ⟨_,k1,?_⟩;conv=>whnf)
      |(refine ⟨_,r_worth b hb _ _ _ hpi (lev24 hb hf) (lev24 hb hj),?_⟩;conv=>whnf)
      |(rw [getD_enc _ _ i 0 hi];refine ⟨idxA hi rfl,?_⟩;conv=>whnf)
      |(rw [getD_enc _ _ j 0 hjl];refine ⟨idxA hjl rfl,?_⟩;conv=>whnf)
      |(refine And.intro ?_ ?_;kernel_rfl;conv=>whnf))
     rw [wrap_succ j (by omega),wrap_in (n:=wthI b (ps.getD i 0) f j+nx.getD j 0) (by omega) (by omega),minmax_max]
     refine ⟨j+1,rfl,?_,rfl,hj,by omega⟩
     rw [hs];rfl
   ·have hj:j=lvN b:=by have:=of_decide_eq_false hc;omega
    clear hc
    subst hj
    conv=>whnf
    refine ⟨⟨rfl,rfl,rfl,by rw [iD_len,rowT_len];simp;omega,fun e he=>by simp at he;subst he;rfl⟩,?_⟩
    conv=>whnf
    rw [wrap_succ f (by omega)]
    refine ⟨f+1,rfl,?_,?_,hf,by omega⟩
    ·rw [hrs];rfl
    ·rw [hrs];rfl
  ·have hf:f=lvN b:=by have:=of_decide_eq_false hc;omega
   clear hc
   subst hf
   have hrow:iD (rowT b (ps.getD i 0) nx (lvN b))=(rwA b (ps.drop i)).map (DV.int .i64):=by rw [hst];rfl
   generalize hR:iD (rowT b (ps.getD i 0) nx (lvN b))=R at *
   conv=>whnf
   refine ⟨rfl,?_⟩
   rw [window_full]
   conv=>whnf
   refine ⟨⟨rfl,rfl,rfl,by rw [List.length_map];show 1+_≤_;unfold tabD;rw [List.length_drop,tabT_len];omega,fun e he=>by obtain ⟨q,_,rfl⟩:=List.mem_map.1 he;rfl⟩,?_⟩
   conv=>whnf
   rw [res_if (k:=5) (n:=67) (len:=([DV.list R]++List.map iL (tabD b ps (i+1))).length) (es:=[DV.list R]++List.map iL (tabD b ps (i+1))) (sz:=1) (fz:=false) (by rfl) (by rfl) (by rfl) (by rfl)]
   conv=>whnf
   rw [res_if (k:=6) (n:=8) (len:=R.length) (es:=R) (sz:=1) (fz:=true) (by rfl) (by rfl) (by rfl) (by rfl)]
   conv=>whnf
   refine ⟨i,rfl,?_,rfl,by omega,by omega⟩
   refine tmp5 ?_ ?_ ?_
   ·show DV.list ([DV.list R]++List.map iL (tabD b ps (i+1)))=_
    rw [htd,hrow];rfl
   ·show DV.list R=_
    rw [hrow];rfl
   ·refine int_eq ?_
    rw [wrap_in (by omega) (by omega)]
 ·have hj:j=0:=by have:=of_decide_eq_false hc;omega
  clear hc
  subst hj
  conv=>whnf
  rfl
end Sh

namespace Sh
open Go Go.Proofs
theorem r_Best (b:Ba) (hb:OkB b) (ps:List Int) (hp:∀ p ∈ ps,OkP p) (hps:ps.length≤24) (hn:0 < ps.length):PC 55 [encB b,iL ps] (.tuple [iL (bstL b ps ps.length),DV.int .i64 (topI b ps)]):=by
 have e0:((ps.map (DV.int .i64)).length:Int)=ps.length:=by simp
 have hlv:=hb.lv
 have hca:0≤b.ca:=by have:=hb.c0;omega
 have hle:=le_lv hb
 have htl:=tabT_len b ps
 refine pureCall_ofR dh55 rfl ?_
 conv=>whnf
 refine .inl ?_
 conv=>whnf
 refine ⟨_,r_Table b hb ps hp hps hn,?_⟩
 conv=>whnf
 refine dwp_loopU (P:=Tryz.prog) (G:=GC) (k:=dk55_1) (b:=db55_1) (α:=Nat) (fun i=>[(7,.own 7 0 (iD (bstL b ps i)).length (iD (bstL b ps i)).length),(8,DV.int .i64 (lvJ b ps i)),(9,DV.int .i64 (i))]) (fun i=>[(2,.box 5 (encB b)),(7,.row 1 (iD (bstL b ps i)) false)]) (fun i=>i≤ps.length) (fun i=>ps.length - i) 0 (Nat.zero_le _) ?_
 conv=>whnf
 refine ⟨rfl,rfl,?_⟩
 conv=>whnf
 refine ⟨rfl,?_⟩
 intro i h1
 have hjn:=lvJ_eq hb ps (i+1)
 rw [lvJ_eq hb ps i]
 conv=>whnf
 refine ⟨fun hc=>?_,fun hc=>?_⟩
 ·have hi:i < ps.length:=by have:=of_decide_eq_true hc;rw [e0] at this;omega
  clear hc
  have hlt:=atN_lv hb ps hle.1 i
  have hls:lvlI b ps (i+1)=nxtN b (ps.getD i 0) (ps.drop (i+1)) (lvlI b ps i):=rfl
  have hbs:=bstD_succ b ps i
  have hlt:lvlI b ps i < lvN b:=hlt
  have hdc:=drop_cons' ps hi
  have hi1:i < (tabT b ps).length:=by omega
  have hi2:i+1 < (tabT b ps).length:=by omega
  have hg1:=iLL_get b ps hi1
  have hg2:=iLL_get b ps hi2
  have hpi:=hp _ (getD_in 0 hi)
  generalize lvlI b ps i=f at *
  conv=>whnf
  refine dwp_loopU (P:=Tryz.prog) (G:=GC) (k:=dk55_0) (b:=db55_0) (α:=Nat) (fun j=>[(10,DV.int .i64 (j))]) (fun _=>[(2,.box 5 (encB b)),(7,.row 1 (iD (bstL b ps i)) false)]) (fun j=>j≤lvN b∧noBest b (ps.getD i 0) (ps.drop (i+1)) f j) (fun j=>lvN b - j) 0 ⟨Nat.zero_le _,fun t ht=>absurd ht (Nat.not_lt_zero t)⟩ ?_
  conv=>whnf
  refine ⟨rfl,rfl,?_⟩
  conv=>whnf
  refine ⟨rfl,?_⟩
  intro j h2
  obtain ⟨h2,h3⟩:=h2
  conv=>whnf
  refine ⟨fun hc=>?_,fun hc=>?_⟩
  ·have hj:j < lvN b:=by have:=of_decide_eq_true hc;omega
   clear hc
   have k1:=r_may b f j (lev24 hb hlt) (lev24 hb hj)
   have b1:=wthI_bd hb hpi (lev24 hb hlt) (lev24 hb hj)
   have b2:=rwA_bd hb hp hps (i+1) hj
   have hl1:j < (rwA b (ps.drop (i+1))).length:=by rw [rwA_len];exact hj
   have hl2:f < (rwA b (ps.drop i)).length:=by rw [rwA_len];exact hlt
   conv=>whnf
   cases hfr:farB b f j with
   |true =>
    have hnb:isBest b (ps.getD i 0) (rwA b (ps.drop (i+1))) ((rwA b (ps.getD i 0 :: ps.drop (i+1))).getD f 0) f j=false:=by
     rw [Bool.eq_false_iff];intro h;have:=(isBest_step.1 h).1;rw [hfr] at this;cases this
    rw [hfr] at k1
    repeat' (first
     |(refine ⟨fun hg=>?_,fun hg=>?_⟩<;>first|contradiction|(conv=>whnf))
     |(refine Or.inl ?_;conv=>whnf)
     |(refine ⟨_,k1,?_⟩;conv=>whnf)
     |(refine And.intro ?_ ?_;kernel_rfl;conv=>whnf))
    rw [wrap_succ j (by omega)]
    exact ⟨j+1,rfl,rfl,rfl,⟨hj,noBest_succ h3 hnb⟩,by omega⟩
   |false =>
    rw [hfr] at k1
    have b3:IntKind.i64.wrap (wthI b (ps.getD i 0) f j+(rwA b (ps.drop (i+1))).getD j 0)=wthI b (ps.getD i 0) f j+(rwA b (ps.drop (i+1))).getD j 0:=wrap_in (by omega) (by omega)
    repeat' (first
     |(refine ⟨fun hg=>?_,fun hg=>?_⟩<;>first|contradiction|(conv=>whnf))
     |(refine Or.inl ?_;conv=>whnf)
     |(refine ⟨_,k1,?_⟩;conv=>whnf)
     |(refine ⟨_,r_worth b hb _ _ _ hpi (lev24 hb hlt) (lev24 hb hj),?_⟩;conv=>whnf)
     |(rw [getD_enc _ _ i 0 hi];refine ⟨idxA hi rfl,?_⟩;conv=>whnf)
     |(rw [wrap_succ i (by omega),getD_enc _ _ (i+1) [] hi2,hg2];refine ⟨idxA hi2 rfl,?_⟩;conv=>whnf)
     |(rw [getD_enc _ _ j 0 hl1];refine ⟨idxA hl1 rfl,?_⟩;conv=>whnf)
     |(rw [getD_enc _ _ i [] hi1,hg1];refine ⟨idxA hi1 rfl,?_⟩;conv=>whnf)
     |(rw [getD_enc _ _ f 0 hl2];refine ⟨idxA hl2 rfl,?_⟩;conv=>whnf)
     |(refine And.intro ?_ ?_;kernel_rfl;conv=>whnf))
    ·have hg:=of_decide_eq_true hg
     rw [b3] at hg
     have hbt:=noBest_found hb hlt hj h3 (isBest_step.2 ⟨hfr,by rw [hg,hdc]⟩)
     rw [hbt] at hls
     rw [hls] at hbs hjn
     refine ⟨⟨rfl,rfl,rfl,by rw [iD_len,bstL_len];simp;omega,fun e he=>by simp at he;subst he;rfl⟩,?_⟩
     conv=>whnf
     rw [wrap_succ i (by omega)]
     refine ⟨i+1,rfl,?_,?_,hi,by omega⟩
     ·rw [hbs,hjn];rfl
     ·rw [hbs];rfl
    ·have hg:=of_decide_eq_false hg
     rw [b3] at hg
     have hnb:isBest b (ps.getD i 0) (rwA b (ps.drop (i+1))) ((rwA b (ps.getD i 0 :: ps.drop (i+1))).getD f 0) f j=false:=by
      rw [Bool.eq_false_iff];intro h;have:=(isBest_step.1 h).2;rw [← hdc] at this;exact hg this
     rw [wrap_succ j (by omega)]
     exact ⟨j+1,rfl,rfl,rfl,⟨hj,noBest_succ h3 hnb⟩,by omega⟩
  ·have hj:j=lvN b:=by have:=of_decide_eq_false hc;omega
   subst hj
   exact absurd h3 (fun h=>noBest_all hb hlt h)
 ·have hi:i=ps.length:=by have:=of_decide_eq_false hc;rw [e0] at this;omega
  clear hc
  subst hi
  have hi0:0 < (tabT b ps).length:=by omega
  have hg0:=iLL_get b ps hi0
  have hl0:b.le.toNat < (rwA b (ps.drop 0)).length:=by rw [rwA_len];exact hle.1
  conv=>whnf
  have hz:((tabT b ps).map iL).getD (Int.toNat 0) .undef=iL (rwA b (ps.drop 0)):=by
   have:=getD_enc iL (tabT b ps) 0 [] hi0
   rw [hg0] at this;exact this
  rw [hz]
  refine ⟨⟨by decide,by rw [List.length_map];omega,rfl⟩,?_⟩
  conv=>whnf
  rw [← hle.2,getD_enc _ _ b.le.toNat 0 hl0]
  refine ⟨idxA hl0 rfl,?_⟩
  conv=>whnf
  refine ⟨by kernel_rfl,?_⟩
  conv=>whnf
  refine ⟨rfl,?_⟩
  rw [window_full];rfl
end Sh

namespace Sh
open Go
theorem tabT_ok {b:Ba} (hb:OkB b) {ps:List Int} (hp:∀ p ∈ ps,OkP p) (hn:ps.length≤24):OkT b ps (tabT b ps):=by
 refine ⟨tabT_len b ps,fun i hi=>?_,fun i f hi hf=>?_⟩
 ·rw [tabT_len] at hi
  rw [tabT_get b ps (by omega),rwA_len]
 ·rw [tabT_len] at hi
  unfold rowG
  rw [tabT_get b ps (by omega)]
  have:=rwA_ok hb (ps:=ps.drop i) (fun q hq=>hp q (List.mem_of_mem_drop hq)) f hf
  rw [List.length_drop] at this
  omega
end Sh

namespace Sh
open Go Go.Proofs
theorem l_first (l:List Int) (hl:l.length < 4611686018427387904):PC 20 [iL l] (DV.int .i64 (firstE l)):=by
 refine pureCall_ofR dh20 rfl ?_
 conv=>whnf
 refine .inl ?_
 conv=>whnf
 refine ⟨_,q_First _ hl,?_⟩
 conv=>whnf
 rfl
end Sh

namespace Sh
open Go Go.Proofs
def shortT (tb:List (List Int)):Bool:=(tb.all fun l=>decide (l.length≤10) || decide (l.length=26)) && (decide (tb.length≤8) || decide (tb.length=26))
theorem r_ShortTable (tb:List (List Int)) (h:tb.length≤9223372036854775807):PC 50 [iLL tb] (.bool (shortT tb)):=by
 have e0:((tb.map iL).length:Int)=tb.length:=by simp
 refine pureCall_ofR dh50 rfl ?_
 conv=>whnf
 refine dwp_loopU (P:=Tryz.prog) (G:=GC) (k:=dk50_0) (b:=db50_0) (α:=Nat) (fun i=>[(3,DV.int .i64 (i))]) (fun _=>[]) (fun i=>i≤tb.length∧∀ k < i,(decide ((tb.getD k []).length≤10) || decide ((tb.getD k []).length=26))=true) (fun i=>tb.length - i) 0 ⟨Nat.zero_le _,fun k hk=>absurd hk (Nat.not_lt_zero k)⟩ ?_
 conv=>whnf
 refine ⟨rfl,rfl,?_⟩
 conv=>whnf
 refine ⟨rfl,?_⟩
 intro i h1
 obtain ⟨h1,h2⟩:=h1
 conv=>whnf
 refine ⟨fun hc=>?_,fun hc=>?_⟩
 ·have hi:i < tb.length:=by have:=of_decide_eq_true hc;rw [e0] at this;omega
  clear hc
  have e1:(((tb.getD i []).map (DV.int .i64)).length:Int)=(tb.getD i []).length:=by simp
  have hbad:¬ (decide ((tb.getD i []).length≤10) || decide ((tb.getD i []).length=26))=true→shortT tb=false:=fun h=>by
   unfold shortT
   rw [show (tb.all fun l=>decide (l.length≤10) || decide (l.length=26))=false from by rw [List.all_eq_false];exact ⟨_,getD_in [] hi,h⟩]
   rfl
  have hnext:(decide ((tb.getD i []).length≤10) || decide ((tb.getD i []).length=26))=true→∀ k < i+1,(decide ((tb.getD k []).length≤10) || decide ((tb.getD k []).length=26))=true:=fun h k hk=>by
   by_cases e:k=i
   ·rw [e];exact h
   ·exact h2 k (by omega)
  conv=>whnf
  repeat' (first
   |(refine ⟨fun hg=>?_,fun hg=>?_⟩<;>first|contradiction|(conv=>whnf))
   |(refine Or.inl ?_;conv=>whnf)
   |(rw [getD_enc _ _ i [] hi];refine ⟨idxA hi rfl,?_⟩;conv=>whnf)
   |(refine And.intro ?_ ?_;kernel_rfl;conv=>whnf))
  ·have q1:=of_decide_eq_true ‹decide (10 < (((tb.getD i []).map (DV.int .i64)).length:Int))=true›
   have q2:¬ (((tb.getD i []).map (DV.int .i64)).length:Int)=26:=of_decide_eq_true hg
   rw [e1] at q1 q2
   rw [hbad (by rw [Bool.or_eq_true,decide_eq_true_iff,decide_eq_true_iff];omega)];rfl
  ·have q2:¬ ¬ (((tb.getD i []).map (DV.int .i64)).length:Int)=26:=of_decide_eq_false hg
   rw [e1] at q2
   rw [show IntKind.i64.wrap ((i:Int)+1)=((i+1:Nat):Int) by rw [wrap_in (by omega) (by omega)];omega]
   exact ⟨i+1,rfl,rfl,rfl,⟨hi,hnext (by rw [Bool.or_eq_true,decide_eq_true_iff,decide_eq_true_iff];omega)⟩,by omega⟩
  ·have q1:=of_decide_eq_false ‹decide (10 < (((tb.getD i []).map (DV.int .i64)).length:Int))=!true›
   rw [e1] at q1
   rw [show IntKind.i64.wrap ((i:Int)+1)=((i+1:Nat):Int) by rw [wrap_in (by omega) (by omega)];omega]
   exact ⟨i+1,rfl,rfl,rfl,⟨hi,hnext (by rw [Bool.or_eq_true,decide_eq_true_iff,decide_eq_true_iff];omega)⟩,by omega⟩
 ·have hi:i=tb.length:=by have:=of_decide_eq_false hc;rw [e0] at this;omega
  clear hc
  have ha:(tb.all fun l=>decide (l.length≤10) || decide (l.length=26))=true:=by
   rw [List.all_eq_true];intro o ho
   obtain ⟨k,hk,rfl⟩:=List.mem_iff_getElem.1 ho
   have:=h2 k (by omega)
   rw [List.getD_eq_getElem?_getD,List.getElem?_eq_getElem hk] at this
   exact this
  have hv:shortT tb=(decide (tb.length≤8) || decide (tb.length=26)):=by unfold shortT;rw [ha];rfl
  rw [hv]
  conv=>whnf
  repeat' (first
   |(refine ⟨fun hg=>?_,fun hg=>?_⟩<;>first|contradiction|(conv=>whnf))
   |(refine Or.inl ?_;conv=>whnf)
   |(refine And.intro ?_ ?_;kernel_rfl;conv=>whnf))
  ·have hg:=of_decide_eq_false hg
   rw [e0] at hg
   refine bool_eq ?_
   show decide (((tb.map iL).length:Int)=26)=_
   rw [decide_eq_false (by omega:¬ tb.length≤8),Bool.false_or]
   exact decide_eq_decide.2 (by omega)
  ·have hg:=of_decide_eq_true (show decide _=true from hg)
   rw [e0] at hg
   rw [decide_eq_true (by omega:tb.length≤8)];rfl
def rowsN (tb:List (List Int)) (i:Nat):List DV:=(tb.take i).map fun l=>.inn (iD l)
theorem rowsN_len (tb:List (List Int)) (i:Nat) (h:i≤tb.length):(rowsN tb i).length=i:=by simp [rowsN];omega
theorem rowsN_succ (tb:List (List Int)) (i:Nat) (h:i < tb.length):rowsN tb (i+1)=rowsN tb i++[.inn (iD (tb.getD i []))]:=take_map_succ _ tb i [] h
theorem rowsN_all (tb:List (List Int)):(rowsN tb tb.length).map closeD=tb.map iL:=by
 unfold rowsN
 rw [List.take_length,List.map_map];rfl
end Sh

namespace Sh
open Go Go.Proofs
theorem rwE_drop (tb:List (List Int)) (i:Nat) (h:i < tb.length):firstE ((tb.map rwE).drop i)=if rwE (tb.getD i [])≠0 then rwE (tb.getD i []) else firstE ((tb.map rwE).drop (i+1)):=by
 have hd:=firstE_drop (tb.map rwE) i (by simpa using h)
 rw [show (tb.map rwE).getD i 0=rwE (tb.getD i []) by simp [List.getD_eq_getElem?_getD,h]] at hd
 exact hd
theorem r_CheckForm (b:Ba) (hb:OkB b) (ps:List Int) (tb:List (List Int)) (hl:tb.length < 1073741824) (hp:ps.length < 1073741824) (hr:∀ l ∈ tb,l.length < 1073741824):PC 57 [encB b,iL ps,iLL tb] (DV.int .i64 (frmE b ps tb)):=by
 have e0:((tb.map iL).length:Int)=tb.length:=by simp
 have e1:((ps.map (DV.int .i64)).length:Int)=ps.length:=by simp
 have hlv:=hb.lv
 have hc0:=hb.c0
 have hc1:=hb.c1
 have ew:IntKind.i64.wrap (b.ca+1)=b.ca+1:=wrap_in (by omega) (by omega)
 have ep:IntKind.i64.wrap ((((ps.map (DV.int .i64)).length:Nat):Int)+1)=ps.length+1:=by rw [e1,wrap_in (by omega) (by omega)]
 refine pureCall_ofR dh57 rfl ?_
 conv=>whnf
 rw [ep]
 refine ⟨fun hg=>?_,fun hg=>?_⟩
 ·have hg:=of_decide_eq_true hg
  rw [e0] at hg
  conv=>whnf
  unfold frmE
  rw [if_pos (by omega)];rfl
 ·have hg:=of_decide_eq_false hg
  rw [e0] at hg
  have hv:frmE b ps tb=if lenB b tb=false then 2 else firstE (tb.map rwE):=by unfold frmE;rw [if_neg (by omega)]
  rw [hv]
  clear hg hv
  conv=>whnf
  refine dwp_loopU (P:=Tryz.prog) (G:=GC) (k:=dk57_0) (b:=db57_0) (α:=Nat) (fun i=>[(7,DV.int .i64 (i))]) (fun _=>[(3,.box 5 (encB b))]) (fun i=>i≤tb.length∧∀ k < i,(tb.getD k []).length=lvN b) (fun i=>tb.length - i) 0 ⟨Nat.zero_le _,fun k hk=>absurd hk (Nat.not_lt_zero k)⟩ ?_
  conv=>whnf
  refine ⟨rfl,rfl,?_⟩
  conv=>whnf
  refine ⟨rfl,?_⟩
  intro i h1
  obtain ⟨h1,h2⟩:=h1
  conv=>whnf
  refine ⟨fun hc=>?_,fun hc=>?_⟩
  ·have hi:i < tb.length:=by have:=of_decide_eq_true hc;rw [e0] at this;omega
   clear hc
   have e2:(((tb.getD i []).map (DV.int .i64)).length:Int)=(tb.getD i []).length:=by simp
   conv=>whnf
   rw [getD_enc _ _ (i) [] hi]
   refine ⟨idxA hi rfl,?_⟩
   conv=>whnf
   rw [ew]
   refine ⟨by kernel_rfl,?_⟩
   conv=>whnf
   refine ⟨fun hg=>?_,fun hg=>?_⟩
   ·have hg:=of_decide_eq_true hg
    rw [e2] at hg
    conv=>whnf
    have hf:lenB b tb=false:=by
     unfold lenB;rw [List.all_eq_false];exact ⟨_,getD_in [] hi,by rw [decide_eq_true_iff];omega⟩
    rw [hf];rfl
   ·have hg:=of_decide_eq_false hg
    rw [e2] at hg
    conv=>whnf
    rw [wrap_succ i (by omega)]
    refine ⟨i+1,rfl,rfl,rfl,⟨hi,fun k hk=>?_⟩,by omega⟩
    by_cases e:k=i
    ·rw [e];omega
    ·exact h2 k (by omega)
  ·have hi:i=tb.length:=by have:=of_decide_eq_false hc;rw [e0] at this;omega
   clear hc
   have ht:lenB b tb=true:=by
    unfold lenB;rw [List.all_eq_true];intro l hl
    obtain ⟨k,hk,rfl⟩:=List.mem_iff_getElem.1 hl
    have:=h2 k (by omega)
    rw [List.getD_eq_getElem?_getD,List.getElem?_eq_getElem hk] at this
    exact decide_eq_true this
   rw [ht,if_neg (by decide)]
   clear h2 h1
   conv=>whnf
   refine dwp_loopU (P:=Tryz.prog) (G:=GC) (k:=dk57_1) (b:=db57_1) (α:=Nat) (fun i=>[(8,DV.int .i64 (i))]) (fun _=>[(3,.box 5 (encB b))]) (fun i=>i≤tb.length∧firstE (tb.map rwE)=firstE ((tb.map rwE).drop i)) (fun i=>tb.length - i) 0 ⟨Nat.zero_le _,rfl⟩ ?_
   conv=>whnf
   refine ⟨rfl,rfl,?_⟩
   conv=>whnf
   refine ⟨rfl,?_⟩
   intro i h1
   obtain ⟨h1,h2⟩:=h1
   conv=>whnf
   refine ⟨fun hc=>?_,fun hc=>?_⟩
   ·have hi:i < tb.length:=by have:=of_decide_eq_true hc;rw [e0] at this;omega
    clear hc
    have hd:=rwE_drop tb i hi
    have k1:PC 90 [iL (tb.getD i []),DV.int .i64 (-10000000000),DV.int .i64 (10000000000)] (DV.int .i64 (rwE (tb.getD i []))):=r_numbers (tb.getD i []) (-10000000000) 10000000000 (hr _ (getD_in [] hi))
    conv=>whnf
    rw [getD_enc _ _ (i) [] hi]
    refine ⟨idxA hi rfl,?_⟩
    conv=>whnf
    repeat' (first
     |(refine ⟨fun hg=>?_,fun hg=>?_⟩<;>first|contradiction|(conv=>whnf))
     |(refine Or.inl ?_;conv=>whnf)
     |(refine ⟨_,k1,?_⟩;conv=>whnf)
     |(refine And.intro ?_ ?_;kernel_rfl;conv=>whnf))
    ·have hg:rwE (tb.getD i [])≠0:=of_decide_eq_true hg
     rw [if_pos hg] at hd
     exact int_eq (by rw [h2,hd])
    ·have hg:¬ rwE (tb.getD i [])≠0:=of_decide_eq_false hg
     rw [if_neg hg] at hd
     rw [wrap_succ i (by omega)]
     exact ⟨i+1,rfl,rfl,rfl,⟨hi,by rw [h2,hd]⟩,by omega⟩
   ·have hi:i=tb.length:=by have:=of_decide_eq_false hc;rw [e0] at this;omega
    clear hc
    conv=>whnf
    exact int_eq (by rw [h2,hi,List.drop_of_length_le (by simp)];rfl)
end Sh

namespace Sh
open Go Go.Proofs
theorem r_Proves (b:Ba) (hb:OkB b) (ps:List Int) (tb:List (List Int)) (v:Int) (h:OkT b ps tb) (hp:∀ p ∈ ps,OkP p) (hps:ps.length≤24):PC 59 [encB b,iL ps,iLL tb,DV.int .i64 (v)] (.bool (decide (prvP b ps tb v))):=by
 have e0:((tb.map iL).length:Int)=tb.length:=by simp
 have e1:((ps.map (DV.int .i64)).length:Int)=ps.length:=by simp
 have hlv:=hb.lv
 have hc0:=hb.c0
 have hc1:=hb.c1
 have hle:=le_lv hb
 have htn:=h.n
 refine pureCall_ofR dh59 rfl ?_
 conv=>whnf
 refine dwp_loopU (P:=Tryz.prog) (G:=GC) (k:=dk59_0) (b:=db59_0) (α:=Nat) (fun k=>[(9,DV.int .i64 (k))]) (fun _=>[(4,.box 5 (encB b))]) (fun k=>k≤lvN b∧∀ j,j < k→rowG tb ps.length j=0) (fun k=>lvN b - k) 0 ⟨Nat.zero_le _,fun k hk=>absurd hk (Nat.not_lt_zero k)⟩ ?_
 conv=>whnf
 refine ⟨rfl,rfl,?_⟩
 conv=>whnf
 refine ⟨rfl,?_⟩
 intro k h1
 obtain ⟨h1,h2⟩:=h1
 conv=>whnf
 refine ⟨fun hc=>?_,fun hc=>?_⟩
 ·have hk:k < lvN b:=by have:=of_decide_eq_true hc;omega
  clear hc
  have hi1:ps.length < tb.length:=by omega
  have hi2:k < (tb.getD ps.length []).length:=by rw [h.l _ hi1];exact hk
  conv=>whnf
  rw [e1]
  rw [getD_enc _ _ (ps.length) [] hi1]
  refine ⟨idxA hi1 rfl,?_⟩
  conv=>whnf
  rw [getD_enc _ _ (k) 0 hi2]
  refine ⟨idxA hi2 rfl,?_⟩
  conv=>whnf
  refine ⟨fun hg=>?_,fun hg=>?_⟩
  ·have hg:rowG tb ps.length k≠0:=of_decide_eq_true hg
   conv=>whnf
   exact bool_eq (decide_eq_false fun hP=>hg (hP.z k hk)).symm
  ·have hg:¬ rowG tb ps.length k≠0:=of_decide_eq_false hg
   conv=>whnf
   rw [wrap_succ k (by omega)]
   exact ⟨k+1,rfl,rfl,rfl,⟨hk,forall_succ h2 (Classical.not_not.1 hg)⟩,by omega⟩
 ·have hk:k=lvN b:=by have:=of_decide_eq_false hc;omega
  clear hc
  subst hk
  have hZ:=h2
  clear h1 h2
  conv=>whnf
  refine dwp_loopU (P:=Tryz.prog) (G:=GC) (k:=dk59_3) (b:=db59_3) (α:=Nat) (fun i=>[(10,DV.int .i64 (i))]) (fun _=>[(4,.box 5 (encB b))]) (fun i=>i≤ps.length∧∀ j,j < i→∀ f,f < lvN b→∀ t,t < lvN b→stpP b ps tb j f t) (fun i=>ps.length - i) 0 ⟨Nat.zero_le _,fun k hk=>absurd hk (Nat.not_lt_zero k)⟩ ?_
  conv=>whnf
  refine ⟨rfl,rfl,?_⟩
  conv=>whnf
  refine ⟨rfl,?_⟩
  intro i h1
  obtain ⟨h1,h2⟩:=h1
  conv=>whnf
  refine ⟨fun hc=>?_,fun hc=>?_⟩
  ·have hi:i < ps.length:=by have:=of_decide_eq_true hc;rw [e1] at this;omega
   clear hc
   conv=>whnf
   refine dwp_loopU (P:=Tryz.prog) (G:=GC) (k:=dk59_2) (b:=db59_2) (α:=Nat) (fun f=>[(11,DV.int .i64 (f))]) (fun _=>[(4,.box 5 (encB b))]) (fun f=>f≤lvN b∧∀ g,g < f→∀ t,t < lvN b→stpP b ps tb i g t) (fun f=>lvN b - f) 0 ⟨Nat.zero_le _,fun k hk=>absurd hk (Nat.not_lt_zero k)⟩ ?_
   conv=>whnf
   refine ⟨rfl,rfl,?_⟩
   conv=>whnf
   refine ⟨rfl,?_⟩
   intro f h3
   obtain ⟨h3,h4⟩:=h3
   conv=>whnf
   refine ⟨fun hc=>?_,fun hc=>?_⟩
   ·have hf:f < lvN b:=by have:=of_decide_eq_true hc;omega
    clear hc
    conv=>whnf
    refine dwp_loopU (P:=Tryz.prog) (G:=GC) (k:=dk59_1) (b:=db59_1) (α:=Nat) (fun t=>[(12,DV.int .i64 (t))]) (fun _=>[(4,.box 5 (encB b))]) (fun t=>t≤lvN b∧∀ u,u < t→stpP b ps tb i f u) (fun t=>lvN b - t) 0 ⟨Nat.zero_le _,fun k hk=>absurd hk (Nat.not_lt_zero k)⟩ ?_
    conv=>whnf
    refine ⟨rfl,rfl,?_⟩
    conv=>whnf
    refine ⟨rfl,?_⟩
    intro t h5
    obtain ⟨h5,h6⟩:=h5
    conv=>whnf
    refine ⟨fun hc=>?_,fun hc=>?_⟩
    ·have ht:t < lvN b:=by have:=of_decide_eq_true hc;omega
     clear hc
     have hpi:=hp _ (getD_in 0 hi)
     have k1:=r_may b f t (lev24 hb hf) (lev24 hb ht)
     have k2:=r_worth b hb (ps.getD i 0) f t hpi (lev24 hb hf) (lev24 hb ht)
     have b1:=wthI_bd hb hpi (lev24 hb hf) (lev24 hb ht)
     have hi1:i < tb.length:=by omega
     have hi2:i+1 < tb.length:=by omega
     have b2:=h.g (i+1) t hi2 ht
     have hl1:f < (tb.getD i []).length:=by rw [h.l _ hi1];exact hf
     have hl2:t < (tb.getD (i+1) []).length:=by rw [h.l _ hi2];exact ht
     have b3:IntKind.i64.wrap (wthI b (ps.getD i 0) f t+(tb.getD (i+1) []).getD t 0)=wthI b (ps.getD i 0) f t+rowG tb (i+1) t:=wrap_in (by unfold rowG at b2;omega) (by unfold rowG at b2;omega)
     have ei:IntKind.i64.wrap ((i:Int)+1)=((i+1:Nat):Int):=wrap_succ i (by omega)
     conv=>whnf
     cases hfr:farB b f t with
     |true =>
      rw [hfr] at k1
      repeat' (first
       |(refine ⟨fun hg=>?_,fun hg=>?_⟩<;>first|contradiction|(conv=>whnf))
       |(refine Or.inl ?_;conv=>whnf)
       |(refine ⟨_,k1,?_⟩;conv=>whnf)
       |(refine And.intro ?_ ?_;kernel_rfl;conv=>whnf))
      rw [wrap_succ t (by omega)]
      exact ⟨t+1,rfl,rfl,rfl,⟨ht,forall_succ h6 (fun hh=>by rw [hfr] at hh;cases hh)⟩,by omega⟩
     |false =>
      rw [hfr] at k1
      repeat' (first
       |(refine ⟨fun hg=>?_,fun hg=>?_⟩<;>first|contradiction|(conv=>whnf))
       |(refine Or.inl ?_;conv=>whnf)
       |(refine ⟨_,k1,?_⟩;conv=>whnf)
       |(refine ⟨_,k2,?_⟩;conv=>whnf)
       |(rw [ei,getD_enc _ _ (i+1) [] hi2];refine ⟨idxA hi2 rfl,?_⟩;conv=>whnf)
       |(rw [getD_enc _ _ t 0 hl2];refine ⟨idxA hl2 rfl,?_⟩;conv=>whnf)
       |(rw [getD_enc _ _ i [] hi1];refine ⟨idxA hi1 rfl,?_⟩;conv=>whnf)
       |(rw [getD_enc _ _ i 0 hi];refine ⟨idxA hi rfl,?_⟩;conv=>whnf)
       |(rw [getD_enc _ _ f 0 hl1];refine ⟨idxA hl1 rfl,?_⟩;conv=>whnf)
       |(refine And.intro ?_ ?_;kernel_rfl;conv=>whnf))
      ·have hg:=of_decide_eq_true hg
       rw [b3] at hg
       exact bool_eq (decide_eq_false fun hP=>hP.s i hi f hf t ht hfr hg).symm
      ·have hg:=of_decide_eq_false hg
       rw [b3] at hg
       rw [wrap_succ t (by omega)]
       exact ⟨t+1,rfl,rfl,rfl,⟨ht,forall_succ h6 (fun _=>hg)⟩,by omega⟩
    ·have ht:t=lvN b:=by have:=of_decide_eq_false hc;omega
     clear hc
     subst ht
     conv=>whnf
     rw [wrap_succ f (by omega)]
     exact ⟨f+1,rfl,rfl,rfl,⟨hf,forall_succ h4 h6⟩,by omega⟩
   ·have hf:f=lvN b:=by have:=of_decide_eq_false hc;omega
    clear hc
    subst hf
    conv=>whnf
    rw [wrap_succ i (by omega)]
    exact ⟨i+1,rfl,rfl,rfl,⟨hi,forall_succ h2 h4⟩,by omega⟩
  ·have hi:i=ps.length:=by have:=of_decide_eq_false hc;rw [e1] at this;omega
   clear hc
   subst hi
   have hi0:0 < tb.length:=by omega
   have hl0:b.le.toNat < (tb.getD 0 []).length:=by rw [h.l _ hi0];exact hle.1
   conv=>whnf
   have hz:(tb.map iL).getD (Int.toNat 0) .undef=iL (tb.getD 0 []):=getD_enc iL tb 0 [] hi0
   rw [hz]
   refine ⟨⟨by decide,by rw [e0];omega,rfl⟩,?_⟩
   conv=>whnf
   rw [← hle.2,getD_enc _ _ b.le.toNat 0 hl0]
   refine ⟨idxA hl0 rfl,?_⟩
   conv=>whnf
   refine ⟨by kernel_rfl,?_⟩
   conv=>whnf
   refine bool_eq ?_
   exact decide_eq_decide.2 ⟨fun hv=>⟨hZ,h2,hv⟩,fun hP=>hP.v⟩
end Sh

namespace Sh
open Go Go.Proofs
theorem l_OwnedLists (tb:List (List Int)) (h:tb.length < 1073741824) (hl:∀ r ∈ tb,r.length < 1073741824):PC 54 [iLL tb] (iLL tb):=by
 have e0:((tb.map iL).length:Int)=tb.length:=by simp
 refine pureCall_ofR dh54 rfl ?_
 conv=>whnf
 refine dwp_loopU (P:=Tryz.prog) (G:=GC) (k:=dk54_0) (b:=db54_0) (α:=Nat) (fun i=>[(3,.own 3 0 (rowsN tb i).length (rowsN tb i).length),(4,DV.int .i64 (i))]) (fun i=>[(3,.nrow 1 0 1 (rowsN tb i) none)]) (fun i=>i≤tb.length) (fun i=>tb.length - i) 0 (Nat.zero_le _) ?_
 conv=>whnf
 refine ⟨rfl,rfl,?_⟩
 conv=>whnf
 refine ⟨rfl,?_⟩
 intro i h1
 conv=>whnf
 refine ⟨fun hc=>?_,fun hc=>?_⟩
 ·have hi:i < tb.length:=by have:=of_decide_eq_true hc;rw [e0] at this;omega
  clear hc
  have hs:=rowsN_succ tb i hi
  have hol:=rowsN_len tb i h1
  have hlr:=hl _ (getD_in [] hi)
  conv=>whnf
  rw [getD_enc _ _ (i) [] hi]
  refine ⟨idxA hi rfl,?_⟩
  conv=>whnf
  refine ⟨⟨by rw [List.length_map];omega,fun e he=>by obtain ⟨q,_,rfl⟩:=List.mem_map.1 he;rfl⟩,?_⟩
  conv=>whnf
  refine ⟨⟨rfl,rfl,rfl,by omega,rfl,rfl,rfl,rfl,rfl⟩,?_⟩
  conv=>whnf
  rw [wrap_succ i (by omega)]
  have hrl:(rowsN tb (i+1)).length=(rowsN tb i).length+1:=by rw [hs];simp
  refine ⟨i+1,rfl,?_,?_,hi,by omega⟩
  ·rw [hrl];rfl
  ·rw [hs];rfl
 ·have hi:i=tb.length:=by have:=of_decide_eq_false hc;rw [e0] at this;omega
  clear hc
  subst hi
  conv=>whnf
  refine ⟨rfl,?_⟩
  show DV.list (window ((rowsN tb tb.length).map closeD) 0 (rowsN tb tb.length).length)=_
  have hw:=window_full ((rowsN tb tb.length).map closeD)
  rw [List.length_map] at hw
  rw [hw,rowsN_all];rfl
end Sh

namespace Sh
open Go
def dc6 : DFunc := ⟨122,3,[.tmp 6],sq [oq 3 (.box 5 (.tmp 0)),oq 5 (.box 2 (.tmp 2)),oq 6 (.mov (bq false))] (.seq (sq [mq 18 1,oq 19 (.len (.tmp 18)),oq 20 (.bin .gtr (.tmp 19) (iq 8)),mq 21 20,gq 22 (.mov (.tmp 1)) 21 true,gq 23 (.len (.tmp 22)) 21 true,gq 24 (.bin .neq (.tmp 23) (iq 25)) 21 true,oq 25 (.pick (.tmp 21) (.tmp 24) (bq false)),mq 26 25,gq 27 (.faddr 0 1 false (.tmp 5)) 26 false,gq 28 (.load none (.tmp 27)) 26 false,gq 29 (.call (.func 50) [.tmp 28]) 26 false,gq 30 (.un .not (.tmp 29)) 26 false,oq 31 (.pick (.tmp 26) (bq true) (.tmp 30))] (.cond (.tmp 31) (sq [oq 32 (.call (.func 13) []),mq 6 32] .ret) .skip)) (.seq (.ops true [oq 34 (.load (some 5) (.tmp 3)),mq 35 1,⟨some 36,.call (.func 18) [.tmp 35],none,[1]⟩,⟨some 37,.call (.func 51) [.tmp 34,.tmp 36],none,[0,2,1]⟩,⟨some 33,.mov (.tmp 37),none,[3,0,2,1]⟩,⟨some 38,.extract (.tmp 33) 0,none,[4,3,0,2,1]⟩,⟨some 39,.extract (.tmp 33) 1,none,[4,3,0,2,1]⟩,⟨some 40,.extract (.tmp 33) 2,none,[4,3,0,2,1]⟩,⟨some 7,.mov (.tmp 38),none,[5,4,3,0,2,1]⟩,⟨some 8,.mov (.tmp 39),none,[6,4,3,0,2,1,8,5]⟩,⟨some 9,.mov (.tmp 40),none,[7,4,3,0,2,1,9,6,8,5]⟩]) (.seq (.ops true [oq 42 (.load (some 5) (.tmp 3)),mq 43 1,⟨some 44,.call (.func 18) [.tmp 43],none,[1]⟩,⟨some 45,.call (.func 52) [.tmp 42,.tmp 44],none,[0,2,1]⟩,⟨some 41,.mov (.tmp 45),none,[3,0,2,1]⟩,⟨some 46,.extract (.tmp 41) 0,none,[4,3,0,2,1]⟩,⟨some 47,.extract (.tmp 41) 1,none,[4,3,0,2,1]⟩,⟨some 10,.mov (.tmp 46),none,[5,4,3,0,2,1]⟩,⟨some 11,.mov (.tmp 47),none,[6,4,3,0,2,1,7,5]⟩]) (.seq (.ops true [oq 48 (.load (some 5) (.tmp 3)),mq 49 1,⟨some 50,.call (.func 18) [.tmp 49],none,[1]⟩,oq 51 (.faddr 0 1 false (.tmp 5)),⟨some 52,.load none (.tmp 51),none,[3]⟩,⟨some 53,.call (.func 54) [.tmp 52],none,[4,3,2,1]⟩,oq 54 (.faddr 1 1 false (.tmp 5)),⟨some 55,.load none (.tmp 54),none,[6]⟩,⟨some 56,.call (.func 53) [.tmp 48,.tmp 50,.tmp 53,.tmp 55],none,[0,2,1,5,4,3,7,6]⟩,⟨some 12,.mov (.tmp 56),none,[8,0,2,1,5,4,3,7,6]⟩]) (sq [oq 57 (.load (some 5) (.tmp 3)),oq 58 (.call (.func 41) [.tmp 57]),mq 59 1,oq 60 (.call (.func 42) [.tmp 59]),oq 61 (.lit true 1 2 (.int .i64 0) [(0,(.tmp 58)),(1,(.tmp 60))]),oq 62 (.call (.func 20) [.tmp 61]),mq 13 62] (sq [mq 63 13,mq 14 63] (sq [oq 15 (.mov (.const (.slice none 0 0)))] (sq [oq 16 (.mov (.const (.slice none 0 0)))] (sq [oq 17 (.mov (iq 0))] (.seq (sq [mq 64 13,oq 65 (.bin .eql (.tmp 64) (iq 0))] (.cond (.tmp 65) (sq [oq 67 (.load (some 5) (.tmp 3)),mq 68 1,oq 69 (.call (.func 55) [.tmp 67,.tmp 68]),mq 66 69,oq 70 (.extract (.tmp 66) 0),oq 71 (.extract (.tmp 66) 1),mq 15 70,mq 17 71] (.ops true [oq 72 (.load (some 5) (.tmp 3)),mq 73 1,⟨some 74,.call (.func 56) [.tmp 72,.tmp 73],none,[0,1]⟩,oq 75 (.load (some 5) (.tmp 3)),mq 76 1,oq 77 (.faddr 0 1 false (.tmp 5)),⟨some 78,.load none (.tmp 77),none,[5]⟩,⟨some 79,.call (.func 57) [.tmp 75,.tmp 76,.tmp 78],none,[3,4,6,5,2,0,1]⟩,⟨some 16,.mov (.tmp 74),none,[2,0,1,7,3,4,6,5]⟩,⟨some 14,.mov (.tmp 79),none,[7,3,4,6,5,2,0,1,8]⟩])) .skip)) (.seq (sq [mq 80 14,oq 81 (.bin .eql (.tmp 80) (iq 0))] (.cond (.tmp 81) (pq [oq 82 (.load (some 5) (.tmp 3)),mq 83 1,oq 84 (.faddr 0 1 false (.tmp 5)),oq 85 (.load none (.tmp 84)),oq 86 (.faddr 1 1 false (.tmp 5)),oq 87 (.load none (.tmp 86)),oq 88 (.call (.func 59) [.tmp 82,.tmp 83,.tmp 85,.tmp 87]),oq 89 (.un .not (.tmp 88)),oq 90 (.call (.func 58) [.tmp 89,iq 19]),mq 14 90]) .skip)) (sq [mq 91 7,mq 92 15,oq 93 (.call (.func 28) [.tmp 91,.tmp 92]),mq 94 93,gq 95 (.mov (.tmp 8)) 94 true,gq 96 (.mov (.tmp 17)) 94 true,gq 97 (.bin .eql (.tmp 95) (.tmp 96)) 94 true,oq 98 (.pick (.tmp 94) (.tmp 97) (bq false)),mq 99 98,gq 100 (.mov (.tmp 9)) 99 true,gq 101 (.mov (.tmp 13)) 99 true,gq 102 (.bin .eql (.tmp 100) (.tmp 101)) 99 true,oq 103 (.pick (.tmp 99) (.tmp 102) (bq false)),mq 104 103,gq 105 (.mov (.tmp 10)) 104 true,gq 106 (.mov (.tmp 16)) 104 true,gq 107 (.call (.func 60) [.tmp 105,.tmp 106]) 104 true,oq 108 (.pick (.tmp 104) (.tmp 107) (bq false)),mq 109 108,gq 110 (.mov (.tmp 11)) 109 true,gq 111 (.mov (.tmp 13)) 109 true,gq 112 (.bin .eql (.tmp 110) (.tmp 111)) 109 true,oq 113 (.pick (.tmp 109) (.tmp 112) (bq false)),mq 114 113,gq 115 (.mov (.tmp 12)) 114 true,gq 116 (.mov (.tmp 14)) 114 true,gq 117 (.bin .eql (.tmp 115) (.tmp 116)) 114 true,oq 118 (.pick (.tmp 114) (.tmp 117) (bq false)),mq 119 118,gq 120 (.call (.func 13) []) 119 true,oq 121 (.pick (.tmp 119) (.tmp 120) (bq false)),mq 6 121] .ret))))))))))))⟩
theorem dh6:cProg Go.Proofs.Tryz.prog ⟨[],[],[61]⟩ 6=some dc6:=by kernel_rfl
end Sh

set_option maxHeartbeats 4000000
namespace Sh
open Go Go.Proofs
theorem shortT_bd {tb:List (List Int)} (h:shortT tb=true):tb.length < 1073741824∧∀ r ∈ tb,r.length < 1073741824:=by
 unfold shortT at h
 rw [Bool.and_eq_true,Bool.or_eq_true,List.all_eq_true] at h
 obtain ⟨h1,h2⟩:=h
 refine ⟨?_,fun r hr=>?_⟩
 ·rcases h2 with h2|h2
  ·have:=of_decide_eq_true h2;omega
  ·have:=of_decide_eq_true h2;omega
 ·have:=h1 r hr
  rw [Bool.or_eq_true] at this
  rcases this with h3|h3
  ·have:=of_decide_eq_true h3;omega
  ·have:=of_decide_eq_true h3;omega
theorem l_TradeTables (aw:PC 13 [] (.bool true)) (b:Ba) (ps:List Int) (z:List (List Int)×Int) (hz:z.1.length≤9223372036854775807):PC 6 [encB b,iL ps,encTv z.1 z.2] (.bool true):=by
 obtain ⟨tb,v⟩:=z
 have hz:tb.length≤9223372036854775807:=hz
 have e0:((ps.map (DV.int .i64)).length:Int)=ps.length:=by simp
 have k0:=r_ShortTable tb hz
 by_cases hps:ps.length≤25
 rotate_left
 ·have x1:decide (8 < ((ps.map (DV.int .i64)).length:Int))=true:=decide_eq_true (by rw [e0];omega)
  have x2:decide (((ps.map (DV.int .i64)).length:Int)≠25)=true:=decide_eq_true (by rw [e0];omega)
  refine pureCall_ofR dh6 rfl ?_
  conv=>whnf
  repeat' (first
   |(refine ⟨fun hg=>?_,fun hg=>?_⟩<;>first|contradiction|(conv=>whnf))
   |(refine Or.inl ?_;conv=>whnf)
   |(refine ⟨_,aw ..,?_⟩;conv=>whnf)
   |(refine ⟨_,k0,?_⟩;conv=>whnf)
   |(refine And.intro ?_ ?_;kernel_rfl;conv=>whnf))
  all_goals first
   |rfl
   |(exfalso;simp_all;done)
   |(exfalso;have:=of_decide_eq_false ‹_›;omega)
 by_cases hs:shortT tb=true
 rotate_left
 ·have hs:shortT tb=false:=by simpa using hs
  rw [hs] at k0
  refine pureCall_ofR dh6 rfl ?_
  conv=>whnf
  repeat' (first
   |(refine ⟨fun hg=>?_,fun hg=>?_⟩<;>first|contradiction|(conv=>whnf))
   |(refine Or.inl ?_;conv=>whnf)
   |(refine ⟨_,aw ..,?_⟩;conv=>whnf)
   |(refine ⟨_,k0,?_⟩;conv=>whnf)
   |(refine And.intro ?_ ?_;kernel_rfl;conv=>whnf))
  all_goals first
   |rfl
   |(exfalso;simp_all;done)
 rw [hs] at k0
 obtain ⟨htb,htr⟩:=shortT_bd hs
 have hp:ps.length < 1073741824:=by omega
 have j1:=l_ints ps hp
 have j2:=l_OwnedLists tb htb htr
 have d1:=c_Best b ps hp
 have d2:=c_Table b ps hp
 have d3:=c_CheckTable b ps tb v hp htb
 have m1:=r_CheckBattery b
 have m2:=r_CheckPrices ps hp
 have f2:=l_first [chkBa b,chkPs ps] (by simp)
 rw [← chkBP_eq] at f2
 have ks:∀ l:List Int,l.length < 4611686018427387904→PC 28 [iL l,iL l] (.bool true):=fun l h=>by have:=q_SameInts l l h;rwa [decide_eq_true rfl] at this
 have ks0:=ks [] (by decide)
 have kt0:=r_SameLists [] (by decide) (fun r hr=>absurd hr (by simp))
 by_cases E:chkBP b ps=0
 ·obtain ⟨hb,n0,n1,hpp⟩:=chkBP_ok E
  have r1:=r_Best b hb ps hpp n1 n0
  have r2:=r_Table b hb ps hpp n1 n0
  have r3:=r_CheckForm b hb ps tb htb hp htr
  rw [show bestS b ps=(bstL b ps ps.length,topI b ps,0) by rw [bestS,if_neg (by omega)]] at d1
  rw [show tblS b ps=(tabT b ps,0) by rw [tblS,if_neg (by omega)]] at d2
  rw [E] at f2
  have s1:=ks (bstL b ps ps.length) (by rw [bstL_len];omega)
  have s2:=r_SameLists (tabT b ps) (by rw [tabT_len];omega) (fun r hr=>by
   obtain ⟨i,hi,rfl⟩:=List.mem_iff_getElem.1 hr
   have q1:=(tabT_ok hb hpp n1).l i hi
   rw [List.getD_eq_getElem?_getD,List.getElem?_eq_getElem hi,Option.getD_some] at q1
   have q2:=hb.lv
   have q3:=hb.c1
   omega)
  by_cases F:frmE b ps tb=0
  ·have hT:=frmE_ok F
   have r4:=r_Proves b hb ps tb v hT hpp n1
   by_cases P:prvP b ps tb v
   ·rw [show chkTb b ps tb v=0 by rw [chkTb,if_neg (by omega),if_neg (by omega),if_pos P]] at d3
    rw [decide_eq_true P] at r4
    have w1:=q_When false 19
    rw [F] at r3
    refine pureCall_ofR dh6 rfl ?_
    conv=>whnf
    repeat' (first
     |(refine ⟨fun hg=>?_,fun hg=>?_⟩<;>first|contradiction|(replace hg:=of_decide_eq_true hg;first|(exfalso;omega;done)|(conv=>whnf))|(replace hg:=of_decide_eq_false hg;first|(exfalso;omega;done)|(conv=>whnf))|(skip;conv=>whnf)|(conv=>whnf))
     |(refine Or.inl ?_;conv=>whnf)
     |(refine ⟨_,k0,?_⟩;conv=>whnf)
     |(refine ⟨_,j1 ..,?_⟩;conv=>whnf)
     |(refine ⟨_,j2 ..,?_⟩;conv=>whnf)
     |(refine ⟨_,d1 ..,?_⟩;conv=>whnf)
     |(refine ⟨_,d2 ..,?_⟩;conv=>whnf)
     |(refine ⟨_,d3 ..,?_⟩;conv=>whnf)
     |(refine ⟨_,m1 ..,?_⟩;conv=>whnf)
     |(refine ⟨_,m2 ..,?_⟩;conv=>whnf)
     |(refine ⟨_,f2 ..,?_⟩;conv=>whnf)
     |(refine ⟨_,r1 ..,?_⟩;conv=>whnf)
     |(refine ⟨_,r2 ..,?_⟩;conv=>whnf)
     |(refine ⟨_,r3 ..,?_⟩;conv=>whnf)
     |(refine ⟨_,r4 ..,?_⟩;conv=>whnf)
     |(refine ⟨_,w1 ..,?_⟩;conv=>whnf)
     |(refine ⟨_,s1 ..,?_⟩;conv=>whnf)
     |(refine ⟨_,s2 ..,?_⟩;conv=>whnf)
     |(refine ⟨_,aw ..,?_⟩;conv=>whnf)
     |(refine And.intro ?_ ?_;kernel_rfl;conv=>whnf))
    all_goals first
     |rfl
     |(exfalso;simp_all;done)
     |trace_state
   ·rw [show chkTb b ps tb v=19 by rw [chkTb,if_neg (by omega),if_neg (by omega),if_neg P]] at d3
    rw [decide_eq_false P] at r4
    have w1:=q_When true 19
    rw [F] at r3
    refine pureCall_ofR dh6 rfl ?_
    conv=>whnf
    repeat' (first
     |(refine ⟨fun hg=>?_,fun hg=>?_⟩<;>first|contradiction|(replace hg:=of_decide_eq_true hg;first|(exfalso;omega;done)|(conv=>whnf))|(replace hg:=of_decide_eq_false hg;first|(exfalso;omega;done)|(conv=>whnf))|(skip;conv=>whnf)|(conv=>whnf))
     |(refine Or.inl ?_;conv=>whnf)
     |(refine ⟨_,k0,?_⟩;conv=>whnf)
     |(refine ⟨_,j1 ..,?_⟩;conv=>whnf)
     |(refine ⟨_,j2 ..,?_⟩;conv=>whnf)
     |(refine ⟨_,d1 ..,?_⟩;conv=>whnf)
     |(refine ⟨_,d2 ..,?_⟩;conv=>whnf)
     |(refine ⟨_,d3 ..,?_⟩;conv=>whnf)
     |(refine ⟨_,m1 ..,?_⟩;conv=>whnf)
     |(refine ⟨_,m2 ..,?_⟩;conv=>whnf)
     |(refine ⟨_,f2 ..,?_⟩;conv=>whnf)
     |(refine ⟨_,r1 ..,?_⟩;conv=>whnf)
     |(refine ⟨_,r2 ..,?_⟩;conv=>whnf)
     |(refine ⟨_,r3 ..,?_⟩;conv=>whnf)
     |(refine ⟨_,r4 ..,?_⟩;conv=>whnf)
     |(refine ⟨_,w1 ..,?_⟩;conv=>whnf)
     |(refine ⟨_,s1 ..,?_⟩;conv=>whnf)
     |(refine ⟨_,s2 ..,?_⟩;conv=>whnf)
     |(refine ⟨_,aw ..,?_⟩;conv=>whnf)
     |(refine And.intro ?_ ?_;kernel_rfl;conv=>whnf))
    all_goals first
     |rfl
     |(exfalso;simp_all;done)
     |trace_state
  ·rw [show chkTb b ps tb v=frmE b ps tb by rw [chkTb,if_neg (by omega),if_pos F]] at d3
   generalize frmE b ps tb=F1 at *
   refine pureCall_ofR dh6 rfl ?_
   conv=>whnf
   repeat' (first
    |(refine ⟨fun hg=>?_,fun hg=>?_⟩<;>first|contradiction|(replace hg:=of_decide_eq_true hg;first|(exfalso;omega;done)|(conv=>whnf))|(replace hg:=of_decide_eq_false hg;first|(exfalso;omega;done)|(conv=>whnf))|(skip;conv=>whnf)|(conv=>whnf))
    |(refine Or.inl ?_;conv=>whnf)
    |(refine ⟨_,k0,?_⟩;conv=>whnf)
    |(refine ⟨_,j1 ..,?_⟩;conv=>whnf)
    |(refine ⟨_,j2 ..,?_⟩;conv=>whnf)
    |(refine ⟨_,d1 ..,?_⟩;conv=>whnf)
    |(refine ⟨_,d2 ..,?_⟩;conv=>whnf)
    |(refine ⟨_,d3 ..,?_⟩;conv=>whnf)
    |(refine ⟨_,m1 ..,?_⟩;conv=>whnf)
    |(refine ⟨_,m2 ..,?_⟩;conv=>whnf)
    |(refine ⟨_,f2 ..,?_⟩;conv=>whnf)
    |(refine ⟨_,r1 ..,?_⟩;conv=>whnf)
    |(refine ⟨_,r2 ..,?_⟩;conv=>whnf)
    |(refine ⟨_,r3 ..,?_⟩;conv=>whnf)
    |(refine ⟨_,s1 ..,?_⟩;conv=>whnf)
    |(refine ⟨_,s2 ..,?_⟩;conv=>whnf)
    |(refine ⟨_,aw ..,?_⟩;conv=>whnf)
    |(refine And.intro ?_ ?_;kernel_rfl;conv=>whnf))
   all_goals first
    |rfl
    |(exfalso;simp_all;done)
    |trace_state
 ·rw [show bestS b ps=([],0,chkBP b ps) by rw [bestS,if_pos E]] at d1
  rw [show tblS b ps=([],chkBP b ps) by rw [tblS,if_pos E]] at d2
  rw [show chkTb b ps tb v=chkBP b ps by rw [chkTb,if_pos E]] at d3
  generalize chkBP b ps=E1 at *
  refine pureCall_ofR dh6 rfl ?_
  conv=>whnf
  repeat' (first
   |(refine ⟨fun hg=>?_,fun hg=>?_⟩<;>first|contradiction|(replace hg:=of_decide_eq_true hg;first|(exfalso;omega;done)|(conv=>whnf))|(replace hg:=of_decide_eq_false hg;first|(exfalso;omega;done)|(conv=>whnf))|(skip;conv=>whnf)|(conv=>whnf))
   |(refine Or.inl ?_;conv=>whnf)
   |(refine ⟨_,k0,?_⟩;conv=>whnf)
   |(refine ⟨_,j1 ..,?_⟩;conv=>whnf)
   |(refine ⟨_,j2 ..,?_⟩;conv=>whnf)
   |(refine ⟨_,d1 ..,?_⟩;conv=>whnf)
   |(refine ⟨_,d2 ..,?_⟩;conv=>whnf)
   |(refine ⟨_,d3 ..,?_⟩;conv=>whnf)
   |(refine ⟨_,m1 ..,?_⟩;conv=>whnf)
   |(refine ⟨_,m2 ..,?_⟩;conv=>whnf)
   |(refine ⟨_,f2 ..,?_⟩;conv=>whnf)
   |(refine ⟨_,ks0 ..,?_⟩;conv=>whnf)
   |(refine ⟨_,kt0 ..,?_⟩;conv=>whnf)
   |(refine ⟨_,aw ..,?_⟩;conv=>whnf)
   |(refine And.intro ?_ ?_;kernel_rfl;conv=>whnf))
  all_goals first
   |rfl
   |(exfalso;simp_all;done)
   |trace_state
end Sh
