/-
  Chapter 9's functions, walked over pure data: the library of the walk, the functions' code over data, and what each computes. (part 7)
-/
import Derived.Test.YtjgckckimeldeaaGreatDoorP6
import Derived.ChangeArms
import Derived.ChangeSame
import Derived.OpenShut
import Derived.WideShapes
import Derived.FnData
import Derived.LaidMore
import Derived.DataReads
import Derived.ProofKit
import Derived.Carry
import Derived.HandedShaped
import Derived.Shelf.Vars
import Derived.Stop.Joined
import Derived.Deep.DeepHandedRow
import Derived.Lib.LaidTab
import Derived.MakeChecks
import Derived.LaidSub
import Derived.LaidHandle
import Derived.Test.YtjgckckimeldeaaGreatDoorProg
import Derived.Lib.ItoaNum
import Derived.Lib.ItoaLen
import Derived.Lib.MapLaws
import Derived.Lib.Bytealg
import Derived.Lib.Join
import Derived.Lib.Strings
set_option linter.unusedVariables false
set_option linter.unusedSimpArgs false
namespace Sh
open Go
theorem memOf_holds (W:World):(memOf W).holds W:=fun _ _ _ h=>h
theorem calls_of_pure {G:Nat→Option DV} {f:FuncId} {ds:List DV} {d:DV} {P:Program} (h:PureCall P G f ds d) {W:World} {vs:Array Value} (hG:GOk G (memOf W)) (hT:Tabs G W) (hr:RelPs (memOf W) ds vs) :
  Calls P f vs W fun e w'=>∃ v M',e=.returned v∧M'.holds w'∧RelP M' d v∧RowKit.Below W.heap.size W w':=by
 have h1:=h.2 Fence.wide 0 ⟨fun _=>trivial,rfl⟩ rfl rfl (memOf W) W vs hG hT (memOf_holds W) hr
 refine (callsIn_wide.1 h1).mono fun e w' ⟨v,M',a,_,b,c,d,_⟩=>⟨v,M',a,b,c,d⟩
section
variable {H:Type} {enc:TypeId×Value→H} {P:Program} {W:World}
theorem arg_struct {t:TypeId} {fs:Array Field} {α:Type} {e:α→List DV} {B:α→Prop} {v:Value} {d:DataW H} {p:List MemPlace} {base b0:Nat} {sp:Nat→Bool} {hd:Bool} (ht:P.underlying t=some (.struct fs)) (k:Opens enc P W t e B)
  (hv:Value.okWide P W .any b0 t v) (h:DataW.Trod enc P W base sp hd t v d p):∃ a,RelP (memOf W) (.agg (e a)) v∧B a:=by
 obtain ⟨cs,rfl,hsz⟩:=WideShapes.okWide_struct ht hv
 obtain ⟨fuel,hf⟩:=h
 obtain ⟨a,h1,h2⟩:=k _ _ _ _ _ _ hf
 refine ⟨a,.agg _ _ (by simpa [Value.cells] using h1.1) (fun i hi=>?_),h2⟩
 have:=h1.2 i hi
 simpa [Value.cells,List.getD_eq_getElem?_getD,Array.getD_eq_getD_getElem?] using this
theorem arg_slice {t e:TypeId} {α:Type} {f:α→DV} {B:α→Prop} {v:Value} {d:DataW H} {p:List MemPlace} {base b0:Nat} {sp:Nat→Bool} {hd:Bool} (ht:P.underlying t=some (.slice e)) (k:Opens enc P W t (fun a=>[f a]) B)
  (hv:Value.okWide P W .any b0 t v) (h:DataW.Trod enc P W base sp hd t v d p):∃ a,RelP (memOf W) (f a) v∧B a:=by
 obtain ⟨a,len,cap,rfl⟩:=WideShapes.okWide_slice ht hv
 obtain ⟨fuel,hf⟩:=h
 obtain ⟨a,h1,h2⟩:=k _ _ _ _ _ _ hf
 exact ⟨a,h1.2 0 (by simp),h2⟩
theorem arg_int {t:TypeId} {k:IntKind} {v:Value} {d:DataW H} {p:List MemPlace} {base b0:Nat} {sp:Nat→Bool} {hd:Bool} (ht:P.underlying t=some (.int k))
  (hv:Value.okWide P W .any b0 t v) (h:DataW.Trod enc P W base sp hd t v d p):∃ n,v=.int k n∧(Lit.int k n).wf=true:=by
 obtain ⟨n,rfl⟩:=WideShapes.okWide_int ht hv
 obtain ⟨fuel,hf⟩:=h
 obtain ⟨m,e,_,hw⟩:=DataW.trod_int ht hf
 simp only [Value.cells,List.cons.injEq,Value.int.injEq] at e
 exact ⟨n,rfl,by rw [e.1.2];exact hw⟩
theorem relPs_of {M:Mem} {ds:List DV} {vs:List Value} (h:RelL M ds vs):RelPs M ds vs.toArray:=by
 refine ⟨by simpa using h.1,fun i hi=>?_⟩
 have:=h.2 i hi
 simpa [List.getD_eq_getElem?_getD,Array.getD_eq_getD_getElem?] using this
end
end Sh

namespace Sh
open Go Go.Proofs
section
variable {H:Type} {enc:TypeId×Value→H} {P:Program} {W:World}
theorem handed_shaped {a:Assume} {C:Checked} {os:Os} {f:FuncId} {fn:Func} {s:ChangeSpec} {conds:List PathCond} {apart fresh handsOn again:Bool} {X:World→Array Value→Prop}
  (hX:∀ (w w':World) (args:Array Value),w.heap=w'.heap→X w args→X w' args)
  (own:ownKnob C.prog.godebug=none) (started:os.Started) (noInit:C.prog.inits.idxOf? f=none) (hfn:C.prog.funcs[f]?=some fn)
  (witness:∃ (w:World) (tape:Tape) (i:Input),w.os=os∧(w.forCall tape i).Shaped C.prog∧i.vars=[]∧Input.okWide C.prog (w.forCall tape i) .any w.heap.size f i ∧
    ((s.pre enc C.prog fn conds apart (w.forCall tape i).memory i.args∧X (w.forCall tape i).memory i.args)∧sizedMet enc C.prog fn (OpenSpec.ofChange s) apart (w.forCall tape i).memory i.args)∧a.holds C.prog (lone (Frame.enter C.prog f i.args .normal) [] (w.forCall tape i)))
  (contract:∀ (W:World) (base:Nat) (args:Array Value) (ds gs:List (DataW H)) (before:List MemPlace),
    (∀ (j:Nat) t v,fn.params[j]?=some t→args[j]?=some v→Value.okWide C.prog W .any base t v) →
    DataW.Whole enc C.prog fn.params.toList s.vars apart W args.toList ds gs before→X W args→W.ShapedOpen C.prog →
    Calls C.prog f args W fun e W'=>∃ v,e=.returned v∧s.post enc C.prog fn apart fresh handsOn again W args v W') :
  ReturnsInHanded a C os f .any (fun w args=>(s.pre enc C.prog fn conds apart w args∧X w args)∧sizedMet enc C.prog fn (OpenSpec.ofChange s) apart w args) (s.post enc C.prog fn apart fresh handsOn again):=by
 refine returnsInHanded_of_calls own started noInit witness ?_
 intro w tape i _ hsh _ hok hpre hholds
 obtain ⟨_,_,_,fn',hfn',_,_,_,_,hval⟩:=hok
 have e:fn'=fn:=Option.some.inj (hfn'.symm.trans hfn)
 subst e
 obtain ⟨⟨⟨ds,gs,before,hw,hc⟩,hx⟩,hz⟩:=hpre
 have hw':=DataW.Whole.of_heap (w':=w.forCall tape i) (by rfl) hw
 refine (contract (w.forCall tape i) w.heap.size i.args ds gs before hval hw' (hX _ _ _ (by rfl) hx) hsh).mono fun e W' ⟨v,he,hp⟩=>?_
 subst he
 exact ChangeSpec.post_blind hp
end
section
open Go.RowKit Go.WideShapes Go.ChangeShapes
variable {H:Type} {enc:TypeId×Value→H} {P:Program}
theorem postOfBelow {f:Func} {s:ChangeSpec} {apart fresh handsOn again:Bool} {W W':World} {args:Array Value} {v:Value} {ds gs:List (DataW H)} {before pa pv:List MemPlace}
  (hW:DataW.Whole enc P f.params.toList s.vars apart W args.toList ds gs before)
  (hres:∀ (b:Nat) (sp:Nat→Bool) (hd:Bool),DataW.TrodAll enc P W' b sp hd f.resultTypes.toList (v.resultList f.resultTypes.size) (s.fn H (ds++gs)).results [])
  (hargs:∀ sp:Nat→Bool,(∀ p ∈ before,sp p.block=true)→DataW.TrodAll enc P W' 0 sp true f.params.toList args.toList (s.fn H (ds++gs)).args pa)
  (hvars:∀ sp:Nat→Bool,(∀ p ∈ before,sp p.block=true)→DataW.TrodVars enc P W' sp s.vars (s.fn H (ds++gs)).vars pv)
  (hps:before=pa++pv) (hb:Below W.heap.size W W')
  (hok:∀ (j:Nat) (t:TypeId) (r:Value),f.resultTypes[j]?=some t→(v.resultList f.resultTypes.size)[j]?=some r→Value.okWide P W' .any 0 t r) :
  s.post enc P f apart fresh handsOn again W args v W':=by
 have hlt:∀ p ∈ before,p.block < W.heap.size:=fun p hp=>hW.lt p hp
 have hold:∀ p ∈ before,(fun b=>decide (b < W.heap.size)) p.block=true:=fun p hp=>by simpa using hlt p hp
 refine ⟨ds,gs,before,[],pa,pv,hW,hres _ _ _,hargs _ hold,hvars _ hold,World.keptBut_mono (fun p hp=>⟨hp,?_⟩) (hb.frame (· ∈ before)),fun _=>?_⟩
 ·rw [hps,List.mem_append] at hp
  exact Or.inr hp
 ·obtain ⟨_,_,_,_,_,hz,hn⟩:=hW
  refine ⟨hok,_,_,([]++pa)++pv,⟨[]++pa,pv,trodAll_append (hargs _ (fun _ _=>rfl)) (hres _ _ _),hvars _ (fun _ _=>rfl),rfl,?_,?_⟩,?_⟩
  ·intro b off hp
   have hin:MemPlace.cell b off ∈ before:=by rw [hps];simpa using hp
   rw [hb.frozen (hlt _ hin)]
   exact hz b off hin
  ·intro ha
   have:=hn ha
   rw [hps] at this
   simpa using this
  ·intro p hp _
   rw [hps]
   simpa using hp
theorem trodAll_stays (hl:laidOutB P=true) {W W':World} (hb:Below W.heap.size W W') {sp:Nat→Bool}:∀ {ts:List TypeId} {vs:List Value} {ds:List (DataW H)} {ps:List MemPlace},DataW.TrodAll enc P W 0 (fun _=>true) true ts vs ds ps →
  (ts.all fun t=>P.readableRec t && decide (t < P.types.size))=true→(∀ p ∈ ps,p.block < W.heap.size)→(∀ p ∈ ps,sp p.block=true)→DataW.TrodAll enc P W' 0 sp true ts vs ds ps
 |[],_,_,_,h,_,_,_=>by
  obtain ⟨rfl,rfl,rfl⟩:=trodAll_nil h
  rfl
 |t :: ts,_,_,_,h,ht,hlt,hsp=>by
  obtain ⟨v,vs,d,ds,p,q,rfl,rfl,rfl,h1,h2⟩:=trodAll_cons h
  rw [List.all_cons,Bool.and_eq_true,Bool.and_eq_true] at ht
  exact trodAll_cons_mk (WideElems.Trod_stays hl ht.1.1 (of_decide_eq_true ht.1.2) h1 (fun x hx=>hb.same (hlt x (by simp [hx]))) (fun x hx=>hsp x (by simp [hx])))
   (trodAll_stays hl hb h2 ht.2 (fun x hx=>hlt x (by simp [hx])) (fun x hx=>hsp x (by simp [hx])))
end
end Sh

set_option maxRecDepth 100000
namespace Sh
open Go
def dc18 : DFunc := ⟨6,1,[.tmp 2],sq [oq 2 (.mov (.const (.slice none 0 0)))] (sq [oq 3 (.lit true 1 0 (.int .i64 0) []),mq 4 0,oq 5 (.append true 1 (.tmp 3) (.tmp 4)),mq 2 5] .ret)⟩
theorem dh18:cProg Go.Proofs.Tryz.prog ⟨[],[],[3,5]⟩ 18=some dc18:=by kernel_rfl
def dc20 : DFunc := ⟨5,1,[.tmp 2],sq [oq 2 (.mov (iq 0))] (sq [mq 3 0,oq 4 (.call (.func 88) [.tmp 3]),mq 2 4] .ret)⟩
theorem dh20:cProg Go.Proofs.Tryz.prog ⟨[],[],[]⟩ 20=some dc20:=by kernel_rfl
def dc21 : DFunc := ⟨10,1,[.tmp 2],sq [oq 2 (.mov (iq 0))] (sq [mq 3 0,oq 4 (.len (.tmp 3)),oq 5 (.call (.func 87) [.tmp 4,iq 24]),mq 6 0,oq 7 (.call (.func 90) [.tmp 6,iq 0,iq 1000000]),oq 8 (.lit true 1 2 (.int .i64 0) [(0,(.tmp 5)),(1,(.tmp 7))]),oq 9 (.call (.func 88) [.tmp 8]),mq 2 9] .ret)⟩
theorem dh21:cProg Go.Proofs.Tryz.prog ⟨[],[],[8]⟩ 21=some dc21:=by kernel_rfl
def dc58 : DFunc := ⟨7,2,[.tmp 4],sq [oq 4 (.mov (iq 0))] (.seq (sq [mq 5 0] (.cond (.tmp 5) (sq [mq 6 1,mq 4 6] .ret) .skip)) (sq [oq 4 (.mov (iq 0))] .ret))⟩
theorem dh58:cProg Go.Proofs.Tryz.prog ⟨[],[],[]⟩ 58=some dc58:=by kernel_rfl
end Sh

namespace Sh
open Go
def db62_0 : DC := (sq [oq 9 (.bin .lss (.tmp 8) (.tmp 7))] (.seq (.cond (.tmp 9) .skip (.exit 0)) (.seq (.block 1 none (sq [oq 10 (.iaddr 2 (.tmp 6) (.tmp 8)),oq 11 (.load (some 2) (.tmp 10)),oq 5 (.alloc (.agg [.int .i64 0,.int .i64 0]) 2),nq (.store 2 (.tmp 5) (.tmp 11))] (pq [mq 12 3,oq 13 (.load (some 2) (.tmp 5)),oq 14 (.lit true 2 1 (.agg [.int .i64 0,.int .i64 0]) [(0,(.tmp 13))]),oq 15 (.append false 2 (.tmp 12) (.tmp 14)),mq 3 15]))) (pq [oq 16 (.bin .add (.tmp 8) (iq 1)),mq 8 16]))))
def dk62_0 : Keep := ⟨[(3,2)],[3,6,7,8],[3]⟩
def dc62 : DFunc := ⟨18,1,[.tmp 2],sq [oq 2 (.mov (.const (.slice none 0 0)))] (sq [oq 3 (.mov (.const (.slice none 0 0)))] (.seq (sq [mq 6 0,oq 7 (.len (.tmp 6)),oq 8 (.mov (iq 0))] (.block 0 (some ⟨[],[3],[3]⟩) (.loop dk62_0 db62_0))) (sq [mq 17 3,mq 2 17] .ret)))⟩
theorem dh62:cProg Go.Proofs.Tryz.prog ⟨[(0,⟨[(3,2)],[3,6,7,8],[3]⟩)],[(0,⟨[],[3],[3]⟩)],[14]⟩ 62=some dc62:=by kernel_rfl
def db64_0 : DC := (.seq (sq [mq 12 4,mq 13 0,oq 14 (.len (.tmp 13)),oq 15 (.bin .lss (.tmp 12) (.tmp 14))] (.cond (.tmp 15) .skip (.exit 0))) (.seq (.block 1 none (.seq (.ops true [mq 18 0,mq 19 4,⟨some 20,.iaddr 2 (.tmp 18) (.tmp 19),none,[0,1]⟩,⟨some 21,.faddr 0 1 false (.tmp 20),none,[2,0,1]⟩,⟨some 22,.load none (.tmp 21),none,[3,2,0,1]⟩,⟨some 23,.call (.func 89) [.tmp 22,iq 0,iq 23],none,[4,3,2,0,1]⟩,mq 24 0,mq 25 4,⟨some 26,.iaddr 2 (.tmp 24) (.tmp 25),none,[6,7]⟩,⟨some 27,.faddr 1 1 false (.tmp 26),none,[8,6,7]⟩,⟨some 28,.load none (.tmp 27),none,[9,8,6,7]⟩,⟨some 29,.call (.func 89) [.tmp 28,iq (-100000),iq 100000],none,[10,9,8,6,7,5,4,3,2,0,1]⟩,mq 30 4,⟨some 31,.bin .eql (.tmp 30) (iq 0),none,[12]⟩,⟨some 32,.mov (.tmp 31),none,[13,12,11,10,9,8,6,7,5,4,3,2,0,1]⟩,⟨some 33,.mov (.tmp 0),some (32,true),[14,13,12,11,10,9,8,6,7,5,4,3,2,0,1]⟩,⟨some 34,.mov (.tmp 4),some (32,true),[14,13,12,11,10,9,8,6,7,5,4,3,2,0,1]⟩,⟨some 35,.iaddr 2 (.tmp 33) (.tmp 34),some (32,true),[15,14,13,12,11,10,9,8,6,7,5,4,3,2,0,1,16]⟩,⟨some 36,.faddr 0 1 false (.tmp 35),some (32,true),[17,15,14,13,12,11,10,9,8,6,7,5,4,3,2,0,1,16]⟩,⟨some 37,.load none (.tmp 36),some (32,true),[18,17,15,14,13,12,11,10,9,8,6,7,5,4,3,2,0,1,16]⟩,⟨some 38,.bin .neq (.tmp 37) (iq 0),some (32,true),[19,18,17,15,14,13,12,11,10,9,8,6,7,5,4,3,2,0,1,16]⟩,⟨some 39,.pick (.tmp 32) (.tmp 38) (bq false),none,[14,13,12,11,10,9,8,6,7,5,4,3,2,0,1,20,19,18,17,15,16]⟩,⟨some 40,.mov (.tmp 39),none,[21,14,13,12,11,10,9,8,6,7,5,4,3,2,0,1,20,19,18,17,15,16]⟩,⟨some 41,.mov (.tmp 4),some (40,false),[22,21,14,13,12,11,10,9,8,6,7,5,4,3,2,0,1,20,19,18,17,15,16]⟩,⟨some 42,.bin .gtr (.tmp 41) (iq 0),some (40,false),[23,22,21,14,13,12,11,10,9,8,6,7,5,4,3,2,0,1,20,19,18,17,15,16]⟩,⟨some 43,.mov (.tmp 42),some (40,false),[24,23,22,21,14,13,12,11,10,9,8,6,7,5,4,3,2,0,1,20,19,18,17,15,16]⟩,⟨some 44,.mov (.tmp 0),some (43,true),[25,24,23,22,21,14,13,12,11,10,9,8,6,7,5,4,3,2,0,1,20,19,18,17,15,16]⟩,⟨some 45,.mov (.tmp 4),some (43,true),[25,24,23,22,21,14,13,12,11,10,9,8,6,7,5,4,3,2,0,1,20,19,18,17,15,16]⟩,⟨some 46,.iaddr 2 (.tmp 44) (.tmp 45),some (43,true),[26,25,24,23,22,21,14,13,12,11,10,9,8,6,7,5,4,3,2,0,1,20,19,18,17,15,16,27]⟩,⟨some 47,.faddr 0 1 false (.tmp 46),some (43,true),[28,26,25,24,23,22,21,14,13,12,11,10,9,8,6,7,5,4,3,2,0,1,20,19,18,17,15,16,27]⟩,⟨some 48,.load none (.tmp 47),some (43,true),[29,28,26,25,24,23,22,21,14,13,12,11,10,9,8,6,7,5,4,3,2,0,1,20,19,18,17,15,16,27]⟩,⟨some 49,.mov (.tmp 0),some (43,true),[25,24,23,22,21,14,13,12,11,10,9,8,6,7,5,4,3,2,0,1,20,19,18,17,15,16]⟩,⟨some 50,.mov (.tmp 4),some (43,true),[25,24,23,22,21,14,13,12,11,10,9,8,6,7,5,4,3,2,0,1,20,19,18,17,15,16]⟩,⟨some 51,.bin .sub (.tmp 50) (iq 1),some (43,true),[32,25,24,23,22,21,14,13,12,11,10,9,8,6,7,5,4,3,2,0,1,20,19,18,17,15,16]⟩,⟨some 52,.minmax true (iq 0) [.tmp 51],some (43,true),[33,32,25,24,23,22,21,14,13,12,11,10,9,8,6,7,5,4,3,2,0,1,20,19,18,17,15,16]⟩,⟨some 53,.iaddr 2 (.tmp 49) (.tmp 52),some (43,true),[31,25,24,23,22,21,14,13,12,11,10,9,8,6,7,5,4,3,2,0,1,20,19,18,17,15,16,34,33,32]⟩,⟨some 54,.faddr 0 1 false (.tmp 53),some (43,true),[35,31,25,24,23,22,21,14,13,12,11,10,9,8,6,7,5,4,3,2,0,1,20,19,18,17,15,16,34,33,32]⟩,⟨some 55,.load none (.tmp 54),some (43,true),[36,35,31,25,24,23,22,21,14,13,12,11,10,9,8,6,7,5,4,3,2,0,1,20,19,18,17,15,16,34,33,32]⟩,⟨some 56,.bin .leq (.tmp 48) (.tmp 55),some (43,true),[30,29,28,26,25,24,23,22,21,14,13,12,11,10,9,8,6,7,5,4,3,2,0,1,20,19,18,17,15,16,27,37,36,35,31,34,33,32]⟩,⟨some 57,.pick (.tmp 43) (.tmp 56) (bq false),some (40,false),[25,24,23,22,21,14,13,12,11,10,9,8,6,7,5,4,3,2,0,1,20,19,18,17,15,16,38,30,29,28,26,27,37,36,35,31,34,33,32]⟩,⟨some 58,.pick (.tmp 40) (bq true) (.tmp 57),none,[22,21,14,13,12,11,10,9,8,6,7,5,4,3,2,0,1,20,19,18,17,15,16,39,25,24,23,38,30,29,28,26,27,37,36,35,31,34,33,32]⟩,⟨some 59,.call (.func 58) [.tmp 58,iq 11],none,[40,22,21,14,13,12,11,10,9,8,6,7,5,4,3,2,0,1,20,19,18,17,15,16,39,25,24,23,38,30,29,28,26,27,37,36,35,31,34,33,32]⟩,⟨some 60,.lit true 1 3 (.int .i64 0) [(0,(.tmp 23)),(1,(.tmp 29)),(2,(.tmp 59))],none,[5,4,3,2,0,1,11,10,9,8,6,7,41,40,22,21,14,13,12,20,19,18,17,15,16,39,25,24,23,38,30,29,28,26,27,37,36,35,31,34,33,32]⟩,⟨some 61,.call (.func 88) [.tmp 60],none,[42,5,4,3,2,0,1,11,10,9,8,6,7,41,40,22,21,14,13,12,20,19,18,17,15,16,39,25,24,23,38,30,29,28,26,27,37,36,35,31,34,33,32]⟩,⟨some 5,.mov (.tmp 61),none,[43,42,5,4,3,2,0,1,11,10,9,8,6,7,41,40,22,21,14,13,12,20,19,18,17,15,16,39,25,24,23,38,30,29,28,26,27,37,36,35,31,34,33,32]⟩]) (sq [mq 62 5,oq 63 (.bin .neq (.tmp 62) (iq 0))] (.cond (.tmp 63) (sq [mq 64 5,mq 2 64] .ret) .skip)))) (pq [mq 16 4,oq 17 (.bin .add (.tmp 16) (iq 1)),mq 4 17])))
def dk64_0 : Keep := ⟨[],[0,4],[]⟩
def dc64 : DFunc := ⟨65,1,[.tmp 2],sq [oq 2 (.mov (iq 0))] (.seq (sq [mq 6 0,oq 7 (.len (.tmp 6)),oq 8 (.call (.func 87) [.tmp 7,iq 8]),mq 3 8] (sq [mq 9 3,oq 10 (.bin .neq (.tmp 9) (iq 0))] (.cond (.tmp 10) (sq [mq 11 3,mq 2 11] .ret) .skip))) (.seq (sq [oq 4 (.mov (iq 0))] (.block 0 (some ⟨[],[],[]⟩) (.loop dk64_0 db64_0))) (sq [oq 2 (.mov (iq 0))] .ret)))⟩
theorem dh64:cProg Go.Proofs.Tryz.prog ⟨[(0,⟨[],[0,4],[]⟩)],[(0,⟨[],[],[]⟩)],[60]⟩ 64=some dc64:=by kernel_rfl
def dc65 : DFunc := ⟨5,1,[.tmp 2],sq [oq 2 (.mov (iq 0))] (sq [mq 3 0,oq 4 (.call (.func 89) [.tmp 3,iq 1,iq 24]),mq 2 4] .ret)⟩
theorem dh65:cProg Go.Proofs.Tryz.prog ⟨[],[],[]⟩ 65=some dc65:=by kernel_rfl
def dc66 : DFunc := ⟨15,2,[.tmp 4],sq [oq 4 (.mov (iq 0))] (sq [mq 5 1,oq 6 (.len (.tmp 5)),mq 7 0,oq 8 (.len (.tmp 7)),oq 9 (.bin .neq (.tmp 6) (.tmp 8)),oq 10 (.call (.func 58) [.tmp 9,iq 2]),mq 11 1,oq 12 (.call (.func 90) [.tmp 11,iq (-100000),iq 100000]),oq 13 (.lit true 1 2 (.int .i64 0) [(0,(.tmp 10)),(1,(.tmp 12))]),oq 14 (.call (.func 88) [.tmp 13]),mq 4 14] .ret)⟩
theorem dh66:cProg Go.Proofs.Tryz.prog ⟨[],[],[13]⟩ 66=some dc66:=by kernel_rfl
def dc67 : DFunc := ⟨5,1,[.tmp 2],sq [oq 2 (.mov (iq 0))] (sq [mq 3 0,oq 4 (.call (.func 89) [.tmp 3,iq 0,iq 999]),mq 2 4] .ret)⟩
theorem dh67:cProg Go.Proofs.Tryz.prog ⟨[],[],[]⟩ 67=some dc67:=by kernel_rfl
def db68_0 : DC := (.seq (sq [mq 18 8,mq 19 0,oq 20 (.len (.tmp 19)),oq 21 (.bin .lss (.tmp 18) (.tmp 20))] (.cond (.tmp 21) .skip (.exit 2))) (.seq (.block 3 none (sq [mq 24 0,mq 25 8,oq 26 (.iaddr 2 (.tmp 24) (.tmp 25)),oq 27 (.faddr 0 1 false (.tmp 26)),oq 28 (.load none (.tmp 27)),mq 29 6,oq 30 (.bin .leq (.tmp 28) (.tmp 29))] (.cond (.tmp 30) (pq [mq 31 0,mq 32 8,oq 33 (.iaddr 2 (.tmp 31) (.tmp 32)),oq 34 (.faddr 1 1 false (.tmp 33)),oq 35 (.load none (.tmp 34)),mq 7 35]) .skip))) (pq [mq 22 8,oq 23 (.bin .add (.tmp 22) (iq 1)),mq 8 23])))
def dk68_0 : Keep := ⟨[],[0,1,5,6,7,8],[5,38,39]⟩
def db68_1 : DC := (.seq (sq [mq 9 6,mq 10 1,oq 11 (.bin .lss (.tmp 9) (.tmp 10))] (.cond (.tmp 11) .skip (.exit 0))) (.seq (.block 1 (some ⟨[],[0,1,5,6],[5]⟩) (sq [mq 14 0,oq 15 (.iaddr 2 (.tmp 14) (iq 0)),oq 16 (.faddr 1 1 false (.tmp 15)),oq 17 (.load none (.tmp 16)),mq 7 17] (.seq (sq [oq 8 (.mov (iq 0))] (.block 2 (some ⟨[],[0,1,5,6,7],[5,38,39]⟩) (.loop dk68_0 db68_0))) (pq [mq 36 5,mq 37 7,oq 38 (.lit true 1 1 (.int .i64 0) [(0,(.tmp 37))]),oq 39 (.append false 1 (.tmp 36) (.tmp 38)),mq 5 39])))) (pq [mq 12 6,oq 13 (.bin .add (.tmp 12) (iq 1)),mq 6 13])))
def dk68_1 : Keep := ⟨[(5,1)],[0,1,5,6],[5]⟩
def dc68 : DFunc := ⟨41,2,[.tmp 4],sq [oq 4 (.mov (.const (.slice none 0 0)))] (sq [oq 5 (.mov (.const (.slice none 0 0)))] (.seq (sq [oq 6 (.mov (iq 0))] (.block 0 (some ⟨[],[5],[5]⟩) (.loop dk68_1 db68_1))) (sq [mq 40 5,mq 4 40] .ret)))⟩
theorem dh68:cProg Go.Proofs.Tryz.prog ⟨[(0,⟨[(5,1)],[0,1,5,6],[5]⟩),(2,⟨[],[0,1,5,6,7,8],[5,38,39]⟩)],[(2,⟨[],[0,1,5,6,7],[5,38,39]⟩),(1,⟨[],[0,1,5,6],[5]⟩),(0,⟨[],[5],[5]⟩)],[38]⟩ 68=some dc68:=by kernel_rfl
def db69_0 : DC := (.seq (sq [mq 14 10,mq 15 0,oq 16 (.len (.tmp 15)),oq 17 (.bin .lss (.tmp 14) (.tmp 16))] (.cond (.tmp 17) .skip (.exit 0))) (.seq (.block 1 none (.seq (.ops true [mq 20 0,mq 21 10,⟨some 22,.iaddr 1 (.tmp 20) (.tmp 21),none,[0,1]⟩,⟨some 23,.load none (.tmp 22),none,[2,0,1]⟩,mq 24 1,mq 25 10,⟨some 26,.iaddr 1 (.tmp 24) (.tmp 25),none,[4,5]⟩,⟨some 27,.load none (.tmp 26),none,[6,4,5]⟩,⟨some 28,.bin .mul (.tmp 23) (.tmp 27),none,[3,2,0,1,7,6,4,5]⟩,mq 29 9,⟨some 30,.bin .add (.tmp 28) (.tmp 29),none,[8,3,2,0,1,7,6,4,5,9]⟩,⟨some 11,.mov (.tmp 30),none,[10,8,3,2,0,1,7,6,4,5,9]⟩]) (sq [mq 31 11,oq 32 (.call (.func 124) [.tmp 31,iq 1000]),mq 12 32] (sq [mq 33 8,mq 34 12,oq 35 (.lit true 1 1 (.int .i64 0) [(0,(.tmp 34))]),oq 36 (.append false 1 (.tmp 33) (.tmp 35)),mq 8 36] (pq [mq 37 11,mq 38 12,oq 39 (.bin .mul (.tmp 38) (iq 1000)),oq 40 (.bin .sub (.tmp 37) (.tmp 39)),mq 9 40]))))) (pq [mq 18 10,oq 19 (.bin .add (.tmp 18) (iq 1)),mq 10 19])))
def dk69_0 : Keep := ⟨[(8,1)],[0,1,8,9,10],[8]⟩
def dc69 : DFunc := ⟨43,3,[.tmp 6,.tmp 7],sq [oq 6 (.mov (.const (.slice none 0 0))),oq 7 (.mov (iq 0))] (sq [oq 8 (.mov (.const (.slice none 0 0)))] (sq [mq 13 2,mq 9 13] (.seq (sq [oq 10 (.mov (iq 0))] (.block 0 (some ⟨[],[8,9],[8]⟩) (.loop dk69_0 db69_0))) (sq [mq 41 8,mq 42 9,mq 6 41,mq 7 42] .ret))))⟩
theorem dh69:cProg Go.Proofs.Tryz.prog ⟨[(0,⟨[(8,1)],[0,1,8,9,10],[8]⟩)],[(0,⟨[],[8,9],[8]⟩)],[35]⟩ 69=some dc69:=by kernel_rfl
def dc87 : DFunc := ⟨14,2,[.tmp 4],sq [oq 4 (.mov (iq 0))] (sq [mq 5 0,oq 6 (.bin .eql (.tmp 5) (iq 0)),oq 7 (.call (.func 58) [.tmp 6,iq 12]),mq 8 0,mq 9 1,oq 10 (.bin .gtr (.tmp 8) (.tmp 9)),oq 11 (.call (.func 58) [.tmp 10,iq 5]),oq 12 (.lit true 1 2 (.int .i64 0) [(0,(.tmp 7)),(1,(.tmp 11))]),oq 13 (.call (.func 88) [.tmp 12]),mq 4 13] .ret)⟩
theorem dh87:cProg Go.Proofs.Tryz.prog ⟨[],[],[12]⟩ 87=some dc87:=by kernel_rfl
def db88_0 : DC := (.seq (sq [mq 4 3,mq 5 0,oq 6 (.len (.tmp 5)),oq 7 (.bin .lss (.tmp 4) (.tmp 6))] (.cond (.tmp 7) .skip (.exit 0))) (.seq (.block 1 none (sq [mq 10 0,mq 11 3,oq 12 (.iaddr 1 (.tmp 10) (.tmp 11)),oq 13 (.load none (.tmp 12)),oq 14 (.bin .neq (.tmp 13) (iq 0))] (.cond (.tmp 14) (sq [mq 15 0,mq 16 3,oq 17 (.iaddr 1 (.tmp 15) (.tmp 16)),oq 18 (.load none (.tmp 17)),mq 2 18] .ret) .skip))) (pq [mq 8 3,oq 9 (.bin .add (.tmp 8) (iq 1)),mq 3 9])))
def dk88_0 : Keep := ⟨[],[0,3],[]⟩
def dc88 : DFunc := ⟨19,1,[.tmp 2],sq [oq 2 (.mov (iq 0))] (.seq (sq [oq 3 (.mov (iq 0))] (.block 0 (some ⟨[],[],[]⟩) (.loop dk88_0 db88_0))) (sq [oq 2 (.mov (iq 0))] .ret))⟩
theorem dh88:cProg Go.Proofs.Tryz.prog ⟨[(0,⟨[],[0,3],[]⟩)],[(0,⟨[],[],[]⟩)],[]⟩ 88=some dc88:=by kernel_rfl
def dc89 : DFunc := ⟨16,3,[.tmp 6],sq [oq 6 (.mov (iq 0))] (sq [mq 7 0,mq 8 1,oq 9 (.bin .lss (.tmp 7) (.tmp 8)),mq 10 9,gq 11 (.mov (.tmp 0)) 10 false,gq 12 (.mov (.tmp 2)) 10 false,gq 13 (.bin .gtr (.tmp 11) (.tmp 12)) 10 false,oq 14 (.pick (.tmp 10) (bq true) (.tmp 13)),oq 15 (.call (.func 58) [.tmp 14,iq 3]),mq 6 15] .ret)⟩
theorem dh89:cProg Go.Proofs.Tryz.prog ⟨[],[],[]⟩ 89=some dc89:=by kernel_rfl
def db90_0 : DC := (.seq (sq [mq 9 7,mq 10 0,oq 11 (.len (.tmp 10)),oq 12 (.bin .lss (.tmp 9) (.tmp 11))] (.cond (.tmp 12) .skip (.exit 0))) (.seq (.block 1 none (sq [mq 15 0,mq 16 7,oq 17 (.iaddr 1 (.tmp 15) (.tmp 16)),oq 18 (.load none (.tmp 17)),mq 19 1,mq 20 2,oq 21 (.call (.func 89) [.tmp 18,.tmp 19,.tmp 20]),mq 8 21] (sq [mq 22 8,oq 23 (.bin .neq (.tmp 22) (iq 0))] (.cond (.tmp 23) (sq [mq 24 8,mq 6 24] .ret) .skip)))) (pq [mq 13 7,oq 14 (.bin .add (.tmp 13) (iq 1)),mq 7 14])))
def dk90_0 : Keep := ⟨[],[0,1,2,7],[]⟩
def dc90 : DFunc := ⟨25,3,[.tmp 6],sq [oq 6 (.mov (iq 0))] (.seq (sq [oq 7 (.mov (iq 0))] (.block 0 (some ⟨[],[],[]⟩) (.loop dk90_0 db90_0))) (sq [oq 6 (.mov (iq 0))] .ret))⟩
theorem dh90:cProg Go.Proofs.Tryz.prog ⟨[(0,⟨[],[0,1,2,7],[]⟩)],[(0,⟨[],[],[]⟩)],[]⟩ 90=some dc90:=by kernel_rfl
def dc124 : DFunc := ⟨17,2,[.tmp 4],sq [oq 4 (.mov (iq 0))] (sq [mq 6 0,mq 7 1,oq 8 (.bin .quo (.tmp 6) (.tmp 7)),mq 5 8] (.seq (sq [mq 9 5,mq 10 1,oq 11 (.bin .mul (.tmp 9) (.tmp 10)),mq 12 0,oq 13 (.bin .gtr (.tmp 11) (.tmp 12))] (.cond (.tmp 13) (pq [mq 14 5,oq 15 (.bin .sub (.tmp 14) (iq 1)),mq 5 15]) .skip)) (sq [mq 16 5,mq 4 16] .ret)))⟩
theorem dh124:cProg Go.Proofs.Tryz.prog ⟨[],[],[]⟩ 124=some dc124:=by kernel_rfl
end Sh

namespace Sh
open Go
def floorW (n d:Int):Int:=if n < W (W (n.tdiv d) * d) then W (W (n.tdiv d) - 1) else W (n.tdiv d)
section
variable {ev:Operand→DV} {lk:Nat→Option DObj} {o kk q i:Nat} {ks:List Nat} {z v:DV} {m k x:Operand} {es:List (DV×DV)}
end
end Sh

namespace Sh
open Go Go.Proofs
theorem q_When (b:Bool) (e:Int):PC 58 [.bool b,DV.int .i64 (e)] (DV.int .i64 (whenE b e)):=by
 refine pureCall_ofR dh58 rfl ?_
 conv=>whnf
 refine ⟨fun hb=>?_,fun hb=>?_⟩<;>try (exact absurd hb (by decide))
 all_goals conv=>whnf
 all_goals subst hb;rfl
theorem q_CheckRange (n l h:Int):PC 89 [DV.int .i64 (n),DV.int .i64 (l),DV.int .i64 (h)] (DV.int .i64 (withE n l h)):=by
 refine pureCall_ofR dh89 rfl ?_
 conv=>whnf
 refine ⟨fun hb=>?_,fun hb=>?_⟩<;>try (exact absurd hb (by decide))
 all_goals conv=>whnf
 ·refine .inl ?_
  conv=>whnf
  refine ⟨_,q_When ..,?_⟩
  conv=>whnf
  exact int_eq (by simp_all [withE,whenE];split<;>split<;>omega)
 ·refine .inl ?_
  conv=>whnf
  refine ⟨_,q_When ..,?_⟩
  conv=>whnf
  exact int_eq (by simp_all [withE,whenE])
theorem q_First (l:List Int) (hl:l.length < 4611686018427387904):PC 88 [iL l] (DV.int .i64 (firstE l)):=by
 refine pureCall_ofR dh88 rfl ?_
 conv=>whnf
 refine dwp_loopR (P:=Tryz.prog) (G:=GC) (k:=dk88_0) (b:=db88_0) (α:=Nat) (fun i=>[(0,iL l),(3,DV.int .i64 (i))]) (fun _=>[]) (fun i=>i≤l.length∧firstE l=firstE (l.drop i)) (fun i=>l.length - i) 0 ⟨rfl,rfl,rfl⟩ ⟨Nat.zero_le _,rfl⟩ ?_
 intro i ⟨h1,h2⟩
 conv=>whnf
 refine ⟨fun hb=>?_,fun hb=>?_⟩<;>try (exact absurd hb (by decide))
 ·have hi:i < l.length:=by simpa using hb
  have hd:=firstE_drop l i hi
  conv=>whnf
  rw [getD_enc _ _ (i) 0 hi]
  refine ⟨idxA hi rfl,?_⟩
  conv=>whnf
  refine ⟨fun hb=>?_,fun hb=>?_⟩<;>try (exact absurd hb (by decide))
  ·conv=>whnf
   rw [getD_enc _ _ (i) 0 hi]
   refine ⟨idxA hi rfl,?_⟩
   conv=>whnf
   exact int_eq (by simp_all)
  ·conv=>whnf
   rw [wrap_succ i (by omega)]
   exact ⟨i+1,rfl,rfl,rfl,⟨hi,by simp_all⟩,by omega⟩
 ·conv=>whnf
  have:i=l.length:=by simp at hb;omega
  subst this
  exact int_eq (by rw [h2];simp [firstE])
end Sh

namespace Sh
open Go
def chkFit (u p:List Int):Int:=firstE [whenE (decide ((p.length:Int)≠u.length)) 2,firstE (p.map prE)]
end Sh

namespace Sh
open Go Go.Proofs
theorem r_counted (n m:Int):PC 87 [DV.int .i64 (n),DV.int .i64 (m)] (DV.int .i64 (countE n m)):=by
 refine pureCall_ofR dh87 rfl ?_
 conv=>whnf
 repeat' (first
  |(refine ⟨fun hg=>?_,fun hg=>?_⟩<;>first|contradiction|(conv=>whnf))
  |(refine Or.inl ?_;conv=>whnf)
  |(refine ⟨_,q_When ..,?_⟩;conv=>whnf)
  |(refine ⟨_,q_First [_,_] (by simp),?_⟩;conv=>whnf)
  |(refine And.intro ?_ ?_;kernel_rfl;conv=>whnf))
 rfl
theorem r_numbers (l:List Int) (lo hi:Int) (hl:l.length < 1073741824):PC 90 [iL l,DV.int .i64 (lo),DV.int .i64 (hi)] (DV.int .i64 (firstE (l.map fun n=>withE n lo hi))):=by
 have e0:((l.map (DV.int .i64)).length:Int)=l.length:=by simp
 refine pureCall_ofR dh90 rfl ?_
 conv=>whnf
 refine dwp_loopU (P:=Tryz.prog) (G:=GC) (k:=dk90_0) (b:=db90_0) (α:=Nat) (fun i=>[(7,DV.int .i64 (i))]) (fun _=>[]) (fun i=>i≤l.length∧firstE (l.map fun n=>withE n lo hi)=firstE ((l.map fun n=>withE n lo hi).drop i)) (fun i=>l.length - i) 0 ⟨Nat.zero_le _,rfl⟩ ?_
 conv=>whnf
 refine ⟨rfl,rfl,?_⟩
 conv=>whnf
 refine ⟨rfl,?_⟩
 intro i ⟨h1,h2⟩
 conv=>whnf
 refine ⟨fun hb=>?_,fun hb=>?_⟩
 ·have hi':i < l.length:=by simpa using hb
  have hd:=firstE_drop (l.map fun n=>withE n lo hi) i (by simpa using hi')
  rw [show (l.map fun n=>withE n lo hi).getD i 0=withE (l.getD i 0) lo hi by simp [List.getD_eq_getElem?_getD,hi']] at hd
  clear hb
  conv=>whnf
  rw [getD_enc _ _ (i) 0 hi']
  refine ⟨idxA hi' rfl,?_⟩
  conv=>whnf
  repeat' (first
   |(refine ⟨fun hg=>?_,fun hg=>?_⟩<;>first|contradiction|(conv=>whnf))
   |(refine Or.inl ?_;conv=>whnf)
   |(refine ⟨_,q_CheckRange ..,?_⟩;conv=>whnf)
   |(refine And.intro ?_ ?_;kernel_rfl;conv=>whnf))
  ·have hg:withE (l.getD i 0) lo hi≠0:=of_decide_eq_true hg
   rw [if_pos hg] at hd
   exact int_eq (by rw [h2,hd])
  ·have hg:¬ withE (l.getD i 0) lo hi≠0:=of_decide_eq_false hg
   rw [if_neg hg] at hd
   rw [wrap_succ i (by omega)]
   exact ⟨i+1,rfl,rfl,rfl,⟨hi',by rw [h2,hd]⟩,by omega⟩
 ·have hi':i=l.length:=by have:=of_decide_eq_false hb;rw [e0] at this;omega
  clear hb
  conv=>whnf
  exact int_eq (by rw [h2,hi',List.drop_of_length_le (by simp)];rfl)
theorem r_CheckUnits (l:List Int) (hl:l.length < 1073741824):PC 21 [iL l] (DV.int .i64 (chkUn l)):=by
 have e0:((l.map (DV.int .i64)).length:Int)=l.length:=by simp
 have k1:=r_numbers l 0 1000000 hl
 refine pureCall_ofR dh21 rfl ?_
 conv=>whnf
 repeat' (first
  |(refine ⟨fun hg=>?_,fun hg=>?_⟩<;>first|contradiction|(conv=>whnf))
  |(refine Or.inl ?_;conv=>whnf)
  |(refine ⟨_,k1,?_⟩;conv=>whnf)
  |(refine ⟨_,r_counted ..,?_⟩;conv=>whnf)
  |(refine ⟨_,q_First [_,_] (by simp),?_⟩;conv=>whnf)
  |(refine And.intro ?_ ?_;kernel_rfl;conv=>whnf))
 refine int_eq ?_
 rw [e0];rfl
theorem r_CheckFit (u p:List Int) (hl:p.length < 1073741824):PC 66 [iL u,iL p] (DV.int .i64 (chkFit u p)):=by
 have e0:∀ l:List Int,((l.map (DV.int .i64)).length:Int)=l.length:=by simp
 have k1:=r_numbers p (-100000) 100000 hl
 refine pureCall_ofR dh66 rfl ?_
 conv=>whnf
 repeat' (first
  |(refine ⟨fun hg=>?_,fun hg=>?_⟩<;>first|contradiction|(conv=>whnf))
  |(refine Or.inl ?_;conv=>whnf)
  |(refine ⟨_,k1,?_⟩;conv=>whnf)
  |(refine ⟨_,q_When ..,?_⟩;conv=>whnf)
  |(refine ⟨_,q_First [_,_] (by simp),?_⟩;conv=>whnf)
  |(refine And.intro ?_ ?_;kernel_rfl;conv=>whnf))
 refine int_eq ?_
 rw [e0,e0];rfl
theorem r_CheckSlots (n:Int):PC 65 [DV.int .i64 (n)] (DV.int .i64 (withE n 1 24)):=by
 refine pureCall_ofR dh65 rfl ?_
 conv=>whnf
 repeat' (first
  |(refine ⟨fun hg=>?_,fun hg=>?_⟩<;>first|contradiction|(conv=>whnf))
  |(refine Or.inl ?_;conv=>whnf)
  |(refine ⟨_,q_CheckRange ..,?_⟩;conv=>whnf)
  |(refine And.intro ?_ ?_;kernel_rfl;conv=>whnf))
 rfl
theorem r_CheckRest (n:Int):PC 67 [DV.int .i64 (n)] (DV.int .i64 (withE n 0 999)):=by
 refine pureCall_ofR dh67 rfl ?_
 conv=>whnf
 repeat' (first
  |(refine ⟨fun hg=>?_,fun hg=>?_⟩<;>first|contradiction|(conv=>whnf))
  |(refine Or.inl ?_;conv=>whnf)
  |(refine ⟨_,q_CheckRange ..,?_⟩;conv=>whnf)
  |(refine And.intro ?_ ?_;kernel_rfl;conv=>whnf))
 rfl
end Sh

namespace Sh
open Go Go.Proofs
theorem l_ints (l:List Int) (hl:l.length < 1073741824):PC 18 [iL l] (iL l):=by
 refine pureCall_ofR dh18 rfl ?_
 conv=>whnf
 refine ⟨⟨by simp;omega,fun e he=>by obtain ⟨q,_,rfl⟩:=List.mem_map.1 he;rfl,fun e he=>by simp at he⟩,?_⟩
 conv=>whnf
 rfl
end Sh

namespace Sh
open Go
theorem prcN_any {l:List Vr} (h:OkVr l) (d e:Int) (i:Nat):∀ k,prcN l d i (k+1)=prcN l e i (k+1)
 |0=>by
  have hz:(l.getD 0 Vr0).fr≤(i:Int):=by rw [h.z];omega
  show (if (l.getD 0 Vr0).fr≤(i:Int) then _ else _)=(if (l.getD 0 Vr0).fr≤(i:Int) then _ else _)
  rw [if_pos hz,if_pos hz]
 |k+1=>by
  show (if _ then _ else prcN l d i (k+1))=(if _ then _ else prcN l e i (k+1))
  rw [prcN_any h d e i k]
theorem prcL_any {l:List Vr} (h:OkVr l) (d e:Int) (n:Nat):prcL l d n l.length=prcL l e n l.length:=by
 unfold prcL
 obtain ⟨k,hk⟩:∃ k,l.length=k+1:=⟨l.length - 1,by have:=h.n0;omega⟩
 rw [hk]
 simp only [prcN_any h d e]
theorem rstN_succ (u p:List Int) (r:Int) (i:Nat):rstN u p r (i+1)=dueN u p r i % 1000:=rfl
end Sh

namespace Sh
open Go Go.Proofs
theorem vrE_0f {l:List Vr} (h:(l.getD 0 Vr0).fr=0):firstE [withE (l.getD 0 Vr0).fr 0 23,withE (l.getD 0 Vr0).pr (-100000) 100000,whenE false 11]=vrE l 0:=by
 unfold vrE vrO
 rw [show (decide (0=0) && decide ((l.getD 0 Vr0).fr≠0) || decide (0 < 0) && decide ((l.getD 0 Vr0).fr≤(l.getD (0 - 1) Vr0).fr))=false by rw [h];rfl]
 rfl
theorem vrE_0t {l:List Vr} (h:(l.getD 0 Vr0).fr≠0):firstE [withE (l.getD 0 Vr0).fr 0 23,withE (l.getD 0 Vr0).pr (-100000) 100000,whenE true 11]=vrE l 0:=by
 unfold vrE vrO
 rw [show (decide (0=0) && decide ((l.getD 0 Vr0).fr≠0) || decide (0 < 0) && decide ((l.getD 0 Vr0).fr≤(l.getD (0 - 1) Vr0).fr))=true by rw [decide_eq_true h];rfl]
 rfl
theorem vrE_s {l:List Vr} {k:Nat}:firstE [withE (l.getD (k+1) Vr0).fr 0 23,withE (l.getD (k+1) Vr0).pr (-100000) 100000,whenE (decide ((l.getD (k+1) Vr0).fr≤(l.getD k Vr0).fr)) 11]=vrE l (k+1):=by
 unfold vrE vrO
 rw [decide_eq_true (show 0 < k+1 by omega),decide_eq_false (show ¬ k+1=0 by omega)]
 rfl
theorem r_CheckVersions (l:List Vr) (hl:l.length < 1073741824):PC 64 [vrV l] (DV.int .i64 (chkVr l)):=by
 have e0:((l.map encW).length:Int)=l.length:=by simp
 refine pureCall_ofR dh64 rfl ?_
 conv=>whnf
 repeat' (first
  |(refine ⟨fun hg=>?_,fun hg=>?_⟩<;>first|contradiction|(conv=>whnf))
  |(refine Or.inl ?_;conv=>whnf)
  |(refine ⟨_,r_counted ..,?_⟩;conv=>whnf)
  |(refine And.intro ?_ ?_;kernel_rfl;conv=>whnf))
 ·have hg:=of_decide_eq_true hg
  rw [e0] at hg ⊢
  exact int_eq (by rw [chkVr,if_pos hg])
 ·have hg:=of_decide_eq_false hg
  rw [e0] at hg
  have hk:chkVr l=firstE (vrL l):=by rw [chkVr,if_neg hg]
  clear hg
  refine dwp_loopU (P:=Tryz.prog) (G:=GC) (k:=dk64_0) (b:=db64_0) (α:=Nat) (fun i=>[(4,DV.int .i64 (i))]) (fun _=>[]) (fun i=>i≤l.length∧chkVr l=firstE ((vrL l).drop i)) (fun i=>l.length - i) 0 ⟨Nat.zero_le _,hk⟩ ?_
  conv=>whnf
  refine ⟨rfl,rfl,?_⟩
  conv=>whnf
  refine ⟨rfl,?_⟩
  intro i ⟨h1,h2⟩
  conv=>whnf
  refine ⟨fun hb=>?_,fun hb=>?_⟩
  ·have hi:i < l.length:=by have:=of_decide_eq_true hb;rw [e0] at this;omega
   clear hb
   have hd:=vrL_drop l i hi
   rcases i with _|k
   ·conv=>whnf
    repeat' (first
     |(refine ⟨fun hg=>?_,fun hg=>?_⟩<;>first|contradiction|(replace hg:=of_decide_eq_true hg;first|(exfalso;omega;done)|(conv=>whnf))|(replace hg:=of_decide_eq_false hg;first|(exfalso;omega;done)|(conv=>whnf))|(skip;conv=>whnf)|(conv=>whnf))
     |(refine Or.inl ?_;conv=>whnf)
     |(refine ⟨_,q_CheckRange ..,?_⟩;conv=>whnf)
     |(refine ⟨_,q_When ..,?_⟩;conv=>whnf)
     |(refine ⟨_,q_First [_,_,_] (by simp),?_⟩;conv=>whnf)
     |(rw [getD_enc _ _ 0 Vr0 hi];refine ⟨idxA hi rfl,?_⟩;conv=>whnf)
     |(refine And.intro ?_ ?_;kernel_rfl;conv=>whnf))
    ·have hg:vrE l 0≠0:=fun h=>hg ((vrE_0f (Classical.not_not.1 ‹¬ (l.getD 0 Vr0).fr≠0›)).trans h)
     rw [if_pos hg] at hd
     exact int_eq ((vrE_0f (Classical.not_not.1 ‹¬ (l.getD 0 Vr0).fr≠0›)).trans (by rw [h2,hd]))
    ·have hg:¬ vrE l 0≠0:=fun h=>hg (fun h3=>h ((vrE_0f (Classical.not_not.1 ‹¬ (l.getD 0 Vr0).fr≠0›)).symm.trans h3))
     rw [if_neg hg] at hd
     rw [wrap_succ 0 (by omega)]
     exact ⟨0+1,rfl,rfl,rfl,⟨hi,by rw [h2,hd]⟩,by omega⟩
    ·have hg:vrE l 0≠0:=fun h=>hg ((vrE_0t ‹(l.getD 0 Vr0).fr≠0›).trans h)
     rw [if_pos hg] at hd
     exact int_eq ((vrE_0t ‹(l.getD 0 Vr0).fr≠0›).trans (by rw [h2,hd]))
    ·have hg:¬ vrE l 0≠0:=fun h=>hg (fun h3=>h ((vrE_0t ‹(l.getD 0 Vr0).fr≠0›).symm.trans h3))
     rw [if_neg hg] at hd
     rw [wrap_succ 0 (by omega)]
     exact ⟨0+1,rfl,rfl,rfl,⟨hi,by rw [h2,hd]⟩,by omega⟩
   ·have hk:k < l.length:=by omega
    have em:minmaxI true 0 (IntKind.i64.wrap (((k+1:Nat):Int) - 1))=((k:Nat):Int):=by
     rw [wrap_in (by omega) (by omega)]
     show (if ((k+1:Nat):Int) - 1 > 0 then ((k+1:Nat):Int) - 1 else 0)=_
     split<;>omega
    conv=>whnf
    repeat' (first
     |(refine ⟨fun hg=>?_,fun hg=>?_⟩<;>first|contradiction|(replace hg:=of_decide_eq_true hg;first|(exfalso;omega;done)|(conv=>whnf))|(replace hg:=of_decide_eq_false hg;first|(exfalso;omega;done)|(conv=>whnf))|(skip;conv=>whnf)|(conv=>whnf))
     |(refine Or.inl ?_;conv=>whnf)
     |(refine ⟨_,q_CheckRange ..,?_⟩;conv=>whnf)
     |(refine ⟨_,q_When ..,?_⟩;conv=>whnf)
     |(refine ⟨_,q_First [_,_,_] (by simp),?_⟩;conv=>whnf)
     |(rw [getD_enc _ _ (k+1) Vr0 hi];refine ⟨idxA hi rfl,?_⟩;conv=>whnf)
     |(rw [em,getD_enc _ _ k Vr0 hk];refine ⟨idxA hk rfl,?_⟩;conv=>whnf)
     |(refine And.intro ?_ ?_;kernel_rfl;conv=>whnf))
    ·have hg:vrE l (k+1)≠0:=fun h=>hg (vrE_s.trans h)
     rw [if_pos hg] at hd
     exact int_eq (vrE_s.trans (by rw [h2,hd]))
    ·have hg:¬ vrE l (k+1)≠0:=fun h=>hg (fun h3=>h (vrE_s.symm.trans h3))
     rw [if_neg hg] at hd
     rw [wrap_succ (k+1) (by omega)]
     exact ⟨(k+1)+1,rfl,rfl,rfl,⟨hi,by rw [h2,hd]⟩,by omega⟩
  ·have hi:i=l.length:=by have:=of_decide_eq_false hb;rw [e0] at this;omega
   clear hb
   conv=>whnf
   exact int_eq (by rw [h2,hi,vrL_end])
end Sh

namespace Sh
open Go Go.Proofs
theorem r_Prices (l:List Vr) (N:Nat) (hok:OkVr l) (h1:1≤N) (h2:N≤24):PC 68 [vrV l,DV.int .i64 (N)] (iL (prcL l 0 N l.length)):=by
 have e0:((l.map encW).length:Int)=l.length:=by simp
 have hn1:=hok.n1
 rw [prcL_any hok 0 (l.getD 0 Vr0).pr N]
 refine pureCall_ofR dh68 rfl ?_
 conv=>whnf
 refine dwp_loopU (P:=Tryz.prog) (G:=GC) (k:=dk68_1) (b:=db68_1) (α:=Nat) (fun i=>[(5,.own 5 0 (iD (prcL l (l.getD 0 Vr0).pr i l.length)).length (iD (prcL l (l.getD 0 Vr0).pr i l.length)).length),(6,DV.int .i64 (i))]) (fun i=>[(5,.row 1 (iD (prcL l (l.getD 0 Vr0).pr i l.length)) false)]) (fun i=>i≤N) (fun i=>N - i) 0 (Nat.zero_le _) ?_
 conv=>whnf
 refine ⟨rfl,rfl,?_⟩
 conv=>whnf
 refine ⟨rfl,?_⟩
 intro i h3
 conv=>whnf
 refine ⟨fun hc=>?_,fun hc=>?_⟩
 ·have hi:i < N:=by have:=of_decide_eq_true hc;omega
  clear hc
  have hs:iD (prcL l (l.getD 0 Vr0).pr (i+1) l.length)=iD (prcL l (l.getD 0 Vr0).pr i l.length)++[DV.int .i64 (prcN l (l.getD 0 Vr0).pr i l.length)]:=by unfold prcL;rw [rng_succ];unfold iD;rw [List.map_append];rfl
  have hlen:(iD (prcL l (l.getD 0 Vr0).pr i l.length)).length=i:=by rw [iD_len,prcL_len]
  have h0:0 < l.length:=hok.n0
  have hz0:(l.map encW).getD (Int.toNat 0) .undef=encW (l.getD 0 Vr0):=getD_enc encW l 0 Vr0 h0
  generalize hD:(l.getD 0 Vr0).pr=D at *
  conv=>whnf
  rw [hz0]
  refine ⟨⟨by decide,by rw [e0];omega,rfl⟩,?_⟩
  conv=>whnf
  rw [hD]
  refine dwp_loopU (P:=Tryz.prog) (G:=GC) (k:=dk68_0) (b:=db68_0) (α:=Nat) (fun k=>[(7,DV.int .i64 (prcN l D i k)),(8,DV.int .i64 (k))]) (fun _=>[(5,.row 1 (iD (prcL l D i l.length)) false)]) (fun k=>k≤l.length) (fun k=>l.length - k) 0 (Nat.zero_le _) ?_
  conv=>whnf
  refine ⟨rfl,rfl,?_⟩
  conv=>whnf
  refine ⟨rfl,?_⟩
  intro k h4
  conv=>whnf
  refine ⟨fun hc=>?_,fun hc=>?_⟩
  ·have hk:k < l.length:=by have:=of_decide_eq_true hc;rw [e0] at this;omega
   clear hc
   have hps:prcN l D i (k+1)=if (l.getD k Vr0).fr≤i then (l.getD k Vr0).pr else prcN l D i k:=rfl
   conv=>whnf
   rw [getD_enc _ _ (k) Vr0 hk]
   refine ⟨idxA hk rfl,?_⟩
   conv=>whnf
   refine ⟨fun hg=>?_,fun hg=>?_⟩
   ·have hg:=of_decide_eq_true hg
    rw [if_pos hg] at hps
    conv=>whnf
    rw [getD_enc _ _ (k) Vr0 hk]
    refine ⟨idxA hk rfl,?_⟩
    conv=>whnf
    rw [wrap_succ k (by omega)]
    refine ⟨k+1,rfl,?_,rfl,hk,by omega⟩
    rw [hps];rfl
   ·have hg:=of_decide_eq_false hg
    rw [if_neg hg] at hps
    conv=>whnf
    rw [wrap_succ k (by omega)]
    refine ⟨k+1,rfl,?_,rfl,hk,by omega⟩
    rw [hps];rfl
  ·have hk:k=l.length:=by have:=of_decide_eq_false hc;rw [e0] at this;omega
   clear hc
   subst hk
   conv=>whnf
   refine ⟨⟨rfl,rfl,rfl,by rw [hlen];show i+1≤_;omega,fun e he=>by simp at he;subst he;rfl⟩,?_⟩
   conv=>whnf
   rw [wrap_succ i (by omega)]
   refine ⟨i+1,rfl,?_,?_,hi,by omega⟩
   ·rw [hs];rfl
   ·rw [hs];rfl
 ·have hi:i=N:=by have:=of_decide_eq_false hc;omega
  clear hc
  subst hi
  conv=>whnf
  refine ⟨rfl,?_⟩
  show DV.list (window _ _ _)=_
  rw [window_full];rfl
end Sh

namespace Sh
open Go Go.Proofs
theorem l_first (l:List Int) (hl:l.length < 4611686018427387904):PC 20 [iL l] (DV.int .i64 (firstE l)):=by
 refine pureCall_ofR dh20 rfl ?_
 conv=>whnf
 refine .inl ?_
 conv=>whnf
 refine ⟨_,q_First _ hl,?_⟩
 conv=>whnf
 rfl
end Sh

namespace Sh
open Go Go.Proofs
theorem q_Floor (n d:Int) (h:d≠0):PC 124 [DV.int .i64 (n),DV.int .i64 (d)] (DV.int .i64 (floorW n d)):=by
 refine pureCall_ofR dh124 rfl ?_
 conv=>whnf
 refine ⟨h,?_⟩
 conv=>whnf
 refine ⟨fun hb=>?_,fun hb=>?_⟩<;>try (exact absurd hb (by decide))
 ·conv=>whnf
  have hb:=of_decide_eq_true hb
  exact int_eq (by simp only [wrap_W] at hb ⊢;rw [floorW,if_pos hb])
 ·conv=>whnf
  have hb:=of_decide_eq_false hb
  exact int_eq (by simp only [wrap_W] at hb ⊢;rw [floorW,if_neg hb])
end Sh

namespace Sh
open Go Go.Proofs
theorem floor_1000 {n:Int} (h1 : -200000000000≤n) (h2:n≤200000000000):floorW n 1000=n / 1000:=by
 have key:n.tdiv 1000=if 0≤n then n / 1000 else -((-n) / 1000):=by
  split
  ·rename_i h;exact Int.tdiv_eq_ediv_of_nonneg h
  ·rename_i h
   have:n = -(-n):=by omega
   rw [this,Int.neg_tdiv,Int.tdiv_eq_ediv_of_nonneg (by omega),Int.neg_neg]
 have hb : -200000000≤n.tdiv 1000∧n.tdiv 1000≤200000000:=by rw [key];split<;>omega
 unfold floorW
 rw [W_in (n:=n.tdiv 1000) (by omega) (by omega),W_in (n:=n.tdiv 1000 * 1000) (by omega) (by omega),W_in (n:=n.tdiv 1000 - 1) (by omega) (by omega)]
 rw [key]
 split<;>split<;>omega
theorem r_Settled (u p:List Int) (r:Int) (hok:OkSt u p r):PC 69 [iL u,iL p,DV.int .i64 (r)] (.tuple [iL (payL u p r u.length),DV.int .i64 (rstN u p r u.length)]):=by
 have e0:∀ l:List Int,((l.map (DV.int .i64)).length:Int)=l.length:=by simp
 have hn1:=hok.n1
 have hnn:=hok.n
 refine pureCall_ofR dh69 rfl ?_
 conv=>whnf
 refine dwp_loopU (P:=Tryz.prog) (G:=GC) (k:=dk69_0) (b:=db69_0) (α:=Nat) (fun i=>[(8,.own 8 0 (iD (payL u p r i)).length (iD (payL u p r i)).length),(9,DV.int .i64 (rstN u p r i)),(10,DV.int .i64 (i))]) (fun i=>[(8,.row 1 (iD (payL u p r i)) false)]) (fun i=>i≤u.length) (fun i=>u.length - i) 0 (Nat.zero_le _) ?_
 conv=>whnf
 refine ⟨rfl,rfl,?_⟩
 conv=>whnf
 refine ⟨rfl,?_⟩
 intro i h1
 conv=>whnf
 refine ⟨fun hb=>?_,fun hb=>?_⟩
 ·have hi:i < u.length:=by have:=of_decide_eq_true hb;rw [e0] at this;omega
  have hi2:i < p.length:=by omega
  clear hb
  have b1:=hok.at hi
  have b2:=rstN_bd hok i
  have hs:iD (payL u p r (i+1))=iD (payL u p r i)++[DV.int .i64 (dueN u p r i / 1000)]:=by rw [payL_succ];unfold iD;rw [List.map_append];rfl
  conv=>whnf
  rw [getD_enc _ _ (i) 0 hi]
  refine ⟨idxA hi rfl,?_⟩
  conv=>whnf
  rw [getD_enc _ _ (i) 0 hi2]
  refine ⟨idxA hi2 rfl,?_⟩
  conv=>whnf
  refine ⟨by kernel_rfl,?_⟩
  conv=>whnf
  rw [wrap_in (n:=u.getD i 0 * p.getD i 0) (by omega) (by omega),wrap_in (n:=u.getD i 0 * p.getD i 0+rstN u p r i) (by omega) (by omega)]
  have kf:=q_Floor (u.getD i 0 * p.getD i 0+rstN u p r i) 1000 (by decide)
  rw [floor_1000 (by omega) (by omega)] at kf
  have hlen:(iD (payL u p r i)).length=i:=by rw [iD_len,payL_len]
  have hrs:rstN u p r (i+1)=u.getD i 0 * p.getD i 0+rstN u p r i - (u.getD i 0 * p.getD i 0+rstN u p r i) / 1000 * 1000:=by
   rw [rstN_succ];unfold dueN;omega
  refine .inl ?_
  conv=>whnf
  refine ⟨_,kf ..,?_⟩
  conv=>whnf
  refine ⟨⟨rfl,rfl,rfl,by rw [hlen];show i+1≤_;omega,fun e he=>by simp at he;subst he;rfl⟩,?_⟩
  conv=>whnf
  rw [wrap_succ i (by omega),wrap_in (n:=(u.getD i 0 * p.getD i 0+rstN u p r i) / 1000 * 1000) (by omega) (by omega),wrap_in (by omega) (by omega),← hrs]
  refine ⟨i+1,rfl,?_,?_,hi,by omega⟩
  ·rw [hs];rfl
  ·rw [hs];rfl
 ·have hi:i=u.length:=by have:=of_decide_eq_false hb;rw [e0] at this;omega
  clear hb
  conv=>whnf
  rw [hi]
  refine ⟨rfl,?_⟩
  show DV.tuple [DV.list (window (iD (payL u p r u.length)) 0 (iD (payL u p r u.length)).length),_]=_
  rw [window_full];rfl
end Sh

namespace Sh
open Go Go.Proofs
theorem l_versions (l:List Vr) (hl:l.length < 1073741824):PC 62 [.list (l.map encW)] (.list (l.map encW)):=by
 have e0:((l.map encW).length:Int)=l.length:=by simp
 refine pureCall_ofR dh62 rfl ?_
 conv=>whnf
 refine dwp_loopU (P:=Tryz.prog) (G:=GC) (k:=dk62_0) (b:=db62_0) (α:=Nat) (fun i=>[(3,.own 3 0 ((l.take i).map encW).length ((l.take i).map encW).length),(8,DV.int .i64 (i))]) (fun i=>[(3,.row 2 ((l.take i).map encW) false)]) (fun i=>i≤l.length) (fun i=>l.length - i) 0 (Nat.zero_le _) ?_
 conv=>whnf
 refine ⟨rfl,rfl,?_⟩
 conv=>whnf
 refine ⟨rfl,?_⟩
 intro i h1
 conv=>whnf
 refine ⟨fun hb=>?_,fun hb=>?_⟩
 ·have hi:i < l.length:=by simpa using hb
  clear hb
  have hs:(l.take (i+1)).map encW=(l.take i).map encW++[encW (l.getD i Vr0)]:=by rw [take_snoc l i Vr0 hi,List.map_append];rfl
  have hln:((l.take i).map encW).length=i:=by simp;omega
  generalize hR':(l.take (i+1)).map encW=R' at *
  generalize hR:(l.take i).map encW=R at *
  conv=>whnf
  rw [getD_enc _ _ (i) Vr0 hi]
  refine ⟨idxA hi rfl,?_⟩
  conv=>whnf
  refine ⟨⟨rfl,rfl,rfl,by rw [hln];simp;omega,fun e he=>by simp at he;subst he;rfl⟩,?_⟩
  conv=>whnf
  rw [wrap_succ i (by omega)]
  refine ⟨i+1,rfl,?_,?_,hi,by omega⟩
  ·rw [hR',hs];rfl
  ·rw [hR',hs];rfl
 ·have hi:i=l.length:=by have:=of_decide_eq_false hb;rw [e0] at this;omega
  clear hb
  rw [hi,List.take_length]
  conv=>whnf
  refine ⟨rfl,?_⟩
  rw [window_full]
  first|rfl|(show DV.list _=_;rfl)
end Sh

namespace Sh
open Go
def dc7 : DFunc := ⟨123,3,[.tmp 6],sq [oq 5 (.box 3 (.tmp 2)),oq 6 (.mov (bq false))] (.seq (sq [mq 17 0,oq 18 (.len (.tmp 17)),oq 19 (.bin .gtr (.tmp 18) (iq 9)),mq 20 19,gq 21 (.faddr 0 1 false (.tmp 5)) 20 false,gq 22 (.load none (.tmp 21)) 20 false,gq 23 (.len (.tmp 22)) 20 false,gq 24 (.bin .gtr (.tmp 23) (iq 25)) 20 false,oq 25 (.pick (.tmp 20) (bq true) (.tmp 24)),mq 26 25,gq 27 (.faddr 1 1 false (.tmp 5)) 26 false,gq 28 (.load none (.tmp 27)) 26 false,gq 29 (.len (.tmp 28)) 26 false,gq 30 (.bin .gtr (.tmp 29) (iq 25)) 26 false,oq 31 (.pick (.tmp 26) (bq true) (.tmp 30))] (.cond (.tmp 31) (sq [oq 32 (.call (.func 13) []),mq 6 32] .ret) .skip)) (sq [mq 34 0,oq 35 (.call (.func 62) [.tmp 34]),mq 36 1,oq 37 (.call (.func 61) [.tmp 35,.tmp 36]),mq 33 37,oq 38 (.extract (.tmp 33) 0),oq 39 (.extract (.tmp 33) 1),mq 7 38,mq 8 39] (.seq (.ops true [oq 41 (.faddr 0 1 false (.tmp 5)),⟨some 42,.load none (.tmp 41),none,[0]⟩,⟨some 43,.call (.func 18) [.tmp 42],none,[1,0]⟩,oq 44 (.faddr 1 1 false (.tmp 5)),⟨some 45,.load none (.tmp 44),none,[3]⟩,⟨some 46,.call (.func 18) [.tmp 45],none,[4,3,2,1,0]⟩,oq 47 (.faddr 2 1 false (.tmp 5)),⟨some 48,.load none (.tmp 47),none,[6]⟩,⟨some 49,.call (.func 63) [.tmp 43,.tmp 46,.tmp 48],none,[2,1,0,5,4,3,7,6]⟩,⟨some 40,.mov (.tmp 49),none,[8,2,1,0,5,4,3,7,6]⟩,⟨some 50,.extract (.tmp 40) 0,none,[9,8,2,1,0,5,4,3,7,6]⟩,⟨some 51,.extract (.tmp 40) 1,none,[9,8,2,1,0,5,4,3,7,6]⟩,⟨some 52,.extract (.tmp 40) 2,none,[9,8,2,1,0,5,4,3,7,6]⟩,⟨some 9,.mov (.tmp 50),none,[10,9,8,2,1,0,5,4,3,7,6]⟩,⟨some 10,.mov (.tmp 51),none,[11,9,8,2,1,0,5,4,3,7,6,13,10]⟩,⟨some 11,.mov (.tmp 52),none,[12,9,8,2,1,0,5,4,3,7,6,14,11,13,10]⟩]) (.seq (.ops true [mq 53 0,⟨some 54,.call (.func 64) [.tmp 53],none,[0]⟩,mq 55 1,⟨some 56,.call (.func 65) [.tmp 55],none,[2,1,0]⟩,⟨some 57,.lit true 1 2 (.int .i64 0) [(0,(.tmp 54)),(1,(.tmp 56))],none,[1,0,3,2]⟩,⟨some 58,.call (.func 20) [.tmp 57],none,[4,1,0,3,2]⟩,oq 59 (.faddr 0 1 false (.tmp 5)),⟨some 60,.load none (.tmp 59),none,[6]⟩,⟨some 61,.call (.func 21) [.tmp 60],none,[7,6,5,4,1,0,3,2]⟩,oq 62 (.faddr 0 1 false (.tmp 5)),⟨some 63,.load none (.tmp 62),none,[9]⟩,oq 64 (.faddr 1 1 false (.tmp 5)),⟨some 65,.load none (.tmp 64),none,[11]⟩,⟨some 66,.call (.func 66) [.tmp 63,.tmp 65],none,[10,9,12,11,8,7,6,5,4,1,0,3,2]⟩,oq 67 (.faddr 2 1 false (.tmp 5)),⟨some 68,.load none (.tmp 67),none,[14]⟩,⟨some 69,.call (.func 67) [.tmp 68],none,[15,14,13,10,9,12,11,8,7,6,5,4,1,0,3,2]⟩,⟨some 70,.lit true 1 3 (.int .i64 0) [(0,(.tmp 61)),(1,(.tmp 66)),(2,(.tmp 69))],none,[8,7,6,5,4,1,0,3,2,13,10,9,12,11,16,15,14]⟩,⟨some 71,.call (.func 20) [.tmp 70],none,[17,8,7,6,5,4,1,0,3,2,13,10,9,12,11,16,15,14]⟩,⟨some 12,.mov (.tmp 58),none,[5,4,1,0,3,2,18,17,8,7,6,13,10,9,12,11,16,15,14]⟩,⟨some 13,.mov (.tmp 71),none,[18,17,8,7,6,5,4,1,0,3,2,13,10,9,12,11,16,15,14,19]⟩]) (sq [oq 14 (.mov (.const (.slice none 0 0))),oq 15 (.mov (.const (.slice none 0 0)))] (sq [oq 16 (.mov (iq 0))] (.seq (sq [mq 72 12,oq 73 (.bin .eql (.tmp 72) (iq 0))] (.cond (.tmp 73) (pq [mq 74 0,mq 75 1,oq 76 (.call (.func 68) [.tmp 74,.tmp 75]),mq 14 76]) .skip)) (.seq (sq [mq 77 13,oq 78 (.bin .eql (.tmp 77) (iq 0))] (.cond (.tmp 78) (pq [oq 80 (.faddr 0 1 false (.tmp 5)),oq 81 (.load none (.tmp 80)),oq 82 (.faddr 1 1 false (.tmp 5)),oq 83 (.load none (.tmp 82)),oq 84 (.faddr 2 1 false (.tmp 5)),oq 85 (.load none (.tmp 84)),oq 86 (.call (.func 69) [.tmp 81,.tmp 83,.tmp 85]),mq 79 86,oq 87 (.extract (.tmp 79) 0),oq 88 (.extract (.tmp 79) 1),mq 15 87,mq 16 88]) .skip)) (sq [mq 89 0,oq 90 (.call (.func 62) [.tmp 89]),oq 91 (.call (.func 70) [.tmp 90]),mq 92 0,oq 93 (.call (.func 64) [.tmp 92]),oq 94 (.bin .eql (.tmp 91) (.tmp 93)),mq 95 94,gq 96 (.mov (.tmp 7)) 95 true,gq 97 (.mov (.tmp 14)) 95 true,gq 98 (.call (.func 28) [.tmp 96,.tmp 97]) 95 true,oq 99 (.pick (.tmp 95) (.tmp 98) (bq false)),mq 100 99,gq 101 (.mov (.tmp 8)) 100 true,gq 102 (.mov (.tmp 12)) 100 true,gq 103 (.bin .eql (.tmp 101) (.tmp 102)) 100 true,oq 104 (.pick (.tmp 100) (.tmp 103) (bq false)),mq 105 104,gq 106 (.mov (.tmp 9)) 105 true,gq 107 (.mov (.tmp 15)) 105 true,gq 108 (.call (.func 28) [.tmp 106,.tmp 107]) 105 true,oq 109 (.pick (.tmp 105) (.tmp 108) (bq false)),mq 110 109,gq 111 (.mov (.tmp 10)) 110 true,gq 112 (.mov (.tmp 16)) 110 true,gq 113 (.bin .eql (.tmp 111) (.tmp 112)) 110 true,oq 114 (.pick (.tmp 110) (.tmp 113) (bq false)),mq 115 114,gq 116 (.mov (.tmp 11)) 115 true,gq 117 (.mov (.tmp 13)) 115 true,gq 118 (.bin .eql (.tmp 116) (.tmp 117)) 115 true,oq 119 (.pick (.tmp 115) (.tmp 118) (bq false)),mq 120 119,gq 121 (.call (.func 13) []) 120 true,oq 122 (.pick (.tmp 120) (.tmp 121) (bq false)),mq 6 122] .ret)))))))))⟩
theorem dh7:cProg Go.Proofs.Tryz.prog ⟨[],[],[57,70]⟩ 7=some dc7:=by kernel_rfl
end Sh

set_option maxHeartbeats 4000000
namespace Sh
open Go Go.Proofs
theorem stlE_three (u p:List Int) (r:Int):firstE [chkUn u,chkFit u p,withE r 0 999]=stlE u p r:=by
 unfold chkFit stlE
 generalize chkUn u=a
 generalize whenE (decide ((p.length:Int)≠u.length)) 2=b
 generalize firstE (p.map prE)=c
 generalize withE r 0 999=d
 simp only [firstE]
 grind
theorem l_TradeSettles (aw:PC 13 [] (.bool true)) (l:List Vr) (s:Int) (z:List Int×List Int×Int):PC 7 [vrV l,DV.int .i64 (s),encPd z.1 z.2.1 z.2.2] (.bool true):=by
 obtain ⟨u,p,r⟩:=z
 have e0:((u.map (DV.int .i64)).length:Int)=u.length:=by simp
 have e1:((p.map (DV.int .i64)).length:Int)=p.length:=by simp
 have e2:((l.map encW).length:Int)=l.length:=by simp
 refine pureCall_ofR dh7 rfl ?_
 conv=>whnf
 repeat' (first
  |(refine ⟨fun hg=>?_,fun hg=>?_⟩<;>first|contradiction|(conv=>whnf))
  |(refine Or.inl ?_;conv=>whnf)
  |(refine ⟨_,aw ..,?_⟩;conv=>whnf)
  |(refine And.intro ?_ ?_;kernel_rfl;conv=>whnf))
 all_goals (try rfl)
 have hd:l.length≤9∧u.length≤25∧p.length≤25:=by
  have h0:=of_decide_eq_false ‹decide (9 < ((l.map encW).length:Int))=false›
  have h1:=of_decide_eq_false ‹decide (25 < ((u.map (DV.int .i64)).length:Int))=false›
  have h2:=of_decide_eq_false hg
  rw [e2] at h0
  rw [e0] at h1
  rw [e1] at h2
  omega
 clear hg
 obtain ⟨hl,hu,hp⟩:=hd
 have j1:=l_ints u (by omega)
 have j2:=l_ints p (by omega)
 have j3:PC 62 [vrV l] (vrV l):=l_versions l (by omega)
 have p1:=c_Prices l s (by omega)
 have s1:=c_Settled u p r (by omega) (by omega)
 have v1:=c_CheckVersions l (by omega)
 have v2:=r_CheckVersions l (by omega)
 have v3:=r_CheckSlots s
 have f2:=l_first [chkVr l,withE s 1 24] (by simp)
 have u1:=r_CheckUnits u (by omega)
 have u2:=r_CheckFit u p (by omega)
 have u3:=r_CheckRest r
 have f3:=l_first [chkUn u,chkFit u p,withE r 0 999] (by simp)
 rw [stlE_three] at f3
 rw [show firstE [chkVr l,withE s 1 24]=prsE l s from rfl] at f2
 have ks:∀ l:List Int,l.length < 4611686018427387904→PC 28 [iL l,iL l] (.bool true):=fun l h=>by have:=q_SameInts l l h;rwa [decide_eq_true rfl] at this
 have ks0:=ks [] (by decide)
 by_cases P:prsE l s=0
 ·obtain ⟨hok,s0,s2⟩:=prsE_ok P
  rw [show prsS l s=(prcL l 0 s.toNat l.length,0) by rw [prsS,if_neg (by omega)]] at p1
  obtain ⟨N,rfl⟩:=Int.eq_ofNat_of_zero_le (show 0≤s by omega)
  rw [Int.toNat_natCast] at p1
  rw [P] at f2
  have rp:=r_Prices l N hok (by omega) (by omega)
  have k1:=ks (prcL l 0 N l.length) (by rw [prcL_len];omega)
  clear P
  by_cases Q:stlE u p r=0
  ·have hq:=stlE_ok Q
   rw [show stlS u p r=(payL u p r u.length,rstN u p r u.length,0) by rw [stlS,if_neg (by omega)]] at s1
   rw [Q] at f3
   have rq:=r_Settled u p r hq
   have k2:=ks (payL u p r u.length) (by rw [payL_len];omega)
   clear Q
   repeat' (first
    |(refine ⟨fun hg=>?_,fun hg=>?_⟩<;>first|contradiction|(replace hg:=of_decide_eq_true hg;first|(exfalso;omega;done)|(conv=>whnf))|(replace hg:=of_decide_eq_false hg;first|(exfalso;omega;done)|(conv=>whnf))|(skip;conv=>whnf)|(conv=>whnf))
    |(refine Or.inl ?_;conv=>whnf)
    |(refine ⟨_,j1 ..,?_⟩;conv=>whnf)
    |(refine ⟨_,j2 ..,?_⟩;conv=>whnf)
    |(refine ⟨_,j3 ..,?_⟩;conv=>whnf)
    |(refine ⟨_,p1 ..,?_⟩;conv=>whnf)
    |(refine ⟨_,s1 ..,?_⟩;conv=>whnf)
    |(refine ⟨_,v1 ..,?_⟩;conv=>whnf)
    |(refine ⟨_,v2 ..,?_⟩;conv=>whnf)
    |(refine ⟨_,v3 ..,?_⟩;conv=>whnf)
    |(refine ⟨_,f2 ..,?_⟩;conv=>whnf)
    |(refine ⟨_,u1 ..,?_⟩;conv=>whnf)
    |(refine ⟨_,u2 ..,?_⟩;conv=>whnf)
    |(refine ⟨_,u3 ..,?_⟩;conv=>whnf)
    |(refine ⟨_,f3 ..,?_⟩;conv=>whnf)
    |(refine ⟨_,rp ..,?_⟩;conv=>whnf)
    |(refine ⟨_,k1 ..,?_⟩;conv=>whnf)
    |(refine ⟨_,rq ..,?_⟩;conv=>whnf)
    |(refine ⟨_,k2 ..,?_⟩;conv=>whnf)
    |(refine ⟨_,aw ..,?_⟩;conv=>whnf)
    |(refine And.intro ?_ ?_;kernel_rfl;conv=>whnf))
   all_goals first
    |rfl
    |(exfalso;simp at *;done)
    |trace_state
  ·rw [show stlS u p r=([],0,stlE u p r) by rw [stlS,if_pos Q]] at s1
   generalize stlE u p r=Q1 at *
   repeat' (first
    |(refine ⟨fun hg=>?_,fun hg=>?_⟩<;>first|contradiction|(replace hg:=of_decide_eq_true hg;first|(exfalso;omega;done)|(conv=>whnf))|(replace hg:=of_decide_eq_false hg;first|(exfalso;omega;done)|(conv=>whnf))|(skip;conv=>whnf)|(conv=>whnf))
    |(refine Or.inl ?_;conv=>whnf)
    |(refine ⟨_,j1 ..,?_⟩;conv=>whnf)
    |(refine ⟨_,j2 ..,?_⟩;conv=>whnf)
    |(refine ⟨_,j3 ..,?_⟩;conv=>whnf)
    |(refine ⟨_,p1 ..,?_⟩;conv=>whnf)
    |(refine ⟨_,s1 ..,?_⟩;conv=>whnf)
    |(refine ⟨_,v1 ..,?_⟩;conv=>whnf)
    |(refine ⟨_,v2 ..,?_⟩;conv=>whnf)
    |(refine ⟨_,v3 ..,?_⟩;conv=>whnf)
    |(refine ⟨_,f2 ..,?_⟩;conv=>whnf)
    |(refine ⟨_,u1 ..,?_⟩;conv=>whnf)
    |(refine ⟨_,u2 ..,?_⟩;conv=>whnf)
    |(refine ⟨_,u3 ..,?_⟩;conv=>whnf)
    |(refine ⟨_,f3 ..,?_⟩;conv=>whnf)
    |(refine ⟨_,rp ..,?_⟩;conv=>whnf)
    |(refine ⟨_,k1 ..,?_⟩;conv=>whnf)
    |(refine ⟨_,ks0 ..,?_⟩;conv=>whnf)
    |(refine ⟨_,aw ..,?_⟩;conv=>whnf)
    |(refine And.intro ?_ ?_;kernel_rfl;conv=>whnf))
   all_goals first
    |rfl
    |(exfalso;simp at *;done)
    |trace_state
 ·rw [show prsS l s=([],prsE l s) by rw [prsS,if_pos P]] at p1
  generalize prsE l s=P1 at *
  by_cases Q:stlE u p r=0
  ·have hq:=stlE_ok Q
   rw [show stlS u p r=(payL u p r u.length,rstN u p r u.length,0) by rw [stlS,if_neg (by omega)]] at s1
   rw [Q] at f3
   have rq:=r_Settled u p r hq
   have k2:=ks (payL u p r u.length) (by rw [payL_len];omega)
   clear Q
   repeat' (first
    |(refine ⟨fun hg=>?_,fun hg=>?_⟩<;>first|contradiction|(replace hg:=of_decide_eq_true hg;first|(exfalso;omega;done)|(conv=>whnf))|(replace hg:=of_decide_eq_false hg;first|(exfalso;omega;done)|(conv=>whnf))|(skip;conv=>whnf)|(conv=>whnf))
    |(refine Or.inl ?_;conv=>whnf)
    |(refine ⟨_,j1 ..,?_⟩;conv=>whnf)
    |(refine ⟨_,j2 ..,?_⟩;conv=>whnf)
    |(refine ⟨_,j3 ..,?_⟩;conv=>whnf)
    |(refine ⟨_,p1 ..,?_⟩;conv=>whnf)
    |(refine ⟨_,s1 ..,?_⟩;conv=>whnf)
    |(refine ⟨_,v1 ..,?_⟩;conv=>whnf)
    |(refine ⟨_,v2 ..,?_⟩;conv=>whnf)
    |(refine ⟨_,v3 ..,?_⟩;conv=>whnf)
    |(refine ⟨_,f2 ..,?_⟩;conv=>whnf)
    |(refine ⟨_,u1 ..,?_⟩;conv=>whnf)
    |(refine ⟨_,u2 ..,?_⟩;conv=>whnf)
    |(refine ⟨_,u3 ..,?_⟩;conv=>whnf)
    |(refine ⟨_,f3 ..,?_⟩;conv=>whnf)
    |(refine ⟨_,ks0 ..,?_⟩;conv=>whnf)
    |(refine ⟨_,rq ..,?_⟩;conv=>whnf)
    |(refine ⟨_,k2 ..,?_⟩;conv=>whnf)
    |(refine ⟨_,aw ..,?_⟩;conv=>whnf)
    |(refine And.intro ?_ ?_;kernel_rfl;conv=>whnf))
   all_goals first
    |rfl
    |(exfalso;simp at *;done)
    |trace_state
  ·rw [show stlS u p r=([],0,stlE u p r) by rw [stlS,if_pos Q]] at s1
   generalize stlE u p r=Q1 at *
   repeat' (first
    |(refine ⟨fun hg=>?_,fun hg=>?_⟩<;>first|contradiction|(replace hg:=of_decide_eq_true hg;first|(exfalso;omega;done)|(conv=>whnf))|(replace hg:=of_decide_eq_false hg;first|(exfalso;omega;done)|(conv=>whnf))|(skip;conv=>whnf)|(conv=>whnf))
    |(refine Or.inl ?_;conv=>whnf)
    |(refine ⟨_,j1 ..,?_⟩;conv=>whnf)
    |(refine ⟨_,j2 ..,?_⟩;conv=>whnf)
    |(refine ⟨_,j3 ..,?_⟩;conv=>whnf)
    |(refine ⟨_,p1 ..,?_⟩;conv=>whnf)
    |(refine ⟨_,s1 ..,?_⟩;conv=>whnf)
    |(refine ⟨_,v1 ..,?_⟩;conv=>whnf)
    |(refine ⟨_,v2 ..,?_⟩;conv=>whnf)
    |(refine ⟨_,v3 ..,?_⟩;conv=>whnf)
    |(refine ⟨_,f2 ..,?_⟩;conv=>whnf)
    |(refine ⟨_,u1 ..,?_⟩;conv=>whnf)
    |(refine ⟨_,u2 ..,?_⟩;conv=>whnf)
    |(refine ⟨_,u3 ..,?_⟩;conv=>whnf)
    |(refine ⟨_,f3 ..,?_⟩;conv=>whnf)
    |(refine ⟨_,ks0 ..,?_⟩;conv=>whnf)
    |(refine ⟨_,aw ..,?_⟩;conv=>whnf)
    |(refine And.intro ?_ ?_;kernel_rfl;conv=>whnf))
   all_goals first
    |rfl
    |(exfalso;simp at *;done)
    |trace_state
end Sh
