/-
  Chapter 9's functions, walked over pure data: the library of the walk, the functions' code over data, and what each computes. (part 7)
-/
import Derived.Test.YtjgckckimeldeaaGreatDoorP6
import Derived.ChangeArms
import Derived.ChangeSame
import Derived.OpenShut
import Derived.WideShapes
import Derived.FnData
import Derived.LaidMore
import Derived.DataReads
import Derived.ProofKit
import Derived.Carry
import Derived.HandedShaped
import Derived.Shelf.Vars
import Derived.Stop.Joined
import Derived.Deep.DeepHandedRow
import Derived.Lib.LaidTab
import Derived.MakeChecks
import Derived.LaidSub
import Derived.LaidHandle
import Derived.Test.YtjgckckimeldeaaGreatDoorProg
set_option linter.unusedVariables false
set_option linter.unusedSimpArgs false
namespace Sh
open Go
theorem memOf_holds (W:World):(memOf W).holds W:=fun _ _ _ h=>h
theorem calls_of_pure {G:Nat→Option DV} {f:FuncId} {ds:List DV} {d:DV} {P:Program} (h:PureCall P G f ds d) {W:World} {vs:Array Value} (hG:GOk G (memOf W)) (hT:Tabs G W) (hr:RelPs (memOf W) ds vs) :
  Calls P f vs W fun e w'=>∃ v M',e=.returned v∧M'.holds w'∧RelP M' d v∧RowKit.Below W.heap.size W w':=by
 have h1:=h.2 Fence.wide 0 ⟨fun _=>trivial,rfl⟩ rfl rfl (memOf W) W vs hG hT (memOf_holds W) hr
 refine (callsIn_wide.1 h1).mono fun e w' ⟨v,M',a,_,b,c,d,_⟩=>⟨v,M',a,b,c,d⟩
section
variable {H:Type} {enc:TypeId×Value→H} {P:Program} {W:World}
theorem arg_slice {t e:TypeId} {α:Type} {f:α→DV} {B:α→Prop} {v:Value} {d:DataW H} {p:List MemPlace} {base b0:Nat} {sp:Nat→Bool} {hd:Bool} (ht:P.underlying t=some (.slice e)) (k:Opens enc P W t (fun a=>[f a]) B)
  (hv:Value.okWide P W .any b0 t v) (h:DataW.Trod enc P W base sp hd t v d p):∃ a,RelP (memOf W) (f a) v∧B a:=by
 obtain ⟨a,len,cap,rfl⟩:=WideShapes.okWide_slice ht hv
 obtain ⟨fuel,hf⟩:=h
 obtain ⟨a,h1,h2⟩:=k _ _ _ _ _ _ hf
 exact ⟨a,h1.2 0 (by simp),h2⟩
theorem relPs_of {M:Mem} {ds:List DV} {vs:List Value} (h:RelL M ds vs):RelPs M ds vs.toArray:=by
 refine ⟨by simpa using h.1,fun i hi=>?_⟩
 have:=h.2 i hi
 simpa [List.getD_eq_getElem?_getD,Array.getD_eq_getD_getElem?] using this
end
end Sh

namespace Sh
open Go Go.Proofs
section
variable {H:Type} {enc:TypeId×Value→H} {P:Program} {W:World}
theorem handed_shaped {a:Assume} {C:Checked} {os:Os} {f:FuncId} {fn:Func} {s:ChangeSpec} {conds:List PathCond} {apart fresh handsOn again:Bool} {X:World→Array Value→Prop}
  (hX:∀ (w w':World) (args:Array Value),w.heap=w'.heap→X w args→X w' args)
  (own:ownKnob C.prog.godebug=none) (started:os.Started) (noInit:C.prog.inits.idxOf? f=none) (hfn:C.prog.funcs[f]?=some fn)
  (witness:∃ (w:World) (tape:Tape) (i:Input),w.os=os∧(w.forCall tape i).Shaped C.prog∧i.vars=[]∧Input.okWide C.prog (w.forCall tape i) .any w.heap.size f i ∧
    ((s.pre enc C.prog fn conds apart (w.forCall tape i).memory i.args∧X (w.forCall tape i).memory i.args)∧sizedMet enc C.prog fn (OpenSpec.ofChange s) apart (w.forCall tape i).memory i.args)∧a.holds C.prog (lone (Frame.enter C.prog f i.args .normal) [] (w.forCall tape i)))
  (contract:∀ (W:World) (base:Nat) (args:Array Value) (ds gs:List (DataW H)) (before:List MemPlace),
    (∀ (j:Nat) t v,fn.params[j]?=some t→args[j]?=some v→Value.okWide C.prog W .any base t v) →
    DataW.Whole enc C.prog fn.params.toList s.vars apart W args.toList ds gs before→X W args→W.ShapedOpen C.prog →
    Calls C.prog f args W fun e W'=>∃ v,e=.returned v∧s.post enc C.prog fn apart fresh handsOn again W args v W') :
  ReturnsInHanded a C os f .any (fun w args=>(s.pre enc C.prog fn conds apart w args∧X w args)∧sizedMet enc C.prog fn (OpenSpec.ofChange s) apart w args) (s.post enc C.prog fn apart fresh handsOn again):=by
 refine returnsInHanded_of_calls own started noInit witness ?_
 intro w tape i _ hsh _ hok hpre hholds
 obtain ⟨_,_,_,fn',hfn',_,_,_,_,hval⟩:=hok
 have e:fn'=fn:=Option.some.inj (hfn'.symm.trans hfn)
 subst e
 obtain ⟨⟨⟨ds,gs,before,hw,hc⟩,hx⟩,hz⟩:=hpre
 have hw':=DataW.Whole.of_heap (w':=w.forCall tape i) (by rfl) hw
 refine (contract (w.forCall tape i) w.heap.size i.args ds gs before hval hw' (hX _ _ _ (by rfl) hx) hsh).mono fun e W' ⟨v,he,hp⟩=>?_
 subst he
 exact ChangeSpec.post_blind hp
end
section
open Go.RowKit Go.WideShapes Go.ChangeShapes
variable {H:Type} {enc:TypeId×Value→H} {P:Program}
theorem postOfBelow {f:Func} {s:ChangeSpec} {apart fresh handsOn again:Bool} {W W':World} {args:Array Value} {v:Value} {ds gs:List (DataW H)} {before pa pv:List MemPlace}
  (hW:DataW.Whole enc P f.params.toList s.vars apart W args.toList ds gs before)
  (hres:∀ (b:Nat) (sp:Nat→Bool) (hd:Bool),DataW.TrodAll enc P W' b sp hd f.resultTypes.toList (v.resultList f.resultTypes.size) (s.fn H (ds++gs)).results [])
  (hargs:∀ sp:Nat→Bool,(∀ p ∈ before,sp p.block=true)→DataW.TrodAll enc P W' 0 sp true f.params.toList args.toList (s.fn H (ds++gs)).args pa)
  (hvars:∀ sp:Nat→Bool,(∀ p ∈ before,sp p.block=true)→DataW.TrodVars enc P W' sp s.vars (s.fn H (ds++gs)).vars pv)
  (hps:before=pa++pv) (hb:Below W.heap.size W W')
  (hok:∀ (j:Nat) (t:TypeId) (r:Value),f.resultTypes[j]?=some t→(v.resultList f.resultTypes.size)[j]?=some r→Value.okWide P W' .any 0 t r) :
  s.post enc P f apart fresh handsOn again W args v W':=by
 have hlt:∀ p ∈ before,p.block < W.heap.size:=fun p hp=>hW.lt p hp
 have hold:∀ p ∈ before,(fun b=>decide (b < W.heap.size)) p.block=true:=fun p hp=>by simpa using hlt p hp
 refine ⟨ds,gs,before,[],pa,pv,hW,hres _ _ _,hargs _ hold,hvars _ hold,World.keptBut_mono (fun p hp=>⟨hp,?_⟩) (hb.frame (· ∈ before)),fun _=>?_⟩
 ·rw [hps,List.mem_append] at hp
  exact Or.inr hp
 ·obtain ⟨_,_,_,_,_,hz,hn⟩:=hW
  refine ⟨hok,_,_,([]++pa)++pv,⟨[]++pa,pv,trodAll_append (hargs _ (fun _ _=>rfl)) (hres _ _ _),hvars _ (fun _ _=>rfl),rfl,?_,?_⟩,?_⟩
  ·intro b off hp
   have hin:MemPlace.cell b off ∈ before:=by rw [hps];simpa using hp
   rw [hb.frozen (hlt _ hin)]
   exact hz b off hin
  ·intro ha
   have:=hn ha
   rw [hps] at this
   simpa using this
  ·intro p hp _
   rw [hps]
   simpa using hp
theorem trodAll_stays (hl:laidOutB P=true) {W W':World} (hb:Below W.heap.size W W') {sp:Nat→Bool}:∀ {ts:List TypeId} {vs:List Value} {ds:List (DataW H)} {ps:List MemPlace},DataW.TrodAll enc P W 0 (fun _=>true) true ts vs ds ps →
  (ts.all fun t=>P.readableRec t && decide (t < P.types.size))=true→(∀ p ∈ ps,p.block < W.heap.size)→(∀ p ∈ ps,sp p.block=true)→DataW.TrodAll enc P W' 0 sp true ts vs ds ps
 |[],_,_,_,h,_,_,_=>by
  obtain ⟨rfl,rfl,rfl⟩:=trodAll_nil h
  rfl
 |t :: ts,_,_,_,h,ht,hlt,hsp=>by
  obtain ⟨v,vs,d,ds,p,q,rfl,rfl,rfl,h1,h2⟩:=trodAll_cons h
  rw [List.all_cons,Bool.and_eq_true,Bool.and_eq_true] at ht
  exact trodAll_cons_mk (WideElems.Trod_stays hl ht.1.1 (of_decide_eq_true ht.1.2) h1 (fun x hx=>hb.same (hlt x (by simp [hx]))) (fun x hx=>hsp x (by simp [hx])))
   (trodAll_stays hl hb h2 ht.2 (fun x hx=>hlt x (by simp [hx])) (fun x hx=>hsp x (by simp [hx])))
end
end Sh

set_option maxRecDepth 100000
namespace Sh
open Go
def db12_0 : DC := (.seq (sq [mq 4 3,mq 5 0,oq 6 (.len (.tmp 5)),oq 7 (.bin .lss (.tmp 4) (.tmp 6))] (.cond (.tmp 7) .skip (.exit 0))) (.seq (.block 1 none (sq [mq 10 0,mq 11 3,oq 12 (.iaddr 4 (.tmp 10) (.tmp 11)),oq 13 (.faddr 0 1 false (.tmp 12)),oq 14 (.load none (.tmp 13)),oq 15 (.lenS (.tmp 14)),oq 16 (.bin .gtr (.tmp 15) (iq 40))] (.cond (.tmp 16) (sq [oq 2 (.mov (bq false))] .ret) .skip))) (pq [mq 8 3,oq 9 (.bin .add (.tmp 8) (iq 1)),mq 3 9])))
def dk12_0 : Keep := ⟨[],[0,3],[]⟩
def dc12 : DFunc := ⟨25,1,[.tmp 2],sq [oq 2 (.mov (bq false))] (.seq (sq [oq 3 (.mov (iq 0))] (.block 0 (some ⟨[],[0],[]⟩) (.loop dk12_0 db12_0))) (sq [mq 17 0,oq 18 (.len (.tmp 17)),oq 19 (.bin .leq (.tmp 18) (iq 8)),mq 20 19,gq 21 (.mov (.tmp 0)) 20 false,gq 22 (.len (.tmp 21)) 20 false,gq 23 (.bin .eql (.tmp 22) (iq 33)) 20 false,oq 24 (.pick (.tmp 20) (bq true) (.tmp 23)),mq 2 24] .ret))⟩
theorem dh12:cProg Go.Proofs.Tryz.prog ⟨[(0,⟨[],[0,3],[]⟩)],[(0,⟨[],[0],[]⟩)],[]⟩ 12=some dc12:=by kernel_rfl
def db16_0 : DC := (sq [oq 9 (.bin .lss (.tmp 8) (.tmp 7))] (.seq (.cond (.tmp 9) .skip (.exit 0)) (.seq (.block 1 none (sq [oq 10 (.iaddr 4 (.tmp 6) (.tmp 8)),oq 11 (.load (some 4) (.tmp 10)),oq 5 (.alloc (.agg [.str [],.int .i64 0,.int .i64 0,.int .i64 0]) 4),nq (.store 4 (.tmp 5) (.tmp 11))] (pq [mq 12 3,oq 13 (.load (some 4) (.tmp 5)),oq 14 (.lit true 4 1 (.agg [.str [],.int .i64 0,.int .i64 0,.int .i64 0]) [(0,(.tmp 13))]),oq 15 (.append false 4 (.tmp 12) (.tmp 14)),mq 3 15]))) (pq [oq 16 (.bin .add (.tmp 8) (iq 1)),mq 8 16]))))
def dk16_0 : Keep := ⟨[(3,4)],[3,6,7,8],[3]⟩
def dc16 : DFunc := ⟨18,1,[.tmp 2],sq [oq 2 (.mov (.const (.slice none 0 0)))] (sq [oq 3 (.mov (.const (.slice none 0 0)))] (.seq (sq [mq 6 0,oq 7 (.len (.tmp 6)),oq 8 (.mov (iq 0))] (.block 0 (some ⟨[],[3],[3]⟩) (.loop dk16_0 db16_0))) (sq [mq 17 3,mq 2 17] .ret)))⟩
theorem dh16:cProg Go.Proofs.Tryz.prog ⟨[(0,⟨[(3,4)],[3,6,7,8],[3]⟩)],[(0,⟨[],[3],[3]⟩)],[14]⟩ 16=some dc16:=by kernel_rfl
def dc18 : DFunc := ⟨6,1,[.tmp 2],sq [oq 2 (.mov (.const (.slice none 0 0)))] (sq [oq 3 (.lit true 1 0 (.int .i64 0) []),mq 4 0,oq 5 (.append true 1 (.tmp 3) (.tmp 4)),mq 2 5] .ret)⟩
theorem dh18:cProg Go.Proofs.Tryz.prog ⟨[],[],[3,5]⟩ 18=some dc18:=by kernel_rfl
def dc21 : DFunc := ⟨10,1,[.tmp 2],sq [oq 2 (.mov (iq 0))] (sq [mq 3 0,oq 4 (.len (.tmp 3)),oq 5 (.call (.func 87) [.tmp 4,iq 24]),mq 6 0,oq 7 (.call (.func 90) [.tmp 6,iq 0,iq 1000000]),oq 8 (.lit true 1 2 (.int .i64 0) [(0,(.tmp 5)),(1,(.tmp 7))]),oq 9 (.call (.func 88) [.tmp 8]),mq 2 9] .ret)⟩
theorem dh21:cProg Go.Proofs.Tryz.prog ⟨[],[],[8]⟩ 21=some dc21:=by kernel_rfl
def db23_0 : DC := (.seq (sq [mq 21 7,mq 22 0,oq 23 (.len (.tmp 22)),oq 24 (.bin .lss (.tmp 21) (.tmp 23))] (.cond (.tmp 24) .skip (.exit 0))) (.seq (.block 1 none (sq [mq 27 0,mq 28 7,oq 29 (.iaddr 4 (.tmp 27) (.tmp 28)),oq 30 (.load (some 4) (.tmp 29)),oq 8 (.alloc (.agg [.str [],.int .i64 0,.int .i64 0,.int .i64 0]) 4),nq (.store 4 (.tmp 8) (.tmp 30))] (.seq (.seq (.ops true [oq 31 (.faddr 0 1 false (.tmp 8)),⟨some 32,.load none (.tmp 31),none,[0]⟩,⟨some 33,.call (.func 91) [.tmp 32],none,[1,0]⟩,mq 34 6,oq 35 (.faddr 0 1 false (.tmp 8)),⟨some 36,.load none (.tmp 35),none,[4]⟩,⟨some 37,.call (.func 92) [.tmp 34,.tmp 36],none,[3,5,4,2,1,0]⟩,⟨some 38,.call (.func 58) [.tmp 37,iq 9],none,[6,3,5,4,2,1,0]⟩,oq 39 (.faddr 1 1 false (.tmp 8)),⟨some 40,.load none (.tmp 39),none,[8]⟩,⟨some 41,.bin .lss (.tmp 40) (iq 0),none,[9,8]⟩,⟨some 42,.mov (.tmp 41),none,[10,9,8,7,6,3,5,4,2,1,0]⟩,⟨some 43,.faddr 1 1 false (.tmp 8),some (42,false),[11,10,9,8,7,6,3,5,4,2,1,0]⟩,⟨some 44,.load none (.tmp 43),some (42,false),[12,11,10,9,8,7,6,3,5,4,2,1,0]⟩,⟨some 45,.mov (.tmp 1),some (42,false),[11,10,9,8,7,6,3,5,4,2,1,0]⟩,⟨some 46,.bin .geq (.tmp 44) (.tmp 45),some (42,false),[13,12,11,10,9,8,7,6,3,5,4,2,1,0,14]⟩,⟨some 47,.pick (.tmp 42) (bq true) (.tmp 46),none,[11,10,9,8,7,6,3,5,4,2,1,0,15,13,12,14]⟩,⟨some 48,.call (.func 58) [.tmp 47,iq 10],none,[16,11,10,9,8,7,6,3,5,4,2,1,0,15,13,12,14]⟩,oq 49 (.faddr 2 1 false (.tmp 8)),⟨some 50,.load none (.tmp 49),none,[18]⟩,⟨some 51,.call (.func 89) [.tmp 50,iq 1,iq 1000000],none,[19,18,17,16,11,10,9,8,7,6,3,5,4,2,1,0,15,13,12,14]⟩,oq 52 (.faddr 3 1 false (.tmp 8)),⟨some 53,.load none (.tmp 52),none,[21]⟩,⟨some 54,.call (.func 89) [.tmp 53,iq (-100000),iq 100000],none,[22,21,20,19,18,17,16,11,10,9,8,7,6,3,5,4,2,1,0,15,13,12,14]⟩,⟨some 55,.lit true 1 5 (.int .i64 0) [(0,(.tmp 33)),(1,(.tmp 38)),(2,(.tmp 48)),(3,(.tmp 51)),(4,(.tmp 54))],none,[2,1,0,7,6,3,5,4,17,16,11,10,9,8,15,13,12,14,20,19,18,23,22,21]⟩,⟨some 56,.call (.func 88) [.tmp 55],none,[24,2,1,0,7,6,3,5,4,17,16,11,10,9,8,15,13,12,14,20,19,18,23,22,21]⟩,⟨some 9,.mov (.tmp 56),none,[25,24,2,1,0,7,6,3,5,4,17,16,11,10,9,8,15,13,12,14,20,19,18,23,22,21]⟩]) (sq [mq 57 9,oq 58 (.bin .neq (.tmp 57) (iq 0))] (.cond (.tmp 58) (sq [mq 59 9,mq 4 59] .ret) .skip))) (pq [mq 60 6,oq 61 (.faddr 0 1 false (.tmp 8)),oq 62 (.load none (.tmp 61)),oq 63 (.lit true 1 1 (.str []) [(0,(.tmp 62))]),oq 64 (.append false 1 (.tmp 60) (.tmp 63)),mq 6 64])))) (pq [mq 25 7,oq 26 (.bin .add (.tmp 25) (iq 1)),mq 7 26])))
def dk23_0 : Keep := ⟨[(6,1)],[0,1,6,7],[6,16]⟩
def dc23 : DFunc := ⟨65,2,[.tmp 4],sq [oq 4 (.mov (iq 0))] (.seq (sq [mq 10 1,oq 11 (.call (.func 65) [.tmp 10]),mq 12 0,oq 13 (.len (.tmp 12)),oq 14 (.bin .gtr (.tmp 13) (iq 32)),oq 15 (.call (.func 58) [.tmp 14,iq 5]),oq 16 (.lit true 1 2 (.int .i64 0) [(0,(.tmp 11)),(1,(.tmp 15))]),oq 17 (.call (.func 88) [.tmp 16]),mq 5 17] (sq [mq 18 5,oq 19 (.bin .neq (.tmp 18) (iq 0))] (.cond (.tmp 19) (sq [mq 20 5,mq 4 20] .ret) .skip))) (sq [oq 6 (.mov (.const (.slice none 0 0)))] (.seq (sq [oq 7 (.mov (iq 0))] (.block 0 (some ⟨[],[],[16]⟩) (.loop dk23_0 db23_0))) (sq [oq 4 (.mov (iq 0))] .ret))))⟩
theorem dh23:cProg Go.Proofs.Tryz.prog ⟨[(0,⟨[(6,1)],[0,1,6,7],[6,16]⟩)],[(0,⟨[],[],[16]⟩)],[16,55,63]⟩ 23=some dc23:=by kernel_rfl
def db33_0 : DC := (.seq (sq [mq 23 8,mq 24 6,oq 25 (.bin .lss (.tmp 23) (.tmp 24))] (.cond (.tmp 25) .skip (.exit 2))) (.seq (.block 3 none (.seq (.ops true [mq 28 1,mq 29 8,⟨some 30,.iaddr 4 (.tmp 28) (.tmp 29),none,[0,1]⟩,⟨some 31,.faddr 1 1 false (.tmp 30),none,[2,0,1]⟩,⟨some 32,.load none (.tmp 31),none,[3,2,0,1]⟩,mq 33 1,mq 34 6,⟨some 35,.iaddr 4 (.tmp 33) (.tmp 34),none,[5,6]⟩,⟨some 36,.faddr 1 1 false (.tmp 35),none,[7,5,6]⟩,⟨some 37,.load none (.tmp 36),none,[8,7,5,6]⟩,⟨some 38,.bin .eql (.tmp 32) (.tmp 37),none,[4,3,2,0,1,9,8,7,5,6]⟩]) (.cond (.tmp 38) (pq [mq 39 7,mq 40 5,mq 41 8,oq 42 (.iaddr 1 (.tmp 40) (.tmp 41)),oq 43 (.load none (.tmp 42)),oq 44 (.bin .sub (.tmp 39) (.tmp 43)),mq 7 44]) .skip))) (pq [mq 26 8,oq 27 (.bin .add (.tmp 26) (iq 1)),mq 8 27])))
def dk33_0 : Keep := ⟨[],[0,1,5,6,7,8],[5,53,54]⟩
def db33_1 : DC := (.seq (sq [mq 9 6,mq 10 1,oq 11 (.len (.tmp 10)),oq 12 (.bin .lss (.tmp 9) (.tmp 11))] (.cond (.tmp 12) .skip (.exit 0))) (.seq (.block 1 (some ⟨[],[0,1,5,6],[5]⟩) (sq [mq 15 0,mq 16 1,mq 17 6,oq 18 (.iaddr 4 (.tmp 16) (.tmp 17)),oq 19 (.faddr 1 1 false (.tmp 18)),oq 20 (.load none (.tmp 19)),oq 21 (.iaddr 1 (.tmp 15) (.tmp 20)),oq 22 (.load none (.tmp 21)),mq 7 22] (.seq (sq [oq 8 (.mov (iq 0))] (.block 2 (some ⟨[],[0,1,5,6,7],[5,53,54]⟩) (.loop dk33_0 db33_0))) (pq [mq 45 5,mq 46 1,mq 47 6,oq 48 (.iaddr 4 (.tmp 46) (.tmp 47)),oq 49 (.faddr 2 1 false (.tmp 48)),oq 50 (.load none (.tmp 49)),mq 51 7,oq 52 (.minmax false (.tmp 50) [.tmp 51]),oq 53 (.lit true 1 1 (.int .i64 0) [(0,(.tmp 52))]),oq 54 (.append false 1 (.tmp 45) (.tmp 53)),mq 5 54])))) (pq [mq 13 6,oq 14 (.bin .add (.tmp 13) (iq 1)),mq 6 14])))
def dk33_1 : Keep := ⟨[(5,1)],[0,1,5,6],[5]⟩
def dc33 : DFunc := ⟨56,2,[.tmp 4],sq [oq 4 (.mov (.const (.slice none 0 0)))] (sq [oq 5 (.mov (.const (.slice none 0 0)))] (.seq (sq [oq 6 (.mov (iq 0))] (.block 0 (some ⟨[],[5],[5]⟩) (.loop dk33_1 db33_1))) (sq [mq 55 5,mq 4 55] .ret)))⟩
theorem dh33:cProg Go.Proofs.Tryz.prog ⟨[(0,⟨[(5,1)],[0,1,5,6],[5]⟩),(2,⟨[],[0,1,5,6,7,8],[5,53,54]⟩)],[(2,⟨[],[0,1,5,6,7],[5,53,54]⟩),(1,⟨[],[0,1,5,6],[5]⟩),(0,⟨[],[5],[5]⟩)],[53]⟩ 33=some dc33:=by kernel_rfl
def db34_0 : DC := (.seq (sq [mq 7 6,mq 8 0,oq 9 (.len (.tmp 8)),oq 10 (.bin .lss (.tmp 7) (.tmp 9))] (.cond (.tmp 10) .skip (.exit 0))) (.seq (.block 1 none (.ops true [mq 13 5,mq 14 0,mq 15 6,⟨some 16,.iaddr 1 (.tmp 14) (.tmp 15),none,[1,2]⟩,⟨some 17,.load none (.tmp 16),none,[3,1,2]⟩,mq 18 1,mq 19 6,⟨some 20,.call (.func 93) [.tmp 18,.tmp 19],none,[5,6]⟩,⟨some 21,.bin .sub (.tmp 17) (.tmp 20),none,[4,3,1,2,7,5,6]⟩,⟨some 22,.minmax true (iq 0) [.tmp 21],none,[8,4,3,1,2,7,5,6]⟩,⟨some 23,.lit true 1 1 (.int .i64 0) [(0,(.tmp 22))],none,[9,8,4,3,1,2,7,5,6]⟩,⟨some 24,.append false 1 (.tmp 13) (.tmp 23),none,[0,10,9,8,4,3,1,2,7,5,6]⟩,⟨some 5,.mov (.tmp 24),none,[11,0,10,9,8,4,3,1,2,7,5,6]⟩])) (pq [mq 11 6,oq 12 (.bin .add (.tmp 11) (iq 1)),mq 6 12])))
def dk34_0 : Keep := ⟨[(5,1)],[0,1,5,6],[5]⟩
def dc34 : DFunc := ⟨26,2,[.tmp 4],sq [oq 4 (.mov (.const (.slice none 0 0)))] (sq [oq 5 (.mov (.const (.slice none 0 0)))] (.seq (sq [oq 6 (.mov (iq 0))] (.block 0 (some ⟨[],[5],[5]⟩) (.loop dk34_0 db34_0))) (sq [mq 25 5,mq 4 25] .ret)))⟩
theorem dh34:cProg Go.Proofs.Tryz.prog ⟨[(0,⟨[(5,1)],[0,1,5,6],[5]⟩)],[(0,⟨[],[5],[5]⟩)],[23]⟩ 34=some dc34:=by kernel_rfl
def db35_0 : DC := (.seq (sq [mq 7 6,mq 8 0,oq 9 (.len (.tmp 8)),oq 10 (.bin .lss (.tmp 7) (.tmp 9))] (.cond (.tmp 10) .skip (.exit 0))) (.seq (.block 1 none (.ops true [mq 13 5,mq 14 0,mq 15 6,⟨some 16,.iaddr 1 (.tmp 14) (.tmp 15),none,[1,2]⟩,⟨some 17,.load none (.tmp 16),none,[3,1,2]⟩,mq 18 1,mq 19 6,⟨some 20,.call (.func 93) [.tmp 18,.tmp 19],none,[5,6]⟩,⟨some 21,.bin .sub (.tmp 17) (.tmp 20),none,[4,3,1,2,7,5,6]⟩,⟨some 22,.lit true 1 1 (.int .i64 0) [(0,(.tmp 21))],none,[8,4,3,1,2,7,5,6]⟩,⟨some 23,.append false 1 (.tmp 13) (.tmp 22),none,[0,9,8,4,3,1,2,7,5,6]⟩,⟨some 5,.mov (.tmp 23),none,[10,0,9,8,4,3,1,2,7,5,6]⟩])) (pq [mq 11 6,oq 12 (.bin .add (.tmp 11) (iq 1)),mq 6 12])))
def dk35_0 : Keep := ⟨[(5,1)],[0,1,5,6],[5]⟩
def dc35 : DFunc := ⟨25,2,[.tmp 4],sq [oq 4 (.mov (.const (.slice none 0 0)))] (sq [oq 5 (.mov (.const (.slice none 0 0)))] (.seq (sq [oq 6 (.mov (iq 0))] (.block 0 (some ⟨[],[5],[5]⟩) (.loop dk35_0 db35_0))) (sq [mq 24 5,mq 4 24] .ret)))⟩
theorem dh35:cProg Go.Proofs.Tryz.prog ⟨[(0,⟨[(5,1)],[0,1,5,6],[5]⟩)],[(0,⟨[],[5],[5]⟩)],[22]⟩ 35=some dc35:=by kernel_rfl
def db36_0 : DC := (.seq (sq [mq 11 7,mq 12 6,oq 13 (.len (.tmp 12)),oq 14 (.bin .lss (.tmp 11) (.tmp 13))] (.cond (.tmp 14) .skip (.exit 0))) (.seq (.block 1 none (.ops true [mq 17 5,mq 18 6,mq 19 7,⟨some 20,.iaddr 1 (.tmp 18) (.tmp 19),none,[1,2]⟩,⟨some 21,.load none (.tmp 20),none,[3,1,2]⟩,mq 22 1,mq 23 7,⟨some 24,.iaddr 4 (.tmp 22) (.tmp 23),none,[5,6]⟩,⟨some 25,.faddr 3 1 false (.tmp 24),none,[7,5,6]⟩,⟨some 26,.load none (.tmp 25),none,[8,7,5,6]⟩,⟨some 27,.bin .mul (.tmp 21) (.tmp 26),none,[4,3,1,2,9,8,7,5,6]⟩,⟨some 28,.bin .add (.tmp 17) (.tmp 27),none,[0,10,4,3,1,2,9,8,7,5,6]⟩,⟨some 5,.mov (.tmp 28),none,[11,0,10,4,3,1,2,9,8,7,5,6]⟩])) (pq [mq 15 7,oq 16 (.bin .add (.tmp 15) (iq 1)),mq 7 16])))
def dk36_0 : Keep := ⟨[],[1,5,6,7],[]⟩
def dc36 : DFunc := ⟨30,2,[.tmp 4],sq [oq 4 (.mov (iq 0))] (sq [oq 5 (.mov (iq 0))] (sq [mq 8 0,mq 9 1,oq 10 (.call (.func 33) [.tmp 8,.tmp 9]),mq 6 10] (.seq (sq [oq 7 (.mov (iq 0))] (.block 0 (some ⟨[],[5],[]⟩) (.loop dk36_0 db36_0))) (sq [mq 29 5,mq 4 29] .ret))))⟩
theorem dh36:cProg Go.Proofs.Tryz.prog ⟨[(0,⟨[],[1,5,6,7],[]⟩)],[(0,⟨[],[5],[]⟩)],[]⟩ 36=some dc36:=by kernel_rfl
def dc58 : DFunc := ⟨7,2,[.tmp 4],sq [oq 4 (.mov (iq 0))] (.seq (sq [mq 5 0] (.cond (.tmp 5) (sq [mq 6 1,mq 4 6] .ret) .skip)) (sq [oq 4 (.mov (iq 0))] .ret))⟩
theorem dh58:cProg Go.Proofs.Tryz.prog ⟨[],[],[]⟩ 58=some dc58:=by kernel_rfl
end Sh

namespace Sh
open Go
def dc65 : DFunc := ⟨5,1,[.tmp 2],sq [oq 2 (.mov (iq 0))] (sq [mq 3 0,oq 4 (.call (.func 89) [.tmp 3,iq 1,iq 24]),mq 2 4] .ret)⟩
theorem dh65:cProg Go.Proofs.Tryz.prog ⟨[],[],[]⟩ 65=some dc65:=by kernel_rfl
def dc87 : DFunc := ⟨14,2,[.tmp 4],sq [oq 4 (.mov (iq 0))] (sq [mq 5 0,oq 6 (.bin .eql (.tmp 5) (iq 0)),oq 7 (.call (.func 58) [.tmp 6,iq 12]),mq 8 0,mq 9 1,oq 10 (.bin .gtr (.tmp 8) (.tmp 9)),oq 11 (.call (.func 58) [.tmp 10,iq 5]),oq 12 (.lit true 1 2 (.int .i64 0) [(0,(.tmp 7)),(1,(.tmp 11))]),oq 13 (.call (.func 88) [.tmp 12]),mq 4 13] .ret)⟩
theorem dh87:cProg Go.Proofs.Tryz.prog ⟨[],[],[12]⟩ 87=some dc87:=by kernel_rfl
def db88_0 : DC := (.seq (sq [mq 4 3,mq 5 0,oq 6 (.len (.tmp 5)),oq 7 (.bin .lss (.tmp 4) (.tmp 6))] (.cond (.tmp 7) .skip (.exit 0))) (.seq (.block 1 none (sq [mq 10 0,mq 11 3,oq 12 (.iaddr 1 (.tmp 10) (.tmp 11)),oq 13 (.load none (.tmp 12)),oq 14 (.bin .neq (.tmp 13) (iq 0))] (.cond (.tmp 14) (sq [mq 15 0,mq 16 3,oq 17 (.iaddr 1 (.tmp 15) (.tmp 16)),oq 18 (.load none (.tmp 17)),mq 2 18] .ret) .skip))) (pq [mq 8 3,oq 9 (.bin .add (.tmp 8) (iq 1)),mq 3 9])))
def dk88_0 : Keep := ⟨[],[0,3],[]⟩
def dc88 : DFunc := ⟨19,1,[.tmp 2],sq [oq 2 (.mov (iq 0))] (.seq (sq [oq 3 (.mov (iq 0))] (.block 0 (some ⟨[],[],[]⟩) (.loop dk88_0 db88_0))) (sq [oq 2 (.mov (iq 0))] .ret))⟩
theorem dh88:cProg Go.Proofs.Tryz.prog ⟨[(0,⟨[],[0,3],[]⟩)],[(0,⟨[],[],[]⟩)],[]⟩ 88=some dc88:=by kernel_rfl
def dc89 : DFunc := ⟨16,3,[.tmp 6],sq [oq 6 (.mov (iq 0))] (sq [mq 7 0,mq 8 1,oq 9 (.bin .lss (.tmp 7) (.tmp 8)),mq 10 9,gq 11 (.mov (.tmp 0)) 10 false,gq 12 (.mov (.tmp 2)) 10 false,gq 13 (.bin .gtr (.tmp 11) (.tmp 12)) 10 false,oq 14 (.pick (.tmp 10) (bq true) (.tmp 13)),oq 15 (.call (.func 58) [.tmp 14,iq 3]),mq 6 15] .ret)⟩
theorem dh89:cProg Go.Proofs.Tryz.prog ⟨[],[],[]⟩ 89=some dc89:=by kernel_rfl
def db90_0 : DC := (.seq (sq [mq 9 7,mq 10 0,oq 11 (.len (.tmp 10)),oq 12 (.bin .lss (.tmp 9) (.tmp 11))] (.cond (.tmp 12) .skip (.exit 0))) (.seq (.block 1 none (sq [mq 15 0,mq 16 7,oq 17 (.iaddr 1 (.tmp 15) (.tmp 16)),oq 18 (.load none (.tmp 17)),mq 19 1,mq 20 2,oq 21 (.call (.func 89) [.tmp 18,.tmp 19,.tmp 20]),mq 8 21] (sq [mq 22 8,oq 23 (.bin .neq (.tmp 22) (iq 0))] (.cond (.tmp 23) (sq [mq 24 8,mq 6 24] .ret) .skip)))) (pq [mq 13 7,oq 14 (.bin .add (.tmp 13) (iq 1)),mq 7 14])))
def dk90_0 : Keep := ⟨[],[0,1,2,7],[]⟩
def dc90 : DFunc := ⟨25,3,[.tmp 6],sq [oq 6 (.mov (iq 0))] (.seq (sq [oq 7 (.mov (iq 0))] (.block 0 (some ⟨[],[],[]⟩) (.loop dk90_0 db90_0))) (sq [oq 6 (.mov (iq 0))] .ret))⟩
theorem dh90:cProg Go.Proofs.Tryz.prog ⟨[(0,⟨[],[0,1,2,7],[]⟩)],[(0,⟨[],[],[]⟩)],[]⟩ 90=some dc90:=by kernel_rfl
def dc91 : DFunc := ⟨7,1,[.tmp 2],sq [oq 2 (.mov (iq 0))] (sq [mq 3 0,oq 4 (.call (.func 135) [.tmp 3]),oq 5 (.un .not (.tmp 4)),oq 6 (.call (.func 58) [.tmp 5,iq 8]),mq 2 6] .ret)⟩
theorem dh91:cProg Go.Proofs.Tryz.prog ⟨[],[],[]⟩ 91=some dc91:=by kernel_rfl
def db92_0 : DC := (.seq (sq [mq 6 5,mq 7 0,oq 8 (.len (.tmp 7)),oq 9 (.bin .lss (.tmp 6) (.tmp 8))] (.cond (.tmp 9) .skip (.exit 0))) (.seq (.block 1 none (sq [mq 12 0,mq 13 5,oq 14 (.iaddr 1 (.tmp 12) (.tmp 13)),oq 15 (.load none (.tmp 14)),mq 16 1,oq 17 (.bin .eql (.tmp 15) (.tmp 16))] (.cond (.tmp 17) (sq [oq 4 (.mov (bq true))] .ret) .skip))) (pq [mq 10 5,oq 11 (.bin .add (.tmp 10) (iq 1)),mq 5 11])))
def dk92_0 : Keep := ⟨[],[0,1,5],[]⟩
def dc92 : DFunc := ⟨18,2,[.tmp 4],sq [oq 4 (.mov (bq false))] (.seq (sq [oq 5 (.mov (iq 0))] (.block 0 (some ⟨[],[],[]⟩) (.loop dk92_0 db92_0))) (sq [oq 4 (.mov (bq false))] .ret))⟩
theorem dh92:cProg Go.Proofs.Tryz.prog ⟨[(0,⟨[],[0,1,5],[]⟩)],[(0,⟨[],[],[]⟩)],[]⟩ 92=some dc92:=by kernel_rfl
def db93_0 : DC := (.seq (sq [mq 7 6,mq 8 0,oq 9 (.len (.tmp 8)),oq 10 (.bin .lss (.tmp 7) (.tmp 9))] (.cond (.tmp 10) .skip (.exit 0))) (.seq (.block 1 none (sq [mq 13 0,mq 14 6,oq 15 (.iaddr 4 (.tmp 13) (.tmp 14)),oq 16 (.faddr 1 1 false (.tmp 15)),oq 17 (.load none (.tmp 16)),mq 18 1,oq 19 (.bin .eql (.tmp 17) (.tmp 18))] (.cond (.tmp 19) (pq [mq 20 5,mq 21 0,mq 22 6,oq 23 (.iaddr 4 (.tmp 21) (.tmp 22)),oq 24 (.faddr 2 1 false (.tmp 23)),oq 25 (.load none (.tmp 24)),oq 26 (.bin .add (.tmp 20) (.tmp 25)),mq 5 26]) .skip))) (pq [mq 11 6,oq 12 (.bin .add (.tmp 11) (iq 1)),mq 6 12])))
def dk93_0 : Keep := ⟨[],[0,1,5,6],[]⟩
def dc93 : DFunc := ⟨28,2,[.tmp 4],sq [oq 4 (.mov (iq 0))] (sq [oq 5 (.mov (iq 0))] (.seq (sq [oq 6 (.mov (iq 0))] (.block 0 (some ⟨[],[5],[]⟩) (.loop dk93_0 db93_0))) (sq [mq 27 5,mq 4 27] .ret)))⟩
theorem dh93:cProg Go.Proofs.Tryz.prog ⟨[(0,⟨[],[0,1,5,6],[]⟩)],[(0,⟨[],[5],[]⟩)],[]⟩ 93=some dc93:=by kernel_rfl
end Sh

namespace Sh
open Go Go.Proofs
theorem q_When (b:Bool) (e:Int):PC 58 [.bool b,DV.int .i64 (e)] (DV.int .i64 (whenE b e)):=by
 refine pureCall_ofR dh58 rfl ?_
 conv=>whnf
 refine ⟨fun hb=>?_,fun hb=>?_⟩<;>try (exact absurd hb (by decide))
 all_goals conv=>whnf
 all_goals subst hb;rfl
theorem q_CheckRange (n l h:Int):PC 89 [DV.int .i64 (n),DV.int .i64 (l),DV.int .i64 (h)] (DV.int .i64 (withE n l h)):=by
 refine pureCall_ofR dh89 rfl ?_
 conv=>whnf
 refine ⟨fun hb=>?_,fun hb=>?_⟩<;>try (exact absurd hb (by decide))
 all_goals conv=>whnf
 ·refine .inl ?_
  conv=>whnf
  refine ⟨_,q_When ..,?_⟩
  conv=>whnf
  exact int_eq (by simp_all [withE,whenE];split<;>split<;>omega)
 ·refine .inl ?_
  conv=>whnf
  refine ⟨_,q_When ..,?_⟩
  conv=>whnf
  exact int_eq (by simp_all [withE,whenE])
theorem q_First (l:List Int) (hl:l.length < 4611686018427387904):PC 88 [iL l] (DV.int .i64 (firstE l)):=by
 refine pureCall_ofR dh88 rfl ?_
 conv=>whnf
 refine dwp_loopR (P:=Tryz.prog) (G:=GC) (k:=dk88_0) (b:=db88_0) (α:=Nat) (fun i=>[(0,iL l),(3,DV.int .i64 (i))]) (fun _=>[]) (fun i=>i≤l.length∧firstE l=firstE (l.drop i)) (fun i=>l.length - i) 0 ⟨rfl,rfl,rfl⟩ ⟨Nat.zero_le _,rfl⟩ ?_
 intro i ⟨h1,h2⟩
 conv=>whnf
 refine ⟨fun hb=>?_,fun hb=>?_⟩<;>try (exact absurd hb (by decide))
 ·have hi:i < l.length:=by simpa using hb
  have hd:=firstE_drop l i hi
  conv=>whnf
  rw [getD_enc _ _ (i) 0 hi]
  refine ⟨idxA hi rfl,?_⟩
  conv=>whnf
  refine ⟨fun hb=>?_,fun hb=>?_⟩<;>try (exact absurd hb (by decide))
  ·conv=>whnf
   rw [getD_enc _ _ (i) 0 hi]
   refine ⟨idxA hi rfl,?_⟩
   conv=>whnf
   exact int_eq (by simp_all)
  ·conv=>whnf
   rw [wrap_succ i (by omega)]
   exact ⟨i+1,rfl,rfl,rfl,⟨hi,by simp_all⟩,by omega⟩
 ·conv=>whnf
  have:i=l.length:=by simp at hb;omega
  subst this
  exact int_eq (by rw [h2];simp [firstE])
end Sh

namespace Sh
open Go Go.Proofs
theorem r_counted (n m:Int):PC 87 [DV.int .i64 (n),DV.int .i64 (m)] (DV.int .i64 (countE n m)):=by
 refine pureCall_ofR dh87 rfl ?_
 conv=>whnf
 repeat' (first
  |(refine ⟨fun hg=>?_,fun hg=>?_⟩<;>first|contradiction|(conv=>whnf))
  |(refine Or.inl ?_;conv=>whnf)
  |(refine ⟨_,q_When ..,?_⟩;conv=>whnf)
  |(refine ⟨_,q_First [_,_] (by simp),?_⟩;conv=>whnf)
  |(refine And.intro ?_ ?_;kernel_rfl;conv=>whnf))
 rfl
theorem r_numbers (l:List Int) (lo hi:Int) (hl:l.length < 1073741824):PC 90 [iL l,DV.int .i64 (lo),DV.int .i64 (hi)] (DV.int .i64 (firstE (l.map fun n=>withE n lo hi))):=by
 have e0:((l.map (DV.int .i64)).length:Int)=l.length:=by simp
 refine pureCall_ofR dh90 rfl ?_
 conv=>whnf
 refine dwp_loopU (P:=Tryz.prog) (G:=GC) (k:=dk90_0) (b:=db90_0) (α:=Nat) (fun i=>[(7,DV.int .i64 (i))]) (fun _=>[]) (fun i=>i≤l.length∧firstE (l.map fun n=>withE n lo hi)=firstE ((l.map fun n=>withE n lo hi).drop i)) (fun i=>l.length - i) 0 ⟨Nat.zero_le _,rfl⟩ ?_
 conv=>whnf
 refine ⟨rfl,rfl,?_⟩
 conv=>whnf
 refine ⟨rfl,?_⟩
 intro i ⟨h1,h2⟩
 conv=>whnf
 refine ⟨fun hb=>?_,fun hb=>?_⟩
 ·have hi':i < l.length:=by simpa using hb
  have hd:=firstE_drop (l.map fun n=>withE n lo hi) i (by simpa using hi')
  rw [show (l.map fun n=>withE n lo hi).getD i 0=withE (l.getD i 0) lo hi by simp [List.getD_eq_getElem?_getD,hi']] at hd
  clear hb
  conv=>whnf
  rw [getD_enc _ _ (i) 0 hi']
  refine ⟨idxA hi' rfl,?_⟩
  conv=>whnf
  repeat' (first
   |(refine ⟨fun hg=>?_,fun hg=>?_⟩<;>first|contradiction|(conv=>whnf))
   |(refine Or.inl ?_;conv=>whnf)
   |(refine ⟨_,q_CheckRange ..,?_⟩;conv=>whnf)
   |(refine And.intro ?_ ?_;kernel_rfl;conv=>whnf))
  ·have hg:withE (l.getD i 0) lo hi≠0:=of_decide_eq_true hg
   rw [if_pos hg] at hd
   exact int_eq (by rw [h2,hd])
  ·have hg:¬ withE (l.getD i 0) lo hi≠0:=of_decide_eq_false hg
   rw [if_neg hg] at hd
   rw [wrap_succ i (by omega)]
   exact ⟨i+1,rfl,rfl,rfl,⟨hi',by rw [h2,hd]⟩,by omega⟩
 ·have hi':i=l.length:=by have:=of_decide_eq_false hb;rw [e0] at this;omega
  clear hb
  conv=>whnf
  exact int_eq (by rw [h2,hi',List.drop_of_length_le (by simp)];rfl)
theorem r_CheckUnits (l:List Int) (hl:l.length < 1073741824):PC 21 [iL l] (DV.int .i64 (chkUn l)):=by
 have e0:((l.map (DV.int .i64)).length:Int)=l.length:=by simp
 have k1:=r_numbers l 0 1000000 hl
 refine pureCall_ofR dh21 rfl ?_
 conv=>whnf
 repeat' (first
  |(refine ⟨fun hg=>?_,fun hg=>?_⟩<;>first|contradiction|(conv=>whnf))
  |(refine Or.inl ?_;conv=>whnf)
  |(refine ⟨_,k1,?_⟩;conv=>whnf)
  |(refine ⟨_,r_counted ..,?_⟩;conv=>whnf)
  |(refine ⟨_,q_First [_,_] (by simp),?_⟩;conv=>whnf)
  |(refine And.intro ?_ ?_;kernel_rfl;conv=>whnf))
 refine int_eq ?_
 rw [e0];rfl
theorem r_CheckSlots (n:Int):PC 65 [DV.int .i64 (n)] (DV.int .i64 (withE n 1 24)):=by
 refine pureCall_ofR dh65 rfl ?_
 conv=>whnf
 repeat' (first
  |(refine ⟨fun hg=>?_,fun hg=>?_⟩<;>first|contradiction|(conv=>whnf))
  |(refine Or.inl ?_;conv=>whnf)
  |(refine ⟨_,q_CheckRange ..,?_⟩;conv=>whnf)
  |(refine And.intro ?_ ?_;kernel_rfl;conv=>whnf))
 rfl
end Sh

namespace Sh
open Go
def db135_0 : DC := (.seq (sq [mq 14 3,mq 15 0,oq 16 (.lenS (.tmp 15)),oq 17 (.bin .lss (.tmp 14) (.tmp 16))] (.cond (.tmp 17) .skip (.exit 0))) (.seq (.block 1 none (sq [mq 20 0,mq 21 3,oq 22 (.indexS (.tmp 20) (.tmp 21)),oq 23 (.bin .geq (.tmp 22) (.const (.int .u8 65))),mq 24 23,gq 25 (.mov (.tmp 0)) 24 true,gq 26 (.mov (.tmp 3)) 24 true,gq 27 (.indexS (.tmp 25) (.tmp 26)) 24 true,gq 28 (.bin .leq (.tmp 27) (.const (.int .u8 90))) 24 true,oq 29 (.pick (.tmp 24) (.tmp 28) (bq false)),mq 30 29,gq 31 (.mov (.tmp 0)) 30 false,gq 32 (.mov (.tmp 3)) 30 false,gq 33 (.indexS (.tmp 31) (.tmp 32)) 30 false,gq 34 (.bin .geq (.tmp 33) (.const (.int .u8 97))) 30 false,gq 35 (.mov (.tmp 34)) 30 false,gq 36 (.mov (.tmp 0)) 35 true,gq 37 (.mov (.tmp 3)) 35 true,gq 38 (.indexS (.tmp 36) (.tmp 37)) 35 true,gq 39 (.bin .leq (.tmp 38) (.const (.int .u8 122))) 35 true,gq 40 (.pick (.tmp 35) (.tmp 39) (bq false)) 30 false,oq 41 (.pick (.tmp 30) (bq true) (.tmp 40)),mq 4 41] (sq [mq 42 0,mq 43 3,oq 44 (.indexS (.tmp 42) (.tmp 43)),oq 45 (.bin .geq (.tmp 44) (.const (.int .u8 48))),mq 46 45,gq 47 (.mov (.tmp 0)) 46 true,gq 48 (.mov (.tmp 3)) 46 true,gq 49 (.indexS (.tmp 47) (.tmp 48)) 46 true,gq 50 (.bin .leq (.tmp 49) (.const (.int .u8 57))) 46 true,oq 51 (.pick (.tmp 46) (.tmp 50) (bq false)),mq 52 51,gq 53 (.mov (.tmp 0)) 52 false,gq 54 (.mov (.tmp 3)) 52 false,gq 55 (.indexS (.tmp 53) (.tmp 54)) 52 false,gq 56 (.bin .eql (.tmp 55) (.const (.int .u8 95))) 52 false,oq 57 (.pick (.tmp 52) (bq true) (.tmp 56)),mq 5 57] (sq [mq 58 4,oq 59 (.un .not (.tmp 58)),mq 60 59,gq 61 (.mov (.tmp 3)) 60 true,gq 62 (.bin .eql (.tmp 61) (iq 0)) 60 true,gq 63 (.mov (.tmp 62)) 60 true,gq 64 (.mov (.tmp 5)) 63 false,gq 65 (.un .not (.tmp 64)) 63 false,gq 66 (.pick (.tmp 63) (bq true) (.tmp 65)) 60 true,oq 67 (.pick (.tmp 60) (.tmp 66) (bq false))] (.cond (.tmp 67) (sq [oq 2 (.mov (bq false))] .ret) .skip))))) (pq [mq 18 3,oq 19 (.bin .add (.tmp 18) (iq 1)),mq 3 19])))
def dk135_0 : Keep := ⟨[],[0,3],[]⟩
def dc135 : DFunc := ⟨68,1,[.tmp 2],sq [oq 2 (.mov (bq false))] (.seq (sq [mq 6 0,oq 7 (.lenS (.tmp 6)),oq 8 (.bin .eql (.tmp 7) (iq 0)),mq 9 8,gq 10 (.mov (.tmp 0)) 9 false,gq 11 (.lenS (.tmp 10)) 9 false,gq 12 (.bin .gtr (.tmp 11) (iq 24)) 9 false,oq 13 (.pick (.tmp 9) (bq true) (.tmp 12))] (.cond (.tmp 13) (sq [oq 2 (.mov (bq false))] .ret) .skip)) (.seq (sq [oq 3 (.mov (iq 0))] (.block 0 (some ⟨[],[],[]⟩) (.loop dk135_0 db135_0))) (sq [oq 2 (.mov (bq true))] .ret)))⟩
theorem dh135:cProg Go.Proofs.Tryz.prog ⟨[(0,⟨[],[0,3],[]⟩)],[(0,⟨[],[],[]⟩)],[]⟩ 135=some dc135:=by kernel_rfl
end Sh

namespace Sh
open Go Go.Proofs
theorem q_IsName (s:List UInt8) (hs:s.length < 1073741824):PC 135 [.str s] (.bool (nameB s)):=by
 refine pureCall_ofR dh135 rfl ?_
 conv=>whnf
 repeat' (first
  |(refine ⟨fun hg=>?_,fun hg=>?_⟩<;>first|contradiction|(replace hg:=of_decide_eq_true hg;first|(exfalso;omega;done)|(conv=>whnf))|(replace hg:=of_decide_eq_false hg;first|(exfalso;omega;done)|(conv=>whnf))|(skip;conv=>whnf)|(conv=>whnf))
  |(refine Or.inl ?_;conv=>whnf)
  |(refine And.intro ?_ ?_;kernel_rfl;conv=>whnf))
 ·have hg:(24:Int) < s.length:=hg
  refine bool_eq ?_
  unfold nameB
  rw [show decide (s.length≤24)=false from decide_eq_false (by omega)];simp
 ·have hl24:¬ (24:Int) < s.length:=hg
  rename_i hl0
  have hl0:¬ ((s.length:Int)=0):=by first|exact hl0|exact of_decide_eq_false hl0
  refine dwp_loopU (P:=Tryz.prog) (G:=GC) (k:=dk135_0) (b:=db135_0) (α:=Nat) (fun i=>[(3,DV.int .i64 (i))]) (fun i=>[]) (fun i=>i≤s.length∧∀ j,j < i→nmAt s j=true) (fun i=>s.length - i) 0 ⟨Nat.zero_le _,fun d h=>by omega⟩ ?_
  conv=>whnf
  refine ⟨rfl,rfl,?_⟩
  conv=>whnf
  refine ⟨rfl,?_⟩
  intro i ⟨h1,h2⟩
  conv=>whnf
  refine ⟨fun hb=>?_,fun hb=>?_⟩
  ·have hi:i < s.length:=by simpa using hb
   clear hb
   conv=>whnf
   refine ⟨⟨by omega,by omega⟩,?_⟩
   rw [Int.toNat_natCast]
   have hl:=isLet_iff (s.getD i 0)
   have ho:=isOth_iff (s.getD i 0)
   have hn:=nmAt_iff s i
   have hbad:=nameB_bad hi
   generalize isLet (s.getD i 0)=L at *
   generalize isOth (s.getD i 0)=O at *
   generalize hcv:(s.getD i 0).toNat=c at *
   have hn':nmAt s i=true ↔ ((97≤c∧c≤122)∨(65≤c∧c≤90))∨(i≠0∧(c=95∨(48≤c∧c≤57))):=by rw [hn,hl,ho]
   have hi0:(0:Int)≤(i:Int)∧(i:Int) < (s.length:Int):=by omega
   conv=>whnf
   repeat' (first
    |(refine ⟨fun hg=>?_,fun hg=>?_⟩<;>first|contradiction|(replace hg:=of_decide_eq_true hg;first|(exfalso;omega;done)|(conv=>whnf))|(replace hg:=of_decide_eq_false hg;first|(exfalso;omega;done)|(conv=>whnf))|(skip;conv=>whnf)|(conv=>whnf))
    |(refine Or.inl ?_;conv=>whnf)
    |(refine ⟨hi0,?_⟩;rw [Int.toNat_natCast,hcv];conv=>whnf)
    |(refine And.intro ?_ ?_;kernel_rfl;conv=>whnf))
   all_goals
    first
    |(refine bool_eq (hbad ?_).symm
      cases hnm:nmAt s i with
      |false=>rfl
      |true =>
       exfalso
       have hq:=hn'.1 hnm
       clear hn' hn hl ho hbad h2
       simp only [cond_true,cond_false,Bool.not_true,Bool.not_false,decide_eq_true_eq,Bool.not_eq_true',decide_eq_false_iff_not,Bool.not_eq_false'] at *
       omega)
    |(rw [wrap_succ i (by omega)]
      refine ⟨i+1,rfl,rfl,rfl,⟨hi,fun j hj=>?_⟩,by omega⟩
      by_cases h:j=i
      ·subst h
       refine hn'.2 ?_
       clear hn' hn hl ho hbad h2
       simp only [cond_true,cond_false,Bool.not_true,Bool.not_false,decide_eq_true_eq,Bool.not_eq_true',decide_eq_false_iff_not,Bool.not_eq_false'] at *
       omega
      ·exact h2 j (by omega))
  ·have hi:i=s.length:=by have:=of_decide_eq_false hb;omega
   clear hb
   subst hi
   conv=>whnf
   refine bool_eq ?_
   rw [nameB_ok h2,decide_eq_true (show s.length≤24 by omega),decide_eq_true (show s≠[] from fun e=>by rw [e] at hl0;exact hl0 rfl)];rfl
 ·rename_i hl0
  have hl0:((s.length:Int)=0):=by first|exact hl0|exact of_decide_eq_true hl0
  have h0:s=[]:=List.eq_nil_of_length_eq_zero (by omega)
  subst h0;rfl
theorem q_CheckName (s:List UInt8) (hs:s.length < 1073741824):PC 91 [.str s] (DV.int .i64 (whenE (!nameB s) 8)):=by
 have k1:=q_IsName s hs
 refine pureCall_ofR dh91 rfl ?_
 conv=>whnf
 repeat' (first
  |(refine ⟨fun hg=>?_,fun hg=>?_⟩<;>first|contradiction|(conv=>whnf))
  |(refine Or.inl ?_;conv=>whnf)
  |(refine ⟨_,k1,?_⟩;conv=>whnf)
  |(refine ⟨_,q_When ..,?_⟩;conv=>whnf)
  |(refine And.intro ?_ ?_;kernel_rfl;conv=>whnf))
 rfl
end Sh

namespace Sh
open Go Go.Proofs
theorem q_HasWord (l:List (List UInt8)) (s:List UInt8) (hl:l.length < 1073741824):PC 92 [.list (l.map DV.str),.str s] (.bool (decide (s ∈ l))):=by
 have e0:((l.map DV.str).length:Int)=l.length:=by simp
 refine pureCall_ofR dh92 rfl ?_
 conv=>whnf
 refine dwp_loopU (P:=Tryz.prog) (G:=GC) (k:=dk92_0) (b:=db92_0) (α:=Nat) (fun i=>[(5,DV.int .i64 (i))]) (fun _=>[]) (fun i=>i≤l.length∧∀ j,j < i→l.getD j []≠s) (fun i=>l.length - i) 0 ⟨Nat.zero_le _,fun j h=>by omega⟩ ?_
 conv=>whnf
 refine ⟨rfl,rfl,?_⟩
 conv=>whnf
 refine ⟨rfl,?_⟩
 intro i ⟨h1,h2⟩
 conv=>whnf
 refine ⟨fun hb=>?_,fun hb=>?_⟩
 ·have hi:i < l.length:=by simpa using hb
  clear hb
  conv=>whnf
  rw [getD_enc _ _ (i) [] hi]
  refine ⟨idxA hi rfl,?_⟩
  conv=>whnf
  refine ⟨fun hg=>?_,fun hg=>?_⟩
  ·have hg:l.getD i []=s:=of_decide_eq_true hg
   conv=>whnf
   refine bool_eq ?_
   rw [← hg,decide_eq_true (getD_in [] hi)]
  ·have hg:¬ l.getD i []=s:=of_decide_eq_false hg
   conv=>whnf
   rw [wrap_succ i (by omega)]
   refine ⟨i+1,rfl,rfl,rfl,⟨hi,fun j hj=>?_⟩,by omega⟩
   by_cases h:j=i
   ·subst h;exact hg
   ·exact h2 j (by omega)
 ·have hi:i=l.length:=by have:=of_decide_eq_false hb;rw [e0] at this;omega
  clear hb
  conv=>whnf
  refine bool_eq ?_
  have:s ∉ l:=fun hm=>by
   obtain ⟨j,hj,he⟩:=List.mem_iff_getElem.1 hm
   refine h2 j (by omega) ?_
   rw [← he];simp [List.getD_eq_getElem?_getD,hj]
  rw [decide_eq_false this]
end Sh

namespace Sh
open Go Go.Proofs
def kS (l:List Of) (i:Nat):List DV:=(knO l i).map DV.str
theorem kS_len (l:List Of) (i:Nat) (h:i≤l.length):(kS l i).length=i:=by unfold kS knO;simp;omega
theorem kS_succ (l:List Of) (i:Nat) (h:i < l.length):kS l (i+1)=kS l i++[.str (l.getD i O0).nm]:=by unfold kS;rw [knO_succ l i h,List.map_append];rfl
theorem r_CheckOffers (l:List Of) (n:Int) (hl:l.length < 1073741824) (hn:∀ o ∈ l,o.nm.length < 1073741824):PC 23 [ofsV l,DV.int .i64 (n)] (DV.int .i64 (chkOf l n)):=by
 have e0:((l.map encO).length:Int)=l.length:=by simp
 have hh:headE l.length n=firstE [withE n 1 24,whenE (decide (32 < ((l.map encO).length:Int))) 5]:=by unfold headE;rw [e0]
 refine pureCall_ofR dh23 rfl ?_
 conv=>whnf
 repeat' (first
  |(refine ⟨fun hg=>?_,fun hg=>?_⟩<;>first|contradiction|(conv=>whnf))
  |(refine Or.inl ?_;conv=>whnf)
  |(refine ⟨_,r_CheckSlots ..,?_⟩;conv=>whnf)
  |(refine ⟨_,q_When ..,?_⟩;conv=>whnf)
  |(refine ⟨_,q_First [_,_] (by simp),?_⟩;conv=>whnf)
  |(refine And.intro ?_ ?_;kernel_rfl;conv=>whnf))
 ·have hg:=of_decide_eq_true hg
  rw [← hh] at hg ⊢
  exact int_eq (by unfold chkOf;rw [if_pos hg])
 have hg:=of_decide_eq_false hg
 rw [← hh] at hg
 have hk:chkOf l n=chkOs n (knO l 0) (l.drop 0):=by unfold chkOf;rw [if_neg hg];rfl
 rw [hk]
 clear hk hg hh
 refine dwp_loopU (P:=Tryz.prog) (G:=GC) (k:=dk23_0) (b:=db23_0) (α:=Nat) (fun i=>[(6,.own 6 0 (kS l i).length (kS l i).length),(7,DV.int .i64 (i))]) (fun i=>[(6,.row 1 (kS l i) false)]) (fun i=>i≤l.length∧chkOs n (knO l 0) (l.drop 0)=chkOs n (knO l i) (l.drop i)) (fun i=>l.length - i) 0 ⟨Nat.zero_le _,rfl⟩ ?_
 conv=>whnf
 refine ⟨rfl,rfl,?_⟩
 conv=>whnf
 refine ⟨rfl,?_⟩
 intro i ⟨h1,h2⟩
 conv=>whnf
 refine ⟨fun hb=>?_,fun hb=>?_⟩
 ·have hi:i < l.length:=by simpa using hb
  clear hb
  have hd:=chkOs_drop n l i hi
  have hks:=kS_succ l i hi
  have hnm:=hn _ (getD_in O0 hi)
  conv=>whnf
  rw [getD_enc _ _ (i) O0 hi]
  refine ⟨idxA hi rfl,?_⟩
  conv=>whnf
  generalize l.getD i O0=t at *
  have kN:=q_CheckName t.nm hnm
  have kW:=q_HasWord (knO l i) t.nm (by unfold knO;simp;omega)
  rw [show (knO l i).map DV.str=window (kS l i) 0 (kS l i).length from (window_full _).symm] at kW
  repeat' (first
   |(refine ⟨fun hg=>?_,fun hg=>?_⟩<;>first|contradiction|(conv=>whnf))
   |(refine Or.inl ?_;conv=>whnf)
   |(refine ⟨_,kN ..,?_⟩;conv=>whnf)
   |(refine ⟨_,kW ..,?_⟩;conv=>whnf)
   |(refine ⟨_,q_When ..,?_⟩;conv=>whnf)
   |(refine ⟨_,q_CheckRange ..,?_⟩;conv=>whnf)
   |(refine ⟨_,q_First [_,_,_,_,_] (by simp),?_⟩;conv=>whnf)
   |(refine And.intro ?_ ?_;kernel_rfl;conv=>whnf))
  ·have e3:ofE n (knO l i) t=firstE [whenE (!nameB t.nm) 8,whenE (decide (t.nm ∈ knO l i)) 9,whenE (bif false then true else decide (n≤t.sl)) 10,withE t.un 1 1000000,withE t.pr (-100000) 100000]:=by unfold ofE slB prE;rw [show decide (t.sl < 0)=false from by assumption];rfl
   have hg:=of_decide_eq_true hg
   rw [← e3] at hg
   rw [if_pos hg] at hd
   exact int_eq (by rw [h2,hd,e3])
  ·have e3:ofE n (knO l i) t=firstE [whenE (!nameB t.nm) 8,whenE (decide (t.nm ∈ knO l i)) 9,whenE (bif false then true else decide (n≤t.sl)) 10,withE t.un 1 1000000,withE t.pr (-100000) 100000]:=by unfold ofE slB prE;rw [show decide (t.sl < 0)=false from by assumption];rfl
   have hg:=of_decide_eq_false hg
   rw [← e3] at hg
   rw [if_neg hg] at hd
   refine ⟨⟨rfl,rfl,rfl,by rw [kS_len l i h1];simp;omega,fun e he=>by simp at he;subst he;rfl⟩,?_⟩
   conv=>whnf
   rw [wrap_succ i (by omega)]
   refine ⟨i+1,rfl,?_,?_,⟨hi,by rw [h2,hd]⟩,by omega⟩
   ·rw [hks];rfl
   ·rw [hks];rfl
  ·have e3:ofE n (knO l i) t=firstE [whenE (!nameB t.nm) 8,whenE (decide (t.nm ∈ knO l i)) 9,whenE true 10,withE t.un 1 1000000,withE t.pr (-100000) 100000]:=by unfold ofE slB prE;rw [show decide (t.sl < 0)=!false from by assumption];rfl
   have hg:=of_decide_eq_true hg
   rw [← e3] at hg
   rw [if_pos hg] at hd
   exact int_eq (by rw [h2,hd,e3])
  ·have e3:ofE n (knO l i) t=firstE [whenE (!nameB t.nm) 8,whenE (decide (t.nm ∈ knO l i)) 9,whenE true 10,withE t.un 1 1000000,withE t.pr (-100000) 100000]:=by unfold ofE slB prE;rw [show decide (t.sl < 0)=!false from by assumption];rfl
   have hg:=of_decide_eq_false hg
   rw [← e3] at hg
   rw [if_neg hg] at hd
   refine ⟨⟨rfl,rfl,rfl,by rw [kS_len l i h1];simp;omega,fun e he=>by simp at he;subst he;rfl⟩,?_⟩
   conv=>whnf
   rw [wrap_succ i (by omega)]
   refine ⟨i+1,rfl,?_,?_,⟨hi,by rw [h2,hd]⟩,by omega⟩
   ·rw [hks];rfl
   ·rw [hks];rfl
 ·have hi:i=l.length:=by have:=of_decide_eq_false hb;rw [e0] at this;omega
  clear hb
  conv=>whnf
  exact int_eq (by rw [h2,hi,List.drop_of_length_le (Nat.le_refl _)];rfl)
end Sh

namespace Sh
open Go Go.Proofs
theorem r_offered (os:List Of) (n:Nat) (hl:os.length≤32) {s:Int} (ho:∀ o ∈ os,OkO s o):PC 93 [ofsV os,DV.int .i64 (n)] (DV.int .i64 (offS os n)):=by
 have e0:((os.map encO).length:Int)=os.length:=by simp
 refine pureCall_ofR dh93 rfl ?_
 conv=>whnf
 refine dwp_loopU (P:=Tryz.prog) (G:=GC) (k:=dk93_0) (b:=db93_0) (α:=Nat) (fun i=>[(5,DV.int .i64 (offS (os.take i) n)),(6,DV.int .i64 (i))]) (fun _=>[]) (fun i=>i≤os.length) (fun i=>os.length - i) 0 (Nat.zero_le _) ?_
 conv=>whnf
 refine ⟨rfl,rfl,?_⟩
 conv=>whnf
 refine ⟨rfl,?_⟩
 intro i h1
 conv=>whnf
 refine ⟨fun hb=>?_,fun hb=>?_⟩
 ·have hi:i < os.length:=by simpa using hb
  clear hb
  have hs:=offS_succ os n i hi
  have hk:=ho _ (getD_in O0 hi)
  obtain ⟨_,_,_,u0,u1,_⟩:=hk
  have hb:=offS_take ho hl i (n:Int)
  conv=>whnf
  rw [getD_enc _ _ (i) O0 hi]
  refine ⟨idxA hi rfl,?_⟩
  conv=>whnf
  refine ⟨fun hg=>?_,fun hg=>?_⟩
  ·have hg:(os.getD i O0).sl=n:=of_decide_eq_true hg
   conv=>whnf
   rw [getD_enc _ _ (i) O0 hi]
   refine ⟨idxA hi rfl,?_⟩
   conv=>whnf
   rw [wrap_succ i (by omega),wrap_in (by omega) (by omega)]
   rw [if_pos hg] at hs
   rw [← hs]
   exact ⟨i+1,rfl,rfl,rfl,hi,by omega⟩
  ·have hg:¬ (os.getD i O0).sl=n:=of_decide_eq_false hg
   conv=>whnf
   rw [if_neg hg,Int.add_zero] at hs
   rw [wrap_succ i (by omega),← hs]
   exact ⟨i+1,rfl,rfl,rfl,hi,by omega⟩
 ·have hi:i=os.length:=by have:=of_decide_eq_false hb;simp at this;omega
  clear hb
  conv=>whnf
  rw [hi,List.take_length];rfl
end Sh

namespace Sh
open Go Go.Proofs
theorem r_Imbalances {d:List Int} {os:List Of} (h:okDO d os):PC 35 [iL d,ofsV os] (iL (imbL d os d.length)):=by
 have e0:((d.map (DV.int .i64)).length:Int)=d.length:=by simp
 have hall:imbL d os d.length=rng d.length fun k=>d.getD k 0 - offS os k:=rng_congr fun k hk=>by (try dsimp only);rw [if_pos hk]
 have hd24:=h.2.1
 rw [hall]
 refine pureCall_ofR dh35 rfl ?_
 conv=>whnf
 refine dwp_loopR (P:=Tryz.prog) (G:=GC) (k:=dk35_0) (b:=db35_0) (α:=Nat) (fun i=>[(0,iL d),(1,ofsV os),(5,.own 5 0 (rng i fun k=>DV.int .i64 (d.getD k 0 - offS os k)).length (rng i fun k=>DV.int .i64 (d.getD k 0 - offS os k)).length),(6,DV.int .i64 (i))]) (fun i=>[(5,.row 1 (rng i fun k=>DV.int .i64 (d.getD k 0 - offS os k)) false)]) (fun i=>i≤d.length) (fun i=>d.length - i) 0 ⟨rfl,rfl,rfl⟩ (Nat.zero_le _) ?_
 intro i h1
 conv=>whnf
 refine ⟨fun hb=>?_,fun hb=>?_⟩
 ·have hi:i < d.length:=by have:=of_decide_eq_true hb;rw [e0] at this;omega
  clear hb
  have hs:=rng_succ i fun k=>DV.int .i64 (d.getD k 0 - offS os k)
  have hb1:=h.2.2.1 _ (getD_in 0 hi)
  have hb2:=offS_take h.2.2.2.2 h.2.2.2.1 os.length (i:Int)
  rw [List.take_length] at hb2
  conv=>whnf
  rw [getD_enc _ _ (i) 0 hi]
  refine ⟨idxA hi rfl,?_⟩
  conv=>whnf
  refine .inl ?_
  conv=>whnf
  refine ⟨_,r_offered os i h.2.2.2.1 h.2.2.2.2,?_⟩
  conv=>whnf
  rw [wrap_in (by omega) (by omega)]
  refine ⟨⟨rfl,rfl,rfl,by rw [rng_len];simp;omega,fun e he=>by simp at he;subst he;rfl⟩,?_⟩
  conv=>whnf
  (try (refine ⟨by kernel_rfl,?_⟩;conv=>whnf))
  rw [wrap_succ i (by omega)]
  refine ⟨i+1,rfl,?_,?_,hi,by omega⟩
  ·rw [hs];rfl
  ·rw [hs];rfl
 ·have hi:i=d.length:=by have:=of_decide_eq_false hb;rw [e0] at this;omega
  clear hb
  conv=>whnf
  refine ⟨rfl,?_⟩
  show DV.list (window (rng i fun k=>DV.int .i64 (d.getD k 0 - offS os k)) 0 (rng i fun k=>DV.int .i64 (d.getD k 0 - offS os k)).length)=_
  rw [window_full,hi]
  show _=DV.list ((rng d.length fun k=>d.getD k 0 - offS os k).map (DV.int .i64))
  rw [rng_map]
theorem r_Rests {d:List Int} {os:List Of} (h:okDO d os):PC 34 [iL d,ofsV os] (iL (leftL d os os.length)):=by
 have e0:((d.map (DV.int .i64)).length:Int)=d.length:=by simp
 have hall:leftL d os os.length=rng d.length fun k=>minmaxI true 0 (d.getD k 0 - offS os k):=by
  unfold leftL
  refine rng_congr fun k hk=>?_
  (try dsimp only)
  rw [List.take_length]
  show _=if d.getD k 0 - offS os k > 0 then d.getD k 0 - offS os k else 0
  split<;>split<;>omega
 have hd24:=h.2.1
 rw [hall]
 refine pureCall_ofR dh34 rfl ?_
 conv=>whnf
 refine dwp_loopR (P:=Tryz.prog) (G:=GC) (k:=dk34_0) (b:=db34_0) (α:=Nat) (fun i=>[(0,iL d),(1,ofsV os),(5,.own 5 0 (rng i fun k=>DV.int .i64 (minmaxI true 0 (d.getD k 0 - offS os k))).length (rng i fun k=>DV.int .i64 (minmaxI true 0 (d.getD k 0 - offS os k))).length),(6,DV.int .i64 (i))]) (fun i=>[(5,.row 1 (rng i fun k=>DV.int .i64 (minmaxI true 0 (d.getD k 0 - offS os k))) false)]) (fun i=>i≤d.length) (fun i=>d.length - i) 0 ⟨rfl,rfl,rfl⟩ (Nat.zero_le _) ?_
 intro i h1
 conv=>whnf
 refine ⟨fun hb=>?_,fun hb=>?_⟩
 ·have hi:i < d.length:=by have:=of_decide_eq_true hb;rw [e0] at this;omega
  clear hb
  have hs:=rng_succ i fun k=>DV.int .i64 (minmaxI true 0 (d.getD k 0 - offS os k))
  have hb1:=h.2.2.1 _ (getD_in 0 hi)
  have hb2:=offS_take h.2.2.2.2 h.2.2.2.1 os.length (i:Int)
  rw [List.take_length] at hb2
  conv=>whnf
  rw [getD_enc _ _ (i) 0 hi]
  refine ⟨idxA hi rfl,?_⟩
  conv=>whnf
  refine .inl ?_
  conv=>whnf
  refine ⟨_,r_offered os i h.2.2.2.1 h.2.2.2.2,?_⟩
  conv=>whnf
  rw [wrap_in (by omega) (by omega)]
  refine ⟨⟨rfl,rfl,rfl,by rw [rng_len];simp;omega,fun e he=>by simp at he;subst he;rfl⟩,?_⟩
  conv=>whnf
  (try (refine ⟨by kernel_rfl,?_⟩;conv=>whnf))
  rw [wrap_succ i (by omega)]
  refine ⟨i+1,rfl,?_,?_,hi,by omega⟩
  ·rw [hs];rfl
  ·rw [hs];rfl
 ·have hi:i=d.length:=by have:=of_decide_eq_false hb;rw [e0] at this;omega
  clear hb
  conv=>whnf
  refine ⟨rfl,?_⟩
  show DV.list (window (rng i fun k=>DV.int .i64 (minmaxI true 0 (d.getD k 0 - offS os k))) 0 (rng i fun k=>DV.int .i64 (minmaxI true 0 (d.getD k 0 - offS os k))).length)=_
  rw [window_full,hi]
  show _=DV.list ((rng d.length fun k=>minmaxI true 0 (d.getD k 0 - offS os k)).map (DV.int .i64))
  rw [rng_map]
end Sh

namespace Sh
open Go Go.Proofs
theorem leftL_next {d:List Int} {os:List Of} (h:okDO d os) {k s:Nat} (hk:k < os.length) (hsd:s < d.length):(leftL d os (k+1)).getD s 0=(leftL d os k).getD s 0 - (if (os.getD k O0).sl=s then aloN d os k else 0):=by
 by_cases e:(os.getD k O0).sl=s
 ·have hu:=h.2.2.2.2 _ (getD_in O0 hk)
  have hset:=leftL_set (d:=d) hk e hsd (by have:=hu.2.2.2.1;omega) (offS_take h.2.2.2.2 h.2.2.2.1 k (s:Int)).1 (h.2.2.1 _ (getD_in 0 hsd)).1
  rw [← hset,if_pos e]
  rw [List.getD_eq_getElem?_getD,List.getElem?_set_self (by rw [leftL_len];exact hsd)];rfl
 ·rw [if_neg e,leftL_get hsd,leftL_get hsd,offS_succ os (s:Int) k hk,if_neg e]
  simp
theorem r_Allotted {d:List Int} {os:List Of} (h:okDO d os):PC 33 [iL d,ofsV os] (iL (aloL d os os.length)):=by
 have e0:((os.map encO).length:Int)=os.length:=by simp
 have hol:=h.2.2.2.1
 have hd24:=h.2.1
 have hz:=leftL_zero (d:=d) (os:=os) (fun x hx=>(h.2.2.1 x hx).1)
 refine pureCall_ofR dh33 rfl ?_
 conv=>whnf
 refine dwp_loopR (P:=Tryz.prog) (G:=GC) (k:=dk33_1) (b:=db33_1) (α:=Nat) (fun i=>[(0,iL d),(1,ofsV os),(5,.own 5 0 (iD (aloL d os i)).length (iD (aloL d os i)).length),(6,DV.int .i64 (i))]) (fun i=>[(5,.row 1 (iD (aloL d os i)) false)]) (fun i=>i≤os.length) (fun i=>os.length - i) 0 ⟨rfl,rfl,rfl⟩ (Nat.zero_le _) ?_
 intro i h1
 conv=>whnf
 refine ⟨fun hb=>?_,fun hb=>?_⟩
 ·have hi:i < os.length:=by have:=of_decide_eq_true hb;rw [e0] at this;omega
  clear hb
  have hs:=aloL_succ d os i
  obtain ⟨_,s0,s1,u0,u1,p0,p1⟩:=h.2.2.2.2 _ (getD_in O0 hi)
  obtain ⟨s,hsl⟩:=Int.eq_ofNat_of_zero_le s0
  have hsd:s < d.length:=by omega
  have hld:(leftL d os 0).getD s 0=d.getD s 0:=by rw [hz]
  conv=>whnf
  rw [getD_enc _ _ (i) O0 hi]
  refine ⟨idxA hi rfl,?_⟩
  conv=>whnf
  rw [hsl]
  rw [getD_enc _ _ (s) 0 hsd]
  refine ⟨idxA hsd rfl,?_⟩
  conv=>whnf
  rw [← hld]
  refine dwp_loopR (P:=Tryz.prog) (G:=GC) (k:=dk33_0) (b:=db33_0) (α:=Nat) (fun k=>[(0,iL d),(1,ofsV os),(5,.own 5 0 (iD (aloL d os i)).length (iD (aloL d os i)).length),(6,DV.int .i64 (i)),(7,DV.int .i64 ((leftL d os k).getD s 0)),(8,DV.int .i64 (k))]) (fun k=>[(5,.row 1 (iD (aloL d os i)) false)]) (fun k=>k≤i) (fun k=>i - k) 0 ⟨rfl,rfl,rfl⟩ (Nat.zero_le _) ?_
  intro k h2
  have hn:=leftL_next h (k:=k) (s:=s) (by omega) hsd
  conv=>whnf
  refine ⟨fun hb=>?_,fun hb=>?_⟩
  ·have hk:k < i:=by have:=of_decide_eq_true hb;omega
   clear hb
   have hko:k < os.length:=by omega
   have hlen:(iD (aloL d os i)).length=i:=by rw [iD_len,aloL_len]
   have hgl:(iD (aloL d os i)).getD k .undef=DV.int .i64 (aloN d os k):=by
    rw [iD_get _ _ (by rw [aloL_len];exact hk)]
    show DV.int .i64 ((aloL d os i).getD k 0)=_
    unfold aloL;rw [rng_getD _ _ hk]
   have hb1:=leftL_bd h (k:=k) hsd
   have hb2:=leftL_bd h (k:=k+1) hsd
   conv=>whnf
   rw [getD_enc _ _ (k) O0 hko]
   refine ⟨idxA hko rfl,?_⟩
   conv=>whnf
   rw [getD_enc _ _ (i) O0 hi]
   refine ⟨idxA hi rfl,?_⟩
   conv=>whnf
   rw [hsl]
   (try (refine ⟨by kernel_rfl,?_⟩;conv=>whnf))
   refine ⟨fun hg=>?_,fun hg=>?_⟩
   ·have hg:=of_decide_eq_true hg
    rw [if_pos hg] at hn
    conv=>whnf
    refine ⟨⟨rfl,by omega,by omega⟩,?_⟩
    conv=>whnf
    (try rw [Int.toNat_natCast,Nat.zero_add k])
    refine ⟨⟨rfl,by decide⟩,?_⟩
    rw [hgl]
    conv=>whnf
    rw [wrap_succ k (by omega),wrap_in (by omega) (by omega),← hn]
    exact ⟨k+1,rfl,rfl,rfl,hk,by omega⟩
   ·have hg:=of_decide_eq_false hg
    rw [if_neg hg,Int.sub_zero] at hn
    conv=>whnf
    rw [wrap_succ k (by omega),← hn]
    exact ⟨k+1,rfl,rfl,rfl,hk,by omega⟩
  ·have hk:k=i:=by have:=of_decide_eq_false hb;omega
   clear hb
   subst hk
   conv=>whnf
   rw [getD_enc _ _ (k) O0 hi]
   refine ⟨idxA hi rfl,?_⟩
   conv=>whnf
   have ha:aloN d os k=minmaxI false (os.getD k O0).un ((leftL d os k).getD s 0):=by unfold aloN;rw [hsl];rfl
   rw [← ha]
   refine ⟨⟨rfl,rfl,rfl,by rw [iD_len,aloL_len];simp;omega,fun e he=>by simp at he;subst he;rfl⟩,?_⟩
   conv=>whnf
   (try (refine ⟨by kernel_rfl,?_⟩;conv=>whnf))
   rw [wrap_succ k (by omega)]
   refine ⟨k+1,rfl,?_,?_,hi,by omega⟩
   ·rw [hs];rfl
   ·rw [hs];rfl
 ·have hi:i=os.length:=by have:=of_decide_eq_false hb;rw [e0] at this;omega
  clear hb
  conv=>whnf
  refine ⟨rfl,?_⟩
  show DV.list (window (iD (aloL d os i)) 0 (iD (aloL d os i)).length)=_
  rw [window_full,hi];rfl
theorem r_Earned {d:List Int} {os:List Of} (h:okDO d os):PC 36 [iL d,ofsV os] (DV.int .i64 (ernI d os os.length)):=by
 have e0:(((aloL d os os.length).map (DV.int .i64)).length:Int)=os.length:=by rw [List.length_map,aloL_len]
 have hol:=h.2.2.2.1
 refine pureCall_ofR dh36 rfl ?_
 conv=>whnf
 refine .inl ?_
 conv=>whnf
 refine ⟨_,r_Allotted h,?_⟩
 conv=>whnf
 refine dwp_loopU (P:=Tryz.prog) (G:=GC) (k:=dk36_0) (b:=db36_0) (α:=Nat) (fun i=>[(5,DV.int .i64 (ernI d os i)),(7,DV.int .i64 (i))]) (fun _=>[]) (fun i=>i≤os.length) (fun i=>os.length - i) 0 (Nat.zero_le _) ?_
 conv=>whnf
 refine ⟨rfl,rfl,?_⟩
 conv=>whnf
 refine ⟨rfl,?_⟩
 intro i h1
 conv=>whnf
 have hL:=aloL_len d os os.length
 refine ⟨fun hb=>?_,fun hb=>?_⟩
 ·have hi:i < os.length:=by have:=of_decide_eq_true hb;rw [e0] at this;omega
  clear hb
  have hi2:i < (aloL d os os.length).length:=by rw [hL];exact hi
  have hg:(aloL d os os.length).getD i 0=aloN d os i:=rng_getD _ _ hi
  have hs:=ernI_succ d os i
  have b1:=ern_one h hi
  have b2:=ernI_bd h i h1
  conv=>whnf
  rw [getD_enc _ _ (i) 0 hi2]
  refine ⟨idxA hi2 rfl,?_⟩
  conv=>whnf
  rw [hg]
  rw [getD_enc _ _ (i) O0 hi]
  refine ⟨idxA hi rfl,?_⟩
  conv=>whnf
  refine ⟨by kernel_rfl,?_⟩
  conv=>whnf
  rw [wrap_succ i (by omega),wrap_in (n:=aloN d os i * (os.getD i O0).pr) (by omega) (by omega),wrap_in (by omega) (by omega),← hs]
  exact ⟨i+1,rfl,rfl,rfl,hi,by omega⟩
 ·have hi:i=os.length:=by have:=of_decide_eq_false hb;rw [e0] at this;omega
  clear hb
  conv=>whnf
  rw [hi];rfl
end Sh

namespace Sh
open Go Go.Proofs
theorem l_ints (l:List Int) (hl:l.length < 1073741824):PC 18 [iL l] (iL l):=by
 refine pureCall_ofR dh18 rfl ?_
 conv=>whnf
 refine ⟨⟨by simp;omega,fun e he=>by obtain ⟨q,_,rfl⟩:=List.mem_map.1 he;rfl,fun e he=>by simp at he⟩,?_⟩
 conv=>whnf
 rfl
def ofD (l:List Of) (i:Nat):List DV:=(l.take i).map encO
theorem ofD_len (l:List Of) (i:Nat) (h:i≤l.length):(ofD l i).length=i:=by simp [ofD];omega
theorem l_given (l:List Of) (hl:l.length < 1073741824):PC 16 [ofsV l] (ofsV l):=by
 have e0:((l.map encO).length:Int)=l.length:=by simp
 refine pureCall_ofR dh16 rfl ?_
 conv=>whnf
 refine dwp_loopU (P:=Tryz.prog) (G:=GC) (k:=dk16_0) (b:=db16_0) (α:=Nat) (fun i=>[(3,.own 3 0 (ofD l i).length (ofD l i).length),(8,DV.int .i64 (i))]) (fun i=>[(3,.row 4 (ofD l i) false)]) (fun i=>i≤l.length) (fun i=>l.length - i) 0 (Nat.zero_le _) ?_
 conv=>whnf
 refine ⟨rfl,rfl,?_⟩
 conv=>whnf
 refine ⟨rfl,?_⟩
 intro i h1
 conv=>whnf
 refine ⟨fun hb=>?_,fun hb=>?_⟩
 ·have hi:i < l.length:=by have:=of_decide_eq_true hb;rw [e0] at this;omega
  clear hb
  have hs:ofD l (i+1)=ofD l i++[encO (l.getD i O0)]:=take_map_succ _ l i O0 hi
  conv=>whnf
  rw [getD_enc _ _ (i) O0 hi]
  refine ⟨idxA hi rfl,?_⟩
  conv=>whnf
  refine ⟨⟨rfl,rfl,rfl,by rw [ofD_len l i h1];simp;omega,fun e he=>by simp at he;subst he;rfl⟩,?_⟩
  conv=>whnf
  rw [wrap_succ i (by omega)]
  refine ⟨i+1,rfl,?_,?_,hi,by omega⟩
  ·rw [hs];rfl
  ·rw [hs];rfl
 ·have hi:i=l.length:=by have:=of_decide_eq_false hb;rw [e0] at this;omega
  clear hb
  conv=>whnf
  refine ⟨rfl,?_⟩
  show DV.list (window (ofD l i) 0 (ofD l i).length)=_
  rw [window_full,hi];unfold ofD;rw [List.take_length];rfl
def shortO (l:List Of):Bool:=(l.all fun o=>decide (o.nm.length≤40)) && (decide (l.length≤8) || decide (l.length=33))
theorem r_ShortOffers (l:List Of) (hl:l.length≤9223372036854775807):PC 12 [ofsV l] (.bool (shortO l)):=by
 have e0:((l.map encO).length:Int)=l.length:=by simp
 refine pureCall_ofR dh12 rfl ?_
 conv=>whnf
 refine dwp_loopU (P:=Tryz.prog) (G:=GC) (k:=dk12_0) (b:=db12_0) (α:=Nat) (fun i=>[(3,DV.int .i64 (i))]) (fun _=>[]) (fun i=>i≤l.length∧∀ k < i,(l.getD k O0).nm.length≤40) (fun i=>l.length - i) 0 ⟨Nat.zero_le _,fun k hk=>absurd hk (Nat.not_lt_zero k)⟩ ?_
 conv=>whnf
 refine ⟨rfl,rfl,?_⟩
 conv=>whnf
 refine ⟨rfl,?_⟩
 intro i h1
 obtain ⟨h1,h2⟩:=h1
 conv=>whnf
 refine ⟨fun hb=>?_,fun hb=>?_⟩
 ·have hi:i < l.length:=by have:=of_decide_eq_true hb;rw [e0] at this;omega
  clear hb
  conv=>whnf
  rw [getD_enc _ _ (i) O0 hi]
  refine ⟨idxA hi rfl,?_⟩
  conv=>whnf
  refine ⟨fun hg=>?_,fun hg=>?_⟩
  ·have hg:=of_decide_eq_true hg
   conv=>whnf
   refine bool_eq ?_
   unfold shortO
   rw [show (l.all fun o=>decide (o.nm.length≤40))=false from by
    rw [List.all_eq_false];exact ⟨_,getD_in O0 hi,by rw [decide_eq_true_eq];omega⟩]
   rfl
  ·have hg:=of_decide_eq_false hg
   conv=>whnf
   rw [show IntKind.i64.wrap ((i:Int)+1)=((i+1:Nat):Int) by rw [wrap_in (by omega) (by omega)];omega]
   refine ⟨i+1,rfl,rfl,rfl,⟨hi,fun k hk=>?_⟩,by omega⟩
   by_cases e:k=i
   ·subst e;omega
   ·exact h2 k (by omega)
 ·have hi:i=l.length:=by have:=of_decide_eq_false hb;rw [e0] at this;omega
  clear hb
  have ha:(l.all fun o=>decide (o.nm.length≤40))=true:=by
   rw [List.all_eq_true];intro o ho
   obtain ⟨k,hk,rfl⟩:=List.mem_iff_getElem.1 ho
   have:=h2 k (by omega)
   rw [List.getD_eq_getElem?_getD,List.getElem?_eq_getElem hk] at this
   simpa using this
  have hv:shortO l=(decide (l.length≤8) || decide (l.length=33)):=by unfold shortO;rw [ha];rfl
  rw [hv]
  conv=>whnf
  repeat' (first
   |(refine ⟨fun hg=>?_,fun hg=>?_⟩<;>first|contradiction|(conv=>whnf))
   |(refine Or.inl ?_;conv=>whnf)
   |(refine And.intro ?_ ?_;kernel_rfl;conv=>whnf))
  ·have hg:=of_decide_eq_false hg
   rw [e0] at hg
   have e:((((l.map encO).length:Nat):Int)=33)=(l.length=33):=by rw [e0];exact propext ⟨fun h=>by omega,fun h=>by omega⟩
   refine bool_eq ?_
   show decide (((l.map encO).length:Int)=33)=_
   rw [decide_eq_false (by omega:¬ l.length≤8),Bool.false_or]
   exact decide_eq_decide.2 (by rw [e])
  ·have hg:=of_decide_eq_true hg
   rw [e0] at hg
   rw [decide_eq_true (by omega:l.length≤8)];rfl
end Sh

namespace Sh
open Go
def dc4 : DFunc := ⟨122,2,[.tmp 4],sq [oq 4 (.mov (bq false))] (.seq (sq [mq 18 0,oq 19 (.len (.tmp 18)),oq 20 (.bin .gtr (.tmp 19) (iq 25)),mq 21 20,gq 22 (.mov (.tmp 1)) 21 false,gq 23 (.call (.func 12) [.tmp 22]) 21 false,gq 24 (.un .not (.tmp 23)) 21 false,oq 25 (.pick (.tmp 21) (bq true) (.tmp 24))] (.cond (.tmp 25) (sq [oq 26 (.call (.func 13) []),mq 4 26] .ret) .skip)) (sq [mq 28 0,oq 29 (.call (.func 18) [.tmp 28]),mq 30 1,oq 31 (.call (.func 16) [.tmp 30]),oq 32 (.call (.func 29) [.tmp 29,.tmp 31]),mq 27 32,oq 33 (.extract (.tmp 27) 0),oq 34 (.extract (.tmp 27) 1),mq 5 33,mq 6 34] (sq [mq 36 0,oq 37 (.call (.func 18) [.tmp 36]),mq 38 1,oq 39 (.call (.func 16) [.tmp 38]),oq 40 (.call (.func 30) [.tmp 37,.tmp 39]),mq 35 40,oq 41 (.extract (.tmp 35) 0),oq 42 (.extract (.tmp 35) 1),mq 7 41,mq 8 42] (sq [mq 44 0,oq 45 (.call (.func 18) [.tmp 44]),mq 46 1,oq 47 (.call (.func 16) [.tmp 46]),oq 48 (.call (.func 31) [.tmp 45,.tmp 47]),mq 43 48,oq 49 (.extract (.tmp 43) 0),oq 50 (.extract (.tmp 43) 1),mq 9 49,mq 10 50] (sq [mq 52 0,oq 53 (.call (.func 18) [.tmp 52]),mq 54 1,oq 55 (.call (.func 16) [.tmp 54]),oq 56 (.call (.func 32) [.tmp 53,.tmp 55]),mq 51 56,oq 57 (.extract (.tmp 51) 0),oq 58 (.extract (.tmp 51) 1),mq 11 57,mq 12 58] (sq [mq 59 0,oq 60 (.call (.func 21) [.tmp 59]),mq 13 60] (.seq (sq [mq 61 13,oq 62 (.bin .eql (.tmp 61) (iq 0))] (.cond (.tmp 62) (pq [mq 63 1,mq 64 0,oq 65 (.len (.tmp 64)),oq 66 (.call (.func 23) [.tmp 63,.tmp 65]),mq 13 66]) .skip)) (sq [oq 14 (.mov (.const (.slice none 0 0))),oq 15 (.mov (.const (.slice none 0 0))),oq 16 (.mov (.const (.slice none 0 0)))] (sq [oq 17 (.mov (iq 0))] (.seq (sq [mq 67 13,oq 68 (.bin .eql (.tmp 67) (iq 0))] (.cond (.tmp 68) (pq [mq 69 0,mq 70 1,oq 71 (.call (.func 33) [.tmp 69,.tmp 70]),mq 72 0,mq 73 1,oq 74 (.call (.func 34) [.tmp 72,.tmp 73]),mq 75 0,mq 76 1,oq 77 (.call (.func 35) [.tmp 75,.tmp 76]),mq 78 0,mq 79 1,oq 80 (.call (.func 36) [.tmp 78,.tmp 79]),mq 14 71,mq 15 74,mq 16 77,mq 17 80]) .skip)) (sq [mq 81 5,mq 82 14,oq 83 (.call (.func 28) [.tmp 81,.tmp 82]),mq 84 83,gq 85 (.mov (.tmp 6)) 84 true,gq 86 (.mov (.tmp 13)) 84 true,gq 87 (.bin .eql (.tmp 85) (.tmp 86)) 84 true,oq 88 (.pick (.tmp 84) (.tmp 87) (bq false)),mq 89 88,gq 90 (.mov (.tmp 7)) 89 true,gq 91 (.mov (.tmp 15)) 89 true,gq 92 (.call (.func 28) [.tmp 90,.tmp 91]) 89 true,oq 93 (.pick (.tmp 89) (.tmp 92) (bq false)),mq 94 93,gq 95 (.mov (.tmp 8)) 94 true,gq 96 (.mov (.tmp 13)) 94 true,gq 97 (.bin .eql (.tmp 95) (.tmp 96)) 94 true,oq 98 (.pick (.tmp 94) (.tmp 97) (bq false)),mq 99 98,gq 100 (.mov (.tmp 9)) 99 true,gq 101 (.mov (.tmp 16)) 99 true,gq 102 (.call (.func 28) [.tmp 100,.tmp 101]) 99 true,oq 103 (.pick (.tmp 99) (.tmp 102) (bq false)),mq 104 103,gq 105 (.mov (.tmp 10)) 104 true,gq 106 (.mov (.tmp 13)) 104 true,gq 107 (.bin .eql (.tmp 105) (.tmp 106)) 104 true,oq 108 (.pick (.tmp 104) (.tmp 107) (bq false)),mq 109 108,gq 110 (.mov (.tmp 11)) 109 true,gq 111 (.mov (.tmp 17)) 109 true,gq 112 (.bin .eql (.tmp 110) (.tmp 111)) 109 true,oq 113 (.pick (.tmp 109) (.tmp 112) (bq false)),mq 114 113,gq 115 (.mov (.tmp 12)) 114 true,gq 116 (.mov (.tmp 13)) 114 true,gq 117 (.bin .eql (.tmp 115) (.tmp 116)) 114 true,oq 118 (.pick (.tmp 114) (.tmp 117) (bq false)),mq 119 118,gq 120 (.call (.func 13) []) 119 true,oq 121 (.pick (.tmp 119) (.tmp 120) (bq false)),mq 4 121] .ret)))))))))))⟩
theorem dh4:cProg Go.Proofs.Tryz.prog ⟨[],[],[]⟩ 4=some dc4:=by kernel_rfl
end Sh

set_option maxHeartbeats 2000000
namespace Sh
open Go Go.Proofs
theorem shortO_bd {os:List Of} (h:(!shortO os)=false):os.length < 1073741824∧∀ o ∈ os,o.nm.length < 1073741824:=by
 have h:shortO os=true:=by simpa using h
 unfold shortO at h
 rw [Bool.and_eq_true,Bool.or_eq_true,List.all_eq_true] at h
 obtain ⟨h1,h2⟩:=h
 refine ⟨?_,fun o ho=>by have:=of_decide_eq_true (h1 o ho);omega⟩
 rcases h2 with h2|h2
 ·have:=of_decide_eq_true h2;omega
 ·have:=of_decide_eq_true h2;omega
theorem l_TradeAllots (aw:PC 13 [] (.bool true)) (d:List Int) (os:List Of) (ho:os.length≤9223372036854775807):PC 4 [iL d,ofsV os] (.bool true):=by
 have e0:((d.map (DV.int .i64)).length:Int)=d.length:=by simp
 have k7:=r_ShortOffers os ho
 refine pureCall_ofR dh4 rfl ?_
 conv=>whnf
 repeat' (first
  |(refine ⟨fun hg=>?_,fun hg=>?_⟩<;>first|contradiction|(conv=>whnf))
  |(refine Or.inl ?_;conv=>whnf)
  |(refine ⟨_,k7,?_⟩;conv=>whnf)
  |(refine ⟨_,aw ..,?_⟩;conv=>whnf)
  |(refine And.intro ?_ ?_;kernel_rfl;conv=>whnf))
 all_goals (try rfl)
 have hos:=shortO_bd hg
 have hd:d.length≤25:=by have:=of_decide_eq_false ‹decide (25 < ((d.map (DV.int .i64)).length:Int))=false›;rw [e0] at this;omega
 clear hg k7
 have hdl:d.length < 1073741824:=by omega
 have k1:=l_ints d hdl
 have k2:=l_given os hos.1
 have k3:=c_Allotted d os hdl hos.1 hos.2
 have k4:=c_Rests d os hdl hos.1 hos.2
 have k5:=c_Imbalances d os hdl hos.1 hos.2
 have k6:=c_Earned d os hdl hos.1 hos.2
 have k8:=r_CheckUnits d hdl
 have k9:PC 23 [ofsV os,DV.int .i64 (((d.map (DV.int .i64)).length:Nat))] (DV.int .i64 (chkOf os d.length)):=by rw [e0];exact r_CheckOffers os _ hos.1 hos.2
 have ks:∀ l:List Int,l.length < 4611686018427387904→PC 28 [iL l,iL l] (.bool true):=fun l h=>by have:=q_SameInts l l h;rwa [decide_eq_true rfl] at this
 have ks0:=ks [] (by decide)
 by_cases z1:chkUn d=0
 ·have hd1:=(chkUn_len z1)
  have hb:bothE d os=chkOf os d.length:=by unfold bothE;rw [show max 1 (min 24 (d.length:Int))=d.length by omega];simp only [firstE];rw [z1];simp;intro h;exact h.symm
  rw [z1] at k8
  by_cases z2:chkOf os d.length=0
  ·have hok:okDO d os:=chkOf_okDO (by rw [hb,z2])
   rw [z2] at k9 hb
   rw [show aloS d os=(aloL d os os.length,0) by rw [aloS,if_neg (by omega)]] at k3
   rw [show rstS d os=(leftL d os os.length,0) by rw [rstS,if_neg (by omega)]] at k4
   rw [show imbS d os=(imbL d os d.length,0) by rw [imbS,if_neg (by omega)]] at k5
   rw [show ernS d os=(ernI d os os.length,0) by rw [ernS,if_neg (by omega)]] at k6
   have s1:=ks (aloL d os os.length) (by rw [aloL_len];omega)
   have s2:=ks (leftL d os os.length) (by rw [leftL_len];omega)
   have s3:=ks (imbL d os d.length) (by rw [imbL_len];omega)
   repeat' (first
    |(refine ⟨fun hg=>?_,fun hg=>?_⟩<;>first|contradiction|(conv=>whnf))
    |(refine Or.inl ?_;conv=>whnf)
    |(refine ⟨_,k1,?_⟩;conv=>whnf)
    |(refine ⟨_,k2,?_⟩;conv=>whnf)
    |(refine ⟨_,k3,?_⟩;conv=>whnf)
    |(refine ⟨_,k4,?_⟩;conv=>whnf)
    |(refine ⟨_,k5,?_⟩;conv=>whnf)
    |(refine ⟨_,k6,?_⟩;conv=>whnf)
    |(refine ⟨_,k8,?_⟩;conv=>whnf)
    |(refine ⟨_,k9,?_⟩;conv=>whnf)
    |(refine ⟨_,r_Allotted hok,?_⟩;conv=>whnf)
    |(refine ⟨_,r_Rests hok,?_⟩;conv=>whnf)
    |(refine ⟨_,r_Imbalances hok,?_⟩;conv=>whnf)
    |(refine ⟨_,r_Earned hok,?_⟩;conv=>whnf)
    |(refine ⟨_,s1 ..,?_⟩;conv=>whnf)
    |(refine ⟨_,s2 ..,?_⟩;conv=>whnf)
    |(refine ⟨_,s3 ..,?_⟩;conv=>whnf)
    |(refine ⟨_,aw ..,?_⟩;conv=>whnf)
    |(refine And.intro ?_ ?_;kernel_rfl;conv=>whnf))
   all_goals first
    |rfl
    |(exfalso;simp at *;done)
    |trace_state
  ·rw [show aloS d os=([],bothE d os) by rw [aloS,if_pos (by omega)]] at k3
   rw [show rstS d os=([],bothE d os) by rw [rstS,if_pos (by omega)]] at k4
   rw [show imbS d os=([],bothE d os) by rw [imbS,if_pos (by omega)]] at k5
   rw [show ernS d os=(0,bothE d os) by rw [ernS,if_pos (by omega)]] at k6
   rw [hb] at k3 k4 k5 k6
   generalize chkOf os d.length=E at *
   repeat' (first
    |(refine ⟨fun hg=>?_,fun hg=>?_⟩<;>first|contradiction|(replace hg:=of_decide_eq_true hg;first|(exfalso;omega;done)|(conv=>whnf))|(replace hg:=of_decide_eq_false hg;first|(exfalso;omega;done)|(conv=>whnf))|(skip;conv=>whnf)|(conv=>whnf))
    |(refine Or.inl ?_;conv=>whnf)
    |(refine ⟨_,k1,?_⟩;conv=>whnf)
    |(refine ⟨_,k2,?_⟩;conv=>whnf)
    |(refine ⟨_,k3,?_⟩;conv=>whnf)
    |(refine ⟨_,k4,?_⟩;conv=>whnf)
    |(refine ⟨_,k5,?_⟩;conv=>whnf)
    |(refine ⟨_,k6,?_⟩;conv=>whnf)
    |(refine ⟨_,k8,?_⟩;conv=>whnf)
    |(refine ⟨_,k9,?_⟩;conv=>whnf)
    |(refine ⟨_,ks0 ..,?_⟩;conv=>whnf)
    |(refine ⟨_,aw ..,?_⟩;conv=>whnf)
    |(refine And.intro ?_ ?_;kernel_rfl;conv=>whnf))
   all_goals first
    |rfl
    |(exfalso;simp at *;done)
    |trace_state
 ·have hb:bothE d os=chkUn d:=by unfold bothE;simp only [firstE];rw [if_pos z1]
  rw [show aloS d os=([],bothE d os) by rw [aloS,if_pos (by omega)]] at k3
  rw [show rstS d os=([],bothE d os) by rw [rstS,if_pos (by omega)]] at k4
  rw [show imbS d os=([],bothE d os) by rw [imbS,if_pos (by omega)]] at k5
  rw [show ernS d os=(0,bothE d os) by rw [ernS,if_pos (by omega)]] at k6
  rw [hb] at k3 k4 k5 k6
  generalize chkUn d=E at *
  repeat' (first
   |(refine ⟨fun hg=>?_,fun hg=>?_⟩<;>first|contradiction|(replace hg:=of_decide_eq_true hg;first|(exfalso;omega;done)|(conv=>whnf))|(replace hg:=of_decide_eq_false hg;first|(exfalso;omega;done)|(conv=>whnf))|(skip;conv=>whnf)|(conv=>whnf))
   |(refine Or.inl ?_;conv=>whnf)
   |(refine ⟨_,k1,?_⟩;conv=>whnf)
   |(refine ⟨_,k2,?_⟩;conv=>whnf)
   |(refine ⟨_,k3,?_⟩;conv=>whnf)
   |(refine ⟨_,k4,?_⟩;conv=>whnf)
   |(refine ⟨_,k5,?_⟩;conv=>whnf)
   |(refine ⟨_,k6,?_⟩;conv=>whnf)
   |(refine ⟨_,k8,?_⟩;conv=>whnf)
   |(refine ⟨_,ks0 ..,?_⟩;conv=>whnf)
   |(refine ⟨_,aw ..,?_⟩;conv=>whnf)
   |(refine And.intro ?_ ?_;kernel_rfl;conv=>whnf))
  all_goals first
   |rfl
   |(exfalso;simp at *;done)
   |trace_state
end Sh
