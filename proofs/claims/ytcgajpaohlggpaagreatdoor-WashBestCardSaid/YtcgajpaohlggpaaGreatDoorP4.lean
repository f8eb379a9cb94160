/-
  Chapter 8's functions, walked over pure data: the library of the walk, the functions' code over data, and what each computes. (part 4)
-/
import Derived.Test.YtcgajpaohlggpaaGreatDoorP3
import Derived.Lib.LaidTab
import Derived.Lib.AppendIntMem
import Derived.ChangeArms
import Derived.ChangeSame
import Derived.OpenShut
import Derived.WideShapes
import Derived.FnData
import Derived.LaidMore
import Derived.DataReads
import Derived.ProofKit
import Derived.Carry
import Derived.HandedShaped
import Derived.Shelf.Vars
import Derived.Stop.Joined
import Derived.Deep.DeepHandedRow
import Derived.MakeChecks
import Derived.LaidSub
import Derived.LaidHandle
import Derived.Test.YtcgajpaohlggpaaGreatDoorProg
import Derived.Lib.ItoaNum
import Derived.Lib.ItoaLen
import Derived.Lib.MapLaws
import Derived.Lib.Bytealg
import Derived.Lib.Join
import Derived.Lib.Strings
set_option linter.unusedVariables false
set_option linter.unusedSimpArgs false
namespace Sh
open Go
theorem fenced_open {P:Program} {F:Fence} (hF:OpenF F) (hd:F.depth=none):Machine.fenced P F=Machine.fenced P Fence.wide:=by
 funext m
 refine propext ⟨fun _=>fenced_wide P m,fun _ g _=>?_⟩
 refine ⟨fun h=>?_,Or.inl (hF.fn _),fun f _=>hF.fn f,fun d e=>?_⟩
 ·rw [hF.quiet] at h;cases h
 ·rw [hd] at e;cases e
theorem calls_open {P:Program} {F:Fence} {n:Nat} {f:FuncId} {args:Array Value} {w:World} {R:Ending→World→Prop} (hF:OpenF F) (hd:F.depth=none) (h:Calls P f args w R):CallsIn F n P f args w R:=by
 have h1:=(callsIn_wide (n:=n)).2 h
 refine ⟨hF.fn f,fun cs _=>?_⟩
 rw [fenced_open hF hd]
 exact h1.2 cs (room_wide _)
theorem pure_of_calls {P:Program} {G:Nat→Option DV} {f:FuncId} {ds:List DV} {d:DV} (hen:Enters P f) (h:∀ M w vs,GOk G M→Tabs G w→M.holds w→RelPs M ds vs→Calls P f vs w (After M w d)):PureCall P G f ds d :=
 ⟨hen,fun F n hF hd _ M w vs hG hT hM hr=>calls_open hF hd (h M w vs hG hT hM hr)⟩
theorem holds_below {M:Mem} {w w':World} (hM:M.holds w) (h:RowKit.Below w.heap.size w w'):M.holds w':=fun b o v e=>by
 have h1:=hM b o v e
 have h2:b < w.heap.size:=World.block_lt_of_cell? (a:=⟨b,o,none⟩) _ h1
 rw [World.cell?_of_block (w:=w) (w':=w') (a:=⟨b,o,none⟩) (h.block b h2)];exact h1
theorem after_flat {M:Mem} {w w':World} {d:DV} {v:Value} (hM:M.holds w) (h:RowKit.Below w.heap.size w w') (hv:RelP M d v):After M w d (.returned v) w' :=
 ⟨v,M,rfl,M.le_refl,holds_below hM h,hv,h,fun b o v e e0=>by rw [e] at e0;cases e0⟩
theorem tabIs_of {P:Program} {G:Nat→Option DV} {M:Mem} {w:World} {name:String} {g:Nat} {k:IntKind} {zs:List Int} (hn:P.globalNamed name=some g) (hg:G g=some (.agg (zs.map (DV.int k)))) (hz:zs≠[])
  (hG:GOk G M) (hT:Tabs G w) (hM:M.holds w):Lib.TabIs P w name k zs:=by
 have h1:=(hT g _ hg).1
 have h2:=hG g _ hg
 unfold Lib.TabIs World.var?
 rw [hn]
 simp only [Option.bind_some]
 unfold blockLen at h1
 split at h1
 ·rename_i cs ty fz e
  simp only [Option.some.injEq,DV.cells,List.length_map] at h1
  rw [e]
  simp only [Option.some.injEq]
  cases h2 with
  |ip d b o gv hMm hr =>
   apply Array.ext
   ·simp [h1]
   ·intro i i1 i2
    have hi:i < zs.length:=by omega
    have q1:=hM _ _ _ (hMm i (by simpa [DV.cells] using hi))
    have q2:=hr i (by simpa [DV.cells] using hi)
    have q3:w.cell? ⟨g,0+i,none⟩=cs[i]?:=by rw [Nat.zero_add];exact cell_of_heap e i
    rw [q3] at q1
    have q4:(DV.agg (zs.map (DV.int k))).cells.getD i .undef=.int k zs[i]:=by simp [DV.cells,List.getD_eq_getElem?_getD,hi]
    rw [q4] at q2
    have q5:cs[i]=gv i:=by rw [Array.getElem?_eq_getElem i1] at q1;exact Option.some.inj q1
    have q6:∀ v,RelP M (.int k zs[i]) v→v=.int k zs[i]:=fun v h=>by cases h;rfl
    rw [q5,q6 _ q2]
    simp
 ·cases h1
end Sh

namespace Sh
open Go
def memOf (W:World):Mem:=fun b o=>W.cell? ⟨b,o,none⟩
theorem memOf_holds (W:World):(memOf W).holds W:=fun _ _ _ h=>h
theorem calls_of_pure {G:Nat→Option DV} {f:FuncId} {ds:List DV} {d:DV} {P:Program} (h:PureCall P G f ds d) {W:World} {vs:Array Value} (hG:GOk G (memOf W)) (hT:Tabs G W) (hr:RelPs (memOf W) ds vs) :
  Calls P f vs W fun e w'=>∃ v M',e=.returned v∧M'.holds w'∧RelP M' d v∧RowKit.Below W.heap.size W w':=by
 have h1:=h.2 Fence.wide 0 ⟨fun _=>trivial,rfl⟩ rfl rfl (memOf W) W vs hG hT (memOf_holds W) hr
 refine (callsIn_wide.1 h1).mono fun e w' ⟨v,M',a,_,b,c,d,_⟩=>⟨v,M',a,b,c,d⟩
def RelL (M:Mem) (ds:List DV) (vs:List Value):Prop:=ds.length=vs.length∧∀ i,i < ds.length→RelP M (ds.getD i .undef) (vs.getD i Go.undef)
theorem getD_left {α:Type} {a b:List α} {i:Nat} {d:α} (h:i < a.length):(a++b).getD i d=a.getD i d:=by
 simp [List.getD_eq_getElem?_getD,List.getElem?_append_left h]
theorem getD_right {α:Type} {a b:List α} {i:Nat} {d:α} (h:a.length≤i):(a++b).getD i d=b.getD (i - a.length) d:=by
 simp [List.getD_eq_getElem?_getD,List.getElem?_append_right h]
theorem RelL.append {M:Mem} {a c:List DV} {b d:List Value} (h:RelL M a b) (k:RelL M c d):RelL M (a++c) (b++d):=by
 refine ⟨by simp [h.1,k.1],fun i hi=>?_⟩
 by_cases e:i < a.length
 ·rw [getD_left e,getD_left (h.1 ▸ e)];exact h.2 i e
 ·have h1:=h.1
  rw [getD_right (by omega),getD_right (by omega),← h.1]
  exact k.2 _ (by simp at hi;omega)
theorem RelL.one {M:Mem} {d:DV} {v:Value} (h:RelP M d v):RelL M [d] [v]:=⟨rfl,fun i hi=>by
 have:i=0:=by simp at hi;omega
 subst this;exact h⟩
theorem RelL.nil {M:Mem}:RelL M [] []:=⟨rfl,fun i hi=>absurd hi (Nat.not_lt_zero i)⟩
section
variable {H:Type} {enc:TypeId×Value→H} {P:Program} {W:World}
def Opens (enc:TypeId×Value→H) (P:Program) (W:World) (t:TypeId) {α:Type} (e:α→List DV) (B:α→Prop):Prop :=
 ∀ (base:Nat) (sp:Nat→Bool) (hd:Bool) (fuel:Nat) (cs:List Value) (x:DataW H×List MemPlace),DataW.trod enc P W base sp hd fuel t cs=some x→∃ a,RelL (memOf W) (e a) cs∧B a
theorem Opens.map {t:TypeId} {α β:Type} {e:α→List DV} {B:α→Prop} {e':β→List DV} {B':β→Prop} (h:Opens enc P W t e B) (f:α→β) (he:∀ a,e' (f a)=e a) (hB:∀ a,B a→B' (f a)):Opens enc P W t e' B':=by
 intro base sp hd fuel cs x hx
 obtain ⟨a,h1,h2⟩:=h base sp hd fuel cs x hx
 exact ⟨f a,by rw [he];exact h1,hB a h2⟩
theorem opens_int {t:TypeId} {k:IntKind} (ht:P.underlying t=some (.int k)):Opens enc P W t (fun n:Int=>[DV.int k n]) (fun n=>(Lit.int k n).wf=true):=by
 intro base sp hd fuel cs x hx
 obtain ⟨n,rfl,_,hw⟩:=DataW.trod_int ht hx
 exact ⟨n,.one (.int k n),hw⟩
theorem opens_string {t:TypeId} (ht:P.underlying t=some .string):Opens enc P W t (fun s:List UInt8=>[DV.str s]) (fun s=>s.length≤maxLen):=by
 intro base sp hd fuel cs x hx
 obtain ⟨s,rfl,_,hw⟩:=DataW.trod_string ht hx
 exact ⟨s.data.toList,.one (.str s.data.toList),by simpa using hw⟩
theorem build {α:Type} {F:Nat→α→Prop}:∀ n,(∀ i,i < n→∃ a,F i a)→∃ l:List α,l.length=n∧∀ i (hi:i < l.length),F i l[i]
 |0,_=>⟨[],rfl,fun i hi=>absurd hi (Nat.not_lt_zero i)⟩
 |n+1,h=>by
  obtain ⟨l,h1,h2⟩:=build n (fun i hi=>h i (by omega))
  obtain ⟨a,ha⟩:=h n (by omega)
  refine ⟨l++[a],by simp [h1],fun i hi=>?_⟩
  by_cases e:i < l.length
  ·rw [List.getElem_append_left e];exact h2 i e
  ·have:i=l.length:=by simp at hi;omega
   subst this
   rw [List.getElem_append_right (Nat.le_refl _)]
   simpa [h1] using ha
theorem cells?_parts {base:Nat} {a:Addr} {n:Nat} {cs:List Value} (h:W.cells? base a n=some cs):cs.length=n∧∀ j,j < n→W.cell? (a.add j)=cs[j]?:=by
 unfold World.cells? at h
 split at h
 ·refine ⟨by simpa using mapM_some_length h,fun j hj=>mapM_some_get h j j (by simp [hj])⟩
 ·cases h
theorem add_off {a:Addr} (h:a.spot=none) (k:Nat):a.add k=⟨a.block,a.off+k,none⟩:=by
 unfold Addr.add
 split
 ·rename_i e;subst e;cases a;simp_all
 ·rfl
theorem spot_none {a:Addr} {v:Value} (h:W.cell? a=some v):a.spot=none:=by
 unfold World.cell? at h
 split at h
 ·split at h
  ·cases h
  ·rename_i e;simpa using e
 ·cases h
theorem opens_slice {t e:TypeId} {α:Type} {f:α→DV} {B:α→Prop} (ht:P.underlying t=some (.slice e)) (n:Nat) (hn:P.cellsOf e=n) (h0:0 < n) (hE:Opens enc P W e (fun a=>(f a).cells) B) :
  Opens enc P W t (fun l:List α=>[DV.list (l.map f)]) (fun l=>l.length≤maxLen∧∀ a ∈ l,B a):=by
 intro base sp hd fuel cs x hx
 rcases DataW.trod_slice ht hx with ⟨rfl,_⟩|⟨a,len,cap,elems,rest,m,_,rfl,_,_,hlc,hcm,hlen,hel,_,_⟩
 ·exact ⟨[],.one (.list [] none 0 n 0 0 (fun _=>Go.undef) (Nat.le_refl _) (.inl rfl) (fun e he=>by simp at he) (fun i hi=>by simp [flat] at hi) (fun i hi=>by simp [flat] at hi)),Nat.zero_le _,fun a ha=>by simp at ha⟩
 ·rw [hn] at hel
  have hget:∀ i,i < len→∃ y:α,∃ cs:List Value,W.cells? base (a.add (i * n)) n=some cs∧RelL (memOf W) (f y).cells cs∧B y:=by
   intro i hi
   have h1:=hel i hi
   cases hc:W.cells? base (a.add (i * n)) n with
   |none=>rw [hc] at h1;rw [List.getElem?_eq_getElem (by omega)] at h1;cases h1
   |some cs =>
    rw [hc,Option.bind_some,List.getElem?_eq_getElem (by omega)] at h1
    obtain ⟨y,h2,h3⟩:=hE _ _ _ _ _ _ h1
    exact ⟨y,cs,rfl,h2,h3⟩
  obtain ⟨l,hl,hF⟩:=build len hget
  have hsp:l=[]∨a.spot=none:=by
   by_cases e0:len=0
   ·exact .inl (List.length_eq_zero_iff.1 (by omega))
   ·obtain ⟨cs,h1,_⟩:=hF 0 (by omega)
    have h2:=cells?_parts h1
    have h3:=h2.2 0 h0
    rw [Nat.zero_mul,List.getElem?_eq_getElem (by omega)] at h3
    exact .inr (spot_none (a:=a) (by simpa [Addr.add] using h3))
  have hsz:∀ e ∈ l.map f,e.cells.length=n:=fun e he=>by
   obtain ⟨y,hy,rfl⟩:=List.mem_map.1 he
   obtain ⟨i,hi,rfl⟩:=List.mem_iff_getElem.1 hy
   obtain ⟨cs,h1,h2,_⟩:=hF i hi
   rw [h2.1];exact (cells?_parts h1).1
  have hcell:∀ q r,q < l.length→r < n→∃ v,W.cell? ⟨a.block,a.off+(q * n+r),none⟩=some v∧RelP (memOf W) (((l.map f).getD q .undef).cells.getD r .undef) v:=by
   intro q r hq hr
   obtain ⟨cs,h1,h2,_⟩:=hF q hq
   have h3:=cells?_parts h1
   have h4:=h3.2 r hr
   have hs:a.spot=none:=hsp.resolve_left (fun e=>by rw [e] at hq;exact absurd hq (Nat.not_lt_zero _))
   rw [add_off hs,add_off rfl,List.getElem?_eq_getElem (by omega)] at h4
   refine ⟨cs[r]'(by omega),by rw [← Nat.add_assoc];exact h4,?_⟩
   have h5:=h2.2 r (by rw [h2.1];omega)
   have e1:(l.map f).getD q .undef=f l[q]:=by simp [List.getD_eq_getElem?_getD,hq]
   have e2:cs.getD r Go.undef=cs[r]'(by omega):=by simp [List.getD_eq_getElem?_getD,show r < cs.length by omega]
   rw [e1,← e2];exact h5
  have hall:∀ i,i < (flat (l.map f)).length→∃ v,W.cell? ⟨a.block,a.off+i,none⟩=some v∧RelP (memOf W) ((flat (l.map f)).getD i .undef) v:=by
   intro i hi
   rw [length_flat _ n hsz,List.length_map] at hi
   obtain ⟨q,r,hq,hr,rfl⟩:∃ q r,q < l.length∧r < n∧q * n+r=i :=
    ⟨i / n,i % n,(Nat.div_lt_iff_lt_mul h0).2 hi,Nat.mod_lt _ h0,by rw [Nat.mul_comm];exact Nat.div_add_mod i n⟩
   obtain ⟨v,h1,h2⟩:=hcell q r hq hr
   refine ⟨v,h1,?_⟩
   rw [getElem_flat _ n hsz q r (by simpa using hq) hr];exact h2
  refine ⟨l,.one ?_,⟨by omega,fun y hy=>?_⟩⟩
  ·have e1:len=(l.map f).length:=by simp [hl]
   rw [e1]
   refine .list (l.map f) (some a) cap n a.block a.off (fun i=>(W.cell? ⟨a.block,a.off+i,none⟩).getD Go.undef) (by omega) ?_ hsz ?_ ?_
   ·rcases hsp with h|h
    ·exact .inl (by rw [h];rfl)
    ·exact .inr (by rw [← h])
   ·intro i hi
    obtain ⟨v,h1,_⟩:=hall i hi
    show W.cell? _=_
    rw [h1];rfl
   ·intro i hi
    obtain ⟨v,h1,h2⟩:=hall i hi
    rw [h1];exact h2
  ·obtain ⟨i,hi,rfl⟩:=List.mem_iff_getElem.1 hy
   obtain ⟨_,_,_,h3⟩:=hF i hi
   exact h3
theorem split2 {α:Type} {cs:List α} {c0 c1:Nat} (h:cs.length=c0+c1):(cs.drop 0).take c0++(cs.drop c0).take c1=cs:=by
 rw [List.drop_zero,List.take_of_length_le (l:=cs.drop c0) (by simp;omega),List.take_append_drop]
theorem opens_struct2 {t:TypeId} {f0 f1:Field} {α β:Type} {e0:α→List DV} {B0:α→Prop} {e1:β→List DV} {B1:β→Prop} (ht:P.underlying t=some (.struct #[f0,f1])) (c0 c1:Nat)
  (h0:P.cellsOf f0.type=c0) (h1:P.cellsOf f1.type=c1) (hc:P.cellsOf t=c0+c1) (o0:f0.offset=0) (o1:f1.offset=c0) (k0:Opens enc P W f0.type e0 B0) (k1:Opens enc P W f1.type e1 B1) :
  Opens enc P W t (fun a:α×β=>e0 a.1++e1 a.2) (fun a=>B0 a.1∧B1 a.2):=by
 intro base sp hd fuel cs x hx
 obtain ⟨y0,y1,n,_,hl,r0,r1⟩:=ChangeShapes.trod_struct2 ht hx
 rw [h0,o0] at r0
 rw [h1,o1] at r1
 rw [hc] at hl
 obtain ⟨a,a1,a2⟩:=k0 _ _ _ _ _ _ r0
 obtain ⟨b,b1,b2⟩:=k1 _ _ _ _ _ _ r1
 exact ⟨(a,b),by have:=a1.append b1;rwa [split2 hl] at this,a2,b2⟩
theorem opens_struct3 {t:TypeId} {f0 f1 f2:Field} {α β γ:Type} {e0:α→List DV} {B0:α→Prop} {e1:β→List DV} {B1:β→Prop} {e2:γ→List DV} {B2:γ→Prop} (ht:P.underlying t=some (.struct #[f0,f1,f2])) (c0 c1 c2:Nat)
  (h0:P.cellsOf f0.type=c0) (h1:P.cellsOf f1.type=c1) (h2:P.cellsOf f2.type=c2) (hc:P.cellsOf t=c0+(c1+c2)) (o0:f0.offset=0) (o1:f1.offset=c0) (o2:f2.offset=c0+c1)
  (k0:Opens enc P W f0.type e0 B0) (k1:Opens enc P W f1.type e1 B1) (k2:Opens enc P W f2.type e2 B2) :
  Opens enc P W t (fun a:α×β×γ=>e0 a.1++(e1 a.2.1++e2 a.2.2)) (fun a=>B0 a.1∧B1 a.2.1∧B2 a.2.2):=by
 intro base sp hd fuel cs x hx
 obtain ⟨xs,n,_,_,hl,hlen,hf⟩:=DataW.trod_struct ht hx
 match xs,hlen with
 |[y0,y1,y2],_ =>
  have r0:=hf 0 f0 rfl
  have r1:=hf 1 f1 rfl
  have r2:=hf 2 f2 rfl
  rw [h0,o0] at r0
  rw [h1,o1] at r1
  rw [h2,o2] at r2
  rw [hc] at hl
  obtain ⟨a,a1,a2⟩:=k0 _ _ _ _ _ _ r0
  obtain ⟨b,b1,b2⟩:=k1 _ _ _ _ _ _ r1
  obtain ⟨c,d1,d2⟩:=k2 _ _ _ _ _ _ r2
  refine ⟨(a,b,c),?_,a2,b2,d2⟩
  have h3:=a1.append (b1.append d1)
  have e3:(cs.drop c0).take c1++(cs.drop (c0+c1)).take c2=cs.drop c0:=by
   have:=split2 (cs:=cs.drop c0) (c0:=c1) (c1:=c2) (by simp;omega)
   rwa [List.drop_drop,List.drop_drop,Nat.add_zero] at this
  rw [e3,List.drop_zero,List.take_append_drop] at h3
  exact h3
theorem arg_struct {t:TypeId} {fs:Array Field} {α:Type} {e:α→List DV} {B:α→Prop} {v:Value} {d:DataW H} {p:List MemPlace} {base b0:Nat} {sp:Nat→Bool} {hd:Bool} (ht:P.underlying t=some (.struct fs)) (k:Opens enc P W t e B)
  (hv:Value.okWide P W .any b0 t v) (h:DataW.Trod enc P W base sp hd t v d p):∃ a,RelP (memOf W) (.agg (e a)) v∧B a:=by
 obtain ⟨cs,rfl,hsz⟩:=WideShapes.okWide_struct ht hv
 obtain ⟨fuel,hf⟩:=h
 obtain ⟨a,h1,h2⟩:=k _ _ _ _ _ _ hf
 refine ⟨a,.agg _ _ (by simpa [Value.cells] using h1.1) (fun i hi=>?_),h2⟩
 have:=h1.2 i hi
 simpa [Value.cells,List.getD_eq_getElem?_getD,Array.getD_eq_getD_getElem?] using this
theorem arg_slice {t e:TypeId} {α:Type} {f:α→DV} {B:α→Prop} {v:Value} {d:DataW H} {p:List MemPlace} {base b0:Nat} {sp:Nat→Bool} {hd:Bool} (ht:P.underlying t=some (.slice e)) (k:Opens enc P W t (fun a=>[f a]) B)
  (hv:Value.okWide P W .any b0 t v) (h:DataW.Trod enc P W base sp hd t v d p):∃ a,RelP (memOf W) (f a) v∧B a:=by
 obtain ⟨a,len,cap,rfl⟩:=WideShapes.okWide_slice ht hv
 obtain ⟨fuel,hf⟩:=h
 obtain ⟨a,h1,h2⟩:=k _ _ _ _ _ _ hf
 exact ⟨a,h1.2 0 (by simp),h2⟩
theorem relPs_of {M:Mem} {ds:List DV} {vs:List Value} (h:RelL M ds vs):RelPs M ds vs.toArray:=by
 refine ⟨by simpa using h.1,fun i hi=>?_⟩
 have:=h.2 i hi
 simpa [List.getD_eq_getElem?_getD,Array.getD_eq_getD_getElem?] using this
theorem RelL.cons {M:Mem} {d:DV} {v:Value} {ds:List DV} {vs:List Value} (h:RelP M d v) (k:RelL M ds vs):RelL M (d :: ds) (v :: vs):=(RelL.one h).append k
theorem gok_of {W:World} {g:Nat} {ds:List DV} {cs:Array Value} (hc:∀ i,W.cell? ⟨g,i,none⟩=cs[i]?) (h:RelL (memOf W) ds cs.toList):RelP (memOf W) (.ip (.agg ds)) (.pointer (some ⟨g,0,none⟩)):=by
 have hl:ds.length=cs.size:=by simpa using h.1
 refine .ip _ g 0 (fun i=>cs.getD i Go.undef) (fun i hi=>?_) (fun i hi=>?_)
 ·have hi:i < cs.size:=by rw [← hl];exact hi
  show W.cell? _=_
  rw [Nat.zero_add,hc,Array.getElem?_eq_getElem hi];simp [Array.getD_eq_getD_getElem?,hi]
 ·have h1:=h.2 i hi
  simpa [DV.cells,List.getD_eq_getElem?_getD,Array.getD_eq_getD_getElem?] using h1
theorem len_of {W:World} {n:String} {g:Nat} {cs:Array Value} (hg:P.globalNamed n=some g) (h:W.var? P n=some cs):blockLen W g=some cs.size:=by
 simp only [World.var?,hg,Option.bind_some] at h
 unfold blockLen
 split at h<;>simp_all
def Known (enc:TypeId×Value→H) (P:Program) (W:World) (t:TypeId) (x:DataW H) (ds:List DV):Prop :=
 ∀ (base:Nat) (sp:Nat→Bool) (fuel:Nat) (cs:List Value) (p:List MemPlace),DataW.trod enc P W base sp true fuel t cs=some (x,p)→RelL (memOf W) ds cs
theorem known_string {t:TypeId} (ht:P.underlying t=some .string) (s:List UInt8):Known enc P W t (.lit (.string s)) [.str s]:=by
 intro base sp fuel cs p h
 obtain ⟨b,rfl,e,_⟩:=DataW.trod_string ht h
 simp only [Prod.mk.injEq,DataW.lit.injEq,Lit.string.injEq] at e
 rw [e.1]
 exact .one (.str b.data.toList)
theorem known_struct2 {t:TypeId} {f0 f1:Field} {x0 x1:DataW H} {d0 d1:List DV} (ht:P.underlying t=some (.struct #[f0,f1])) (c0 c1:Nat)
  (h0:P.cellsOf f0.type=c0) (h1:P.cellsOf f1.type=c1) (hc:P.cellsOf t=c0+c1) (o0:f0.offset=0) (o1:f1.offset=c0) (k0:Known enc P W f0.type x0 d0) (k1:Known enc P W f1.type x1 d1):Known enc P W t (.agg [x0,x1]) (d0++d1):=by
 intro base sp fuel cs p hx
 obtain ⟨y0,y1,n,e,hl,r0,r1⟩:=ChangeShapes.trod_struct2 ht hx
 simp only [Prod.mk.injEq,DataW.agg.injEq,List.cons.injEq,and_true] at e
 obtain ⟨⟨e0,e1⟩,_⟩:=e
 rw [h0,o0] at r0
 rw [h1,o1] at r1
 rw [hc] at hl
 have a1:=k0 _ _ _ _ y0.2 (by rw [r0,e0])
 have b1:=k1 _ _ _ _ y1.2 (by rw [r1,e1])
 have:=a1.append b1
 rwa [split2 hl] at this
theorem known_array_aux {t:TypeId} {c:Nat}:∀ (xs:List (DataW H×List MemPlace)) (dss:List (List DV)) (cs:List Value),xs.length=dss.length→cs.length=xs.length * c →
  (∀ (i:Nat) (x:DataW H×List MemPlace) (ds:List DV),xs[i]?=some x→dss[i]?=some ds→RelL (memOf W) ds ((cs.drop (i * c)).take c))→RelL (memOf W) dss.flatten cs
 |[],[],cs,_,hl,_=>by
  have:cs=[]:=List.length_eq_zero_iff.1 (by simpa using hl)
  subst this;exact .nil
 |x :: xs,ds :: dss,cs,h1,hl,h=>by
  rw [List.length_cons,Nat.add_mul,Nat.one_mul] at hl
  have h2:=known_array_aux (t:=t) (c:=c) xs dss (cs.drop c) (by simpa using h1) (by simp;omega) (fun i y ds' e1 e2=>by
   have:=h (i+1) y ds' (by simpa using e1) (by simpa using e2)
   rwa [Nat.add_mul,Nat.one_mul,Nat.add_comm (i * c) c,← List.drop_drop] at this)
  have h3:=h 0 x ds rfl rfl
  rw [Nat.zero_mul,List.drop_zero] at h3
  have:=h3.append h2
  rwa [List.take_append_drop] at this
theorem known_array {t e:TypeId} {n c:Nat} {xs:List (DataW H)} {dss:List (List DV)} (ht:P.underlying t=some (.array n e)) (hc:P.cellsOf e=c) (hct:P.cellsOf t=n * c) (hl:xs.length=dss.length)
  (h:∀ (i:Nat) (x:DataW H) (ds:List DV),xs[i]?=some x→dss[i]?=some ds→Known enc P W e x ds):Known enc P W t (.agg xs) dss.flatten:=by
 intro base sp fuel cs p hx
 obtain ⟨ys,m,_,e,hlc,hn,hel⟩:=DataW.trod_array ht hx
 simp only [Prod.mk.injEq,DataW.agg.injEq] at e
 obtain ⟨e,_⟩:=e
 have hy:ys.length=xs.length:=by rw [e];simp
 refine known_array_aux (t:=t) (c:=c) ys dss cs (by omega) (by rw [hlc,hct,hn]) (fun i y ds e1 e2=>?_)
 have hi:i < n:=by rw [← hn];exact (List.getElem?_eq_some_iff.1 e1).1
 have h1:=hel i hi
 rw [hc,e1] at h1
 refine h i y.1 ds (by rw [e,List.getElem?_map,e1];rfl) e2 _ _ _ _ y.2 h1
end
theorem known_func {P:Program} {W:World} {t:TypeId} {ps rs:Array TypeId} {va:Bool} {b:UInt8} {r:List UInt8} {f0:FuncId} (ht:P.underlying t=some (.func ps rs va))
  (hone:((List.range P.funcs.size).filter fun f=>(P.funcs[f]?).any (·.name.toUTF8.data.toList == b :: r))=[f0]):Known (funcToken P) P W t (.held (b :: r)) [.func f0 []]:=by
 intro base sp fuel cs p h
 obtain ⟨v,rfl⟩:∃ v,cs=[v]:=by
  have h1:=h
  cases fuel with
  |zero=>simp [DataW.trod] at h1
  |succ n =>
   unfold DataW.trod at h1
   rw [ht] at h1
   split at h1<;>simp_all
 have e:=func_of_trod ht hone h
 rw [e]
 exact .one (.func f0 [] #[] rfl (fun i hi=>absurd hi (Nat.not_lt_zero i)))
end Sh

namespace Sh
open Go Go.Proofs
section
variable {H:Type} {enc:TypeId×Value→H} {P:Program} {W:World}
theorem open_var {g:Nat} {t:TypeId} {zero:Array Value} (h:W.ShapedOpen P) (hg:g < P.globals.size)
  (h0:((begin P (fun _ _=>0) default).world.heap[g]?).bind Obj.row?=some (zero,t)) (hz:zero.size=1)
  (hb:P.buildable t=true) (hc:P.cellTypes P.depth t=some [t]) (hu:P.underlying t=some (.int .i64)) :
  (∃ m,W.cell? ⟨g,0,none⟩=some (.int .i64 m))∧blockLen W g=some 1:=by
 refine ⟨cell_of_shapedOpen_int h hg h0 hz hb hc hu,?_⟩
 obtain ⟨cs,hh,hs,_⟩:=h.1 g zero t hg h0
 unfold blockLen
 rw [hh]
 show some cs.size=some 1
 rw [hs,hz]
theorem gok_open {g:Nat} (h:∃ m,W.cell? ⟨g,0,none⟩=some (.int .i64 m)):RelP (memOf W) (.ip (.agg [.undef])) (.pointer (some ⟨g,0,none⟩)):=by
 obtain ⟨m,hm⟩:=h
 refine .ip _ g 0 (fun _=>.int .i64 m) (fun i hi=>?_) (fun i hi=>?_)
 ·have:i=0:=by simpa [DV.cells] using hi
  subst this;exact hm
 ·have:i=0:=by simpa [DV.cells] using hi
  subst this;exact .undef _
theorem handed_shaped {a:Assume} {C:Checked} {os:Os} {f:FuncId} {fn:Func} {s:ChangeSpec} {conds:List PathCond} {apart fresh handsOn again:Bool} {X:World→Array Value→Prop}
  (hX:∀ (w w':World) (args:Array Value),w.heap=w'.heap→X w args→X w' args)
  (own:ownKnob C.prog.godebug=none) (started:os.Started) (noInit:C.prog.inits.idxOf? f=none) (hfn:C.prog.funcs[f]?=some fn)
  (witness:∃ (w:World) (tape:Tape) (i:Input),w.os=os∧(w.forCall tape i).Shaped C.prog∧i.vars=[]∧Input.okWide C.prog (w.forCall tape i) .any w.heap.size f i ∧
    ((s.pre enc C.prog fn conds apart (w.forCall tape i).memory i.args∧X (w.forCall tape i).memory i.args)∧sizedMet enc C.prog fn (OpenSpec.ofChange s) apart (w.forCall tape i).memory i.args)∧a.holds C.prog (lone (Frame.enter C.prog f i.args .normal) [] (w.forCall tape i)))
  (contract:∀ (W:World) (base:Nat) (args:Array Value) (ds gs:List (DataW H)) (before:List MemPlace),
    (∀ (j:Nat) t v,fn.params[j]?=some t→args[j]?=some v→Value.okWide C.prog W .any base t v) →
    DataW.Whole enc C.prog fn.params.toList s.vars apart W args.toList ds gs before→X W args→W.ShapedOpen C.prog →
    Calls C.prog f args W fun e W'=>∃ v,e=.returned v∧s.post enc C.prog fn apart fresh handsOn again W args v W') :
  ReturnsInHanded a C os f .any (fun w args=>(s.pre enc C.prog fn conds apart w args∧X w args)∧sizedMet enc C.prog fn (OpenSpec.ofChange s) apart w args) (s.post enc C.prog fn apart fresh handsOn again):=by
 refine returnsInHanded_of_calls own started noInit witness ?_
 intro w tape i _ hsh _ hok hpre hholds
 obtain ⟨_,_,_,fn',hfn',_,_,_,_,hval⟩:=hok
 have e:fn'=fn:=Option.some.inj (hfn'.symm.trans hfn)
 subst e
 obtain ⟨⟨⟨ds,gs,before,hw,hc⟩,hx⟩,hz⟩:=hpre
 have hw':=DataW.Whole.of_heap (w':=w.forCall tape i) (by rfl) hw
 refine (contract (w.forCall tape i) w.heap.size i.args ds gs before hval hw' (hX _ _ _ (by rfl) hx) hsh).mono fun e W' ⟨v,he,hp⟩=>?_
 subst he
 exact ChangeSpec.post_blind hp
end
section
open Go.RowKit Go.WideShapes Go.ChangeShapes
variable {H:Type} {enc:TypeId×Value→H} {P:Program}
theorem postOfBelow {f:Func} {s:ChangeSpec} {apart fresh handsOn again:Bool} {W W':World} {args:Array Value} {v:Value} {ds gs:List (DataW H)} {before pa pv:List MemPlace}
  (hW:DataW.Whole enc P f.params.toList s.vars apart W args.toList ds gs before)
  (hres:∀ (b:Nat) (sp:Nat→Bool) (hd:Bool),DataW.TrodAll enc P W' b sp hd f.resultTypes.toList (v.resultList f.resultTypes.size) (s.fn H (ds++gs)).results [])
  (hargs:∀ sp:Nat→Bool,(∀ p ∈ before,sp p.block=true)→DataW.TrodAll enc P W' 0 sp true f.params.toList args.toList (s.fn H (ds++gs)).args pa)
  (hvars:∀ sp:Nat→Bool,(∀ p ∈ before,sp p.block=true)→DataW.TrodVars enc P W' sp s.vars (s.fn H (ds++gs)).vars pv)
  (hps:before=pa++pv) (hb:Below W.heap.size W W')
  (hok:∀ (j:Nat) (t:TypeId) (r:Value),f.resultTypes[j]?=some t→(v.resultList f.resultTypes.size)[j]?=some r→Value.okWide P W' .any 0 t r) :
  s.post enc P f apart fresh handsOn again W args v W':=by
 have hlt:∀ p ∈ before,p.block < W.heap.size:=fun p hp=>hW.lt p hp
 have hold:∀ p ∈ before,(fun b=>decide (b < W.heap.size)) p.block=true:=fun p hp=>by simpa using hlt p hp
 refine ⟨ds,gs,before,[],pa,pv,hW,hres _ _ _,hargs _ hold,hvars _ hold,World.keptBut_mono (fun p hp=>⟨hp,?_⟩) (hb.frame (· ∈ before)),fun _=>?_⟩
 ·rw [hps,List.mem_append] at hp
  exact Or.inr hp
 ·obtain ⟨_,_,_,_,_,hz,hn⟩:=hW
  refine ⟨hok,_,_,([]++pa)++pv,⟨[]++pa,pv,trodAll_append (hargs _ (fun _ _=>rfl)) (hres _ _ _),hvars _ (fun _ _=>rfl),rfl,?_,?_⟩,?_⟩
  ·intro b off hp
   have hin:MemPlace.cell b off ∈ before:=by rw [hps];simpa using hp
   rw [hb.frozen (hlt _ hin)]
   exact hz b off hin
  ·intro ha
   have:=hn ha
   rw [hps] at this
   simpa using this
  ·intro p hp _
   rw [hps]
   simpa using hp
theorem trodAll_stays (hl:laidOutB P=true) {W W':World} (hb:Below W.heap.size W W') {sp:Nat→Bool}:∀ {ts:List TypeId} {vs:List Value} {ds:List (DataW H)} {ps:List MemPlace},DataW.TrodAll enc P W 0 (fun _=>true) true ts vs ds ps →
  (ts.all fun t=>P.readableRec t && decide (t < P.types.size))=true→(∀ p ∈ ps,p.block < W.heap.size)→(∀ p ∈ ps,sp p.block=true)→DataW.TrodAll enc P W' 0 sp true ts vs ds ps
 |[],_,_,_,h,_,_,_=>by
  obtain ⟨rfl,rfl,rfl⟩:=trodAll_nil h
  rfl
 |t :: ts,_,_,_,h,ht,hlt,hsp=>by
  obtain ⟨v,vs,d,ds,p,q,rfl,rfl,rfl,h1,h2⟩:=trodAll_cons h
  rw [List.all_cons,Bool.and_eq_true,Bool.and_eq_true] at ht
  exact trodAll_cons_mk (WideElems.Trod_stays hl ht.1.1 (of_decide_eq_true ht.1.2) h1 (fun x hx=>hb.same (hlt x (by simp [hx]))) (fun x hx=>hsp x (by simp [hx])))
   (trodAll_stays hl hb h2 ht.2 (fun x hx=>hlt x (by simp [hx])) (fun x hx=>hsp x (by simp [hx])))
end
theorem relL_ints {M:Mem} {k:IntKind} (zs:List Int):RelL M (zs.map (DV.int k)) (zs.map fun z=>Value.int k z):=by
 refine ⟨by simp,fun i hi=>?_⟩
 rw [List.length_map] at hi
 have e1:(zs.map (DV.int k)).getD i .undef=.int k zs[i]:=by simp [List.getD_eq_getElem?_getD,hi]
 have e2:(zs.map fun z=>Value.int k z).getD i Go.undef=.int k zs[i]:=by simp [List.getD_eq_getElem?_getD,hi]
 rw [e1,e2]
 exact .int _ _
end Sh

/- A contract whose argument is a list,called with a row of one's own: the row is frozen by the call. -/
set_option linter.unusedSectionVars false
namespace Sh
open Go
mutual
theorem ren_nil:∀ d:DV,ren [] d=d
 |.agg cs=>by simp [ren,rens_nil cs]
 |.tuple cs=>by simp [ren,rens_nil cs]
 |.func f cs=>by simp [ren,rens_nil cs]
 |.meth f cs=>by simp [ren,rens_nil cs]
 |.own _ _ _ _=>rfl
 |.ptr _ _ _ _=>rfl
 |.bptr _ _=>rfl
 |.dict _=>rfl
 |.undef=>rfl
 |.bool _=>rfl
 |.int _ _=>rfl
 |.str _=>rfl
 |.list _=>rfl
 |.full _=>rfl
 |.ip _=>rfl
 |.nilptr=>rfl
 |.nilfunc=>rfl
 |.nilsl=>rfl
 |.abool=>rfl
theorem rens_nil:∀ l:List DV,rens [] l=l
 |[]=>rfl
 |d :: r=>by simp [rens,ren_nil d,rens_nil r]
end
theorem getD_app_l {α:Type} (a b:List α) (d:α) (i:Nat) (h:i < a.length):(a++b).getD i d=a.getD i d:=by simp [List.getD_eq_getElem?_getD,List.getElem?_append,h]
theorem getD_app_r {α:Type} (a b:List α) (d:α) (i:Nat) (h:a.length≤i):(a++b).getD i d=b.getD (i - a.length) d:=by simp [List.getD_eq_getElem?_getD,List.getElem?_append,Nat.not_lt.2 h]
theorem renO_nil (o:DObj):renO [] o=o:=by cases o<;>simp [renO,ren_nil]
theorem renH_nil:∀ h:Heap,renH [] h=h
 |[]=>rfl
 |(n,o) :: r=>by simp [renH,app,renO_nil,renH_nil r]
theorem hereH_of {lk:Nat→Option DObj}:∀ {h:Heap},(∀ n o,(n,o) ∈ h→lk n=some o)→hereH lk [] h
 |[],_=>trivial
 |(n,o) :: r,hh=>⟨by rw [renO_nil];exact hh n o (by simp),hereH_of fun m p hm=>hh m p (by simp [hm])⟩
theorem freeH_of {lk:Nat→Option DObj} {h0:Heap}:∀ {h:Heap},(∀ n o,(n,o) ∈ h→n ∈ h0.map (·.1)∨lk n=none)→freeH lk [] h0 h
 |[],_=>trivial
 |(n,o) :: r,hh=>⟨(hh n o (by simp)).imp (fun h=>any_beq.2 h) id,freeH_of fun m p hm=>hh m p (by simp [hm])⟩
theorem hlook_rev {h:Heap} (hd:(h.map (·.1)).Nodup) (n:Nat):hlook h.reverse n=hlook h n:=by
 cases e:hlook h n with
 |some o =>
  refine hlook_of_mem (h:=h.reverse) (by rw [List.map_reverse];exact nodup_rev hd) (List.mem_reverse.2 (mem_of_hlook e))
 |none =>
  refine hlook_none fun hm=>?_
  obtain ⟨x,hx,e2⟩:=List.mem_map.1 hm
  obtain ⟨k,o⟩:=x
  simp only at e2;subst e2
  rw [hlook_of_mem hd (List.mem_reverse.1 hx)] at e;cases e
theorem hCall_own {P:Program} {G:Nat→Option DV} {f:FuncId} {A Bs:List DV} {hs hs':Heap} {d:DV} {n off len tot sz:Nat} {es:List DV} {fr:Bool} (hc:HCall P G f (A++.list (window es off len) :: Bs) hs d hs')
  (ht:tot=es.length) (hi:instOk [] (A++.list (window es off len) :: Bs) hs hs'=true) (hn:n ∉ hs'.map (·.1)) :
  HCall P G f (A++.own n off len tot :: Bs) ((n,.row sz es fr) :: hs) d ((n,.row sz es true) :: hs'):=by
 refine ⟨hc.enters,fun F m hF hd hr M ρ w vs hG hT hin hrel=>?_⟩
 obtain ⟨i1,i2,i3,i4,i5⟩:=inst_spec hi
 have hnd':(hs'.map (·.1)).Nodup:=by simpa [app] using i2
 have hns:n ∉ hs.map (·.1):=fun h=>hn (i3 n h)
 let H:Heap:=(n,.row sz es fr) :: hs
 have S:Sim (callB w ρ H) 0 M w M ρ [] H ⟨#[],[]⟩ w:={ le:=M.le_refl,tm:=fun i=>.pure (.undef _),mem:=hin.mem,obj:=fun n o h=>(hin.obj n o h).base (fun b c e=>.inr ⟨n,o,c,h,e⟩) (fun h=>Bool.noConfusion h),dis:=hin.dis,below:=Base.touch.refl _ _,hB:=rfl,new:=fun b o v e e0=>(by rw [e] at e0;cases e0),size:=rfl,marks:=⟨fun d hd=>(by simp at hd),.nil,fun _=>rfl⟩,ext:=Ext.refl _ _ _ }
 have hlH:hlook H n=some (.row sz es fr):=by show hlook ((n,_) :: hs) n=_;rw [hlook_cons,if_pos rfl]
 obtain ⟨M1,m1,S1,m2⟩:=S.freeze1 hlH
 have hl1:∀ k,hlook ((n,DObj.row sz es true) :: H) k=if n=k then some (.row sz es true) else hlook hs k:=fun k=>by
  rw [hlook_cons]
  by_cases e:n=k
  ·rw [if_pos e,if_pos e]
  ·rw [if_neg e,if_neg e];show hlook ((n,_) :: hs) k=_;rw [hlook_cons,if_neg e]
 have hh:hereH (hlook ((n,DObj.row sz es true) :: H)) [] hs:=hereH_of fun k o hm=>by
  rw [hl1,if_neg (fun e=>hns (by rw [e];exact List.mem_map.2 ⟨_,hm,rfl⟩))]
  exact hlook_of_mem i1 hm
 have hf:freeH (hlook ((n,DObj.row sz es true) :: H)) [] hs hs':=freeH_of fun k o hm=>by
  by_cases hk:k ∈ hs.map (·.1)
  ·exact .inl hk
  ·refine .inr ?_
   rw [hl1,if_neg (fun e=>hn (by rw [e];exact List.mem_map.2 ⟨_,hm,rfl⟩))]
   exact hlook_none hk
 obtain ⟨r1,r2⟩:=hrel
 have hx1:Ext M ρ H M1 ρ ((n,DObj.row sz es true) :: H):=by
  refine ⟨m1,fun k sz' es' fr' e=>?_,fun k o e hk=>⟨rfl,o,?_,like_refl hk⟩⟩
  ·rw [hlook_cons]
   by_cases e2:n=k
   ·subst e2;rw [hlH] at e;cases e
    exact ⟨sz,es,true,by rw [if_pos rfl],Nat.le_refl _,fun _=>⟨.inl rfl,rfl⟩⟩
   ·exact ⟨sz',es',fr',by rw [if_neg e2];exact e,Nat.le_refl _,fun _=>⟨.inl rfl,rfl⟩⟩
  ·rw [hlook_cons]
   by_cases e2:n=k
   ·subst e2;rw [hlH] at e;cases e;cases hk
   ·rw [if_neg e2];exact e
 have hlen:(A++DV.list (window es off len) :: Bs).length=(A++DV.own n off len tot :: Bs).length:=by simp
 have hargs:RelVs M1 (unLoc [] hs ρ) hs (A++.list (window es off len) :: Bs) vs:=by
  refine ⟨by rw [hlen];exact r1,fun i hlt=>?_⟩
  have h2:=(r2 i (by rw [← hlen];exact hlt)).ext hx1
  by_cases e:i=A.length
  ·subst e
   rw [getD_app_r _ _ _ _ (Nat.le_refl _),Nat.sub_self] at h2 ⊢
   simp only [List.getD_cons_zero] at h2 ⊢
   exact .pure (own_list S1 (by rw [hl1,if_pos rfl]) h2 ht)
  ·have h3:(A++DV.list (window es off len) :: Bs).getD i .undef=(A++DV.own n off len tot :: Bs).getD i .undef:=by
    by_cases hlt2:i < A.length
    ·rw [getD_app_l _ _ _ _ hlt2,getD_app_l _ _ _ _ hlt2]
    ·rw [getD_app_r _ _ _ _ (by omega),getD_app_r _ _ _ _ (by omega)]
     obtain ⟨j,hj⟩:∃ j,i - A.length=j+1:=⟨i - A.length - 1,by omega⟩
     rw [hj];simp
   rw [h3]
   refine unren hi hh _ _ ?_ (by rw [ren_nil];exact h2)
   rw [← h3];exact namesIns_getD i4 i hlt
 have hT1:Tb G w (callB w (unLoc [] hs ρ) hs).wr:=fun w' h'=>hT w' (fun k hk hk2=>h' k hk (fun hk3=>hk2 (by have:=call_wr S1 hh hk3;exact this)))
 refine CallsIn.mono (hc.call F m hF hd hr M1 (unLoc [] hs ρ) w vs (hG.mono m1) hT1 (S1.heapIn hi hh) hargs) (fun e w' hA=>?_)
 obtain ⟨v,M',ρ',rfl,a1,a2,a3,a4,a5,a6⟩:=hA
 obtain ⟨ρ'',S',hv⟩:=S1.afterCall hi hh hf a1 a2 a3 a4 a5 a6
 rw [ren_nil] at hv
 rw [renH_nil] at S' hv
 have hl2:∀ k,hlook ((n,DObj.row sz es true) :: hs') k=hlook (hs'.reverse++(n,DObj.row sz es true) :: H) k:=fun k=>by
  rw [hlook_append,hl1,hlook_cons,hlook_rev hnd']
  by_cases e:n=k
  ·rw [if_pos e,if_pos e,hlook_none (a:=hs') (by rw [← e];exact hn)];rfl
  ·rw [if_neg e,if_neg e]
   cases e2:hlook hs' k with
   |some o=>rfl
   |none =>
    rw [hlook_none (a:=hs) (n:=k) (fun hk=>?_)];rfl
    obtain ⟨x,hx,e3⟩:=List.mem_map.1 (i3 k hk)
    obtain ⟨k',o⟩:=x
    simp only at e3;subst e3
    rw [hlook_of_mem hnd' hx] at e2;cases e2
 refine ⟨v,M',ρ'',rfl,⟨S'.mem,fun k o e=>((S'.obj k o (by rw [← hl2];exact e)).congr hl2).base (fun b c _=>wr_any b) (fun h=>Bool.noConfusion h),fun k k' o p b c b' c' hne e1 e2 e3 e4=>S'.dis k k' o p b c b' c' hne (by rw [← hl2];exact e1) (by rw [← hl2];exact e2) e3 e4⟩,
  S'.ext.trans ⟨M'.le_refl,fun k sz es fr hl=>⟨sz,es,fr,by rw [hl2];exact hl,Nat.le_refl _,fun _=>⟨.inl rfl,rfl⟩⟩,fun k o hl hk=>⟨rfl,o,by rw [hl2];exact hl,like_refl hk⟩⟩,hv.congr hl2,S'.below,S'.new,fun k o b c e1 e2=>loc_wr S' (by rw [← hl2];exact e1) e2⟩
theorem hCall_full {P:Program} {G:Nat→Option DV} {f:FuncId} {ds:List DV} {hs hs':Heap} {d:DV} {n:Nat} {es:List DV} (hc:HCall P G f ds ((n,.box 1 (.list es)) :: hs) d hs'):HCall P G f ds ((n,.box 1 (.full es)) :: hs) d hs':=by
 refine ⟨hc.enters,fun F m hF hd hr M ρ w vs hG hT hin hrel=>?_⟩
 have l1:∀ k,hlook ((n,DObj.box 1 (.list es)) :: hs) k=if n=k then some (.box 1 (.list es)) else hlook hs k:=fun k=>hlook_cons _ _ _ _
 have l2:∀ k,hlook ((n,DObj.box 1 (.full es)) :: hs) k=if n=k then some (.box 1 (.full es)) else hlook hs k:=fun k=>hlook_cons _ _ _ _
 have hx:Ext M ρ ((n,DObj.box 1 (.full es)) :: hs) M ρ ((n,DObj.box 1 (.list es)) :: hs):=by
  refine ⟨M.le_refl,fun k sz' es' fr' e=>?_,fun k o e hk=>?_⟩
  ·rw [l2] at e
   by_cases e2:n=k
   ·rw [if_pos e2] at e;cases e
   ·rw [if_neg e2] at e
    exact ⟨sz',es',fr',by rw [l1,if_neg e2];exact e,Nat.le_refl _,fun _=>⟨.inl rfl,rfl⟩⟩
  ·rw [l2] at e
   by_cases e2:n=k
   ·rw [if_pos e2] at e;cases e
    exact ⟨rfl,.box 1 (.list es),by rw [l1,if_pos e2],rfl⟩
   ·rw [if_neg e2] at e
    exact ⟨rfl,o,by rw [l1,if_neg e2];exact e,like_refl hk⟩
 have hback:∀ k o,hlook ((n,DObj.box 1 (.list es)) :: hs) k=some o→∃ o',hlook ((n,DObj.box 1 (.full es)) :: hs) k=some o':=fun k o e=>by
  rw [l1] at e;rw [l2]
  by_cases e2:n=k
  ·exact ⟨_,by rw [if_pos e2]⟩
  ·rw [if_neg e2] at e;exact ⟨o,by rw [if_neg e2];exact e⟩
 have hwr:∀ b,(callB w ρ ((n,DObj.box 1 (.list es)) :: hs)).wr b→(callB w ρ ((n,DObj.box 1 (.full es)) :: hs)).wr b:=fun b hb=>by
  rcases hb with hb|⟨k,o,c,e1,e2⟩
  ·exact .inl hb
  ·obtain ⟨o',e3⟩:=hback k o e1
   exact .inr ⟨k,o',c,e3,e2⟩
 have hin1:HeapIn M ρ ((n,DObj.box 1 (.list es)) :: hs) w:=by
  refine ⟨hin.mem,fun k o e=>?_,fun k k' o p b c b' c' hne e1 e2 e3 e4=>?_⟩
  ·rw [l1] at e
   by_cases e2:n=k
   ·rw [if_pos e2] at e;cases e;subst e2
    have h:=hin.obj n (.box 1 (.full es)) (by rw [l2,if_pos rfl])
    obtain ⟨b,c,q1,q2,cs,t,q3,q4,q5,q6,q7⟩:=h
    refine ⟨b,c,q1,q2,cs,t,q3,q4,rfl,fun i hi=>?_,q7⟩
    have hi0:i=0:=by omega
    subst hi0
    have h1:RelV M ρ _ (.full es) (cs.getD 0 Go.undef):=q6 0 (by omega)
    have h2:=h1.inv_full
    show RelV M ρ _ (.list es) (cs.getD 0 Go.undef)
    generalize cs.getD 0 Go.undef=v at h2 ⊢
    cases h2 with
    |full _ a' sz b o' g ha hsz hM hr'=>exact .pure (.list es a' _ sz b o' g (Nat.le_refl _) ha hsz hM hr')
   ·rw [if_neg e2] at e
    exact (hin.obj k o (by rw [l2,if_neg e2];exact e)).ext hx rfl
  ·obtain ⟨o',h1⟩:=hback k o e1
   obtain ⟨p',h2⟩:=hback k' p e2
   exact hin.dis k k' o' p' b c b' c' hne h1 h2 e3 e4
 have hT1:Tb G w (callB w ρ ((n,DObj.box 1 (.list es)) :: hs)).wr:=fun w' h'=>hT w' (fun k hk hk2=>h' k hk (fun hk3=>hk2 (hwr k hk3)))
 refine CallsIn.mono (hc.call F m hF hd hr M ρ w vs hG hT1 hin1 ⟨hrel.1,fun i hi=>(hrel.2 i hi).ext hx⟩) (fun e w' hA=>?_)
 obtain ⟨v,M',ρ',rfl,a1,a2,a3,a4,a5,a6⟩:=hA
 exact ⟨v,M',ρ',rfl,a1,hx.trans a2,a3,⟨a4.os,a4.tape,a4.output,a4.size,fun k hk=>a4.block k (fun h=>hk (hwr k h))⟩,fun b o v e e0=>hwr b (a5 b o v e e0),fun k o b c e1 e2=>hwr b (a6 k o b c e1 e2)⟩
end Sh

set_option maxRecDepth 100000
namespace Sh
open Go
def dc15 : DFunc := ⟨13,1,[.tmp 2],.seq (.ops false [⟨some 1,.box 6 (.tmp 0),none,[]⟩,⟨some 2,.mov (.const (.bool false)),none,[]⟩]) (.seq (.ops false [⟨some 3,.faddr 3 1 false (.tmp 1),none,[]⟩,⟨some 4,.load none (.tmp 3),none,[]⟩,⟨some 5,.len (.tmp 4),none,[]⟩,⟨some 6,.bin .leq (.tmp 5) (.const (.int .i64 12)),none,[]⟩,⟨some 7,.mov (.tmp 6),none,[]⟩,⟨some 8,.faddr 3 1 false (.tmp 1),some (7,false),[]⟩,⟨some 9,.load none (.tmp 8),some (7,false),[]⟩,⟨some 10,.len (.tmp 9),some (7,false),[]⟩,⟨some 11,.bin .eql (.tmp 10) (.const (.int .i64 65)),some (7,false),[]⟩,⟨some 12,.pick (.tmp 7) (.const (.bool true)) (.tmp 11),none,[]⟩,⟨some 2,.mov (.tmp 12),none,[]⟩]) .ret)⟩
theorem dh15:cProg Go.Proofs.Tryz.prog ⟨[],[],[]⟩ 15=some dc15:=by kernel_rfl
def dc16 : DFunc := ⟨6,1,[.tmp 2],.seq (.ops false [⟨some 2,.mov (.const (.bool false)),none,[]⟩]) (.seq (.ops false [⟨some 3,.mov (.tmp 0),none,[]⟩,⟨some 4,.len (.tmp 3),none,[]⟩,⟨some 5,.bin .leq (.tmp 4) (.const (.int .i64 12)),none,[]⟩,⟨some 2,.mov (.tmp 5),none,[]⟩]) .ret)⟩
theorem dh16:cProg Go.Proofs.Tryz.prog ⟨[],[],[]⟩ 16=some dc16:=by kernel_rfl
def dc18 : DFunc := ⟨16,2,[.tmp 4,.tmp 5],.seq (.ops false [⟨some 2,.box 6 (.tmp 0),none,[]⟩,⟨some 4,.mov (.const (.slice none 0 0)),none,[]⟩,⟨some 5,.mov (.const (.int .i64 0)),none,[]⟩]) (.seq (.seq (.ops false [⟨some 7,.load (some 6) (.tmp 2),none,[]⟩,⟨some 8,.mov (.tmp 1),none,[]⟩,⟨some 9,.call (.func 90) [.tmp 7,.tmp 8],none,[]⟩,⟨some 6,.mov (.tmp 9),none,[]⟩]) (.seq (.ops false [⟨some 10,.mov (.tmp 6),none,[]⟩,⟨some 11,.bin .neq (.tmp 10) (.const (.int .i64 0)),none,[]⟩]) (.cond (.tmp 11) (.seq (.ops false [⟨some 12,.mov (.tmp 6),none,[]⟩,⟨some 4,.mov (.const (.slice none 0 0)),none,[]⟩,⟨some 5,.mov (.tmp 12),none,[]⟩]) .ret) .skip))) (.seq (.ops false [⟨some 13,.load (some 6) (.tmp 2),none,[]⟩,⟨some 14,.mov (.tmp 1),none,[]⟩,⟨some 15,.call (.func 91) [.tmp 13,.tmp 14],none,[]⟩,⟨some 4,.mov (.tmp 15),none,[]⟩,⟨some 5,.mov (.const (.int .i64 0)),none,[]⟩]) .ret))⟩
theorem dh18:cProg Go.Proofs.Tryz.prog ⟨[],[],[]⟩ 18=some dc18:=by kernel_rfl
def dc21 : DFunc := ⟨16,2,[.tmp 4,.tmp 5],.seq (.ops false [⟨some 2,.box 6 (.tmp 0),none,[]⟩,⟨some 4,.mov (.const (.slice none 0 0)),none,[]⟩,⟨some 5,.mov (.const (.int .i64 0)),none,[]⟩]) (.seq (.seq (.ops false [⟨some 7,.load (some 6) (.tmp 2),none,[]⟩,⟨some 8,.mov (.tmp 1),none,[]⟩,⟨some 9,.call (.func 90) [.tmp 7,.tmp 8],none,[]⟩,⟨some 6,.mov (.tmp 9),none,[]⟩]) (.seq (.ops false [⟨some 10,.mov (.tmp 6),none,[]⟩,⟨some 11,.bin .neq (.tmp 10) (.const (.int .i64 0)),none,[]⟩]) (.cond (.tmp 11) (.seq (.ops false [⟨some 12,.mov (.tmp 6),none,[]⟩,⟨some 4,.mov (.const (.slice none 0 0)),none,[]⟩,⟨some 5,.mov (.tmp 12),none,[]⟩]) .ret) .skip))) (.seq (.ops false [⟨some 13,.load (some 6) (.tmp 2),none,[]⟩,⟨some 14,.mov (.tmp 1),none,[]⟩,⟨some 15,.call (.func 92) [.tmp 13,.tmp 14],none,[]⟩,⟨some 4,.mov (.tmp 15),none,[]⟩,⟨some 5,.mov (.const (.int .i64 0)),none,[]⟩]) .ret))⟩
theorem dh21:cProg Go.Proofs.Tryz.prog ⟨[],[],[]⟩ 21=some dc21:=by kernel_rfl
def dc22 : DFunc := ⟨26,2,[.tmp 4,.tmp 5],.seq (.ops false [⟨some 2,.box 6 (.tmp 0),none,[]⟩,⟨some 4,.mov (.const (.int .i64 0)),none,[]⟩,⟨some 5,.mov (.const (.int .i64 0)),none,[]⟩]) (.seq (.seq (.ops false [⟨some 7,.load (some 6) (.tmp 2),none,[]⟩,⟨some 8,.mov (.tmp 1),none,[]⟩,⟨some 9,.call (.func 90) [.tmp 7,.tmp 8],none,[]⟩,⟨some 6,.mov (.tmp 9),none,[]⟩]) (.seq (.ops false [⟨some 10,.mov (.tmp 6),none,[]⟩,⟨some 11,.bin .neq (.tmp 10) (.const (.int .i64 0)),none,[]⟩]) (.cond (.tmp 11) (.seq (.ops false [⟨some 12,.mov (.tmp 6),none,[]⟩,⟨some 4,.mov (.const (.int .i64 0)),none,[]⟩,⟨some 5,.mov (.tmp 12),none,[]⟩]) .ret) .skip))) (.seq (.ops true [⟨some 13,.faddr 4 1 false (.tmp 2),none,[]⟩,⟨some 14,.load none (.tmp 13),none,[0]⟩,⟨some 15,.load (some 6) (.tmp 2),none,[]⟩,⟨some 16,.mov (.tmp 1),none,[]⟩,⟨some 17,.call (.func 92) [.tmp 15,.tmp 16],none,[2,3]⟩,⟨some 18,.call (.func 93) [.tmp 17],none,[4,2,3]⟩,⟨some 19,.bin .mul (.tmp 14) (.tmp 18),none,[1,0,5,4,2,3]⟩,⟨some 20,.faddr 5 1 false (.tmp 2),none,[]⟩,⟨some 21,.load none (.tmp 20),none,[7]⟩,⟨some 22,.mov (.tmp 1),none,[]⟩,⟨some 23,.len (.tmp 22),none,[9]⟩,⟨some 24,.bin .mul (.tmp 21) (.tmp 23),none,[8,7,10,9]⟩,⟨some 25,.bin .sub (.tmp 19) (.tmp 24),none,[6,1,0,5,4,2,3,11,8,7,10,9]⟩,⟨some 4,.mov (.tmp 25),none,[12,6,1,0,5,4,2,3,11,8,7,10,9]⟩,⟨some 5,.mov (.const (.int .i64 0)),none,[13,12,6,1,0,5,4,2,3,11,8,7,10,9]⟩]) .ret))⟩
theorem dh22:cProg Go.Proofs.Tryz.prog ⟨[],[],[]⟩ 22=some dc22:=by kernel_rfl
def dc28 : DFunc := ⟨16,1,[.tmp 2],.seq (.ops false [⟨some 2,.mov (.const (.int .i64 0)),none,[]⟩]) (.seq (.ops false [⟨some 3,.mov (.tmp 0),none,[]⟩,⟨some 4,.len (.tmp 3),none,[]⟩,⟨some 5,.bin .eql (.tmp 4) (.const (.int .i64 0)),none,[]⟩,⟨some 6,.call (.func 99) [.tmp 5,.const (.int .i64 12)],none,[]⟩,⟨some 7,.mov (.tmp 0),none,[]⟩,⟨some 8,.len (.tmp 7),none,[]⟩,⟨some 9,.bin .gtr (.tmp 8) (.const (.int .i64 64)),none,[]⟩,⟨some 10,.call (.func 99) [.tmp 9,.const (.int .i64 5)],none,[]⟩,⟨some 11,.mov (.tmp 0),none,[]⟩,⟨some 12,.call (.func 100) [.tmp 11,.func 101],none,[]⟩,⟨some 13,.call (.func 98) [.tmp 12],none,[]⟩,⟨some 14,.lit true 1 3 (.int .i64 0) [(0,(.tmp 6)),(1,(.tmp 10)),(2,(.tmp 13))],none,[]⟩,⟨some 15,.call (.func 98) [.tmp 14],none,[]⟩,⟨some 2,.mov (.tmp 15),none,[]⟩]) .ret)⟩
theorem dh28:cProg Go.Proofs.Tryz.prog ⟨[],[],[14]⟩ 28=some dc28:=by kernel_rfl
def dc31 : DFunc := ⟨23,1,[.tmp 2],.seq (.ops false [⟨some 1,.box 6 (.tmp 0),none,[]⟩,⟨some 2,.mov (.const (.int .i64 0)),none,[]⟩]) (.seq (.ops true [⟨some 3,.faddr 0 1 false (.tmp 1),none,[]⟩,⟨some 4,.load none (.tmp 3),none,[0]⟩,⟨some 5,.call (.func 102) [.tmp 4,.const (.int .i64 1),.const (.int .i64 1000)],none,[1,0]⟩,⟨some 6,.faddr 1 1 false (.tmp 1),none,[]⟩,⟨some 7,.load none (.tmp 6),none,[3]⟩,⟨some 8,.call (.func 102) [.tmp 7,.const (.int .i64 0),.const (.int .i64 1000)],none,[4,3,2,1,0]⟩,⟨some 9,.faddr 2 1 false (.tmp 1),none,[]⟩,⟨some 10,.load none (.tmp 9),none,[6]⟩,⟨some 11,.call (.func 102) [.tmp 10,.const (.int .i64 0),.const (.int .i64 1000)],none,[7,6,5,4,3,2,1,0]⟩,⟨some 12,.faddr 3 1 false (.tmp 1),none,[]⟩,⟨some 13,.load none (.tmp 12),none,[9]⟩,⟨some 14,.call (.func 28) [.tmp 13],none,[10,9,8,7,6,5,4,3,2,1,0]⟩,⟨some 15,.faddr 4 1 false (.tmp 1),none,[]⟩,⟨some 16,.load none (.tmp 15),none,[12]⟩,⟨some 17,.call (.func 102) [.tmp 16,.const (.int .i64 0),.const (.int .i64 1000)],none,[13,12,11,10,9,8,7,6,5,4,3,2,1,0]⟩,⟨some 18,.faddr 5 1 false (.tmp 1),none,[]⟩,⟨some 19,.load none (.tmp 18),none,[15]⟩,⟨some 20,.call (.func 102) [.tmp 19,.const (.int .i64 0),.const (.int .i64 1000000)],none,[16,15,14,13,12,11,10,9,8,7,6,5,4,3,2,1,0]⟩,⟨some 21,.lit true 1 6 (.int .i64 0) [(0,(.tmp 5)),(1,(.tmp 8)),(2,(.tmp 11)),(3,(.tmp 14)),(4,(.tmp 17)),(5,(.tmp 20))],none,[2,1,0,5,4,3,8,7,6,11,10,9,14,13,12,17,16,15]⟩,⟨some 22,.call (.func 98) [.tmp 21],none,[18,2,1,0,5,4,3,8,7,6,11,10,9,14,13,12,17,16,15]⟩,⟨some 2,.mov (.tmp 22),none,[19,18,2,1,0,5,4,3,8,7,6,11,10,9,14,13,12,17,16,15]⟩]) .ret)⟩
theorem dh31:cProg Go.Proofs.Tryz.prog ⟨[],[],[21]⟩ 31=some dc31:=by kernel_rfl
def db32_0 : DC := (.seq (.seq (.ops false [⟨some 11,.mov (.tmp 5),none,[]⟩,⟨some 12,.mov (.tmp 0),none,[]⟩,⟨some 13,.len (.tmp 12),none,[]⟩,⟨some 14,.bin .lss (.tmp 11) (.tmp 13),none,[]⟩]) (.cond (.tmp 14) .skip (.exit 0))) (.seq (.block 1 none (.seq (.ops true [⟨some 17,.mov (.tmp 0),none,[]⟩,⟨some 18,.mov (.tmp 5),none,[]⟩,⟨some 19,.iaddr 1 (.tmp 17) (.tmp 18),none,[0,1]⟩,⟨some 20,.load none (.tmp 19),none,[2,0,1]⟩,⟨some 21,.mov (.tmp 1),none,[]⟩,⟨some 22,.mov (.tmp 5),none,[]⟩,⟨some 23,.iaddr 1 (.tmp 21) (.tmp 22),none,[4,5]⟩,⟨some 24,.load none (.tmp 23),none,[6,4,5]⟩,⟨some 25,.bin .neq (.tmp 20) (.tmp 24),none,[3,2,0,1,7,6,4,5]⟩]) (.cond (.tmp 25) (.seq (.ops false [⟨some 4,.mov (.const (.bool false)),none,[]⟩]) .ret) .skip))) (.ops false [⟨some 15,.mov (.tmp 5),none,[]⟩,⟨some 16,.bin .add (.tmp 15) (.const (.int .i64 1)),none,[]⟩,⟨some 5,.mov (.tmp 16),none,[]⟩])))
def dk32_0 : Keep := ⟨[],[0,1,5],[]⟩
def dc32 : DFunc := ⟨26,2,[.tmp 4],.seq (.ops false [⟨some 4,.mov (.const (.bool false)),none,[]⟩]) (.seq (.seq (.ops false [⟨some 6,.mov (.tmp 0),none,[]⟩,⟨some 7,.len (.tmp 6),none,[]⟩,⟨some 8,.mov (.tmp 1),none,[]⟩,⟨some 9,.len (.tmp 8),none,[]⟩,⟨some 10,.bin .neq (.tmp 7) (.tmp 9),none,[]⟩]) (.cond (.tmp 10) (.seq (.ops false [⟨some 4,.mov (.const (.bool false)),none,[]⟩]) .ret) .skip)) (.seq (.seq (.ops false [⟨some 5,.mov (.const (.int .i64 0)),none,[]⟩]) (.block 0 (some ⟨[],[],[]⟩) (.loop dk32_0 db32_0))) (.seq (.ops false [⟨some 4,.mov (.const (.bool true)),none,[]⟩]) .ret)))⟩
theorem dh32:cProg Go.Proofs.Tryz.prog ⟨[(0,⟨[],[0,1,5],[]⟩)],[(0,⟨[],[],[]⟩)],[]⟩ 32=some dc32:=by kernel_rfl
def dc33 : DFunc := ⟨23,2,[.tmp 4,.tmp 5],.seq (.ops false [⟨some 2,.box 6 (.tmp 0),none,[]⟩,⟨some 4,.mov (.const (.int .i64 0)),none,[]⟩,⟨some 5,.mov (.const (.int .i64 0)),none,[]⟩]) (.seq (.seq (.ops false [⟨some 7,.load (some 6) (.tmp 2),none,[]⟩,⟨some 8,.mov (.tmp 1),none,[]⟩,⟨some 9,.lit true 1 1 (.int .i64 0) [(0,(.tmp 8))],none,[]⟩,⟨some 10,.call (.func 90) [.tmp 7,.tmp 9],none,[]⟩,⟨some 6,.mov (.tmp 10),none,[]⟩]) (.seq (.ops false [⟨some 11,.mov (.tmp 6),none,[]⟩,⟨some 12,.bin .neq (.tmp 11) (.const (.int .i64 0)),none,[]⟩]) (.cond (.tmp 12) (.seq (.ops false [⟨some 13,.mov (.tmp 6),none,[]⟩,⟨some 4,.mov (.const (.int .i64 0)),none,[]⟩,⟨some 5,.mov (.tmp 13),none,[]⟩]) .ret) .skip))) (.seq (.ops true [⟨some 14,.load (some 6) (.tmp 2),none,[]⟩,⟨some 15,.mov (.tmp 1),none,[]⟩,⟨some 16,.lit true 1 1 (.int .i64 0) [(0,(.tmp 15))],none,[1]⟩,⟨some 17,.call (.func 92) [.tmp 14,.tmp 16],none,[0,2,1]⟩,⟨some 18,.call (.func 93) [.tmp 17],none,[3,0,2,1]⟩,⟨some 19,.load (some 6) (.tmp 2),none,[]⟩,⟨some 20,.call (.func 92) [.tmp 19,.const (.slice none 0 0)],none,[5,4,3,0,2,1]⟩,⟨some 21,.call (.func 93) [.tmp 20],none,[6,5,4,3,0,2,1]⟩,⟨some 22,.bin .sub (.tmp 18) (.tmp 21),none,[4,3,0,2,1,7,6,5]⟩,⟨some 4,.mov (.tmp 22),none,[8,4,3,0,2,1,7,6,5]⟩,⟨some 5,.mov (.const (.int .i64 0)),none,[9,8,4,3,0,2,1,7,6,5]⟩]) .ret))⟩
theorem dh33:cProg Go.Proofs.Tryz.prog ⟨[],[],[9,16]⟩ 33=some dc33:=by kernel_rfl
def db34_0 : DC := (.seq (.ops false [⟨some 23,.bin .lss (.tmp 22) (.tmp 21),none,[]⟩]) (.seq (.cond (.tmp 23) .skip (.exit 0)) (.seq (.block 1 none (.seq (.ops false [⟨some 24,.mov (.tmp 22),none,[]⟩,⟨some 9,.mov (.tmp 24),none,[]⟩]) (.seq (.ops true [⟨some 25,.load (some 6) (.tmp 2),none,[]⟩,⟨some 26,.mov (.tmp 1),none,[]⟩,⟨some 27,.call (.func 104) [.tmp 26],none,[1]⟩,⟨some 28,.mov (.tmp 9),none,[]⟩,⟨some 29,.mov (.tmp 9),none,[]⟩,⟨some 30,.bin .add (.tmp 29) (.const (.int .i64 1)),none,[4]⟩,⟨some 31,.call (.func 103) [.tmp 27,.tmp 28,.tmp 30],none,[2,1,3,5,4]⟩,⟨some 32,.call (.func 92) [.tmp 25,.tmp 31],none,[0,6,2,1,3,5,4]⟩,⟨some 33,.call (.func 93) [.tmp 32],none,[7,0,6,2,1,3,5,4]⟩,⟨some 34,.mov (.tmp 7),none,[]⟩,⟨some 35,.bin .eql (.tmp 33) (.tmp 34),none,[8,7,0,6,2,1,3,5,4,9]⟩]) (.cond (.tmp 35) (.ops false [⟨some 36,.mov (.tmp 8),none,[]⟩,⟨some 37,.mov (.tmp 9),none,[]⟩,⟨some 38,.lit true 1 1 (.int .i64 0) [(0,(.tmp 37))],none,[]⟩,⟨some 39,.append false 1 (.tmp 36) (.tmp 38),none,[]⟩,⟨some 8,.mov (.tmp 39),none,[]⟩]) .skip)))) (.ops false [⟨some 40,.bin .add (.tmp 22) (.const (.int .i64 1)),none,[]⟩,⟨some 22,.mov (.tmp 40),none,[]⟩]))))
def dk34_0 : Keep := ⟨[(8,1)],[1,2,7,8,21,22],[2,8]⟩
def dc34 : DFunc := ⟨42,2,[.tmp 4,.tmp 5],.seq (.ops false [⟨some 2,.box 6 (.tmp 0),none,[]⟩,⟨some 4,.mov (.const (.slice none 0 0)),none,[]⟩,⟨some 5,.mov (.const (.int .i64 0)),none,[]⟩]) (.seq (.seq (.ops false [⟨some 10,.load (some 6) (.tmp 2),none,[]⟩,⟨some 11,.mov (.tmp 1),none,[]⟩,⟨some 12,.call (.func 90) [.tmp 10,.tmp 11],none,[]⟩,⟨some 6,.mov (.tmp 12),none,[]⟩]) (.seq (.ops false [⟨some 13,.mov (.tmp 6),none,[]⟩,⟨some 14,.bin .neq (.tmp 13) (.const (.int .i64 0)),none,[]⟩]) (.cond (.tmp 14) (.seq (.ops false [⟨some 15,.mov (.tmp 6),none,[]⟩,⟨some 4,.mov (.const (.slice none 0 0)),none,[]⟩,⟨some 5,.mov (.tmp 15),none,[]⟩]) .ret) .skip))) (.seq (.ops false [⟨some 16,.load (some 6) (.tmp 2),none,[]⟩,⟨some 17,.mov (.tmp 1),none,[]⟩,⟨some 18,.call (.func 92) [.tmp 16,.tmp 17],none,[]⟩,⟨some 19,.call (.func 93) [.tmp 18],none,[]⟩,⟨some 7,.mov (.tmp 19),none,[]⟩]) (.seq (.ops false [⟨some 8,.mov (.const (.slice none 0 0)),none,[]⟩]) (.seq (.seq (.ops false [⟨some 20,.mov (.tmp 1),none,[]⟩,⟨some 21,.len (.tmp 20),none,[]⟩,⟨some 22,.mov (.const (.int .i64 0)),none,[]⟩]) (.block 0 (some ⟨[],[8],[2,8]⟩) (.loop dk34_0 db34_0))) (.seq (.ops false [⟨some 41,.mov (.tmp 8),none,[]⟩,⟨some 4,.mov (.tmp 41),none,[]⟩,⟨some 5,.mov (.const (.int .i64 0)),none,[]⟩]) .ret)))))⟩
theorem dh34:cProg Go.Proofs.Tryz.prog ⟨[(0,⟨[(8,1)],[1,2,7,8,21,22],[2,8]⟩)],[(0,⟨[],[8],[2,8]⟩)],[38]⟩ 34=some dc34:=by kernel_rfl
def dc56 : DFunc := ⟨14,1,[.tmp 2],.seq (.ops false [⟨some 1,.box 4 (.tmp 0),none,[]⟩,⟨some 2,.mov (.const (.int .i64 0)),none,[]⟩]) (.seq (.ops true [⟨some 3,.faddr 0 2 true (.tmp 1),none,[]⟩,⟨some 4,.load (some 2) (.tmp 3),none,[0]⟩,⟨some 5,.call (.func 125) [.tmp 4],none,[1,0]⟩,⟨some 6,.faddr 2 1 false (.tmp 1),none,[]⟩,⟨some 7,.load none (.tmp 6),none,[3]⟩,⟨some 8,.call (.func 102) [.tmp 7,.const (.int .i64 0),.const (.int .i64 10000)],none,[4,3,2,1,0]⟩,⟨some 9,.faddr 3 1 false (.tmp 1),none,[]⟩,⟨some 10,.load none (.tmp 9),none,[6]⟩,⟨some 11,.call (.func 126) [.tmp 10],none,[7,6,5,4,3,2,1,0]⟩,⟨some 12,.lit true 1 3 (.int .i64 0) [(0,(.tmp 5)),(1,(.tmp 8)),(2,(.tmp 11))],none,[2,1,0,5,4,3,8,7,6]⟩,⟨some 13,.call (.func 98) [.tmp 12],none,[9,2,1,0,5,4,3,8,7,6]⟩,⟨some 2,.mov (.tmp 13),none,[10,9,2,1,0,5,4,3,8,7,6]⟩]) .ret)⟩
theorem dh56:cProg Go.Proofs.Tryz.prog ⟨[],[],[12]⟩ 56=some dc56:=by kernel_rfl
def db71_0 : DC := (.seq (.ops false [⟨some 14,.bin .lss (.tmp 13) (.tmp 12),none,[]⟩]) (.seq (.cond (.tmp 14) .skip (.exit 0)) (.seq (.block 1 none (.seq (.ops false [⟨some 15,.iaddr 3 (.tmp 11) (.tmp 13),none,[]⟩,⟨some 16,.load (some 3) (.tmp 15),none,[]⟩,⟨some 5,.alloc (.agg [.str [],.int .i64 0,.int .i64 0]) 3,none,[]⟩,⟨none,.store 3 (.tmp 5) (.tmp 16),none,[]⟩]) (.seq (.seq (.ops true [⟨some 17,.faddr 0 1 false (.tmp 5),none,[]⟩,⟨some 18,.load none (.tmp 17),none,[0]⟩,⟨some 19,.call (.func 124) [.tmp 18],none,[1,0]⟩,⟨some 20,.un .not (.tmp 19),none,[2,1,0]⟩,⟨some 21,.call (.func 99) [.tmp 20,.const (.int .i64 8)],none,[3,2,1,0]⟩,⟨some 22,.mov (.tmp 3),none,[]⟩,⟨some 23,.faddr 0 1 false (.tmp 5),none,[]⟩,⟨some 24,.load none (.tmp 23),none,[6]⟩,⟨some 25,.lookup 2 [] false (.bool false) (.tmp 22) (.tmp 24),none,[5,7,6]⟩,⟨some 26,.call (.func 99) [.tmp 25,.const (.int .i64 9)],none,[8,5,7,6,4,3,2,1,0]⟩,⟨some 27,.faddr 1 1 false (.tmp 5),none,[]⟩,⟨some 28,.load none (.tmp 27),none,[10]⟩,⟨some 29,.call (.func 134) [.tmp 28],none,[11,10,9,8,5,7,6,4,3,2,1,0]⟩,⟨some 30,.faddr 2 1 false (.tmp 5),none,[]⟩,⟨some 31,.load none (.tmp 30),none,[13]⟩,⟨some 32,.call (.func 134) [.tmp 31],none,[14,13,12,11,10,9,8,5,7,6,4,3,2,1,0]⟩,⟨some 33,.lit true 1 4 (.int .i64 0) [(0,(.tmp 21)),(1,(.tmp 26)),(2,(.tmp 29)),(3,(.tmp 32))],none,[4,3,2,1,0,9,8,5,7,6,12,11,10,15,14,13]⟩,⟨some 34,.call (.func 98) [.tmp 33],none,[16,4,3,2,1,0,9,8,5,7,6,12,11,10,15,14,13]⟩,⟨some 6,.mov (.tmp 34),none,[17,16,4,3,2,1,0,9,8,5,7,6,12,11,10,15,14,13]⟩]) (.seq (.ops false [⟨some 35,.mov (.tmp 6),none,[]⟩,⟨some 36,.bin .neq (.tmp 35) (.const (.int .i64 0)),none,[]⟩]) (.cond (.tmp 36) (.seq (.ops false [⟨some 37,.mov (.tmp 6),none,[]⟩,⟨some 2,.mov (.tmp 37),none,[]⟩]) .ret) .skip))) (.ops false [⟨some 38,.mov (.tmp 3),none,[]⟩,⟨some 39,.faddr 0 1 false (.tmp 5),none,[]⟩,⟨some 40,.load none (.tmp 39),none,[]⟩,⟨none,.mapset 2 [] (.tmp 38) (.tmp 40) (.const (.bool true)),none,[]⟩])))) (.ops false [⟨some 41,.bin .add (.tmp 13) (.const (.int .i64 1)),none,[]⟩,⟨some 13,.mov (.tmp 41),none,[]⟩]))))
def dk71_0 : Keep := ⟨[],[3,11,12,13],[10]⟩
def dc71 : DFunc := ⟨42,1,[.tmp 2],.seq (.ops false [⟨some 2,.mov (.const (.int .i64 0)),none,[]⟩]) (.seq (.seq (.ops false [⟨some 7,.mov (.tmp 0),none,[]⟩,⟨some 8,.len (.tmp 7),none,[]⟩,⟨some 9,.bin .gtr (.tmp 8) (.const (.int .i64 16)),none,[]⟩]) (.cond (.tmp 9) (.seq (.ops false [⟨some 2,.mov (.const (.int .i64 5)),none,[]⟩]) .ret) .skip)) (.seq (.ops false [⟨some 10,.makemap,none,[]⟩,⟨some 3,.mov (.tmp 10),none,[]⟩]) (.seq (.seq (.ops false [⟨some 11,.mov (.tmp 0),none,[]⟩,⟨some 12,.len (.tmp 11),none,[]⟩,⟨some 13,.mov (.const (.int .i64 0)),none,[]⟩]) (.block 0 (some ⟨[],[],[10]⟩) (.loop dk71_0 db71_0))) (.seq (.ops false [⟨some 2,.mov (.const (.int .i64 0)),none,[]⟩]) .ret))))⟩
theorem dh71:cProg Go.Proofs.Tryz.prog ⟨[(0,⟨[],[3,11,12,13],[10]⟩)],[(0,⟨[],[],[10]⟩)],[33]⟩ 71=some dc71:=by kernel_rfl
def db72_0 : DC := (.seq (.seq (.ops false [⟨some 11,.mov (.tmp 5),none,[]⟩,⟨some 12,.mov (.tmp 0),none,[]⟩,⟨some 13,.len (.tmp 12),none,[]⟩,⟨some 14,.bin .lss (.tmp 11) (.tmp 13),none,[]⟩]) (.cond (.tmp 14) .skip (.exit 0))) (.seq (.block 1 none (.seq (.ops true [⟨some 17,.mov (.tmp 0),none,[]⟩,⟨some 18,.mov (.tmp 5),none,[]⟩,⟨some 19,.iaddr 3 (.tmp 17) (.tmp 18),none,[0,1]⟩,⟨some 20,.load (some 3) (.tmp 19),none,[2,0,1]⟩,⟨some 21,.mov (.tmp 1),none,[]⟩,⟨some 22,.mov (.tmp 5),none,[]⟩,⟨some 23,.iaddr 3 (.tmp 21) (.tmp 22),none,[4,5]⟩,⟨some 24,.load (some 3) (.tmp 23),none,[6,4,5]⟩,⟨some 25,.eqA true [2,1,1] (.tmp 20) (.tmp 24),none,[3,2,0,1,7,6,4,5]⟩]) (.cond (.tmp 25) (.seq (.ops false [⟨some 4,.mov (.const (.bool false)),none,[]⟩]) .ret) .skip))) (.ops false [⟨some 15,.mov (.tmp 5),none,[]⟩,⟨some 16,.bin .add (.tmp 15) (.const (.int .i64 1)),none,[]⟩,⟨some 5,.mov (.tmp 16),none,[]⟩])))
def dk72_0 : Keep := ⟨[],[0,1,5],[]⟩
def dc72 : DFunc := ⟨26,2,[.tmp 4],.seq (.ops false [⟨some 4,.mov (.const (.bool false)),none,[]⟩]) (.seq (.seq (.ops false [⟨some 6,.mov (.tmp 0),none,[]⟩,⟨some 7,.len (.tmp 6),none,[]⟩,⟨some 8,.mov (.tmp 1),none,[]⟩,⟨some 9,.len (.tmp 8),none,[]⟩,⟨some 10,.bin .neq (.tmp 7) (.tmp 9),none,[]⟩]) (.cond (.tmp 10) (.seq (.ops false [⟨some 4,.mov (.const (.bool false)),none,[]⟩]) .ret) .skip)) (.seq (.seq (.ops false [⟨some 5,.mov (.const (.int .i64 0)),none,[]⟩]) (.block 0 (some ⟨[],[],[]⟩) (.loop dk72_0 db72_0))) (.seq (.ops false [⟨some 4,.mov (.const (.bool true)),none,[]⟩]) .ret)))⟩
theorem dh72:cProg Go.Proofs.Tryz.prog ⟨[(0,⟨[],[0,1,5],[]⟩)],[(0,⟨[],[],[]⟩)],[]⟩ 72=some dc72:=by kernel_rfl
def db90_0 : DC := (.seq (.ops false [⟨some 18,.bin .lss (.tmp 17) (.tmp 16),none,[]⟩]) (.seq (.cond (.tmp 18) .skip (.exit 0)) (.seq (.block 1 none (.seq (.ops false [⟨some 19,.iaddr 1 (.tmp 15) (.tmp 17),none,[]⟩,⟨some 20,.load none (.tmp 19),none,[]⟩,⟨some 8,.mov (.tmp 20),none,[]⟩]) (.seq (.seq (.ops false [⟨some 21,.mov (.tmp 8),none,[]⟩,⟨some 22,.bin .lss (.tmp 21) (.const (.int .i64 0)),none,[]⟩,⟨some 23,.mov (.tmp 22),none,[]⟩,⟨some 24,.mov (.tmp 8),some (23,false),[]⟩,⟨some 25,.faddr 3 1 false (.tmp 2),some (23,false),[]⟩,⟨some 26,.load none (.tmp 25),some (23,false),[]⟩,⟨some 27,.len (.tmp 26),some (23,false),[]⟩,⟨some 28,.bin .geq (.tmp 24) (.tmp 27),some (23,false),[]⟩,⟨some 29,.pick (.tmp 23) (.const (.bool true)) (.tmp 28),none,[]⟩,⟨some 30,.call (.func 99) [.tmp 29,.const (.int .i64 10)],none,[]⟩,⟨some 31,.mov (.tmp 8),none,[]⟩,⟨some 32,.mov (.tmp 6),none,[]⟩,⟨some 33,.bin .leq (.tmp 31) (.tmp 32),none,[]⟩,⟨some 34,.call (.func 99) [.tmp 33,.const (.int .i64 11)],none,[]⟩,⟨some 35,.lit true 1 2 (.int .i64 0) [(0,(.tmp 30)),(1,(.tmp 34))],none,[]⟩,⟨some 36,.call (.func 98) [.tmp 35],none,[]⟩,⟨some 9,.mov (.tmp 36),none,[]⟩]) (.seq (.ops false [⟨some 37,.mov (.tmp 9),none,[]⟩,⟨some 38,.bin .neq (.tmp 37) (.const (.int .i64 0)),none,[]⟩]) (.cond (.tmp 38) (.seq (.ops false [⟨some 39,.mov (.tmp 9),none,[]⟩,⟨some 4,.mov (.tmp 39),none,[]⟩]) .ret) .skip))) (.ops false [⟨some 40,.mov (.tmp 8),none,[]⟩,⟨some 6,.mov (.tmp 40),none,[]⟩])))) (.ops false [⟨some 41,.bin .add (.tmp 17) (.const (.int .i64 1)),none,[]⟩,⟨some 17,.mov (.tmp 41),none,[]⟩]))))
def dk90_0 : Keep := ⟨[],[2,6,15,16,17],[2]⟩
def dc90 : DFunc := ⟨42,2,[.tmp 4],.seq (.ops false [⟨some 2,.box 6 (.tmp 0),none,[]⟩,⟨some 4,.mov (.const (.int .i64 0)),none,[]⟩]) (.seq (.seq (.ops false [⟨some 10,.load (some 6) (.tmp 2),none,[]⟩,⟨some 11,.call (.func 31) [.tmp 10],none,[]⟩,⟨some 5,.mov (.tmp 11),none,[]⟩]) (.seq (.ops false [⟨some 12,.mov (.tmp 5),none,[]⟩,⟨some 13,.bin .neq (.tmp 12) (.const (.int .i64 0)),none,[]⟩]) (.cond (.tmp 13) (.seq (.ops false [⟨some 14,.mov (.tmp 5),none,[]⟩,⟨some 4,.mov (.tmp 14),none,[]⟩]) .ret) .skip))) (.seq (.ops false [⟨some 6,.mov (.const (.int .i64 (-1))),none,[]⟩]) (.seq (.seq (.ops false [⟨some 15,.mov (.tmp 1),none,[]⟩,⟨some 16,.len (.tmp 15),none,[]⟩,⟨some 17,.mov (.const (.int .i64 0)),none,[]⟩]) (.block 0 (some ⟨[],[],[2]⟩) (.loop dk90_0 db90_0))) (.seq (.ops false [⟨some 4,.mov (.const (.int .i64 0)),none,[]⟩]) .ret))))⟩
theorem dh90:cProg Go.Proofs.Tryz.prog ⟨[(0,⟨[],[2,6,15,16,17],[2]⟩)],[(0,⟨[],[],[2]⟩)],[35]⟩ 90=some dc90:=by kernel_rfl
def db91_0 : DC := (.seq (.ops false [⟨some 16,.bin .lss (.tmp 15) (.tmp 14),none,[]⟩]) (.seq (.cond (.tmp 16) .skip (.exit 0)) (.seq (.block 1 none (.seq (.ops false [⟨some 17,.mov (.tmp 15),none,[]⟩,⟨some 18,.iaddr 3 (.tmp 13) (.tmp 15),none,[]⟩,⟨some 19,.load (some 3) (.tmp 18),none,[]⟩,⟨some 7,.alloc (.agg [.int .i64 0,.int .i64 0,.int .i64 0]) 3,none,[]⟩,⟨some 6,.mov (.tmp 17),none,[]⟩,⟨none,.store 3 (.tmp 7) (.tmp 19),none,[]⟩]) (.seq (.seq (.ops false [⟨some 20,.mov (.tmp 1),none,[]⟩,⟨some 21,.mov (.tmp 6),none,[]⟩,⟨some 22,.call (.func 145) [.tmp 20,.tmp 21],none,[]⟩]) (.cond (.tmp 22) (.ops false [⟨some 23,.mov (.tmp 5),none,[]⟩,⟨some 24,.mov (.tmp 6),none,[]⟩,⟨some 25,.iaddr 1 (.tmp 23) (.tmp 24),none,[]⟩,⟨none,.store 1 (.tmp 25) (.const (.int .i64 0)),none,[]⟩]) .skip)) (.ops true [⟨some 26,.mov (.tmp 5),none,[]⟩,⟨some 27,.load (some 6) (.tmp 2),none,[]⟩,⟨some 28,.load (some 3) (.tmp 7),none,[]⟩,⟨some 29,.mov (.tmp 5),none,[]⟩,⟨some 30,.mov (.tmp 6),none,[]⟩,⟨some 31,.iaddr 1 (.tmp 29) (.tmp 30),none,[3,4]⟩,⟨some 32,.load none (.tmp 31),none,[5,3,4]⟩,⟨some 33,.call (.func 146) [.tmp 27,.tmp 28,.tmp 32],none,[1,2,6,5,3,4]⟩,⟨some 34,.lit true 1 1 (.int .i64 0) [(0,(.tmp 33))],none,[7,1,2,6,5,3,4]⟩,⟨some 35,.append false 1 (.tmp 26) (.tmp 34),none,[0,8,7,1,2,6,5,3,4]⟩,⟨some 5,.mov (.tmp 35),none,[9,0,8,7,1,2,6,5,3,4]⟩])))) (.ops false [⟨some 36,.bin .add (.tmp 15) (.const (.int .i64 1)),none,[]⟩,⟨some 15,.mov (.tmp 36),none,[]⟩]))))
def dk91_0 : Keep := ⟨[(5,1)],[1,2,5,13,14,15],[2,5,11,39]⟩
def dc91 : DFunc := ⟨44,2,[.tmp 4],.seq (.ops false [⟨some 2,.box 6 (.tmp 0),none,[]⟩,⟨some 4,.mov (.const (.slice none 0 0)),none,[]⟩]) (.seq (.ops false [⟨some 9,.faddr 2 1 false (.tmp 2),none,[]⟩,⟨some 10,.load none (.tmp 9),none,[]⟩,⟨some 11,.lit false 1 1 (.int .i64 0) [(0,(.tmp 10))],none,[]⟩,⟨some 5,.mov (.tmp 11),none,[]⟩]) (.seq (.seq (.ops false [⟨some 12,.faddr 3 1 false (.tmp 2),none,[]⟩,⟨some 13,.load none (.tmp 12),none,[]⟩,⟨some 14,.len (.tmp 13),none,[]⟩,⟨some 15,.mov (.const (.int .i64 0)),none,[]⟩]) (.block 0 (some ⟨[],[5],[2,5,11,39]⟩) (.loop dk91_0 db91_0))) (.seq (.ops false [⟨some 37,.mov (.tmp 5),none,[]⟩,⟨some 38,.len (.tmp 37),none,[]⟩,⟨some 39,.mkslice 1 (.int .i64 0) (.tmp 38) (.tmp 38),none,[]⟩,⟨some 8,.mov (.tmp 39),none,[]⟩]) (.seq (.ops false [⟨some 40,.mov (.tmp 8),none,[]⟩,⟨some 41,.mov (.tmp 5),none,[]⟩,⟨some 42,.copy 1 (.tmp 40) (.tmp 41),none,[]⟩]) (.seq (.ops false [⟨some 43,.mov (.tmp 8),none,[]⟩,⟨some 4,.mov (.tmp 43),none,[]⟩]) .ret)))))⟩
theorem dh91:cProg Go.Proofs.Tryz.prog ⟨[(0,⟨[(5,1)],[1,2,5,13,14,15],[2,5,11,39]⟩)],[(0,⟨[],[5],[2,5,11,39]⟩)],[34]⟩ 91=some dc91:=by kernel_rfl
def db92_0 : DC := (.seq (.ops false [⟨some 16,.bin .lss (.tmp 15) (.tmp 14),none,[]⟩]) (.seq (.cond (.tmp 16) .skip (.exit 0)) (.seq (.block 1 none (.seq (.ops false [⟨some 17,.mov (.tmp 15),none,[]⟩,⟨some 18,.iaddr 3 (.tmp 13) (.tmp 15),none,[]⟩,⟨some 19,.load (some 3) (.tmp 18),none,[]⟩,⟨some 8,.alloc (.agg [.int .i64 0,.int .i64 0,.int .i64 0]) 3,none,[]⟩,⟨some 7,.mov (.tmp 17),none,[]⟩,⟨none,.store 3 (.tmp 8) (.tmp 19),none,[]⟩]) (.ops true [⟨some 20,.mov (.tmp 6),none,[]⟩,⟨some 21,.load (some 3) (.tmp 8),none,[]⟩,⟨some 22,.mov (.tmp 5),none,[]⟩,⟨some 23,.mov (.tmp 7),none,[]⟩,⟨some 24,.iaddr 1 (.tmp 22) (.tmp 23),none,[2,3]⟩,⟨some 25,.load none (.tmp 24),none,[4,2,3]⟩,⟨some 26,.call (.func 108) [.tmp 21,.tmp 25],none,[1,5,4,2,3]⟩,⟨some 27,.lit true 1 1 (.int .i64 0) [(0,(.tmp 26))],none,[6,1,5,4,2,3]⟩,⟨some 28,.append false 1 (.tmp 20) (.tmp 27),none,[0,7,6,1,5,4,2,3]⟩,⟨some 6,.mov (.tmp 28),none,[8,0,7,6,1,5,4,2,3]⟩]))) (.ops false [⟨some 29,.bin .add (.tmp 15) (.const (.int .i64 1)),none,[]⟩,⟨some 15,.mov (.tmp 29),none,[]⟩]))))
def dk92_0 : Keep := ⟨[(6,1)],[5,6,13,14,15],[2,6]⟩
def dc92 : DFunc := ⟨31,2,[.tmp 4],.seq (.ops false [⟨some 2,.box 6 (.tmp 0),none,[]⟩,⟨some 4,.mov (.const (.slice none 0 0)),none,[]⟩]) (.seq (.ops false [⟨some 9,.load (some 6) (.tmp 2),none,[]⟩,⟨some 10,.mov (.tmp 1),none,[]⟩,⟨some 11,.call (.func 91) [.tmp 9,.tmp 10],none,[]⟩,⟨some 5,.mov (.tmp 11),none,[]⟩]) (.seq (.ops false [⟨some 6,.mov (.const (.slice none 0 0)),none,[]⟩]) (.seq (.seq (.ops false [⟨some 12,.faddr 3 1 false (.tmp 2),none,[]⟩,⟨some 13,.load none (.tmp 12),none,[]⟩,⟨some 14,.len (.tmp 13),none,[]⟩,⟨some 15,.mov (.const (.int .i64 0)),none,[]⟩]) (.block 0 (some ⟨[],[6],[2,6]⟩) (.loop dk92_0 db92_0))) (.seq (.ops false [⟨some 30,.mov (.tmp 6),none,[]⟩,⟨some 4,.mov (.tmp 30),none,[]⟩]) .ret))))⟩
theorem dh92:cProg Go.Proofs.Tryz.prog ⟨[(0,⟨[(6,1)],[5,6,13,14,15],[2,6]⟩)],[(0,⟨[],[6],[2,6]⟩)],[27]⟩ 92=some dc92:=by kernel_rfl
def db93_0 : DC := (.seq (.ops false [⟨some 9,.bin .lss (.tmp 8) (.tmp 7),none,[]⟩]) (.seq (.cond (.tmp 9) .skip (.exit 0)) (.seq (.block 1 none (.seq (.ops false [⟨some 10,.iaddr 1 (.tmp 6) (.tmp 8),none,[]⟩,⟨some 11,.load none (.tmp 10),none,[]⟩,⟨some 5,.mov (.tmp 11),none,[]⟩]) (.ops false [⟨some 12,.mov (.tmp 3),none,[]⟩,⟨some 13,.mov (.tmp 5),none,[]⟩,⟨some 14,.bin .add (.tmp 12) (.tmp 13),none,[]⟩,⟨some 3,.mov (.tmp 14),none,[]⟩]))) (.ops false [⟨some 15,.bin .add (.tmp 8) (.const (.int .i64 1)),none,[]⟩,⟨some 8,.mov (.tmp 15),none,[]⟩]))))
def dk93_0 : Keep := ⟨[],[3,6,7,8],[]⟩
def dc93 : DFunc := ⟨17,1,[.tmp 2],.seq (.ops false [⟨some 2,.mov (.const (.int .i64 0)),none,[]⟩]) (.seq (.ops false [⟨some 3,.mov (.const (.int .i64 0)),none,[]⟩]) (.seq (.seq (.ops false [⟨some 6,.mov (.tmp 0),none,[]⟩,⟨some 7,.len (.tmp 6),none,[]⟩,⟨some 8,.mov (.const (.int .i64 0)),none,[]⟩]) (.block 0 (some ⟨[],[3],[]⟩) (.loop dk93_0 db93_0))) (.seq (.ops false [⟨some 16,.mov (.tmp 3),none,[]⟩,⟨some 2,.mov (.tmp 16),none,[]⟩]) .ret)))⟩
theorem dh93:cProg Go.Proofs.Tryz.prog ⟨[(0,⟨[],[3,6,7,8],[]⟩)],[(0,⟨[],[3],[]⟩)],[]⟩ 93=some dc93:=by kernel_rfl
def db98_0 : DC := (.seq (.ops false [⟨some 8,.bin .lss (.tmp 7) (.tmp 6),none,[]⟩]) (.seq (.cond (.tmp 8) .skip (.exit 0)) (.seq (.block 1 none (.seq (.ops false [⟨some 9,.iaddr 1 (.tmp 5) (.tmp 7),none,[]⟩,⟨some 10,.load none (.tmp 9),none,[]⟩,⟨some 4,.mov (.tmp 10),none,[]⟩]) (.seq (.ops false [⟨some 11,.mov (.tmp 4),none,[]⟩,⟨some 12,.bin .neq (.tmp 11) (.const (.int .i64 0)),none,[]⟩]) (.cond (.tmp 12) (.seq (.ops false [⟨some 13,.mov (.tmp 4),none,[]⟩,⟨some 2,.mov (.tmp 13),none,[]⟩]) .ret) .skip)))) (.ops false [⟨some 14,.bin .add (.tmp 7) (.const (.int .i64 1)),none,[]⟩,⟨some 7,.mov (.tmp 14),none,[]⟩]))))
def dk98_0 : Keep := ⟨[],[5,6,7],[]⟩
def dc98 : DFunc := ⟨15,1,[.tmp 2],.seq (.ops false [⟨some 2,.mov (.const (.int .i64 0)),none,[]⟩]) (.seq (.seq (.ops false [⟨some 5,.mov (.tmp 0),none,[]⟩,⟨some 6,.len (.tmp 5),none,[]⟩,⟨some 7,.mov (.const (.int .i64 0)),none,[]⟩]) (.block 0 (some ⟨[],[],[]⟩) (.loop dk98_0 db98_0))) (.seq (.ops false [⟨some 2,.mov (.const (.int .i64 0)),none,[]⟩]) .ret))⟩
theorem dh98:cProg Go.Proofs.Tryz.prog ⟨[(0,⟨[],[5,6,7],[]⟩)],[(0,⟨[],[],[]⟩)],[]⟩ 98=some dc98:=by kernel_rfl
def dc99 : DFunc := ⟨7,2,[.tmp 4],.seq (.ops false [⟨some 4,.mov (.const (.int .i64 0)),none,[]⟩]) (.seq (.seq (.ops false [⟨some 5,.mov (.tmp 0),none,[]⟩]) (.cond (.tmp 5) (.seq (.ops false [⟨some 6,.mov (.tmp 1),none,[]⟩,⟨some 4,.mov (.tmp 6),none,[]⟩]) .ret) .skip)) (.seq (.ops false [⟨some 4,.mov (.const (.int .i64 0)),none,[]⟩]) .ret))⟩
theorem dh99:cProg Go.Proofs.Tryz.prog ⟨[],[],[]⟩ 99=some dc99:=by kernel_rfl
def db100_0 : DC := (.seq (.ops false [⟨some 11,.bin .lss (.tmp 10) (.tmp 9),none,[]⟩]) (.seq (.cond (.tmp 11) .skip (.exit 0)) (.seq (.block 1 none (.seq (.ops false [⟨some 12,.iaddr 3 (.tmp 8) (.tmp 10),none,[]⟩,⟨some 13,.load (some 3) (.tmp 12),none,[]⟩,⟨some 7,.alloc (.agg [.int .i64 0,.int .i64 0,.int .i64 0]) 3,none,[]⟩,⟨none,.store 3 (.tmp 7) (.tmp 13),none,[]⟩]) (.ops false [⟨some 14,.mov (.tmp 5),none,[]⟩,⟨some 15,.mov (.tmp 1),none,[]⟩,⟨some 16,.load (some 3) (.tmp 7),none,[]⟩,⟨some 17,.call (.tmp 15) [.tmp 16],none,[]⟩,⟨some 18,.lit true 1 1 (.int .i64 0) [(0,(.tmp 17))],none,[]⟩,⟨some 19,.append false 1 (.tmp 14) (.tmp 18),none,[]⟩,⟨some 5,.mov (.tmp 19),none,[]⟩]))) (.ops false [⟨some 20,.bin .add (.tmp 10) (.const (.int .i64 1)),none,[]⟩,⟨some 10,.mov (.tmp 20),none,[]⟩]))))
def dk100_0 : Keep := ⟨[(5,1)],[1,5,8,9,10],[5]⟩
def dc100 : DFunc := ⟨22,2,[.tmp 4],.seq (.ops false [⟨some 4,.mov (.const (.slice none 0 0)),none,[]⟩]) (.seq (.ops false [⟨some 5,.mov (.const (.slice none 0 0)),none,[]⟩]) (.seq (.seq (.ops false [⟨some 8,.mov (.tmp 0),none,[]⟩,⟨some 9,.len (.tmp 8),none,[]⟩,⟨some 10,.mov (.const (.int .i64 0)),none,[]⟩]) (.block 0 (some ⟨[],[5],[5]⟩) (.loop dk100_0 db100_0))) (.seq (.ops false [⟨some 21,.mov (.tmp 5),none,[]⟩,⟨some 4,.mov (.tmp 21),none,[]⟩]) .ret)))⟩
theorem dh100:cProg Go.Proofs.Tryz.prog ⟨[(0,⟨[(5,1)],[1,5,8,9,10],[5]⟩)],[(0,⟨[],[5],[5]⟩)],[18]⟩ 100=some dc100:=by kernel_rfl
def dc101 : DFunc := ⟨14,1,[.tmp 2],.seq (.ops false [⟨some 1,.box 3 (.tmp 0),none,[]⟩,⟨some 2,.mov (.const (.int .i64 0)),none,[]⟩]) (.seq (.ops true [⟨some 3,.faddr 0 1 false (.tmp 1),none,[]⟩,⟨some 4,.load none (.tmp 3),none,[0]⟩,⟨some 5,.call (.func 102) [.tmp 4,.const (.int .i64 0),.const (.int .i64 1000)],none,[1,0]⟩,⟨some 6,.faddr 1 1 false (.tmp 1),none,[]⟩,⟨some 7,.load none (.tmp 6),none,[3]⟩,⟨some 8,.call (.func 102) [.tmp 7,.const (.int .i64 0),.const (.int .i64 1000)],none,[4,3,2,1,0]⟩,⟨some 9,.faddr 2 1 false (.tmp 1),none,[]⟩,⟨some 10,.load none (.tmp 9),none,[6]⟩,⟨some 11,.call (.func 102) [.tmp 10,.const (.int .i64 0),.const (.int .i64 100000)],none,[7,6,5,4,3,2,1,0]⟩,⟨some 12,.lit true 1 3 (.int .i64 0) [(0,(.tmp 5)),(1,(.tmp 8)),(2,(.tmp 11))],none,[2,1,0,5,4,3,8,7,6]⟩,⟨some 13,.call (.func 98) [.tmp 12],none,[9,2,1,0,5,4,3,8,7,6]⟩,⟨some 2,.mov (.tmp 13),none,[10,9,2,1,0,5,4,3,8,7,6]⟩]) .ret)⟩
theorem dh101:cProg Go.Proofs.Tryz.prog ⟨[],[],[12]⟩ 101=some dc101:=by kernel_rfl
def dc102 : DFunc := ⟨16,3,[.tmp 6],.seq (.ops false [⟨some 6,.mov (.const (.int .i64 0)),none,[]⟩]) (.seq (.ops false [⟨some 7,.mov (.tmp 0),none,[]⟩,⟨some 8,.mov (.tmp 1),none,[]⟩,⟨some 9,.bin .lss (.tmp 7) (.tmp 8),none,[]⟩,⟨some 10,.mov (.tmp 9),none,[]⟩,⟨some 11,.mov (.tmp 0),some (10,false),[]⟩,⟨some 12,.mov (.tmp 2),some (10,false),[]⟩,⟨some 13,.bin .gtr (.tmp 11) (.tmp 12),some (10,false),[]⟩,⟨some 14,.pick (.tmp 10) (.const (.bool true)) (.tmp 13),none,[]⟩,⟨some 15,.call (.func 99) [.tmp 14,.const (.int .i64 3)],none,[]⟩,⟨some 6,.mov (.tmp 15),none,[]⟩]) .ret)⟩
theorem dh102:cProg Go.Proofs.Tryz.prog ⟨[],[],[]⟩ 102=some dc102:=by kernel_rfl
def dc103 : DFunc := ⟨33,3,[.tmp 6],.seq (.ops false [⟨some 6,.mov (.const (.slice none 0 0)),none,[]⟩]) (.seq (.ops false [⟨some 8,.mov (.tmp 0),none,[]⟩,⟨some 9,.mov (.tmp 1),none,[]⟩,⟨some 10,.mov (.tmp 2),none,[]⟩,⟨some 11,.mov (.tmp 0),none,[]⟩,⟨some 12,.len (.tmp 11),none,[]⟩,⟨some 13,.slice 1 (.tmp 8) (some (.tmp 9)) (some (.tmp 10)) (some (.tmp 12)),none,[]⟩]) (.seq (.seq (.ops false [⟨some 14,.mov (.tmp 1),none,[]⟩,⟨some 15,.mov (.tmp 2),none,[]⟩,⟨some 16,.bin .eql (.tmp 14) (.tmp 15),none,[]⟩]) (.cond (.tmp 16) (.seq (.ops false [⟨some 17,.mov (.tmp 0),none,[]⟩,⟨some 6,.mov (.tmp 17),none,[]⟩]) .ret) .skip)) (.seq (.ops false [⟨some 18,.mov (.tmp 0),none,[]⟩,⟨some 19,.len (.tmp 18),none,[]⟩,⟨some 7,.mov (.tmp 19),none,[]⟩]) (.seq (.ops true [⟨some 20,.mov (.tmp 0),none,[]⟩,⟨some 21,.mov (.tmp 1),none,[]⟩,⟨some 22,.slice 1 (.tmp 20) none (some (.tmp 21)) none,none,[0,1]⟩,⟨some 23,.mov (.tmp 0),none,[]⟩,⟨some 24,.mov (.tmp 2),none,[]⟩,⟨some 25,.slice 1 (.tmp 23) (some (.tmp 24)) none none,none,[3,4]⟩,⟨some 26,.append true 1 (.tmp 22) (.tmp 25),none,[2,0,1,5,3,4]⟩,⟨some 0,.mov (.tmp 26),none,[6,2,0,1,5,3,4]⟩]) (.seq (.ops false [⟨some 27,.mov (.tmp 0),none,[]⟩,⟨some 28,.mov (.tmp 0),none,[]⟩,⟨some 29,.len (.tmp 28),none,[]⟩,⟨some 30,.mov (.tmp 7),none,[]⟩,⟨some 31,.sliceW 1 (.tmp 27) (some (.tmp 29)) (some (.tmp 30)),none,[]⟩,⟨none,.clear 1 (.int .i64 0) (.tmp 31),none,[]⟩]) (.seq (.ops false [⟨some 32,.mov (.tmp 0),none,[]⟩,⟨some 6,.mov (.tmp 32),none,[]⟩]) .ret))))))⟩
theorem dh103:cProg Go.Proofs.Tryz.prog ⟨[],[],[26,31]⟩ 103=some dc103:=by kernel_rfl
def dc104 : DFunc := ⟨8,1,[.tmp 2],.seq (.ops false [⟨some 2,.mov (.const (.slice none 0 0)),none,[]⟩]) (.seq (.seq (.ops false [⟨some 3,.mov (.tmp 0),none,[]⟩,⟨some 4,.eqNil false (.tmp 3),none,[]⟩]) (.cond (.tmp 4) (.seq (.ops false [⟨some 2,.mov (.const (.slice none 0 0)),none,[]⟩]) .ret) .skip)) (.seq (.ops false [⟨some 5,.lit true 1 0 (.int .i64 0) [],none,[]⟩,⟨some 6,.mov (.tmp 0),none,[]⟩,⟨some 7,.append true 1 (.tmp 5) (.tmp 6),none,[]⟩,⟨some 2,.mov (.tmp 7),none,[]⟩]) .ret))⟩
theorem dh104:cProg Go.Proofs.Tryz.prog ⟨[],[],[5,7]⟩ 104=some dc104:=by kernel_rfl
def dc108 : DFunc := ⟨11,2,[.tmp 4],.seq (.ops false [⟨some 2,.box 3 (.tmp 0),none,[]⟩,⟨some 4,.mov (.const (.int .i64 0)),none,[]⟩]) (.seq (.ops false [⟨some 5,.faddr 2 1 false (.tmp 2),none,[]⟩,⟨some 6,.load none (.tmp 5),none,[]⟩,⟨some 7,.mov (.tmp 1),none,[]⟩,⟨some 8,.bin .sub (.const (.int .i64 1000)) (.tmp 7),none,[]⟩,⟨some 9,.bin .mul (.tmp 6) (.tmp 8),none,[]⟩,⟨some 10,.bin .quo (.tmp 9) (.const (.int .i64 1000)),none,[]⟩,⟨some 4,.mov (.tmp 10),none,[]⟩]) .ret)⟩
theorem dh108:cProg Go.Proofs.Tryz.prog ⟨[],[],[]⟩ 108=some dc108:=by kernel_rfl
def db115_0 : DC := (.seq (.ops false [⟨some 11,.bin .lss (.tmp 10) (.tmp 9),none,[]⟩]) (.seq (.cond (.tmp 11) .skip (.exit 0)) (.seq (.block 1 none (.seq (.ops false [⟨some 12,.iaddr 1 (.tmp 8) (.tmp 10),none,[]⟩,⟨some 13,.load none (.tmp 12),none,[]⟩,⟨some 7,.mov (.tmp 13),none,[]⟩]) (.ops false [⟨some 14,.mov (.tmp 5),none,[]⟩,⟨some 15,.mov (.tmp 1),none,[]⟩,⟨some 16,.mov (.tmp 7),none,[]⟩,⟨some 17,.call (.tmp 15) [.tmp 16],none,[]⟩,⟨some 18,.lit true 1 1 (.int .i64 0) [(0,(.tmp 17))],none,[]⟩,⟨some 19,.append false 1 (.tmp 14) (.tmp 18),none,[]⟩,⟨some 5,.mov (.tmp 19),none,[]⟩]))) (.ops false [⟨some 20,.bin .add (.tmp 10) (.const (.int .i64 1)),none,[]⟩,⟨some 10,.mov (.tmp 20),none,[]⟩]))))
def dk115_0 : Keep := ⟨[(5,1)],[1,5,8,9,10],[5]⟩
def dc115 : DFunc := ⟨22,2,[.tmp 4],.seq (.ops false [⟨some 4,.mov (.const (.slice none 0 0)),none,[]⟩]) (.seq (.ops false [⟨some 5,.mov (.const (.slice none 0 0)),none,[]⟩]) (.seq (.seq (.ops false [⟨some 8,.mov (.tmp 0),none,[]⟩,⟨some 9,.len (.tmp 8),none,[]⟩,⟨some 10,.mov (.const (.int .i64 0)),none,[]⟩]) (.block 0 (some ⟨[],[5],[5]⟩) (.loop dk115_0 db115_0))) (.seq (.ops false [⟨some 21,.mov (.tmp 5),none,[]⟩,⟨some 4,.mov (.tmp 21),none,[]⟩]) .ret)))⟩
theorem dh115:cProg Go.Proofs.Tryz.prog ⟨[(0,⟨[(5,1)],[1,5,8,9,10],[5]⟩)],[(0,⟨[],[5],[5]⟩)],[18]⟩ 115=some dc115:=by kernel_rfl
def dc116 : DFunc := ⟨5,1,[.tmp 2],.seq (.ops false [⟨some 2,.mov (.const (.int .i64 0)),none,[]⟩]) (.seq (.ops false [⟨some 3,.mov (.tmp 0),none,[]⟩,⟨some 4,.call (.func 102) [.tmp 3,.const (.int .i64 (-100000000000)),.const (.int .i64 100000000000)],none,[]⟩,⟨some 2,.mov (.tmp 4),none,[]⟩]) .ret)⟩
theorem dh116:cProg Go.Proofs.Tryz.prog ⟨[],[],[]⟩ 116=some dc116:=by kernel_rfl
def dc125 : DFunc := ⟨11,1,[.tmp 2],.seq (.ops false [⟨some 1,.box 2 (.tmp 0),none,[]⟩,⟨some 2,.mov (.const (.int .i64 0)),none,[]⟩]) (.seq (.ops true [⟨some 3,.faddr 0 1 false (.tmp 1),none,[]⟩,⟨some 4,.load none (.tmp 3),none,[0]⟩,⟨some 5,.call (.func 102) [.tmp 4,.const (.int .i64 (-1000)),.const (.int .i64 1000)],none,[1,0]⟩,⟨some 6,.faddr 1 1 false (.tmp 1),none,[]⟩,⟨some 7,.load none (.tmp 6),none,[3]⟩,⟨some 8,.call (.func 102) [.tmp 7,.const (.int .i64 (-1000)),.const (.int .i64 1000)],none,[4,3,2,1,0]⟩,⟨some 9,.lit true 1 2 (.int .i64 0) [(0,(.tmp 5)),(1,(.tmp 8))],none,[2,1,0,5,4,3]⟩,⟨some 10,.call (.func 98) [.tmp 9],none,[6,2,1,0,5,4,3]⟩,⟨some 2,.mov (.tmp 10),none,[7,6,2,1,0,5,4,3]⟩]) .ret)⟩
theorem dh125:cProg Go.Proofs.Tryz.prog ⟨[],[],[9]⟩ 125=some dc125:=by kernel_rfl
def dc126 : DFunc := ⟨5,1,[.tmp 2],.seq (.ops false [⟨some 2,.mov (.const (.int .i64 0)),none,[]⟩]) (.seq (.ops false [⟨some 3,.mov (.tmp 0),none,[]⟩,⟨some 4,.call (.func 102) [.tmp 3,.const (.int .i64 0),.const (.int .i64 1000)],none,[]⟩,⟨some 2,.mov (.tmp 4),none,[]⟩]) .ret)⟩
theorem dh126:cProg Go.Proofs.Tryz.prog ⟨[],[],[]⟩ 126=some dc126:=by kernel_rfl
def db127_0 : DC := (.seq (.ops false [⟨some 11,.bin .lss (.tmp 10) (.tmp 9),none,[]⟩]) (.seq (.cond (.tmp 11) .skip (.exit 0)) (.seq (.block 1 none (.seq (.ops false [⟨some 12,.iaddr 5 (.tmp 8) (.tmp 10),none,[]⟩,⟨some 13,.load (some 5) (.tmp 12),none,[]⟩,⟨some 7,.alloc (.agg [.str [],.int .i64 0,.int .i64 0,.int .i64 0,.int .i64 0]) 5,none,[]⟩,⟨none,.store 5 (.tmp 7) (.tmp 13),none,[]⟩]) (.ops false [⟨some 14,.mov (.tmp 5),none,[]⟩,⟨some 15,.mov (.tmp 1),none,[]⟩,⟨some 16,.load (some 5) (.tmp 7),none,[]⟩,⟨some 17,.call (.tmp 15) [.tmp 16],none,[]⟩,⟨some 18,.lit true 1 1 (.int .i64 0) [(0,(.tmp 17))],none,[]⟩,⟨some 19,.append false 1 (.tmp 14) (.tmp 18),none,[]⟩,⟨some 5,.mov (.tmp 19),none,[]⟩]))) (.ops false [⟨some 20,.bin .add (.tmp 10) (.const (.int .i64 1)),none,[]⟩,⟨some 10,.mov (.tmp 20),none,[]⟩]))))
def dk127_0 : Keep := ⟨[(5,1)],[1,5,8,9,10],[5]⟩
def dc127 : DFunc := ⟨22,2,[.tmp 4],.seq (.ops false [⟨some 4,.mov (.const (.slice none 0 0)),none,[]⟩]) (.seq (.ops false [⟨some 5,.mov (.const (.slice none 0 0)),none,[]⟩]) (.seq (.seq (.ops false [⟨some 8,.mov (.tmp 0),none,[]⟩,⟨some 9,.len (.tmp 8),none,[]⟩,⟨some 10,.mov (.const (.int .i64 0)),none,[]⟩]) (.block 0 (some ⟨[],[5],[5]⟩) (.loop dk127_0 db127_0))) (.seq (.ops false [⟨some 21,.mov (.tmp 5),none,[]⟩,⟨some 4,.mov (.tmp 21),none,[]⟩]) .ret)))⟩
theorem dh127:cProg Go.Proofs.Tryz.prog ⟨[(0,⟨[(5,1)],[1,5,8,9,10],[5]⟩)],[(0,⟨[],[5],[5]⟩)],[18]⟩ 127=some dc127:=by kernel_rfl
def dc128 : DFunc := ⟨12,2,[.tmp 3],.seq (.ops false [⟨some 2,.box 5 (.tmp 0),none,[]⟩,⟨some 3,.mov (.const (.int .i64 0)),none,[]⟩]) (.seq (.ops false [⟨some 4,.faddr 3 1 false (.tmp 2),none,[]⟩,⟨some 5,.load none (.tmp 4),none,[]⟩,⟨some 6,.load none (.tmp 1),none,[]⟩,⟨some 7,.faddr 4 1 false (.tmp 2),none,[]⟩,⟨some 8,.load none (.tmp 7),none,[]⟩,⟨some 9,.bin .mul (.tmp 6) (.tmp 8),none,[]⟩,⟨some 10,.bin .sub (.tmp 5) (.tmp 9),none,[]⟩,⟨some 11,.minmax true (.const (.int .i64 0)) [.tmp 10],none,[]⟩,⟨some 3,.mov (.tmp 11),none,[]⟩]) .ret)⟩
theorem dh128:cProg Go.Proofs.Tryz.prog ⟨[],[],[]⟩ 128=some dc128:=by kernel_rfl
def dc134 : DFunc := ⟨5,1,[.tmp 2],.seq (.ops false [⟨some 2,.mov (.const (.int .i64 0)),none,[]⟩]) (.seq (.ops false [⟨some 3,.mov (.tmp 0),none,[]⟩,⟨some 4,.call (.func 102) [.tmp 3,.const (.int .i64 0),.const (.int .i64 10000)],none,[]⟩,⟨some 2,.mov (.tmp 4),none,[]⟩]) .ret)⟩
theorem dh134:cProg Go.Proofs.Tryz.prog ⟨[],[],[]⟩ 134=some dc134:=by kernel_rfl
def dc145 : DFunc := ⟨9,2,[.tmp 4],.seq (.ops false [⟨some 4,.mov (.const (.bool false)),none,[]⟩]) (.seq (.ops false [⟨some 5,.mov (.tmp 0),none,[]⟩,⟨some 6,.mov (.tmp 1),none,[]⟩,⟨some 7,.call (.func 163) [.tmp 5,.tmp 6],none,[]⟩,⟨some 8,.bin .geq (.tmp 7) (.const (.int .i64 0)),none,[]⟩,⟨some 4,.mov (.tmp 8),none,[]⟩]) .ret)⟩
theorem dh145:cProg Go.Proofs.Tryz.prog ⟨[],[],[]⟩ 145=some dc145:=by kernel_rfl
def dc146 : DFunc := ⟨26,3,[.tmp 6],.seq (.ops false [⟨some 3,.box 6 (.tmp 0),none,[]⟩,⟨some 4,.box 3 (.tmp 1),none,[]⟩,⟨some 6,.mov (.const (.int .i64 0)),none,[]⟩]) (.seq (.seq (.ops false [⟨some 7,.load (some 3) (.tmp 4),none,[]⟩,⟨some 8,.build [.int .i64 0,.int .i64 0,.int .i64 0] [],none,[]⟩,⟨some 9,.eqA false [1,1,1] (.tmp 7) (.tmp 8),none,[]⟩]) (.cond (.tmp 9) (.seq (.ops false [⟨some 10,.mov (.tmp 2),none,[]⟩,⟨some 6,.mov (.tmp 10),none,[]⟩]) .ret) .skip)) (.seq (.seq (.ops false [⟨some 11,.faddr 1 1 false (.tmp 4),none,[]⟩,⟨some 12,.load none (.tmp 11),none,[]⟩,⟨some 13,.faddr 0 1 false (.tmp 3),none,[]⟩,⟨some 14,.load none (.tmp 13),none,[]⟩,⟨some 15,.bin .geq (.tmp 12) (.tmp 14),none,[]⟩]) (.cond (.tmp 15) (.ops false [⟨some 16,.mov (.tmp 2),none,[]⟩,⟨some 17,.faddr 1 1 false (.tmp 3),none,[]⟩,⟨some 18,.load none (.tmp 17),none,[]⟩,⟨some 19,.bin .mul (.tmp 16) (.tmp 18),none,[]⟩,⟨some 20,.bin .quo (.tmp 19) (.const (.int .i64 1000)),none,[]⟩,⟨some 2,.mov (.tmp 20),none,[]⟩]) .skip)) (.seq (.ops false [⟨some 21,.mov (.tmp 2),none,[]⟩,⟨some 22,.faddr 0 1 false (.tmp 4),none,[]⟩,⟨some 23,.load none (.tmp 22),none,[]⟩,⟨some 24,.bin .add (.tmp 21) (.tmp 23),none,[]⟩,⟨some 25,.minmax false (.const (.int .i64 1000)) [.tmp 24],none,[]⟩,⟨some 6,.mov (.tmp 25),none,[]⟩]) .ret)))⟩
theorem dh146:cProg Go.Proofs.Tryz.prog ⟨[],[],[]⟩ 146=some dc146:=by kernel_rfl
def db163_0 : DC := (.seq (.ops false [⟨some 9,.bin .lss (.tmp 8) (.tmp 7),none,[]⟩]) (.seq (.cond (.tmp 9) .skip (.exit 0)) (.seq (.block 1 none (.seq (.ops false [⟨some 10,.mov (.tmp 8),none,[]⟩,⟨some 5,.mov (.tmp 10),none,[]⟩]) (.seq (.ops false [⟨some 11,.mov (.tmp 1),none,[]⟩,⟨some 12,.mov (.tmp 0),none,[]⟩,⟨some 13,.mov (.tmp 5),none,[]⟩,⟨some 14,.iaddr 1 (.tmp 12) (.tmp 13),none,[]⟩,⟨some 15,.load none (.tmp 14),none,[]⟩,⟨some 16,.bin .eql (.tmp 11) (.tmp 15),none,[]⟩]) (.cond (.tmp 16) (.seq (.ops false [⟨some 17,.mov (.tmp 5),none,[]⟩,⟨some 4,.mov (.tmp 17),none,[]⟩]) .ret) .skip)))) (.ops false [⟨some 18,.bin .add (.tmp 8) (.const (.int .i64 1)),none,[]⟩,⟨some 8,.mov (.tmp 18),none,[]⟩]))))
def dk163_0 : Keep := ⟨[],[0,1,7,8],[]⟩
def dc163 : DFunc := ⟨19,2,[.tmp 4],.seq (.ops false [⟨some 4,.mov (.const (.int .i64 0)),none,[]⟩]) (.seq (.seq (.ops false [⟨some 6,.mov (.tmp 0),none,[]⟩,⟨some 7,.len (.tmp 6),none,[]⟩,⟨some 8,.mov (.const (.int .i64 0)),none,[]⟩]) (.block 0 (some ⟨[],[],[]⟩) (.loop dk163_0 db163_0))) (.seq (.ops false [⟨some 4,.mov (.const (.int .i64 (-1))),none,[]⟩]) .ret))⟩
theorem dh163:cProg Go.Proofs.Tryz.prog ⟨[(0,⟨[],[0,1,7,8],[]⟩)],[(0,⟨[],[],[]⟩)],[]⟩ 163=some dc163:=by kernel_rfl
end Sh

namespace Sh
open Go Go.Proofs
def crit:DV:=.agg [.str [119,111,114,116,104],.func 213 [],.str [110,117,109,98,101,114],.func 215 [],.str [102,105,114,115,116],.func 216 []]
def GC:Nat→Option DV:=fun g=>if g=0 then some crit else if g=2 then some (.agg (Lib.pow10Tab.map (DV.int .u64))) else if g=1 then some (.agg [.undef]) else none
abbrev PC:=PureCall Tryz.prog GC
end Sh

namespace Sh
open Go
structure Pt where
 x:Int
 y:Int
def P0:Pt:=⟨0,0⟩
structure V3 where
 x:Int
 y:Int
 z:Int
def firstE:List Int→Int
 |[]=>0
 |a :: r=>if a≠0 then a else firstE r
theorem firstE_drop (l:List Int) (i:Nat) (h:i < l.length):firstE (l.drop i)=if l.getD i 0≠0 then l.getD i 0 else firstE (l.drop (i+1)):=by
 rw [List.drop_eq_getElem_cons h];simp [firstE,List.getD_eq_getElem?_getD,h]
def withE (n l h:Int):Int:=if n < l∨h < n then 3 else 0
def whenE (b:Bool) (e:Int):Int:=if b then e else 0
theorem drop_getD {α:Type} (l:List α) (i:Nat) (d:α) (h:i < l.length):l.drop i=l.getD i d :: l.drop (i+1):=by
 rw [List.drop_eq_getElem_cons h];simp [List.getD_eq_getElem?_getD,h]
theorem take_snoc {α:Type} (l:List α) (i:Nat) (d:α) (h:i < l.length):l.take (i+1)=l.take i++[l.getD i d]:=by
 rw [List.take_add_one];simp [List.getD_eq_getElem?_getD,h]
theorem getD_in {α:Type} {l:List α} {i:Nat} (d:α) (h:i < l.length):l.getD i d ∈ l:=by
 have:l.getD i d=l[i]:=by simp [List.getD_eq_getElem?_getD,h]
 rw [this];exact List.getElem_mem h
theorem take_map_succ {α β:Type} (f:α→β) (l:List α) (i:Nat) (d:α) (h:i < l.length):(l.take (i+1)).map f=(l.take i).map f++[f (l.getD i d)]:=by
 rw [take_snoc l i d h,List.map_append];rfl
theorem window_full {α:Type} (l:List α):window l 0 l.length=l:=by simp [window]
theorem int_eq {a b:Int} (h:a=b):DV.int .i64 a=.int .i64 b:=by rw [h]
theorem bool_eq {a b:Bool} (h:a=b):DV.bool a=.bool b:=by rw [h]
theorem idxA {α:Type} {enc:α→DV} {l:List α} {i n:Nat} {x:DV} (h:i < l.length) (hx:x.cells.length=n):0≤(i:Int)∧(i:Int) < ((l.map enc).length:Nat)∧x.cells.length=n:=⟨by omega,by simpa using h,hx⟩
theorem wrap_succ (i:Nat) (h:i < 4611686018427387904):IntKind.i64.wrap ((i:Int)+1)=((i+1:Nat):Int):=by
 rw [wrap_W,W_in (by omega) (by omega)];omega
theorem wrap_in {n:Int} (h1 : -9223372036854775808≤n) (h2:n≤9223372036854775807):IntKind.i64.wrap n=n:=W_in h1 h2
theorem firstE_cons {a:Int} {l:List Int} (h:firstE (a :: l)=0):a=0∧firstE l=0:=by
 unfold firstE at h
 split at h
 ·exact absurd h ‹_›
 ·rename_i h1;exact ⟨Classical.not_not.1 h1,h⟩
theorem withE_zero {n l h:Int} (e:withE n l h=0):l≤n∧n≤h:=by
 unfold withE at e;split at e
 ·cases e
 ·omega
theorem whenE_zero {b:Bool} {e:Int} (h:whenE b e=0) (he:e≠0):b=false:=by
 cases b
 ·rfl
 ·exact absurd h he
theorem firstE_mem {l:List Int} (h:firstE l=0):∀ e ∈ l,e=0:=by
 induction l with
 |nil=>simp
 |cons a r ih =>
  obtain ⟨h1,h2⟩:=firstE_cons h
  intro e he
  rcases List.mem_cons.1 he with rfl|he
  ·exact h1
  ·exact ih h2 e he
def sumI (l:List Int):Int:=l.foldr (·+·) 0
theorem sumI_append (a b:List Int):sumI (a++b)=sumI a+sumI b:=by
 induction a with
 |nil=>simp [sumI]
 |cons x r ih=>simp only [sumI,List.cons_append,List.foldr_cons] at ih ⊢;omega
theorem sumI_one (a:Int):sumI [a]=a:=by simp [sumI]
theorem sumI_bd {l:List Int} {A B:Int} (h:∀ x ∈ l,A≤x∧x≤B):l.length * A≤sumI l∧sumI l≤l.length * B:=by
 induction l with
 |nil=>simp [sumI]
 |cons x r ih =>
  have h1:=ih (fun y hy=>h y (List.mem_cons_of_mem _ hy))
  have h2:=h x (List.mem_cons_self ..)
  have e:sumI (x :: r)=x+sumI r:=rfl
  simp only [List.length_cons,Int.natCast_add,Int.add_mul]
  omega
def rng {α:Type} (m:Nat) (f:Nat→α):List α:=(List.range m).map f
theorem rng_len {α:Type} (m:Nat) (f:Nat→α):(rng m f).length=m:=by simp [rng]
theorem rng_getD {α:Type} {m i:Nat} (f:Nat→α) (d:α) (h:i < m):(rng m f).getD i d=f i:=by
 simp [rng,List.getD_eq_getElem?_getD,h]
theorem rng_set {α:Type} (m j:Nat) (f:Nat→α) (v:α):(rng m f).set j v=rng m (fun k=>if k=j then v else f k):=by
 apply List.ext_getElem
 ·simp [rng]
 ·intro i h1 h2
  simp only [rng,List.getElem_set,List.getElem_map,List.getElem_range]
  by_cases e:j=i
  ·subst e;simp
  ·rw [if_neg e,if_neg (Ne.symm e)]
theorem rng_congr {α:Type} {m:Nat} {f g:Nat→α} (h:∀ k,k < m→f k=g k):rng m f=rng m g:=by
 unfold rng;exact List.map_congr_left (fun k hk=>h k (List.mem_range.1 hk))
theorem rng_succ {α:Type} (m:Nat) (f:Nat→α):rng (m+1) f=rng m f++[f m]:=by
 simp [rng,List.range_succ]
theorem rng_const {α:Type} (m:Nat) (v:α):List.replicate m v=rng m (fun _=>v):=by
 apply List.ext_getElem<;>simp [rng]
theorem rng_map {α β:Type} (m:Nat) (f:Nat→α) (g:α→β):(rng m f).map g=rng m (fun k=>g (f k)):=by simp [rng]
section
variable {ev:Operand→DV} {lk:Nat→Option DObj} {o kk q i:Nat} {ks:List Nat} {z v:DV} {m k x:Operand} {es:List (DV×DV)}
theorem ev_lookup_some (hm:ev m=.dict q) (hl:lk q=some (.dict es)) (hp:keyB kk ks (ev k)=true) (hd:dfind (keyEq kk ks) (ev k) es 0=some (some (i,v))):evalOp ev lk o (.lookup kk ks false z m k)=.ok none v []:=by
 simp [evalOp,hm,hl,hp,hd]
theorem ev_lookup_none (hm:ev m=.dict q) (hl:lk q=some (.dict es)) (hp:keyB kk ks (ev k)=true) (hd:dfind (keyEq kk ks) (ev k) es 0=some none):evalOp ev lk o (.lookup kk ks false z m k)=.ok none z []:=by
 simp [evalOp,hm,hl,hp,hd]
theorem ev_mapset_none {kv vv:DV} (hm:ev m=.dict q) (hl:lk q=some (.dict es)) (hk:ev k=kv) (hv:ev x=vv) (hp:(keyB kk ks kv && pureB vv)=true) (hd:dfind (keyEq kk ks) kv es 0=some none):evalOp ev lk o (.mapset kk ks m k x)=.ok none (.tuple []) [(q,.dict (es++[(kv,vv)]))]:=by
 simp only [evalOp,hm,hl,hk,hv,hp,hd,cond_true]
end
def mx (a b:Int):Int:=if a < b then b else a
def isD (c:UInt8):Bool:=decide (48≤c.toNat) && decide (c.toNat≤57)
def valD:List UInt8→Int→Int
 |[],n=>n
 |c :: r,n=>valD r (10 * n+((c.toNat:Int) - 48))
def badD (s:List UInt8):Bool:=decide (s=[]) || decide (9 < s.length) || (decide (1 < s.length) && decide (s.getD 0 0=48))
def digS (s:List UInt8):Int×Bool:=if badD s || !s.all isD then (0,false) else (valD s 0,true)
theorem valD_append (a b:List UInt8) (n:Int):valD (a++b) n=valD b (valD a n):=by
 induction a generalizing n with
 |nil=>rfl
 |cons c r ih=>exact ih _
theorem valD_bd:∀ (s:List UInt8) (n:Int) (k:Nat),s.all isD=true→0≤n→n < 10 ^ k→0≤valD s n∧valD s n < 10 ^ (k+s.length)
 |[],n,k,_,h0,h1=>⟨h0,h1⟩
 |c :: r,n,k,h,h0,h1=>by
  rw [List.all_cons,Bool.and_eq_true] at h
  have hc:=h.1
  unfold isD at hc
  rw [Bool.and_eq_true,decide_eq_true_eq,decide_eq_true_eq] at hc
  have h2:(10:Int) ^ (k+1)=10 ^ k * 10:=Int.pow_succ ..
  have:=valD_bd r (10 * n+((c.toNat:Int) - 48)) (k+1) h.2 (by omega) (by omega)
  rw [List.length_cons,show k+(r.length+1)=k+1+r.length by omega]
  exact this
def glue (p:List UInt8):List (List UInt8)→List (List UInt8)
 |[]=>[p]
 |h :: t=>(p++h) :: t
def splitC (b:UInt8):List UInt8→List (List UInt8)
 |[]=>[[]]
 |c :: r=>if c=b then [] :: splitC b r else glue [c] (splitC b r)
theorem splitC_ne (b:UInt8):∀ s,splitC b s≠[]
 |[]=>by simp [splitC]
 |c :: r=>by
  unfold splitC
  split
  ·simp
  ·cases splitC b r<;>simp [glue]
theorem splitC_len (b:UInt8):∀ s:List UInt8,(splitC b s).length≤s.length+1∧∀ x ∈ splitC b s,x.length≤s.length
 |[]=>⟨Nat.le_refl _,fun x hx=>by simp [splitC] at hx;subst hx;exact Nat.le_refl _⟩
 |c :: r=>by
  obtain ⟨h1,h2⟩:=splitC_len b r
  have hn:=splitC_ne b r
  unfold splitC
  split
  ·refine ⟨by simp;omega,fun x hx=>?_⟩
   rcases List.mem_cons.1 hx with rfl|hx
   ·simp
   ·have:=h2 x hx;simp;omega
  ·cases hs:splitC b r with
   |nil=>exact absurd hs hn
   |cons h t =>
    rw [hs] at h1 h2
    refine ⟨by simp [glue] at h1 ⊢;omega,fun x hx=>?_⟩
    simp only [glue] at hx
    rcases List.mem_cons.1 hx with rfl|hx
    ·have:=h2 h (List.mem_cons_self ..);simp;omega
    ·have:=h2 x (List.mem_cons_of_mem _ hx);simp;omega
def wn (ns:List Int):List UInt8:=Lib.joinTail [32] (ns.map Lib.itoa)
theorem wn_cons (n:Int) (r:List Int):wn (n :: r)=32 :: (Lib.itoa n++wn r):=by simp [wn,Lib.joinTail]
theorem wn_nil:wn []=[]:=rfl
def linesC:List UInt8→List (List UInt8)
 |[]=>[]
 |c :: r=>if c=10 then [c] :: linesC r else glue [c] (linesC r)
theorem lines_idx:∀ s:List UInt8,s≠[]→(Lib.indexByte s 10 = -1∧linesC s=[s])∨∃ i:Nat,Lib.indexByte s 10=i∧i < s.length∧linesC s=s.take (i+1) :: linesC (s.drop (i+1))
 |[],h=>absurd rfl h
 |b :: l,_=>by
  by_cases hb:b=10
  ·subst hb
   exact .inr ⟨0,rfl,by simp,by simp [linesC]⟩
  ·have hbe:(b == (10:UInt8))=false:=beq_eq_false_iff_ne.2 hb
   have e1:Lib.indexByte (b :: l) 10=if Lib.indexByte l 10 == -1 then -1 else Lib.indexByte l 10+1:=by rw [Lib.indexByte,hbe];rfl
   have e2:linesC (b :: l)=glue [b] (linesC l):=by rw [linesC,if_neg hb]
   by_cases hl:l=[]
   ·subst hl
    exact .inl ⟨by rw [e1];rfl,by rw [e2];rfl⟩
   ·rcases lines_idx l hl with ⟨h1,h2⟩|⟨i,h1,h2,h3⟩
    ·exact .inl ⟨by rw [e1,h1];rfl,by rw [e2,h2];rfl⟩
    ·refine .inr ⟨i+1,?_,by simp;omega,?_⟩
     ·have hn:((i:Int) == -1)=false:=beq_eq_false_iff_ne.2 (by omega)
      rw [e1,h1,hn];simp
     ·rw [e2,h3];rfl
theorem window_take (s:List UInt8) (k:Nat) (h:k≤s.length):window s 0 k=s.take k:=by simp [window]
theorem window_drop (s:List UInt8) (k:Nat):window s k (s.length - k)=s.drop k:=by unfold window;rw [List.take_of_length_le (by simp)]
def linesOf:List (List UInt8)→List (List UInt8)
 |[]=>[]
 |[l]=>if l=[] then [] else [l]
 |h :: t=>(h++[10]) :: linesOf t
theorem linesOf_cons (h:List UInt8) {t:List (List UInt8)} (ht:t≠[]):linesOf (h :: t)=(h++[10]) :: linesOf t:=by
 cases t with
 |nil=>exact absurd rfl ht
 |cons a r=>rfl
theorem lines_split:∀ s:List UInt8,linesC s=linesOf (splitC 10 s)
 |[]=>rfl
 |c :: r=>by
  have ih:=lines_split r
  have hn:=splitC_ne 10 r
  unfold linesC splitC
  by_cases h:c=10
  ·rw [if_pos h,if_pos h,linesOf_cons _ hn,ih,h];rfl
  ·rw [if_neg h,if_neg h,ih]
   cases hs:splitC 10 r with
   |nil=>exact absurd hs hn
   |cons a t =>
    cases t with
    |nil =>
     simp only [linesOf,glue]
     by_cases ha:a=[]
     ·subst ha;rfl
     ·rw [if_neg ha];rfl
    |cons b u =>
     show glue [c] ((a++[10]) :: linesOf (b :: u))=(([c]++a)++[10]) :: linesOf (b :: u)
     simp [glue]
theorem linesOf_len:∀ (rows:List (List UInt8)) (m:Nat),rows.length=m+1→(linesOf rows).length=m+(if rows.getD m []=[] then 0 else 1)
 |[],m,h=>by simp at h
 |[l],m,h=>by
  have:m=0:=by simp at h;omega
  subst this
  unfold linesOf
  by_cases hl:l=[]<;>simp [hl]
 |h :: a :: t,m,hm=>by
  obtain ⟨k,rfl⟩:∃ k,m=k+1:=⟨m - 1,by simp at hm;omega⟩
  have:=linesOf_len (a :: t) k (by simpa using hm)
  rw [linesOf_cons h (by simp),List.length_cons,this]
  simp only [List.getD_cons_succ];omega
theorem linesOf_get:∀ (rows:List (List UInt8)) (m i:Nat),rows.length=m+1→i < m→(linesOf rows).getD i []=rows.getD i []++[10]
 |[],m,i,h,_=>by simp at h
 |[l],m,i,h,hi=>by simp at h;omega
 |h :: a :: t,m,i,hm,hi=>by
  obtain ⟨k,rfl⟩:∃ k,m=k+1:=⟨m - 1,by omega⟩
  rw [linesOf_cons h (by simp)]
  cases i with
  |zero=>rfl
  |succ i =>
   rw [List.getD_cons_succ,List.getD_cons_succ]
   exact linesOf_get (a :: t) k i (by simpa using hm) (by omega)
theorem linesOf_last:∀ (rows:List (List UInt8)) (m:Nat),rows.length=m+1→rows.getD m []≠[]→(linesOf rows).getD m []=rows.getD m []
 |[],m,h,_=>by simp at h
 |[l],m,h,hl=>by
  have:m=0:=by simp at h;omega
  subst this
  have hl:l≠[]:=hl
  unfold linesOf
  rw [if_neg hl]
 |h :: a :: t,m,hm,hl=>by
  obtain ⟨k,rfl⟩:∃ k,m=k+1:=⟨m - 1,by simp at hm;omega⟩
  rw [linesOf_cons h (by simp)]
  exact linesOf_last (a :: t) k (by simpa using hm) hl
theorem splitC_not (b:UInt8):∀ (s:List UInt8),∀ x ∈ splitC b s,b ∉ x
 |[],x,hx=>by simp [splitC] at hx;subst hx;simp
 |c :: r,x,hx=>by
  have ih:=splitC_not b r
  unfold splitC at hx
  by_cases h:c=b
  ·rw [if_pos h] at hx
   rcases List.mem_cons.1 hx with rfl|hx
   ·simp
   ·exact ih x hx
  ·rw [if_neg h] at hx
   cases hs:splitC b r with
   |nil=>exact absurd hs (splitC_ne b r)
   |cons a t =>
    rw [hs] at hx ih
    simp only [glue] at hx
    rcases List.mem_cons.1 hx with rfl|hx
    ·have:=ih a (List.mem_cons_self ..)
     simp only [List.cons_append,List.nil_append,List.mem_cons,not_or]
     exact ⟨fun e=>h e.symm,this⟩
    ·exact ih x (List.mem_cons_of_mem _ hx)
theorem cut_yes (l:List UInt8):Lib.trimSuffix (l++[10]) [10]=l∧Lib.hasSuffix (l++[10]) [10]=true:=by
 have h:Lib.hasSuffix (l++[10]) [10]=true:=by unfold Lib.hasSuffix;simp
 refine ⟨?_,h⟩
 unfold Lib.trimSuffix
 rw [if_pos h];simp
theorem cut_no (l:List UInt8) (h:(10:UInt8) ∉ l):Lib.trimSuffix l [10]=l∧Lib.hasSuffix l [10]=false:=by
 have h2:Lib.hasSuffix l [10]=false:=by
  cases e:Lib.hasSuffix l [10] with
  |false=>rfl
  |true =>
   unfold Lib.hasSuffix at e
   rw [List.isSuffixOf_iff_suffix] at e
   obtain ⟨t,rfl⟩:=e
   exact absurd (by simp:(10:UInt8) ∈ t++[10]) h
 refine ⟨?_,h2⟩
 unfold Lib.trimSuffix
 rw [h2];rfl
theorem get_bytes (s:List UInt8) (i:Nat):(⟨s.toArray⟩:ByteArray).get! i=s.getD i 0:=by
 simp [ByteArray.get!,List.getD_eq_getElem?_getD,Array.getElem!_eq_getD]
 rfl
theorem sdecode_ascii (s:List UInt8) (i:Nat) (h:(s.getD i 0).toNat < 128):sdecode s i=((s.getD i 0).toNat,1):=by
 unfold sdecode
 rw [Lib.decode_at,get_bytes,Lib.decodeN,if_pos h]
theorem sdecode_other (s:List UInt8) (i:Nat) (h:¬ (s.getD i 0).toNat < 128):128≤(sdecode s i).1:=by
 unfold sdecode
 rw [Lib.decode_at,get_bytes]
 rcases Lib.decodeN_shape ((⟨s.toArray⟩:ByteArray).size - i) (s.getD i 0).toNat (((⟨s.toArray⟩:ByteArray).get! (i+1)).toNat) (((⟨s.toArray⟩:ByteArray).get! (i+2)).toNat) (((⟨s.toArray⟩:ByteArray).get! (i+3)).toNat) with h1|h1|h1|h1|h1
 ·exact absurd h1.1 h
 ·rw [h1.2.2.2.2];exact h1.2.2.2.1
 ·obtain ⟨_,_,_,_,h2,_,h3⟩:=h1;rw [h3];show 128≤_;omega
 ·obtain ⟨_,_,_,_,_,h2,_,h3⟩:=h1;rw [h3];show 128≤_;omega
 ·rw [h1];decide
theorem isD_iff (c:UInt8):isD c=true ↔ 48≤c.toNat∧c.toNat≤57:=by unfold isD;rw [Bool.and_eq_true,decide_eq_true_eq,decide_eq_true_eq]
theorem rune_yes (s:List UInt8) (i:Nat) (h:isD (s.getD i 0)=true):sdecode s i=((s.getD i 0).toNat,1):=sdecode_ascii s i (by have:=(isD_iff _).1 h;omega)
theorem rune_no (s:List UInt8) (i:Nat) (h:isD (s.getD i 0)=false):(sdecode s i).1 < 48∨57 < (sdecode s i).1:=by
 by_cases h1:(s.getD i 0).toNat < 128
 ·rw [sdecode_ascii s i h1]
  show (s.getD i 0).toNat < 48∨57 < (s.getD i 0).toNat
  false_or_by_contra
  have:=(isD_iff (s.getD i 0)).2 ⟨by omega,by omega⟩
  rw [h] at this;cases this
 ·have:=sdecode_other s i h1;omega
theorem wrap_i32 {n:Int} (h1 : -2147483648≤n) (h2:n≤2147483647):IntKind.i32.wrap n=n:=by
 unfold IntKind.wrap
 simp only [IntKind.bits,IntKind.signed]
 simp;omega
end Sh

namespace Sh
open Go Go.Proofs
def iL (l:List Int):DV:=.list (l.map (DV.int .i64))
theorem c_when (b:Bool) (e:Int):PC 99 [.bool b,DV.int .i64 (e)] (DV.int .i64 (whenE b e)):=by
 refine pureCall_ofR dh99 rfl ?_
 conv=>whnf
 refine ⟨fun hb=>?_,fun hb=>?_⟩<;>try (exact absurd hb (by decide))
 all_goals conv=>whnf
 all_goals subst hb;rfl
theorem c_within (n l h:Int):PC 102 [DV.int .i64 (n),DV.int .i64 (l),DV.int .i64 (h)] (DV.int .i64 (withE n l h)):=by
 refine pureCall_ofR dh102 rfl ?_
 conv=>whnf
 refine ⟨fun hb=>?_,fun hb=>?_⟩<;>try (exact absurd hb (by decide))
 all_goals conv=>whnf
 ·refine .inl ?_
  conv=>whnf
  refine ⟨_,c_when ..,?_⟩
  conv=>whnf
  exact int_eq (by simp_all [withE,whenE];split<;>split<;>omega)
 ·refine .inl ?_
  conv=>whnf
  refine ⟨_,c_when ..,?_⟩
  conv=>whnf
  exact int_eq (by simp_all [withE,whenE])
theorem c_first (l:List Int) (hl:l.length < 4611686018427387904):PC 98 [iL l] (DV.int .i64 (firstE l)):=by
 refine pureCall_ofR dh98 rfl ?_
 conv=>whnf
 refine dwp_loopR (P:=Tryz.prog) (G:=GC) (k:=dk98_0) (b:=db98_0) (α:=Nat) (fun i=>[(5,iL l),(6,.int .i64 (l.map (DV.int .i64)).length),(7,.int .i64 i)]) (fun _=>[]) (fun i=>i≤l.length∧firstE l=firstE (l.drop i)) (fun i=>l.length - i) 0 ⟨rfl,rfl,rfl⟩ ⟨Nat.zero_le _,rfl⟩ ?_
 intro i ⟨h1,h2⟩
 conv=>whnf
 refine ⟨fun hb=>?_,fun hb=>?_⟩<;>try (exact absurd hb (by decide))
 ·have hi:i < l.length:=by simpa using hb
  have hd:=firstE_drop l i hi
  conv=>whnf
  rw [getD_enc _ _ (i) 0 hi]
  refine ⟨idxA hi rfl,?_⟩
  conv=>whnf
  refine ⟨fun hb=>?_,fun hb=>?_⟩<;>try (exact absurd hb (by decide))
  ·conv=>whnf
   exact int_eq (by simp_all)
  ·conv=>whnf
   rw [wrap_succ i (by omega)]
   exact ⟨i+1,rfl,rfl,rfl,⟨hi,by simp_all⟩,by omega⟩
 ·conv=>whnf
  have:i=l.length:=by simp at hb;omega
  subst this
  exact int_eq (by rw [h2];simp [firstE])
end Sh

namespace Sh
open Go
structure Dy where
 dust:Int
 rain:Int
 light:Int
def D0:Dy:=⟨0,0,0⟩
structure Sn where
 enough:Int
 left:Int
 soil:Int
 days:List Dy
 price:Int
 cost:Int
def chkDy (d:Dy):Int:=firstE [withE d.dust 0 1000,withE d.rain 0 1000,withE d.light 0 100000]
def chkDs (l:List Dy):Int:=firstE [whenE (decide (l.length=0)) 12,whenE (decide (64 < l.length)) 5,firstE (l.map chkDy)]
def chkSn (s:Sn):Int:=firstE [withE s.enough 1 1000,withE s.left 0 1000,withE s.soil 0 1000,chkDs s.days,withE s.price 0 1000,withE s.cost 0 1000000]
def aftS (s:Sn) (d:Dy) (so:Int):Int:=min 1000 ((if s.enough≤d.rain then (so * s.left).tdiv 1000 else so)+d.dust)
def lgtS (d:Dy) (so:Int):Int:=(d.light * (1000 - so)).tdiv 1000
def wshS (ws:List Int) (i:Nat) (so:Int):Int:=if (i:Int) ∈ ws then 0 else so
def soilF (s:Sn) (ws:List Int):Nat→Int→List Dy→List Int
 |i,so,[]=>[so]
 |i,so,d :: r=>wshS ws i so :: soilF s ws (i+1) (aftS s d (wshS ws i so)) r
def soilsS (s:Sn) (ws:List Int):List Int:=soilF s ws 0 s.soil s.days
def yldS (s:Sn) (ws:List Int):List Int:=List.zipWith lgtS s.days (soilsS s ws)
def worthS (s:Sn) (ws:List Int):Int:=s.price * sumI (yldS s ws) - s.cost * ws.length
def chkWs (n:Nat):Int→List Int→Int
 |_,[]=>0
 |last,i :: r=>if i < 0∨(n:Int)≤i then 10 else if i≤last then 11 else chkWs n i r
structure OkDy (d:Dy):Prop where
 d0:0≤d.dust
 d1:d.dust≤1000
 r0:0≤d.rain
 r1:d.rain≤1000
 l0:0≤d.light
 l1:d.light≤100000
structure OkSn (s:Sn):Prop where
 e0:1≤s.enough
 e1:s.enough≤1000
 l0:0≤s.left
 l1:s.left≤1000
 s0:0≤s.soil
 s1:s.soil≤1000
 n0:0 < s.days.length
 n1:s.days.length≤64
 ds:∀ d ∈ s.days,OkDy d
 p0:0≤s.price
 p1:s.price≤1000
 c0:0≤s.cost
 c1:s.cost≤1000000
theorem chkDy_zero {d:Dy} (h:chkDy d=0):OkDy d:=by
 have h:=firstE_mem h
 have h1:=withE_zero (h _ (by simp:withE d.dust 0 1000 ∈ _))
 have h2:=withE_zero (h _ (by simp:withE d.rain 0 1000 ∈ _))
 have h3:=withE_zero (h _ (by simp:withE d.light 0 100000 ∈ _))
 exact ⟨h1.1,h1.2,h2.1,h2.2,h3.1,h3.2⟩
theorem chkDs_zero {l:List Dy} (h:chkDs l=0):0 < l.length∧l.length≤64∧∀ d ∈ l,OkDy d:=by
 have h:=firstE_mem h
 have h1:=whenE_zero (h _ (by simp:whenE (decide (l.length=0)) 12 ∈ _)) (by decide)
 have h2:=whenE_zero (h _ (by simp:whenE (decide (64 < l.length)) 5 ∈ _)) (by decide)
 have h3:=firstE_mem (h _ (by simp:firstE (l.map chkDy) ∈ _))
 have h1:=of_decide_eq_false h1
 have h2:=of_decide_eq_false h2
 exact ⟨by omega,by omega,fun d hd=>chkDy_zero (h3 _ (List.mem_map.2 ⟨d,hd,rfl⟩))⟩
theorem chkSn_zero {s:Sn} (h:chkSn s=0):OkSn s:=by
 have h:=firstE_mem h
 have h1:=withE_zero (h _ (by simp:withE s.enough 1 1000 ∈ _))
 have h2:=withE_zero (h _ (by simp:withE s.left 0 1000 ∈ _))
 have h3:=withE_zero (h _ (by simp:withE s.soil 0 1000 ∈ _))
 have h4:=chkDs_zero (h _ (by simp:chkDs s.days ∈ _))
 have h5:=withE_zero (h _ (by simp:withE s.price 0 1000 ∈ _))
 have h6:=withE_zero (h _ (by simp:withE s.cost 0 1000000 ∈ _))
 exact ⟨h1.1,h1.2,h2.1,h2.2,h3.1,h3.2,h4.1,h4.2.1,h4.2.2,h5.1,h5.2,h6.1,h6.2⟩
theorem tdiv_le {a b:Int} (h0:0≤a) (h1:a≤b * 1000):0≤a.tdiv 1000∧a.tdiv 1000≤b:=by
 rw [Int.tdiv_eq_ediv_of_nonneg h0];omega
theorem left_bd {so l:Int} (h0:0≤so) (h1:so≤1000) (l0:0≤l) (l1:l≤1000):0≤so * l∧so * l≤so * 1000 :=
 ⟨Int.mul_nonneg h0 l0,Int.mul_le_mul_of_nonneg_left l1 h0⟩
theorem aftS_bd {s:Sn} {d:Dy} {so:Int} (hs:OkSn s) (hd:OkDy d) (h0:0≤so) (h1:so≤1000):0≤aftS s d so∧aftS s d so≤1000:=by
 have h2:=left_bd h0 h1 hs.l0 hs.l1
 have h3:=tdiv_le h2.1 h2.2
 have:=hd.d0
 unfold aftS
 split<;>omega
theorem wshS_bd {ws:List Int} {i:Nat} {so:Int} (h0:0≤so) (h1:so≤1000):0≤wshS ws i so∧wshS ws i so≤1000:=by
 unfold wshS;split<;>omega
theorem soilF_len (s:Sn) (ws:List Int):∀ (l:List Dy) (i:Nat) (so:Int),(soilF s ws i so l).length=l.length+1
 |[],i,so=>rfl
 |d :: r,i,so=>by unfold soilF;rw [List.length_cons,soilF_len s ws r];rfl
theorem soilsS_len (s:Sn) (ws:List Int):(soilsS s ws).length=s.days.length+1:=soilF_len s ws _ _ _
theorem soilF_bd {s:Sn} (hs:OkSn s) (ws:List Int):∀ (l:List Dy) (i:Nat) (so:Int),(∀ d ∈ l,OkDy d)→0≤so→so≤1000→∀ x ∈ soilF s ws i so l,0≤x∧x≤1000
 |[],i,so,_,h0,h1,x,hx=>by unfold soilF at hx;simp at hx;omega
 |d :: r,i,so,hl,h0,h1,x,hx=>by
  unfold soilF at hx
  have hw:=wshS_bd (ws:=ws) (i:=i) h0 h1
  have ha:=aftS_bd hs (hl d (by simp)) hw.1 hw.2
  rcases List.mem_cons.1 hx with rfl|hx
  ·exact hw
  ·exact soilF_bd hs ws r (i+1) _ (fun e he=>hl e (by simp [he])) ha.1 ha.2 x hx
theorem soilsS_bd {s:Sn} (hs:OkSn s) (ws:List Int):∀ x ∈ soilsS s ws,0≤x∧x≤1000:=soilF_bd hs ws _ _ _ hs.ds hs.s0 hs.s1
theorem lgtS_bd {d:Dy} {so:Int} (hd:OkDy d) (h0:0≤so) (h1:so≤1000):0≤lgtS d so∧lgtS d so≤d.light:=by
 unfold lgtS
 have h:=Int.mul_nonneg hd.l0 (show 0≤1000 - so by omega)
 have h':=Int.mul_le_mul_of_nonneg_left (show 1000 - so≤1000 by omega) hd.l0
 exact tdiv_le h h'
theorem yldS_len (s:Sn) (ws:List Int):(yldS s ws).length=s.days.length:=by
 unfold yldS;rw [List.length_zipWith,soilsS_len];omega
theorem yldS_bd {s:Sn} (hs:OkSn s) (ws:List Int):∀ x ∈ yldS s ws,0≤x∧x≤100000:=by
 intro x hx
 unfold yldS at hx
 obtain ⟨i,hi,rfl⟩:=List.mem_iff_getElem.1 hx
 rw [List.getElem_zipWith]
 have h1:i < s.days.length:=by simp at hi;omega
 have h2:i < (soilsS s ws).length:=by simp at hi;omega
 have hd:=hs.ds _ (List.getElem_mem h1)
 have hb:=soilsS_bd hs ws _ (List.getElem_mem h2)
 have:=lgtS_bd hd hb.1 hb.2
 have:=hd.l1
 omega
theorem sumY_bd {s:Sn} (hs:OkSn s) (ws:List Int):0≤sumI (yldS s ws)∧sumI (yldS s ws)≤6400000:=by
 have h:=sumI_bd (yldS_bd hs ws)
 rw [yldS_len] at h
 have:=hs.n1
 omega
end Sh

namespace Sh
open Go
def fromS (s:Sn):Int→List Dy→List Int
 |_,[]=>[]
 |so,d :: r=>so :: fromS s (aftS s d so) r
def lightF (s:Sn) (so:Int) (l:List Dy):List Int:=List.zipWith lgtS l (fromS s so l)
theorem fromS_len (s:Sn):∀ (l:List Dy) (so:Int),(fromS s so l).length=l.length
 |[],so=>rfl
 |d :: r,so=>by unfold fromS;rw [List.length_cons,fromS_len s r];rfl
theorem lightF_len (s:Sn) (so:Int) (l:List Dy):(lightF s so l).length=l.length:=by unfold lightF;rw [List.length_zipWith,fromS_len];omega
theorem fromS_bd {s:Sn} (hs:OkSn s):∀ (l:List Dy) (so:Int),(∀ d ∈ l,OkDy d)→0≤so→so≤1000→∀ x ∈ fromS s so l,0≤x∧x≤1000
 |[],so,_,_,_,x,hx=>by unfold fromS at hx;cases hx
 |d :: r,so,hl,h0,h1,x,hx=>by
  unfold fromS at hx
  have ha:=aftS_bd hs (hl d (by simp)) h0 h1
  rcases List.mem_cons.1 hx with rfl|hx
  ·exact ⟨h0,h1⟩
  ·exact fromS_bd hs r _ (fun e he=>hl e (by simp [he])) ha.1 ha.2 x hx
theorem lightF_bd {s:Sn} (hs:OkSn s) (l:List Dy) (so:Int) (hl:∀ d ∈ l,OkDy d) (h0:0≤so) (h1:so≤1000):∀ x ∈ lightF s so l,0≤x∧x≤100000:=by
 intro x hx
 unfold lightF at hx
 obtain ⟨i,hi,rfl⟩:=List.mem_iff_getElem.1 hx
 rw [List.getElem_zipWith]
 have e1:i < l.length:=by simp at hi;omega
 have e2:i < (fromS s so l).length:=by simp at hi;omega
 have hd:=hl _ (List.getElem_mem e1)
 have hb:=fromS_bd hs l so hl h0 h1 _ (List.getElem_mem e2)
 have:=lgtS_bd hd hb.1 hb.2
 have:=hd.l1
 omega
def partS (s:Sn) (f k:Nat):Int:=sumI ((lightF s 0 (s.days.drop f)).take k)
theorem sumI_take_succ (l:List Int) (i:Nat) (h:i < l.length):sumI (l.take (i+1))=sumI (l.take i)+l.getD i 0:=by
 rw [take_snoc l i 0 h,sumI_append,sumI_one]
theorem sumI_take_bd {l:List Int} {B:Int} (h:∀ x ∈ l,0≤x∧x≤B) (i:Nat):0≤sumI (l.take i)∧sumI (l.take i)≤l.length * B:=by
 have h1:=sumI_bd (l:=l.take i) (fun x hx=>h x (List.mem_of_mem_take hx))
 rw [Int.mul_zero] at h1
 refine ⟨h1.1,Int.le_trans h1.2 ?_⟩
 by_cases hB:0≤B
 ·exact Int.mul_le_mul_of_nonneg_right (by have:=List.length_take_le' i l;omega) hB
 ·have:l=[]:=by
   cases l with
   |nil=>rfl
   |cons a r=>have:=h a (by simp);omega
  subst this;simp
structure Pl where
 idx:List Int
 worth:Int
def P00:Pl:=⟨[],0⟩
def cmpI (a b:Int):Int:=if a < b then -1 else if b < a then 1 else 0
def cmpL:List Int→List Int→Int
 |[],[]=>0
 |[],_ :: _ => -1
 |_ :: _,[]=>1
 |a :: r,b :: t=>if cmpI a b≠0 then cmpI a b else cmpL r t
def cmpP (a b:Pl):Int:=if cmpI b.worth a.worth≠0 then cmpI b.worth a.worth else if cmpI a.idx.length b.idx.length≠0 then cmpI a.idx.length b.idx.length else cmpL a.idx b.idx
def minP:Pl→List Pl→Pl
 |m,[]=>m
 |m,x :: r=>minP (if cmpP x m < 0 then x else m) r
def bestP:List Pl→Pl
 |[]=>P00
 |x :: r=>minP x r
def candP (s:Sn) (d:Nat) (rest:List Pl):List Pl :=
 rng (s.days.length - d) fun k=>⟨(d:Int) :: (rest.getD k P00).idx,s.price * partS s d (k+1) - s.cost+(rest.getD k P00).worth⟩
def plansF (s:Sn):Nat→List Pl
 |0=>[P00]
 |k+1=>bestP (candP s (s.days.length - (k+1)) (plansF s k)) :: plansF s k
def plansS (s:Sn):List Pl:=plansF s s.days.length
def headC (s:Sn):List Pl:=rng s.days.length fun i=>⟨((plansS s).getD i P00).idx,s.price * sumI ((lightF s s.soil s.days).take i)+((plansS s).getD i P00).worth⟩
def plannedS (s:Sn):Pl:=bestP (headC s++[⟨[],s.price * sumI (lightF s s.soil s.days)⟩])
def tableS (s:Sn):List Int:=(plansS s).map (·.worth)
theorem plansF_len (s:Sn):∀ k,(plansF s k).length=k+1
 |0=>rfl
 |k+1=>by unfold plansF;rw [List.length_cons,plansF_len s k]
end Sh

namespace Sh
open Go
theorem minP_mem:∀ (l:List Pl) (m:Pl),minP m l ∈ m :: l
 |[],m=>by unfold minP;simp
 |x :: r,m=>by
  unfold minP
  have:=minP_mem r (if cmpP x m < 0 then x else m)
  rcases List.mem_cons.1 this with h|h
  ·rw [h];split<;>simp
  ·simp [h]
theorem bestP_mem {l:List Pl} (h:l≠[]):bestP l ∈ l:=by
 cases l with
 |nil=>exact absurd rfl h
 |cons x r=>exact minP_mem r x
def idleS (s:Sn) (ws:List Int) (k:Nat):List Int:=((List.range k).filter fun i=>decide (sumI (yldS s (ws.eraseIdx i))=sumI (yldS s ws))).map fun (i:Nat)=>(i:Int)
theorem idleS_succ (s:Sn) (ws:List Int) (k:Nat):idleS s ws (k+1)=if sumI (yldS s (ws.eraseIdx k))=sumI (yldS s ws) then idleS s ws k++[(k:Int)] else idleS s ws k:=by
 unfold idleS
 rw [List.range_succ,List.filter_append,List.map_append]
 split
 ·rename_i h;simp [h]
 ·rename_i h;simp [h]
theorem idleS_len (s:Sn) (ws:List Int) (k:Nat):(idleS s ws k).length≤k:=by
 unfold idleS
 rw [List.length_map]
 exact Nat.le_trans (List.length_filter_le _ _) (by simp)
end Sh

namespace Sh
open Go Go.Proofs
def encD (d:Dy):DV:=.agg [DV.int .i64 (d.dust),DV.int .i64 (d.rain),DV.int .i64 (d.light)]
def dysV (l:List Dy):DV:=.list (l.map encD)
def encS (s:Sn):DV:=.agg [DV.int .i64 (s.enough),DV.int .i64 (s.left),DV.int .i64 (s.soil),dysV s.days,DV.int .i64 (s.price),DV.int .i64 (s.cost)]
def oI {α:Type} (g:α→Int) (l:List α) (i:Nat):List DV:=(l.take i).map fun c=>DV.int .i64 (g c)
theorem oI_len {α:Type} (g:α→Int) (l:List α) (i:Nat) (h:i≤l.length):(oI g l i).length=i:=by simp [oI];omega
theorem oI_succ {α:Type} (g:α→Int) (l:List α) (i:Nat) (d:α) (h:i < l.length):oI g l (i+1)=oI g l i++[DV.int .i64 (g (l.getD i d))]:=take_map_succ _ l i d h
theorem oI_all {α:Type} (g:α→Int) (l:List α):oI g l l.length=(l.map g).map (DV.int .i64):=by simp [oI]
theorem c_mappedD (l:List Dy) (f:FuncId) (g:Dy→Int) (hl:l.length < 1073741824) (hf:∀ c ∈ l,PC f [encD c] (DV.int .i64 (g c))):PC 100 [dysV l,.func f []] (iL (l.map g)):=by
 refine pureCall_ofR dh100 rfl ?_
 conv=>whnf
 refine dwp_loopU (P:=Tryz.prog) (G:=GC) (k:=dk100_0) (b:=db100_0) (α:=Nat) (fun i=>[(5,.own 5 0 (oI g l i).length (oI g l i).length),(10,DV.int .i64 (i))]) (fun i=>[(5,.row 1 (oI g l i) false)]) (fun i=>i≤l.length) (fun i=>l.length - i) 0 (Nat.zero_le _) ?_
 conv=>whnf
 refine ⟨rfl,rfl,?_⟩
 conv=>whnf
 refine ⟨rfl,?_⟩
 intro i h1
 conv=>whnf
 refine ⟨fun hb=>?_,fun hb=>?_⟩
 ·have hi:i < l.length:=by simpa using hb
  clear hb
  conv=>whnf
  rw [getD_enc _ _ (i) D0 hi]
  refine ⟨idxA hi rfl,?_⟩
  conv=>whnf
  refine .inl ?_
  conv=>whnf
  refine ⟨_,hf _ (getD_in D0 hi),?_⟩
  conv=>whnf
  refine ⟨⟨rfl,rfl,rfl,by rw [oI_len g l i h1];simp;omega,fun e he=>by simp at he;subst he;rfl⟩,?_⟩
  conv=>whnf
  rw [wrap_succ i (by omega)]
  refine ⟨i+1,rfl,?_,?_,hi,by omega⟩
  ·rw [oI_succ g l i D0 hi];rfl
  ·rw [oI_succ g l i D0 hi];rfl
 ·have hi:i=l.length:=by have:=of_decide_eq_false hb;simp at this;omega
  clear hb
  conv=>whnf
  exact ⟨rfl,by rw [window_full,hi,oI_all];rfl⟩
theorem c_check (d:Dy):PC 101 [encD d] (DV.int .i64 (chkDy d)):=by
 refine pureCall_ofR dh101 rfl ?_
 conv=>whnf
 repeat' (first
  |(refine ⟨fun hg=>?_,fun hg=>?_⟩<;>first|contradiction|(conv=>whnf))
  |(refine Or.inl ?_;conv=>whnf)
  |(refine ⟨_,c_within ..,?_⟩;conv=>whnf)
  |(refine ⟨_,c_first [_,_,_] (by simp),?_⟩;conv=>whnf)
  |(refine And.intro ?_ ?_;kernel_rfl;conv=>whnf))
 rfl
theorem c_CheckDays (l:List Dy) (hl:l.length < 1073741824):PC 28 [dysV l] (DV.int .i64 (chkDs l)):=by
 have e0:((l.map encD).length:Int)=l.length:=by simp
 have k1:=c_mappedD l 101 chkDy hl (fun c _=>c_check c)
 have k2:=c_first (l.map chkDy) (by simp;omega)
 refine pureCall_ofR dh28 rfl ?_
 conv=>whnf
 repeat' (first
  |(refine ⟨fun hg=>?_,fun hg=>?_⟩<;>first|contradiction|(conv=>whnf))
  |(refine Or.inl ?_;conv=>whnf)
  |(refine ⟨_,k1,?_⟩;conv=>whnf)
  |(refine ⟨_,k2,?_⟩;conv=>whnf)
  |(refine ⟨_,c_when ..,?_⟩;conv=>whnf)
  |(refine ⟨_,c_first [_,_,_] (by simp),?_⟩;conv=>whnf)
  |(refine And.intro ?_ ?_;kernel_rfl;conv=>whnf))
 refine int_eq ?_
 unfold chkDs
 rw [e0,show decide ((l.length:Int)=0)=decide (l.length=0) by rw [decide_eq_decide];omega,show decide ((64:Int) < l.length)=decide (64 < l.length) by rw [decide_eq_decide];omega]
theorem c_CheckSeason (s:Sn) (hl:s.days.length < 1073741824):PC 31 [encS s] (DV.int .i64 (chkSn s)):=by
 have k1:=c_CheckDays s.days hl
 refine pureCall_ofR dh31 rfl ?_
 conv=>whnf
 repeat' (first
  |(refine ⟨fun hg=>?_,fun hg=>?_⟩<;>first|contradiction|(conv=>whnf))
  |(refine Or.inl ?_;conv=>whnf)
  |(refine ⟨_,k1,?_⟩;conv=>whnf)
  |(refine ⟨_,c_within ..,?_⟩;conv=>whnf)
  |(refine ⟨_,c_first [_,_,_,_,_,_] (by simp),?_⟩;conv=>whnf)
  |(refine And.intro ?_ ?_;kernel_rfl;conv=>whnf))
 rfl
theorem firstE_one (a:Int):firstE [a]=a:=by simp only [firstE];split<;>simp_all
end Sh

namespace Sh
open Go Go.Proofs
end Sh

namespace Sh
open Go
end Sh

namespace Sh
open Go
def Inc (n:Nat):Int→List Int→Prop
 |_,[]=>True
 |lo,x :: r=>lo < x∧x < n∧Inc n x r
theorem inc_gt {n:Nat}:∀ {l:List Int} {lo:Int},Inc n lo l→∀ x ∈ l,lo < x∧x < n
 |[],_,_,x,hx=>by cases hx
 |y :: r,lo,h,x,hx=>by
  obtain ⟨h1,h2,h3⟩:=h
  rcases List.mem_cons.1 hx with rfl|hx
  ·exact ⟨h1,h2⟩
  ·have:=inc_gt h3 x hx;omega
def setsS:Nat→List (List Int)
 |0=>[[]]
 |n+1=>setsS n++(setsS n).map (·++[(n:Int)])
theorem inc_append {n:Nat}:∀ {l:List Int} {lo:Int},Inc n lo l→lo < n→Inc (n+1) lo (l++[(n:Int)])
 |[],lo,_,hl=>⟨hl,by omega,trivial⟩
 |x :: r,lo,h,hl=>⟨h.1,by have:=h.2.1;omega,inc_append h.2.2 h.2.1⟩
theorem inc_up {n:Nat}:∀ {l:List Int} {lo:Int},Inc n lo l→Inc (n+1) lo l
 |[],lo,_=>trivial
 |x :: r,lo,h=>⟨h.1,by have:=h.2.1;omega,inc_up h.2.2⟩
theorem inc_split {n:Nat}:∀ {l:List Int} {lo:Int},Inc (n+1) lo l→Inc n lo l∨∃ l',l=l'++[(n:Int)]∧Inc n lo l'
 |[],lo,_=>.inl trivial
 |x :: r,lo,h=>by
  obtain ⟨h1,h2,h3⟩:=h
  by_cases e:x=n
  ·subst e
   cases r with
   |nil=>exact .inr ⟨[],rfl,trivial⟩
   |cons y r=>have:=h3.1;have:=h3.2.1;omega
  ·rcases inc_split h3 with h4|⟨l',h4,h5⟩
   ·exact .inl ⟨h1,by omega,h4⟩
   ·exact .inr ⟨x :: l',by rw [h4];rfl,h1,by omega,h5⟩
theorem mem_sets:∀ (n:Nat) (ws:List Int),ws ∈ setsS n ↔ Inc n (-1) ws
 |0,ws=>by
  unfold setsS
  rw [List.mem_singleton]
  constructor
  ·rintro rfl;trivial
  ·intro h
   cases ws with
   |nil=>rfl
   |cons x r=>have:=h.1;have:=h.2.1;omega
 |n+1,ws=>by
  unfold setsS
  rw [List.mem_append,List.mem_map,mem_sets n ws]
  constructor
  ·rintro (h|⟨l,h,rfl⟩)
   ·exact inc_up h
   ·exact inc_append ((mem_sets n l).1 h) (by omega)
  ·intro h
   rcases inc_split h with h|⟨l,rfl,h5⟩
   ·exact .inl h
   ·exact .inr ⟨l,(mem_sets n l).2 h5,rfl⟩
end Sh

namespace Sh
open Go Go.Proofs
theorem min_min (a b:Int):minmaxI false a b=min a b:=by
 unfold minmaxI
 show (if b < a then b else a)=_
 split<;>omega
theorem c_Index (l:List Int) (n:Int) (hl:l.length < 4611686018427387904):∃ k:Int,PC 163 [iL l,DV.int .i64 (n)] (DV.int .i64 (k))∧(0≤k ↔ n ∈ l):=by
 have e0:((l.map (DV.int .i64)).length:Int)=l.length:=by simp
 refine ⟨if n ∈ l then (l.idxOf n:Int) else -1,?_,by split<;>simp_all⟩
 refine pureCall_ofR dh163 rfl ?_
 conv=>whnf
 refine dwp_loopU (P:=Tryz.prog) (G:=GC) (k:=dk163_0) (b:=db163_0) (α:=Nat) (fun i=>[(8,DV.int .i64 (i))]) (fun _=>[]) (fun i=>i≤l.length∧n ∉ l.take i) (fun i=>l.length - i) 0 ⟨Nat.zero_le _,by simp⟩ ?_
 conv=>whnf
 refine ⟨rfl,rfl,?_⟩
 conv=>whnf
 refine ⟨rfl,?_⟩
 intro i ⟨h1,h2⟩
 conv=>whnf
 refine ⟨fun hb=>?_,fun hb=>?_⟩
 ·have hi:i < l.length:=by simpa using hb
  clear hb
  conv=>whnf
  rw [getD_enc _ _ (i) 0 hi]
  refine ⟨idxA hi rfl,?_⟩
  conv=>whnf
  refine ⟨fun hg=>?_,fun hg=>?_⟩
  ·have hg:n=l.getD i 0:=of_decide_eq_true hg
   have hm:n ∈ l:=by rw [hg];exact getD_in 0 hi
   have hx:l.idxOf n=i:=by
    have e1:l[i]=n:=by rw [hg];simp [List.getD_eq_getElem?_getD,hi]
    have e2:l=l.take i++(n :: l.drop (i+1)):=by
     rw [← e1,← List.drop_eq_getElem_cons hi,List.take_append_drop]
    rw [e2,List.idxOf_append,if_neg h2,List.idxOf_cons_self,List.length_take];omega
   conv=>whnf
   exact int_eq (by rw [if_pos hm,hx])
  ·have hg:¬ n=l.getD i 0:=of_decide_eq_false hg
   conv=>whnf
   rw [wrap_succ i (by omega)]
   refine ⟨i+1,rfl,rfl,rfl,⟨hi,?_⟩,by omega⟩
   rw [take_snoc l i 0 hi,List.mem_append]
   rintro (h|h)
   ·exact h2 h
   ·simp only [List.mem_cons,List.not_mem_nil,or_false] at h;exact hg h
 ·have hi:i=l.length:=by have:=of_decide_eq_false hb;rw [e0] at this;omega
  rw [hi,List.take_length] at h2
  clear hb
  conv=>whnf
  exact int_eq (by rw [if_neg h2])
theorem c_Contains (l:List Int) (n:Int) (hl:l.length < 4611686018427387904):PC 145 [iL l,DV.int .i64 (n)] (.bool (decide (n ∈ l))):=by
 obtain ⟨k,h1,h2⟩:=c_Index l n hl
 refine pureCall_ofR dh145 rfl ?_
 conv=>whnf
 repeat' (first
  |(refine ⟨fun hg=>?_,fun hg=>?_⟩<;>first|contradiction|(conv=>whnf))
  |(refine Or.inl ?_;conv=>whnf)
  |(refine ⟨_,h1 ..,?_⟩;conv=>whnf)
  |(refine And.intro ?_ ?_;kernel_rfl;conv=>whnf))
 exact bool_eq (by rw [decide_eq_decide];exact h2)
theorem aft_w {s:Sn} {d:Dy} {so:Int} (hs:OkSn s) (hd:OkDy d) (h0:0≤so) (h1:so≤1000):IntKind.i64.wrap (IntKind.i64.wrap (so * s.left))=so * s.left∧IntKind.i64.wrap ((so * s.left).tdiv 1000)=(so * s.left).tdiv 1000 ∧
  IntKind.i64.wrap ((so * s.left).tdiv 1000+d.dust)=(so * s.left).tdiv 1000+d.dust∧IntKind.i64.wrap (so+d.dust)=so+d.dust∧IntKind.i64.wrap (so * s.left)=so * s.left:=by
 have h2:=left_bd h0 h1 hs.l0 hs.l1
 have h3:=tdiv_le h2.1 h2.2
 have:=hd.d0
 have:=hd.d1
 refine ⟨?_,wrap_in (by omega) (by omega),wrap_in (by omega) (by omega),wrap_in (by omega) (by omega),wrap_in (by omega) (by omega)⟩
 rw [wrap_in (n:=so * s.left) (by omega) (by omega)]
 exact wrap_in (by omega) (by omega)
theorem c_after (s:Sn) (d:Dy) (so:Int) (hs:OkSn s) (hd:OkDy d) (h0:0≤so) (h1:so≤1000):PC 146 [encS s,encD d,DV.int .i64 (so)] (DV.int .i64 (aftS s d so)):=by
 obtain ⟨w0,w1,w2,w3,w4⟩:=aft_w hs hd h0 h1
 have he0:=hs.e0
 refine pureCall_ofR dh146 rfl ?_
 conv=>whnf
 refine ⟨fun hg=>?_,fun hg=>?_⟩
 ·have hg:(decide (d.dust=0) && (decide (d.rain=0) && (decide (d.light=0) && true)))=true:=hg
  simp only [Bool.and_eq_true,decide_eq_true_eq] at hg
  conv=>whnf
  refine int_eq ?_
  unfold aftS
  rw [if_neg (by omega),hg.1];omega
 ·clear hg
  conv=>whnf
  refine ⟨fun hg=>?_,fun hg=>?_⟩
  ·have hg:s.enough≤d.rain:=of_decide_eq_true hg
   conv=>whnf
   repeat' (first
    |(refine ⟨fun hg=>?_,fun hg=>?_⟩<;>first|contradiction|(conv=>whnf))
    |(refine Or.inl ?_;conv=>whnf)
    |(refine ⟨by decide,?_⟩;conv=>whnf)
    |(refine And.intro ?_ ?_;kernel_rfl;conv=>whnf))
   rw [w4,w1,w2,min_min]
   refine int_eq ?_
   unfold aftS
   rw [if_pos hg]
  ·have hg:¬ s.enough≤d.rain:=of_decide_eq_false hg
   conv=>whnf
   rw [w3,min_min]
   refine int_eq ?_
   unfold aftS
   rw [if_neg hg]
theorem lgt_w {d:Dy} {so:Int} (hd:OkDy d) (h0:0≤so) (h1:so≤1000):IntKind.i64.wrap (IntKind.i64.wrap (d.light * IntKind.i64.wrap (1000 - so))|>.tdiv 1000)=lgtS d so:=by
 have h:=Int.mul_nonneg hd.l0 (show 0≤1000 - so by omega)
 have h':=Int.mul_le_mul_of_nonneg_left (show 1000 - so≤1000 by omega) hd.l0
 have hb:=lgtS_bd hd h0 h1
 have:=hd.l1
 rw [wrap_in (n:=1000 - so) (by omega) (by omega),wrap_in (n:=d.light * (1000 - so)) (by omega) (by omega)]
 exact wrap_in (by unfold lgtS at hb;omega) (by unfold lgtS at hb;omega)
theorem c_lightD (d:Dy) (so:Int) (hd:OkDy d) (h0:0≤so) (h1:so≤1000):PC 108 [encD d,DV.int .i64 (so)] (DV.int .i64 (lgtS d so)):=by
 refine pureCall_ofR dh108 rfl ?_
 conv=>whnf
 repeat' (first
  |(refine ⟨fun hg=>?_,fun hg=>?_⟩<;>first|contradiction|(conv=>whnf))
  |(refine Or.inl ?_;conv=>whnf)
  |(refine ⟨by decide,?_⟩;conv=>whnf)
  |(refine And.intro ?_ ?_;kernel_rfl;conv=>whnf))
 exact int_eq (lgt_w hd h0 h1)
theorem c_sum (l:List Int) (B:Int) (hl:l.length < 1073741824) (hb:∀ x ∈ l,0≤x∧x≤B) (hB:l.length * B≤9223372036854775807):PC 93 [iL l] (DV.int .i64 (sumI l)):=by
 have e0:((l.map (DV.int .i64)).length:Int)=l.length:=by simp
 refine pureCall_ofR dh93 rfl ?_
 conv=>whnf
 refine dwp_loopU (P:=Tryz.prog) (G:=GC) (k:=dk93_0) (b:=db93_0) (α:=Nat) (fun i=>[(3,DV.int .i64 (sumI (l.take i))),(8,DV.int .i64 (i))]) (fun _=>[]) (fun i=>i≤l.length) (fun i=>l.length - i) 0 (Nat.zero_le _) ?_
 conv=>whnf
 refine ⟨rfl,rfl,?_⟩
 conv=>whnf
 refine ⟨rfl,?_⟩
 intro i h1
 conv=>whnf
 refine ⟨fun hq=>?_,fun hq=>?_⟩
 ·have hi:i < l.length:=by simpa using hq
  clear hq
  have hs:=sumI_take_succ l i hi
  have h2:=sumI_take_bd hb (i+1)
  conv=>whnf
  rw [getD_enc _ _ (i) 0 hi]
  refine ⟨idxA hi rfl,?_⟩
  conv=>whnf
  rw [wrap_succ i (by omega),wrap_in (n:=sumI (l.take i)+l.getD i 0) (by omega) (by omega),← hs]
  exact ⟨i+1,rfl,rfl,rfl,hi,by omega⟩
 ·have hi:i=l.length:=by have:=of_decide_eq_false hq;rw [e0] at this;omega
  clear hq
  rw [hi,List.take_length]
  conv=>whnf
  rfl
end Sh

namespace Sh
open Go Go.Proofs
def lastW (ws:List Int) (i:Nat):Int:=if i=0 then -1 else ws.getD (i - 1) 0
def wE (n:Nat) (x last:Int):Int:=if x < 0∨(n:Int)≤x then 10 else if x≤last then 11 else 0
theorem chkWs_drop (n:Nat) (ws:List Int) (i:Nat) (h:i < ws.length):chkWs n (lastW ws i) (ws.drop i)=if wE n (ws.getD i 0) (lastW ws i)≠0 then wE n (ws.getD i 0) (lastW ws i) else chkWs n (lastW ws (i+1)) (ws.drop (i+1)):=by
 rw [drop_getD ws i 0 h]
 have e:lastW ws (i+1)=ws.getD i 0:=by unfold lastW;rw [if_neg (by omega),Nat.add_sub_cancel]
 rw [e]
 generalize ws.getD i 0=x
 show (if x < 0∨(n:Int)≤x then 10 else if x≤lastW ws i then 11 else chkWs n x (ws.drop (i+1)))=_
 unfold wE
 split
 ·simp
 ·split<;>simp
theorem lastW_succ (ws:List Int) (i:Nat):lastW ws (i+1)=ws.getD i 0:=by unfold lastW;rw [if_neg (by omega),Nat.add_sub_cancel]
def chkSW (s:Sn) (ws:List Int):Int:=if chkSn s≠0 then chkSn s else chkWs s.days.length (-1) ws
theorem wE_first {n:Nat} {x last:Int} {b c:Bool} (hb:b=decide (x < 0∨(n:Int)≤x)) (hc:¬ (x < 0)→c=decide (x≤last)):firstE [whenE b 10,whenE c 11]=wE n x last:=by
 subst hb
 unfold wE
 by_cases h:x < 0∨(n:Int)≤x
 ·rw [if_pos h,decide_eq_true h];rfl
 ·rw [if_neg h,decide_eq_false h,hc (fun e=>h (.inl e))]
  by_cases h2:x≤last
  ·rw [if_pos h2,decide_eq_true h2];rfl
  ·rw [if_neg h2,decide_eq_false h2];rfl
theorem c_checkWashes (s:Sn) (ws:List Int) (hl:s.days.length < 1073741824) (hw:ws.length < 1073741824):PC 90 [encS s,iL ws] (DV.int .i64 (chkSW s ws)):=by
 have e0:((ws.map (DV.int .i64)).length:Int)=ws.length:=by simp
 have e1:((s.days.map encD).length:Int)=s.days.length:=by simp
 have k1:=c_CheckSeason s hl
 refine pureCall_ofR dh90 rfl ?_
 conv=>whnf
 repeat' (first
  |(refine ⟨fun hg=>?_,fun hg=>?_⟩<;>first|contradiction|(conv=>whnf))
  |(refine Or.inl ?_;conv=>whnf)
  |(refine ⟨_,k1,?_⟩;conv=>whnf)
  |(refine And.intro ?_ ?_;kernel_rfl;conv=>whnf))
 ·have hg:chkSn s≠0:=of_decide_eq_true hg
  exact int_eq (by unfold chkSW;rw [if_pos hg])
 ·have hg:¬ chkSn s≠0:=of_decide_eq_false hg
  have hk:chkSW s ws=chkWs s.days.length (lastW ws 0) (ws.drop 0):=by unfold chkSW;rw [if_neg hg];rfl
  clear k1
  refine dwp_loopU (P:=Tryz.prog) (G:=GC) (k:=dk90_0) (b:=db90_0) (α:=Nat) (fun i=>[(6,DV.int .i64 (lastW ws i)),(17,DV.int .i64 (i))]) (fun _=>[(2,.box 6 (encS s))]) (fun i=>i≤ws.length∧chkSW s ws=chkWs s.days.length (lastW ws i) (ws.drop i)) (fun i=>ws.length - i) 0 ⟨Nat.zero_le _,hk⟩ ?_
  conv=>whnf
  refine ⟨rfl,rfl,?_⟩
  conv=>whnf
  refine ⟨rfl,?_⟩
  intro i ⟨h1,h2⟩
  conv=>whnf
  refine ⟨fun hb=>?_,fun hb=>?_⟩
  ·have hi:i < ws.length:=by simpa using hb
   have hd:=chkWs_drop s.days.length ws i hi
   rw [← lastW_succ ws i] at hd
   clear hb
   conv=>whnf
   rw [getD_enc _ _ (i) 0 hi]
   refine ⟨idxA hi rfl,?_⟩
   conv=>whnf
   rw [← lastW_succ ws i]
   generalize hxe:lastW ws (i+1)=x at *
   by_cases hx:x < 0
   all_goals
    have hw1:∀ b,(x < 0→b=true)→(¬ x < 0→b=decide (((s.days.map encD).length:Int)≤x))→firstE [whenE b 10,whenE (decide (x≤lastW ws i)) 11]=wE s.days.length x (lastW ws i):=fun b g1 g2=>wE_first (by
     by_cases h:x < 0
     ·rw [g1 h,decide_eq_true (.inl h)]
     ·rw [g2 h,e1,decide_eq_decide];omega) (fun _=>rfl)
    repeat' (first
     |(refine ⟨fun hg=>?_,fun hg=>?_⟩<;>first|contradiction|(conv=>whnf))
     |(refine Or.inl ?_;conv=>whnf)
     |(refine ⟨_,c_when ..,?_⟩;conv=>whnf)
     |(refine ⟨_,c_first [_,_] (by simp),?_⟩;conv=>whnf)
     |(refine And.intro ?_ ?_;kernel_rfl;conv=>whnf))
    all_goals
     first
     |contradiction
     |(have hg:firstE [whenE _ 10,whenE _ 11]≠0:=of_decide_eq_true hg
       rw [hw1 _ (fun _=>by simp_all) (fun _=>by simp_all)] at hg ⊢
       rw [if_pos hg] at hd
       exact int_eq (by rw [h2,hd]))
     |(have hg:¬ firstE [whenE _ 10,whenE _ 11]≠0:=of_decide_eq_false hg
       rw [hw1 _ (fun _=>by simp_all) (fun _=>by simp_all)] at hg
       rw [if_neg hg] at hd
       rw [wrap_succ i (by omega)]
       refine ⟨i+1,rfl,?_,rfl,⟨hi,by rw [h2,hd,hxe]⟩,by omega⟩
       rw [hxe];rfl)
  ·have hi:i=ws.length:=by have:=of_decide_eq_false hb;rw [e0] at this;omega
   clear hb
   conv=>whnf
   exact int_eq (by rw [h2,hi,List.drop_of_length_le (Nat.le_refl _)];rfl)
end Sh

namespace Sh
open Go
end Sh

namespace Sh
open Go
def curS (s:Sn) (ws:List Int):Nat→Int
 |0=>s.soil
 |i+1=>aftS s (s.days.getD i D0) (wshS ws i (curS s ws i))
def dirtS (s:Sn) (ws:List Int) (i:Nat):List Int:=rng i (fun k=>wshS ws k (curS s ws k))++[curS s ws i]
theorem curS_bd {s:Sn} (hs:OkSn s) (ws:List Int):∀ i,i≤s.days.length→0≤curS s ws i∧curS s ws i≤1000
 |0,_=>⟨hs.s0,hs.s1⟩
 |i+1,h=>by
  have ih:=curS_bd hs ws i (by omega)
  have hw:=wshS_bd (ws:=ws) (i:=i) ih.1 ih.2
  exact aftS_bd hs (hs.ds _ (getD_in D0 (by omega))) hw.1 hw.2
theorem soilF_cur (s:Sn) (ws:List Int):∀ (m i:Nat),i+m=s.days.length→soilF s ws i (curS s ws i) (s.days.drop i)=(List.range' i m).map (fun k=>wshS ws k (curS s ws k))++[curS s ws s.days.length]
 |0,i,h=>by
  have h:i=s.days.length:=by omega
  subst h
  rw [List.drop_of_length_le (Nat.le_refl _)];rfl
 |m+1,i,h=>by
  rw [drop_getD s.days i D0 (by omega),List.range'_succ,List.map_cons,List.cons_append]
  have:=soilF_cur s ws m (i+1) (by omega)
  rw [← this]
  rfl
theorem soils_dirt (s:Sn) (ws:List Int):soilsS s ws=dirtS s ws s.days.length:=by
 have h:=soilF_cur s ws s.days.length 0 (by omega)
 rw [List.drop_zero] at h
 unfold soilsS dirtS
 rw [show s.soil=curS s ws 0 from rfl,h]
 unfold rng
 rw [List.range_eq_range']
theorem dirtS_len (s:Sn) (ws:List Int) (i:Nat):(dirtS s ws i).length=i+1:=by unfold dirtS;rw [List.length_append,rng_len];rfl
theorem dirtS_set (s:Sn) (ws:List Int) (i:Nat) (h:(i:Int) ∈ ws):(dirtS s ws i).set i 0=rng (i+1) (fun k=>wshS ws k (curS s ws k)):=by
 have hw:wshS ws i (curS s ws i)=0:=by unfold wshS;exact if_pos h
 unfold dirtS
 rw [rng_succ,hw,List.set_append_right _ _ (by rw [rng_len];exact Nat.le_refl _),rng_len,Nat.sub_self];rfl
theorem dirtS_same (s:Sn) (ws:List Int) (i:Nat) (h:(i:Int) ∉ ws):dirtS s ws i=rng (i+1) (fun k=>wshS ws k (curS s ws k)):=by
 have hw:wshS ws i (curS s ws i)=curS s ws i:=by unfold wshS;exact if_neg h
 unfold dirtS
 rw [rng_succ,hw]
theorem dirtS_succ (s:Sn) (ws:List Int) (i:Nat):dirtS s ws (i+1)=rng (i+1) (fun k=>wshS ws k (curS s ws k))++[aftS s (s.days.getD i D0) (wshS ws i (curS s ws i))]:=rfl
end Sh

namespace Sh
open Go Go.Proofs
def iD (l:List Int):List DV:=l.map (DV.int .i64)
theorem iD_len (l:List Int):(iD l).length=l.length:=List.length_map _
theorem iD_app (l:List Int) (x:Int):iD (l++[x])=iD l++[DV.int .i64 (x)]:=by unfold iD;rw [List.map_append];rfl
theorem iD_set (l:List Int) (i:Nat) (x:Int):(iD l).set i (DV.int .i64 (x))=iD (l.set i x):=by unfold iD;rw [List.map_set]
theorem iD_set' (l:List Int) (i:Nat) (x:Int) {v:DV} (h:v=DV.int .i64 (x)):(iD l).set i v=iD (l.set i x):=by rw [h];exact iD_set l i x
theorem iD_get (l:List Int) (i:Nat) (h:i < l.length):(iD l).getD i .undef=DV.int .i64 (l.getD i 0):=by unfold iD;simp [List.getD_eq_getElem?_getD,h]
theorem iD_ok (l:List Int):∀ e ∈ iD l,okE 1 e=true:=fun e he=>by obtain ⟨x,_,rfl⟩:=List.mem_map.1 he;rfl
theorem copied (l z:List DV) (hz:z.length=l.length):z.take 0++(window l 0 l.length).take l.length++z.drop (0+min (window l 0 l.length).length l.length)=l:=by
 rw [window_full,Nat.min_self,Nat.zero_add,List.drop_of_length_le (by omega),List.take_length];simp
theorem c_soils (s:Sn) (ws:List Int) (hs:OkSn s) (hw:ws.length < 1073741824):PC 91 [encS s,iL ws] (iL (soilsS s ws)):=by
 have e1:((s.days.map encD).length:Int)=s.days.length:=by simp
 have hn:=hs.n1
 rw [soils_dirt]
 refine pureCall_ofR dh91 rfl ?_
 conv=>whnf
 refine dwp_loopU (P:=Tryz.prog) (G:=GC) (k:=dk91_0) (b:=db91_0) (α:=Nat) (fun i=>[(5,.own 11 0 (iD (dirtS s ws i)).length (iD (dirtS s ws i)).length),(15,DV.int .i64 (i))]) (fun i=>[(2,.box 6 (encS s)),(11,.row 1 (iD (dirtS s ws i)) false)]) (fun i=>i≤s.days.length) (fun i=>s.days.length - i) 0 (Nat.zero_le _) ?_
 conv=>whnf
 refine ⟨rfl,rfl,?_⟩
 conv=>whnf
 refine ⟨rfl,?_⟩
 intro i h1
 conv=>whnf
 refine ⟨fun hb=>?_,fun hb=>?_⟩
 ·have hi:i < s.days.length:=by simpa using hb
  have hd:=hs.ds _ (getD_in D0 hi)
  have hcb:=curS_bd hs ws i h1
  have hwb:=wshS_bd (ws:=ws) (i:=i) hcb.1 hcb.2
  have hsu:=dirtS_succ s ws i
  have hdl:=dirtS_len s ws i
  have hdl2:=dirtS_len s ws (i+1)
  clear hb
  conv=>whnf
  rw [getD_enc _ _ (i) D0 hi]
  refine ⟨idxA hi rfl,?_⟩
  conv=>whnf
  generalize s.days.getD i D0=d at *
  have k1:=c_after s d (wshS ws i (curS s ws i)) hs hd hwb.1 hwb.2
  have hrl:(rng (i+1) (fun k=>wshS ws k (curS s ws k))).length=i+1:=rng_len _ _
  have hrg:(rng (i+1) (fun k=>wshS ws k (curS s ws k))).getD i 0=wshS ws i (curS s ws i):=rng_getD _ 0 (Nat.lt_succ_self i)
  have hin:(i:Int) ∈ ws→(dirtS s ws i).set i 0=rng (i+1) (fun k=>wshS ws k (curS s ws k)):=fun h=>dirtS_set s ws i h
  have hno:(i:Int) ∉ ws→dirtS s ws i=rng (i+1) (fun k=>wshS ws k (curS s ws k)):=fun h=>dirtS_same s ws i h
  generalize rng (i+1) (fun k=>wshS ws k (curS s ws k))=R at *
  generalize wshS ws i (curS s ws i)=so at *
  generalize aftS s d so=a at *
  refine .inl ?_
  conv=>whnf
  refine ⟨_,c_Contains ws (i:Int) (by omega),?_⟩
  conv=>whnf
  refine ⟨fun hg=>?_,fun hg=>?_⟩
  ·have hg:(i:Int) ∈ ws:=of_decide_eq_true hg
   have hset:=hin hg
   conv=>whnf
   refine ⟨⟨rfl,by omega,by rw [iD_len,hdl];omega⟩,?_⟩
   conv=>whnf
   refine ⟨⟨rfl,by decide,rfl⟩,?_⟩
   rw [Int.toNat_natCast,Nat.zero_add,iD_set' (dirtS s ws i) i 0 (h:=?hv),hset]
   case hv=>rfl
   conv=>whnf
   refine ⟨⟨by rw [iD_len,iD_len,hdl,hrl],by omega,by rw [iD_len,hdl];omega⟩,?_⟩
   conv=>whnf
   refine ⟨⟨by rw [iD_len,iD_len,hdl,hrl],by decide⟩,?_⟩
   rw [Int.toNat_natCast,Nat.zero_add,iD_get R i (by omega),hrg]
   conv=>whnf
   repeat' (first
    |(refine ⟨fun hg=>?_,fun hg=>?_⟩<;>first|contradiction|(conv=>whnf))
    |(refine Or.inl ?_;conv=>whnf)
    |(refine ⟨_,k1,?_⟩;conv=>whnf)
    |(refine And.intro ?_ ?_;kernel_rfl;conv=>whnf))
   refine ⟨⟨rfl,by rw [iD_len,iD_len,hdl,hrl],by rw [iD_len,iD_len,hdl,hrl],by rw [iD_len,hrl];simp;omega,fun e he=>by simp at he;subst he;rfl⟩,?_⟩
   conv=>whnf
   refine ⟨by kernel_rfl,?_⟩
   conv=>whnf
   rw [wrap_succ i (by omega)]
   refine ⟨i+1,rfl,?_,?_,hi,by omega⟩
   ·rw [hsu,iD_app];rfl
   ·rw [hsu,iD_app];rfl
  ·have hg:(i:Int) ∉ ws:=of_decide_eq_false hg
   have hset:=hno hg
   rw [hset]
   conv=>whnf
   refine ⟨⟨rfl,by omega,by rw [iD_len,hrl];omega⟩,?_⟩
   conv=>whnf
   refine ⟨⟨rfl,by decide⟩,?_⟩
   rw [Int.toNat_natCast,Nat.zero_add,iD_get R i (by omega),hrg]
   conv=>whnf
   repeat' (first
    |(refine ⟨fun hg=>?_,fun hg=>?_⟩<;>first|contradiction|(conv=>whnf))
    |(refine Or.inl ?_;conv=>whnf)
    |(refine ⟨_,k1,?_⟩;conv=>whnf)
    |(refine And.intro ?_ ?_;kernel_rfl;conv=>whnf))
   refine ⟨⟨rfl,rfl,rfl,by rw [iD_len,hrl];simp;omega,fun e he=>by simp at he;subst he;rfl⟩,?_⟩
   conv=>whnf
   refine ⟨by kernel_rfl,?_⟩
   conv=>whnf
   rw [wrap_succ i (by omega)]
   refine ⟨i+1,rfl,?_,?_,hi,by omega⟩
   ·rw [hsu,iD_app];rfl
   ·rw [hsu,iD_app];rfl
 ·have hi:i=s.days.length:=by have:=of_decide_eq_false hb;rw [e1] at this;omega
  have hdl:=dirtS_len s ws s.days.length
  rw [hi]
  generalize dirtS s ws s.days.length=R at *
  clear hb
  conv=>whnf
  refine ⟨rfl,?_⟩
  conv=>whnf
  refine ⟨⟨by omega,Int.le_refl _,by rw [iD_len,hdl];omega,rfl,rfl⟩,?_⟩
  conv=>whnf
  refine ⟨⟨rfl,by simp,fun e he=>iD_ok R e (by rwa [window_full] at he)⟩,?_⟩
  conv=>whnf
  rw [Int.toNat_natCast,copied (iD R) _ (List.length_replicate ..),window_full]
  exact ⟨rfl,rfl⟩
end Sh

namespace Sh
open Go Go.Proofs
theorem yldS_get (s:Sn) (ws:List Int) (i:Nat) (h:i < s.days.length):(yldS s ws).getD i 0=lgtS (s.days.getD i D0) ((soilsS s ws).getD i 0):=by
 have h2:i < (soilsS s ws).length:=by rw [soilsS_len];omega
 unfold yldS
 simp [List.getD_eq_getElem?_getD,List.getElem?_zipWith,h,h2]
theorem iD_take_len (l:List Int) (i:Nat) (h:i≤l.length):(iD (l.take i)).length=i:=by rw [iD_len,List.length_take];omega
theorem iD_take (l:List Int) (i:Nat) (h:i < l.length):iD (l.take (i+1))=iD (l.take i)++[DV.int .i64 (l.getD i 0)]:=by rw [take_snoc l i 0 h,iD_app]
theorem c_yields (s:Sn) (ws:List Int) (hs:OkSn s) (hw:ws.length < 1073741824):PC 92 [encS s,iL ws] (iL (yldS s ws)):=by
 have e1:((s.days.map encD).length:Int)=s.days.length:=by simp
 have hn:=hs.n1
 have hl:=yldS_len s ws
 have hsl:=soilsS_len s ws
 have k1:=c_soils s ws hs hw
 refine pureCall_ofR dh92 rfl ?_
 conv=>whnf
 refine .inl ?_
 conv=>whnf
 refine ⟨_,k1 ..,?_⟩
 conv=>whnf
 refine dwp_loopU (P:=Tryz.prog) (G:=GC) (k:=dk92_0) (b:=db92_0) (α:=Nat) (fun i=>[(6,.own 6 0 (iD ((yldS s ws).take i)).length (iD ((yldS s ws).take i)).length),(15,DV.int .i64 (i))]) (fun i=>[(2,.box 6 (encS s)),(6,.row 1 (iD ((yldS s ws).take i)) false)]) (fun i=>i≤s.days.length) (fun i=>s.days.length - i) 0 (Nat.zero_le _) ?_
 conv=>whnf
 refine ⟨rfl,rfl,?_⟩
 conv=>whnf
 refine ⟨rfl,?_⟩
 intro i h1
 conv=>whnf
 refine ⟨fun hb=>?_,fun hb=>?_⟩
 ·have hi:i < s.days.length:=by simpa using hb
  have hd:=hs.ds _ (getD_in D0 hi)
  have hsb:=soilsS_bd hs ws _ (getD_in (i:=i) 0 (by omega))
  have hg:=yldS_get s ws i hi
  have k2:=c_lightD (s.days.getD i D0) ((soilsS s ws).getD i 0) hd hsb.1 hsb.2
  rw [← hg] at k2
  clear hb
  conv=>whnf
  rw [getD_enc _ _ (i) D0 hi]
  refine ⟨idxA hi rfl,?_⟩
  conv=>whnf
  rw [getD_enc _ _ (i) 0 (by omega:i < (soilsS s ws).length)]
  refine ⟨idxA (by omega:i < (soilsS s ws).length) rfl,?_⟩
  conv=>whnf
  repeat' (first
   |(refine ⟨fun hg=>?_,fun hg=>?_⟩<;>first|contradiction|(conv=>whnf))
   |(refine Or.inl ?_;conv=>whnf)
   |(refine ⟨_,k2,?_⟩;conv=>whnf)
   |(refine And.intro ?_ ?_;kernel_rfl;conv=>whnf))
  refine ⟨⟨rfl,rfl,rfl,by rw [iD_take_len _ _ (by omega)];simp;omega,fun e he=>by simp at he;subst he;rfl⟩,?_⟩
  conv=>whnf
  refine ⟨by kernel_rfl,?_⟩
  conv=>whnf
  rw [wrap_succ i (by omega)]
  refine ⟨i+1,rfl,?_,?_,hi,by omega⟩
  ·rw [iD_take _ _ (by omega)];rfl
  ·rw [iD_take _ _ (by omega)];rfl
 ·have hi:i=s.days.length:=by have:=of_decide_eq_false hb;rw [e1] at this;omega
  clear hb
  conv=>whnf
  refine ⟨rfl,?_⟩
  rw [window_full,hi,List.take_of_length_le (by omega)];rfl
theorem worth_w {s:Sn} (hs:OkSn s) (ws:List Int) (hw:ws.length < 1073741824):IntKind.i64.wrap (IntKind.i64.wrap (s.price * sumI (yldS s ws)) - IntKind.i64.wrap (s.cost * (ws.length:Int)))=worthS s ws:=by
 have hb:=sumY_bd hs ws
 have h1:=Int.mul_nonneg hs.p0 hb.1
 have h2:=Int.mul_le_mul hs.p1 hb.2 hb.1 (by decide)
 have h3:=Int.mul_nonneg hs.c0 (show (0:Int)≤ws.length by omega)
 have h4:=Int.mul_le_mul hs.c1 (show (ws.length:Int)≤1073741824 by omega) (by omega) (by decide)
 unfold worthS
 rw [wrap_in (n:=s.price * sumI (yldS s ws)) (by omega) (by omega),wrap_in (n:=s.cost * (ws.length:Int)) (by omega) (by omega)]
 exact wrap_in (by omega) (by omega)
def optL (k:Int) (l:List Int):DV:=.tuple [iL (if k≠0 then [] else l),DV.int .i64 (k)]
theorem optL_no {k:Int} (h:k≠0) (l:List Int):optL k l=.tuple [iL [],DV.int .i64 (k)]:=by unfold optL;rw [if_pos h]
theorem optL_yes {k:Int} (h:¬ k≠0) (l:List Int):optL k l=.tuple [iL l,DV.int .i64 (0)]:=by unfold optL;rw [if_neg h,show k=0 by omega]
def optI (k n:Int):DV:=.tuple [DV.int .i64 (if k≠0 then 0 else n),DV.int .i64 (k)]
theorem optI_no {k:Int} (h:k≠0) (n:Int):optI k n=.tuple [DV.int .i64 (0),DV.int .i64 (k)]:=by unfold optI;rw [if_pos h]
theorem optI_yes {k:Int} (h:¬ k≠0) (n:Int):optI k n=.tuple [DV.int .i64 (n),DV.int .i64 (0)]:=by unfold optI;rw [if_neg h,show k=0 by omega]
theorem chkSW_ok {s:Sn} {ws:List Int} (h:¬ chkSW s ws≠0):OkSn s:=by
 unfold chkSW at h
 split at h
 ·rename_i h';exact absurd h' h
 ·rename_i h';exact chkSn_zero (by omega)
theorem c_Soils (s:Sn) (ws:List Int) (hl:s.days.length < 1073741824) (hw:ws.length < 1073741824):PC 18 [encS s,iL ws] (optL (chkSW s ws) (soilsS s ws)):=by
 have k1:=c_checkWashes s ws hl hw
 by_cases hc:chkSW s ws≠0
 ·rw [optL_no hc]
  generalize chkSW s ws=k at *
  refine pureCall_ofR dh18 rfl ?_
  conv=>whnf
  repeat' (first
   |(refine ⟨fun hg=>?_,fun hg=>?_⟩<;>first|contradiction|(exfalso;revert hg;simp;done)|(exfalso;exact absurd (of_decide_eq_true hg) (by assumption))|(exfalso;exact absurd (by assumption) (of_decide_eq_false hg))|(conv=>whnf))
   |(refine Or.inl ?_;conv=>whnf)
   |(refine ⟨_,k1,?_⟩;conv=>whnf)
   |(refine And.intro ?_ ?_;kernel_rfl;conv=>whnf))
  rfl
 ·rw [optL_yes hc]
  have k2:=c_soils s ws (chkSW_ok hc) hw
  generalize chkSW s ws=k at *
  refine pureCall_ofR dh18 rfl ?_
  conv=>whnf
  repeat' (first
   |(refine ⟨fun hg=>?_,fun hg=>?_⟩<;>first|contradiction|(exfalso;revert hg;simp;done)|(exfalso;exact absurd (of_decide_eq_true hg) (by assumption))|(exfalso;exact absurd (by assumption) (of_decide_eq_false hg))|(conv=>whnf))
   |(refine Or.inl ?_;conv=>whnf)
   |(refine ⟨_,k1,?_⟩;conv=>whnf)
   |(refine ⟨_,k2,?_⟩;conv=>whnf)
   |(refine And.intro ?_ ?_;kernel_rfl;conv=>whnf))
  rfl
theorem c_Yields (s:Sn) (ws:List Int) (hl:s.days.length < 1073741824) (hw:ws.length < 1073741824):PC 21 [encS s,iL ws] (optL (chkSW s ws) (yldS s ws)):=by
 have k1:=c_checkWashes s ws hl hw
 by_cases hc:chkSW s ws≠0
 ·rw [optL_no hc]
  generalize chkSW s ws=k at *
  refine pureCall_ofR dh21 rfl ?_
  conv=>whnf
  repeat' (first
   |(refine ⟨fun hg=>?_,fun hg=>?_⟩<;>first|contradiction|(exfalso;revert hg;simp;done)|(exfalso;exact absurd (of_decide_eq_true hg) (by assumption))|(exfalso;exact absurd (by assumption) (of_decide_eq_false hg))|(conv=>whnf))
   |(refine Or.inl ?_;conv=>whnf)
   |(refine ⟨_,k1,?_⟩;conv=>whnf)
   |(refine And.intro ?_ ?_;kernel_rfl;conv=>whnf))
  rfl
 ·rw [optL_yes hc]
  have k2:=c_yields s ws (chkSW_ok hc) hw
  generalize chkSW s ws=k at *
  refine pureCall_ofR dh21 rfl ?_
  conv=>whnf
  repeat' (first
   |(refine ⟨fun hg=>?_,fun hg=>?_⟩<;>first|contradiction|(exfalso;revert hg;simp;done)|(exfalso;exact absurd (of_decide_eq_true hg) (by assumption))|(exfalso;exact absurd (by assumption) (of_decide_eq_false hg))|(conv=>whnf))
   |(refine Or.inl ?_;conv=>whnf)
   |(refine ⟨_,k1,?_⟩;conv=>whnf)
   |(refine ⟨_,k2,?_⟩;conv=>whnf)
   |(refine And.intro ?_ ?_;kernel_rfl;conv=>whnf))
  rfl
theorem c_Worth (s:Sn) (ws:List Int) (hl:s.days.length < 1073741824) (hw:ws.length < 1073741824):PC 22 [encS s,iL ws] (optI (chkSW s ws) (worthS s ws)):=by
 have k1:=c_checkWashes s ws hl hw
 by_cases hc:chkSW s ws≠0
 ·rw [optI_no hc]
  generalize chkSW s ws=k at *
  refine pureCall_ofR dh22 rfl ?_
  conv=>whnf
  repeat' (first
   |(refine ⟨fun hg=>?_,fun hg=>?_⟩<;>first|contradiction|(exfalso;revert hg;simp;done)|(exfalso;exact absurd (of_decide_eq_true hg) (by assumption))|(exfalso;exact absurd (by assumption) (of_decide_eq_false hg))|(conv=>whnf))
   |(refine Or.inl ?_;conv=>whnf)
   |(refine ⟨_,k1,?_⟩;conv=>whnf)
   |(refine And.intro ?_ ?_;kernel_rfl;conv=>whnf))
  rfl
 ·rw [optI_yes hc]
  have hs:=chkSW_ok hc
  have k2:=c_yields s ws hs hw
  have hn:=hs.n1
  have k3:=c_sum (yldS s ws) 100000 (by rw [yldS_len];omega) (yldS_bd hs ws) (by rw [yldS_len];omega)
  have hq:=worth_w hs ws hw
  have e0:((ws.map (DV.int .i64)).length:Int)=ws.length:=by simp
  generalize chkSW s ws=k at *
  refine pureCall_ofR dh22 rfl ?_
  conv=>whnf
  repeat' (first
   |(refine ⟨fun hg=>?_,fun hg=>?_⟩<;>first|contradiction|(exfalso;revert hg;simp;done)|(exfalso;exact absurd (of_decide_eq_true hg) (by assumption))|(exfalso;exact absurd (by assumption) (of_decide_eq_false hg))|(conv=>whnf))
   |(refine Or.inl ?_;conv=>whnf)
   |(refine ⟨_,k1,?_⟩;conv=>whnf)
   |(refine ⟨_,k2,?_⟩;conv=>whnf)
   |(refine ⟨_,k3,?_⟩;conv=>whnf)
   |(refine And.intro ?_ ?_;kernel_rfl;conv=>whnf))
  rw [← hq,← e0];rfl
end Sh

namespace Sh
open Go Go.Proofs
end Sh

namespace Sh
open Go Go.Proofs
end Sh

namespace Sh
open Go
def db37_0x : DC := (.seq (.ops false [⟨some 9,.mov (.tmp 23),none,[]⟩]) (.ops false [⟨some 10,.mov (.tmp 24),none,[]⟩]))
def db37_0 : DC := (.block 1 none (.seq (.ops true [⟨some 25,.load none (.tmp 7),none,[]⟩,⟨some 26,.load none (.tmp 6),none,[]⟩,⟨some 27,.mov (.tmp 9),none,[]⟩,⟨some 28,.iaddr 2 (.tmp 26) (.tmp 27),none,[1,2]⟩,⟨some 29,.faddr 0 1 true (.tmp 28),none,[3,1,2]⟩,⟨some 30,.load (some 1) (.tmp 29),none,[4,3,1,2]⟩,⟨some 31,.faddr 4 1 false (.tmp 1),none,[]⟩,⟨some 32,.load none (.tmp 31),none,[6]⟩,⟨some 33,.load none (.tmp 8),none,[]⟩,⟨some 34,.bin .mul (.tmp 32) (.tmp 33),none,[7,6,8]⟩,⟨some 35,.load none (.tmp 6),none,[]⟩,⟨some 36,.mov (.tmp 9),none,[]⟩,⟨some 37,.iaddr 2 (.tmp 35) (.tmp 36),none,[10,11]⟩,⟨some 38,.faddr 1 1 false (.tmp 37),none,[12,10,11]⟩,⟨some 39,.load none (.tmp 38),none,[13,12,10,11]⟩,⟨some 40,.bin .add (.tmp 34) (.tmp 39),none,[9,7,6,8,14,13,12,10,11]⟩,⟨some 41,.build [.full [],.int .i64 0] [(0,(1,(.tmp 30))),(1,(1,(.tmp 40)))],none,[5,4,3,1,2,15,9,7,6,8,14,13,12,10,11]⟩,⟨some 42,.lit true 2 1 (.agg [.full [],.int .i64 0]) [(0,(.tmp 41))],none,[16,5,4,3,1,2,15,9,7,6,8,14,13,12,10,11]⟩,⟨some 43,.append false 2 (.tmp 25) (.tmp 42),none,[0,17,16,5,4,3,1,2,15,9,7,6,8,14,13,12,10,11]⟩,⟨none,.store 1 (.tmp 7) (.tmp 43),none,[18,0,17,16,5,4,3,1,2,15,9,7,6,8,14,13,12,10,11]⟩]) (.ops true [⟨some 44,.load none (.tmp 8),none,[]⟩,⟨some 45,.faddr 3 1 false (.tmp 1),none,[]⟩,⟨some 46,.load none (.tmp 45),none,[1]⟩,⟨some 47,.mov (.tmp 9),none,[]⟩,⟨some 48,.iaddr 3 (.tmp 46) (.tmp 47),none,[2,1,3]⟩,⟨some 49,.load (some 3) (.tmp 48),none,[4,2,1,3]⟩,⟨some 50,.mov (.tmp 10),none,[]⟩,⟨some 51,.call (.func 108) [.tmp 49,.tmp 50],none,[5,4,2,1,3,6]⟩,⟨some 52,.bin .add (.tmp 44) (.tmp 51),none,[0,7,5,4,2,1,3,6]⟩,⟨none,.store 1 (.tmp 8) (.tmp 52),none,[8,0,7,5,4,2,1,3,6]⟩])))
def dk37_0 : Keep := ⟨[],[1,2,3,4,6,7,8],[1,6,7,8,11,43,59,60,500070]⟩
def dc37 : DFunc := ⟨68,1,[.tmp 2,.tmp 3,.tmp 4],.seq (.ops false [⟨some 1,.box 6 (.tmp 0),none,[]⟩,⟨some 2,.mov (.const (.slice none 0 0)),none,[]⟩,⟨some 3,.mov (.const (.int .i64 0)),none,[]⟩,⟨some 4,.mov (.const (.int .i64 0)),none,[]⟩]) (.seq (.seq (.ops false [⟨some 12,.load (some 6) (.tmp 1),none,[]⟩,⟨some 13,.call (.func 31) [.tmp 12],none,[]⟩,⟨some 5,.mov (.tmp 13),none,[]⟩]) (.seq (.ops false [⟨some 14,.mov (.tmp 5),none,[]⟩,⟨some 15,.bin .neq (.tmp 14) (.const (.int .i64 0)),none,[]⟩]) (.cond (.tmp 15) (.seq (.ops false [⟨some 16,.mov (.tmp 5),none,[]⟩,⟨some 2,.mov (.const (.slice none 0 0)),none,[]⟩,⟨some 3,.mov (.const (.int .i64 0)),none,[]⟩,⟨some 4,.mov (.tmp 16),none,[]⟩]) .ret) .skip))) (.seq (.ops false [⟨some 17,.load (some 6) (.tmp 1),none,[]⟩,⟨some 18,.call (.func 106) [.tmp 17],none,[]⟩,⟨some 6,.alloc (.full []) 1,none,[]⟩,⟨none,.store 1 (.tmp 6) (.tmp 18),none,[]⟩]) (.seq (.ops false [⟨some 7,.allocO (.full []) 1 [(0,2)],none,[]⟩]) (.seq (.ops false [⟨some 8,.alloc (.int .i64 0) 1,none,[]⟩,⟨none,.store 1 (.tmp 8) (.const (.int .i64 0)),none,[]⟩]) (.seq (.seq (.ops false [⟨some 19,.load (some 6) (.tmp 1),none,[]⟩,⟨some 20,.faddr 2 1 false (.tmp 1),none,[]⟩,⟨some 21,.load none (.tmp 20),none,[]⟩,⟨some 22,.call (.func 107) [.tmp 19,.const (.int .i64 0),.tmp 21],none,[]⟩]) (.block 0 (some ⟨[],[1,7,8],[1,6,7,8,11,43,59,60,500070]⟩) (.rangeF dk37_0 (.tmp 22) [23,24] db37_0x db37_0))) (.seq (.ops false [⟨some 53,.load none (.tmp 7),none,[]⟩,⟨some 54,.faddr 4 1 false (.tmp 1),none,[]⟩,⟨some 55,.load none (.tmp 54),none,[]⟩,⟨some 56,.load none (.tmp 8),none,[]⟩,⟨some 57,.bin .mul (.tmp 55) (.tmp 56),none,[]⟩,⟨some 58,.build [.full [],.int .i64 0] [(1,(1,(.tmp 57)))],none,[]⟩,⟨some 59,.lit true 2 1 (.agg [.full [],.int .i64 0]) [(0,(.tmp 58))],none,[]⟩,⟨some 60,.append false 2 (.tmp 53) (.tmp 59),none,[]⟩,⟨some 61,.call (.func 109) [.tmp 60],none,[]⟩,⟨some 11,.alloc (.agg [.full [],.int .i64 0]) 2,none,[]⟩,⟨none,.store 2 (.tmp 11) (.tmp 61),none,[]⟩]) (.seq (.ops true [⟨some 62,.faddr 0 1 true (.tmp 11),none,[]⟩,⟨some 63,.faddr 0 1 false (.tmp 62),none,[0]⟩,⟨some 64,.load none (.tmp 63),none,[1,0]⟩,⟨some 65,.call (.func 104) [.tmp 64],none,[2,1,0]⟩,⟨some 66,.faddr 1 1 false (.tmp 11),none,[]⟩,⟨some 67,.load none (.tmp 66),none,[4]⟩,⟨some 2,.mov (.tmp 65),none,[3,2,1,0]⟩,⟨some 3,.mov (.tmp 67),none,[5,4,6,3,2,1,0]⟩,⟨some 4,.mov (.const (.int .i64 0)),none,[7,5,4,6,3,2,1,0]⟩]) .ret)))))))⟩
theorem dh37:cProg Go.Proofs.Tryz.prog ⟨[(0,⟨[],[1,2,3,4,6,7,8],[1,6,7,8,11,43,59,60,500070]⟩)],[(0,⟨[],[1,7,8],[1,6,7,8,11,43,59,60,500070]⟩)],[7,42,59]⟩ 37=some dc37:=by kernel_rfl
def dc39 : DFunc := ⟨13,1,[.tmp 2,.tmp 3],.seq (.ops false [⟨some 1,.box 6 (.tmp 0),none,[]⟩,⟨some 2,.mov (.const (.slice none 0 0)),none,[]⟩,⟨some 3,.mov (.const (.int .i64 0)),none,[]⟩]) (.seq (.seq (.ops false [⟨some 5,.load (some 6) (.tmp 1),none,[]⟩,⟨some 6,.call (.func 31) [.tmp 5],none,[]⟩,⟨some 4,.mov (.tmp 6),none,[]⟩]) (.seq (.ops false [⟨some 7,.mov (.tmp 4),none,[]⟩,⟨some 8,.bin .neq (.tmp 7) (.const (.int .i64 0)),none,[]⟩]) (.cond (.tmp 8) (.seq (.ops false [⟨some 9,.mov (.tmp 4),none,[]⟩,⟨some 2,.mov (.const (.slice none 0 0)),none,[]⟩,⟨some 3,.mov (.tmp 9),none,[]⟩]) .ret) .skip))) (.seq (.ops false [⟨some 10,.load (some 6) (.tmp 1),none,[]⟩,⟨some 11,.call (.func 106) [.tmp 10],none,[]⟩,⟨some 12,.call (.func 112) [.tmp 11,.func 113],none,[]⟩,⟨some 2,.mov (.tmp 12),none,[]⟩,⟨some 3,.mov (.const (.int .i64 0)),none,[]⟩]) .ret))⟩
theorem dh39:cProg Go.Proofs.Tryz.prog ⟨[],[],[]⟩ 39=some dc39:=by kernel_rfl
def db43_0x : DC := (.seq (.ops false [⟨some 12,.mov (.tmp 51),none,[]⟩]) (.ops false [⟨some 13,.mov (.tmp 52),none,[]⟩]))
def db43_0 : DC := (.block 3 none (.seq (.ops true [⟨some 53,.load none (.tmp 11),none,[]⟩,⟨some 54,.faddr 3 1 false (.tmp 3),none,[]⟩,⟨some 55,.load none (.tmp 54),none,[1]⟩,⟨some 56,.mov (.tmp 12),none,[]⟩,⟨some 57,.iaddr 3 (.tmp 55) (.tmp 56),none,[2,1,3]⟩,⟨some 58,.load (some 3) (.tmp 57),none,[4,2,1,3]⟩,⟨some 59,.mov (.tmp 13),none,[]⟩,⟨some 60,.call (.func 108) [.tmp 58,.tmp 59],none,[5,4,2,1,3,6]⟩,⟨some 61,.bin .add (.tmp 53) (.tmp 60),none,[0,7,5,4,2,1,3,6]⟩,⟨none,.store 1 (.tmp 11) (.tmp 61),none,[8,0,7,5,4,2,1,3,6]⟩]) (.seq (.seq (.ops true [⟨some 62,.load none (.tmp 4),none,[]⟩,⟨some 63,.load none (.tmp 10),none,[]⟩,⟨some 64,.iaddr 1 (.tmp 62) (.tmp 63),none,[0,1]⟩,⟨some 65,.load none (.tmp 64),none,[2,0,1]⟩,⟨some 66,.faddr 4 1 false (.tmp 3),none,[]⟩,⟨some 67,.load none (.tmp 66),none,[4]⟩,⟨some 68,.load none (.tmp 11),none,[]⟩,⟨some 69,.bin .mul (.tmp 67) (.tmp 68),none,[5,4,6]⟩,⟨some 70,.faddr 5 1 false (.tmp 3),none,[]⟩,⟨some 71,.load none (.tmp 70),none,[8]⟩,⟨some 72,.bin .sub (.tmp 69) (.tmp 71),none,[7,5,4,6,9,8]⟩,⟨some 73,.load none (.tmp 4),none,[]⟩,⟨some 74,.mov (.tmp 12),none,[]⟩,⟨some 75,.bin .add (.tmp 74) (.const (.int .i64 1)),none,[12]⟩,⟨some 76,.iaddr 1 (.tmp 73) (.tmp 75),none,[11,13,12]⟩,⟨some 77,.load none (.tmp 76),none,[14,11,13,12]⟩,⟨some 78,.bin .add (.tmp 72) (.tmp 77),none,[10,7,5,4,6,9,8,15,14,11,13,12]⟩,⟨some 79,.bin .geq (.tmp 65) (.tmp 78),none,[3,2,0,1,16,10,7,5,4,6,9,8,15,14,11,13,12]⟩]) (.cond (.tmp 79) (.exit 3) .skip)) (.seq (.ops false [⟨none,.store 1 (.tmp 8) (.const (.int .i64 (-1))),none,[]⟩]) (.exit 0)))))
def dk43_0 : Keep := ⟨[],[3,4,5,6,8,10,11,44,45],[3,4,5,6,8,10,11,14,34]⟩
def db43_1 : DC := (.seq (.ops false [⟨some 46,.bin .lss (.tmp 45) (.tmp 44),none,[]⟩]) (.seq (.cond (.tmp 46) .skip (.exit 0)) (.seq (.block 1 (some ⟨[],[3,4,5,6,8,44,45],[3,4,5,6,8,14,34]⟩) (.seq (.ops false [⟨some 47,.mov (.tmp 45),none,[]⟩,⟨some 10,.alloc (.int .i64 0) 1,none,[]⟩,⟨none,.store 1 (.tmp 10) (.tmp 47),none,[]⟩]) (.seq (.ops false [⟨some 11,.alloc (.int .i64 0) 1,none,[]⟩,⟨none,.store 1 (.tmp 11) (.const (.int .i64 0)),none,[]⟩]) (.seq (.ops false [⟨some 48,.load (some 6) (.tmp 3),none,[]⟩,⟨some 49,.load none (.tmp 10),none,[]⟩,⟨some 50,.call (.func 107) [.tmp 48,.tmp 49,.const (.int .i64 0)],none,[]⟩]) (.block 2 (some ⟨[],[3,4,5,6,8,44,45],[3,4,5,6,8,10,11,14,34]⟩) (.rangeF dk43_0 (.tmp 50) [51,52] db43_0x db43_0)))))) (.ops false [⟨some 80,.bin .add (.tmp 45) (.const (.int .i64 1)),none,[]⟩,⟨some 45,.mov (.tmp 80),none,[]⟩]))))
def dk43_1 : Keep := ⟨[],[3,4,5,6,8,44,45],[3,4,5,6,8,14,34]⟩
def db43_2x : DC := (.seq (.ops false [⟨some 15,.mov (.tmp 87),none,[]⟩]) (.ops false [⟨some 16,.mov (.tmp 88),none,[]⟩]))
def db43_2 : DC := (.block 5 none (.seq (.seq (.ops true [⟨some 89,.load none (.tmp 5),none,[]⟩,⟨some 90,.faddr 4 1 false (.tmp 3),none,[]⟩,⟨some 91,.load none (.tmp 90),none,[1]⟩,⟨some 92,.load none (.tmp 14),none,[]⟩,⟨some 93,.bin .mul (.tmp 91) (.tmp 92),none,[2,1,3]⟩,⟨some 94,.load none (.tmp 4),none,[]⟩,⟨some 95,.mov (.tmp 15),none,[]⟩,⟨some 96,.iaddr 1 (.tmp 94) (.tmp 95),none,[5,6]⟩,⟨some 97,.load none (.tmp 96),none,[7,5,6]⟩,⟨some 98,.bin .add (.tmp 93) (.tmp 97),none,[4,2,1,3,8,7,5,6]⟩,⟨some 99,.bin .lss (.tmp 89) (.tmp 98),none,[0,9,4,2,1,3,8,7,5,6]⟩]) (.cond (.tmp 99) (.seq (.ops false [⟨none,.store 1 (.tmp 6) (.const (.int .i64 19)),none,[]⟩]) .ret) .skip)) (.ops true [⟨some 100,.load none (.tmp 14),none,[]⟩,⟨some 101,.faddr 3 1 false (.tmp 3),none,[]⟩,⟨some 102,.load none (.tmp 101),none,[1]⟩,⟨some 103,.mov (.tmp 15),none,[]⟩,⟨some 104,.iaddr 3 (.tmp 102) (.tmp 103),none,[2,1,3]⟩,⟨some 105,.load (some 3) (.tmp 104),none,[4,2,1,3]⟩,⟨some 106,.mov (.tmp 16),none,[]⟩,⟨some 107,.call (.func 108) [.tmp 105,.tmp 106],none,[5,4,2,1,3,6]⟩,⟨some 108,.bin .add (.tmp 100) (.tmp 107),none,[0,7,5,4,2,1,3,6]⟩,⟨none,.store 1 (.tmp 14) (.tmp 108),none,[8,0,7,5,4,2,1,3,6]⟩])))
def dk43_2 : Keep := ⟨[],[3,4,5,6,8,14],[3,4,5,6,8,10,11,14,34]⟩
def dc43 : DFunc := ⟨121,3,[.cell 6 none],.seq (.ops false [⟨some 3,.box 6 (.tmp 0),none,[]⟩,⟨some 4,.box 1 (.tmp 1),none,[]⟩,⟨some 5,.box 1 (.tmp 2),none,[]⟩,⟨some 6,.alloc (.int .i64 0) 1,none,[]⟩]) (.seq (.seq (.ops false [⟨some 17,.load (some 6) (.tmp 3),none,[]⟩,⟨some 18,.call (.func 31) [.tmp 17],none,[]⟩,⟨some 7,.mov (.tmp 18),none,[]⟩]) (.seq (.ops false [⟨some 19,.mov (.tmp 7),none,[]⟩,⟨some 20,.bin .neq (.tmp 19) (.const (.int .i64 0)),none,[]⟩]) (.cond (.tmp 20) (.seq (.ops false [⟨some 21,.mov (.tmp 7),none,[]⟩,⟨none,.store 1 (.tmp 6) (.tmp 21),none,[]⟩]) .ret) .skip))) (.seq (.ops false [⟨some 22,.faddr 3 1 false (.tmp 3),none,[]⟩,⟨some 23,.load none (.tmp 22),none,[]⟩,⟨some 24,.len (.tmp 23),none,[]⟩,⟨some 8,.alloc (.int .i64 0) 1,none,[]⟩,⟨none,.store 1 (.tmp 8) (.tmp 24),none,[]⟩]) (.seq (.seq (.ops true [⟨some 25,.load none (.tmp 4),none,[]⟩,⟨some 26,.len (.tmp 25),none,[0]⟩,⟨some 27,.load none (.tmp 8),none,[]⟩,⟨some 28,.bin .add (.tmp 27) (.const (.int .i64 1)),none,[2]⟩,⟨some 29,.bin .neq (.tmp 26) (.tmp 28),none,[1,0,3,2]⟩,⟨some 30,.call (.func 99) [.tmp 29,.const (.int .i64 2)],none,[4,1,0,3,2]⟩,⟨some 31,.load none (.tmp 4),none,[]⟩,⟨some 32,.call (.func 115) [.tmp 31,.func 116],none,[6,5,4,1,0,3,2]⟩,⟨some 33,.call (.func 98) [.tmp 32],none,[7,6,5,4,1,0,3,2]⟩,⟨some 34,.lit true 1 2 (.int .i64 0) [(0,(.tmp 30)),(1,(.tmp 33))],none,[5,4,1,0,3,2,8,7,6]⟩,⟨some 35,.call (.func 98) [.tmp 34],none,[9,5,4,1,0,3,2,8,7,6]⟩,⟨some 9,.mov (.tmp 35),none,[10,9,5,4,1,0,3,2,8,7,6]⟩]) (.seq (.ops false [⟨some 36,.mov (.tmp 9),none,[]⟩,⟨some 37,.bin .neq (.tmp 36) (.const (.int .i64 0)),none,[]⟩]) (.cond (.tmp 37) (.seq (.ops false [⟨some 38,.mov (.tmp 9),none,[]⟩,⟨none,.store 1 (.tmp 6) (.tmp 38),none,[]⟩]) .ret) .skip))) (.seq (.seq (.ops false [⟨some 39,.load none (.tmp 4),none,[]⟩,⟨some 40,.load none (.tmp 8),none,[]⟩,⟨some 41,.iaddr 1 (.tmp 39) (.tmp 40),none,[]⟩,⟨some 42,.load none (.tmp 41),none,[]⟩,⟨some 43,.bin .lss (.tmp 42) (.const (.int .i64 0)),none,[]⟩]) (.cond (.tmp 43) (.seq (.ops false [⟨none,.store 1 (.tmp 6) (.const (.int .i64 19)),none,[]⟩]) .ret) .skip)) (.seq .skip (.seq (.seq (.ops false [⟨some 44,.load none (.tmp 8),none,[]⟩,⟨some 45,.mov (.const (.int .i64 0)),none,[]⟩]) (.block 0 (some ⟨[],[3,4,5,6,8],[3,4,5,6,8,14,34]⟩) (.loop dk43_1 db43_1))) (.seq (.seq (.ops false [⟨some 81,.load none (.tmp 8),none,[]⟩,⟨some 82,.bin .lss (.tmp 81) (.const (.int .i64 0)),none,[]⟩]) (.cond (.tmp 82) (.seq (.ops false [⟨none,.store 1 (.tmp 6) (.const (.int .i64 19)),none,[]⟩]) .ret) .skip)) (.seq (.ops false [⟨some 14,.alloc (.int .i64 0) 1,none,[]⟩,⟨none,.store 1 (.tmp 14) (.const (.int .i64 0)),none,[]⟩]) (.seq (.seq (.ops false [⟨some 83,.load (some 6) (.tmp 3),none,[]⟩,⟨some 84,.faddr 2 1 false (.tmp 3),none,[]⟩,⟨some 85,.load none (.tmp 84),none,[]⟩,⟨some 86,.call (.func 107) [.tmp 83,.const (.int .i64 0),.tmp 85],none,[]⟩]) (.block 4 (some ⟨[],[3,4,5,6,8,14],[3,4,5,6,8,10,11,14,34]⟩) (.rangeF dk43_2 (.tmp 86) [87,88] db43_2x db43_2))) (.seq (.ops true [⟨some 109,.load none (.tmp 5),none,[]⟩,⟨some 110,.faddr 4 1 false (.tmp 3),none,[]⟩,⟨some 111,.load none (.tmp 110),none,[1]⟩,⟨some 112,.load none (.tmp 14),none,[]⟩,⟨some 113,.bin .mul (.tmp 111) (.tmp 112),none,[2,1,3]⟩,⟨some 114,.load none (.tmp 4),none,[]⟩,⟨some 115,.load none (.tmp 8),none,[]⟩,⟨some 116,.iaddr 1 (.tmp 114) (.tmp 115),none,[5,6]⟩,⟨some 117,.load none (.tmp 116),none,[7,5,6]⟩,⟨some 118,.bin .add (.tmp 113) (.tmp 117),none,[4,2,1,3,8,7,5,6]⟩,⟨some 119,.bin .lss (.tmp 109) (.tmp 118),none,[0,9,4,2,1,3,8,7,5,6]⟩,⟨some 120,.call (.func 99) [.tmp 119,.const (.int .i64 19)],none,[10,0,9,4,2,1,3,8,7,5,6]⟩,⟨none,.store 1 (.tmp 6) (.tmp 120),none,[11,10,0,9,4,2,1,3,8,7,5,6]⟩]) .ret))))))))))⟩
theorem dh43:cProg Go.Proofs.Tryz.prog ⟨[(0,⟨[],[3,4,5,6,8,44,45],[3,4,5,6,8,14,34]⟩),(2,⟨[],[3,4,5,6,8,10,11,44,45],[3,4,5,6,8,10,11,14,34]⟩),(4,⟨[],[3,4,5,6,8,14],[3,4,5,6,8,10,11,14,34]⟩)],[(2,⟨[],[3,4,5,6,8,44,45],[3,4,5,6,8,10,11,14,34]⟩),(1,⟨[],[3,4,5,6,8,44,45],[3,4,5,6,8,14,34]⟩),(0,⟨[],[3,4,5,6,8],[3,4,5,6,8,14,34]⟩),(4,⟨[],[3,4,5,6,8,14],[3,4,5,6,8,10,11,14,34]⟩)],[34]⟩ 43=some dc43:=by kernel_rfl
def db106_0x : DC := (.seq (.ops false [⟨some 8,.mov (.tmp 26),none,[]⟩]) (.ops false [⟨some 9,.mov (.tmp 27),none,[]⟩]))
def db106_0 : DC := (.block 3 none (.seq (.ops true [⟨some 28,.load none (.tmp 7),none,[]⟩,⟨some 29,.faddr 3 1 false (.tmp 1),none,[]⟩,⟨some 30,.load none (.tmp 29),none,[1]⟩,⟨some 31,.mov (.tmp 8),none,[]⟩,⟨some 32,.iaddr 3 (.tmp 30) (.tmp 31),none,[2,1,3]⟩,⟨some 33,.load (some 3) (.tmp 32),none,[4,2,1,3]⟩,⟨some 34,.mov (.tmp 9),none,[]⟩,⟨some 35,.call (.func 108) [.tmp 33,.tmp 34],none,[5,4,2,1,3,6]⟩,⟨some 36,.bin .add (.tmp 28) (.tmp 35),none,[0,7,5,4,2,1,3,6]⟩,⟨none,.store 1 (.tmp 7) (.tmp 36),none,[8,0,7,5,4,2,1,3,6]⟩]) (.seq (.ops false [⟨some 37,.load none (.tmp 4),none,[]⟩,⟨some 38,.mov (.tmp 8),none,[]⟩,⟨some 39,.bin .add (.tmp 38) (.const (.int .i64 1)),none,[]⟩,⟨some 40,.iaddr 2 (.tmp 37) (.tmp 39),none,[]⟩,⟨some 41,.load (some 2) (.tmp 40),none,[]⟩,⟨some 10,.alloc (.agg [.full [],.int .i64 0]) 2,none,[]⟩,⟨none,.store 2 (.tmp 10) (.tmp 41),none,[]⟩]) (.ops true [⟨some 42,.load none (.tmp 6),none,[]⟩,⟨some 43,.load none (.tmp 5),none,[]⟩,⟨some 44,.lit true 1 1 (.int .i64 0) [(0,(.tmp 43))],none,[1]⟩,⟨some 45,.faddr 0 1 true (.tmp 10),none,[]⟩,⟨some 46,.faddr 0 1 false (.tmp 45),none,[3]⟩,⟨some 47,.load none (.tmp 46),none,[4,3]⟩,⟨some 48,.append true 1 (.tmp 44) (.tmp 47),none,[2,1,5,4,3]⟩,⟨some 49,.build [.full []] [(0,(1,(.tmp 48)))],none,[6,2,1,5,4,3]⟩,⟨some 50,.faddr 4 1 false (.tmp 1),none,[]⟩,⟨some 51,.load none (.tmp 50),none,[8]⟩,⟨some 52,.load none (.tmp 7),none,[]⟩,⟨some 53,.bin .mul (.tmp 51) (.tmp 52),none,[9,8,10]⟩,⟨some 54,.faddr 5 1 false (.tmp 1),none,[]⟩,⟨some 55,.load none (.tmp 54),none,[12]⟩,⟨some 56,.bin .sub (.tmp 53) (.tmp 55),none,[11,9,8,10,13,12]⟩,⟨some 57,.faddr 1 1 false (.tmp 10),none,[]⟩,⟨some 58,.load none (.tmp 57),none,[15]⟩,⟨some 59,.bin .add (.tmp 56) (.tmp 58),none,[14,11,9,8,10,13,12,16,15]⟩,⟨some 60,.build [.full [],.int .i64 0] [(0,(1,(.tmp 49))),(1,(1,(.tmp 59)))],none,[7,6,2,1,5,4,3,17,14,11,9,8,10,13,12,16,15]⟩,⟨some 61,.lit true 2 1 (.agg [.full [],.int .i64 0]) [(0,(.tmp 60))],none,[18,7,6,2,1,5,4,3,17,14,11,9,8,10,13,12,16,15]⟩,⟨some 62,.append false 2 (.tmp 42) (.tmp 61),none,[0,19,18,7,6,2,1,5,4,3,17,14,11,9,8,10,13,12,16,15]⟩,⟨none,.store 1 (.tmp 6) (.tmp 62),none,[20,0,19,18,7,6,2,1,5,4,3,17,14,11,9,8,10,13,12,16,15]⟩]))))
def dk106_0 : Keep := ⟨[],[1,2,4,5,6,7],[1,4,5,6,7,16,62,500060]⟩
def db106_1 : DC := (.seq (.seq (.ops false [⟨some 19,.load none (.tmp 5),none,[]⟩,⟨some 20,.bin .geq (.tmp 19) (.const (.int .i64 0)),none,[]⟩]) (.cond (.tmp 20) .skip (.exit 0))) (.seq (.block 1 (some ⟨[],[1,2,4,5],[1,4,5,16]⟩) (.seq (.ops false [⟨some 6,.allocO (.full []) 1 [(0,2)],none,[]⟩]) (.seq (.ops false [⟨some 7,.alloc (.int .i64 0) 1,none,[]⟩,⟨none,.store 1 (.tmp 7) (.const (.int .i64 0)),none,[]⟩]) (.seq (.seq (.ops false [⟨some 23,.load (some 6) (.tmp 1),none,[]⟩,⟨some 24,.load none (.tmp 5),none,[]⟩,⟨some 25,.call (.func 107) [.tmp 23,.tmp 24,.const (.int .i64 0)],none,[]⟩]) (.block 2 (some ⟨[],[1,2,4,5,6],[1,4,5,6,7,16,62,500060]⟩) (.rangeF dk106_0 (.tmp 25) [26,27] db106_0x db106_0))) (.ops true [⟨some 63,.load none (.tmp 4),none,[]⟩,⟨some 64,.load none (.tmp 5),none,[]⟩,⟨some 65,.load none (.tmp 6),none,[]⟩,⟨some 66,.call (.func 109) [.tmp 65],none,[2]⟩,⟨some 67,.iaddr 2 (.tmp 63) (.tmp 64),none,[0,1,2,3]⟩,⟨none,.store 2 (.tmp 67) (.tmp 66),none,[4,0,1,2,3]⟩]))))) (.seq (.seq (.ops false [⟨some 68,.load none (.tmp 5),none,[]⟩]) (.ops false [⟨some 5,.alloc (.int .i64 0) 1,none,[]⟩,⟨none,.store 1 (.tmp 5) (.tmp 68),none,[]⟩])) (.ops false [⟨some 21,.load none (.tmp 5),none,[]⟩,⟨some 22,.bin .sub (.tmp 21) (.const (.int .i64 1)),none,[]⟩,⟨none,.store 1 (.tmp 5) (.tmp 22),none,[]⟩]))))
def dk106_1 : Keep := ⟨[],[1,2,4,5],[1,4,16]⟩
def dc106 : DFunc := ⟨70,1,[.tmp 2],.seq (.ops false [⟨some 1,.box 6 (.tmp 0),none,[]⟩,⟨some 2,.mov (.const (.slice none 0 0)),none,[]⟩]) (.seq (.ops false [⟨some 11,.faddr 3 1 false (.tmp 1),none,[]⟩,⟨some 12,.load none (.tmp 11),none,[]⟩,⟨some 13,.len (.tmp 12),none,[]⟩,⟨some 3,.mov (.tmp 13),none,[]⟩]) (.seq (.ops false [⟨some 14,.mov (.tmp 3),none,[]⟩,⟨some 15,.bin .add (.tmp 14) (.const (.int .i64 1)),none,[]⟩,⟨some 16,.mkslice 2 (.agg [.full [],.int .i64 0]) (.tmp 15) (.tmp 15),none,[]⟩,⟨some 4,.alloc (.full []) 1,none,[]⟩,⟨none,.store 1 (.tmp 4) (.tmp 16),none,[]⟩]) (.seq (.seq (.ops false [⟨some 17,.mov (.tmp 3),none,[]⟩,⟨some 18,.bin .sub (.tmp 17) (.const (.int .i64 1)),none,[]⟩,⟨some 5,.alloc (.int .i64 0) 1,none,[]⟩,⟨none,.store 1 (.tmp 5) (.tmp 18),none,[]⟩]) (.block 0 (some ⟨[],[4],[1,4,16]⟩) (.loop dk106_1 db106_1))) (.seq (.ops false [⟨some 69,.load none (.tmp 4),none,[]⟩,⟨some 2,.mov (.tmp 69),none,[]⟩]) .ret))))⟩
theorem dh106:cProg Go.Proofs.Tryz.prog ⟨[(0,⟨[],[1,2,4,5],[1,4,16]⟩),(2,⟨[],[1,2,4,5,6,7],[1,4,5,6,7,16,62,500060]⟩)],[(2,⟨[],[1,2,4,5,6],[1,4,5,6,7,16,62,500060]⟩),(1,⟨[],[1,2,4,5],[1,4,5,16]⟩),(0,⟨[],[4],[1,4,16]⟩)],[6,44,48,61]⟩ 106=some dc106:=by kernel_rfl
def dc107 : DFunc := ⟨8,3,[.tmp 6],.seq (.ops false [⟨some 3,.box 6 (.tmp 0),none,[]⟩,⟨some 4,.box 1 (.tmp 1),none,[]⟩,⟨some 5,.box 1 (.tmp 2),none,[]⟩,⟨some 6,.mov (.const .nilFunc),none,[]⟩]) (.seq (.ops false [⟨some 7,.mkfunc 147 [.tmp 4,.tmp 3,.tmp 5],none,[]⟩,⟨some 6,.mov (.tmp 7),none,[]⟩]) .ret)⟩
theorem dh107:cProg Go.Proofs.Tryz.prog ⟨[],[],[]⟩ 107=some dc107:=by kernel_rfl
def dc109 : DFunc := ⟨5,1,[.cell 2 (some 2)],.seq (.ops false [⟨some 2,.alloc (.agg [.full [],.int .i64 0]) 2,none,[]⟩]) (.seq (.ops false [⟨some 3,.mov (.tmp 0),none,[]⟩,⟨some 4,.call (.func 148) [.tmp 3,.func 149],none,[]⟩,⟨none,.store 2 (.tmp 2) (.tmp 4),none,[]⟩]) .ret)⟩
theorem dh109:cProg Go.Proofs.Tryz.prog ⟨[],[],[]⟩ 109=some dc109:=by kernel_rfl
def db112_0 : DC := (.seq (.ops false [⟨some 11,.bin .lss (.tmp 10) (.tmp 9),none,[]⟩]) (.seq (.cond (.tmp 11) .skip (.exit 0)) (.seq (.block 1 none (.seq (.ops false [⟨some 12,.iaddr 2 (.tmp 8) (.tmp 10),none,[]⟩,⟨some 13,.load (some 2) (.tmp 12),none,[]⟩,⟨some 7,.alloc (.agg [.full [],.int .i64 0]) 2,none,[]⟩,⟨none,.store 2 (.tmp 7) (.tmp 13),none,[]⟩]) (.ops false [⟨some 14,.mov (.tmp 5),none,[]⟩,⟨some 15,.mov (.tmp 1),none,[]⟩,⟨some 16,.load (some 2) (.tmp 7),none,[]⟩,⟨some 17,.call (.tmp 15) [.tmp 16],none,[]⟩,⟨some 18,.lit true 1 1 (.int .i64 0) [(0,(.tmp 17))],none,[]⟩,⟨some 19,.append false 1 (.tmp 14) (.tmp 18),none,[]⟩,⟨some 5,.mov (.tmp 19),none,[]⟩]))) (.ops false [⟨some 20,.bin .add (.tmp 10) (.const (.int .i64 1)),none,[]⟩,⟨some 10,.mov (.tmp 20),none,[]⟩]))))
def dk112_0 : Keep := ⟨[(5,1)],[1,5,8,9,10],[5]⟩
def dc112 : DFunc := ⟨22,2,[.tmp 4],.seq (.ops false [⟨some 4,.mov (.const (.slice none 0 0)),none,[]⟩]) (.seq (.ops false [⟨some 5,.mov (.const (.slice none 0 0)),none,[]⟩]) (.seq (.seq (.ops false [⟨some 8,.mov (.tmp 0),none,[]⟩,⟨some 9,.len (.tmp 8),none,[]⟩,⟨some 10,.mov (.const (.int .i64 0)),none,[]⟩]) (.block 0 (some ⟨[],[5],[5]⟩) (.loop dk112_0 db112_0))) (.seq (.ops false [⟨some 21,.mov (.tmp 5),none,[]⟩,⟨some 4,.mov (.tmp 21),none,[]⟩]) .ret)))⟩
theorem dh112:cProg Go.Proofs.Tryz.prog ⟨[(0,⟨[(5,1)],[1,5,8,9,10],[5]⟩)],[(0,⟨[],[5],[5]⟩)],[18]⟩ 112=some dc112:=by kernel_rfl
def dc113 : DFunc := ⟨5,1,[.tmp 2],.seq (.ops false [⟨some 1,.box 2 (.tmp 0),none,[]⟩,⟨some 2,.mov (.const (.int .i64 0)),none,[]⟩]) (.seq (.ops false [⟨some 3,.faddr 1 1 false (.tmp 1),none,[]⟩,⟨some 4,.load none (.tmp 3),none,[]⟩,⟨some 2,.mov (.tmp 4),none,[]⟩]) .ret)⟩
theorem dh113:cProg Go.Proofs.Tryz.prog ⟨[],[],[]⟩ 113=some dc113:=by kernel_rfl
def db147_0 : DC := (.seq (.seq (.ops false [⟨some 7,.mov (.tmp 5),none,[]⟩,⟨some 8,.faddr 3 1 false (.tmp 2),none,[]⟩,⟨some 9,.load none (.tmp 8),none,[]⟩,⟨some 10,.len (.tmp 9),none,[]⟩,⟨some 11,.bin .lss (.tmp 7) (.tmp 10),none,[]⟩]) (.cond (.tmp 11) .skip (.exit 0))) (.seq (.block 1 none (.seq (.seq (.ops false [⟨some 14,.mov (.tmp 0),none,[]⟩,⟨some 15,.mov (.tmp 5),none,[]⟩,⟨some 16,.load none (.tmp 3),none,[]⟩,⟨some 17,.call (.tmp 14) [.tmp 15,.tmp 16],none,[]⟩,⟨some 18,.un .not (.tmp 17),none,[]⟩]) (.cond (.tmp 18) .ret .skip)) (.ops true [⟨some 19,.load (some 6) (.tmp 2),none,[]⟩,⟨some 20,.faddr 3 1 false (.tmp 2),none,[]⟩,⟨some 21,.load none (.tmp 20),none,[1]⟩,⟨some 22,.mov (.tmp 5),none,[]⟩,⟨some 23,.iaddr 3 (.tmp 21) (.tmp 22),none,[2,1,3]⟩,⟨some 24,.load (some 3) (.tmp 23),none,[4,2,1,3]⟩,⟨some 25,.load none (.tmp 3),none,[]⟩,⟨some 26,.call (.func 146) [.tmp 19,.tmp 24,.tmp 25],none,[0,5,4,2,1,3,6]⟩,⟨none,.store 1 (.tmp 3) (.tmp 26),none,[7,0,5,4,2,1,3,6]⟩]))) (.ops false [⟨some 12,.mov (.tmp 5),none,[]⟩,⟨some 13,.bin .add (.tmp 12) (.const (.int .i64 1)),none,[]⟩,⟨some 5,.mov (.tmp 13),none,[]⟩])))
def dk147_0 : Keep := ⟨[],[0,2,3,5],[0,99]⟩
def dc147 : DFunc := ⟨27,4,[],.seq (.ops false [⟨some 6,.load none (.tmp 1),none,[]⟩,⟨some 5,.mov (.tmp 6),none,[]⟩]) (.block 0 (some ⟨[],[],[0,99]⟩) (.loop dk147_0 db147_0))⟩
theorem dh147:cProg Go.Proofs.Tryz.prog ⟨[(0,⟨[],[0,2,3,5],[0,99]⟩)],[(0,⟨[],[],[0,99]⟩)],[]⟩ 147=some dc147:=by kernel_rfl
def db148_0 : DC := (.seq (.seq (.ops false [⟨some 14,.mov (.tmp 6),none,[]⟩,⟨some 15,.mov (.tmp 0),none,[]⟩,⟨some 16,.len (.tmp 15),none,[]⟩,⟨some 17,.bin .lss (.tmp 14) (.tmp 16),none,[]⟩]) (.cond (.tmp 17) .skip (.exit 0))) (.seq (.block 1 none (.seq (.ops true [⟨some 20,.mov (.tmp 1),none,[]⟩,⟨some 21,.mov (.tmp 0),none,[]⟩,⟨some 22,.mov (.tmp 6),none,[]⟩,⟨some 23,.iaddr 2 (.tmp 21) (.tmp 22),none,[1,2]⟩,⟨some 24,.load (some 2) (.tmp 23),none,[3,1,2]⟩,⟨some 25,.load (some 2) (.tmp 5),none,[]⟩,⟨some 26,.call (.tmp 20) [.tmp 24,.tmp 25],none,[0,4,3,1,2,5]⟩,⟨some 27,.bin .lss (.tmp 26) (.const (.int .i64 0)),none,[6,0,4,3,1,2,5]⟩]) (.cond (.tmp 27) (.ops false [⟨some 28,.mov (.tmp 0),none,[]⟩,⟨some 29,.mov (.tmp 6),none,[]⟩,⟨some 30,.iaddr 2 (.tmp 28) (.tmp 29),none,[]⟩,⟨some 31,.load (some 2) (.tmp 30),none,[]⟩,⟨none,.store 2 (.tmp 5) (.tmp 31),none,[]⟩]) .skip))) (.ops false [⟨some 18,.mov (.tmp 6),none,[]⟩,⟨some 19,.bin .add (.tmp 18) (.const (.int .i64 1)),none,[]⟩,⟨some 6,.mov (.tmp 19),none,[]⟩])))
def dk148_0 : Keep := ⟨[],[0,1,4,5,6],[4,5]⟩
def dc148 : DFunc := ⟨33,2,[.cell 4 (some 2)],.seq (.ops false [⟨some 4,.alloc (.agg [.full [],.int .i64 0]) 2,none,[]⟩]) (.seq (.seq (.ops false [⟨some 7,.mov (.tmp 0),none,[]⟩,⟨some 8,.len (.tmp 7),none,[]⟩,⟨some 9,.bin .lss (.tmp 8) (.const (.int .i64 1)),none,[]⟩]) (.cond (.tmp 9) (.ops false [⟨some 10,.bad,none,[]⟩,⟨none,.bad,none,[]⟩]) .skip)) (.seq (.ops false [⟨some 11,.mov (.tmp 0),none,[]⟩,⟨some 12,.iaddr 2 (.tmp 11) (.const (.int .i64 0)),none,[]⟩,⟨some 13,.load (some 2) (.tmp 12),none,[]⟩,⟨some 5,.alloc (.agg [.full [],.int .i64 0]) 2,none,[]⟩,⟨none,.store 2 (.tmp 5) (.tmp 13),none,[]⟩]) (.seq (.seq (.ops false [⟨some 6,.mov (.const (.int .i64 1)),none,[]⟩]) (.block 0 (some ⟨[],[4,5],[4,5]⟩) (.loop dk148_0 db148_0))) (.seq (.ops false [⟨some 32,.load (some 2) (.tmp 5),none,[]⟩,⟨none,.store 2 (.tmp 4) (.tmp 32),none,[]⟩]) .ret))))⟩
theorem dh148:cProg Go.Proofs.Tryz.prog ⟨[(0,⟨[],[0,1,4,5,6],[4,5]⟩)],[(0,⟨[],[4,5],[4,5]⟩)],[]⟩ 148=some dc148:=by kernel_rfl
def db149_0 : DC := (.seq (.ops false [⟨some 10,.bin .lss (.tmp 9) (.const (.int .i64 3)),none,[]⟩]) (.seq (.cond (.tmp 10) .skip (.exit 0)) (.seq (.block 1 none (.seq (.ops false [⟨some 11,.indexA 3 2 true (.tmp 8) (.tmp 9),none,[]⟩,⟨some 6,.alloc (.agg [.str [],.nilfunc]) 2,none,[]⟩,⟨none,.store 2 (.tmp 6) (.tmp 11),none,[]⟩]) (.seq (.ops false [⟨some 12,.faddr 1 1 false (.tmp 6),none,[]⟩,⟨some 13,.load none (.tmp 12),none,[]⟩,⟨some 14,.load (some 2) (.tmp 2),none,[]⟩,⟨some 15,.load (some 2) (.tmp 3),none,[]⟩,⟨some 16,.call (.tmp 13) [.tmp 14,.tmp 15],none,[]⟩,⟨some 7,.mov (.tmp 16),none,[]⟩]) (.seq (.ops false [⟨some 17,.mov (.tmp 7),none,[]⟩,⟨some 18,.bin .neq (.tmp 17) (.const (.int .i64 0)),none,[]⟩]) (.cond (.tmp 18) (.seq (.ops false [⟨some 19,.mov (.tmp 7),none,[]⟩,⟨some 4,.mov (.tmp 19),none,[]⟩]) .ret) .skip))))) (.ops false [⟨some 20,.bin .add (.tmp 9) (.const (.int .i64 1)),none,[]⟩,⟨some 9,.mov (.tmp 20),none,[]⟩]))))
def dk149_0 : Keep := ⟨[],[2,3,8,9],[2,3]⟩
def dc149 : DFunc := ⟨21,2,[.tmp 4],.seq (.ops false [⟨some 2,.box 2 (.tmp 0),none,[]⟩,⟨some 3,.box 2 (.tmp 1),none,[]⟩,⟨some 4,.mov (.const (.int .i64 0)),none,[]⟩]) (.seq (.seq (.ops false [⟨some 8,.load (some 6) (.global 0),none,[]⟩,⟨some 9,.mov (.const (.int .i64 0)),none,[]⟩]) (.block 0 (some ⟨[],[],[2,3]⟩) (.loop dk149_0 db149_0))) (.seq (.ops false [⟨some 4,.mov (.const (.int .i64 0)),none,[]⟩]) .ret))⟩
theorem dh149:cProg Go.Proofs.Tryz.prog ⟨[(0,⟨[],[2,3,8,9],[2,3]⟩)],[(0,⟨[],[],[2,3]⟩)],[]⟩ 149=some dc149:=by kernel_rfl
def dc213 : DFunc := ⟨10,2,[.tmp 4],.seq (.ops false [⟨some 2,.box 2 (.tmp 0),none,[]⟩,⟨some 3,.box 2 (.tmp 1),none,[]⟩,⟨some 4,.mov (.const (.int .i64 0)),none,[]⟩]) (.seq (.ops false [⟨some 5,.faddr 1 1 false (.tmp 3),none,[]⟩,⟨some 6,.load none (.tmp 5),none,[]⟩,⟨some 7,.faddr 1 1 false (.tmp 2),none,[]⟩,⟨some 8,.load none (.tmp 7),none,[]⟩,⟨some 9,.call (.func 214) [.tmp 6,.tmp 8],none,[]⟩,⟨some 4,.mov (.tmp 9),none,[]⟩]) .ret)⟩
theorem dh213:cProg Go.Proofs.Tryz.prog ⟨[],[],[]⟩ 213=some dc213:=by kernel_rfl
def dc214 : DFunc := ⟨20,2,[.tmp 4],.seq (.ops false [⟨some 4,.mov (.const (.int .i64 0)),none,[]⟩]) (.seq (.ops false [⟨some 7,.mov (.tmp 0),none,[]⟩,⟨some 8,.call (.func 218) [.tmp 7],none,[]⟩,⟨some 5,.mov (.tmp 8),none,[]⟩]) (.seq (.ops false [⟨some 9,.mov (.tmp 1),none,[]⟩,⟨some 10,.call (.func 218) [.tmp 9],none,[]⟩,⟨some 6,.mov (.tmp 10),none,[]⟩]) (.seq (.seq (.ops false [⟨some 11,.mov (.tmp 5),none,[]⟩]) (.cond (.tmp 11) (.seq (.seq (.ops false [⟨some 12,.mov (.tmp 6),none,[]⟩]) (.cond (.tmp 12) (.seq (.ops false [⟨some 4,.mov (.const (.int .i64 0)),none,[]⟩]) .ret) .skip)) (.seq (.ops false [⟨some 4,.mov (.const (.int .i64 (-1))),none,[]⟩]) .ret)) .skip)) (.seq (.seq (.ops false [⟨some 13,.mov (.tmp 6),none,[]⟩]) (.cond (.tmp 13) (.seq (.ops false [⟨some 4,.mov (.const (.int .i64 1)),none,[]⟩]) .ret) .skip)) (.seq (.seq (.ops false [⟨some 14,.mov (.tmp 0),none,[]⟩,⟨some 15,.mov (.tmp 1),none,[]⟩,⟨some 16,.bin .lss (.tmp 14) (.tmp 15),none,[]⟩]) (.cond (.tmp 16) (.seq (.ops false [⟨some 4,.mov (.const (.int .i64 (-1))),none,[]⟩]) .ret) .skip)) (.seq (.seq (.ops false [⟨some 17,.mov (.tmp 0),none,[]⟩,⟨some 18,.mov (.tmp 1),none,[]⟩,⟨some 19,.bin .gtr (.tmp 17) (.tmp 18),none,[]⟩]) (.cond (.tmp 19) (.seq (.ops false [⟨some 4,.mov (.const (.int .i64 1)),none,[]⟩]) .ret) .skip)) (.seq (.ops false [⟨some 4,.mov (.const (.int .i64 0)),none,[]⟩]) .ret)))))))⟩
theorem dh214:cProg Go.Proofs.Tryz.prog ⟨[],[],[]⟩ 214=some dc214:=by kernel_rfl
def dc215 : DFunc := ⟨14,2,[.tmp 4],.seq (.ops false [⟨some 2,.box 2 (.tmp 0),none,[]⟩,⟨some 3,.box 2 (.tmp 1),none,[]⟩,⟨some 4,.mov (.const (.int .i64 0)),none,[]⟩]) (.seq (.ops false [⟨some 5,.faddr 0 1 true (.tmp 2),none,[]⟩,⟨some 6,.faddr 0 1 false (.tmp 5),none,[]⟩,⟨some 7,.load none (.tmp 6),none,[]⟩,⟨some 8,.len (.tmp 7),none,[]⟩,⟨some 9,.faddr 0 1 true (.tmp 3),none,[]⟩,⟨some 10,.faddr 0 1 false (.tmp 9),none,[]⟩,⟨some 11,.load none (.tmp 10),none,[]⟩,⟨some 12,.len (.tmp 11),none,[]⟩,⟨some 13,.call (.func 214) [.tmp 8,.tmp 12],none,[]⟩,⟨some 4,.mov (.tmp 13),none,[]⟩]) .ret)⟩
theorem dh215:cProg Go.Proofs.Tryz.prog ⟨[],[],[]⟩ 215=some dc215:=by kernel_rfl
def dc216 : DFunc := ⟨12,2,[.tmp 4],.seq (.ops false [⟨some 2,.box 2 (.tmp 0),none,[]⟩,⟨some 3,.box 2 (.tmp 1),none,[]⟩,⟨some 4,.mov (.const (.int .i64 0)),none,[]⟩]) (.seq (.ops false [⟨some 5,.faddr 0 1 true (.tmp 2),none,[]⟩,⟨some 6,.faddr 0 1 false (.tmp 5),none,[]⟩,⟨some 7,.load none (.tmp 6),none,[]⟩,⟨some 8,.faddr 0 1 true (.tmp 3),none,[]⟩,⟨some 9,.faddr 0 1 false (.tmp 8),none,[]⟩,⟨some 10,.load none (.tmp 9),none,[]⟩,⟨some 11,.call (.func 217) [.tmp 7,.tmp 10],none,[]⟩,⟨some 4,.mov (.tmp 11),none,[]⟩]) .ret)⟩
theorem dh216:cProg Go.Proofs.Tryz.prog ⟨[],[],[]⟩ 216=some dc216:=by kernel_rfl
def db217_0 : DC := (.seq (.ops false [⟨some 12,.bin .lss (.tmp 11) (.tmp 10),none,[]⟩]) (.seq (.cond (.tmp 12) .skip (.exit 0)) (.seq (.block 1 none (.seq (.ops false [⟨some 13,.mov (.tmp 11),none,[]⟩,⟨some 14,.iaddr 1 (.tmp 9) (.tmp 11),none,[]⟩,⟨some 15,.load none (.tmp 14),none,[]⟩,⟨some 5,.mov (.tmp 13),none,[]⟩,⟨some 6,.mov (.tmp 15),none,[]⟩]) (.seq (.seq (.ops false [⟨some 16,.mov (.tmp 5),none,[]⟩,⟨some 17,.mov (.tmp 1),none,[]⟩,⟨some 18,.len (.tmp 17),none,[]⟩,⟨some 19,.bin .geq (.tmp 16) (.tmp 18),none,[]⟩]) (.cond (.tmp 19) (.seq (.ops false [⟨some 4,.mov (.const (.int .i64 1)),none,[]⟩]) .ret) .skip)) (.seq (.ops false [⟨some 20,.mov (.tmp 1),none,[]⟩,⟨some 21,.mov (.tmp 5),none,[]⟩,⟨some 22,.iaddr 1 (.tmp 20) (.tmp 21),none,[]⟩,⟨some 23,.load none (.tmp 22),none,[]⟩,⟨some 7,.mov (.tmp 23),none,[]⟩]) (.seq (.ops false [⟨some 24,.mov (.tmp 6),none,[]⟩,⟨some 25,.mov (.tmp 7),none,[]⟩,⟨some 26,.call (.func 214) [.tmp 24,.tmp 25],none,[]⟩,⟨some 8,.mov (.tmp 26),none,[]⟩]) (.seq (.ops false [⟨some 27,.mov (.tmp 8),none,[]⟩,⟨some 28,.bin .neq (.tmp 27) (.const (.int .i64 0)),none,[]⟩]) (.cond (.tmp 28) (.seq (.ops false [⟨some 29,.mov (.tmp 8),none,[]⟩,⟨some 4,.mov (.tmp 29),none,[]⟩]) .ret) .skip))))))) (.ops false [⟨some 30,.bin .add (.tmp 11) (.const (.int .i64 1)),none,[]⟩,⟨some 11,.mov (.tmp 30),none,[]⟩]))))
def dk217_0 : Keep := ⟨[],[0,1,9,10,11],[]⟩
def dc217 : DFunc := ⟨36,2,[.tmp 4],.seq (.ops false [⟨some 4,.mov (.const (.int .i64 0)),none,[]⟩]) (.seq (.seq (.ops false [⟨some 9,.mov (.tmp 0),none,[]⟩,⟨some 10,.len (.tmp 9),none,[]⟩,⟨some 11,.mov (.const (.int .i64 0)),none,[]⟩]) (.block 0 (some ⟨[],[0,1],[]⟩) (.loop dk217_0 db217_0))) (.seq (.seq (.ops false [⟨some 31,.mov (.tmp 0),none,[]⟩,⟨some 32,.len (.tmp 31),none,[]⟩,⟨some 33,.mov (.tmp 1),none,[]⟩,⟨some 34,.len (.tmp 33),none,[]⟩,⟨some 35,.bin .lss (.tmp 32) (.tmp 34),none,[]⟩]) (.cond (.tmp 35) (.seq (.ops false [⟨some 4,.mov (.const (.int .i64 (-1))),none,[]⟩]) .ret) .skip)) (.seq (.ops false [⟨some 4,.mov (.const (.int .i64 0)),none,[]⟩]) .ret)))⟩
theorem dh217:cProg Go.Proofs.Tryz.prog ⟨[(0,⟨[],[0,1,9,10,11],[]⟩)],[(0,⟨[],[0,1],[]⟩)],[]⟩ 217=some dc217:=by kernel_rfl
def dc218 : DFunc := ⟨6,1,[.tmp 2],.seq (.ops false [⟨some 2,.mov (.const (.bool false)),none,[]⟩]) (.seq (.ops false [⟨some 3,.mov (.tmp 0),none,[]⟩,⟨some 4,.mov (.tmp 0),none,[]⟩,⟨some 5,.bin .neq (.tmp 3) (.tmp 4),none,[]⟩,⟨some 2,.mov (.tmp 5),none,[]⟩]) .ret)⟩
theorem dh218:cProg Go.Proofs.Tryz.prog ⟨[],[],[]⟩ 218=some dc218:=by kernel_rfl
end Sh

namespace Sh
open Go Go.Proofs
def gainS (s:Sn) (d:Int):Int:=sumI (yldS s [d]) - sumI (yldS s [])
theorem gain_w {s:Sn} (hs:OkSn s) (d:Int):IntKind.i64.wrap (sumI (yldS s [d]) - sumI (yldS s []))=gainS s d:=by
 have h1:=sumY_bd hs [d]
 have h2:=sumY_bd hs []
 exact wrap_in (by omega) (by omega)
theorem c_Gain (s:Sn) (d:Int) (hl:s.days.length < 1073741824):PC 33 [encS s,DV.int .i64 (d)] (optI (chkSW s [d]) (gainS s d)):=by
 have k1:=c_checkWashes s [d] hl (by simp)
 by_cases hc:chkSW s [d]≠0
 ·rw [optI_no hc]
  generalize chkSW s [d]=k at *
  refine pureCall_ofR dh33 rfl ?_
  conv=>whnf
  repeat' (first
   |(refine ⟨fun hg=>?_,fun hg=>?_⟩<;>first|contradiction|(exfalso;revert hg;simp;done)|(exfalso;exact absurd (of_decide_eq_true hg) (by assumption))|(exfalso;exact absurd (by assumption) (of_decide_eq_false hg))|(conv=>whnf))
   |(refine Or.inl ?_;conv=>whnf)
   |(refine ⟨_,k1,?_⟩;conv=>whnf)
   |(refine And.intro ?_ ?_;kernel_rfl;conv=>whnf))
  rfl
 ·rw [optI_yes hc]
  have hs:=chkSW_ok hc
  have k2:=c_yields s [d] hs (by simp)
  have k3:=c_yields s [] hs (by simp)
  have hn:=hs.n1
  have k4:=c_sum (yldS s [d]) 100000 (by rw [yldS_len];omega) (yldS_bd hs _) (by rw [yldS_len];omega)
  have k5:=c_sum (yldS s []) 100000 (by rw [yldS_len];omega) (yldS_bd hs _) (by rw [yldS_len];omega)
  have hq:=gain_w hs d
  generalize chkSW s [d]=k at *
  refine pureCall_ofR dh33 rfl ?_
  conv=>whnf
  repeat' (first
   |(refine ⟨fun hg=>?_,fun hg=>?_⟩<;>first|contradiction|(exfalso;revert hg;simp;done)|(exfalso;exact absurd (of_decide_eq_true hg) (by assumption))|(exfalso;exact absurd (by assumption) (of_decide_eq_false hg))|(conv=>whnf))
   |(refine Or.inl ?_;conv=>whnf)
   |(refine ⟨_,k1,?_⟩;conv=>whnf)
   |(refine ⟨_,k2,?_⟩;conv=>whnf)
   |(refine ⟨_,k3,?_⟩;conv=>whnf)
   |(refine ⟨_,k4,?_⟩;conv=>whnf)
   |(refine ⟨_,k5,?_⟩;conv=>whnf)
   |(refine And.intro ?_ ?_;kernel_rfl;conv=>whnf))
  rw [hq]
  rfl
def dcOwnI:DFunc:=⟨8,1,[(.tmp 2)],(.seq (.ops false [⟨(some 2),(.mov (.const (.slice none 0 0))),none,[]⟩]) (.seq (.seq (.ops false [⟨(some 3),(.mov (.tmp 0)),none,[]⟩,⟨(some 4),(.eqNil false (.tmp 3)),none,[]⟩]) (.cond (.tmp 4) (.seq (.ops false [⟨(some 2),(.mov (.const (.slice none 0 0))),none,[]⟩]) .ret) .skip)) (.seq (.ops false [⟨(some 5),(.lit true 1 0 (.int .i64 0) []),none,[]⟩,⟨(some 6),(.mov (.tmp 0)),none,[]⟩,⟨(some 7),(.append false 1 (.tmp 5) (.tmp 6)),none,[]⟩,⟨(some 2),(.mov (.tmp 7)),none,[]⟩]) .ret)))⟩
theorem dhOwnI:cProg Go.Proofs.Tryz.prog ⟨[],[],[5]⟩ 104=some dcOwnI:=by kernel_rfl
theorem h_CloneI (l:List Int) (hl:l.length < 1073741824) (h0:l≠[]):HCall Tryz.prog GC 104 [iL l] [] (.own 7 0 (iD l).length (iD l).length) [(7,.row 1 (iD l) false)]:=by
 obtain ⟨a,r,rfl⟩:=List.exists_cons_of_ne_nil h0
 refine hCall_ofR dhOwnI rfl (by kernel_rfl) (by kernel_rfl) ?_
 conv=>whnf
 refine ⟨fun hg=>absurd hg (by decide),fun _=>?_⟩
 conv=>whnf
 refine ⟨⟨by simp only [List.length_map,List.reverse_nil,List.length_nil];omega,fun e he=>iD_ok (a :: r) e he,fun e he=>absurd he List.not_mem_nil,.inl rfl⟩,?_⟩
 conv=>whnf
 exact ⟨rfl,rfl⟩
theorem h_DeleteI (l:List Int) (i:Nat) (hl:l.length < 1073741824) (hi:i < l.length):HCall Tryz.prog GC 103 [.own 7 0 (iD l).length (iD l).length,DV.int .i64 (i),DV.int .i64 ((i+1:Nat))] [(7,.row 1 (iD l) false)] (.own 7 0 ((iD l).length - 1) (iD l).length) [(7,.row 1 (iD (l.eraseIdx i++[0])) false)]:=by
 have hn:(iD l).length=l.length:=iD_len l
 refine hCall_ofR dh103 rfl (by kernel_rfl) (by kernel_rfl) ?_
 conv=>whnf
 refine ⟨rfl,?_⟩
 conv=>whnf
 refine ⟨⟨by omega,by omega,by omega,by omega⟩,?_⟩
 conv=>whnf
 refine ⟨fun hg=>absurd (of_decide_eq_true hg) (by omega),fun _=>?_⟩
 conv=>whnf
 refine ⟨rfl,?_⟩
 conv=>whnf
 refine ⟨⟨by omega,by omega,by omega⟩,?_⟩
 conv=>whnf
 refine ⟨⟨by omega,by omega,by omega⟩,?_⟩
 conv=>whnf
 have e1:((i:Int) - 0).toNat=i:=by omega
 have e2:0+(((i+1:Nat):Int)).toNat=i+1:=by omega
 have e3:(((iD l).length:Int) - ((i+1:Nat):Int)).toNat=(iD l).length - (i+1):=by omega
 have e4:window (iD l) (i+1) ((iD l).length - (i+1))=(iD l).drop (i+1):=by unfold window;rw [List.take_of_length_le (by rw [List.length_drop];omega)]
 have e5:i+((iD l).drop (i+1)).length=(iD l).length - 1:=by rw [List.length_drop];omega
 rw [e1,e2,e3,e4,e5]
 refine ⟨⟨rfl,rfl,by omega,fun e he=>iD_ok l e (List.mem_of_mem_drop he)⟩,?_⟩
 conv=>whnf
 refine ⟨by kernel_rfl,?_⟩
 conv=>whnf
 have hel:(l.eraseIdx i).length=l.length - 1:=by rw [List.length_eraseIdx];rw [if_pos hi]
 have hR:(iD l).take i++(iD l).drop (i+1)++(iD l).drop ((iD l).length - 1)=iD (l.eraseIdx i)++(iD l).drop ((iD l).length - 1):=by
  rw [List.eraseIdx_eq_take_drop_succ];unfold iD;rw [List.map_append,List.map_take,List.map_drop]
 have hD:((iD l).drop ((iD l).length - 1)).length=1:=by rw [List.length_drop];omega
 rw [hR]
 have hRl:(iD (l.eraseIdx i)++(iD l).drop ((iD l).length - 1)).length=(iD l).length:=by rw [List.length_append,hD,iD_len,hel,hn];omega
 refine ⟨hRl.symm,?_⟩
 conv=>whnf
 have e6:(((iD l).length - 1:Nat):Int).toNat=(iD l).length - 1:=by omega
 have e7:(((iD l).length:Int) - (((iD l).length - 1:Nat):Int)).toNat=1:=by omega
 rw [e6,e7]
 refine ⟨⟨hRl.symm,by omega,by omega,by omega⟩,?_⟩
 conv=>whnf
 refine ⟨⟨hRl.symm,by decide⟩,?_⟩
 conv=>whnf
 have hF:((iD (l.eraseIdx i)++(iD l).drop ((iD l).length - 1)).take ((iD l).length - 1)++List.replicate 1 (DV.int .i64 (0))++(iD (l.eraseIdx i)++(iD l).drop ((iD l).length - 1)).drop ((iD l).length - 1+1))=iD (l.eraseIdx i++[0]):=by
  rw [List.take_append_of_le_length (by rw [iD_len,iD_len,hel];omega),List.take_of_length_le (by rw [iD_len,iD_len,hel];omega),List.drop_of_length_le (by rw [hRl];omega),List.append_nil,iD_app];rfl
 rw [hF]
 exact ⟨rfl,rfl⟩
theorem c_Idle (s:Sn) (ws:List Int) (hl:s.days.length < 1073741824) (hw:ws.length < 1073741824):PC 34 [encS s,iL ws] (optL (chkSW s ws) (idleS s ws ws.length)):=by
 have k1:=c_checkWashes s ws hl hw
 by_cases hc:chkSW s ws≠0
 ·rw [optL_no hc]
  generalize chkSW s ws=k at *
  refine pureCall_ofR dh34 rfl ?_
  conv=>whnf
  repeat' (first
   |(refine ⟨fun hg=>?_,fun hg=>?_⟩<;>first|contradiction|(exfalso;revert hg;simp;done)|(exfalso;exact absurd (of_decide_eq_true hg) (by assumption))|(exfalso;exact absurd (by assumption) (of_decide_eq_false hg))|(conv=>whnf))
   |(refine Or.inl ?_;conv=>whnf)
   |(refine ⟨_,k1,?_⟩;conv=>whnf)
   |(refine And.intro ?_ ?_;kernel_rfl;conv=>whnf))
  rfl
 ·rw [optL_yes hc]
  have hs:=chkSW_ok hc
  have k2:=c_yields s ws hs hw
  have hn:=hs.n1
  have k3:=fun l=>c_sum (yldS s l) 100000 (by rw [yldS_len];omega) (yldS_bd hs l) (by rw [yldS_len];omega)
  have k4:=k3 ws
  have e0:((ws.map (DV.int .i64)).length:Int)=ws.length:=by simp
  have hil:=idleS_len s ws
  have his:=idleS_succ s ws
  have hi0:idleS s ws 0=[]:=rfl
  have k5:∀ i,i < ws.length→PC 92 [encS s,iL (ws.eraseIdx i)] (iL (yldS s (ws.eraseIdx i))):=fun i hi=>c_yields s _ hs (by rw [List.length_eraseIdx,if_pos hi];omega)
  generalize chkSW s ws=k at *
  refine pureCall_ofR dh34 rfl ?_
  conv=>whnf
  repeat' (first
   |(refine ⟨fun hg=>?_,fun hg=>?_⟩<;>first|contradiction|(exfalso;revert hg;simp;done)|(exfalso;exact absurd (of_decide_eq_true hg) (by assumption))|(exfalso;exact absurd (by assumption) (of_decide_eq_false hg))|(conv=>whnf))
   |(refine Or.inl ?_;conv=>whnf)
   |(refine ⟨_,k1,?_⟩;conv=>whnf)
   |(refine ⟨_,k2,?_⟩;conv=>whnf)
   |(refine ⟨_,k4,?_⟩;conv=>whnf)
   |(refine And.intro ?_ ?_;kernel_rfl;conv=>whnf))
  generalize sumI (yldS s ws)=A at *
  refine dwp_loopU (P:=Tryz.prog) (G:=GC) (k:=dk34_0) (b:=db34_0) (α:=Nat) (fun i=>[(8,.own 8 0 (iD (idleS s ws i)).length (iD (idleS s ws i)).length),(22,DV.int .i64 (i))]) (fun i=>[(2,.box 6 (encS s)),(8,.row 1 (iD (idleS s ws i)) false)]) (fun i=>i≤ws.length) (fun i=>ws.length - i) 0 (Nat.zero_le _) ?_
  conv=>whnf
  refine ⟨rfl,rfl,?_⟩
  conv=>whnf
  refine ⟨rfl,?_⟩
  intro i h1
  conv=>whnf
  refine ⟨fun hb=>?_,fun hb=>?_⟩
  ·have hi:i < ws.length:=by simpa using hb
   clear hb
   have hir:=his i
   have hie:=hil i
   generalize hI':idleS s ws (i+1)=I' at *
   generalize idleS s ws i=I at *
   have h5:=k5 i hi
   have h3:=k3 (ws.eraseIdx i)
   conv=>whnf
   refine .inr ⟨[(7,27)],_,_,_,_,h_CloneI ws hw (by intro e;rw [e] at hi;simp at hi),⟨rfl,by kernel_rfl,?_,?_⟩,?_⟩
   ·exact trivial
   ·exact ⟨.inr rfl,trivial⟩
   conv=>whnf
   rw [wrap_succ i (by omega)]
   conv=>whnf
   refine .inr ⟨[(7,27)],_,_,_,_,h_DeleteI ws i hw hi,⟨rfl,by kernel_rfl,?_,?_⟩,?_⟩
   ·exact ⟨rfl,trivial⟩
   ·exact ⟨.inl rfl,trivial⟩
   conv=>whnf
   refine .inl ?_
   conv=>whnf
   have hel:(ws.eraseIdx i).length=ws.length - 1:=by rw [List.length_eraseIdx,if_pos hi]
   have hwin:window (iD (ws.eraseIdx i++[0])) 0 ((iD ws).length - 1)=iD (ws.eraseIdx i):=by
    rw [show ∀ (l:List DV) k,window l 0 k=l.take k from fun l k=>by simp [window],iD_app,List.take_append_of_le_length (by rw [iD_len,iD_len,hel];omega),List.take_of_length_le (by rw [iD_len,iD_len,hel];omega)]
   rw [hwin]
   refine ⟨by rw [iD_len,iD_len,List.length_append,hel];simp;omega,_,h5,?_⟩
   conv=>whnf
   refine .inl ?_
   conv=>whnf
   refine ⟨_,h3,?_⟩
   conv=>whnf
   refine ⟨by kernel_rfl,?_⟩
   conv=>whnf
   refine ⟨fun hg=>?_,fun hg=>?_⟩
   ·have hg:=of_decide_eq_true hg
    rw [if_pos hg] at hir
    conv=>whnf
    refine ⟨⟨rfl,rfl,rfl,by rw [iD_len];simp;omega,fun e he=>by simp at he;subst he;rfl⟩,?_⟩
    conv=>whnf
    rw [wrap_succ i (by omega)]
    refine ⟨i+1,rfl,?_,?_,hi,by omega⟩
    ·rw [hI',hir,iD_app I];rfl
    ·rw [hI',hir,iD_app I];rfl
   ·have hg:=of_decide_eq_false hg
    rw [if_neg hg] at hir
    conv=>whnf
    rw [wrap_succ i (by omega)]
    refine ⟨i+1,rfl,?_,?_,hi,by omega⟩
    ·rw [hI',hir];rfl
    ·rw [hI',hir];rfl
  ·have hi:i=ws.length:=by have:=of_decide_eq_false hb;rw [e0] at this;omega
   clear hb
   rw [hi]
   generalize idleS s ws ws.length=I at *
   conv=>whnf
   refine ⟨rfl,?_⟩
   rw [window_full];rfl
end Sh

namespace Sh
open Go Go.Proofs
end Sh

namespace Sh
open Go Go.Proofs
def fromG (s:Sn):Nat→Int→List Dy→List (List DV)
 |_,_,[]=>[]
 |i,so,d :: r=>[DV.int .i64 (i),DV.int .i64 (so)] :: fromG s (i+1) (aftS s d so) r
def fromD (s:Sn) (i:Nat) (so:Int):List (List DV):=fromG s i so (s.days.drop i)
theorem fromG_flat (s:Sn):∀ (l:List Dy) (i:Nat) (so:Int),∀ x ∈ fromG s i so l,flatBs x=true∧x.length=2
 |[],i,so,x,hx=>by cases hx
 |d :: r,i,so,x,hx=>by
  rcases List.mem_cons.1 hx with rfl|hx
  ·exact ⟨rfl,rfl⟩
  ·exact fromG_flat s r _ _ x hx
theorem fromD_cons (s:Sn) (i:Nat) (so:Int) (h:i < s.days.length):fromD s i so=[DV.int .i64 (i),DV.int .i64 (so)] :: fromD s (i+1) (aftS s (s.days.getD i D0) so):=by
 unfold fromD;rw [drop_getD s.days i D0 h];rfl
theorem fromD_end (s:Sn) (so:Int):fromD s s.days.length so=[]:=by unfold fromD;rw [List.drop_of_length_le (Nat.le_refl _)];rfl
theorem fromIt (s:Sn) (d:Nat) (so:Int) (hs:OkSn s) (hd:d≤s.days.length) (h0:0≤so) (h1:so≤1000):ISeqW Tryz.prog GC 147 [.ip (DV.int .i64 (d)),.ip (encS s),.bptr 99 0] [(99,.box 1 (DV.int .i64 (so)))] (fromD s d so):=by
 have e1:((s.days.map encD).length:Int)=s.days.length:=by simp
 have hn:=hs.n1
 refine iseqW_of dh147 rfl rfl (by kernel_rfl) rfl (fun x hx=>(fromG_flat s _ _ _ x hx).1) (fun gl=>?_)
 conv=>whnf
 refine dwp_loopY (P:=Tryz.prog) (G:=GC) (k:=dk147_0) (b:=db147_0) (α:=Nat×Int) (fun a=>[(0,.dict 0),(2,.ip (encS s)),(3,.bptr 99 0),(5,DV.int .i64 (a.1))]) (fun a=>[(0,.ghost (fromD s a.1 a.2) true gl),(99,.box 1 (DV.int .i64 (a.2)))]) (fun a=>a.1≤s.days.length∧0≤a.2∧a.2≤1000) (fun a=>s.days.length - a.1) (d,so) ⟨rfl,rfl,rfl⟩ ⟨hd,h0,h1⟩ ?_
 intro ⟨i,so⟩ ⟨h1,h2,h3⟩
 have h1:i≤s.days.length:=h1
 have h2:0≤so:=h2
 have h3:so≤1000:=h3
 conv=>whnf
 refine ⟨fun hb=>?_,fun hb=>?_⟩
 ·have hi:i < s.days.length:=by simpa using hb
  clear hb
  have hdd:=hs.ds _ (getD_in D0 hi)
  have hcons:=fromD_cons s i so hi
  have k1:=c_after s (s.days.getD i D0) so hs hdd h2 h3
  have hab:=aftS_bd hs hdd h2 h3
  rw [hcons]
  generalize hF:fromD s (i+1) (aftS s (s.days.getD i D0) so)=F at *
  conv=>whnf
  refine ⟨rfl,fun b=>?_⟩
  conv=>whnf
  refine ⟨fun hg=>?_,fun hg=>?_⟩
  ·have hg:b=false:=by simpa using hg
   subst hg
   conv=>whnf
   intro e;cases e
  ·have hg:b=true:=by simpa using hg
   subst hg
   conv=>whnf
   rw [getD_enc _ _ (i) D0 hi]
   refine ⟨idxA hi rfl,?_⟩
   conv=>whnf
   repeat' (first
    |(refine ⟨fun hg=>?_,fun hg=>?_⟩<;>first|contradiction|(conv=>whnf))
    |(refine Or.inl ?_;conv=>whnf)
    |(refine ⟨_,k1,?_⟩;conv=>whnf)
    |(refine And.intro ?_ ?_;kernel_rfl;conv=>whnf))
   rw [wrap_succ i (by omega)]
   refine ⟨(i+1,aftS s (s.days.getD i D0) so),rfl,rfl,?_,⟨hi,hab.1,hab.2⟩,by show s.days.length - (i+1) < s.days.length - i;omega⟩
   show _=[(0,DObj.ghost (fromD s (i+1) (aftS s (s.days.getD i D0) so)) true gl),_]
   rw [hF];rfl
 ·have hi:i=s.days.length:=by have:=of_decide_eq_false hb;rw [e1] at this;omega
  clear hb
  subst hi
  rw [fromD_end]
  conv=>whnf
  intro _;rfl
theorem h_from (s:Sn) (d:Nat) (so:Int):HCall Tryz.prog GC 107 [encS s,DV.int .i64 (d),DV.int .i64 (so)] [] (.func 147 [.ip (DV.int .i64 (d)),.ip (encS s),.bptr 5 0]) [(5,.box 1 (DV.int .i64 (so)))]:=by
 refine hCall_ofR dh107 rfl (by kernel_rfl) (by kernel_rfl) ?_
 conv=>whnf
 exact ⟨rfl,rfl⟩
end Sh

namespace Sh
open Go Go.Proofs
def encP (p:Pl):DV:=.agg [iL p.idx,DV.int .i64 (p.worth)]
def plsV (l:List Pl):DV:=.list (l.map encP)
theorem c_isNaN (a:Int):PC 218 [DV.int .i64 (a)] (.bool false):=by
 refine pureCall_ofR dh218 rfl ?_
 conv=>whnf
 exact bool_eq (decide_eq_false (by simp))
theorem c_cmp (a b:Int):PC 214 [DV.int .i64 (a),DV.int .i64 (b)] (DV.int .i64 (cmpI a b)):=by
 refine pureCall_ofR dh214 rfl ?_
 conv=>whnf
 repeat' (first
  |(refine ⟨fun hg=>?_,fun hg=>?_⟩<;>first|contradiction|(conv=>whnf))
  |(refine Or.inl ?_;conv=>whnf)
  |(refine ⟨_,c_isNaN ..,?_⟩;conv=>whnf)
  |(refine And.intro ?_ ?_;kernel_rfl;conv=>whnf))
 ·have hg:a < b:=of_decide_eq_true hg
  exact int_eq (by unfold cmpI;rw [if_pos hg])
 ·rename_i h1
  have h1:¬ a < b:=of_decide_eq_false h1
  have hg:a > b:=of_decide_eq_true hg
  exact int_eq (by unfold cmpI;rw [if_neg h1,if_pos hg])
 ·rename_i h1
  have h1:¬ a < b:=of_decide_eq_false h1
  have hg:¬ a > b:=of_decide_eq_false hg
  exact int_eq (by unfold cmpI;rw [if_neg h1,if_neg hg])
theorem cmpL_drop (a b:List Int) (i:Nat) (h1:i < a.length) (h2:i < b.length):cmpL (a.drop i) (b.drop i)=if cmpI (a.getD i 0) (b.getD i 0)≠0 then cmpI (a.getD i 0) (b.getD i 0) else cmpL (a.drop (i+1)) (b.drop (i+1)):=by
 rw [drop_getD a i 0 h1,drop_getD b i 0 h2];rfl
theorem cmpL_long (a b:List Int) (i:Nat) (h1:i < a.length) (h2:b.length≤i):cmpL (a.drop i) (b.drop i)=1:=by
 rw [drop_getD a i 0 h1,List.drop_of_length_le h2];rfl
theorem cmpL_short (a b:List Int) (h:a.length≤b.length):cmpL (a.drop a.length) (b.drop a.length)=if a.length < b.length then -1 else 0:=by
 rw [List.drop_of_length_le (Nat.le_refl _)]
 split
 ·rename_i h;rw [drop_getD b _ 0 h];rfl
 ·rw [List.drop_of_length_le (by omega)];rfl
theorem c_cmpL (a b:List Int) (ha:a.length < 1073741824):PC 217 [iL a,iL b] (DV.int .i64 (cmpL a b)):=by
 have e0:((a.map (DV.int .i64)).length:Int)=a.length:=by simp
 have e1:((b.map (DV.int .i64)).length:Int)=b.length:=by simp
 refine pureCall_ofR dh217 rfl ?_
 conv=>whnf
 refine dwp_loopU (P:=Tryz.prog) (G:=GC) (k:=dk217_0) (b:=db217_0) (α:=Nat) (fun i=>[(11,DV.int .i64 (i))]) (fun _=>[]) (fun i=>i≤a.length∧i≤b.length∧cmpL a b=cmpL (a.drop i) (b.drop i)) (fun i=>a.length - i) 0 ⟨Nat.zero_le _,Nat.zero_le _,rfl⟩ ?_
 conv=>whnf
 refine ⟨rfl,rfl,?_⟩
 conv=>whnf
 refine ⟨rfl,?_⟩
 intro i ⟨h1,h2,h3⟩
 conv=>whnf
 refine ⟨fun hb=>?_,fun hb=>?_⟩
 ·have hi:i < a.length:=by simpa using hb
  clear hb
  conv=>whnf
  rw [getD_enc _ _ (i) 0 hi]
  refine ⟨idxA hi rfl,?_⟩
  conv=>whnf
  refine ⟨fun hg=>?_,fun hg=>?_⟩
  ·have hg:((b.map (DV.int .i64)).length:Int)≤i:=of_decide_eq_true hg
   rw [e1] at hg
   conv=>whnf
   exact int_eq (by rw [h3,cmpL_long a b i hi (by omega)])
  ·have hg:¬ ((b.map (DV.int .i64)).length:Int)≤i:=of_decide_eq_false hg
   rw [e1] at hg
   have hj:i < b.length:=by omega
   have hd:=cmpL_drop a b i hi hj
   conv=>whnf
   rw [getD_enc _ _ (i) 0 hj]
   refine ⟨idxA hj rfl,?_⟩
   conv=>whnf
   repeat' (first
    |(refine ⟨fun hg=>?_,fun hg=>?_⟩<;>first|contradiction|(conv=>whnf))
    |(refine Or.inl ?_;conv=>whnf)
    |(refine ⟨_,c_cmp ..,?_⟩;conv=>whnf)
    |(refine And.intro ?_ ?_;kernel_rfl;conv=>whnf))
   ·have hg:cmpI (a.getD i 0) (b.getD i 0)≠0:=of_decide_eq_true hg
    rw [if_pos hg] at hd
    exact int_eq (by rw [h3,hd])
   ·have hg:¬ cmpI (a.getD i 0) (b.getD i 0)≠0:=of_decide_eq_false hg
    rw [if_neg hg] at hd
    rw [wrap_succ i (by omega)]
    exact ⟨i+1,rfl,rfl,rfl,⟨hi,hj,by rw [h3,hd]⟩,by omega⟩
 ·have hi:i=a.length:=by have:=of_decide_eq_false hb;rw [e0] at this;omega
  subst hi
  clear hb
  have hs:=cmpL_short a b h2
  conv=>whnf
  refine ⟨fun hg=>?_,fun hg=>?_⟩
  ·have hg:=of_decide_eq_true hg
   rw [e0,e1] at hg
   conv=>whnf
   exact int_eq (by rw [h3,hs,if_pos (by omega)])
  ·have hg:=of_decide_eq_false hg
   rw [e0,e1] at hg
   conv=>whnf
   exact int_eq (by rw [h3,hs,if_neg (by omega)])
theorem c_cr1 (a b:Pl):PC 213 [encP a,encP b] (DV.int .i64 (cmpI b.worth a.worth)):=by
 refine pureCall_ofR dh213 rfl ?_
 conv=>whnf
 repeat' (first
  |(refine ⟨fun hg=>?_,fun hg=>?_⟩<;>first|contradiction|(conv=>whnf))
  |(refine Or.inl ?_;conv=>whnf)
  |(refine ⟨_,c_cmp ..,?_⟩;conv=>whnf)
  |(refine And.intro ?_ ?_;kernel_rfl;conv=>whnf))
 rfl
theorem c_cr2 (a b:Pl):PC 215 [encP a,encP b] (DV.int .i64 (cmpI a.idx.length b.idx.length)):=by
 have e0:((a.idx.map (DV.int .i64)).length:Int)=a.idx.length:=by simp
 have e1:((b.idx.map (DV.int .i64)).length:Int)=b.idx.length:=by simp
 refine pureCall_ofR dh215 rfl ?_
 conv=>whnf
 repeat' (first
  |(refine ⟨fun hg=>?_,fun hg=>?_⟩<;>first|contradiction|(conv=>whnf))
  |(refine Or.inl ?_;conv=>whnf)
  |(refine ⟨_,c_cmp ..,?_⟩;conv=>whnf)
  |(refine And.intro ?_ ?_;kernel_rfl;conv=>whnf))
 rw [e0,e1];rfl
theorem c_cr3 (a b:Pl) (ha:a.idx.length < 1073741824):PC 216 [encP a,encP b] (DV.int .i64 (cmpL a.idx b.idx)):=by
 have k1:=c_cmpL a.idx b.idx ha
 refine pureCall_ofR dh216 rfl ?_
 conv=>whnf
 repeat' (first
  |(refine ⟨fun hg=>?_,fun hg=>?_⟩<;>first|contradiction|(conv=>whnf))
  |(refine Or.inl ?_;conv=>whnf)
  |(refine ⟨_,k1,?_⟩;conv=>whnf)
  |(refine And.intro ?_ ?_;kernel_rfl;conv=>whnf))
 rfl
end Sh

namespace Sh
open Go Go.Proofs
theorem c_compare (a b:Pl) (ha:a.idx.length < 1073741824):PC 149 [encP a,encP b] (DV.int .i64 (cmpP a b)):=by
 have k1:=c_cr1 a b
 have k2:=c_cr2 a b
 have k3:=c_cr3 a b ha
 have hP:cmpP a b=if cmpI b.worth a.worth≠0 then cmpI b.worth a.worth else if cmpI a.idx.length b.idx.length≠0 then cmpI a.idx.length b.idx.length else cmpL a.idx b.idx:=rfl
 generalize cmpP a b=r at *
 refine pureCall_ofR dh149 rfl ?_
 conv=>whnf
 refine dwp_loopU (P:=Tryz.prog) (G:=GC) (k:=dk149_0) (b:=db149_0) (α:=Nat) (fun i=>[(9,DV.int .i64 (i))]) (fun _=>[(2,.box 2 (encP a)),(3,.box 2 (encP b))]) (fun i=>i≤3∧(1≤i→cmpI b.worth a.worth=0)∧(2≤i→cmpI a.idx.length b.idx.length=0)∧(3≤i→cmpL a.idx b.idx=0)) (fun i=>3 - i) 0 ⟨by omega,fun h=>by omega,fun h=>by omega,fun h=>by omega⟩ ?_
 conv=>whnf
 refine ⟨rfl,rfl,?_⟩
 conv=>whnf
 refine ⟨rfl,?_⟩
 intro i ⟨h0,h1,h2,h3⟩
 have hi:i=0∨i=1∨i=2∨i=3:=by omega
 rcases hi with rfl|rfl|rfl|rfl
 ·conv=>whnf
  refine ⟨fun hb=>?_,fun hb=>absurd (of_decide_eq_false hb) (by omega)⟩
  conv=>whnf
  refine ⟨⟨by decide,by decide,rfl⟩,?_⟩
  conv=>whnf
  repeat' (first
   |(refine ⟨fun hg=>?_,fun hg=>?_⟩<;>first|contradiction|(conv=>whnf))
   |(refine Or.inl ?_;conv=>whnf)
   |(refine ⟨_,k1,?_⟩;conv=>whnf)
   |(refine And.intro ?_ ?_;kernel_rfl;conv=>whnf))
  ·have hg:cmpI b.worth a.worth≠0:=of_decide_eq_true hg
   rw [if_pos hg] at hP
   exact int_eq hP.symm
  ·have hg:¬ cmpI b.worth a.worth≠0:=of_decide_eq_false hg
   exact ⟨1,rfl,rfl,rfl,⟨by omega,fun _=>by omega,fun h=>by omega,fun h=>by omega⟩,by omega⟩
 ·conv=>whnf
  refine ⟨fun hb=>?_,fun hb=>absurd (of_decide_eq_false hb) (by omega)⟩
  conv=>whnf
  refine ⟨⟨by decide,by decide,rfl⟩,?_⟩
  conv=>whnf
  rw [if_neg (by have:=h1 (by omega);omega)] at hP
  repeat' (first
   |(refine ⟨fun hg=>?_,fun hg=>?_⟩<;>first|contradiction|(conv=>whnf))
   |(refine Or.inl ?_;conv=>whnf)
   |(refine ⟨_,k2,?_⟩;conv=>whnf)
   |(refine And.intro ?_ ?_;kernel_rfl;conv=>whnf))
  ·have hg:cmpI a.idx.length b.idx.length≠0:=of_decide_eq_true hg
   rw [if_pos hg] at hP
   exact int_eq hP.symm
  ·have hg:¬ cmpI a.idx.length b.idx.length≠0:=of_decide_eq_false hg
   exact ⟨2,rfl,rfl,rfl,⟨by omega,fun _=>h1 (by omega),fun h=>by omega,fun h=>by omega⟩,by omega⟩
 ·conv=>whnf
  refine ⟨fun hb=>?_,fun hb=>absurd (of_decide_eq_false hb) (by omega)⟩
  conv=>whnf
  refine ⟨⟨by decide,by decide,rfl⟩,?_⟩
  conv=>whnf
  rw [if_neg (by have:=h1 (by omega);omega),if_neg (by have:=h2 (by omega);omega)] at hP
  repeat' (first
   |(refine ⟨fun hg=>?_,fun hg=>?_⟩<;>first|contradiction|(conv=>whnf))
   |(refine Or.inl ?_;conv=>whnf)
   |(refine ⟨_,k3,?_⟩;conv=>whnf)
   |(refine And.intro ?_ ?_;kernel_rfl;conv=>whnf))
  ·exact int_eq hP.symm
  ·have hg:¬ cmpL a.idx b.idx≠0:=of_decide_eq_false hg
   exact ⟨3,rfl,rfl,rfl,⟨by omega,fun _=>h1 (by omega),fun _=>h2 (by omega),fun h=>by omega⟩,by omega⟩
 ·conv=>whnf
  refine ⟨fun hb=>absurd (of_decide_eq_true hb) (by omega),fun hb=>?_⟩
  conv=>whnf
  rw [if_neg (by have:=h1 (by omega);omega),if_neg (by have:=h2 (by omega);omega),h3 (by omega)] at hP
  exact int_eq hP.symm
theorem minP_take (m:Pl) (l:List Pl) (i:Nat) (h:i < l.length):minP m (l.take (i+1))=(if cmpP (l.getD i P00) (minP m (l.take i)) < 0 then l.getD i P00 else minP m (l.take i)):=by
 induction l generalizing m i with
 |nil=>simp at h
 |cons x r ih =>
  cases i with
  |zero=>rfl
  |succ i =>
   show minP (if cmpP x m < 0 then x else m) (r.take (i+1))=_
   rw [ih _ i (by simpa using h)]
   rfl
theorem c_MinFunc (x:Pl) (r:List Pl) (hl:(x :: r).length < 1073741824) (hi:∀ p ∈ x :: r,p.idx.length < 1073741824):PC 148 [plsV (x :: r),.func 149 []] (encP (minP x r)):=by
 have e0:(((x :: r).map encP).length:Int)=r.length+1:=by simp
 refine pureCall_ofR dh148 rfl ?_
 conv=>whnf
 refine ⟨fun hg=>?_,fun hg=>?_⟩
 ·have hg:=of_decide_eq_true hg
  rw [e0] at hg;omega
 clear hg
 conv=>whnf
 refine ⟨⟨by decide,by rw [e0];omega,rfl⟩,?_⟩
 rw [show ((x :: r).map encP).getD (Int.toNat 0) .undef=encP x from rfl]
 conv=>whnf
 refine dwp_loopU (P:=Tryz.prog) (G:=GC) (k:=dk148_0) (b:=db148_0) (α:=Nat) (fun k=>[(6,DV.int .i64 ((k+1:Nat)))]) (fun k=>[(4,.box 2 (.agg [.full [],DV.int .i64 (0)])),(5,.box 2 (encP (minP x (r.take k))))]) (fun k=>k≤r.length) (fun k=>r.length - k) 0 (Nat.zero_le _) ?_
 conv=>whnf
 refine ⟨rfl,rfl,?_⟩
 conv=>whnf
 refine ⟨rfl,?_⟩
 intro k h1
 conv=>whnf
 refine ⟨fun hb=>?_,fun hb=>?_⟩
 ·have hk:k < r.length:=by have:=of_decide_eq_true hb;rw [e0] at this;omega
  have hk':k+1 < (x :: r).length:=by simp;omega
  clear hb
  have hs:=minP_take x r k hk
  have hx:r.getD k P00=(x :: r).getD (k+1) P00:=rfl
  rw [hx] at hs
  have k1:=c_compare ((x :: r).getD (k+1) P00) (minP x (r.take k)) (hi _ (getD_in P00 hk'))
  generalize minP x (r.take k)=m at *
  generalize hm':minP x (r.take (k+1))=m' at *
  conv=>whnf
  rw [getD_enc _ _ (k+1) P00 hk']
  refine ⟨idxA hk' rfl,?_⟩
  conv=>whnf
  repeat' (first
   |(refine ⟨fun hg=>?_,fun hg=>?_⟩<;>first|contradiction|(conv=>whnf))
   |(refine Or.inl ?_;conv=>whnf)
   |(refine ⟨_,k1,?_⟩;conv=>whnf)
   |(refine And.intro ?_ ?_;kernel_rfl;conv=>whnf))
  ·have hg:cmpP ((x :: r).getD (k+1) P00) m < 0:=of_decide_eq_true hg
   rw [if_pos hg] at hs
   rw [getD_enc _ _ (k+1) P00 hk']
   refine ⟨idxA hk' rfl,?_⟩
   conv=>whnf
   rw [wrap_succ (k+1) (by omega)]
   refine ⟨k+1,rfl,rfl,?_,hk,by omega⟩
   rw [hm',hs];rfl
  ·have hg:¬ cmpP ((x :: r).getD (k+1) P00) m < 0:=of_decide_eq_false hg
   rw [if_neg hg] at hs
   rw [wrap_succ (k+1) (by omega)]
   refine ⟨k+1,rfl,rfl,?_,hk,by omega⟩
   rw [hm',hs];rfl
 ·have hk:k=r.length:=by have:=of_decide_eq_false hb;rw [e0] at this;omega
  clear hb
  rw [hk,List.take_length]
  conv=>whnf
  rfl
theorem c_best (l:List Pl) (h0:l≠[]) (hl:l.length < 1073741824) (hi:∀ p ∈ l,p.idx.length < 1073741824):PC 109 [plsV l] (encP (bestP l)):=by
 obtain ⟨x,r,rfl⟩:=List.exists_cons_of_ne_nil h0
 have k1:=c_MinFunc x r hl hi
 refine pureCall_ofR dh109 rfl ?_
 conv=>whnf
 repeat' (first
  |(refine ⟨fun hg=>?_,fun hg=>?_⟩<;>first|contradiction|(conv=>whnf))
  |(refine Or.inl ?_;conv=>whnf)
  |(refine ⟨_,k1,?_⟩;conv=>whnf)
  |(refine And.intro ?_ ?_;kernel_rfl;conv=>whnf))
 rfl
end Sh

namespace Sh
open Go
theorem lightF_get (s:Sn) (so:Int) (l:List Dy) (j:Nat) (h:j < l.length):(lightF s so l).getD j 0=lgtS (l.getD j D0) ((fromS s so l).getD j 0):=by
 have h2:j < (fromS s so l).length:=by rw [fromS_len];omega
 unfold lightF
 simp [List.getD_eq_getElem?_getD,List.getElem?_zipWith,h,h2]
theorem drop_get {α:Type} (l:List α) (d j:Nat) (e:α):(l.drop d).getD j e=l.getD (d+j) e:=by simp [List.getD_eq_getElem?_getD]
def sunS (s:Sn) (so:Int) (d k:Nat):Int:=sumI ((lightF s so (s.days.drop d)).take k)
theorem sunS_succ (s:Sn) (so:Int) (d k:Nat) (h:d+k < s.days.length):sunS s so d (k+1)=sunS s so d k+lgtS (s.days.getD (d+k) D0) ((fromS s so (s.days.drop d)).getD k 0):=by
 have hl:k < (s.days.drop d).length:=by rw [List.length_drop];omega
 unfold sunS
 rw [sumI_take_succ _ _ (by rw [lightF_len];exact hl),lightF_get _ _ _ _ hl,drop_get]
theorem sunS_bd {s:Sn} (hs:OkSn s) (so:Int) (h0:0≤so) (h1:so≤1000) (d k:Nat):0≤sunS s so d k∧sunS s so d k≤6400000:=by
 have h:=sumI_take_bd (lightF_bd hs (s.days.drop d) so (fun x hx=>hs.ds x (List.mem_of_mem_drop hx)) h0 h1) k
 have hl:(lightF s so (s.days.drop d)).length≤64:=by rw [lightF_len,List.length_drop];have:=hs.n1;omega
 unfold sunS
 omega
theorem sunS_zero (s:Sn) (so:Int) (d:Nat):sunS s so d 0=0:=by unfold sunS;rw [List.take_zero];rfl
theorem soil_bd {s:Sn} (hs:OkSn s) (so:Int) (h0:0≤so) (h1:so≤1000) (d k:Nat) (h:d+k < s.days.length):0≤(fromS s so (s.days.drop d)).getD k 0∧(fromS s so (s.days.drop d)).getD k 0≤1000 :=
 fromS_bd hs _ so (fun x hx=>hs.ds x (List.mem_of_mem_drop hx)) h0 h1 _ (getD_in 0 (by rw [fromS_len,List.length_drop];omega))
theorem priced_bd {s:Sn} (hs:OkSn s) {n:Int} (h0:0≤n) (h1:n≤6400000):0≤s.price * n∧s.price * n≤6400000000:=by
 have h2:=Int.mul_nonneg hs.p0 h0
 have h3:=Int.mul_le_mul hs.p1 h1 h0 (by decide)
 omega
def candA (s:Sn) (d:Nat) (rest:List Pl) (k:Nat):Pl:=⟨(d:Int) :: (rest.getD k P00).idx,s.price * sunS s 0 d (k+1) - s.cost+(rest.getD k P00).worth⟩
theorem candP_eq (s:Sn) (d:Nat) (rest:List Pl):candP s d rest=rng (s.days.length - d) (candA s d rest):=rfl
theorem plansF_bd {s:Sn} (hs:OkSn s):∀ k,k≤s.days.length→∀ p ∈ plansF s k,p.idx.length≤k ∧ -((k:Int) * 1000000)≤p.worth∧p.worth≤(k:Int) * 6400000000
 |0,_,p,hp=>by
  have hp:p=P00:=by simpa [plansF] using hp
  subst hp;refine ⟨Nat.le_refl _,by decide,by decide⟩
 |k+1,hk,p,hp=>by
  have ih:=plansF_bd hs k (by omega)
  unfold plansF at hp
  rcases List.mem_cons.1 hp with rfl|hp
  ·have hl:s.days.length - (s.days.length - (k+1))=k+1:=by omega
   have hm:=bestP_mem (l:=candP s (s.days.length - (k+1)) (plansF s k)) (by rw [candP_eq,hl,rng_succ];simp)
   rw [candP_eq] at hm ⊢
   obtain ⟨j,hj,he⟩:=List.mem_map.1 hm
   rw [← he]
   have hj:j < k+1:=by have:=List.mem_range.1 hj;omega
   have hr:=ih _ (getD_in (i:=j) P00 (by rw [plansF_len];exact hj))
   have hb:=sunS_bd hs 0 (by omega) (by omega) (s.days.length - (k+1)) (j+1)
   have hp:=priced_bd hs hb.1 hb.2
   have hc0:=hs.c0
   have hc1:=hs.c1
   unfold candA
   generalize (plansF s k).getD j P00=q at *
   refine ⟨?_,?_,?_⟩
   ·show q.idx.length+1≤k+1;omega
   ·show _≤_ - s.cost+q.worth
    omega
   ·show _ - s.cost+q.worth≤_
    omega
  ·have:=ih p hp
   refine ⟨by omega,by omega,by omega⟩
def planA (s:Sn) (i:Nat):Pl:=(plansF s (s.days.length - i)).getD 0 P00
theorem plansF_get (s:Sn):∀ (k j:Nat),j≤k→(plansF s k).getD j P00=(plansF s (k - j)).getD 0 P00
 |k,0,_=>rfl
 |0,j+1,h=>by omega
 |k+1,j+1,h=>by
  rw [show k+1 - (j+1)=k - j by omega,← plansF_get s k j (by omega)]
  rfl
theorem plansF_at (s:Sn) (d k:Nat) (hd:d+k < s.days.length):(plansF s (s.days.length - (d+1))).getD k P00=planA s (d+k+1):=by
 rw [plansF_get s _ k (by omega)]
 unfold planA
 rw [show s.days.length - (d+1) - k=s.days.length - (d+k+1) by omega]
theorem planA_last (s:Sn):planA s s.days.length=P00:=by unfold planA;rw [Nat.sub_self];rfl
theorem planA_best (s:Sn) (d:Nat) (hd:d < s.days.length):planA s d=bestP (candP s d (plansF s (s.days.length - (d+1)))):=by
 unfold planA
 rw [show s.days.length - d=(s.days.length - (d+1))+1 by omega]
 show bestP (candP s (s.days.length - (s.days.length - (d+1)+1)) _)=_
 rw [show s.days.length - (s.days.length - (d+1)+1)=d by omega]
theorem planA_bd {s:Sn} (hs:OkSn s) (i:Nat):(planA s i).idx.length≤64 ∧ -64000000≤(planA s i).worth∧(planA s i).worth≤409600000000:=by
 have h:=plansF_bd hs (s.days.length - i) (by omega) _ (getD_in (i:=0) P00 (by rw [plansF_len];omega))
 have:=hs.n1
 unfold planA
 refine ⟨by omega,by omega,by omega⟩
theorem plansS_at (s:Sn) (i:Nat) (h:i≤s.days.length):(plansS s).getD i P00=planA s i:=plansF_get s _ i h
end Sh

namespace Sh
open Go Go.Proofs
theorem fromG_get (s:Sn):∀ (l:List Dy) (i:Nat) (so:Int) (j:Nat) (z:List DV),(fromG s i so l)[j]?=some z→j < l.length∧z=[DV.int .i64 ((i+j:Nat)),DV.int .i64 ((fromS s so l).getD j 0)]
 |[],i,so,j,z,h=>by simp [fromG] at h
 |d :: r,i,so,0,z,h=>by
  have h:some [DV.int .i64 (i),DV.int .i64 (so)]=some z:=h
  cases h
  exact ⟨by simp,rfl⟩
 |d :: r,i,so,j+1,z,h=>by
  have h:(fromG s (i+1) (aftS s d so) r)[j]?=some z:=h
  obtain ⟨h1,h2⟩:=fromG_get s r _ _ j z h
  refine ⟨by simp;omega,?_⟩
  rw [h2,show i+1+j=i+(j+1) by omega];rfl
theorem fromG_len (s:Sn):∀ (l:List Dy) (i:Nat) (so:Int),(fromG s i so l).length=l.length
 |[],_,_=>rfl
 |d :: r,i,so=>by show (fromG s (i+1) (aftS s d so) r).length+1=r.length+1;rw [fromG_len s r]
theorem fromD_len (s:Sn) (d:Nat) (so:Int):(fromD s d so).length=s.days.length - d:=by unfold fromD;rw [fromG_len,List.length_drop]
theorem fromD_get (s:Sn) (d:Nat) (so:Int) (j:Nat) (z:List DV) (h:(fromD s d so)[j]?=some z):d+j < s.days.length∧z=[DV.int .i64 ((d+j:Nat)),DV.int .i64 ((fromS s so (s.days.drop d)).getD j 0)]:=by
 have h1:=fromG_get s _ _ _ _ _ h
 rw [List.length_drop] at h1
 exact ⟨by omega,h1.2⟩
def encZ:DV:=.agg [.full [],DV.int .i64 (0)]
def rowP (s:Sn) (m:Nat):List DV:=rng (s.days.length+1) fun i=>if m≤i∧i < s.days.length then encP (planA s i) else encZ
theorem rowP_len (s:Sn) (m:Nat):(rowP s m).length=s.days.length+1:=rng_len _ _
theorem rowP_get (s:Sn) (m i:Nat) (h:i≤s.days.length):(rowP s m).getD i .undef=if m≤i∧i < s.days.length then encP (planA s i) else encZ:=rng_getD _ _ (by omega)
theorem rowP_set (s:Sn) (m:Nat) (h:m < s.days.length):(rowP s (m+1)).set m (encP (planA s m))=rowP s m:=by
 unfold rowP
 rw [rng_set]
 refine rng_congr fun k hk=>?_
 by_cases h1:k=m
 ·subst h1;rw [if_pos rfl,if_pos ⟨Nat.le_refl _,h⟩]
 ·rw [if_neg h1]
  by_cases h2:m+1≤k∧k < s.days.length
  ·rw [if_pos h2,if_pos ⟨by omega,h2.2⟩]
  ·rw [if_neg h2,if_neg (by omega)]
theorem rowP_start (s:Sn):rowP s s.days.length=List.replicate (s.days.length+1) encZ:=by
 rw [rng_const]
 exact rng_congr fun k hk=>if_neg (by omega)
def candJ (s:Sn) (d j:Nat):List DV:=rng j fun k=>encP (candA s d (plansF s (s.days.length - (d+1))) k)
theorem candJ_len (s:Sn) (d j:Nat):(candJ s d j).length=j:=rng_len _ _
theorem candJ_succ (s:Sn) (d j:Nat):candJ s d (j+1)=candJ s d j++[encP (candA s d (plansF s (s.days.length - (d+1))) j)]:=rng_succ _ _
def inH (s:Sn) (d j:Nat):Heap:=[(1,.box 6 (encS s)),(4,.box 1 (.own 16 0 (s.days.length+1) (s.days.length+1))),(6,.box 1 (.own 500060 0 (candJ s d j).length (candJ s d j).length)),(7,.box 1 (DV.int .i64 (sunS s 0 d j))),(16,.row 2 (rowP s (d+1)) false),(500060,.row 2 (candJ s d j) false)]
theorem c_plans (s:Sn) (hs:OkSn s):PC 106 [encS s] (.list (rowP s 0)):=by
 have e1:((s.days.map encD).length:Int)=s.days.length:=by simp
 have hn:=hs.n1
 have hp0:=hs.p0
 have hp1:=hs.p1
 have hc0:=hs.c0
 have hc1:=hs.c1
 refine pureCall_ofR dh106 rfl ?_
 conv=>whnf
 rw [e1,wrap_succ _ (by omega),Int.toNat_natCast]
 refine ⟨⟨by omega,by omega,by omega,rfl,rfl⟩,?_⟩
 conv=>whnf
 rw [show List.replicate (s.days.length+1) (DV.agg [.full [],DV.int .i64 (0)])=rowP s s.days.length from (rowP_start s).symm]
 rw [show IntKind.i64.wrap ((s.days.length:Int) - 1)=(s.days.length:Int) - 1 from wrap_in (by omega) (by omega)]
 refine dwp_loopU (P:=Tryz.prog) (G:=GC) (k:=dk106_1) (b:=db106_1) (α:=Nat) (fun m=>[(5,.ip (DV.int .i64 ((m:Int) - 1)))]) (fun m=>[(1,.box 6 (encS s)),(4,.box 1 (.own 16 0 (s.days.length+1) (s.days.length+1))),(16,.row 2 (rowP s m) false)]) (fun m=>m≤s.days.length) (fun m=>m) s.days.length (Nat.le_refl _) ?_
 conv=>whnf
 refine ⟨rfl,rfl,?_⟩
 conv=>whnf
 refine ⟨rfl,?_⟩
 intro m h1
 conv=>whnf
 refine ⟨fun hb=>?_,fun hb=>?_⟩
 ·have hm:0 < m:=by have:=of_decide_eq_true hb;omega
  obtain ⟨d,rfl⟩:∃ d,m=d+1:=⟨m - 1,by omega⟩
  clear hb
  rw [show ((d+1:Nat):Int) - 1=(d:Int) by omega]
  conv=>whnf
  refine .inr ⟨[(5,99)],_,_,_,_,h_from s d 0,⟨rfl,by kernel_rfl,?_,?_⟩,?_⟩
  ·exact trivial
  ·exact ⟨.inr rfl,trivial⟩
  conv=>whnf
  refine range_W2 (P:=Tryz.prog) (G:=GC) (x:=db106_0x) (y:=db106_0) (k:=dk106_0) (fromD s d 0) (inH s d) [(1,.bptr 1 0),(2,.full []),(4,.bptr 4 0),(5,.ip (DV.int .i64 (d))),(6,.bptr 6 0),(7,.bptr 7 0)] (fun j=>True) trivial (fromIt s d 0 hs (by omega) (by omega) (by omega)) rfl ⟨rfl,rfl⟩ (by decide) ⟨rfl,rfl⟩ (fun z hz=>(fromG_flat s _ _ _ z hz).2) rfl rfl rfl ?_ ?_ ?_
  ·unfold inH;rw [sunS_zero];rfl
  ·intro j z hz _
   obtain ⟨hj,rfl⟩:=fromD_get s d 0 j z hz
   have hsb:=soil_bd hs 0 (by omega) (by omega) d j hj
   have hd:=hs.ds _ (getD_in D0 hj)
   have k1:=c_lightD (s.days.getD (d+j) D0) ((fromS s 0 (s.days.drop d)).getD j 0) hd hsb.1 hsb.2
   have hsu:=sunS_succ s 0 d j hj
   have b1:=sunS_bd hs 0 (by omega) (by omega) d j
   have b2:=sunS_bd hs 0 (by omega) (by omega) d (j+1)
   have hpr:=priced_bd hs b2.1 b2.2
   have hcl:=candJ_len s d j
   have hcs:=candJ_succ s d j
   have hpa:=planA_bd hs (d+j+1)
   have hat:=plansF_at s d j hj
   have hrow:=rowP_get s (d+1) (d+j+1) (by omega)
   unfold candA at hcs
   rw [hat] at hcs
   unfold inH
   rw [hcs]
   generalize (fromS s 0 (s.days.drop d)).getD j 0=so at *
   generalize sunS s 0 d j=A at *
   generalize sunS s 0 d (j+1)=A' at *
   generalize hR:candJ s d j=R at *
   conv=>whnf
   rw [getD_enc _ _ ((d+j)) D0 hj]
   refine ⟨idxA hj rfl,?_⟩
   conv=>whnf
   repeat' (first
    |(refine ⟨fun hg=>?_,fun hg=>?_⟩<;>first|contradiction|(conv=>whnf))
    |(refine Or.inl ?_;conv=>whnf)
    |(refine ⟨_,k1,?_⟩;conv=>whnf)
    |(refine And.intro ?_ ?_;kernel_rfl;conv=>whnf))
   rw [wrap_succ (d+j) (by omega),show IntKind.i64.wrap (A+lgtS (s.days.getD (d+j) D0) so)=A' from by rw [wrap_in (by omega) (by omega)];omega]
   refine ⟨⟨by rw [rowP_len],by omega,by omega⟩,?_⟩
   rw [Int.toNat_natCast,Nat.zero_add]
   have hRl:=rowP_len s (d+1)
   generalize rowP s (d+1)=RR at *
   have hrw:RR.getD (0+(d+j+1)) .undef=if d+j+1 < s.days.length then encP (planA s (d+j+1)) else encZ:=by
    rw [Nat.zero_add,hrow]
    by_cases h:d+j+1 < s.days.length
    ·rw [if_pos h,if_pos ⟨by omega,h⟩]
    ·rw [if_neg h,if_neg (by omega)]
   have hPl:¬ d+j+1 < s.days.length→planA s (d+j+1)=P00:=fun h=>by rw [show d+j+1=s.days.length by omega,planA_last]
   generalize planA s (d+j+1)=q at *
   have hw1:IntKind.i64.wrap (s.price * A')=s.price * A':=wrap_in (by omega) (by omega)
   have hw2:IntKind.i64.wrap (s.price * A' - s.cost)=s.price * A' - s.cost:=wrap_in (by omega) (by omega)
   have hw3:IntKind.i64.wrap (s.price * A' - s.cost+q.worth)=s.price * A' - s.cost+q.worth:=wrap_in (by omega) (by omega)
   by_cases hlast:d+j+1 < s.days.length
   ·rw [if_pos hlast] at hrw
    conv=>whnf
    rw [hrw]
    refine ⟨⟨hRl.symm,rfl⟩,?_⟩
    conv=>whnf
    refine ⟨⟨by simp;omega,fun e he=>iD_ok q.idx e he,fun e he=>by simp at he;subst he;rfl⟩,?_⟩
    conv=>whnf
    rw [hw1,hw2,hw3]
    refine ⟨⟨rfl,rfl,rfl,by rw [hcl];simp;omega,fun e he=>by simp at he;subst he;rfl⟩,?_⟩
    conv=>whnf
    refine ⟨by kernel_rfl,?_⟩
    conv=>whnf
    exact ⟨rfl,rfl,trivial⟩
   ·rw [if_neg hlast] at hrw
    have hPq:=hPl hlast
    subst hPq
    conv=>whnf
    rw [hrw]
    refine ⟨⟨hRl.symm,rfl⟩,?_⟩
    conv=>whnf
    refine ⟨⟨by simp,fun e he=>by simp at he,fun e he=>by simp at he;subst he;rfl⟩,?_⟩
    conv=>whnf
    have hw4:IntKind.i64.wrap (s.price * A' - s.cost+0)=s.price * A' - s.cost+0:=hw3
    rw [hw1,hw2,hw4]
    refine ⟨⟨rfl,rfl,rfl,by rw [hcl];simp;omega,fun e he=>by simp at he;subst he;rfl⟩,?_⟩
    conv=>whnf
    refine ⟨by kernel_rfl,?_⟩
    conv=>whnf
    exact ⟨rfl,rfl,trivial⟩
  ·intro _
   rw [fromD_len]
   have hcl:=candJ_len s d (s.days.length - d)
   have hb:=planA_best s d (by omega)
   rw [candP_eq] at hb
   have hbk:=c_best (rng (s.days.length - d) (candA s d (plansF s (s.days.length - (d+1))))) (fun e=>by have:=congrArg List.length e;rw [rng_len] at this;simp at this;omega) (by rw [rng_len];omega) (fun p hp=>by
    obtain ⟨k,hk,rfl⟩:=List.mem_map.1 hp
    have hk:=List.mem_range.1 hk
    unfold candA
    rw [plansF_at s d k (by omega)]
    have:=(planA_bd hs (d+k+1)).1
    show (planA s (d+k+1)).idx.length+1 < _
    omega)
   rw [← hb] at hbk
   have hpl:plsV (rng (s.days.length - d) (candA s d (plansF s (s.days.length - (d+1)))))=.list (candJ s d (s.days.length - d)):=by unfold plsV candJ;rw [rng_map]
   rw [hpl] at hbk
   have hset:=rowP_set s d (by omega)
   have hRl:=rowP_len s (d+1)
   unfold inH
   generalize candJ s d (s.days.length - d)=R at *
   generalize sunS s 0 d (s.days.length - d)=A at *
   generalize rowP s (d+1)=RR at *
   generalize planA s d=q at *
   conv=>whnf
   refine .inl ?_
   conv=>whnf
   rw [window_full]
   refine ⟨rfl,_,hbk,?_⟩
   conv=>whnf
   refine ⟨⟨hRl.symm,by omega,by omega⟩,?_⟩
   rw [Int.toNat_natCast,Nat.zero_add]
   conv=>whnf
   refine ⟨⟨hRl.symm,by decide,rfl⟩,?_⟩
   rw [show (RR.set d (bif Nat.beq 0 0 && Nat.beq 2 2 then DV.agg [iL q.idx,DV.int .i64 (q.worth)] else DV.agg (setCells (RR.getD d DV.undef).cells 0 (DV.agg [iL q.idx,DV.int .i64 (q.worth)]).cells)))=rowP s d from hset]
   conv=>whnf
   refine ⟨by kernel_rfl,?_⟩
   conv=>whnf
   rw [show IntKind.i64.wrap ((d:Int) - 1)=(d:Int) - 1 from wrap_in (by omega) (by omega)]
   exact ⟨d,rfl,rfl,rfl,by omega,by omega⟩
 ·have hm:m=0:=by have:=of_decide_eq_false hb;omega
  subst hm
  clear hb
  have hRl:=rowP_len s 0
  conv=>whnf
  refine ⟨hRl.symm,?_⟩
  rw [← hRl,window_full];rfl
end Sh

namespace Sh
open Go Go.Proofs
theorem c_worthP (p:Pl):PC 113 [encP p] (DV.int .i64 (p.worth)):=by
 refine pureCall_ofR dh113 rfl ?_
 conv=>whnf
 rfl
def plW (s:Sn) (i:Nat):List Int:=rng i fun k=>(planA s k).worth
theorem plW_len (s:Sn) (i:Nat):(plW s i).length=i:=rng_len _ _
theorem plW_succ (s:Sn) (i:Nat):plW s (i+1)=plW s i++[(planA s i).worth]:=rng_succ _ _
theorem plW_all (s:Sn):plW s (s.days.length+1)=tableS s:=by
 unfold plW tableS
 refine List.ext_getElem (by rw [rng_len,List.length_map];unfold plansS;rw [plansF_len]) fun i h1 h2=>?_
 have hi:i≤s.days.length:=by rw [rng_len] at h1;omega
 have h3:=plansS_at s i hi
 have hl:i < (plansS s).length:=by unfold plansS;rw [plansF_len];omega
 rw [List.getElem_map]
 have e1:=rng_getD (fun k=>(planA s k).worth) 0 (show i < s.days.length+1 by omega)
 rw [List.getD_eq_getElem?_getD,List.getElem?_eq_getElem h1] at e1
 refine Eq.trans e1 ?_
 rw [← h3]
 simp [List.getD_eq_getElem?_getD,hl]
theorem c_mappedP (s:Sn) (hn:s.days.length≤64):PC 112 [.list (rowP s 0),.func 113 []] (iL (tableS s)):=by
 have e0:=rowP_len s 0
 refine pureCall_ofR dh112 rfl ?_
 conv=>whnf
 refine dwp_loopU (P:=Tryz.prog) (G:=GC) (k:=dk112_0) (b:=db112_0) (α:=Nat) (fun i=>[(5,.own 5 0 (iD (plW s i)).length (iD (plW s i)).length),(10,DV.int .i64 (i))]) (fun i=>[(5,.row 1 (iD (plW s i)) false)]) (fun i=>i≤s.days.length+1) (fun i=>s.days.length+1 - i) 0 (Nat.zero_le _) ?_
 conv=>whnf
 refine ⟨rfl,rfl,?_⟩
 conv=>whnf
 refine ⟨rfl,?_⟩
 intro i h1
 conv=>whnf
 refine ⟨fun hb=>?_,fun hb=>?_⟩
 ·have hi:i < s.days.length+1:=by have:=of_decide_eq_true hb;rw [e0] at this;omega
  clear hb
  have hl:=plW_len s i
  have hs:=plW_succ s i
  have hrow:=rowP_get s 0 i (by omega)
  have hq:=c_worthP (planA s i)
  have hPl:¬ i < s.days.length→planA s i=P00:=fun h=>by rw [show i=s.days.length by omega,planA_last]
  generalize plW s i=R at *
  generalize planA s i=q at *
  generalize rowP s 0=RR at *
  have hx:i < RR.length:=by omega
  conv=>whnf
  by_cases hc:i < s.days.length
  ·rw [if_pos ⟨Nat.zero_le _,hc⟩] at hrow
   rw [Int.toNat_natCast,hrow]
   refine ⟨⟨by omega,by omega,rfl⟩,?_⟩
   conv=>whnf
   repeat' (first
    |(refine ⟨fun hg=>?_,fun hg=>?_⟩<;>first|contradiction|(conv=>whnf))
    |(refine Or.inl ?_;conv=>whnf)
    |(refine ⟨_,hq ..,?_⟩;conv=>whnf)
    |(refine And.intro ?_ ?_;kernel_rfl;conv=>whnf))
   refine ⟨⟨rfl,rfl,rfl,by rw [iD_len];simp;omega,fun e he=>by simp at he;subst he;rfl⟩,?_⟩
   conv=>whnf
   rw [wrap_succ i (by omega)]
   refine ⟨i+1,rfl,?_,?_,by omega,by omega⟩
   ·rw [hs,iD_app R];rfl
   ·rw [hs,iD_app R];rfl
  ·rw [if_neg (by omega)] at hrow
   have hP:=hPl hc
   subst hP
   rw [Int.toNat_natCast,hrow]
   refine ⟨⟨by omega,by omega,rfl⟩,?_⟩
   conv=>whnf
   repeat' (first
    |(refine ⟨fun hg=>?_,fun hg=>?_⟩<;>first|contradiction|(conv=>whnf))
    |(refine Or.inl ?_;conv=>whnf)
    |(refine ⟨_,hq ..,?_⟩;conv=>whnf)
    |(refine And.intro ?_ ?_;kernel_rfl;conv=>whnf))
   refine ⟨⟨rfl,rfl,rfl,by rw [iD_len];simp;omega,fun e he=>by simp at he;subst he;rfl⟩,?_⟩
   conv=>whnf
   rw [wrap_succ i (by omega)]
   refine ⟨i+1,rfl,?_,?_,by omega,by omega⟩
   ·rw [hs,iD_app R];rfl
   ·rw [hs,iD_app R];rfl
 ·have hi:i=s.days.length+1:=by have:=of_decide_eq_false hb;rw [e0] at this;omega
  clear hb
  rw [hi]
  have ha:=plW_all s
  rw [ha]
  conv=>whnf
  refine ⟨rfl,?_⟩
  rw [window_full];rfl
theorem c_Table (s:Sn) (hl:s.days.length < 1073741824):PC 39 [encS s] (optL (chkSn s) (tableS s)):=by
 have k1:=c_CheckSeason s hl
 by_cases hc:chkSn s≠0
 ·rw [optL_no hc]
  generalize chkSn s=k at *
  refine pureCall_ofR dh39 rfl ?_
  conv=>whnf
  repeat' (first
   |(refine ⟨fun hg=>?_,fun hg=>?_⟩<;>first|contradiction|(exfalso;revert hg;simp;done)|(exfalso;exact absurd (of_decide_eq_true hg) (by assumption))|(exfalso;exact absurd (by assumption) (of_decide_eq_false hg))|(conv=>whnf))
   |(refine Or.inl ?_;conv=>whnf)
   |(refine ⟨_,k1,?_⟩;conv=>whnf)
   |(refine And.intro ?_ ?_;kernel_rfl;conv=>whnf))
  rfl
 ·rw [optL_yes hc]
  have hs:OkSn s:=chkSn_zero (by omega)
  have k2:=c_plans s hs
  have k3:=c_mappedP s hs.n1
  generalize chkSn s=k at *
  refine pureCall_ofR dh39 rfl ?_
  conv=>whnf
  repeat' (first
   |(refine ⟨fun hg=>?_,fun hg=>?_⟩<;>first|contradiction|(exfalso;revert hg;simp;done)|(exfalso;exact absurd (of_decide_eq_true hg) (by assumption))|(exfalso;exact absurd (by assumption) (of_decide_eq_false hg))|(conv=>whnf))
   |(refine Or.inl ?_;conv=>whnf)
   |(refine ⟨_,k1,?_⟩;conv=>whnf)
   |(refine ⟨_,k2,?_⟩;conv=>whnf)
   |(refine ⟨_,k3,?_⟩;conv=>whnf)
   |(refine And.intro ?_ ?_;kernel_rfl;conv=>whnf))
  rfl
theorem c_CloneI (l:List Int) (hl:l.length < 1073741824):PC 104 [iL l] (iL l):=by
 cases l with
 |nil =>
  refine pureCall_ofR dh104 rfl ?_
  conv=>whnf
  refine ⟨?_,?_⟩
  ·conv=>whnf
   rfl
  ·conv=>whnf
   refine ⟨⟨by simp,fun e he=>by simp at he,fun e he=>by simp at he⟩,?_⟩
   conv=>whnf
   rfl
 |cons a r =>
  refine pureCall_ofR dh104 rfl ?_
  conv=>whnf
  refine ⟨fun hg=>absurd hg (by decide),fun _=>?_⟩
  conv=>whnf
  refine ⟨⟨by simp only [List.length_map,List.reverse_nil,List.length_nil];omega,fun e he=>iD_ok (a :: r) e he,fun e he=>absurd he List.not_mem_nil⟩,?_⟩
  conv=>whnf
  rfl
end Sh

namespace Sh
open Go Go.Proofs
def headA (s:Sn) (k:Nat):Pl:=⟨(planA s k).idx,s.price * sunS s s.soil 0 k+(planA s k).worth⟩
theorem headC_eq (s:Sn):headC s=rng s.days.length (headA s):=by
 unfold headC
 refine rng_congr fun k hk=>?_
 rw [plansS_at s k (by omega)];rfl
def headJ (s:Sn) (j:Nat):List DV:=rng j fun k=>encP (headA s k)
theorem headJ_len (s:Sn) (j:Nat):(headJ s j).length=j:=rng_len _ _
theorem headJ_succ (s:Sn) (j:Nat):headJ s (j+1)=headJ s j++[encP (headA s j)]:=rng_succ _ _
def hdH (s:Sn) (j:Nat):Heap:=[(1,.box 6 (encS s)),(6,.box 1 (.list (rowP s 0))),(7,.box 1 (.own 500070 0 (headJ s j).length (headJ s j).length)),(8,.box 1 (DV.int .i64 (sunS s s.soil 0 j))),(500070,.row 2 (headJ s j) false)]
def optLW (k:Int) (p:Pl):DV:=.tuple [iL (if k≠0 then [] else p.idx),DV.int .i64 (if k≠0 then 0 else p.worth),DV.int .i64 (k)]
theorem c_Planned (s:Sn) (hl:s.days.length < 1073741824):PC 37 [encS s] (optLW (chkSn s) (plannedS s)):=by
 have k1:=c_CheckSeason s hl
 by_cases hc:chkSn s≠0
 ·unfold optLW
  rw [if_pos hc,if_pos hc]
  generalize chkSn s=k at *
  refine pureCall_ofR dh37 rfl ?_
  conv=>whnf
  repeat' (first
   |(refine ⟨fun hg=>?_,fun hg=>?_⟩<;>first|contradiction|(exfalso;revert hg;simp;done)|(exfalso;exact absurd (of_decide_eq_true hg) (by assumption))|(exfalso;exact absurd (by assumption) (of_decide_eq_false hg))|(conv=>whnf))
   |(refine Or.inl ?_;conv=>whnf)
   |(refine ⟨_,k1,?_⟩;conv=>whnf)
   |(refine And.intro ?_ ?_;kernel_rfl;conv=>whnf))
  rfl
 ·unfold optLW
  rw [if_neg hc,if_neg hc]
  have hs:OkSn s:=chkSn_zero (by omega)
  have hn:=hs.n1
  have hn0:=hs.n0
  have hp0:=hs.p0
  have hp1:=hs.p1
  have hs0:=hs.s0
  have hs1:=hs.s1
  have k2:=c_plans s hs
  have hk0:chkSn s=0:=by omega
  rw [hk0] at k1
  refine pureCall_ofR dh37 rfl ?_
  conv=>whnf
  refine .inl ?_
  conv=>whnf
  refine ⟨_,k1 ..,?_⟩
  conv=>whnf
  refine ⟨fun hg=>absurd hg (by decide),fun _=>?_⟩
  conv=>whnf
  refine .inl ?_
  conv=>whnf
  refine ⟨_,k2 ..,?_⟩
  conv=>whnf
  refine .inr ⟨[(5,99)],_,_,_,_,h_from s 0 s.soil,⟨rfl,by kernel_rfl,?_,?_⟩,?_⟩
  ·exact trivial
  ·exact ⟨.inr rfl,trivial⟩
  conv=>whnf
  refine range_W2 (P:=Tryz.prog) (G:=GC) (x:=db37_0x) (y:=db37_0) (k:=dk37_0) (fromD s 0 s.soil) (hdH s) [(1,.bptr 1 0),(2,.full []),(3,DV.int .i64 (0)),(4,DV.int .i64 (0)),(6,.bptr 6 0),(7,.bptr 7 0),(8,.bptr 8 0)] (fun j=>True) trivial (fromIt s 0 s.soil hs (by omega) hs0 hs1) rfl ⟨rfl,rfl⟩ (by decide) ⟨rfl,rfl⟩ (fun z hz=>(fromG_flat s _ _ _ z hz).2) rfl rfl rfl ?_ ?_ ?_
  ·unfold hdH;rw [sunS_zero];rfl
  ·intro j z hz _
   obtain ⟨hj,rfl⟩:=fromD_get s 0 s.soil j z hz
   rw [Nat.zero_add] at hj ⊢
   have hsb:=soil_bd hs s.soil hs0 hs1 0 j (by omega)
   have hd:=hs.ds _ (getD_in D0 hj)
   have k3:=c_lightD (s.days.getD j D0) ((fromS s s.soil (s.days.drop 0)).getD j 0) hd hsb.1 hsb.2
   have hsu:=sunS_succ s s.soil 0 j (by omega)
   rw [Nat.zero_add] at hsu
   have b1:=sunS_bd hs s.soil hs0 hs1 0 j
   have b2:=sunS_bd hs s.soil hs0 hs1 0 (j+1)
   have hpr:=priced_bd hs b1.1 b1.2
   have hcl:=headJ_len s j
   have hcs:=headJ_succ s j
   have hpa:=planA_bd hs j
   have hrow:=rowP_get s 0 j (by omega)
   rw [if_pos ⟨Nat.zero_le _,hj⟩] at hrow
   have hRl:=rowP_len s 0
   unfold headA at hcs
   unfold hdH
   rw [hcs]
   generalize (fromS s s.soil (s.days.drop 0)).getD j 0=so at *
   generalize sunS s s.soil 0 j=A at *
   generalize sunS s s.soil 0 (j+1)=A' at *
   generalize hR:headJ s j=R at *
   generalize planA s j=q at *
   generalize rowP s 0=RR at *
   have hw1:IntKind.i64.wrap (s.price * A)=s.price * A:=wrap_in (by omega) (by omega)
   have hw2:IntKind.i64.wrap (s.price * A+q.worth)=s.price * A+q.worth:=wrap_in (by omega) (by omega)
   have hx:j < RR.length:=by omega
   conv=>whnf
   rw [Int.toNat_natCast,hrow]
   refine ⟨⟨by omega,by omega,rfl⟩,?_⟩
   conv=>whnf
   rw [Int.toNat_natCast,hrow]
   refine ⟨⟨by omega,by omega,rfl⟩,?_⟩
   conv=>whnf
   rw [hw1,hw2]
   refine ⟨⟨rfl,rfl,rfl,by rw [hcl];simp;omega,fun e he=>by simp at he;subst he;rfl⟩,?_⟩
   conv=>whnf
   refine ⟨by kernel_rfl,?_⟩
   conv=>whnf
   rw [getD_enc _ _ (j) D0 hj]
   refine ⟨idxA hj rfl,?_⟩
   conv=>whnf
   refine .inl ?_
   conv=>whnf
   refine ⟨_,k3,?_⟩
   conv=>whnf
   refine ⟨by kernel_rfl,?_⟩
   conv=>whnf
   rw [show IntKind.i64.wrap (A+lgtS (s.days.getD j D0) so)=A' from by rw [wrap_in (by omega) (by omega)];omega]
   exact ⟨rfl,rfl,trivial⟩
  ·intro _
   rw [fromD_len,Nat.sub_zero]
   have hsall:sunS s s.soil 0 s.days.length=sumI (lightF s s.soil s.days):=by
    unfold sunS;rw [List.drop_zero,List.take_of_length_le (by rw [lightF_len];omega)]
   have b1:=sunS_bd hs s.soil hs0 hs1 0 s.days.length
   have hpr:=priced_bd hs b1.1 b1.2
   have hcl:=headJ_len s s.days.length
   have hw1:IntKind.i64.wrap (s.price * sunS s s.soil 0 s.days.length)=s.price * sunS s s.soil 0 s.days.length:=wrap_in (by omega) (by omega)
   have hbk:=c_best (headC s++[⟨[],s.price * sumI (lightF s s.soil s.days)⟩]) (by simp) (by rw [headC_eq,List.length_append,rng_len];simp;omega) (fun p hp=>by
    rcases List.mem_append.1 hp with hp|hp
    ·rw [headC_eq] at hp
     obtain ⟨k,hk,rfl⟩:=List.mem_map.1 hp
     have:=(planA_bd hs k).1
     show (planA s k).idx.length < _
     omega
    ·simp only [List.mem_cons,List.not_mem_nil,or_false] at hp
     subst hp;simp)
   have hpl:plsV (headC s++[⟨[],s.price * sumI (lightF s s.soil s.days)⟩])=.list (headJ s s.days.length++[.agg [.list [],DV.int .i64 (s.price * sunS s s.soil 0 s.days.length)]]):=by
    unfold plsV headJ;rw [headC_eq,List.map_append,rng_map,hsall];rfl
   rw [hpl] at hbk
   have hbp:bestP (headC s++[⟨[],s.price * sumI (lightF s s.soil s.days)⟩])=plannedS s:=rfl
   rw [hbp] at hbk
   have hcw:PC 104 [iL (plannedS s).idx] (iL (plannedS s).idx):=c_CloneI _ (by
    have hm:=bestP_mem (l:=headC s++[⟨[],s.price * sumI (lightF s s.soil s.days)⟩]) (by simp)
    rw [hbp] at hm
    rcases List.mem_append.1 hm with hp|hp
    ·rw [headC_eq] at hp
     obtain ⟨k,hk,he⟩:=List.mem_map.1 hp
     rw [← he]
     have:=(planA_bd hs k).1
     show (planA s k).idx.length < _
     omega
    ·simp only [List.mem_cons,List.not_mem_nil,or_false] at hp
     rw [hp];simp)
   unfold hdH
   generalize plannedS s=p at *
   generalize headJ s s.days.length=R at *
   generalize sunS s s.soil 0 s.days.length=A at *
   conv=>whnf
   rw [hw1]
   refine ⟨⟨rfl,rfl,rfl,by rw [hcl];simp;omega,fun e he=>by simp at he;subst he;rfl⟩,?_⟩
   conv=>whnf
   refine .inl ?_
   conv=>whnf
   rw [window_full]
   refine ⟨rfl,_,hbk,?_⟩
   conv=>whnf
   refine .inl ?_
   conv=>whnf
   refine ⟨_,hcw,?_⟩
   conv=>whnf
   refine ⟨by kernel_rfl,?_⟩
   conv=>whnf
   rw [hk0];rfl
end Sh

namespace Sh
open Go
end Sh

namespace Sh
open Go Go.Proofs
theorem max_max (a b:Int):minmaxI true a b=max a b:=by
 unfold minmaxI
 show (if b > a then b else a)=_
 split<;>omega
end Sh

namespace Sh
open Go
def CP (s:Sn) (tb:List Int) (d k:Nat):Prop:=s.price * sunS s 0 d (k+1) - s.cost+tb.getD (d+k+1) 0≤tb.getD d 0
def DP (s:Sn) (tb:List Int) (v:Int) (t:Nat):Prop:=s.price * sunS s s.soil 0 t+tb.getD t 0≤v
def Prv (s:Sn) (tb:List Int) (v:Int):Prop:=0≤tb.getD s.days.length 0∧(∀ d,d < s.days.length→∀ k,k < s.days.length - d→CP s tb d k)∧∀ t,t≤s.days.length→DP s tb v t
noncomputable instance (s:Sn) (tb:List Int) (v:Int):Decidable (Prv s tb v):=Classical.propDecidable _
noncomputable def prvB (s:Sn) (tb:List Int) (v:Int):Bool:=decide (Prv s tb v)
theorem prvB_yes {s:Sn} {tb:List Int} {v:Int} (h:Prv s tb v):prvB s tb v=true:=by unfold prvB;exact decide_eq_true h
theorem prvB_no {s:Sn} {tb:List Int} {v:Int} (h:¬ Prv s tb v):prvB s tb v=false:=by unfold prvB;exact decide_eq_false h
def tbE (x:Int):Int:=withE x (-100000000000) 100000000000
def chkTb (s:Sn) (tb:List Int):Int:=if tb.length≠s.days.length+1 then 2 else firstE (tb.map tbE)
theorem chkTb_ok {s:Sn} {tb:List Int} (h:chkTb s tb=0):tb.length=s.days.length+1∧∀ x ∈ tb,-100000000000≤x∧x≤100000000000:=by
 unfold chkTb at h
 by_cases hl:tb.length≠s.days.length+1
 ·rw [if_pos hl] at h;cases h
 ·rw [if_neg hl] at h
  have h:=firstE_mem h
  exact ⟨by omega,fun x hx=>withE_zero (h _ (List.mem_map.2 ⟨x,hx,rfl⟩))⟩
end Sh

namespace Sh
open Go Go.Proofs
end Sh
