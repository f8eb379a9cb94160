/-
  Chapter 9's functions, walked over pure data: the library of the walk, the functions' code over data, and what each computes. (part 2)
-/
import Derived.Test.YtjgckckimeldeaaGreatDoorP1
import Derived.Lib.SliceRun
import Derived.Lib.AppendZerosOnto
import Derived.WideKeyRuns
set_option linter.unusedVariables false
set_option linter.unusedSimpArgs false
/- Rows that are frozen,and values that are read out of the heap. -/
set_option linter.unusedSectionVars false
namespace Sh
open Go
mutual
theorem relV_pure {M:Mem} {ρ:Locs} {h:Heap} (d:DV) (v:Value) (hp:pureB d=true) (hr:RelV M ρ h d v):RelP M d v:=by
 cases d with
 |agg cs =>
  obtain ⟨vs,rfl,hl,h1⟩:=hr.inv_agg
  exact .agg cs vs hl (relV_pures cs (fun i=>vs.getD i Go.undef) (by simpa [pureB] using hp) h1)
 |tuple cs =>
  obtain ⟨vs,rfl,hl,h1⟩:=hr.inv_tuple
  exact .tuple cs vs hl (relV_pures cs (fun i=>vs.getD i Go.undef) (by simpa [pureB] using hp) h1)
 |func f cs =>
  obtain ⟨vs,rfl,hl,h1⟩:=hr.inv_func
  exact .func f cs vs hl (relV_pures cs (fun i=>vs.getD i Go.undef) (by simpa [pureB] using hp) h1)
 |meth f cs =>
  obtain ⟨vs,rfl,hl,h1⟩:=hr.inv_meth
  exact .meth f cs vs hl (relV_pures cs (fun i=>vs.getD i Go.undef) (by simpa [pureB] using hp) h1)
 |own _ _ _ _=>simp [pureB] at hp
 |ptr _ _ _ _=>simp [pureB] at hp
 |bptr _ _=>simp [pureB] at hp
 |dict _=>simp [pureB] at hp
 |sub _ _ _ _ _=>simp [pureB] at hp
 |sptr _ _ _ _ _=>simp [pureB] at hp
 |vl _=>simp [pureB] at hp
 |_=>cases hr with|pure h=>exact h
theorem relV_pures {M:Mem} {ρ:Locs} {h:Heap} (ds:List DV) (vs:Nat→Value) (hp:pureBs ds=true) (hr:∀ i,i < ds.length→RelV M ρ h (ds.getD i .undef) (vs i)):∀ i,i < ds.length→RelP M (ds.getD i .undef) (vs i):=by
 cases ds with
 |nil=>intro i hi;simp at hi
 |cons d r =>
  simp only [pureBs,Bool.and_eq_true] at hp
  intro i hi
  cases i with
  |zero=>exact relV_pure d (vs 0) hp.1 (by simpa using hr 0 (by simp))
  |succ i =>
   have:=relV_pures r (fun i=>vs (i+1)) hp.2 (fun i hi=>by simpa using hr (i+1) (by simpa using hi)) i (by simpa using hi)
   simpa using this
end
theorem pure_getD:∀ {cs:List DV},pureBs cs=true→∀ i,i < cs.length→pureB (cs.getD i .undef)=true
 |[],_,i,hi=>by simp at hi
 |d :: r,h,0,_=>by simp only [pureBs,Bool.and_eq_true] at h;exact h.1
 |d :: r,h,i+1,hi=>by
  simp only [pureBs,Bool.and_eq_true] at h
  simpa using pure_getD h.2 i (by simpa using hi)
theorem pureB_cells {d:DV} (hp:pureB d=true) (i:Nat) (hi:i < d.cells.length):pureB (d.cells.getD i .undef)=true:=by
 cases d with
 |agg cs =>
  have h':pureBs cs=true:=by simpa [pureB] using hp
  exact pure_getD h' i hi
 |_ =>
  have hi0:i=0:=by simp [DV.cells] at hi;omega
  subst hi0;exact hp
section
variable {B:Base} {nt:Nat} {M0:Mem} {w0:World} {M:Mem} {ρ:Locs} {t:Tmps} {h:Heap} {a:Act} {w:World}
theorem Sim.freeze1 (S:Sim B nt M0 w0 M ρ t h a w) {n sz:Nat} {es:List DV} {fr:Bool} (hn:hlook h n=some (.row sz es fr)) :
  ∃ M',M.le M'∧Sim B nt M0 w0 M' ρ t ((n,.row sz es true) :: h) a w∧(∀ b o v,M' b o=some v→M b o=none→B.wr b)∧Ext M ρ h M' ρ ((n,.row sz es true) :: h):=by
 have hl:∀ m,hlook ((n,DObj.row sz es true) :: h) m=if n=m then some (.row sz es true) else hlook h m:=fun m=>hlook_cons _ _ _ _
 have hx:∀ M',M.le M'→Ext M ρ h M' ρ ((n,.row sz es true) :: h):=fun M' hm=>by
  refine ⟨hm,fun m sz' es' fr' e=>?_,fun m o e hk=>⟨rfl,o,?_,like_refl hk⟩,fun m sz' c isz es' pd e=>nrw_same ?_ rfl rfl⟩
  ·rw [hl]
   by_cases e2:n=m
   ·subst e2;rw [hn] at e;cases e
    exact ⟨sz,es,true,by rw [if_pos rfl],Nat.le_refl _,fun _=>⟨.inl rfl,rfl⟩⟩
   ·exact ⟨sz',es',fr',by rw [if_neg e2];exact e,Nat.le_refl _,fun _=>⟨.inl rfl,rfl⟩⟩
  ·rw [hl]
   by_cases e2:n=m
   ·subst e2;rw [hn] at e;cases e;cases hk
   ·rw [if_neg e2];exact e
  ·rw [hl,if_neg (fun e2=>by subst e2;rw [hn] at e;cases e)];exact e
 have hdis:∀ m p,hlook ((n,DObj.row sz es true) :: h) m=some p→∃ p',hlook h m=some p':=fun m p e=>by
  rw [hl] at e
  by_cases e2:n=m
  ·subst e2;exact ⟨_,hn⟩
  ·rw [if_neg e2] at e;exact ⟨p,e⟩
 have hobj:=S.obj n _ hn
 simp only [ObjRel] at hobj
 cases hρ:ρ n with
 |none =>
  rw [hρ] at hobj
  refine ⟨M,M.le_refl,?_,(fun b o v e e'=>by rw [e] at e';cases e'),hx M M.le_refl⟩
  refine { S with tm:=fun i=>(S.tm i).ext (hx M M.le_refl),obj:=fun m p hp=>?_,dis:=fun m m' p p' b c b' c' hne h1 h2 e1 e2=>?_,dsub:=S.dsub.set hn rfl,ext:=S.ext.trans (hx M M.le_refl) }
  ·rw [hl] at hp
   by_cases e2:n=m
   ·subst e2;rw [if_pos rfl] at hp;cases hp
    simp only [ObjRel,hρ];exact hobj
   ·rw [if_neg e2] at hp;exact (S.obj m p hp).ext (hx M M.le_refl) rfl
  ·obtain ⟨q,hq⟩:=hdis m p h1;obtain ⟨q',hq'⟩:=hdis m' p' h2
   exact S.dis m m' q q' b c b' c' hne hq hq' e1 e2
 |some bc =>
  obtain ⟨b,c⟩:=bc
  rw [hρ] at hobj
  obtain ⟨h2,cs,ty,h3,h4,h5,h6,h7,h8,h9⟩:=hobj
  obtain ⟨fz,h3',h3z⟩:=id h3
  have hf:∀ o v,M b o=some v→cs[o]?=some v:=fun o v e=>by
   have:=S.mem b o v e;rwa [cell_of_heap h3'] at this
  have hm:=memWith_le (M:=M) hf
  have hnew:∀ b' o v,memWith M b cs b' o=some v→M b' o=none→B.wr b':=fun b' o v e e'=>by
   unfold memWith at e
   by_cases hbb:b'=b
   ·rw [hbb];exact h2.1
   ·rw [if_neg hbb,e'] at e;cases e
  refine ⟨memWith M b cs,hm,?_,hnew,hx _ hm⟩
  refine { S with le:=Mem.le_trans S.le hm,tm:=fun i=>(S.tm i).ext (hx _ hm),mem:=fun b' o v e=>?_,obj:=fun m p hp=>?_,dis:=fun m m' p p' b c b' c' hne h1 h2 e1 e2=>?_,dsub:=S.dsub.set hn rfl,new:=fun b' o v e e0=>?_,ext:=S.ext.trans (hx _ hm) }
  ·unfold memWith at e
   by_cases hbb:b'=b
   ·subst hbb;rw [if_pos rfl] at e;rw [cell_of_heap h3'];exact e
   ·rw [if_neg hbb] at e;exact S.mem _ _ _ e
  ·rw [hl] at hp
   by_cases e2:n=m
   ·subst e2;rw [if_pos rfl] at hp;cases hp
    simp only [ObjRel,hρ]
    have hs:∀ e ∈ es,e.cells.length=sz:=fun e he=>(okE_spec (h6 e he)).1
    have hlen:(flat es).length≤cs.size:=by
     rw [length_flat es sz hs,h4];exact Nat.mul_le_mul_right _ h5
    refine ⟨h2,cs,ty,h3.froze,h4,h5,h6,fun i hi=>(h7 i hi).mono hm,fun _ i hi=>?_,by simp⟩
    unfold memWith;rw [if_pos rfl,agetD_lt (by omega),Array.getElem?_eq_getElem (by omega)]
   ·rw [if_neg e2] at hp
    refine ((S.obj m p hp).mem hm (fun b' hb' hfree o=>?_)).ext ⟨Mem.le_refl _,(hx _ hm).row,(hx _ hm).box,(hx _ hm).nrw⟩ rfl
    have:b'≠b:=fun e=>S.occ_dis (Ne.symm e2) ⟨p,hp,e ▸ hb'⟩ (.main hn hρ)
    unfold memWith;rw [if_neg this];exact hfree o
  ·obtain ⟨q,hq⟩:=hdis m p h1;obtain ⟨q',hq'⟩:=hdis m' p' h2
   exact S.dis m m' q q' b c b' c' hne hq hq' e1 e2
  ·cases hM:M b' o with
   |none=>exact hnew b' o v e hM
   |some v'=>exact S.new b' o v' hM e0
theorem memWith_new {b:Nat} {cs:Array Value} (hB:B.wr b):∀ b' o v,memWith M b cs b' o=some v→M b' o=none→B.wr b':=fun b' o v e e'=>by
 unfold memWith at e
 by_cases hbb:b'=b
 ·rw [hbb];exact hB
 ·rw [if_neg hbb,e'] at e;cases e
theorem Sim.freezeBox (S:Sim B nt M0 w0 M ρ t h a w) {n sz:Nat} {d:DV} (hn:hlook h n=some (.box sz d)) (hp:pureB d=true) :
  ∃ M',M.le M'∧Sim B nt M0 w0 M' ρ t ((n,.fbox sz d) :: h) a w∧(∀ b o v,M' b o=some v→M b o=none→B.wr b)∧Ext M ρ h M' ρ ((n,.fbox sz d) :: h):=by
 have hl:∀ m,hlook ((n,DObj.fbox sz d) :: h) m=if n=m then some (.fbox sz d) else hlook h m:=fun m=>hlook_cons _ _ _ _
 obtain ⟨b,c,hρ,h2,cs,ty,h3,h4,h5,h6,h7⟩:=S.obj n _ hn
 have hf:∀ o v,M b o=some v→cs[o]?=some v:=fun o v e=>by rw [h7 o] at e;cases e
 have hm:=memWith_le (M:=M) hf
 have hx:Ext M ρ h (memWith M b cs) ρ ((n,.fbox sz d) :: h):=by
  refine ⟨hm,fun m sz' es' fr' e=>⟨sz',es',fr',?_,Nat.le_refl _,fun _=>⟨.inl rfl,rfl⟩⟩,fun m o e hk=>⟨rfl,?_⟩,fun m sz' c isz es' pd e=>nrw_same (by rw [hl,if_neg (fun e2=>by subst e2;rw [hn] at e;cases e)];exact e) rfl rfl⟩
  ·rw [hl]
   by_cases e2:n=m
   ·subst e2;rw [hn] at e;cases e
   ·rw [if_neg e2];exact e
  ·rw [hl]
   by_cases e2:n=m
   ·subst e2;rw [hn] at e;cases e;exact ⟨.fbox sz d,by rw [if_pos rfl],rfl⟩
   ·exact ⟨o,by rw [if_neg e2];exact e,like_refl hk⟩
 have hdis:∀ m p,hlook ((n,DObj.fbox sz d) :: h) m=some p→∃ p',hlook h m=some p':=fun m p e=>by
  rw [hl] at e
  by_cases e2:n=m
  ·subst e2;exact ⟨_,hn⟩
  ·rw [if_neg e2] at e;exact ⟨p,e⟩
 refine ⟨memWith M b cs,hm,?_,memWith_new h2,hx⟩
 refine { S with le:=Mem.le_trans S.le hm,tm:=fun i=>(S.tm i).ext hx,mem:=fun b' o v e=>?_,obj:=fun m p hp=>?_,dis:=fun m m' p p' b c b' c' hne h1 h2 e1 e2=>?_,dsub:=S.dsub.set hn rfl,new:=fun b' o v e e0=>?_,ext:=S.ext.trans hx }
 ·unfold memWith at e
  by_cases hbb:b'=b
  ·subst hbb;rw [if_pos rfl] at e;rw [cell_of_heap h3];exact e
  ·rw [if_neg hbb] at e;exact S.mem _ _ _ e
 ·rw [hl] at hp
  by_cases e2:n=m
  ·subst e2;rw [if_pos rfl] at hp;cases hp
   obtain ⟨h8,h9⟩:=okE_spec h5
   refine ⟨b,c,hρ,h2,cs,ty,h3,h4,h5,fun i hi=>?_,fun i hi=>?_⟩
   ·refine (relV_pure _ _ ?_ (h6 i hi)).mono hm
    exact pureB_cells hp i (by omega)
   ·unfold memWith;rw [if_pos rfl,agetD_lt (by omega),Array.getElem?_eq_getElem (by omega)]
  ·rw [if_neg e2] at hp
   refine ((S.obj m p hp).mem hm (fun b' hb' hfree o=>?_)).ext ⟨Mem.le_refl _,hx.row,hx.box,hx.nrw⟩ rfl
   have:b'≠b:=fun e=>S.occ_dis (Ne.symm e2) ⟨p,hp,e ▸ hb'⟩ (.main hn hρ)
   unfold memWith;rw [if_neg this];exact hfree o
 ·obtain ⟨q,hq⟩:=hdis m p h1;obtain ⟨q',hq'⟩:=hdis m' p' h2
  exact S.dis m m' q q' b c b' c' hne hq hq' e1 e2
 ·cases hM:M b' o with
  |none=>exact memWith_new h2 b' o v e hM
  |some v'=>exact S.new b' o v' hM e0
theorem closeD_cells (e:DV):(closeD e).cells=e.cells.map closeC:=by cases e<;>rfl
theorem closeD_getD (e:DV) (j:Nat):(closeD e).cells.getD j .undef=closeC (e.cells.getD j .undef):=by
 rw [closeD_cells]
 simp only [List.getD_eq_getElem?_getD,List.getElem?_map]
 cases e.cells[j]?<;>rfl
theorem cellB_close (d:DV):cellB (closeC d)=cellB d:=by cases d<;>rfl
theorem cellsB_close:∀ l:List DV,cellsB (l.map closeC)=cellsB l
 |[]=>rfl
 |d :: r=>by simp [cellsB,cellB_close,cellsB_close r]
theorem okE_close (sz:Nat) (e:DV):okE sz (closeD e)=okE sz e:=by
 unfold okE
 rw [closeD_cells,List.length_map,cellsB_close]
open Classical in
noncomputable def memSet (M:Mem) (w:World) (T:Nat→Prop):Mem:=fun b o=>if T b then w.cell? ⟨b,o,none⟩ else M b o
theorem memSet_in {w:World} {T:Nat→Prop} {b:Nat} (h:T b) (o:Nat):memSet M w T b o=w.cell? ⟨b,o,none⟩:=if_pos h
theorem memSet_out {w:World} {T:Nat→Prop} {b:Nat} (h:¬ T b) (o:Nat):memSet M w T b o=M b o:=if_neg h
theorem Sim.freezeN (S:Sim B nt M0 w0 M ρ t h a w) {n sz c isz:Nat} {es:List DV} (hn:hlook h n=some (.nrow sz c isz es none)) :
  ∃ M',M.le M'∧Sim B nt M0 w0 M' ρ t ((n,.row sz (es.map closeD) true) :: h) a w∧(∀ b o v,M' b o=some v→M b o=none→B.wr b)∧Ext M ρ h M' ρ ((n,.row sz (es.map closeD) true) :: h):=by
 have hl:∀ m,hlook ((n,DObj.row sz (es.map closeD) true) :: h) m=if n=m then some (.row sz (es.map closeD) true) else hlook h m:=fun m=>hlook_cons _ _ _ _
 have hm:M.le (memSet M w fun b=>Occ ρ h n b):=fun b o v e=>by
  by_cases hb:Occ ρ h n b
  ·rw [memSet_in hb];exact S.mem b o v e
  ·rw [memSet_out hb];exact e
 have hnew:∀ b o v,memSet M w (fun b=>Occ ρ h n b) b o=some v→M b o=none→B.wr b:=fun b o v e e'=>by
  by_cases hb:Occ ρ h n b
  ·exact (S.occ hb).1
  ·rw [memSet_out hb,e'] at e;cases e
 have hx:Ext M ρ h (memSet M w fun b=>Occ ρ h n b) ρ ((n,.row sz (es.map closeD) true) :: h):=by
  refine ⟨hm,fun m sz' es' fr' e=>⟨sz',es',fr',?_,Nat.le_refl _,fun _=>⟨.inl rfl,rfl⟩⟩,fun m o e hk=>⟨rfl,o,?_,like_refl hk⟩,fun m sz' c' isz' es' pd e=>?_⟩
  ·rw [hl,if_neg (fun e2=>by subst e2;rw [hn] at e;cases e)];exact e
  ·rw [hl,if_neg (fun e2=>by subst e2;rw [hn] at e;cases e;cases hk)];exact e
  ·by_cases e2:n=m
   ·subst e2;rw [hn] at e;cases e
    exact .inr ⟨sz,es.map closeD,true,by rw [hl,if_pos rfl],by simp,fun _=>⟨.inl rfl,rfl⟩⟩
   ·exact nrw_same (by rw [hl,if_neg e2];exact e) rfl rfl
 have hdis:∀ m p,hlook ((n,DObj.row sz (es.map closeD) true) :: h) m=some p→∃ p',hlook h m=some p':=fun m p e=>by
  rw [hl] at e
  by_cases e2:n=m
  ·subst e2;exact ⟨_,hn⟩
  ·rw [if_neg e2] at e;exact ⟨p,e⟩
 refine ⟨memSet M w fun b=>Occ ρ h n b,hm,?_,hnew,hx⟩
 refine { S with le:=Mem.le_trans S.le hm,tm:=fun i=>(S.tm i).ext hx,mem:=fun b' o v e=>?_,obj:=fun m p hp=>?_,dis:=fun m m' p p' b c b' c' hne h1 h2 e1 e2=>?_,dsub:=S.dsub.set hn rfl,new:=fun b' o v e e0=>?_,ext:=S.ext.trans hx }
 ·by_cases hb:Occ ρ h n b'
  ·rw [memSet_in hb] at e;exact e
  ·rw [memSet_out hb] at e;exact S.mem _ _ _ e
 ·rcases hlook_cons_of hp with ⟨rfl,rfl⟩|⟨e2,hp⟩
  ·obtain ⟨⟨g1,g2,_⟩,g3,g4⟩:=S.obj n _ hn
   simp only [ObjRel]
   cases hρ:ρ n with
   |none=>rw [hρ] at g4;subst g4;rfl
   |some bk =>
    obtain ⟨b,k⟩:=bk
    rw [hρ] at g4
    obtain ⟨q1,cs,ty,q2,q3,q4,q5,q6,q7⟩:=g4
    have hob:Occ ρ h n b:=.main hn hρ
    have hs:∀ e ∈ es.map closeD,e.cells.length=sz:=fun e he=>by
     obtain ⟨e',he',rfl⟩:=List.mem_map.1 he
     rw [closeD_cells,List.length_map];exact (okE_spec (q5 e' he')).1
    have hlen:(flat (es.map closeD)).length=es.length * sz:=by rw [length_flat _ sz hs,List.length_map]
    have hle:es.length * sz≤cs.size:=by rw [q3];exact Nat.mul_le_mul_right _ q4
    refine ⟨⟨q1,by omega⟩,cs,ty,⟨(0,0),q2,fun e=>by cases e⟩,q3,by rw [List.length_map];exact q4,fun e he=>?_,fun i hi=>?_,fun _ i hi=>?_,fun e=>by cases e⟩
    ·obtain ⟨e',he',rfl⟩:=List.mem_map.1 he
     rw [okE_close];exact q5 e' he'
    ·rw [hlen] at hi
     obtain ⟨q,r,hq,hr,rfl⟩:∃ q r,q < es.length∧r < sz∧q * sz+r=i :=
      ⟨i / sz,i % sz,(Nat.div_lt_iff_lt_mul (by omega)).2 hi,Nat.mod_lt _ (by omega),by rw [Nat.mul_comm];exact Nat.div_add_mod i sz⟩
     rw [getElem_flat _ sz hs q r (by rw [List.length_map];exact hq) hr]
     have hget:(es.map closeD).getD q .undef=closeD (es.getD q .undef):=by simp [List.getD_eq_getElem?_getD,hq]
     rw [hget,closeD_getD]
     have hc:=q6 q hq r hr
     have hin:∀ l,(es.getD q .undef).cells.getD r .undef=.inn l→r=c→InnerAt B M (ρ.sub n q) w isz l:=fun l e e'=>by
      refine g3 q l ?_
      show innOf c (es.getD q .undef)=some l
      unfold innOf
      rw [← e',e];rfl
     have hsb:∀ l b' k',(es.getD q .undef).cells.getD r .undef=.inn l→r=c→ρ.sub n q=some (b',k')→Occ ρ h n b':=fun l b' k' e e' e''=>by
      refine SubAt.occ (i:=q) ⟨sz,c,isz,es,none,l,k',hn,?_,e''⟩
      show innOf c (es.getD q .undef)=some l
      unfold innOf
      rw [← e',e];rfl
     generalize (es.getD q .undef).cells.getD r .undef=d at *
     generalize cs.getD (q * sz+r) Go.undef=v at *
     unfold CellAt at hc
     cases d with
     |inn l =>
      obtain ⟨rfl,_,hsl⟩:=hc
      have hsl:=hsl (fun l' e=>by cases e)
      have h1:=hin l rfl rfl
      show RelP _ (.list l) v
      unfold InnerAt at h1
      unfold SliceIs at hsl
      cases es':ρ.sub n q with
      |none =>
       rw [es'] at h1 hsl
       subst h1
       obtain ⟨_,a',rfl⟩:=hsl
       exact .list [] a' 0 0 0 0 (fun _=>Go.undef) (Nat.le_refl _) (.inl rfl) (by simp) (by simp [flat]) (by simp [flat])
      |some bk' =>
       obtain ⟨b',k'⟩:=bk'
       have h2:=hsb l b' k' rfl rfl es'
       rw [es'] at h1 hsl
       obtain ⟨r1,cs',t',r2,r3,r4,r5,r6,r7⟩:=h1
       obtain ⟨_,a',rfl,ha⟩:=hsl
       have hsl':∀ e ∈ l,e.cells.length=isz:=fun e he=>(okE_spec (r5 e he)).1
       have hll:(flat l).length≤cs'.size:=by rw [length_flat l isz hsl',r3];exact Nat.mul_le_mul_right _ r4
       refine .list l a' (k' - 0) isz b' 0 (fun i=>cs'.getD i Go.undef) (by omega) ?_ hsl' (fun i hi=>?_) (fun i hi=>(r6 i hi).mono hm)
       ·rcases ha with ha|ha
        ·right;rw [ha,Nat.zero_mul]
        ·exact absurd rfl ha.2
       ·rw [memSet_in h2,Nat.zero_add,cell_of_heap r2,agetD_lt (by omega),Array.getElem?_eq_getElem (by omega)]
     |_=>exact hc.mono hm
    ·rw [hlen] at hi
     rw [memSet_in hob,cell_of_heap q2,agetD_lt (by omega),Array.getElem?_eq_getElem (by omega)]
  ·exact (S.obj m p hp).turn (fun d v hr=>hr.ext hx) hm rfl rfl (fun b hb=>⟨id,rfl,fun hf o=>by
    rw [memSet_out (fun hc=>S.occ_dis (Ne.symm e2) ⟨p,hp,hb⟩ hc)];exact hf o⟩) id
 ·obtain ⟨q,hq⟩:=hdis m p h1;obtain ⟨q',hq'⟩:=hdis m' p' h2
  exact S.dis m m' q q' b c b' c' hne hq hq' e1 e2
 ·cases hM:M b' o with
  |none=>exact hnew b' o v e hM
  |some v'=>exact S.new b' o v' hM e0
def frozO:DObj→Option (Nat×List DV)
 |.row sz es _=>some (sz,es)
 |.nrow sz _ _ es none=>some (sz,es.map closeD)
 |_=>none
theorem Sim.freeze (S:Sim B nt M0 w0 M ρ t h a w) (ns:List Nat):∃ M',M.le M'∧Sim B nt M0 w0 M' ρ t (freeze ns h) a w∧(∀ b o v,M' b o=some v→M b o=none→B.wr b)∧Ext M ρ h M' ρ (Sh.freeze ns h) ∧
  (∀ n sz es fr,hlook h n=some (.row sz es fr)→hlook (Sh.freeze ns h) n=some (.row sz es (fr || decide (n ∈ ns)))) ∧
  (∀ n ∈ ns,∀ sz es,(hlook h n).bind frozO=some (sz,es)→hlook (Sh.freeze ns h) n=some (.row sz es true)):=by
 induction ns generalizing h M with
 |nil=>exact ⟨M,M.le_refl,S,(fun b o v e e'=>by rw [e] at e';cases e'),Ext.refl M ρ h,(fun n sz es fr e=>by simpa [Sh.freeze] using e),fun n hn=>by cases hn⟩
 |cons n r ih =>
  unfold Sh.freeze
  have same:hlook h n=none∨(∃ o,hlook h n=some o∧frozO o=none)→∃ M',M.le M'∧Sim B nt M0 w0 M' ρ t (Sh.freeze r h) a w∧(∀ b o v,M' b o=some v→M b o=none→B.wr b)∧Ext M ρ h M' ρ (Sh.freeze r h) ∧
    (∀ m sz es fr,hlook h m=some (.row sz es fr)→hlook (Sh.freeze r h) m=some (.row sz es (fr || decide (m ∈ n :: r)))) ∧
    (∀ m ∈ n :: r,∀ sz es,(hlook h m).bind frozO=some (sz,es)→hlook (Sh.freeze r h) m=some (.row sz es true)):=fun hn=>by
   obtain ⟨M',h1,h2,h3,h4,h5,h6⟩:=ih S
   refine ⟨M',h1,h2,h3,h4,fun m sz es fr e=>?_,fun m hm sz es e=>?_⟩
   ·have hne:m≠n:=fun e2=>by
     subst e2
     rcases hn with hn|⟨o,hn,ho⟩
     ·rw [hn] at e;cases e
     ·rw [hn] at e;cases e;cases ho
    rw [h5 m sz es fr e];simp [hne]
   ·have hne:m≠n:=fun e2=>by
     subst e2
     rcases hn with hn|⟨o,hn,ho⟩
     ·rw [hn] at e;cases e
     ·rw [hn] at e;rw [Option.bind_some,ho] at e;cases e
    exact h6 m (by rcases List.mem_cons.1 hm with h|h;exact absurd h hne;exact h) sz es e
  have turn:∀ (M1:Mem) (sz:Nat) (es:List DV),M.le M1→Sim B nt M0 w0 M1 ρ t ((n,.row sz es true) :: h) a w→(∀ b o v,M1 b o=some v→M b o=none→B.wr b)→Ext M ρ h M1 ρ ((n,.row sz es true) :: h)→(hlook h n).bind frozO=some (sz,es) →
    ∃ M',M.le M'∧Sim B nt M0 w0 M' ρ t (Sh.freeze r ((n,.row sz es true) :: h)) a w∧(∀ b o v,M' b o=some v→M b o=none→B.wr b)∧Ext M ρ h M' ρ (Sh.freeze r ((n,.row sz es true) :: h)) ∧
    (∀ m sz' es' fr,hlook h m=some (.row sz' es' fr)→hlook (Sh.freeze r ((n,.row sz es true) :: h)) m=some (.row sz' es' (fr || decide (m ∈ n :: r)))) ∧
    (∀ m ∈ n :: r,∀ sz' es',(hlook h m).bind frozO=some (sz',es')→hlook (Sh.freeze r ((n,.row sz es true) :: h)) m=some (.row sz' es' true)):=fun M1 sz es g1 g2 g3 g4 hn=>by
   obtain ⟨M',h1,h2,h3,h4,h5,h6⟩:=ih g2
   have hl:∀ m,hlook ((n,DObj.row sz es true) :: h) m=if n=m then some (.row sz es true) else hlook h m:=fun m=>hlook_cons _ _ _ _
   have h7:=h5 n sz es true (by rw [hl,if_pos rfl])
   refine ⟨M',Mem.le_trans g1 h1,h2,fun b o v e e'=>?_,g4.trans h4,fun m sz' es' fr' e=>?_,fun m hm sz' es' e=>?_⟩
   ·cases hM:M1 b o with
    |none=>exact h3 b o v e hM
    |some v'=>exact g3 b o v' hM e'
   ·by_cases e2:n=m
    ·subst e2
     rw [e] at hn;cases hn
     rw [h7];simp
    ·have:=h5 m sz' es' fr' (by rw [hl,if_neg e2];exact e)
     rw [this];simp [Ne.symm e2]
   ·by_cases e2:n=m
    ·subst e2
     rw [hn] at e;cases e
     rw [h7];simp
    ·exact h6 m (by rcases List.mem_cons.1 hm with h|h;exact absurd h.symm e2;exact h) sz' es' (by rw [hl,if_neg e2];exact e)
  cases hn:hlook h n with
  |none=>exact same (.inl hn)
  |some o =>
   cases o with
   |row sz es fr =>
    obtain ⟨M1,g1,g2,g3,g4⟩:=S.freeze1 hn
    exact turn M1 sz es g1 g2 g3 g4 (by rw [hn];rfl)
   |nrow sz c isz es pd =>
    cases pd with
    |none =>
     obtain ⟨M1,g1,g2,g3,g4⟩:=S.freezeN hn
     exact turn M1 sz (es.map closeD) g1 g2 g3 g4 (by rw [hn];rfl)
    |some q=>exact same (.inr ⟨_,hn,rfl⟩)
   |box sz d =>
    simp only
    cases hp:pureB d with
    |false =>
     simp only [cond_false]
     exact same (.inr ⟨_,hn,rfl⟩)
    |true =>
     simp only [cond_true]
     obtain ⟨M1,g1,g2,g3,g4⟩:=S.freezeBox hn hp
     obtain ⟨M',h1,h2,h3,h4,h5,h6⟩:=ih g2
     have hl:∀ m,hlook ((n,DObj.fbox sz d) :: h) m=if n=m then some (.fbox sz d) else hlook h m:=fun m=>hlook_cons _ _ _ _
     refine ⟨M',Mem.le_trans g1 h1,h2,fun b o v e e'=>?_,g4.trans h4,fun m sz' es fr e=>?_,fun m hm sz' es e=>?_⟩
     ·cases hM:M1 b o with
      |none=>exact h3 b o v e hM
      |some v'=>exact g3 b o v' hM e'
     ·have hne:m≠n:=fun e2=>by subst e2;rw [hn] at e;cases e
      rw [h5 m sz' es fr (by rw [hl,if_neg (Ne.symm hne)];exact e)];simp [hne]
     ·have hne:m≠n:=fun e2=>by subst e2;rw [hn] at e;cases e
      exact h6 m (by rcases List.mem_cons.1 hm with h|h;exact absurd h hne;exact h) sz' es (by rw [hl,if_neg (Ne.symm hne)];exact e)
   |fbox _ _=>exact same (.inr ⟨_,hn,rfl⟩)
   |dict _=>exact same (.inr ⟨_,hn,rfl⟩)
   |siter _ _=>exact same (.inr ⟨_,hn,rfl⟩)
   |ghost _ _ _=>exact same (.inr ⟨_,hn,rfl⟩)
theorem own_list (S:Sim B nt M0 w0 M ρ t h a w) {n off len tot sz:Nat} {es:List DV} {v:Value} (hn:hlook h n=some (.row sz es true)) (hr:RelV M ρ h (.own n off len tot) v) (ht:tot=es.length) :
  RelP M (.list (window es off len)) v:=by
 obtain ⟨h1,h2⟩:=hr.inv_own hn
 obtain ⟨h3,h4⟩:=h2 ht
 have hobj:=S.obj n _ hn
 simp only [ObjRel] at hobj
 cases hρ:ρ n with
 |none =>
  rw [hρ] at hobj h4
  subst hobj
  obtain ⟨a',rfl⟩:=h4
  have e1:len=0:=by simp at ht;omega
  subst e1
  have:window ([]:List DV) off 0=[]:=by simp [window]
  rw [this]
  exact .list [] a' 0 0 0 0 (fun _=>Go.undef) (Nat.le_refl _) (.inl rfl) (by simp) (by simp [flat]) (by simp [flat])
 |some bc =>
  obtain ⟨b,c⟩:=bc
  rw [hρ] at hobj h4
  obtain ⟨g2,cs,ty,g3,g4,g5,g6,g7,g8,g9⟩:=hobj
  obtain ⟨a',rfl,ha⟩:=h4
  have hs:∀ e ∈ es,e.cells.length=sz:=fun e he=>(okE_spec (g6 e he)).1
  refine window_list (b:=b) (o:=0) (g:=fun i=>cs.getD i Go.undef) hs (fun i hi=>by rw [Nat.zero_add];exact g8 trivial i hi) g7 off len (c - off) (by omega) (by omega) a' ?_
  rcases ha with ha|ha
  ·right;rw [Nat.zero_add];exact ha
  ·left;exact ha.1
theorem fptr_ip (S:Sim B nt M0 w0 M ρ t h a w) {n sz:Nat} {d:DV} {v:Value} (hn:hlook h n=some (.fbox sz d)) (hr:RelV M ρ h (.bptr n 0) v):RelP M (.ip d) v:=by
 obtain ⟨sz',b,c,d',rfl,_,hρ⟩:=hr.inv_bptr
 obtain ⟨b',c',q1,q2,cs,ty,q3,q4,q5,q6,q7⟩:=S.obj n _ hn
 rw [hρ] at q1;cases q1
 obtain ⟨h8,h9⟩:=okE_spec q5
 exact .ip d b 0 (fun i=>cs.getD i Go.undef) (fun i hi=>by rw [Nat.zero_add];exact q7 i (by omega)) (fun i hi=>q6 i (by omega))
def holds:Option Prop→Prop
 |none=>True
 |some p=>p
theorem holds_pand {p q:Option Prop} (h:holds (pand p q)):holds p∧holds q:=by
 cases p<;>cases q<;>simp_all [pand,holds]
theorem pre_holds {p:Option Prop} {N:Prop} (h:pre p N):holds p∧N:=by
 cases p<;>simp_all [pre,holds]
theorem pur_bptr {lk:Nat→Option DObj} {n off:Nat} {p:Option Prop} {d':DV} (he:pur lk (.bptr n off)=some (p,d')):∃ d0,d'=.ip d0:=by
 simp only [pur] at he
 have key:∀ d0:DV,(bif Nat.beq off 0 && pureB d0 then some (none,DV.ip d0) else none)=some (p,d')→∃ d0,d'=.ip d0:=fun d0 he=>by
  cases hc:Nat.beq off 0 && pureB d0 with
  |false=>rw [hc] at he;cases he
  |true=>rw [hc] at he;simp only [cond_true,Option.some.injEq,Prod.mk.injEq] at he;exact ⟨d0,he.2.symm⟩
 split at he
 ·exact key _ he
 ·exact key _ he
 ·cases he
mutual
theorem pur_rel (S:Sim B nt M0 w0 M ρ t h a w) (lk:Nat→Option DObj) (d:DV) (v:Value) (p:Option Prop) (d':DV) (he:pur lk d=some (p,d')) (hp:holds p) (hr:RelV M ρ h d v)
  (hfr:∀ n ∈ names d,∀ sz es,(lk n).bind frozO=some (sz,es)→hlook h n=some (.row sz es true))
  (hfb:∀ n ∈ names d,∀ sz d0,lk n=some (.box sz d0)∨lk n=some (.fbox sz d0)→pureB d0=true→hlook h n=some (.fbox sz d0)):RelP M d' v:=by
 cases d with
 |own n off len tot =>
  simp only [pur] at he
  split at he
  ·rename_i sz es fr hl
   simp only [Option.some.injEq,Prod.mk.injEq] at he
   obtain ⟨rfl,rfl⟩:=he
   exact own_list S (hfr n (by simp [names]) sz es (by rw [hl];rfl)) hr hp
  ·rename_i sz c isz es hl
   simp only [Option.some.injEq,Prod.mk.injEq] at he
   obtain ⟨rfl,rfl⟩:=he
   exact own_list S (hfr n (by simp [names]) sz (es.map closeD) (by rw [hl];rfl)) hr (by rw [List.length_map];exact hp)
  ·cases he
 |ptr n i off tot=>simp [pur] at he
 |bptr n off =>
  simp only [pur] at he
  have key:∀ sz d0,lk n=some (.box sz d0)∨lk n=some (.fbox sz d0)→(bif Nat.beq off 0 && pureB d0 then some (none,DV.ip d0) else none)=some (p,d')→RelP M d' v:=fun sz d0 hl he=>by
   cases hc:Nat.beq off 0 && pureB d0 with
   |false=>rw [hc] at he;cases he
   |true =>
    rw [hc] at he;simp only [cond_true,Option.some.injEq,Prod.mk.injEq] at he
    obtain ⟨rfl,rfl⟩:=he
    simp only [Bool.and_eq_true] at hc
    have:=Nat.eq_of_beq_eq_true hc.1;subst this
    exact fptr_ip S (hfb n (by simp [names]) sz d0 hl hc.2) hr
  split at he
  ·rename_i sz d0 hl;exact key sz d0 (.inl hl) he
  ·rename_i sz d0 hl;exact key sz d0 (.inr hl) he
  ·cases he
 |dict n=>simp [pur] at he
 |sub=>simp [pur] at he
 |sptr=>simp [pur] at he
 |inn=>simp [pur] at he
 |vl=>simp [pur] at he
 |flt k n=>simp only [pur,Option.some.injEq,Prod.mk.injEq] at he;obtain ⟨rfl,rfl⟩:=he;cases hr with|pure hp=>exact hp
 |fnan k=>simp only [pur,Option.some.injEq,Prod.mk.injEq] at he;obtain ⟨rfl,rfl⟩:=he;cases hr with|pure hp=>exact hp
 |full l =>
  simp only [pur,Option.some.injEq,Prod.mk.injEq] at he
  obtain ⟨rfl,rfl⟩:=he
  have:=hr.inv_full
  cases this with
  |full _ a' sz b o' g ha hsz hM hr'=>exact .list l a' _ sz b o' g (Nat.le_refl _) ha hsz hM hr'
 |agg cs =>
  simp only [pur] at he
  split at he
  ·rename_i q ds hds
   simp only [Option.some.injEq,Prod.mk.injEq] at he
   obtain ⟨rfl,rfl⟩:=he
   obtain ⟨vs,rfl,hl,hr'⟩:=hr.inv_agg
   obtain ⟨e1,e2⟩:=purs_rel S lk cs (fun i=>vs.getD i Go.undef) q ds hds hp hr' hfr hfb
   exact .agg ds vs (by omega) (fun i hi=>e2 i (by omega))
  ·cases he
 |tuple cs =>
  simp only [pur] at he
  split at he
  ·rename_i q ds hds
   simp only [Option.some.injEq,Prod.mk.injEq] at he
   obtain ⟨rfl,rfl⟩:=he
   obtain ⟨vs,rfl,hl,hr'⟩:=hr.inv_tuple
   obtain ⟨e1,e2⟩:=purs_rel S lk cs (fun i=>vs.getD i Go.undef) q ds hds hp hr' hfr hfb
   exact .tuple ds vs (by omega) (fun i hi=>e2 i (by omega))
  ·cases he
 |func f cs =>
  simp only [pur] at he
  split at he
  ·rename_i q ds hds
   simp only [Option.some.injEq,Prod.mk.injEq] at he
   obtain ⟨rfl,rfl⟩:=he
   obtain ⟨vs,rfl,hl,hr'⟩:=hr.inv_func
   obtain ⟨e1,e2⟩:=purs_rel S lk cs (fun i=>vs.getD i Go.undef) q ds hds hp hr' hfr hfb
   exact .func f ds vs (by omega) (fun i hi=>e2 i (by omega))
  ·cases he
 |meth f cs =>
  simp only [pur] at he
  split at he
  ·rename_i q ds hds
   simp only [Option.some.injEq,Prod.mk.injEq] at he
   obtain ⟨rfl,rfl⟩:=he
   obtain ⟨vs,rfl,hl,hr'⟩:=hr.inv_meth
   obtain ⟨e1,e2⟩:=purs_rel S lk cs (fun i=>vs.getD i Go.undef) q ds hds hp hr' hfr hfb
   exact .meth f ds vs (by omega) (fun i hi=>e2 i (by omega))
  ·cases he
 |undef=>simp only [pur,Option.some.injEq,Prod.mk.injEq] at he;obtain ⟨rfl,rfl⟩:=he;exact .undef _
 |bool b=>simp only [pur,Option.some.injEq,Prod.mk.injEq] at he;obtain ⟨rfl,rfl⟩:=he;rw [hr.inv_bool];exact .bool _
 |int k n=>simp only [pur,Option.some.injEq,Prod.mk.injEq] at he;obtain ⟨rfl,rfl⟩:=he;rw [hr.inv_int];exact .int _ _
 |str s=>simp only [pur,Option.some.injEq,Prod.mk.injEq] at he;obtain ⟨rfl,rfl⟩:=he;rw [hr.inv_str];exact .str _
 |list l=>simp only [pur,Option.some.injEq,Prod.mk.injEq] at he;obtain ⟨rfl,rfl⟩:=he;exact hr.inv_list
 |ip d=>simp only [pur,Option.some.injEq,Prod.mk.injEq] at he;obtain ⟨rfl,rfl⟩:=he;exact hr.inv_ip
 |nilptr=>simp only [pur,Option.some.injEq,Prod.mk.injEq] at he;obtain ⟨rfl,rfl⟩:=he;cases hr with|pure hp=>exact hp
 |nilfunc=>simp only [pur,Option.some.injEq,Prod.mk.injEq] at he;obtain ⟨rfl,rfl⟩:=he;cases hr with|pure hp=>exact hp
 |nilsl=>simp only [pur,Option.some.injEq,Prod.mk.injEq] at he;obtain ⟨rfl,rfl⟩:=he;cases hr with|pure hp=>exact hp
 |abool=>simp only [pur,Option.some.injEq,Prod.mk.injEq] at he;obtain ⟨rfl,rfl⟩:=he;cases hr with|pure hp=>exact hp
theorem purs_rel (S:Sim B nt M0 w0 M ρ t h a w) (lk:Nat→Option DObj) (ds:List DV) (vs:Nat→Value) (p:Option Prop) (ds':List DV) (he:purs lk ds=some (p,ds')) (hp:holds p)
  (hr:∀ i,i < ds.length→RelV M ρ h (ds.getD i .undef) (vs i)) (hfr:∀ n ∈ namess ds,∀ sz es,(lk n).bind frozO=some (sz,es)→hlook h n=some (.row sz es true))
  (hfb:∀ n ∈ namess ds,∀ sz d0,lk n=some (.box sz d0)∨lk n=some (.fbox sz d0)→pureB d0=true→hlook h n=some (.fbox sz d0)) :
  ds'.length=ds.length∧∀ i,i < ds.length→RelP M (ds'.getD i .undef) (vs i):=by
 cases ds with
 |nil =>
  simp only [purs,Option.some.injEq,Prod.mk.injEq] at he
  obtain ⟨rfl,rfl⟩:=he
  exact ⟨rfl,fun i hi=>by simp at hi⟩
 |cons d r =>
  simp only [purs] at he
  split at he
  ·rename_i q d' q' r' h1 h2
   simp only [Option.some.injEq,Prod.mk.injEq] at he
   obtain ⟨rfl,rfl⟩:=he
   obtain ⟨p1,p2⟩:=holds_pand hp
   have e1:=pur_rel S lk d (vs 0) q d' h1 p1 (by simpa using hr 0 (by simp)) (fun n hn=>hfr n (by simp [namess,hn])) (fun n hn=>hfb n (by simp [namess,hn]))
   obtain ⟨e2,e3⟩:=purs_rel S lk r (fun i=>vs (i+1)) q' r' h2 p2 (fun i hi=>by simpa using hr (i+1) (by simpa using hi)) (fun n hn=>hfr n (by simp [namess,hn])) (fun n hn=>hfb n (by simp [namess,hn]))
   refine ⟨by simp [e2],fun i hi=>?_⟩
   cases i with
   |zero=>simpa using e1
   |succ i=>simpa using e3 i (by simpa using hi)
  ·cases he
end
end
end Sh

/- What single operations come to: literals and builds. -/
namespace Sh
open Go
theorem foldSet_list (off:Nat):∀ (l:List Value) (n:Nat) (A:Array Value),off+n+l.length≤A.size →
  ((l.zipIdx n).foldl (fun cs x=>cs.setIfInBounds (off+x.2) x.1) A).size=A.size ∧
  ∀ k,((l.zipIdx n).foldl (fun cs x=>cs.setIfInBounds (off+x.2) x.1) A).getD k Go.undef=if off+n≤k∧k < off+n+l.length then l.getD (k - (off+n)) Go.undef else A.getD k Go.undef
 |[],n,A,hA=>⟨rfl,fun k=>by simp;omega⟩
 |c :: r,n,A,hA=>by
  simp only [List.zipIdx_cons,List.foldl_cons,List.length_cons] at hA ⊢
  obtain ⟨h1,h2⟩:=foldSet_list off r (n+1) (A.setIfInBounds (off+n) c) (by simp;omega)
  refine ⟨by rw [h1];simp,fun k=>?_⟩
  rw [h2]
  by_cases hk:k=off+n
  ·subst hk
   rw [if_neg (by omega),if_pos (by omega),agetD_lt (by simp;omega)]
   simp
  ·by_cases hk2:off+(n+1)≤k∧k < off+(n+1)+r.length
   ·rw [if_pos hk2,if_pos (by omega)]
    rw [show k - (off+n)=(k - (off+(n+1)))+1 by omega]
    simp
   ·rw [if_neg hk2,if_neg (by omega)]
    simp [Array.getD_eq_getD_getElem?,Array.getElem?_setIfInBounds_ne (Ne.symm hk)]
theorem foldSet (off:Nat) (v A:Array Value) (hA:off+v.size≤A.size) :
  (v.zipIdx.foldl (fun cs (c,j)=>cs.setIfInBounds (off+j) c) A).size=A.size ∧
  ∀ k,(v.zipIdx.foldl (fun cs (c,j)=>cs.setIfInBounds (off+j) c) A).getD k Go.undef=if off≤k∧k < off+v.size then v.getD (k - off) Go.undef else A.getD k Go.undef:=by
 have e:v.zipIdx.foldl (fun cs (c,j)=>cs.setIfInBounds (off+j) c) A=(v.toList.zipIdx 0).foldl (fun cs x=>cs.setIfInBounds (off+x.2) x.1) A:=by
  rw [← Array.foldl_toList,Array.toList_zipIdx]
 rw [e]
 obtain ⟨h1,h2⟩:=foldSet_list off v.toList 0 A (by simpa using hA)
 refine ⟨h1,fun k=>?_⟩
 rw [h2]
 simp only [Nat.add_zero,Array.length_toList]
 by_cases hk:off≤k∧k < off+v.size
 ·rw [if_pos hk,if_pos hk,agetD_lt (by omega),getD_lt (by simp;omega)];simp
 ·rw [if_neg hk,if_neg hk]
section
variable {P:Program} {G:Nat→Option DV} {B:Base} {nt:Nat} {M0:Mem} {w0:World} {M:Mem} {ρ:Locs} {t:Tmps} {h:Heap} {a:Act} {w:World} {o:Oper}
theorem fill_lit (hG:GOk G M0) (S:Sim B nt M0 w0 M ρ t h a w) (sz:Nat):∀ (parts:List (Nat×Operand)) (es:List DV) (A:Array Value),A.size=es.length * sz →
  (∀ e ∈ es,okE sz e=true)→(∀ p ∈ parts,p.1 < es.length)→(∀ p ∈ parts,okE sz (evalOpd G t p.2)=true) →
  (∀ i j,i < es.length→j < sz→RelV M ρ h ((es.getD i .undef).cells.getD j .undef) (A.getD (i * sz+j) Go.undef)) →
  ∃ R,Instr.fill (fun i=>some (i * sz,sz)) A (parts.map fun p=>(p.1,a.eval p.2))=some R∧R.size=A.size ∧
   (litElems (evalOpd G t) parts es).length=es.length ∧
   ∀ i j,i < es.length→j < sz→RelV M ρ h (((litElems (evalOpd G t) parts es).getD i .undef).cells.getD j .undef) (R.getD (i * sz+j) Go.undef)
 |[],es,A,hA,hes,hp,hpk,hr=>⟨A,rfl,rfl,rfl,hr⟩
 |(i0,x) :: r,es,A,hA,hes,hp,hpk,hr=>by
  have hi0:i0 < es.length:=hp (i0,x) (by simp)
  have hx:=hpk (i0,x) (by simp)
  obtain ⟨k1,k2⟩:=okE_spec hx
  obtain ⟨v1,v2⟩:=cells_getD (S.opd hG x) k2
  simp only at v1 v2 k1
  have hbound:i0 * sz+(a.eval x).cells.size≤A.size:=by
   rw [v1,k1,hA,← Nat.succ_mul];exact Nat.mul_le_mul_right _ hi0
  obtain ⟨f1,f2⟩:=foldSet (i0 * sz) (a.eval x).cells A hbound
  have hes':∀ e ∈ es.set i0 (evalOpd G t x),okE sz e=true:=fun e he=>by
   rcases List.mem_or_eq_of_mem_set he with h1|h1
   ·exact hes e h1
   ·rw [h1];exact hx
  obtain ⟨R,h1,h2,h3,h4⟩:=fill_lit hG S sz r (es.set i0 (evalOpd G t x)) _ (by rw [f1,hA];simp) hes' (fun p hp'=>by simpa using hp p (by simp [hp'])) (fun p hp'=>hpk p (by simp [hp']))
   (fun i j hi hj=>by
     rw [f2]
     simp only [List.length_set] at hi
     by_cases e:i=i0
     ·subst e
      rw [if_pos ⟨by omega,by rw [v1,k1];omega⟩]
      rw [show i * sz+j - i * sz=j by omega]
      have:(es.set i (evalOpd G t x)).getD i .undef=evalOpd G t x:=by rw [getD_lt (by simpa using hi)];simp
      rw [this];exact v2 j (by omega)
     ·rw [if_neg ?_]
      ·have:(es.set i0 (evalOpd G t x)).getD i .undef=es.getD i .undef:=by
        rw [getD_lt (by simpa using hi),getD_lt hi];simp [List.getElem_set_ne (Ne.symm e)]
       rw [this];exact hr i j hi hj
      ·rw [v1,k1]
       intro ⟨c1,c2⟩
       rcases Nat.lt_or_gt_of_ne e with h'|h'
       ·have:(i+1) * sz≤i0 * sz:=Nat.mul_le_mul_right _ h'
        rw [Nat.succ_mul] at this;omega
       ·have:(i0+1) * sz≤i * sz:=Nat.mul_le_mul_right _ h'
        rw [Nat.succ_mul] at this;omega)
  refine ⟨R,?_,by rw [h2,f1],by rw [litElems,h3];simp,fun i j hi hj=>by simpa [litElems] using h4 i j (by simpa using hi) hj⟩
  simp only [List.map_cons,Instr.fill]
  rw [if_neg]
  ·exact h1
  ·rw [v1,k1]
   simp only [ne_eq,not_true_eq_false,decide_false,Bool.false_or,decide_eq_true_eq]
   rw [v1,k1] at hbound;omega
theorem pcells_getD {d:DV} {v:Value} {M:Mem} (hr:RelP M d v) (hu:cellsB d.cells=true):v.cells.size=d.cells.length∧∀ i,i < d.cells.length→RelP M (d.cells.getD i .undef) (v.cells.getD i Go.undef):=by
 by_cases ha:isAggB d=true
 ·cases hr<;>first|(simp [isAggB] at ha;done)|skip
  rename_i ds vs hl hr'
  exact ⟨hl.symm,hr'⟩
 ·have ha':isAggB d=false:=by simpa using ha
  have hc:=cells_ne_agg ha'
  have hv:v.cells=#[v]:=by
   rw [hc] at hu
   cases hr<;>first|rfl|(simp [isAggB] at ha';done)|(simp [cellsB,cellB] at hu;done)
  rw [hv,hc]
  refine ⟨by simp,fun i hi=>?_⟩
  simp at hi;subst hi;simpa using hr
theorem zero_row {z:Value} {sz len:Nat} (hz:z.cells.size=sz) (hok:okE sz (ofValue z)=true) (h0:0 < sz) (i j:Nat) (hi:i < len) (hj:j < sz) :
  RelP M (((List.replicate len (ofValue z)).getD i .undef).cells.getD j .undef) (((Array.range (len * sz)).map (z.cells[· % z.cells.size]!)).getD (i * sz+j) Go.undef):=by
 have hlt:i * sz+j < len * sz:=by
  have:(i+1) * sz≤len * sz:=Nat.mul_le_mul_right _ hi
  rw [Nat.succ_mul] at this;omega
 obtain ⟨k1,k2⟩:=okE_spec hok
 have hr:=pcells_getD (relP_ofValue M z) k2
 have e1:(List.replicate len (ofValue z)).getD i .undef=ofValue z:=by rw [getD_lt (by simpa using hi)];simp
 have e2:((Array.range (len * sz)).map (z.cells[· % z.cells.size]!)).getD (i * sz+j) Go.undef=z.cells.getD j Go.undef:=by
  rw [agetD_lt (by simpa using hlt)]
  have:(i * sz+j) % sz=j:=by rw [Nat.mul_comm,Nat.mul_add_mod];exact Nat.mod_eq_of_lt hj
  simp only [Array.getElem_map,Array.getElem_range,hz,this]
  rw [agetD_lt (by omega),getElem!_pos z.cells j (by omega)]
 rw [e1,e2]
 exact hr.2 j (by omega)
theorem zeroT_spec {e:TypeId} {z:Value} (hz:zeroT P e=some z):∃ i,P.info? e=some i∧i.zero=some z:=by
 unfold zeroT at hz
 cases hi:P.info? e with
 |none=>rw [hi] at hz;cases hz
 |some i=>rw [hi] at hz;exact ⟨i,rfl,by simpa using hz⟩
theorem zeroValue_run {e:TypeId} {z:Value} (hz:zeroT P e=some z) (w:World):(zeroValue e).run P w=.ok z w:=by
 obtain ⟨i,hi,hz'⟩:=zeroT_spec hz
 simp only [zeroValue,typeInfo,Sem.run_bind,run_program,Result.andThen_ok,hi,Sem.run_pure,hz']
theorem lit_cells (hG:GOk G M0) (S:Sim B nt M0 w0 M ρ t h a w) (ty e:TypeId) (len sz:Nat) (agg:Bool) (z:Value) (parts:Array (Nat×Operand)) (ho:o.op=.buildSlice ty len parts)
  (ht:P.underlying ty=some (.slice e)) (he:elemT P e=some (sz,agg)) (hz:zeroT P e=some z) (hlen:len * sz≤16777216) (hzs:z.cells.size=sz) (hzo:okE sz (ofValue z)=true) (hp:∀ p ∈ parts.toList,p.1 < len)
  (hpk:∀ p ∈ parts.toList,okE sz (evalOpd G t p.2)=true) :
  ∃ R,(execOp a.eval o).run P w=.ok (.value (.slice (some ⟨w.heap.size,0,none⟩) len len)) (w.alloc (.cells R e))∧R.size=len * sz ∧
   (litElems (evalOpd G t) parts.toList (List.replicate len (ofValue z))).length=len ∧
   ∀ i j,i < len→j < sz→RelV M ρ h (((litElems (evalOpd G t) parts.toList (List.replicate len (ofValue z))).getD i .undef).cells.getD j .undef) (R.getD (i * sz+j) Go.undef):=by
 obtain ⟨h1,h2,h3,h4,h5⟩:=elemT_spec he
 have hsz:0 < sz:=by omega
 obtain ⟨R,f1,f2,f3,f4⟩:=fill_lit hG S sz parts.toList (List.replicate len (ofValue z)) ((Array.range (len * sz)).map (z.cells[· % z.cells.size]!)) (by simp) (fun e he=>by
   rw [List.mem_replicate] at he;rw [he.2];exact hzo) (fun p hp'=>by simpa using hp p hp') hpk (fun i j hi hj=>by
   simp only [List.length_replicate] at hi;exact .pure (zero_row hzs hzo hsz i j hi hj))
 refine ⟨R,?_,by rw [f2];simp,by rw [f3];simp,fun i j hi hj=>f4 i j (by simpa using hi) hj⟩
 have hparts:(parts.map fun (i,x)=>(i,a.eval x)).toList=parts.toList.map fun p=>(p.1,a.eval p.2):=by rw [Array.toList_map]
 have hbig:¬ (len * sz > 2 ^ 24):=by
  have:(2:Nat) ^ 24=16777216:=by decide
  omega
 by_cases h0:len * sz=0
 ·have hl0:len=0:=by
   rcases Nat.mul_eq_zero.1 h0 with h|h
   ·exact h
   ·omega
  subst hl0
  have hpe:parts.toList=[]:=by
   cases hp':parts.toList with
   |nil=>rfl
   |cons p r=>exact absurd (hp p (by rw [hp'];simp)) (by omega)
  rw [hpe] at f1 hparts
  simp only [Nat.zero_mul,List.map_nil,Instr.fill,Option.some.injEq] at f1
  subst f1
  simp only [execOp,ho,Instr.buildSlice,Sem.run_bind,run_underlying ht,Result.andThen_ok,size_run h1,Nat.zero_mul,hparts,List.map_nil,Instr.fill,if_true]
  have e0:¬ (0 > 2 ^ 24):=by omega
  simp only [e0,if_false,Sem.run_pure,Result.andThen_ok,newRow,newObj,Sem.run,Sem.run_bind,World.alloc_eq]
  have er:Array.range 0=#[]:=by rfl
  simp [er]
 ·simp only [execOp,ho,Instr.buildSlice,Sem.run_bind,run_underlying ht,Result.andThen_ok,size_run h1,hbig,if_false,h0,hparts,zeroValue_run hz,Sem.run_pure,f1]
  simp [newRow,newObj,Sem.run]
theorem flat_rel {R:DV→Value→Prop} {es:List DV} {sz:Nat} {cs:Array Value} (hs:∀ e ∈ es,e.cells.length=sz) (hr:∀ i j,i < es.length→j < sz→R ((es.getD i .undef).cells.getD j .undef) (cs.getD (i * sz+j) Go.undef)) :
  ∀ i,i < (flat es).length→R ((flat es).getD i .undef) (cs.getD i Go.undef):=by
 intro i hi
 rw [length_flat es sz hs] at hi
 by_cases h0:sz=0
 ·subst h0;simp at hi
 obtain ⟨q,r,hq,hm,rfl⟩:∃ q r,q < es.length∧r < sz∧q * sz+r=i :=
  ⟨i / sz,i % sz,(Nat.div_lt_iff_lt_mul (by omega)).2 hi,Nat.mod_lt _ (by omega),by rw [Nat.mul_comm];exact Nat.div_add_mod i sz⟩
 rw [getElem_flat es sz hs q r hq hm]
 exact hr q r hq hm
end
end Sh

/- What single operations come to: literal slices,builds,makes. -/
namespace Sh
open Go
theorem holds_pand_mk {p q:Option Prop} (h1:holds p) (h2:holds q):holds (pand p q):=by
 cases p<;>cases q<;>simp_all [pand,holds]
theorem purs_get {lk:Nat→Option DObj}:∀ {ds ds':List DV} {p:Option Prop},purs lk ds=some (p,ds')→holds p→ds'.length=ds.length∧∀ i,i < ds.length→∃ q,pur lk (ds.getD i .undef)=some (q,ds'.getD i .undef)∧holds q
 |[],ds',p,he,hp=>by
  simp only [purs,Option.some.injEq,Prod.mk.injEq] at he
  obtain ⟨rfl,rfl⟩:=he
  exact ⟨rfl,fun i hi=>by simp at hi⟩
 |d :: r,ds',p,he,hp=>by
  simp only [purs] at he
  split at he
  ·rename_i q d' q' r' h1 h2
   simp only [Option.some.injEq,Prod.mk.injEq] at he
   obtain ⟨rfl,rfl⟩:=he
   obtain ⟨p1,p2⟩:=holds_pand hp
   obtain ⟨e1,e2⟩:=purs_get h2 p2
   refine ⟨by simp [e1],fun i hi=>?_⟩
   cases i with
   |zero=>exact ⟨q,by simpa using h1,p1⟩
   |succ i=>simpa using e2 i (by simpa using hi)
  ·cases he
theorem pur_cells {lk:Nat→Option DObj} {d d':DV} {p:Option Prop} (he:pur lk d=some (p,d')) (hp:holds p) (hu:cellsB d.cells=true):∃ q,purs lk d.cells=some (q,d'.cells)∧holds q:=by
 by_cases ha:isAggB d=true
 ·cases d<;>first|(simp [isAggB] at ha;done)|skip
  rename_i cs
  simp only [pur] at he
  split at he
  ·rename_i q ds hds
   simp only [Option.some.injEq,Prod.mk.injEq] at he
   obtain ⟨rfl,rfl⟩:=he
   exact ⟨_,hds,hp⟩
  ·cases he
 ·have ha':isAggB d=false:=by simpa using ha
  have hc:=cells_ne_agg ha'
  have hd':isAggB d'=false:=by
   rw [hc] at hu
   by_cases hb:∃ n off,d=.bptr n off
   ·obtain ⟨n,off,rfl⟩:=hb;obtain ⟨d0,rfl⟩:=pur_bptr he;rfl
   cases d<;>simp only [pur] at he<;>first|(simp [isAggB] at ha';done)|(simp [cellsB,cellB] at hu;done)|(exact absurd ⟨_,_,rfl⟩ hb)|skip
   all_goals first
    |(cases he;done)
    |(simp only [Option.some.injEq,Prod.mk.injEq] at he;obtain ⟨_,rfl⟩:=he;rfl)
    |(split at he<;>first
       |(cases he;done)
       |(simp only [Option.some.injEq,Prod.mk.injEq] at he;obtain ⟨_,rfl⟩:=he;rfl))
  rw [hc,cells_ne_agg hd']
  exact ⟨pand p none,by simp [purs,he],holds_pand_mk hp trivial⟩
theorem pur_cellB {lk:Nat→Option DObj} {d d':DV} {p:Option Prop} (he:pur lk d=some (p,d')) (hu:cellB d=true):cellB d'=true:=by
 by_cases hb:∃ n off,d=.bptr n off
 ·obtain ⟨n,off,rfl⟩:=hb;obtain ⟨d0,rfl⟩:=pur_bptr he;rfl
 cases d<;>simp only [pur] at he<;>first|(simp [cellB] at hu;done)|(exact absurd ⟨_,_,rfl⟩ hb)|skip
 all_goals first
  |(cases he;done)
  |(simp only [Option.some.injEq,Prod.mk.injEq] at he;obtain ⟨_,rfl⟩:=he;rfl)
  |(split at he<;>first
     |(cases he;done)
     |(simp only [Option.some.injEq,Prod.mk.injEq] at he;obtain ⟨_,rfl⟩:=he;rfl))
theorem purs_cellsB {lk:Nat→Option DObj}:∀ {ds ds':List DV} {p:Option Prop},purs lk ds=some (p,ds')→cellsB ds=true→cellsB ds'=true∧ds'.length=ds.length
 |[],ds',p,he,hu=>by
  simp only [purs,Option.some.injEq,Prod.mk.injEq] at he
  obtain ⟨_,rfl⟩:=he;exact ⟨rfl,rfl⟩
 |d :: r,ds',p,he,hu=>by
  simp only [purs] at he
  simp only [cellsB,Bool.and_eq_true] at hu
  split at he
  ·rename_i q d' q' r' h1 h2
   simp only [Option.some.injEq,Prod.mk.injEq] at he
   obtain ⟨_,rfl⟩:=he
   obtain ⟨e1,e2⟩:=purs_cellsB h2 hu.2
   exact ⟨by simp [cellsB,pur_cellB h1 hu.1,e1],by simp [e2]⟩
  ·cases he
theorem okE_pur {lk:Nat→Option DObj} {sz:Nat} {d d':DV} {p:Option Prop} (he:pur lk d=some (p,d')) (hp:holds p) (hok:okE sz d=true):okE sz d'=true:=by
 obtain ⟨k1,k2⟩:=okE_spec hok
 obtain ⟨q,e1,e2⟩:=pur_cells he hp k2
 obtain ⟨e3,e4⟩:=purs_cellsB e1 k2
 unfold okE
 rw [natbeq,e4,k1,e3];simp
theorem litElems_mem (ev:Operand→DV) (sz:Nat):∀ (parts:List (Nat×Operand)) (es:List DV),(∀ e ∈ es,okE sz e=true)→(∀ p ∈ parts,okE sz (ev p.2)=true)→∀ e ∈ litElems ev parts es,okE sz e=true
 |[],es,h1,h2=>h1
 |(i,x) :: r,es,h1,h2=>litElems_mem ev sz r _ (fun e he=>by
    rcases List.mem_or_eq_of_mem_set he with h|h
    ·exact h1 e h
    ·rw [h];exact h2 (i,x) (by simp)) (fun p hp=>h2 p (by simp [hp]))
section
variable {P:Program} {G:Nat→Option DV} {B:Base} {nt:Nat} {M0:Mem} {w0:World} {M:Mem} {ρ:Locs} {t:Tmps} {h:Heap} {a:Act} {w:World} {o:Oper}
theorem pure_cells (S:Sim B nt M0 w0 M ρ t h a w) (lk:Nat→Option DObj) {es es':List DV} {p:Option Prop} (he:purs lk es=some (p,es')) (hp:holds p) {sz:Nat} (hok:∀ e ∈ es,okE sz e=true)
  (hfr:∀ n ∈ namess es,∀ sz es,(lk n).bind frozO=some (sz,es)→hlook h n=some (.row sz es true)) (hfb:∀ n ∈ namess es,∀ sz d0,lk n=some (.box sz d0)∨lk n=some (.fbox sz d0)→pureB d0=true→hlook h n=some (.fbox sz d0)) (g:Nat→Nat→Value)
  (hr:∀ i j,i < es.length→j < sz→RelV M ρ h ((es.getD i .undef).cells.getD j .undef) (g i j)) :
  es'.length=es.length∧(∀ e ∈ es',okE sz e=true)∧∀ i j,i < es.length→j < sz→RelP M ((es'.getD i .undef).cells.getD j .undef) (g i j):=by
 obtain ⟨e1,e2⟩:=purs_get he hp
 have hn:∀ i,i < es.length→∀ n ∈ names (es.getD i .undef),n ∈ namess es:=by
  intro i hi n hn
  clear he e1 e2 hok hfr hr hfb
  induction es generalizing i with
  |nil=>simp at hi
  |cons d r ih =>
   cases i with
   |zero=>simp [namess] at hn ⊢;exact .inl hn
   |succ i=>simp [namess] at hn ⊢;exact .inr (ih i (by simpa using hi) (by simpa using hn))
 have hcn:∀ d:DV,namess d.cells=names d:=fun d=>by cases d<;>simp [DV.cells,namess,names]
 refine ⟨e1,fun e he'=>?_,fun i j hi hj=>?_⟩
 ·obtain ⟨i,hi,rfl⟩:=List.getElem_of_mem he'
  obtain ⟨q,h1,h2⟩:=e2 i (by omega)
  have h3:=okE_pur h1 h2 (hok _ (by rw [getD_lt (by omega:i < es.length)];exact List.getElem_mem _))
  rwa [getD_lt hi] at h3
 ·obtain ⟨q,h1,h2⟩:=e2 i hi
  have hoki:=hok (es.getD i .undef) (by rw [getD_lt hi];exact List.getElem_mem _)
  obtain ⟨k1,k2⟩:=okE_spec hoki
  obtain ⟨q',h3,h4⟩:=pur_cells h1 h2 k2
  obtain ⟨h5,h6⟩:=purs_rel S lk (es.getD i .undef).cells (g i) q' _ h3 h4 (fun j hj=>hr i j hi (by omega)) (fun n hn'=>hfr n (hn i hi n (by rw [← hcn];exact hn'))) (fun n hn'=>hfb n (hn i hi n (by rw [← hcn];exact hn')))
  exact h6 j (by omega)
theorem op_lit (hG:GOk G M0) (S:Sim B nt M0 w0 M ρ t h a w) (lk:Nat→Option DObj) (ty e:TypeId) (len sz:Nat) (agg:Bool) (z:Value) (parts:Array (Nat×Operand)) (ho:o.op=.buildSlice ty len parts)
  (ht:P.underlying ty=some (.slice e)) (he:elemT P e=some (sz,agg)) (hz:zeroT P e=some z) (hlen:len * sz≤16777216) (hzs:z.cells.size=sz) (hzo:okE sz (ofValue z)=true) (hpl:∀ p ∈ parts.toList,p.1 < len)
  (hpk:∀ p ∈ parts.toList,okE sz (evalOpd G t p.2)=true) {p:Option Prop} {es:List DV} (hes:purs lk (litElems (evalOpd G t) parts.toList (List.replicate len (ofValue z)))=some (p,es)) (hp:holds p)
  (hfr:∀ n ∈ namess (litElems (evalOpd G t) parts.toList (List.replicate len (ofValue z))),∀ sz es,(lk n).bind frozO=some (sz,es)→hlook h n=some (.row sz es true))
  (hfb:∀ n ∈ namess (litElems (evalOpd G t) parts.toList (List.replicate len (ofValue z))),∀ sz d0,lk n=some (.box sz d0)∨lk n=some (.fbox sz d0)→pureB d0=true→hlook h n=some (.fbox sz d0)) :
  OpGoal P B nt M0 w0 M ρ t h a w o (.full es) []∧∀ n,hlook h n=none→Nat.blt n 1000000=true→OpGoal P B nt M0 w0 M ρ t h a w o (.own n 0 es.length es.length) [(n,.row sz es false)]:=by
 have hok:=litElems_mem (evalOpd G t) sz parts.toList (List.replicate len (ofValue z)) (fun e he=>by rw [List.mem_replicate] at he;rw [he.2];exact hzo) hpk
 obtain ⟨R,r1,r2,r3,r4⟩:=lit_cells hG S ty e len sz agg z parts ho ht he hz hlen hzs hzo hpl hpk
 obtain ⟨c1,c2,c3⟩:=pure_cells S lk hes hp hok hfr hfb (fun i j=>R.getD (i * sz+j) Go.undef) (fun i j hi hj=>r4 i j (by omega) hj)
 have hs:∀ e ∈ es,e.cells.length=sz:=fun e he=>(okE_spec (c2 e he)).1
 have hflat:=flat_rel (R:=RelP M) (cs:=R) hs (fun i j hi hj=>c3 i j (by omega) hj)
 have hl:es.length=len:=by omega
 have hfl:(flat es).length≤R.size:=by rw [length_flat es sz hs,r2,hl];exact Nat.le_refl _
 refine ⟨?_,fun n hn hn6=>?_⟩
 ·obtain ⟨s1,s2,s3⟩:=S.newImm hfl hs hflat e
  rw [hl] at s3
  exact ⟨_,_,_,_,_,r1,.inl rfl,s1,.pure s3⟩
 ·obtain ⟨s1,s2⟩:=S.newRow (elemT_spec he).2.2.1 hn (by rw [r2]) (by omega) c2 hflat e (tyN_lt hn6)
  rw [hl] at s2
  exact ⟨_,_,_,_,_,r1,.inl rfl,s1,by rw [hl];exact s2⟩
theorem op_boxI (hG:GOk G M0) (S:Sim B nt M0 w0 M ρ t h a w) (lk:Nat→Option DObj) (e:TypeId) (x:Operand) (sz:Nat) (ho:o.op=.box e x) (hk:okE sz (evalOpd G t x)=true) {p:Option Prop} {d:DV}
  (hes:purs lk [evalOpd G t x]=some (p,[d])) (hp:holds p)
  (hfr:∀ n ∈ namess [evalOpd G t x],∀ sz es,(lk n).bind frozO=some (sz,es)→hlook h n=some (.row sz es true))
  (hfb:∀ n ∈ namess [evalOpd G t x],∀ sz d0,lk n=some (.box sz d0)∨lk n=some (.fbox sz d0)→pureB d0=true→hlook h n=some (.fbox sz d0)):OpGoal P B nt M0 w0 M ρ t h a w o (.ip d) []:=by
 have hx:RelV M ρ h (evalOpd G t x) (a.eval x):=S.opd hG x
 obtain ⟨k1,k2⟩:=okE_spec hk
 obtain ⟨v1,v2⟩:=cells_getD hx k2
 obtain ⟨c1,c2,c3⟩:=pure_cells S lk hes hp (sz:=sz) (fun e he=>by rw [List.mem_singleton] at he;rw [he];exact hk) hfr hfb (fun i j=>(a.eval x).cells.getD j Go.undef) (fun i j hi hj=>by
  have h0:i=0:=by simp at hi;exact hi
  subst h0
  exact v2 j (by rw [k1];exact hj))
 have hd:d.cells.length=sz:=(okE_spec (c2 d (by simp))).1
 have hfl:flat [d]=d.cells:=by simp [flat]
 have hr0:∀ i,i < d.cells.length→RelP M (d.cells.getD i .undef) ((a.eval x).cells.getD i Go.undef):=fun i hi=>c3 0 i (by simp) (by omega)
 obtain ⟨s1,_,_⟩:=S.newImm (es:=[d]) (cs:=(a.eval x).cells) (sz:=sz) (by rw [hfl];omega) (fun e he=>by rw [List.mem_singleton] at he;rw [he];exact hd) (fun i hi=>by rw [hfl] at hi ⊢;exact hr0 i hi) e
 have hf:∀ o v,M w.heap.size o=some v→(a.eval x).cells[o]?=some v:=fun o v e=>by rw [S.free_mem (Nat.le_refl _) o] at e;cases e
 refine ⟨_,.pointer (some ⟨w.heap.size,0,none⟩),_,_,_,?_,.inl rfl,s1,.pure ?_⟩
 ·simp only [execOp,ho,Instr.box,Sem.run_bind,newVar_run,Result.andThen_ok,Sem.run_pure]
 ·exact .ip d w.heap.size 0 (fun i=>(a.eval x).cells.getD i Go.undef) (fun i hi=>by
   unfold memWith;rw [if_pos rfl,Nat.zero_add,agetD_lt (by omega),Array.getElem?_eq_getElem (by omega)]) (fun i hi=>(hr0 i hi).mono (memWith_le hf))
theorem setCells_getD (cs:List DV) (off:Nat) (new:List DV) (hb:off+new.length≤cs.length):(setCells cs off new).length=cs.length ∧
  ∀ i,(setCells cs off new).getD i .undef=if off≤i∧i < off+new.length then new.getD (i - off) .undef else cs.getD i .undef:=by
 unfold setCells
 refine ⟨by simp;omega,fun i=>?_⟩
 simp only [List.getD_eq_getElem?_getD]
 by_cases h1:i < off
 ·rw [if_neg (by omega),List.append_assoc,List.getElem?_append_left (by simp;omega),List.getElem?_take,if_pos h1]
 ·by_cases h2:i < off+new.length
  ·rw [if_pos ⟨by omega,h2⟩,List.append_assoc,List.getElem?_append_right (by simp;omega),List.getElem?_append_left (by simp;omega)]
   congr 2
   simp;omega
  ·rw [if_neg (by omega),List.getElem?_append_right (by simp;omega),List.getElem?_drop]
   congr 2
   simp;omega
theorem fill_build (hG:GOk G M0) (S:Sim B nt M0 w0 M ρ t h a w) (place:Nat→Option (Nat×Nat)):∀ (parts:List (Nat×Operand)) (ps:List (Nat×Nat×Operand)) (cs out:List DV) (A:Array Value),
  parts.length=ps.length→(∀ (i:Nat) (q:Nat×Operand) (r:Nat×Nat×Operand),parts[i]?=some q→ps[i]?=some r→place q.1=some (r.1,r.2.1)∧q.2=r.2.2) →
  cs.length=A.size→(∀ i,i < cs.length→RelV M ρ h (cs.getD i .undef) (A.getD i Go.undef))→fillCells (evalOpd G t) ps cs=some out →
  ∃ R,Instr.fill place A (parts.map fun q=>(q.1,a.eval q.2))=some R∧out.length=R.size∧∀ i,i < out.length→RelV M ρ h (out.getD i .undef) (R.getD i Go.undef)
 |[],ps,cs,out,A,hl,hpl,hA,hr,hf=>by
  cases ps with
  |nil =>
   simp only [fillCells,Option.some.injEq] at hf
   subst hf
   exact ⟨A,rfl,hA,hr⟩
  |cons _ _=>simp at hl
 |(i0,x) :: r,ps,cs,out,A,hl,hpl,hA,hr,hf=>by
  cases ps with
  |nil=>simp at hl
  |cons q ps =>
   obtain ⟨off,sz,y⟩:=q
   obtain ⟨e1,e2⟩:=hpl 0 (i0,x) (off,sz,y) rfl rfl
   simp only at e1 e2
   subst e2
   simp only [fillCells] at hf
   cases hc:(okE sz (evalOpd G t x) && Nat.ble (off+sz) cs.length) with
   |false=>rw [hc] at hf;cases hf
   |true =>
    rw [hc,cond_true] at hf
    simp only [Bool.and_eq_true] at hc
    obtain ⟨c1,c2⟩:=hc
    have c2:=Nat.le_of_ble_eq_true c2
    obtain ⟨k1,k2⟩:=okE_spec c1
    obtain ⟨v1,v2⟩:=cells_getD (S.opd hG x) k2
    obtain ⟨f1,f2⟩:=foldSet off (a.eval x).cells A (by omega)
    obtain ⟨g1,g2⟩:=setCells_getD cs off (evalOpd G t x).cells (by omega)
    obtain ⟨R,h1,h2,h3⟩:=fill_build hG S place r ps (setCells cs off (evalOpd G t x).cells) out _ (by simpa using hl)
     (fun i q r' hq hr'=>hpl (i+1) q r' (by simpa using hq) (by simpa using hr')) (by rw [f1,g1];exact hA) (fun i hi=>by
       rw [f2,g2,v1]
       by_cases hi2:off≤i∧i < off+(evalOpd G t x).cells.length
       ·rw [if_pos hi2,if_pos hi2];exact v2 _ (by omega)
       ·rw [if_neg hi2,if_neg hi2];exact hr i (by omega)) hf
    refine ⟨R,?_,h2,h3⟩
    simp only [List.map_cons,Instr.fill,e1]
    rw [if_neg]
    ·exact h1
    ·simp only [ne_eq,Bool.or_eq_true,decide_eq_true_eq,not_or];omega
theorem mapO_get {α β:Type} (f:α→Option β):∀ (l:List α) (r:List β),mapO f l=some r→l.length=r.length∧∀ (i:Nat) (a:α) (b:β),l[i]?=some a→r[i]?=some b→f a=some b
 |[],r,hm=>by simp only [mapO,Option.some.injEq] at hm;subst hm;exact ⟨rfl,fun i a b h=>by simp at h⟩
 |x :: l,r,hm=>by
  simp only [mapO] at hm
  split at hm
  ·rename_i y s h1 h2
   simp only [Option.some.injEq] at hm;subst hm
   obtain ⟨e1,e2⟩:=mapO_get f l s h2
   refine ⟨by simp [e1],fun i a b ha hb=>?_⟩
   cases i with
   |zero=>simp at ha hb;subst ha;subst hb;exact h1
   |succ i=>exact e2 i a b (by simpa using ha) (by simpa using hb)
  ·cases hm
theorem op_build (hG:GOk G M0) (S:Sim B nt M0 w0 M ρ t h a w) (ty:TypeId) (parts:Array (Nat×Operand)) (z:Array Value) (ps:List (Nat×Nat×Operand)) (cs:List DV) (ho:o.op=.build ty parts)
  (hz:zeroT P ty=some (.agg z)) (hps:mapO (buildPart P ty) parts.toList=some ps) (hbo:buildOk P ty=true) (hf:fillCells (evalOpd G t) ps (z.toList.map ofCell)=some cs):OpGoal P B nt M0 w0 M ρ t h a w o (.agg cs) []:=by
 obtain ⟨m1,m2⟩:=mapO_get _ _ _ hps
 have hrel:∀ i,i < (z.toList.map ofCell).length→RelV M ρ h ((z.toList.map ofCell).getD i .undef) (z.getD i Go.undef):=fun i hi=>by
  have hi':i < z.size:=by simpa using hi
  rw [getD_lt hi,agetD_lt hi']
  simp only [List.getElem_map,Array.getElem_toList]
  exact .pure (relP_ofCell M _)
 have hparts:(parts.map fun (i,x)=>(i,a.eval x)).toList=parts.toList.map fun p=>(p.1,a.eval p.2):=by rw [Array.toList_map]
 unfold buildOk at hbo
 split at hbo
 ·rename_i fs hu
  have hmap:(fs.mapM fun (f:Go.Field)=>do pure (f.offset,← Go.sizeOf f.type)).run P w=.ok (fs.map fun f=>(f.offset,(sizeT P f.type).getD 0)) w:=by
   have key:∀ (l:List Go.Field),(∀ f ∈ l,∃ s,sizeT P f.type=some s)→(l.mapM fun (f:Go.Field)=>do pure (f.offset,← Go.sizeOf f.type)).run P w=.ok (l.map fun f=>(f.offset,(sizeT P f.type).getD 0)) w:=by
    intro l
    induction l with
    |nil=>intro _;simp
    |cons f r ih =>
     intro hs
     obtain ⟨s,e⟩:=hs f (by simp)
     have:=ih (fun g hg=>hs g (by simp [hg]))
     simp only [List.mapM_cons,Sem.run_bind,size_run e,Result.andThen_ok,Sem.run_pure,this,List.map_cons,e,Option.getD_some]
   have h1:=key fs.toList (fun f hf=>by
    have:=List.all_eq_true.1 hbo f hf
    exact Option.isSome_iff_exists.1 this)
   have h2:fs=fs.toList.toArray:=by simp
   rw [h2,List.mapM_toArray,Sem.run_map,h1]
   simp only [Result.andThen_ok,List.map_toArray]
  obtain ⟨R,f1,f2,f3⟩:=fill_build hG S ((fs.map fun f=>(f.offset,(sizeT P f.type).getD 0))[·]?) parts.toList ps (z.toList.map ofCell) cs z m1 (fun i q r hq hr=>by
   have:=m2 i q r hq hr
   simp only [buildPart,hu] at this
   split at this
   ·rename_i f hf
    split at this
    ·rename_i sz hsz
     simp only [Option.some.injEq] at this;subst this
     exact ⟨by simp [hf,hsz],rfl⟩
    ·cases this
   ·cases this) (by simp) hrel hf
  refine OpGoal.same S (v:=.agg R) ?_ (.agg cs R f2 f3)
  simp only [execOp,ho,Instr.build,Sem.run_bind,zeroValue_run hz,Result.andThen_ok,Value.cells,run_underlying hu,hmap,hparts,f1,Sem.run_pure]
 ·rename_i n e hu
  obtain ⟨sz,hsz⟩:=Option.isSome_iff_exists.1 hbo
  obtain ⟨R,f1,f2,f3⟩:=fill_build hG S (fun i=>some (i * sz,sz)) parts.toList ps (z.toList.map ofCell) cs z m1 (fun i q r hq hr=>by
   have:=m2 i q r hq hr
   simp only [buildPart,hu,hsz,Option.some.injEq] at this
   subst this;exact ⟨rfl,rfl⟩) (by simp) hrel hf
  refine OpGoal.same S (v:=.agg R) ?_ (.agg cs R f2 f3)
  simp only [execOp,ho,Instr.build,Sem.run_bind,zeroValue_run hz,Result.andThen_ok,Value.cells,run_underlying hu,size_run hsz,hparts,f1,Sem.run_pure]
 ·cases hbo
theorem op_mkslice (hG:GOk G M0) (S:Sim B nt M0 w0 M ρ t h a w) (ty e:TypeId) (l c:Operand) (sz:Nat) (agg:Bool) (z:Value) (j k:IntKind) (m n:Int) (nm:Nat) (ho:o.op=.makeSlice ty l c)
  (ht:P.underlying ty=some (.slice e)) (he:elemT P e=some (sz,agg)) (hz:zeroT P e=some z) (hzs:z.cells.size=sz) (hl:evalOpd G t l=.int j m) (hc:evalOpd G t c=.int k n)
  (hb:0≤m∧m≤n∧n≤1073741824∧okE sz (ofValue z)=true) (hn:hlook h nm=none) (hn6:Nat.blt nm 1000000=true) :
  OpGoal P B nt M0 w0 M ρ t h a w o (.own nm 0 m.toNat m.toNat) [(nm,.row sz (List.replicate m.toNat (ofValue z)) false)]:=by
 obtain ⟨b1,b2,b3,b4⟩:=hb
 obtain ⟨h1,h2,h3,h4,h5⟩:=elemT_spec he
 obtain ⟨i,hi,hz'⟩:=zeroT_spec hz
 have r1:=S.opd hG l;rw [hl] at r1
 have r2:=S.opd hG c;rw [hc] at r2
 have hsize:i.size=sz:=by unfold sizeT at h1;rw [hi] at h1;simpa using h1
 have hbytes:i.bytes≤65536:=by unfold bytesOk at h5;rw [hi] at h5;exact Nat.le_of_ble_eq_true h5
 have hmul:i.bytes * n.toNat≤65536 * 1073741824:=Nat.mul_le_mul hbytes (by omega)
 have hrun:(Instr.makeSlice ty (.int j m) (.int k n)).run P w=.ok (.slice (some ⟨w.heap.size,0,none⟩) m.toNat n.toNat) (w.alloc (.cells (madeCells z.cells (n.toNat * sz)) e)):=by
  have:=run_make (P:=P) w ty e i z ht hi hz' j k m n b1 b2 (by
   have e1:((n.toNat:Nat):Int)=n:=by omega
   have h6:i.bytes * n.toNat≤281474976710656:=by omega
   have h7:(i.bytes:Int) * n=((i.bytes * n.toNat:Nat):Int):=by rw [Int.natCast_mul,e1]
   rw [h7];omega) (by omega)
  rw [hsize] at this
  exact this
 have hsz:0 < sz:=by omega
 have hok:∀ e ∈ List.replicate m.toNat (ofValue z),okE sz e=true:=fun e he=>by rw [List.mem_replicate] at he;rw [he.2];exact b4
 have hs:∀ e ∈ List.replicate m.toNat (ofValue z),e.cells.length=sz:=fun e he=>(okE_spec (hok e he)).1
 have hcells:∀ i,i < (flat (List.replicate m.toNat (ofValue z))).length→RelP M ((flat (List.replicate m.toNat (ofValue z))).getD i .undef) ((madeCells z.cells (n.toNat * sz)).getD i Go.undef) :=
  flat_rel (R:=RelP M) hs (fun i j hi hj=>by
   simp only [List.length_replicate] at hi
   have:=zero_row (M:=M) (len:=n.toNat) hzs b4 hsz i j (by omega) hj
   have e1:(List.replicate m.toNat (ofValue z)).getD i .undef=(List.replicate n.toNat (ofValue z)).getD i .undef:=by
    rw [getD_lt (by simpa using hi),getD_lt (by simp;omega)];simp
   rw [e1];exact this)
 obtain ⟨s1,s2⟩:=S.newRow h3 (n:=nm) (c:=n.toNat) (cs:=madeCells z.cells (n.toNat * sz)) hn (by rw [size_madeCells]) (by simp;omega) hok hcells e (tyN_lt hn6)
 rw [List.length_replicate] at s2
 refine ⟨_,_,_,_,_,?_,.inl rfl,s1,s2⟩
 simp only [execOp,ho,Sem.run_bind,r1.inv_int,r2.inv_int,hrun,Result.andThen_ok,Sem.run_pure]
end
end Sh

/- What single operations come to: stores. -/
namespace Sh
open Go
theorem heap_setCell {w:World} {b o:Nat} {v:Value} {cs:Array Value} {ty:TypeId} {fz:Nat×Nat} (hb:w.heap[b]?=some (.cells cs ty fz)) :
  (w.setCell ⟨b,o,none⟩ v).heap[b]?=some (.cells (cs.setIfInBounds o v) ty fz):=by
 simp only [World.setCell,Array.getElem?_modify,if_true,hb,Option.map_some,Option.isSome_none,Bool.false_eq_true,if_false]
theorem heap_setCells (b:Nat) {ty:TypeId} {fz:Nat×Nat}:∀ (vs:List Value) (o:Nat) (w:World) (cs:Array Value),w.heap[b]?=some (.cells cs ty fz)→o+vs.length≤cs.size →
  ∃ cs',(w.setCells b o vs).heap[b]?=some (.cells cs' ty fz)∧cs'.size=cs.size∧(∀ k,cs'.getD k Go.undef=if o≤k∧k < o+vs.length then vs.getD (k - o) Go.undef else cs.getD k Go.undef) ∧
   (∀ k,k≠b→(w.setCells b o vs).heap[k]?=w.heap[k]?)∧(w.setCells b o vs).heap.size=w.heap.size∧∀ (B:Base) w0,B.wr b→B.touch w0 w→B.touch w0 (w.setCells b o vs)
 |[],o,w,cs,hb,hl=>⟨cs,hb,rfl,fun k=>by simp;omega,fun k hk=>rfl,rfl,fun B w0 hB h=>h⟩
 |v :: r,o,w,cs,hb,hl=>by
  simp only [List.length_cons] at hl
  obtain ⟨cs',h1,h2,h3,h4,h5,h6⟩:=heap_setCells b r (o+1) (w.setCell ⟨b,o,none⟩ v) _ (heap_setCell hb) (by simp;omega)
  refine ⟨cs',h1,by rw [h2];simp,fun k=>?_,fun k hk=>?_,?_,fun B w0 hB h=>h6 B w0 hB (h.setCell (p:=⟨b,o,none⟩) hB v)⟩
  ·rw [h3]
   simp only [List.length_cons]
   by_cases hk:k=o
   ·subst hk
    rw [if_neg (by omega),if_pos (by omega),agetD_lt (by simp;omega)];simp
   ·by_cases hk2:o+1≤k∧k < o+1+r.length
    ·rw [if_pos hk2,if_pos (by omega),show k - o=(k - (o+1))+1 by omega];simp
    ·rw [if_neg hk2,if_neg (by omega)]
     simp [Array.getD_eq_getD_getElem?,Array.getElem?_setIfInBounds_ne (Ne.symm hk)]
  ·rw [World.setCells,h4 k hk];exact RowKit.Below.heap_setCell w ⟨b,o,none⟩ v k hk
  ·rw [World.setCells,h5];simp
theorem oneCell_of {M:Mem} {ρ:Locs} {h:Heap} {d:DV} {v:Value} (hr:RelV M ρ h d v) (hu:cellB d=true):v.oneCell'=true:=by
 have hc:cellsB d.cells=true:=by cases d<;>simp_all [cellB,cellsB,DV.cells]
 have ha:isAggB d=false:=by cases d<;>simp_all [cellB,isAggB]
 cases d with
 |undef=>simp [cellB] at hu
 |bool b=>rw [hr.inv_bool];rfl
 |int k n=>rw [hr.inv_int];rfl
 |str s=>rw [hr.inv_str];rfl
 |agg cs=>simp [isAggB] at ha
 |tuple cs=>simp [cellB] at hu
 |list l=>have:=hr.inv_list;cases this;rfl
 |full l=>have:=hr.inv_full;cases this;rfl
 |ip d=>have:=hr.inv_ip;cases this;rfl
 |func f cs=>obtain ⟨vs,rfl,_⟩:=hr.inv_func;rfl
 |meth f cs=>obtain ⟨vs,rfl,_⟩:=hr.inv_meth;rfl
 |nilptr=>cases hr with|pure hp=>cases hp;rfl
 |nilfunc=>cases hr with|pure hp=>cases hp<;>rfl
 |nilsl=>cases hr with|pure hp=>cases hp;rfl
 |abool=>cases hr with|pure hp=>cases hp;rfl
 |flt k n=>rw [hr.inv_flt];rfl
 |fnan k=>obtain ⟨_,rfl,_⟩:=hr.inv_fnan;rfl
 |sub n i off len tot=>cases hr with
  |pure hp=>cases hp
  |subv _ _ _ _ _ _ hs _=>obtain ⟨_,_,_,rfl⟩:=hs;rfl
 |sptr n i j off tot=>cases hr with
  |pure hp=>cases hp
  |sptrv _ _ _ _ _ _ hs _=>obtain ⟨_,rfl⟩:=hs;rfl
 |inn l=>cases hr with|pure hp=>cases hp
 |vl l=>cases hr with
  |pure hp=>cases hp
  |vl=>rfl
 |own n off len tot=>cases hr with
  |pure hp=>cases hp
  |own _ _ _ _ _ _ _ _ _ _ hs _=>obtain ⟨_,_,_,rfl⟩:=hs;rfl
  |nown _ _ _ _ _ _ _ _ _ _ _ _ hs _=>obtain ⟨_,_,_,rfl⟩:=hs;rfl
 |ptr n i off tot=>cases hr with
  |pure hp=>cases hp
  |ptr _ _ _ _ _ _ _ _ _ _ _ hs _=>obtain ⟨_,rfl⟩:=hs;rfl
  |nptr _ _ _ _ _ _ _ _ _ _ _ _ _ hs _=>obtain ⟨_,rfl⟩:=hs;rfl
 |bptr n off=>obtain ⟨_,_,_,_,rfl,_⟩:=hr.inv_bptr;rfl
 |dict n=>cases hr with
  |pure hp=>cases hp
  |dictv=>rfl
  |sitv=>rfl
  |yldv=>rfl
theorem cellsB_get:∀ {l:List DV} {i:Nat},cellsB l=true→i < l.length→cellB (l.getD i .undef)=true
 |d :: r,0,h,_=>by simp [cellsB] at h;simpa using h.1
 |d :: r,i+1,h,hi=>by simp [cellsB] at h;simpa using cellsB_get h.2 (by simpa using hi)
section
variable {P:Program} {G:Nat→Option DV} {B:Base} {nt:Nat} {M0:Mem} {w0:World} {M:Mem} {ρ:Locs} {t:Tmps} {h:Heap} {a:Act} {w:World} {o:Oper}
theorem Sim.setObjG (S:Sim B nt M0 w0 M ρ t h a w) {n b:Nat} {ob ob':DObj} (hn:hlook h n=some ob) (hocc:OnB ρ n ob b) {w':World} (hk:∀ k,k≠b→w'.heap[k]?=w.heap[k]?)
  (hbelow:B.touch w0 w') (hfree:∀ o,M b o=none) (hx:Ext M ρ h M ρ ((n,ob') :: h)) (ho':ObjRel B M ρ ((n,ob') :: h) w' n ob')
  (hsub:∀ i b',SubAt ρ ((n,ob') :: h) n i b'→SubAt ρ h n i b'):Sim B nt M0 w0 M ρ t ((n,ob') :: h) a w':=by
 have hl:∀ m,hlook ((n,ob') :: h) m=if n=m then some ob' else hlook h m:=fun m=>hlook_cons _ _ _ _
 have hback:∀ m p,hlook ((n,ob') :: h) m=some p→∃ q,hlook h m=some q:=fun m p e=>by
  rw [hl] at e
  by_cases e2:n=m
  ·subst e2;exact ⟨_,hn⟩
  ·rw [if_neg e2] at e;exact ⟨p,e⟩
 refine { S with tm:=fun i=>(S.tm i).ext hx,mem:=fun b' o v e=>?_,obj:=fun m p hp=>?_,dis:=fun m m' p p' b1 c1 b2 c2 hne h1 h2 e1 e2=>?_,dsub:=S.dsub.of (fun m i b' hs=>?_) (fun m p k b' hp e=>?_),below:=hbelow,marks:=⟨fun d hd=>?_,S.marks.2⟩,ext:=S.ext.trans hx }
 ·have hne:b'≠b:=fun e2=>by subst e2;rw [hfree] at e;cases e
  rw [World.cell?_of_block (w:=w) (w':=w') (a:=⟨b',o,none⟩) (hk b' hne)]
  exact S.mem _ _ _ e
 ·rcases hlook_cons_of hp with ⟨rfl,rfl⟩|⟨e2,hp⟩
  ·exact ho'
  ·exact (S.obj m p hp).turn (fun d v hr=>hr.ext hx) M.le_refl rfl rfl (fun b' hb'=>⟨id,hk b' (fun e=>S.occ_dis (Ne.symm e2) ⟨p,hp,e ▸ hb'⟩ ⟨ob,hn,hocc⟩),id⟩) id
 ·obtain ⟨q,hq⟩:=hback m p h1;obtain ⟨q',hq'⟩:=hback m' p' h2
  exact S.dis m m' q q' b1 c1 b2 c2 hne hq hq' e1 e2
 ·by_cases e:m=n
  ·subst e;exact hsub i b' hs
  ·obtain ⟨sz,c',isz,es,pd,l,k,q1,q2,q3⟩:=hs
   rcases hlook_cons_of q1 with ⟨e',_⟩|⟨_,q1⟩
   ·exact absurd e'.symm e
   ·exact ⟨sz,c',isz,es,pd,l,k,q1,q2,q3⟩
 ·rcases hlook_cons_of hp with ⟨rfl,_⟩|⟨_,hp⟩
  ·exact .inl ⟨ob,hn,e⟩
  ·exact .inl ⟨p,hp,e⟩
 ·obtain ⟨D,e1,e2,e3⟩:=S.marks.1 d hd
  obtain ⟨_,ob0,q1,q2⟩:=S.occ ⟨ob,hn,hocc⟩
  have hne:D≠b:=fun e=>by subst e;rw [q1] at e3;exact q2 _ (Option.some.inj e3)
  exact ⟨D,e1,e2,by rw [hk D hne];exact e3⟩
theorem Sim.setObj (S:Sim B nt M0 w0 M ρ t h a w) {n b c:Nat} {ob ob':DObj} (hn:hlook h n=some ob) (hρ:ρ n=some (b,c)) {w':World} (hk:∀ k,k≠b→w'.heap[k]?=w.heap[k]?)
  (hbelow:B.touch w0 w') (hfree:∀ o,M b o=none) {ob0:Obj} (hcell:w.heap[b]?=some ob0) (hnd:∀ ds,ob0≠.deferred ds) (hx:Ext M ρ h M ρ ((n,ob') :: h)) (ho':ObjRel B M ρ ((n,ob') :: h) w' n ob')
  (hN:ob'.isN=false:=by rfl):Sim B nt M0 w0 M ρ t ((n,ob') :: h) a w' :=
 S.setObjG hn (.inl ⟨c,hρ⟩) hk hbelow hfree hx ho' (fun i b' hs=>absurd rfl (hs.cons hN (fun _=>rfl)).2)
theorem store_run {ty:TypeId} {k b o':Nat} {v:Value} {w:World} (hs:sizeT P ty=some k) (hv:v.cells.size=k) (h1:∀ i,i < k→(v.cells.getD i Go.undef).oneCell'=true)
  {cs:Array Value} {te:TypeId} (hb:w.heap[b]?=some (.cells cs te (0,0))) (hle:o'+k≤cs.size):(storeVar ty ⟨b,o',none⟩ v).run P w=.ok () (w.setCells b o' v.cells.toList):=by
 have hlen:v.cells.toList.length=k:=by simpa using hv
 have:=run_storeCells_cells (P:=P) b o' v.cells.toList 0 w (fun j hj=>by
   rw [cell_of_heap hb,Array.getElem?_eq_getElem (by omega)];rfl) (fun j hj=>by simp [World.frozen?,hb]) (fun u hu=>by
   obtain ⟨i,hi,rfl⟩:=List.getElem_of_mem hu
   have:=h1 i (by omega)
   rwa [agetD_lt (by simpa using hi)] at this)
 rw [Nat.add_zero] at this
 simp only [storeVar,Sem.run_bind,size_run hs,Result.andThen_ok,hv,ne_eq,not_true_eq_false,if_false,this]
theorem ext_setBox (M:Mem) (ρ:Locs) {h:Heap} {n sz:Nat} {d:DV} (d':DV) (hn:hlook h n=some (.box sz d)):Ext M ρ h M ρ ((n,.box sz d') :: h):=by
 refine ⟨M.le_refl,fun m sz' es fr e=>⟨sz',es,fr,?_,Nat.le_refl _,fun _=>⟨.inl rfl,rfl⟩⟩,fun m o e hk=>⟨rfl,?_⟩,(fun m sz c isz es pd e=>nrw_same (by rw [hlook_cons,if_neg (fun e2=>by subst e2;rw [hn] at e;cases e)];exact e) rfl rfl)⟩
 ·rw [hlook_cons]
  by_cases e2:n=m
  ·subst e2;rw [hn] at e;cases e
  ·rw [if_neg e2];exact e
 ·rw [hlook_cons]
  by_cases e2:n=m
  ·subst e2;rw [hn] at e;cases e;exact ⟨.box sz d',by rw [if_pos rfl],rfl⟩
  ·exact ⟨o,by rw [if_neg e2];exact e,like_refl hk⟩
theorem okE_setCells {sz off:Nat} {cs new:List DV} (h1:cs.length=sz) (h2:cellsB cs=true) (h3:cellsB new=true) (hb:off+new.length≤sz):okE sz (.agg (setCells cs off new))=true:=by
 obtain ⟨g1,g2⟩:=setCells_getD cs off new (by omega)
 unfold okE
 rw [natbeq]
 simp only [DV.cells,g1,h1,decide_true,Bool.true_and]
 have key:∀ l:List DV,(∀ i,i < l.length→cellB (l.getD i .undef)=true)→cellsB l=true:=by
  intro l
  induction l with
  |nil=>intro _;rfl
  |cons d r ih =>
   intro hh
   simp only [cellsB,Bool.and_eq_true]
   exact ⟨by simpa using hh 0 (by simp),ih fun i hi=>by simpa using hh (i+1) (by simpa using hi)⟩
 refine key _ fun i hi=>?_
 rw [g2]
 split
 ·exact cellsB_get h3 (by omega)
 ·exact cellsB_get h2 (by omega)
theorem op_store_box (hG:GOk G M0) (S:Sim B nt M0 w0 M ρ t h a w) (ty:TypeId) (x y:Operand) (n off sz k:Nat) (d:DV) (ho:o.op=.store ty x y) (hs:sizeT P ty=some k) (hx:evalOpd G t x=.bptr n off)
  (hl:hlook h n=some (.box sz d)) (hok:okE k (evalOpd G t y)=true) (hb:off+k≤sz) :
  OpGoal P B nt M0 w0 M ρ t h a w o (.tuple []) [(n,.box sz (bif Nat.beq off 0 && Nat.beq k sz then evalOpd G t y else .agg (setCells d.cells off (evalOpd G t y).cells)))]:=by
 have r1:=S.opd hG x;rw [hx] at r1
 have r2:=S.opd hG y
 obtain ⟨k1,k2⟩:=okE_spec hok
 obtain ⟨v1,v2⟩:=cells_getD r2 k2
 obtain ⟨sz',b,c,d',e2,h2,h3⟩:=r1.inv_bptr
 obtain ⟨b',c',g1,g2,cs,te,g3,g4,g5,g6,g7⟩:=S.obj n _ hl
 rw [h3] at g1
 obtain ⟨rfl,rfl⟩:b=b'∧c=c':=by simpa using g1
 obtain ⟨q1,q2⟩:=okE_spec g5
 have hrun:=store_run (P:=P) (v:=a.eval y) hs (by omega) (fun i hi=>oneCell_of (v2 i (by omega)) (cellsB_get k2 (by omega))) g3 (show off+k≤cs.size by omega)
 obtain ⟨cs',f1,f2,f3,f4,f5,f6⟩:=heap_setCells b (a.eval y).cells.toList off w cs g3 (by simp;omega)
 have hlen:(a.eval y).cells.toList.length=k:=by simp;omega
 generalize hd2:(bif Nat.beq off 0 && Nat.beq k sz then evalOpd G t y else DV.agg (setCells d.cells off (evalOpd G t y).cells))=d2
 have hd2c:okE sz d2=true∧∀ i,i < sz→RelV M ρ h (d2.cells.getD i .undef) (cs'.getD i Go.undef):=by
  rw [natbeq,natbeq] at hd2
  have hget:∀ i,i < sz→RelV M ρ h (if off≤i∧i < off+(evalOpd G t y).cells.length then (evalOpd G t y).cells.getD (i - off) .undef else d.cells.getD i .undef) (cs'.getD i Go.undef):=fun i hi=>by
   rw [f3,hlen,k1]
   by_cases hi2:off≤i∧i < off+k
   ·rw [if_pos hi2,if_pos hi2]
    have:=v2 (i - off) (by omega)
    rwa [agetD_lt (by omega),← Array.getElem_toList (by omega),← getD_lt (by omega) Go.undef] at this
   ·rw [if_neg hi2,if_neg hi2];exact g6 i hi
  by_cases hw:off=0∧k=sz
  ·obtain ⟨rfl,rfl⟩:=hw
   simp only [decide_true,Bool.and_self,cond_true] at hd2
   subst hd2
   refine ⟨hok,fun i hi=>?_⟩
   have:=hget i hi
   rw [if_pos ⟨by omega,by omega⟩] at this
   simpa using this
  ·have:(decide (off=0) && decide (k=sz))=false:=by
    rw [Bool.and_eq_false_iff,decide_eq_false_iff_not,decide_eq_false_iff_not]
    by_cases e:off=0
    ·right;intro e';exact hw ⟨e,e'⟩
    ·left;exact e
   rw [this,cond_false] at hd2
   subst hd2
   refine ⟨okE_setCells q1 q2 k2 (by omega),fun i hi=>?_⟩
   obtain ⟨z1,z2⟩:=setCells_getD d.cells off (evalOpd G t y).cells (by omega)
   show RelV M ρ h ((setCells d.cells off (evalOpd G t y).cells).getD i .undef) _
   rw [z2];exact hget i hi
 have hx':=ext_setBox M ρ d2 hl
 refine ⟨.skip,Go.undef,w.setCells b off (a.eval y).cells.toList,M,ρ,?_,.inr ⟨rfl,rfl⟩,S.setObj hl h3 f4 (f6 B w0 g2 S.below) g7 g3 (fun _ e=>by cases e) hx' ⟨b,c,h3,g2,cs',te,f1,by omega,hd2c.1,fun i hi=>(hd2c.2 i hi).ext hx',g7⟩,
  .pure (.tuple [] #[] rfl (by simp))⟩
 simp only [execOp,ho,Instr.storeAt,Instr.sureAddr,Sem.run_bind,e2,Sem.run_pure,Result.andThen_ok,hrun]
theorem ext_setRow (M:Mem) (ρ:Locs) {h:Heap} {n sz:Nat} {es es':List DV} {fr fr':Bool} (hn:hlook h n=some (.row sz es fr)) (hle:es.length=es'.length):Ext M ρ h M ρ ((n,.row sz es' fr') :: h):=by
 refine ⟨M.le_refl,fun m sz' es1 fr1 e=>?_,fun m o e hk=>⟨rfl,o,?_,like_refl hk⟩,(fun m sz c isz es pd e=>nrw_same (by rw [hlook_cons,if_neg (fun e2=>by subst e2;rw [hn] at e;cases e)];exact e) rfl rfl)⟩
 ·rw [hlook_cons]
  by_cases e2:n=m
  ·subst e2;rw [hn] at e;cases e
   exact ⟨sz,es',fr',by rw [if_pos rfl],by omega,fun _=>⟨.inl rfl,rfl⟩⟩
  ·exact ⟨sz',es1,fr1,by rw [if_neg e2];exact e,Nat.le_refl _,fun _=>⟨.inl rfl,rfl⟩⟩
 ·rw [hlook_cons]
  by_cases e2:n=m
  ·subst e2;rw [hn] at e;cases e;cases hk
  ·rw [if_neg e2];exact e
theorem row_index {i j i' sz:Nat} (hj:j < sz) (off k:Nat) (hk:off+k≤sz):(i * sz+off≤i' * sz+j∧i' * sz+j < i * sz+off+k) ↔ i'=i∧off≤j∧j < off+k:=by
 constructor
 ·intro ⟨h1,h2⟩
  have e:i'=i:=by
   rcases Nat.lt_trichotomy i' i with h|h|h
   ·have:(i'+1) * sz≤i * sz:=Nat.mul_le_mul_right _ h
    rw [Nat.succ_mul] at this;omega
   ·exact h
   ·have:(i+1) * sz≤i' * sz:=Nat.mul_le_mul_right _ h
    rw [Nat.succ_mul] at this;omega
  subst e;exact ⟨rfl,by omega,by omega⟩
 ·rintro ⟨rfl,h1,h2⟩;omega
theorem op_store_row (hG:GOk G M0) (S:Sim B nt M0 w0 M ρ t h a w) (lk:Nat→Option DObj) (ty:TypeId) (x y:Operand) (n i off tot sz k:Nat) (es:List DV) (ho:o.op=.store ty x y) (hs:sizeT P ty=some k)
  (hx:evalOpd G t x=.ptr n i off tot) (hl:hlook h n=some (.row sz es false)) {q:Option Prop} {v':DV} (hv:pur lk (evalOpd G t y)=some (q,v')) (hq:holds q) (hok0:cellsB (evalOpd G t y).cells=true)
  (hfr:∀ n ∈ names (evalOpd G t y),∀ sz es,(lk n).bind frozO=some (sz,es)→hlook h n=some (.row sz es true))
  (hfb:∀ n ∈ names (evalOpd G t y),∀ sz d0,lk n=some (.box sz d0)∨lk n=some (.fbox sz d0)→pureB d0=true→hlook h n=some (.fbox sz d0)) (hb:tot=es.length∧off+k≤sz∧okE k v'=true) :
  OpGoal P B nt M0 w0 M ρ t h a w o (.tuple []) [(n,.row sz (es.set i (bif Nat.beq off 0 && Nat.beq k sz then v' else .agg (setCells (es.getD i .undef).cells off v'.cells))) false)]:=by
 obtain ⟨b1,b2,b3⟩:=hb
 have r1:=S.opd hG x;rw [hx] at r1
 have r2:=S.opd hG y
 obtain ⟨k1,k2⟩:=okE_spec b3
 obtain ⟨v1,v2⟩:=cells_getD r2 hok0
 obtain ⟨q',e1,e2⟩:=pur_cells hv hq hok0
 have hcn:∀ d:DV,namess d.cells=names d:=fun d=>by cases d<;>simp [DV.cells,namess,names]
 obtain ⟨e3,e4⟩:=purs_rel S lk _ (fun j=>(a.eval y).cells.getD j Go.undef) q' _ e1 e2 v2 (fun m hm=>hfr m (by rw [← hcn];exact hm)) (fun m hm=>hfb m (by rw [← hcn];exact hm))
 obtain ⟨h1,h2,h3⟩:=r1.inv_ptr hl
 obtain ⟨b,c,h4,h5⟩:=h3 b1
 have hobj:=S.obj n _ hl
 simp only [ObjRel,h4] at hobj
 obtain ⟨g2,cs,te,g3,g4,g5,g6,g7,g8,g9⟩:=hobj
 have hfree:=g9 trivial
 have hi:i < es.length:=by omega
 have hsz:∀ e ∈ es,e.cells.length=sz:=fun e he=>(okE_spec (g6 e he)).1
 have hmul:(i+1) * sz≤c * sz:=Nat.mul_le_mul_right _ (by omega)
 have hmul':i * sz+sz≤c * sz:=by rw [Nat.succ_mul] at hmul;exact hmul
 have hei:=okE_spec (g6 (es.getD i .undef) (by rw [getD_lt hi];exact List.getElem_mem _))
 have hrun:=store_run (P:=P) (v:=a.eval y) (o':=i * sz+off) hs (by omega) (fun j hj=>oneCell_of (v2 j (by omega)) (cellsB_get hok0 (by omega))) g3.plain (by omega)
 obtain ⟨cs',f1,f2,f3,f4,f5,f6⟩:=heap_setCells b (a.eval y).cells.toList (i * sz+off) w cs g3.plain (by simp;omega)
 have hlen:(a.eval y).cells.toList.length=k:=by simp;omega
 generalize hd2:(bif Nat.beq off 0 && Nat.beq k sz then v' else DV.agg (setCells (es.getD i .undef).cells off v'.cells))=d2
 have hd2c:okE sz d2=true∧∀ j,j < sz→RelP M (d2.cells.getD j .undef) (cs'.getD (i * sz+j) Go.undef):=by
  rw [natbeq,natbeq] at hd2
  have hget:∀ j,j < sz→RelP M (if off≤j∧j < off+v'.cells.length then v'.cells.getD (j - off) .undef else (es.getD i .undef).cells.getD j .undef) (cs'.getD (i * sz+j) Go.undef):=fun j hj=>by
   rw [f3,hlen,k1]
   by_cases hj2:off≤j∧j < off+k
   ·rw [if_pos hj2,if_pos ⟨by omega,by omega⟩]
    have:=e4 (j - off) (by omega)
    rw [show i * sz+j - (i * sz+off)=j - off by omega]
    rwa [agetD_lt (by omega),← Array.getElem_toList (by omega),← getD_lt (by omega) Go.undef] at this
   ·rw [if_neg hj2,if_neg (by omega)]
    have:=g7 (i * sz+j) (by
     rw [length_flat es sz hsz]
     have:(i+1) * sz≤es.length * sz:=Nat.mul_le_mul_right _ hi
     rw [Nat.succ_mul] at this;omega)
    rwa [getElem_flat es sz hsz i j hi hj] at this
  by_cases hw:off=0∧k=sz
  ·obtain ⟨rfl,rfl⟩:=hw
   simp only [decide_true,Bool.and_self,cond_true] at hd2
   subst hd2
   refine ⟨b3,fun j hj=>?_⟩
   have:=hget j hj
   rw [if_pos ⟨by omega,by omega⟩] at this
   simpa using this
  ·have:(decide (off=0) && decide (k=sz))=false:=by
    rw [Bool.and_eq_false_iff,decide_eq_false_iff_not,decide_eq_false_iff_not]
    by_cases e:off=0
    ·right;intro e';exact hw ⟨e,e'⟩
    ·left;exact e
   rw [this,cond_false] at hd2
   subst hd2
   refine ⟨okE_setCells hei.1 hei.2 k2 (by omega),fun j hj=>?_⟩
   obtain ⟨z1,z2⟩:=setCells_getD (es.getD i .undef).cells off v'.cells (by omega)
   show RelP M ((setCells (es.getD i .undef).cells off v'.cells).getD j .undef) _
   rw [z2];exact hget j hj
 have hes':∀ e ∈ es.set i d2,okE sz e=true:=fun e he=>by
  rcases List.mem_or_eq_of_mem_set he with h|h
  ·exact g6 e h
  ·rw [h];exact hd2c.1
 have hflat:=flat_rel (R:=RelP M) (es:=es.set i d2) (sz:=sz) (cs:=cs') (fun e he=>(okE_spec (hes' e he)).1) (fun i' j hi' hj=>by
  simp only [List.length_set] at hi'
  by_cases e:i'=i
  ·subst e
   rw [show (es.set i' d2).getD i' .undef=d2 by rw [getD_lt (by simpa using hi')];simp]
   exact hd2c.2 j hj
  ·rw [show (es.set i d2).getD i' .undef=es.getD i' .undef by rw [getD_lt (by simpa using hi'),getD_lt hi'];simp [List.getElem_set_ne (Ne.symm e)]]
   rw [f3,hlen,if_neg (fun hh=>e ((row_index hj off k b2).1 hh).1)]
   have:=g7 (i' * sz+j) (by
    rw [length_flat es sz hsz]
    have:(i'+1) * sz≤es.length * sz:=Nat.mul_le_mul_right _ hi'
    rw [Nat.succ_mul] at this;omega)
   rwa [getElem_flat es sz hsz i' j hi' hj] at this)
 have hx':=ext_setRow (fr':=false) M ρ hl (es':=es.set i d2) (by simp)
 refine ⟨.skip,Go.undef,w.setCells b (i * sz+off) (a.eval y).cells.toList,M,ρ,?_,.inr ⟨rfl,rfl⟩,S.setObj hl h4 f4 (f6 B w0 g2.1 S.below) hfree g3.plain (fun _ e=>by cases e) hx' ?_,.pure (.tuple [] #[] rfl (by simp))⟩
 ·simp only [execOp,ho,Instr.storeAt,Instr.sureAddr,Sem.run_bind,h5,Sem.run_pure,Result.andThen_ok,hrun]
 ·simp only [ObjRel,h4]
  exact ⟨g2,cs',te,.of f1,by omega,by simpa using g5,hes',hflat,by simp,fun _=>hfree⟩
end
end Sh

/- What single operations come to: append,copy. -/
namespace Sh
open Go
section
variable {P:Program} {G:Nat→Option DV} {B:Base} {nt:Nat} {M0:Mem} {w0:World} {M:Mem} {ρ:Locs} {t:Tmps} {h:Heap} {a:Act} {w:World} {o:Oper}
def Reads (w:World) (v:Value) (k:Nat) (g:Nat→Value):Prop:=∀ b o len cap,v=.slice (some ⟨b,o,none⟩) len cap→∀ j,j < k→w.cell? ⟨b,o+j,none⟩=some (g j)
theorem firstCells_run {v:Value} {n cap size:Nat} {a':Option Addr} {g:Nat→Value} (hv:v=.slice a' n cap) (ha:n=0∨∃ b o,a'=some ⟨b,o,none⟩) (hr:Reads w v (n * size) g):(Builtin.firstCells size n v).run P w=.ok (gcells g (n * size)) w:=by
 subst hv
 rcases ha with rfl|⟨b,o,rfl⟩
 ·cases a'<;>simp [Builtin.firstCells,gcells,loadCells,loadCellsFrom]
 ·have:=run_firstCells_some (P:=P) w size n ⟨b,o,none⟩ n cap ((List.range (n * size)).map g) (by simp) (fun j u hu=>by
   rw [add_lit]
   rw [List.getElem?_map] at hu
   cases hj:(List.range (n * size))[j]? with
   |none=>rw [hj] at hu;cases hu
   |some j' =>
    rw [hj] at hu
    obtain ⟨h7,h8⟩:=List.getElem?_eq_some_iff.1 hj
    simp at h7 h8
    subst h8
    simp only [Option.map_some,Option.some.injEq] at hu
    rw [← hu];exact hr b o n cap rfl _ h7)
  exact this
theorem run_append_same {ty u rt e e':TypeId} {size:Nat} {base a':Option Addr} {sLen sCap c:Nat} (ht:P.underlying ty=some (.slice e)) (hu:P.underlying u=some (.slice e')) (hs:sizeT P e=some size) (hc:sLen≤sCap) (w:World) :
  (Builtin.append_ #[ty,u] rt #[.slice base sLen sCap,.slice a' 0 c]).run P w=.ok (.slice base sLen sCap) w:=by
 have hf:(Builtin.firstCells size 0 (.slice a' 0 c)).run P w=.ok #[] w:=by cases a'<;>simp [Builtin.firstCells,loadCells,loadCellsFrom]
 cases base with
 |none=>simp [Builtin.append_,run_underlying ht,run_underlying hu,size_run hs,Builtin.lenOf,hc,hf]
 |some b=>simp [Builtin.append_,run_underlying ht,run_underlying hu,size_run hs,Builtin.lenOf,hc,hf,storeCells]
theorem run_append_in {ty u rt e e':TypeId} {size:Nat} {a':Option Addr} {b sLen sCap m c:Nat} {news cs:Array Value} {te:TypeId} (ht:P.underlying ty=some (.slice e)) (hu:P.underlying u=some (.slice e')) (hs:sizeT P e=some size)
  (hx:(Builtin.firstCells size m (.slice a' m c)).run P w=.ok news w) (hroom:sLen+m≤sCap) (hb:w.heap[b]?=some (.cells cs te (0,0))) (hle:sLen * size+news.size≤cs.size) (h1:∀ v ∈ news.toList,v.oneCell'=true) :
  (Builtin.append_ #[ty,u] rt #[.slice (some ⟨b,0,none⟩) sLen sCap,.slice a' m c]).run P w=.ok (.slice (some ⟨b,0,none⟩) (sLen+m) sCap) (w.setCells b (sLen * size) news.toList):=by
 have hst:=run_storeCells_cells (P:=P) b (sLen * size) news.toList 0 w (fun j hj=>by
   rw [cell_of_heap hb,Array.getElem?_eq_getElem (by simp at hj;omega)];rfl) (fun j hj=>by simp [World.frozen?,hb]) h1
 rw [Nat.add_zero] at hst
 simp [Builtin.append_,run_underlying ht,run_underlying hu,size_run hs,Builtin.lenOf,hroom,hx,add_lit,hst]
theorem run_append_new {ty u rt e e':TypeId} {size:Nat} {agg:Bool} {z:Value} {base a':Option Addr} {sLen sCap m c:Nat} {news olds:Array Value} (ht:P.underlying ty=some (.slice e)) (hu:P.underlying u=some (.slice e')) (he:elemT P e=some (size,agg))
  (hz:zeroT P e=some z) (hx:(Builtin.firstCells size m (.slice a' m c)).run P w.drew=.ok news w.drew) (ho:(Builtin.firstCells size sLen (.slice base sLen sCap)).run P w.drew=.ok olds w.drew)
  (hgrow:sCap < sLen+m) (hbig:sLen+m≤1073741824) :
  (Builtin.append_ #[ty,u] rt #[.slice base sLen sCap,.slice a' m c]).run P w=.ok (.slice (some ⟨w.heap.size,0,none⟩) (sLen+m) (grownCap w (sLen+m) sCap e))
    (w.drew.alloc (.cells (olds++news++Builtin.zeroCells z.cells (grownCap w (sLen+m) sCap e - (sLen+m))) e)):=by
 obtain ⟨h1,h2,h3,h4,h5⟩:=elemT_spec he
 obtain ⟨i,hi,hz'⟩:=zeroT_spec hz
 have hsize:i.size=size:=by unfold sizeT at h1;rw [hi] at h1;simpa using h1
 have hbytes:i.bytes≤65536:=by unfold bytesOk at h5;rw [hi] at h5;exact Nat.le_of_ble_eq_true h5
 have hmul:(sLen+m) * i.bytes≤140737488355328:=by
  have:(sLen+m) * i.bytes≤1073741824 * 65536:=Nat.mul_le_mul hbig hbytes
  omega
 have hfit:=growslice_fits (old:=sCap) hgrow hmul
 have hn:¬ (sLen+m≤sCap):=by omega
 have h63':¬ (9223372036854775807 < ((sLen:Int)+(m:Int))):=by omega
 have h48':¬ (281474976710656 < Builtin.nextslicecap (sLen+m) sCap * i.bytes):=by omega
 subst hsize
 simp [Builtin.append_,run_underlying ht,run_underlying hu,Go.sizeOf,typeInfo,zeroValue,hi,hz',Builtin.lenOf,hn,h63',h48',Question.forced,hx,ho,newRow,grownCap]
theorem elems_spec (S:Sim B nt M0 w0 M ρ t h a w) {dv:DV} {v:Value} (hr:RelV M ρ h dv v) {q:Option Prop} {xs:List DV} (he:elems (hlook h) dv=some (q,xs)) (hq:holds q) {sz:Nat} (hok:∀ e ∈ xs,okE sz e=true) :
  ∃ a' cap g,v=.slice a' xs.length cap∧xs.length≤cap∧(xs.length=0∨∃ b o,a'=some ⟨b,o,none⟩)∧(∀ w',(∀ k,k < w.heap.size→w'.heap[k]?=w.heap[k]?)→Reads w' v (xs.length * sz) g) ∧
   (∀ j,j < xs.length * sz→RelP M ((flat xs).getD j .undef) (g j))∧∀ j,j < xs.length * sz→(g j).oneCell'=true:=by
 have hs:∀ e ∈ xs,e.cells.length=sz:=fun e he=>(okE_spec (hok e he)).1
 have hfl:=length_flat xs sz hs
 have hone:∀ j (u:Value),j < xs.length * sz→RelP M ((flat xs).getD j .undef) u→u.oneCell'=true:=fun j u hj hu=>by
  by_cases h0:sz=0
  ·subst h0;simp at hj
  obtain ⟨q,r,hq,hm,rfl⟩:∃ q r,q < xs.length∧r < sz∧q * sz+r=j :=
   ⟨j / sz,j % sz,(Nat.div_lt_iff_lt_mul (by omega)).2 hj,Nat.mod_lt _ (by omega),by rw [Nat.mul_comm];exact Nat.div_add_mod j sz⟩
  rw [getElem_flat xs sz hs q r hq hm] at hu
  obtain ⟨k1,k2⟩:=okE_spec (hok (xs.getD q .undef) (by rw [getD_lt hq];exact List.getElem_mem _))
  exact oneCell_of (.pure hu:RelV M ρ h _ u) (cellsB_get k2 (by omega))
 have fin:∀ (l:List DV) (a':Option Addr) (cap sz' b o:Nat) (g:Nat→Value),l=xs→v=.slice a' l.length cap→l.length≤cap→(l=[]∨a'=some ⟨b,o,none⟩)→(∀ i,i < (flat l).length→M b (o+i)=some (g i)) →
   (∀ i,i < (flat l).length→RelP M ((flat l).getD i .undef) (g i))→∃ a' cap g,v=.slice a' xs.length cap∧xs.length≤cap∧(xs.length=0∨∃ b o,a'=some ⟨b,o,none⟩)∧(∀ w',(∀ k,k < w.heap.size→w'.heap[k]?=w.heap[k]?)→Reads w' v (xs.length * sz) g) ∧
   (∀ j,j < xs.length * sz→RelP M ((flat xs).getD j .undef) (g j))∧∀ j,j < xs.length * sz→(g j).oneCell'=true:=by
  intro l a' cap sz' b o g hl hv hcap ha hM hr'
  subst hl
  rw [hfl] at hM hr'
  refine ⟨a',cap,g,hv,hcap,?_,?_,hr',fun j hj=>hone j _ hj (hr' j hj)⟩
  ·rcases ha with rfl|rfl
   ·left;rfl
   ·right;exact ⟨b,o,rfl⟩
  ·intro w' hw' b' o' len' cap' hv' j hj
   rw [hv] at hv'
   rcases ha with rfl|rfl
   ·simp at hj
   ·simp only [Value.slice.injEq,Option.some.injEq,Addr.mk.injEq] at hv'
    obtain ⟨⟨rfl,rfl,_⟩,_⟩:=hv'
    have h1:=S.mem _ _ _ (hM j hj)
    have h2:b < w.heap.size:=World.block_lt_of_cell? (a:=⟨b,o+j,none⟩) _ h1
    rw [World.cell?_of_block (w:=w) (w':=w') (a:=⟨b,o+j,none⟩) (hw' b h2)];exact h1
 cases dv with
 |list l =>
  simp only [elems,Option.some.injEq,Prod.mk.injEq] at he
  obtain ⟨_,rfl⟩:=he
  have:=hr.inv_list
  cases this with|list _ a' cap sz' b o g hcap ha hsz hM hr'=>exact fin _ a' cap sz' b o g rfl rfl hcap ha hM hr'
 |full l =>
  simp only [elems,Option.some.injEq,Prod.mk.injEq] at he
  obtain ⟨_,rfl⟩:=he
  have:=hr.inv_full
  cases this with|full _ a' sz' b o g ha hsz hM hr'=>exact fin _ a' _ sz' b o g rfl rfl (Nat.le_refl _) ha hM hr'
 |own n off len tot =>
  simp only [elems] at he
  split at he
  ·rename_i szo es fr hl
   simp only [Option.some.injEq,Prod.mk.injEq] at he
   obtain ⟨rfl,rfl⟩:=he
   obtain ⟨h1,h2⟩:=hr.inv_own hl
   obtain ⟨h3,h4⟩:=h2 hq
   have hwl:(window es off len).length=len:=by simp only [holds] at hq;simp [window];omega
   have hobj:=S.obj n _ hl
   simp only [ObjRel] at hobj
   cases hρ:ρ n with
   |none =>
    rw [hρ] at hobj h4
    subst hobj
    obtain ⟨a',rfl⟩:=h4
    simp only [holds,List.length_nil] at hq
    have e1:len=0:=by omega
    subst e1
    refine ⟨a',0,fun _=>Go.undef,by rw [hwl],by omega,.inl hwl,?_,?_,?_⟩
    ·intro w' hw' b' o' len' cap' hv' j hj;rw [hwl] at hj;simp at hj
    ·intro j hj;rw [hwl] at hj;simp at hj
    ·intro j hj;rw [hwl] at hj;simp at hj
   |some bc =>
    obtain ⟨b,c⟩:=bc
    rw [hρ] at hobj h4
    obtain ⟨g2,cs,te,g3,g4,g5,g6,g7,g8,g9⟩:=hobj
    obtain ⟨a',rfl,ha⟩:=h4
    have hso:∀ e ∈ es,e.cells.length=szo:=fun e he=>(okE_spec (g6 e he)).1
    by_cases hlen:len=0
    ·subst hlen
     refine ⟨a',c - off,fun _=>Go.undef,by rw [hwl],by omega,.inl hwl,?_,?_,?_⟩
     ·intro w' hw' b' o' len' cap' hv' j hj;rw [hwl] at hj;simp at hj
     ·intro j hj;rw [hwl] at hj;simp at hj
     ·intro j hj;rw [hwl] at hj;simp at hj
    ·have ha':a'=some ⟨b,off * szo,none⟩:=by
      rcases ha with ha|ha
      ·exact ha
      ·exact absurd ha.1 hlen
     subst ha'
     have hszeq:szo=sz:=by
      have hm:(window es off len).getD 0 .undef ∈ window es off len:=by rw [getD_lt (by omega)];exact List.getElem_mem _
      rw [← hs _ hm]
      exact (hso _ (List.mem_of_mem_drop (List.mem_of_mem_take hm))).symm
     subst hszeq
     have hbl:b < w.heap.size:=g3.lt
     obtain ⟨fz,g3',_⟩:=id g3
     simp only [holds] at hq
     have hlt:∀ j,j < len * szo→off * szo+j < (flat es).length:=fun j hj=>by
      rw [length_flat es szo hso]
      have:(off+len) * szo≤es.length * szo:=Nat.mul_le_mul_right _ (by omega)
      rw [Nat.add_mul] at this;omega
     have hlt2:∀ j,j < len * szo→off * szo+j < cs.size:=fun j hj=>by
      have h6:=hlt j hj
      rw [length_flat es szo hso] at h6
      have:es.length * szo≤c * szo:=Nat.mul_le_mul_right _ g5
      omega
     have hrel:∀ j,j < len * szo→RelP M ((flat (window es off len)).getD j .undef) (cs.getD (off * szo+j) Go.undef):=fun j hj=>by
      rw [flat_window es szo hso off len j (by rw [hfl,hwl];exact hj)]
      exact g7 _ (hlt j hj)
     refine ⟨some ⟨b,off * szo,none⟩,c - off,fun j=>cs.getD (off * szo+j) Go.undef,by rw [hwl],by omega,.inr ⟨b,_,rfl⟩,?_,?_,?_⟩
     ·intro w' hw' b' o' len' cap' hv' j hj
      rw [hwl] at hj
      simp only [Value.slice.injEq,Option.some.injEq,Addr.mk.injEq] at hv'
      obtain ⟨⟨rfl,rfl,_⟩,_⟩:=hv'
      rw [World.cell?_of_block (w:=w) (w':=w') (a:=⟨b,off * szo+j,none⟩) (hw' b hbl),cell_of_heap g3']
      show _=some (cs.getD (off * szo+j) Go.undef)
      rw [agetD_lt (hlt2 j hj),Array.getElem?_eq_getElem (hlt2 j hj)]
     ·intro j hj;rw [hwl] at hj;exact hrel j hj
     ·intro j hj;exact hone j _ hj (hrel j (by rw [hwl] at hj;exact hj))
  ·cases he
 |_=>simp [elems] at he
theorem flat_append (l xs:List DV):flat (l++xs)=flat l++flat xs:=by simp [flat]
theorem append_cells {l xs:List DV} {sz:Nat} (hl:∀ e ∈ l,e.cells.length=sz) (hx:∀ e ∈ xs,e.cells.length=sz) {olds news rest:Array Value} (ho:olds.size=l.length * sz) (hn:news.size=xs.length * sz)
  (h1:∀ i,i < (flat l).length→RelP M ((flat l).getD i .undef) (olds.getD i Go.undef)) (h2:∀ i,i < (flat xs).length→RelP M ((flat xs).getD i .undef) (news.getD i Go.undef)) :
  ∀ i,i < (flat (l++xs)).length→RelP M ((flat (l++xs)).getD i .undef) ((olds++news++rest).getD i Go.undef):=by
 intro i hi
 rw [flat_append] at hi ⊢
 have e1:=length_flat l sz hl
 have e2:=length_flat xs sz hx
 rw [List.length_append] at hi
 have hi2:i < (olds++news++rest).size:=by simp;omega
 by_cases hlt:i < (flat l).length
 ·have h3:=h1 i hlt
  rw [getD_lt hlt,agetD_lt (by omega)] at h3
  rw [getD_lt (by simp;omega),agetD_lt hi2,List.getElem_append_left hlt,Array.getElem_append_left (by simp;omega),Array.getElem_append_left (by omega)]
  exact h3
 ·have h3:=h2 (i - (flat l).length) (by omega)
  rw [getD_lt (by omega),agetD_lt (by omega)] at h3
  rw [getD_lt (by simp;omega),agetD_lt hi2,List.getElem_append_right (by omega),Array.getElem_append_left (by simp;omega),Array.getElem_append_right (by omega)]
  have e3:i - olds.size=i - (flat l).length:=by omega
  simp only [e3];exact h3
theorem execOp_append {s x:Operand} {ts:Array TypeId} {v:Value} {w':World} (ho:o.op=.call ⟨.builtin .append,#[s,x],ts⟩) (hr:(Builtin.append_ ts o.type #[a.eval s,a.eval x]).run P w=.ok v w') :
  (execOp a.eval o).run P w=.ok (.value v) w':=by
 simp only [execOp,ho,resolve,invoke,builtin,Sem.run_bind,Sem.run_pure,Result.andThen_ok,List.map_toArray,List.map_cons,List.map_nil,hr]
theorem op_append_full (hG:GOk G M0) (S:Sim B nt M0 w0 M ρ t h a w) (ty u e e':TypeId) (s x:Operand) (sz:Nat) (agg:Bool) (z:Value) (l xs:List DV) (q:Option Prop) (ho:o.op=.call ⟨.builtin .append,#[s,x],#[ty,u]⟩)
  (ht:P.underlying ty=some (.slice e)) (hu:P.underlying u=some (.slice e')) (he:elemT P e=some (sz,agg)) (hz:zeroT P e=some z) (hzs:z.cells.size=sz) (hs:evalOpd G t s=.full l)
  (hx:elems (hlook h) (evalOpd G t x)=some (q,xs)) (hq:holds q) (hbig:l.length+xs.length≤1073741824) (hxo:∀ e ∈ xs,okE sz e=true) (hlo:∀ e ∈ l,okE sz e=true) :
  OpGoal P B nt M0 w0 M ρ t h a w o (.list (l++xs)) [] ∧
  ∀ n,hlook h n=none→Nat.blt n 1000000=true→(l=[]∨xs≠[])→OpGoal P B nt M0 w0 M ρ t h a w o (.own n 0 (l++xs).length (l++xs).length) [(n,.row sz (l++xs) false)]:=by
 obtain ⟨h1,h2,h3,h4,h5⟩:=elemT_spec he
 have r1:=S.opd hG s;rw [hs] at r1
 obtain ⟨ax,cx,gx,x1,x2,x3,x4,x5,x6⟩:=elems_spec S (S.opd hG x) hx hq hxo
 obtain ⟨as_,cs_,gs,s1,s2,s3,s4,s5,s6⟩:=elems_spec S r1 (q:=none) (xs:=l) rfl trivial hlo
 have hcs:cs_=l.length:=by
  have:=r1.inv_full
  rw [s1] at this
  cases this;rfl
 subst hcs
 have hls:∀ e ∈ l,e.cells.length=sz:=fun e he=>(okE_spec (hlo e he)).1
 have hxs:∀ e ∈ xs,e.cells.length=sz:=fun e he=>(okE_spec (hxo e he)).1
 by_cases hx0:xs.length=0
 ·have hxe:xs=[]:=List.eq_nil_of_length_eq_zero hx0
  subst hxe
  have hrun:=execOp_append (P:=P) (w:=w) (a:=a) ho (v:=.slice as_ l.length l.length) (w':=w) (by
   rw [s1,x1];exact run_append_same ht hu h1 (Nat.le_refl _) w)
  rw [List.append_nil]
  refine ⟨?_,fun n hn hn6 hor=>?_⟩
  ·have:RelP M (.list l) (.slice as_ l.length l.length):=by
    have:=r1.inv_full
    rw [s1] at this
    cases this with|full _ _ sz' b o' g ha hsz hM hr'=>exact .list l as_ _ sz' b o' g (Nat.le_refl _) ha hsz hM hr'
   exact OpGoal.same S hrun (.pure this)
  ·have hle:l=[]:=by
    rcases hor with h|h
    ·exact h
    ·exact absurd rfl h
   subst hle
   -- an empty row without a block
   let ρ':Locs:=locOut ρ n
   have hl':∀ m,m≠n→ρ' m=ρ m:=fun m hm=>locOut_ne ρ hm
   have hne:∀ m p,hlook h m=some p→m≠n:=fun m p e1 e2=>by subst e2;rw [hn] at e1;cases e1
   have hxt:Ext M ρ h M ρ' ((n,.row sz [] false) :: h):=by
    refine ⟨M.le_refl,fun m sz' es fr e=>⟨sz',es,fr,?_,Nat.le_refl _,fun _=>⟨.inl rfl,hl' m (hne m _ e)⟩⟩,fun m o e hk=>⟨hl' m (hne m _ e),o,?_,like_refl hk⟩,fun m sz' c' isz' es' pd e=>nrw_same ?_ (hl' m (hne m _ e)) (locOut_sub ρ (hne m _ e))⟩
    ·rw [hlook_cons,if_neg (Ne.symm (hne m _ e))];exact e
    ·rw [hlook_cons,if_neg (Ne.symm (hne m _ e))];exact e
    ·rw [hlook_cons,if_neg (Ne.symm (hne m _ e))];exact e
   have hS:Sim B nt M0 w0 M ρ' t ((n,.row sz [] false) :: h) a w:=by
    refine { S with tm:=fun i=>(S.tm i).ext hxt,obj:=fun m p hp=>?_,dis:=fun m m' p p' b1 c1 b2 c2 hmm k1 k2 e1 e2=>?_,dsub:=S.dsub.out rfl,ext:=S.ext.trans hxt }
    ·rw [hlook_cons] at hp
     by_cases e:n=m
     ·subst e;rw [if_pos rfl] at hp;cases hp;simp only [ObjRel,ρ',locOut_self]
     ·rw [if_neg e] at hp;exact (S.obj m p hp).ext hxt (hl' m (Ne.symm e)) (locOut_sub ρ (Ne.symm e))
    ·rw [hlook_cons] at k1 k2
     by_cases e:n=m
     ·subst e;simp only [ρ',locOut_self] at e1;cases e1
     ·by_cases e':n=m'
      ·subst e';simp only [ρ',locOut_self] at e2;cases e2
      ·rw [if_neg e] at k1;rw [if_neg e'] at k2
       rw [hl' m (Ne.symm e)] at e1;rw [hl' m' (Ne.symm e')] at e2
       exact S.dis m m' p p' b1 c1 b2 c2 hmm k1 k2 e1 e2
   refine ⟨_,_,w,M,ρ',hrun,.inl rfl,hS,.own n 0 0 0 sz [] false _ (by show hlook ((n,DObj.row sz [] false) :: h) n=_;rw [hlook_cons,if_pos rfl]) (Nat.le_refl _) ⟨_,_,_,rfl⟩ (fun _=>⟨by omega,?_⟩)⟩
   simp [ρ',locOut_self]
 ·have hf1:(Builtin.firstCells sz xs.length (.slice ax xs.length cx)).run P w.drew=.ok (gcells gx (xs.length * sz)) w.drew :=
   firstCells_run (g:=gx) rfl x3 (by rw [← x1];exact x4 w.drew (fun _ _=>rfl))
  have hf2:(Builtin.firstCells sz l.length (.slice as_ l.length l.length)).run P w.drew=.ok (gcells gs (l.length * sz)) w.drew :=
   firstCells_run (g:=gs) rfl s3 (by rw [← s1];exact s4 w.drew (fun _ _=>rfl))
  have hra:=run_append_new (rt:=o.type) ht hu he hz hf1 hf2 (by omega) hbig
  have hrun:=execOp_append (P:=P) (w:=w) (a:=a) ho (by rw [s1,x1];exact hra)
  have hge:=grownCap_ge w (l.length+xs.length) l.length e
  generalize grownCap w (l.length+xs.length) l.length e=cap at *
  have hok:∀ e ∈ l++xs,okE sz e=true:=fun e he=>by
   rcases List.mem_append.1 he with h|h
   ·exact hlo e h
   ·exact hxo e h
  have hs':∀ e ∈ l++xs,e.cells.length=sz:=fun e he=>(okE_spec (hok e he)).1
  have hflat:=append_cells (M:=M) (rest:=Builtin.zeroCells z.cells (cap - (l.length+xs.length))) hls hxs (gcells_size gs (l.length * sz)) (gcells_size gx (xs.length * sz))
   (fun i hi=>by rw [length_flat l sz hls] at hi;rw [gcells_getD gs hi];exact s5 i hi) (fun i hi=>by rw [length_flat xs sz hxs] at hi;rw [gcells_getD gx hi];exact x5 i hi)
  have hsize:(gcells gs (l.length * sz)++gcells gx (xs.length * sz)++Builtin.zeroCells z.cells (cap - (l.length+xs.length))).size=cap * sz:=by
   rw [Array.size_append,Array.size_append,gcells_size,gcells_size,size_zeroCells,hzs,← Nat.add_mul,← Nat.add_mul]
   congr 1;omega
  refine ⟨?_,fun n hn hn6 _=>?_⟩
  ·obtain ⟨i1,i2,i3⟩:=S.drew.newImm (es:=l++xs) (by rw [hsize,length_flat _ sz hs',List.length_append];exact Nat.mul_le_mul_right _ hge) hs' hflat e
   have i2:=i2 cap (by rw [List.length_append];exact hge)
   rw [List.length_append] at i2
   exact ⟨_,_,_,_,_,hrun,.inl rfl,i1,.pure i2⟩
  ·obtain ⟨i1,i2⟩:=S.drew.newRow h3 (n:=n) (c:=cap) (es:=l++xs) hn hsize (by rw [List.length_append];exact hge) hok hflat e (tyN_lt hn6)
   have e1:(l++xs).length=l.length+xs.length:=List.length_append
   refine ⟨_,_,_,_,_,hrun,.inl rfl,i1,?_⟩
   rw [e1] at i2 ⊢;exact i2
theorem ext_growRow (M:Mem) (ρ ρ':Locs) {h:Heap} {n sz sz':Nat} {es es':List DV} {fr fr':Bool} (hn:hlook h n=some (.row sz es fr)) (hlt:es.length < es'.length) (hρ:∀ m,m≠n→ρ' m=ρ m) (hs:∀ m,m≠n→ρ'.sub m=ρ.sub m):Ext M ρ h M ρ' ((n,.row sz' es' fr') :: h):=by
 refine ⟨M.le_refl,fun m sz1 es1 fr1 e=>?_,fun m o e hk=>?_,fun m sz1 c1 isz1 es1 pd1 e=>?_⟩
 ·rw [hlook_cons]
  by_cases e2:n=m
  ·subst e2;rw [hn] at e;cases e
   exact ⟨sz',es',fr',by rw [if_pos rfl],by omega,fun e=>by omega⟩
  ·exact ⟨sz1,es1,fr1,by rw [if_neg e2];exact e,Nat.le_refl _,fun _=>⟨.inl rfl,hρ m (Ne.symm e2)⟩⟩
 ·have e2:n≠m:=fun e2=>by subst e2;rw [hn] at e;cases e;cases hk
  exact ⟨hρ m (Ne.symm e2),o,by rw [hlook_cons,if_neg e2];exact e,like_refl hk⟩
 ·have e2:n≠m:=fun e2=>by subst e2;rw [hn] at e;cases e
  exact nrw_same (by rw [hlook_cons,if_neg e2];exact e) (hρ m (Ne.symm e2)) (hs m (Ne.symm e2))
theorem Sim.moveRow (S:Sim B nt M0 w0 M ρ t h a w) {n sz sz' c:Nat} {es es':List DV} {cs:Array Value} (hsz0:sz'≠0) (hn:hlook h n=some (.row sz es false)) (hlt:es.length < es'.length) (hc:cs.size=c * sz') (hle:es'.length≤c) (hok:∀ e ∈ es',okE sz' e=true)
  (hr:∀ i,i < (flat es').length→RelP M ((flat es').getD i .undef) (cs.getD i Go.undef)) (e:TypeId) (hty:tyN n e=e) :
  Sim B nt M0 w0 M (locWith ρ n w.heap.size c) t ((n,.row sz' es' false) :: h) a (w.alloc (.cells cs e)) ∧
  RelV M (locWith ρ n w.heap.size c) ((n,.row sz' es' false) :: h) (.own n 0 es'.length es'.length) (.slice (some ⟨w.heap.size,0,none⟩) es'.length c):=by
 have hln:locWith ρ n w.heap.size c n=some (w.heap.size,c):=locWith_self ..
 have hl:∀ m,m≠n→locWith ρ n w.heap.size c m=ρ m:=fun m hm=>locWith_ne ρ _ _ hm
 have hx:=ext_growRow (sz':=sz') (fr':=false) M ρ _ hn hlt hl (fun m hm=>locWith_sub ρ _ _ hm)
 have S1:=S.alloc (.cells cs e)
 have hback:∀ m p,hlook ((n,DObj.row sz' es' false) :: h) m=some p→∃ q,hlook h m=some q:=fun m p e=>by
  rw [hlook_cons] at e
  by_cases e2:n=m
  ·subst e2;exact ⟨_,hn⟩
  ·rw [if_neg e2] at e;exact ⟨p,e⟩
 refine ⟨{ S1 with tm:=fun i=>(S1.tm i).ext hx,obj:=fun m p hp=>?_,dis:=fun m m' p p' b1 c1 b2 c2 hmm k1 k2 e1 e2=>?_,dsub:=S1.dsub.moved rfl (S.sub_fresh (Nat.le_refl _)),ext:=S1.ext.trans hx },.own n 0 es'.length es'.length sz' es' false _ (by rw [hlook_cons,if_pos rfl]) (Nat.le_refl _) ⟨_,_,_,rfl⟩ (fun _=>⟨by omega,?_⟩)⟩
 ·by_cases e2:n=m
  ·subst e2;rw [hlook_cons,if_pos rfl] at hp;cases hp
   simp only [ObjRel,hln]
   exact ⟨⟨.inl S.Bsize,hsz0⟩,cs,e,.of (by rw [hty];exact alloc_new w _),hc,hle,hok,hr,by simp,fun _ o=>S.free_mem (Nat.le_refl _) o⟩
  ·rw [hlook_cons,if_neg e2] at hp
   exact (S1.obj m p hp).ext hx (hl m (Ne.symm e2)) (locWith_sub ρ _ _ (Ne.symm e2))
 ·obtain ⟨q,hq⟩:=hback m p k1;obtain ⟨q',hq'⟩:=hback m' p' k2
  by_cases e:n=m
  ·subst e
   rw [hln] at e1
   obtain ⟨rfl,rfl⟩:w.heap.size=b1∧c=c1:=by simpa using e1
   rw [hl m' (Ne.symm hmm)] at e2
   have:=S.loc_lt hq' e2;omega
  ·rw [hl m (Ne.symm e)] at e1
   by_cases e':n=m'
   ·subst e'
    rw [hln] at e2
    obtain ⟨rfl,rfl⟩:w.heap.size=b2∧c=c2:=by simpa using e2
    have:=S.loc_lt hq e1;omega
   ·rw [hl m' (Ne.symm e')] at e2
    exact S.dis m m' q q' b1 c1 b2 c2 hmm hq hq' e1 e2
 ·rw [hln];exact ⟨_,by rw [Nat.sub_zero],.inl (by rw [Nat.zero_mul])⟩
theorem op_append_own (hG:GOk G M0) (S:Sim B nt M0 w0 M ρ t h a w) (ty u e e':TypeId) (s x:Operand) (sz sz':Nat) (agg:Bool) (z:Value) (m off len tot:Nat) (es xs:List DV) (q:Option Prop) (ho:o.op=.call ⟨.builtin .append,#[s,x],#[ty,u]⟩)
  (ht:P.underlying ty=some (.slice e)) (hu:P.underlying u=some (.slice e')) (he:elemT P e=some (sz,agg)) (hz:zeroT P e=some z) (hzs:z.cells.size=sz) (hs:evalOpd G t s=.own m off len tot) (hl:hlook h m=some (.row sz' es false))
  (hx:elems (hlook h) (evalOpd G t x)=some (q,xs)) (hq:holds q) (hszz:sz'=sz∨sz'=0) (hn6:Nat.blt m 1000000=true) (hb:off=0∧len=es.length∧tot=es.length∧es.length+xs.length≤1073741824∧∀ e ∈ xs,okE sz e=true) :
  OpGoal P B nt M0 w0 M ρ t h a w o (.own m 0 (es++xs).length (es++xs).length) [(m,.row sz (es++xs) false)]:=by
 obtain ⟨rfl,rfl,rfl,hbig,hxo⟩:=hb
 obtain ⟨h1,h2,h3,h4,h5⟩:=elemT_spec he
 have r1:=S.opd hG s;rw [hs] at r1
 obtain ⟨ax,cx,gx,x1,x2,x3,x4,x5,x6⟩:=elems_spec S (S.opd hG x) hx hq hxo
 obtain ⟨i1,i2⟩:=r1.inv_own hl
 obtain ⟨i3,i4⟩:=i2 rfl
 have hobj:=S.obj m _ hl
 simp only [ObjRel] at hobj
 have hxs:∀ e ∈ xs,e.cells.length=sz:=fun e he=>(okE_spec (hxo e he)).1
 have e1:(es++xs).length=es.length+xs.length:=List.length_append
 have hf1:∀ w',(∀ k,k < w.heap.size→w'.heap[k]?=w.heap[k]?)→(Builtin.firstCells sz xs.length (.slice ax xs.length cx)).run P w'=.ok (gcells gx (xs.length * sz)) w':=fun w' hw' =>
  firstCells_run (g:=gx) rfl x3 (by rw [← x1];exact x4 w' hw')
 -- what there is already
 have hold:∃ as_ cap olds,a.eval s=.slice as_ es.length cap∧es.length≤cap∧olds.size=es.length * sz∧(∀ i,i < (flat es).length→RelP M ((flat es).getD i .undef) (olds.getD i Go.undef)) ∧
   (∀ e ∈ es,okE sz e=true)∧(Builtin.firstCells sz es.length (.slice as_ es.length cap)).run P w.drew=.ok olds w.drew ∧
   ((ρ m=none∧cap=0)∨∃ b cs te,ρ m=some (b,cap)∧as_=some ⟨b,0,none⟩∧B.wr b∧w.heap[b]?=some (.cells cs te (0,0))∧sz'=sz∧cs.size=cap * sz∧(∀ i,i < (flat es).length→cs.getD i Go.undef=olds.getD i Go.undef)∧∀ o,M b o=none):=by
  cases hρ:ρ m with
  |none =>
   rw [hρ] at hobj i4
   subst hobj
   obtain ⟨as_,ev⟩:=i4
   refine ⟨as_,0,#[],ev,by simp,by simp,by simp [flat],by simp,?_,.inl ⟨rfl,rfl⟩⟩
   have:=firstCells_run (P:=P) (w:=w.drew) (v:=.slice as_ 0 0) (n:=0) (cap:=0) (size:=sz) (a':=as_) (g:=fun _=>Go.undef) rfl (.inl rfl) (fun _ _ _ _ _ j hj=>by simp at hj)
   simpa [gcells] using this
  |some bc =>
   obtain ⟨b,c⟩:=bc
   rw [hρ] at hobj i4
   obtain ⟨g2,cs,te,g3,g4,g5,g6,g7,g8,g9⟩:=hobj
   obtain ⟨as_,ev,ha⟩:=i4
   have ha':as_=some ⟨b,0,none⟩:=by
    rcases ha with ha|ha
    ·rw [ha,Nat.zero_mul]
    ·exact absurd rfl ha.2
   subst ha'
   rw [Nat.sub_zero] at ev
   have hso:∀ e ∈ es,e.cells.length=sz':=fun e he=>(okE_spec (g6 e he)).1
   have hesz:sz'=sz:=by
    rcases hszz with h|h
    ·exact h
    ·exact absurd h g2.2
   subst hesz
   have hflen:(flat es).length=es.length * sz':=length_flat es _ hso
   have hle:(flat es).length≤cs.size:=by
    rw [length_flat es sz' hso,g4];exact Nat.mul_le_mul_right _ g5
   refine ⟨_,c,gcells (fun j=>cs.getD j Go.undef) (es.length * sz'),ev,g5,gcells_size _ _,fun i hi=>?_,g6,?_,.inr ⟨b,cs,te,rfl,rfl,g2.1,by have:=g3.plain;rwa [tyN_lt hn6] at this,rfl,g4,fun i hi=>?_,g9 trivial⟩⟩
   ·rw [gcells_getD _ (by omega)];exact g7 i hi
   ·refine firstCells_run (g:=fun j=>cs.getD j Go.undef) rfl ?_ ?_
    ·right;exact ⟨b,0,rfl⟩
    ·intro b' o' len' cap' hv' j hj
     simp only [Value.slice.injEq,Option.some.injEq,Addr.mk.injEq] at hv'
     obtain ⟨⟨rfl,rfl,_⟩,_⟩:=hv'
     have:w.drew.cell? ⟨b,0+j,none⟩=w.cell? ⟨b,0+j,none⟩:=rfl
     rw [this,cell_of_heap g3.plain,Nat.zero_add]
     show _=some (cs.getD j Go.undef)
     rw [agetD_lt (by omega),Array.getElem?_eq_getElem (by omega)]
   ·rw [gcells_getD _ (by omega)]
 obtain ⟨as_,cap,olds,ev,hcap,ho1,ho2,ho3,ho4,hcase⟩:=hold
 have hok:∀ e ∈ es++xs,okE sz e=true:=fun e he=>by
  rcases List.mem_append.1 he with h|h
  ·exact ho3 e h
  ·exact hxo e h
 have hs':∀ e ∈ es++xs,e.cells.length=sz:=fun e he=>(okE_spec (hok e he)).1
 have hes:∀ e ∈ es,e.cells.length=sz:=fun e he=>(okE_spec (ho3 e he)).1
 have hnew:∀ i,i < (flat xs).length→RelP M ((flat xs).getD i .undef) ((gcells gx (xs.length * sz)).getD i Go.undef):=fun i hi=>by
  rw [length_flat xs sz hxs] at hi;rw [gcells_getD gx hi];exact x5 i hi
 by_cases hx0:xs.length=0
 ·-- nothing is appended
  have hxe:xs=[]:=List.eq_nil_of_length_eq_zero hx0
  subst hxe
  have hrun:=execOp_append (P:=P) (w:=w) (a:=a) ho (v:=.slice as_ es.length cap) (w':=w) (by rw [ev,x1];exact run_append_same ht hu h1 hcap w)
  rw [List.append_nil]
  rcases hcase with ⟨hρ,hc0⟩|⟨b,cs,te,hρ,rfl,g2,g3,rfl,g4,g5,g6⟩
  ·-- no block
   rw [hρ] at hobj
   subst hobj
   have hx':Ext M ρ h M ρ ((m,.row sz [] false) :: h):=by
    refine ⟨M.le_refl,fun m' sz1 es1 fr1 e=>?_,fun m' o e hk=>⟨rfl,o,?_,like_refl hk⟩,fun m' sz1 c1 isz1 es1 pd1 e=>nrw_same (by rw [hlook_cons,if_neg (fun e2=>by subst e2;rw [hl] at e;cases e)];exact e) rfl rfl⟩
    ·rw [hlook_cons]
     by_cases e2:m=m'
     ·subst e2;rw [hl] at e;cases e
      exact ⟨sz,[],false,by rw [if_pos rfl],Nat.le_refl _,fun _=>⟨.inr rfl,rfl⟩⟩
     ·exact ⟨sz1,es1,fr1,by rw [if_neg e2];exact e,Nat.le_refl _,fun _=>⟨.inl rfl,rfl⟩⟩
    ·have e2:m≠m':=fun e2=>by subst e2;rw [hl] at e;cases e;cases hk
     rw [hlook_cons,if_neg e2];exact e
   have hback:∀ k p,hlook ((m,DObj.row sz [] false) :: h) k=some p→∃ q,hlook h k=some q:=fun k p e=>by
    rw [hlook_cons] at e
    by_cases e2:m=k
    ·subst e2;exact ⟨_,hl⟩
    ·rw [if_neg e2] at e;exact ⟨p,e⟩
   have hS:Sim B nt M0 w0 M ρ t ((m,.row sz [] false) :: h) a w:=by
    refine { S with tm:=fun i=>(S.tm i).ext hx',obj:=fun k p hp=>?_,dis:=fun k k' p p' b1 c1 b2 c2 hmm k1 k2 e1 e2=>?_,dsub:=S.dsub.set hl rfl,ext:=S.ext.trans hx' }
    ·by_cases e2:m=k
     ·subst e2;rw [hlook_cons,if_pos rfl] at hp;cases hp;simp only [ObjRel,hρ]
     ·rw [hlook_cons,if_neg e2] at hp;exact (S.obj k p hp).ext hx' rfl
    ·obtain ⟨q,hq⟩:=hback k p k1;obtain ⟨q',hq'⟩:=hback k' p' k2
     exact S.dis k k' q q' b1 c1 b2 c2 hmm hq hq' e1 e2
   refine ⟨_,_,w,M,ρ,hrun,.inl rfl,hS,?_⟩
   rw [← ev];exact r1.ext hx'
  ·-- the row as it is
   have hcon:∀ k,hlook ((m,DObj.row sz' es false) :: h) k=hlook h k:=fun k=>by
    rw [hlook_cons]
    by_cases e2:m=k
    ·subst e2;rw [if_pos rfl,hl]
    ·rw [if_neg e2]
   refine ⟨_,_,w,M,ρ,hrun,.inl rfl,S.congr (fun _=>rfl) hcon,?_⟩
   rw [← ev];exact r1.congr hcon
 ·by_cases hroom:es.length+xs.length≤cap
  ·-- in place
   rcases hcase with ⟨hρ,hc0⟩|⟨b,cs,te,hρ,rfl,g2,g3,rfl,g4,g5,g6⟩
   ·omega
   ·have hmul:(es.length+xs.length) * sz'≤cap * sz':=Nat.mul_le_mul_right _ hroom
    rw [Nat.add_mul] at hmul
    have hgl:(gcells gx (xs.length * sz')).toList.length=xs.length * sz':=by simp [gcells]
    have hone:∀ v ∈ (gcells gx (xs.length * sz')).toList,v.oneCell'=true:=fun v hv=>by
     obtain ⟨i,hi,rfl⟩:=List.getElem_of_mem hv
     rw [hgl] at hi
     have h9:=x6 i hi
     rw [← gcells_getD gx hi,agetD_lt (by rw [gcells_size];exact hi)] at h9
     simpa using h9
    have hra:=run_append_in (rt:=o.type) ht hu h1 (hf1 w (fun _ _=>rfl)) hroom g3 (by rw [gcells_size];omega) hone
    have hrun:=execOp_append (P:=P) (w:=w) (a:=a) ho (by rw [ev,x1];exact hra)
    obtain ⟨cs',f1,f2,f3,f4,f5,f6⟩:=heap_setCells b (gcells gx (xs.length * sz')).toList (es.length * sz') w cs g3 (by rw [hgl];omega)
    have hflat:∀ i,i < (flat (es++xs)).length→RelP M ((flat (es++xs)).getD i .undef) (cs'.getD i Go.undef):=fun i hi=>by
     have k1:=length_flat es sz' hes
     have k2:=length_flat xs sz' hxs
     rw [flat_append,List.length_append] at hi
     rw [flat_append,f3,hgl]
     by_cases hlt:i < (flat es).length
     ·rw [if_neg (by omega),g5 i hlt]
      have:=ho2 i hlt
      rwa [show (flat es++flat xs).getD i .undef=(flat es).getD i .undef by rw [getD_lt (by simp;omega),getD_lt hlt,List.getElem_append_left hlt]]
     ·rw [if_pos ⟨by omega,by omega⟩]
      have:=hnew (i - (flat es).length) (by omega)
      rw [show (flat es++flat xs).getD i .undef=(flat xs).getD (i - (flat es).length) .undef by rw [getD_lt (by simp;omega),getD_lt (by omega),List.getElem_append_right (by omega)]]
      rw [k1] at this ⊢
      have e9:(gcells gx (xs.length * sz')).toList.getD (i - es.length * sz') Go.undef=(gcells gx (xs.length * sz')).getD (i - es.length * sz') Go.undef:=by
       rw [getD_lt (by rw [hgl];omega),agetD_lt (by rw [gcells_size];omega),Array.getElem_toList]
      rw [e9];exact this
    have hx':=ext_growRow (ρ':=ρ) (sz':=sz') (fr':=false) M ρ hl (show es.length < (es++xs).length by rw [e1];omega) (fun _ _=>rfl) (fun _ _=>rfl)
    refine ⟨_,_,_,M,ρ,hrun,.inl rfl,S.setObj hl hρ f4 (f6 B w0 g2 S.below) g6 g3 (fun _ e=>by cases e) hx' ?_,?_⟩
    ·simp only [ObjRel,hρ]
     rw [hρ] at hobj
     exact ⟨⟨g2,hobj.1.2⟩,cs',te,by rw [tyN_lt hn6];exact .of f1,by rw [f2,g4],by rw [e1];exact hroom,hok,hflat,by simp,fun _=>g6⟩
    ·refine .own m 0 _ _ sz' (es++xs) false _ (by show hlook ((m,DObj.row sz' (es++xs) false) :: h) m=_;rw [hlook_cons,if_pos rfl]) (Nat.le_refl _) ⟨_,_,_,rfl⟩ (fun _=>⟨by omega,?_⟩)
     rw [hρ,e1];exact ⟨_,by rw [Nat.sub_zero],.inl (by rw [Nat.zero_mul])⟩
  ·-- a new block
   have hra:=run_append_new (rt:=o.type) ht hu he hz (hf1 w.drew (fun _ _=>rfl)) ho4 (by omega) hbig
   have hrun:=execOp_append (P:=P) (w:=w) (a:=a) ho (by rw [ev,x1];exact hra)
   have hge:=grownCap_ge w (es.length+xs.length) cap e
   generalize grownCap w (es.length+xs.length) cap e=cap' at *
   have hsize:(olds++gcells gx (xs.length * sz)++Builtin.zeroCells z.cells (cap' - (es.length+xs.length))).size=cap' * sz:=by
    rw [Array.size_append,Array.size_append,gcells_size,ho1,size_zeroCells,hzs,← Nat.add_mul,← Nat.add_mul]
    congr 1;omega
   have hflat:=append_cells (M:=M) (rest:=Builtin.zeroCells z.cells (cap' - (es.length+xs.length))) hes hxs ho1 (gcells_size gx (xs.length * sz)) ho2 hnew
   obtain ⟨j1,j2⟩:=S.drew.moveRow h3 (n:=m) (c:=cap') (es':=es++xs) hl (by rw [e1];omega) hsize (by rw [e1];exact hge) hok hflat e (tyN_lt hn6)
   refine ⟨_,_,_,_,_,hrun,.inl rfl,j1,?_⟩
   rw [e1] at j2 ⊢;exact j2
end
end Sh

/- What single operations come to: copy,an array as a slice,bytes as a string. -/
namespace Sh
open Go
theorem flat_take {sz:Nat}:∀ (l:List DV) (n:Nat),(∀ e ∈ l,e.cells.length=sz)→flat (l.take n)=(flat l).take (n * sz)
 |[],n,_=>by simp [flat]
 |e :: r,0,_=>by simp [flat]
 |e :: r,n+1,h=>by
  have h1:=flat_take r n (fun x hx=>h x (List.mem_cons_of_mem _ hx))
  have h2:=h e (List.mem_cons_self ..)
  simp only [flat,List.take_succ_cons,List.flatMap_cons] at h1 ⊢
  rw [h1,List.take_append,List.take_of_length_le (l:=e.cells) (by rw [h2,Nat.add_mul];omega),h2,Nat.add_mul]
  congr 2;omega
theorem flat_drop {sz:Nat}:∀ (l:List DV) (n:Nat),(∀ e ∈ l,e.cells.length=sz)→flat (l.drop n)=(flat l).drop (n * sz)
 |[],n,_=>by simp [flat]
 |e :: r,0,_=>by simp [flat]
 |e :: r,n+1,h=>by
  have h1:=flat_drop r n (fun x hx=>h x (List.mem_cons_of_mem _ hx))
  have h2:=h e (List.mem_cons_self ..)
  simp only [flat,List.drop_succ_cons,List.flatMap_cons] at h1 ⊢
  rw [h1,List.drop_append,List.drop_of_length_le (l:=e.cells) (by rw [h2,Nat.add_mul];omega),List.nil_append,h2,Nat.add_mul]
  congr 1;omega
section
variable {P:Program} {G:Nat→Option DV} {B:Base} {nt:Nat} {M0:Mem} {w0:World} {M:Mem} {ρ:Locs} {t:Tmps} {h:Heap} {a:Act} {w:World} {o:Oper}
theorem firstCells_run' {v:Value} {n N cap size:Nat} {a':Option Addr} {g:Nat→Value} (hv:v=.slice a' N cap) (ha:n=0∨∃ b o,a'=some ⟨b,o,none⟩) (hr:Reads w v (n * size) g):(Builtin.firstCells size n v).run P w=.ok (gcells g (n * size)) w:=by
 subst hv
 rcases ha with rfl|⟨b,o,rfl⟩
 ·cases a'<;>simp [Builtin.firstCells,gcells,loadCells,loadCellsFrom]
 ·have:=run_firstCells_some (P:=P) w size n ⟨b,o,none⟩ N cap ((List.range (n * size)).map g) (by simp) (fun j u hu=>by
   rw [add_lit]
   rw [List.getElem?_map] at hu
   cases hj:(List.range (n * size))[j]? with
   |none=>rw [hj] at hu;cases hu
   |some j' =>
    rw [hj] at hu
    obtain ⟨h7,h8⟩:=List.getElem?_eq_some_iff.1 hj
    simp at h7 h8
    subst h8
    simp only [Option.map_some,Option.some.injEq] at hu
    rw [← hu];exact hr b o N cap rfl _ h7)
  exact this
theorem execOp_copy {s x:Operand} {ts:Array TypeId} {v:Value} {w':World} (ho:o.op=.call ⟨.builtin .copy,#[s,x],ts⟩) (hr:(Builtin.copy_ ts o.type #[a.eval s,a.eval x]).run P w=.ok v w'):(execOp a.eval o).run P w=.ok (.value v) w':=by
 simp [execOp,ho,resolve,invoke,builtin,hr]
theorem op_copy (hG:GOk G M0) (S:Sim B nt M0 w0 M ρ t h a w) (ty u e e':TypeId) (d x:Operand) (sz:Nat) (agg:Bool) (m off len tot:Nat) (es xs:List DV) (q:Option Prop) (ho:o.op=.call ⟨.builtin .copy,#[d,x],#[ty,u]⟩)
  (ht:P.underlying ty=some (.slice e)) (he:elemT P e=some (sz,agg)) (hs:evalOpd G t d=.own m off len tot) (hl:hlook h m=some (.row sz es false))
  (hx:elems (hlook h) (evalOpd G t x)=some (q,xs)) (hq:holds q) (hb:tot=es.length∧∀ e ∈ xs,okE sz e=true) :
  OpGoal P B nt M0 w0 M ρ t h a w o (.int .i64 (min xs.length len:Nat)) [(m,.row sz (es.take off++xs.take len++es.drop (off+min xs.length len)) false)]:=by
 obtain ⟨rfl,hxo⟩:=hb
 obtain ⟨h1,h2,h3,h4,h5⟩:=elemT_spec he
 have r1:=S.opd hG d;rw [hs] at r1
 obtain ⟨ax,cx,gx,x1,x2,x3,x4,x5,x6⟩:=elems_spec S (S.opd hG x) hx hq hxo
 obtain ⟨i1,i2⟩:=r1.inv_own hl
 obtain ⟨i3,i4⟩:=i2 rfl
 have hobj:=S.obj m _ hl
 simp only [ObjRel] at hobj
 have hxs:∀ e ∈ xs,e.cells.length=sz:=fun e he=>(okE_spec (hxo e he)).1
 have hxt:xs.take len=xs.take (min xs.length len):=by rw [List.take_eq_take_iff];omega
 rw [hxt]
 obtain ⟨k,hk⟩:∃ k,k=min xs.length len:=⟨_,rfl⟩
 rw [← hk]
 have hkx:k≤xs.length:=by omega
 have hf1:(Builtin.firstCells sz k (.slice ax xs.length cx)).run P w=.ok (gcells gx (k * sz)) w :=
  firstCells_run' (g:=gx) rfl (by rcases x3 with h|h;left;omega;exact .inr h) (by rw [← x1];exact fun b o l c hv j hj=>x4 w (fun _ _=>rfl) b o l c hv j (Nat.lt_of_lt_of_le hj (Nat.mul_le_mul_right _ hkx)))
 have hlen':(es.take off++xs.take k++es.drop (off+k)).length=es.length:=by simp;omega
 have hgl:(gcells gx (k * sz)).toList.length=k * sz:=by simp [gcells]
 have hone:∀ v ∈ (gcells gx (k * sz)).toList,v.oneCell'=true:=fun v hv=>by
  obtain ⟨i,hi,rfl⟩:=List.getElem_of_mem hv
  rw [hgl] at hi
  have h9:=x6 i (Nat.lt_of_lt_of_le hi (Nat.mul_le_mul_right _ hkx))
  rw [← gcells_getD gx hi,agetD_lt (by rw [gcells_size];exact hi)] at h9
  simpa using h9
 cases hρ:ρ m with
 |none =>
  rw [hρ] at hobj i4
  subst hobj
  obtain ⟨as_,ev⟩:=i4
  simp only [List.length_nil] at i3
  have hk0:k=0:=by omega
  have hl0:len=0:=by omega
  subst hk0;subst hl0
  have hrun:(execOp a.eval o).run P w=.ok (.value (.int .i64 (0:Nat))) w:=by
   refine execOp_copy ho ?_
   cases as_<;>simp [Builtin.copy_,run_underlying ht,size_run h1,ev,x1,Builtin.lenOf,hf1,gcells,storeCells,goInt]
  have hcon:∀ k,hlook ((m,DObj.row sz (([]:List DV).take off++xs.take 0++([]:List DV).drop (off+0)) false) :: h) k=hlook h k:=fun k=>by
   rw [hlook_cons]
   by_cases e2:m=k
   ·subst e2;rw [if_pos rfl,hl];simp
   ·rw [if_neg e2]
  exact ⟨_,_,w,M,ρ,hrun,.inl rfl,S.congr (fun _=>rfl) hcon,.pure (.int _ _)⟩
 |some bc =>
  obtain ⟨b,c⟩:=bc
  rw [hρ] at hobj i4
  obtain ⟨g2,cs,te,g3,g4,g5,g6,g7,g8,g9⟩:=hobj
  have g3:=g3.plain
  obtain ⟨as_,ev,ha⟩:=i4
  have hso:∀ e ∈ es,e.cells.length=sz:=fun e he=>(okE_spec (g6 e he)).1
  have hmul:(off+len) * sz≤c * sz:=Nat.mul_le_mul_right _ (by omega)
  rw [Nat.add_mul] at hmul
  have hkl:k * sz≤len * sz:=Nat.mul_le_mul_right _ (by omega)
  have hst:∀ A,as_=some A→(storeCells A (gcells gx (k * sz)).toList).run P w=.ok () (w.setCells b (off * sz) (gcells gx (k * sz)).toList):=by
   intro A hA
   rcases ha with ha|ha
   ·rw [hA] at ha;cases ha
    have:=run_storeCells_cells (P:=P) b (off * sz) (gcells gx (k * sz)).toList 0 w (fun j hj=>by
     rw [cell_of_heap g3,Array.getElem?_eq_getElem (by rw [hgl] at hj;omega)];rfl) (fun j hj=>by simp [World.frozen?,g3]) hone
    rw [Nat.add_zero] at this
    exact this
   ·have hk0:k=0:=by omega
    subst hk0
    simp [gcells,storeCells,World.setCells]
  have hrun:(execOp a.eval o).run P w=.ok (.value (.int .i64 (k:Nat))) (w.setCells b (off * sz) (gcells gx (k * sz)).toList):=by
   have hmin:Nat.min xs.length len=k:=hk.symm
   cases as_ with
   |some A =>
    have hstA:=hst A rfl
    refine execOp_copy ho ?_
    simp [Builtin.copy_,run_underlying ht,size_run h1,ev,x1,Builtin.lenOf,hmin,hf1,hstA,goInt]
   |none =>
    have hk0:k=0:=by
     rcases ha with ha|ha
     ·cases ha
     ·omega
    subst hk0
    refine execOp_copy ho ?_
    simp [Builtin.copy_,run_underlying ht,size_run h1,ev,x1,Builtin.lenOf,hmin,hf1,goInt,gcells,World.setCells]
  obtain ⟨cs',f1,f2,f3,f4,f5,f6⟩:=heap_setCells b (gcells gx (k * sz)).toList (off * sz) w cs g3 (by rw [hgl];omega)
  have hok:∀ e ∈ es.take off++xs.take k++es.drop (off+k),okE sz e=true:=fun e he=>by
   rcases List.mem_append.1 he with he|he
   ·rcases List.mem_append.1 he with he|he
    ·exact g6 e (List.mem_of_mem_take he)
    ·exact hxo e (List.mem_of_mem_take he)
   ·exact g6 e (List.mem_of_mem_drop he)
  have hfe:=length_flat es sz hso
  have hfx:=length_flat xs sz hxs
  have hoffk:(off+k) * sz=off * sz+k * sz:=Nat.add_mul ..
  have hoe:(off+k) * sz≤es.length * sz:=Nat.mul_le_mul_right _ (by omega)
  have hkxs:k * sz≤xs.length * sz:=Nat.mul_le_mul_right _ hkx
  have hflat:∀ i,i < (flat (es.take off++xs.take k++es.drop (off+k))).length→RelP M ((flat (es.take off++xs.take k++es.drop (off+k))).getD i .undef) (cs'.getD i Go.undef):=fun i hi=>by
   have e0:flat (es.take off++xs.take k++es.drop (off+k))=(flat es).take (off * sz)++(flat xs).take (k * sz)++(flat es).drop ((off+k) * sz):=by
    rw [flat_append,flat_append,flat_take es off hso,flat_take xs k hxs,flat_drop es (off+k) hso]
   have hlen2:(flat (es.take off++xs.take k++es.drop (off+k))).length=es.length * sz:=by
    rw [length_flat _ sz (fun e he=>(okE_spec (hok e he)).1),hlen']
   rw [hlen2] at hi
   rw [e0,f3,hgl]
   by_cases c1:i < off * sz
   ·rw [if_neg (by omega)]
    have:=g7 i (by omega)
    rwa [show ((flat es).take (off * sz)++(flat xs).take (k * sz)++(flat es).drop ((off+k) * sz)).getD i .undef=(flat es).getD i .undef by
     rw [List.getD_eq_getElem?_getD,List.getD_eq_getElem?_getD,List.append_assoc,List.getElem?_append_left (by simp;omega),List.getElem?_take_of_lt c1]]
   ·by_cases c2:i < off * sz+k * sz
    ·rw [if_pos ⟨by omega,c2⟩]
     have:=x5 (i - off * sz) (by omega)
     have e9:(gcells gx (k * sz)).toList.getD (i - off * sz) Go.undef=gx (i - off * sz):=by
      rw [getD_lt (by rw [hgl];omega),Array.getElem_toList,← agetD_lt (d:=Go.undef),gcells_getD gx (by omega)]
     rw [e9]
     rwa [show ((flat es).take (off * sz)++(flat xs).take (k * sz)++(flat es).drop ((off+k) * sz)).getD i .undef=(flat xs).getD (i - off * sz) .undef by
      have l1:((flat es).take (off * sz)).length=off * sz:=by simp;omega
      rw [List.getD_eq_getElem?_getD,List.getD_eq_getElem?_getD,List.append_assoc,List.getElem?_append_right (by omega),l1,List.getElem?_append_left (by simp;omega),List.getElem?_take_of_lt (by omega)]]
    ·rw [if_neg (by omega)]
     have:=g7 i (by omega)
     rwa [show ((flat es).take (off * sz)++(flat xs).take (k * sz)++(flat es).drop ((off+k) * sz)).getD i .undef=(flat es).getD i .undef by
      have l1:((flat es).take (off * sz)++(flat xs).take (k * sz)).length=off * sz+k * sz:=by simp;omega
      rw [List.getD_eq_getElem?_getD,List.getD_eq_getElem?_getD,List.getElem?_append_right (by omega),l1,List.getElem?_drop]
      congr 2;omega]
  have hx':Ext M ρ h M ρ ((m,.row sz (es.take off++xs.take k++es.drop (off+k)) false) :: h):=by
   refine ⟨M.le_refl,fun m' sz1 es1 fr1 e=>?_,fun m' o e hk=>⟨rfl,o,?_,like_refl hk⟩,fun m' sz1 c1 isz1 es1 pd1 e=>nrw_same (by rw [hlook_cons,if_neg (fun e2=>by subst e2;rw [hl] at e;cases e)];exact e) rfl rfl⟩
   ·rw [hlook_cons]
    by_cases e2:m=m'
    ·subst e2;rw [hl] at e;cases e
     exact ⟨sz,_,false,by rw [if_pos rfl],Nat.le_of_eq hlen'.symm,fun _=>⟨.inl rfl,rfl⟩⟩
    ·exact ⟨sz1,es1,fr1,by rw [if_neg e2];exact e,Nat.le_refl _,fun _=>⟨.inl rfl,rfl⟩⟩
   ·have e2:m≠m':=fun e2=>by subst e2;rw [hl] at e;cases e;cases hk
    rw [hlook_cons,if_neg e2];exact e
  refine ⟨_,_,_,M,ρ,hrun,.inl rfl,S.setObj hl hρ f4 (f6 B w0 g2.1 S.below) (g9 trivial) g3 (fun _ e=>by cases e) hx' ?_,.pure (.int _ _)⟩
  simp only [ObjRel,hρ]
  exact ⟨g2,cs',te,.of f1,by rw [f2,g4],by rw [hlen'];exact g5,hok,hflat,by simp,fun _=>g9 trivial⟩
theorem chunks_length (agg:Bool) (esz:Nat) (cs:List DV):∀ n,(chunks agg esz cs n).length=n
 |0=>rfl
 |n+1=>by simp [chunks,chunks_length agg esz cs n]
theorem part_cells {agg:Bool} {off esz:Nat} {cs:List DV} (h1:agg=false→esz=1) (hc:cellsB cs=true) (hl:off+esz≤cs.length):(part agg off esz cs).cells=(cs.drop off).take esz:=by
 cases agg with
 |true=>rfl
 |false =>
  have:=h1 rfl;subst this
  have hlt:off < cs.length:=by omega
  have hb:=cellsB_get hc hlt
  have e:(part false off 1 cs)=cs.getD off .undef:=rfl
  rw [e,List.drop_eq_getElem_cons hlt,List.take_succ_cons,List.take_zero,getD_lt hlt]
  rw [getD_lt hlt] at hb
  generalize cs[off]=d at *
  cases d<;>first|rfl|simp [cellB] at hb
theorem flat_chunks {agg:Bool} {esz:Nat} {cs:List DV} (h1:agg=false→esz=1) (hc:cellsB cs=true):∀ n,n * esz≤cs.length→flat (chunks agg esz cs n)=cs.take (n * esz)
 |0,_=>by simp [chunks,flat]
 |n+1,hl=>by
  rw [Nat.add_mul] at hl
  rw [chunks,flat_append,flat_chunks h1 hc n (by omega)]
  have:flat [part agg (n * esz) esz cs]=(part agg (n * esz) esz cs).cells:=by simp [flat]
  rw [this,part_cells h1 hc (by omega),Nat.add_mul,Nat.one_mul,List.take_add]
theorem op_sliceA (hG:GOk G M0) (S:Sim B nt M0 w0 M ρ t h a w) (ty e:TypeId) (x:Operand) (n esz:Nat) (agg:Bool) (cs:List DV) (ho:o.op=.slice ty x none none none) (ha:P.underlying ty=some (.array n e))
  (he:elemT P e=some (esz,agg)) (hx:evalOpd G t x=.ip (.agg cs)) (hl:cs.length=n * esz∧cellsB cs=true):OpGoal P B nt M0 w0 M ρ t h a w o (.full (chunks agg esz cs n)) []:=by
 obtain ⟨hs1,hs2,hs3,hs4,hs5⟩:=elemT_spec he
 obtain ⟨hl,hcc⟩:=hl
 have r1:=S.opd hG x;rw [hx] at r1
 have r2:=r1.inv_ip
 generalize hv:a.eval x=v at *
 cases r2 with
 |ip _ b o' g hM hr =>
  have hfl:flat (chunks agg esz cs n)=cs:=by rw [flat_chunks hs4 hcc n (by omega),← hl,List.take_length]
  have hlen:=chunks_length agg esz cs n
  refine OpGoal.same S (v:=.slice (some ⟨b,o',none⟩) n n) ?_ (.pure ?_)
  ·have e0:(if n=0 then (⟨b,o',none⟩:Addr) else (⟨b,o',none⟩:Addr).add 0)=⟨b,o',none⟩:=by simp [add_lit]
   simp [execOp,ho,Instr.sliceAt,run_underlying ha,hv,Instr.sureAddr,Instr.sliceBounds,size_run hs1,add_lit]
  ·have key:RelP M (.full (chunks agg esz cs n)) (.slice (some ⟨b,o',none⟩) (chunks agg esz cs n).length (chunks agg esz cs n).length):=by
    refine .full _ _ esz b o' g (.inr rfl) (fun d hd=>?_) (by rw [hfl];exact hM) (by rw [hfl];exact hr)
    have sub:∀ k,k * esz≤cs.length→∀ d ∈ chunks agg esz cs k,d.cells.length=esz:=by
     intro k
     induction k with
     |zero=>intro _ d hd;simp [chunks] at hd
     |succ k ih =>
      intro hk d hd
      rw [Nat.add_mul] at hk
      rw [chunks] at hd
      rcases List.mem_append.1 hd with hd|hd
      ·exact ih (by omega) d hd
      ·have:d=part agg (k * esz) esz cs:=by simpa using hd
       subst this
       rw [part_cells hs4 hcc (by omega)]
       simp;omega
    exact sub n (by omega) d hd
   rw [hlen] at key;exact key
theorem push_run {P:Program} {w:World}:∀ (l:List Int) (s:ByteArray),(forIn (m:=Sem) (l.map fun b=>Value.int .u8 b) s (fun c s=>do
   let .int .u8 n:=c|stuck "bytesToString: byte expected"
   pure (ForInStep.yield (s.push (UInt8.ofNat n.toNat))))).run P w=.ok ⟨(s.data.toList++l.map fun n=>UInt8.ofNat n.toNat).toArray⟩ w
 |[],s=>by simp
 |b :: r,s=>by
  have h1:=push_run (P:=P) (w:=w) r (s.push (UInt8.ofNat b.toNat))
  simp only [List.map_cons,List.forIn_cons]
  simp [ByteArray.push] at h1 ⊢
  exact h1
theorem flat_u8:∀ (xs:List DV),(∀ e ∈ xs,isU8 e=true)→flat xs=xs
 |[],_=>rfl
 |e :: r,h=>by
  have h1:=flat_u8 r (fun x hx=>h x (List.mem_cons_of_mem _ hx))
  have h2:=h e (List.mem_cons_self ..)
  cases e<;>simp_all [isU8,flat,DV.cells]
theorem op_strOf (hG:GOk G M0) (S:Sim B nt M0 w0 M ρ t h a w) (sT dT e:TypeId) (x:Operand) (q:Option Prop) (xs:List DV) (ho:o.op=.convert sT dT x) (hs:P.underlying sT=some (.slice e)) (hd:P.underlying dT=some .string) (he:P.underlying e=some (.int .u8))
  (hx:elems (hlook h) (evalOpd G t x)=some (q,xs)) (hq:holds q) (h8:∀ e ∈ xs,isU8 e=true):OpGoal P B nt M0 w0 M ρ t h a w o (.str (xs.map byteV)) []:=by
 have hok:∀ e ∈ xs,okE 1 e=true:=fun e he=>by
  have:=h8 e he
  cases e<;>simp_all [isU8,okE,DV.cells,cellsB,cellB]
 obtain ⟨ax,cx,gx,x1,x2,x3,x4,x5,x6⟩:=elems_spec S (S.opd hG x) hx hq hok
 rw [flat_u8 xs h8] at x5
 have hf:=firstCells_run' (P:=P) (w:=w) (n:=xs.length) (size:=1) (g:=gx) x1 x3 (x4 w (fun _ _=>rfl))
 have hg:gcells gx xs.length=(xs.map fun d=>match d with|.int _ n=>Value.int .u8 n|_=>Go.undef).toArray:=by
  unfold gcells
  congr 1
  apply List.ext_getElem (by simp)
  intro i h1 h2
  simp only [List.length_map,List.length_range] at h1
  simp only [List.getElem_map,List.getElem_range]
  have h3:=x5 i (by omega)
  have h4:=h8 xs[i] (List.getElem_mem _)
  rw [getD_lt h1] at h3
  generalize xs[i]=d at *
  cases d with
  |int k n =>
   have hk:=kindEq_eq h4
   subst hk
   exact (RelV.pure (ρ:=ρ) (h:=h) h3).inv_int
  |_=>simp [isU8] at h4
 have hl:xs.map (fun d=>match d with|.int _ n=>Value.int .u8 n|_=>Go.undef)=(xs.map fun d=>match d with|.int _ n=>n|_=>0).map fun n=>Value.int .u8 n:=by
  rw [List.map_map]
  refine List.map_congr_left fun d hd=>?_
  have:=h8 d hd
  cases d<;>simp_all [isU8]
 have hb:(xs.map fun d=>match d with|.int _ n=>n|_=>0).map (fun n:Int=>UInt8.ofNat n.toNat)=xs.map byteV:=by
  rw [List.map_map]
  refine List.map_congr_left fun d hd=>?_
  have:=h8 d hd
  cases d<;>simp_all [isU8,byteV]
 have hrun:(Conv.bytesToString (a.eval x)).run P w=.ok (.string ⟨(xs.map byteV).toArray⟩) w:=by
  rw [x1]
  rcases x3 with h0|⟨b,o',rfl⟩
  ·have h00:xs=[]:=List.eq_nil_of_length_eq_zero h0
   subst h00
   cases ax with
   |none=>simp [Conv.bytesToString];rfl
   |some A=>simp [Conv.bytesToString,loadCells,loadCellsFrom];rfl
  ·rw [x1] at hf
   simp only [Builtin.firstCells,Nat.mul_one] at hf
   have hp:=push_run (P:=P) (w:=w) (xs.map fun d=>match d with|.int _ n=>n|_=>0) ByteArray.empty
   rw [hb,← hl] at hp
   rw [hg] at hf
   simp only [Conv.bytesToString,Sem.run_bind,hf,Result.andThen_ok]
   have hp2:(forIn (m:=Sem) (xs.map fun d=>match d with|.int _ n=>Value.int .u8 n|_=>Go.undef).toArray ByteArray.empty (fun c s=>do
     let .int .u8 n:=c|stuck "bytesToString: byte expected"
     pure (ForInStep.yield (s.push (UInt8.ofNat n.toNat))))).run P w=.ok ⟨(xs.map byteV).toArray⟩ w:=by
    rw [List.forIn_toArray,hp];rfl
   refine Eq.trans ?_ (congrArg (fun r=>Result.andThen r fun s w=>(pure (Value.string s):Sem Value).run P w) hp2)
   rfl
 refine OpGoal.same S (v:=.string ⟨(xs.map byteV).toArray⟩) ?_ (.pure (.str _))
 have hc:(convert sT dT (a.eval x)).run P w=.ok (.string ⟨(xs.map byteV).toArray⟩) w:=by
  have:∃ A N C,a.eval x=.slice A N C:=⟨_,_,_,x1⟩
  obtain ⟨A,N,C,e1⟩:=this
  rw [e1] at hrun ⊢
  simp [convert,run_underlying hs,run_underlying hd,run_underlying he,hrun]
 simp [execOp,ho,hc]
end
end Sh

/- What single operations come to: shifts,bits;a part of a row of the call's own,written in place;clear. -/
namespace Sh
open Go
section
variable {P:Program} {G:Nat→Option DV} {B:Base} {nt:Nat} {M0:Mem} {w0:World} {M:Mem} {ρ:Locs} {t:Tmps} {h:Heap} {a:Act} {w:World} {o:Oper}
theorem op_shift (hG:GOk G M0) (S:Sim B nt M0 w0 M ρ t h a w) (op:BinOp) (ty ty':TypeId) (x y:Operand) (j k:IntKind) (m n:Int) (ho:o.op=.binOp op ty x y ty') (hx:evalOpd G t x=.int j m) (hy:evalOpd G t y=.int k n)
  (p:Option Prop) (d:DV) (u:Heap) (he:shBin op j m n=.ok p d u) (hp:∀ q,p=some q→q):OpGoal P B nt M0 w0 M ρ t h a w o d u:=by
 have h1:=S.opd hG x;rw [hx] at h1
 have h2:=S.opd hG y;rw [hy] at h2
 have e1:=h1.inv_int
 have e2:=h2.inv_int
 unfold shBin at he
 split at he<;>first|(cases he;done)|skip
 all_goals
  simp only [Ev.ok.injEq] at he
  obtain ⟨rfl,rfl,rfl⟩:=he
  have hz:¬ n < 0:=by have:(0:Int)≤n:=hp _ rfl;omega
 ·refine OpGoal.same S (v:=.int j (shlI j m n)) ?_ (.pure (.int _ _));simp [execOp,ho,e1,e2,eqGuard,binOp,Op.shift,hz,shlI]
 ·refine OpGoal.same S (v:=.int j (shrI j m n)) ?_ (.pure (.int _ _));simp [execOp,ho,e1,e2,eqGuard,binOp,Op.shift,hz,shrI]
theorem op_appendE (hG:GOk G M0) (S:Sim B nt M0 w0 M ρ t h a w) (ty u e e':TypeId) (s x:Operand) (sz:Nat) (agg:Bool) (ho:o.op=.call ⟨.builtin .append,#[s,x],#[ty,u]⟩)
  (ht:P.underlying ty=some (.slice e)) (hu:P.underlying u=some (.slice e')) (he:elemT P e=some (sz,agg)) {n:Nat} {p:Option Prop} {d:DV} {up:Heap} (hev:evalOp (evalOpd G t) (hlook h) n (.appendE sz s x)=.ok p d up) (hp:holds p):OpGoal P B nt M0 w0 M ρ t h a w o d up:=by
 obtain ⟨h1,h2,h3,h4,h5⟩:=elemT_spec he
 simp only [evalOp] at hev
 split at hev
 ·rename_i l hs
  split at hev
  ·rename_i q xs hx
   simp only [Ev.ok.injEq] at hev
   obtain ⟨rfl,rfl,rfl⟩:=hev
   obtain ⟨hq,hx0⟩:=holds_pand hp
   have hx0:xs=[]:=hx0
   subst hx0
   obtain ⟨ax,cx,gx,x1,_⟩:=elems_spec S (S.opd hG x) (sz:=sz) hx hq (by simp)
   have r1:=S.opd hG s;rw [hs] at r1
   have r2:=r1.inv_full
   generalize hv:a.eval s=v at r2
   cases r2 with
   |full _ a' sz' b o' g ha hsz hM hr =>
    refine OpGoal.same S (v:=.slice a' l.length l.length) (execOp_append (P:=P) (w:=w) (a:=a) ho (by rw [hv,x1];exact run_append_same ht hu h1 (Nat.le_refl _) w)) (.pure (.full l a' sz' b o' g ha hsz hM hr))
  ·cases hev
 ·cases hev
theorem op_appendZ (hG:GOk G M0) (S:Sim B nt M0 w0 M ρ t h a w) (ty u e:TypeId) (kn:IntKind) (s x:Operand) (sz:Nat) (agg:Bool) (z:Value) (k:IntKind) (m:Int) (n:Nat) (ho:o.op=.call ⟨.builtin .append,#[s,x],#[ty,u]⟩)
  (ht:P.underlying ty=some (.slice e)) (hu:P.underlying u=some (.int kn)) (he:elemT P e=some (sz,agg)) (hz:zeroT P e=some z) (hzs:z.cells.size=sz) (hs:evalOpd G t s=.full []) (hx:evalOpd G t x=.int k m)
  (hb:0 < m∧m≤1073741824∧okE sz (ofValue z)=true) (hn:hlook h n=none) (hn6:Nat.blt n 1000000=true) :
  OpGoal P B nt M0 w0 M ρ t h a w o (.own n 0 m.toNat m.toNat) [(n,.row sz (List.replicate m.toNat (ofValue z)) false)]:=by
 obtain ⟨b1,b2,b3⟩:=hb
 obtain ⟨h1,h2,h3,h4,h5⟩:=elemT_spec he
 obtain ⟨i,hi,hz'⟩:=zeroT_spec hz
 obtain ⟨N,rfl⟩:=Int.eq_ofNat_of_zero_le (show 0≤m by omega)
 rw [Int.toNat_natCast]
 have r1:=S.opd hG s;rw [hs] at r1
 have r2:=S.opd hG x;rw [hx] at r2
 have ev:∃ a',a.eval s=.slice a' 0 0:=by
  generalize a.eval s=v at *
  have r3:=r1.inv_full
  cases r3 with|full _ a' sz' b o' g ha hsz hM hr=>exact ⟨_,rfl⟩
 obtain ⟨a',ev⟩:=ev
 have hsize:i.size=sz:=by unfold sizeT at h1;rw [hi] at h1;simpa using h1
 have hbytes:i.bytes≤65536:=by unfold bytesOk at h5;rw [hi] at h5;exact Nat.le_of_ble_eq_true h5
 have hmul:N * i.bytes≤1073741824 * 65536:=Nat.mul_le_mul (by omega) hbytes
 have hsz:0 < sz:=by omega
 have hold:(Builtin.firstCells i.size 0 (.slice a' 0 0)).run P w.drew=.ok ([]:List Value).toArray w.drew:=by
  cases a'<;>simp [Builtin.firstCells,loadCells,loadCellsFrom]
 have hrun0:=Lib.run_append_grow_zeros (P:=P) w ty u o.type e i z k kn ht hu hi hz' a' 0 0 [] hold N (by omega) (by omega) (by omega) (by omega) (by omega) (by rw [Nat.zero_add,nextslicecap_zero (by omega)];omega)
 rw [Nat.zero_add] at hrun0
 have hge:=grownCap_ge w N 0 e
 generalize grownCap w N 0 e=cap at *
 have hrun:=execOp_append (P:=P) (w:=w) (a:=a) ho (by rw [ev,r2.inv_int];exact hrun0)
 have hok:∀ e ∈ List.replicate N (ofValue z),okE sz e=true:=fun e he=>by rw [List.mem_replicate] at he;rw [he.2];exact b3
 have hl:∀ e ∈ List.replicate N (ofValue z),e.cells.length=sz:=fun e he=>(okE_spec (hok e he)).1
 have hzc:Builtin.zeroCells z.cells N=madeCells z.cells (N * sz):=by unfold Builtin.zeroCells madeCells;rw [hzs]
 have hcs:(([]:List Value).toArray++Builtin.zeroCells z.cells N++Builtin.zeroCells z.cells (cap - N)).size=cap * sz:=by
  rw [Array.size_append,Array.size_append,size_zeroCells,size_zeroCells,hzs]
  show 0+N * sz+(cap - N) * sz=cap * sz
  rw [Nat.zero_add,← Nat.add_mul];congr 1;omega
 have hpre:∀ q,q < N * sz→(([]:List Value).toArray++Builtin.zeroCells z.cells N++Builtin.zeroCells z.cells (cap - N)).getD q Go.undef=(madeCells z.cells (N * sz)).getD q Go.undef:=fun q hq=>by
  have e1:([]:List Value).toArray++Builtin.zeroCells z.cells N=madeCells z.cells (N * sz):=by rw [hzc];simp
  rw [e1]
  have hsm:(madeCells z.cells (N * sz)).size=N * sz:=size_madeCells _ _
  rw [agetD_lt (by rw [Array.size_append,hsm];omega),agetD_lt (by rw [hsm];exact hq),Array.getElem_append_left]
 have hcells:∀ q,q < (flat (List.replicate N (ofValue z))).length→RelP M ((flat (List.replicate N (ofValue z))).getD q .undef) ((([]:List Value).toArray++Builtin.zeroCells z.cells N++Builtin.zeroCells z.cells (cap - N)).getD q Go.undef):=fun q hq=>by
  rw [hpre q (by rw [length_flat _ sz hl] at hq;simpa using hq)]
  exact flat_rel (R:=RelP M) hl (fun i j hi hj=>by
   simp only [List.length_replicate] at hi
   exact zero_row (M:=M) (len:=N) hzs b3 hsz i j hi hj) q hq
 obtain ⟨i1,i2⟩:=S.drew.newRow h3 (n:=n) (c:=cap) (es:=List.replicate N (ofValue z)) hn hcs (by rw [List.length_replicate];exact hge) hok hcells e (tyN_lt hn6)
 rw [List.length_replicate] at i2
 exact ⟨_,_,_,_,_,hrun,.inl rfl,i1,i2⟩
theorem op_eqNil (hG:GOk G M0) (S:Sim B nt M0 w0 M ρ t h a w) (ty e ty':TypeId) (x:Operand) (ho:o.op=.binOp .eql ty x (.const (.slice none 0 0)) ty') (ht:P.underlying ty=some (.slice e))
  (d:DV) (he:evalOp (evalOpd G t) (hlook h) 0 (.eqNil false x)=.ok none d []):OpGoal P B nt M0 w0 M ρ t h a w o d []:=by
 have r1:=S.opd hG x
 have key:∀ (a':Option Addr) (n c:Nat),a.eval x=.slice a' n c→RelP M d (.bool a'.isNone)→OpGoal P B nt M0 w0 M ρ t h a w o d []:=fun a' n c ev hr=>by
  refine OpGoal.same S (v:=.bool a'.isNone) ?_ (.pure hr)
  have h1:=Lib.run_eql_slice_nil (P:=P) w ty e a' n c 0 0 ht
  have h2:a.eval (.const (.slice none 0 0))=.slice none 0 0:=rfl
  simp [execOp,ho,ev,h2,eqGuard,h1]
 simp only [evalOp] at he
 split at he
 ·rename_i hx
  rw [hx] at r1
  have r2:=r1.inv_list
  generalize hv:a.eval x=v at r2
  cases r2 with
  |list _ a' cap sz b o' g hcap ha hsz hM hr =>
   simp only [Ev.ok.injEq] at he
   obtain ⟨_,rfl,_⟩:=he
   exact key _ _ _ hv (.abool _)
 ·rename_i hx
  rw [hx] at r1
  have r2:=r1.inv_full
  generalize hv:a.eval x=v at r2
  cases r2 with
  |full _ a' sz b o' g ha hsz hM hr =>
   simp only [Ev.ok.injEq] at he
   obtain ⟨_,rfl,_⟩:=he
   exact key _ _ _ hv (.abool _)
 ·rename_i y l hx
  rw [hx] at r1
  have r2:=r1.inv_list
  generalize hv:a.eval x=v at r2
  cases r2 with
  |list _ a' cap sz b o' g hcap ha hsz hM hr =>
   simp only [Ev.ok.injEq] at he
   obtain ⟨_,rfl,_⟩:=he
   rcases ha with ha|ha
   ·cases ha
   ·refine key _ _ _ hv ?_
    rw [ha];exact .bool _
 ·rename_i y l hx
  rw [hx] at r1
  have r2:=r1.inv_full
  generalize hv:a.eval x=v at r2
  cases r2 with
  |full _ a' sz b o' g ha hsz hM hr =>
   simp only [Ev.ok.injEq] at he
   obtain ⟨_,rfl,_⟩:=he
   rcases ha with ha|ha
   ·cases ha
   ·refine key _ _ _ hv ?_
    rw [ha];exact .bool _
 ·cases he
theorem sliceBounds_wide (hG:GOk G M0) (S:Sim B nt M0 w0 M ρ t h a w) (len cap:Nat) (lo hi:Option Operand) (l u:Int) (hl:bound lo (evalOpd G t) 0=some l) (hu:bound hi (evalOpd G t) len=some u) (hb:0≤l∧l≤u∧u≤cap) (w':World) :
  (Instr.sliceBounds true len cap (lo.map a.eval) (hi.map a.eval) none).run P w'=.ok (l.toNat,u.toNat,cap) w':=by
 have h1:=bound_run hG S lo 0 l hl
 have h2:=bound_run hG S hi len u hu
 obtain ⟨b1,b2,b3⟩:=hb
 have c1:0≤u:=by omega
 rcases h1 with ⟨rfl,rfl⟩|⟨x,k,rfl,e1⟩<;>rcases h2 with ⟨rfl,e2⟩|⟨y,k',rfl,e2⟩
 ·subst e2;simp [Instr.sliceBounds]
 ·simp [Instr.sliceBounds,e2,Instr.sliceBound,asIntOf,c1,b3]
 ·subst e2
  simp [Instr.sliceBounds,e1,Instr.sliceBound,asIntOf,b1,b2]
 ·have c5:¬ (max u 0 < l):=by omega
  simp [Instr.sliceBounds,e1,e2,Instr.sliceBound,asIntOf,b1,c1,b3,c5]
theorem op_sliceW (hG:GOk G M0) (S:Sim B nt M0 w0 M ρ t h a w) (ty e:TypeId) (x:Operand) (lo hi:Option Operand) (n len tot:Nat) (es:List DV) (fr:Bool) (sz:Nat) (agg:Bool) (l u:Int) (ho:o.op=.slice ty x lo hi none) (ht:P.underlying ty=some (.slice e)) (he:elemT P e=some (sz,agg))
  (hx:evalOpd G t x=.own n 0 len tot) (hL:hlook h n=some (.row sz es fr))
  (hl:bound lo (evalOpd G t) 0=some l) (hu:bound hi (evalOpd G t) len=some u) (hb:tot=es.length∧0≤l∧l≤u∧u≤tot):OpGoal P B nt M0 w0 M ρ t h a w o (.own n l.toNat (u - l).toNat tot) []:=by
 obtain ⟨hs1,hs2,hs3,hs4,hs5⟩:=elemT_spec he
 obtain ⟨b0,b1,b2,b3⟩:=hb
 have r1:=S.opd hG x;rw [hx] at r1
 obtain ⟨h1,h2⟩:=r1.inv_own hL
 obtain ⟨h3,h4⟩:=h2 b0
 have e1:u.toNat - l.toNat=(u - l).toNat:=by omega
 cases hρ:ρ n with
 |none =>
  have hes:=S.obj n _ hL
  simp only [ObjRel,hρ] at hes
  subst hes
  simp only [List.length_nil] at b0
  rw [hρ] at h4
  obtain ⟨a',ev⟩:=h4
  have hsb:=sliceBounds_wide hG S (P:=P) len 0 lo hi l u hl hu ⟨b1,b2,by omega⟩
  refine OpGoal.same S (v:=.slice (if 0=l.toNat then a' else a'.map (·.add (l.toNat * sz))) (u - l).toNat (0 - l.toNat)) ?_ (.own _ _ _ _ _ _ _ _ hL h1 ⟨_,_,_,rfl⟩ (fun _=>⟨by omega,?_⟩))
  ·simp only [execOp,ho,Instr.sliceAt,Instr.slice,Sem.run_bind,run_underlying ht,Result.andThen_ok,ev,Option.map_none,hsb,size_run hs1,Sem.run_pure,e1]
  ·rw [hρ];simp
 |some bc =>
  obtain ⟨b,c⟩:=bc
  rw [hρ] at h4
  obtain ⟨a',ev,ha⟩:=h4
  obtain ⟨cs,ty',e3,e4,e5,e6,e7⟩:=row_cells hG S hL hρ
  have hsb:=sliceBounds_wide hG S (P:=P) len (c - 0) lo hi l u hl hu ⟨b1,b2,by omega⟩
  refine OpGoal.same S (v:=.slice (if c - 0=l.toNat then a' else a'.map (·.add (l.toNat * sz))) (u - l).toNat (c - 0 - l.toNat)) ?_ (.own _ _ _ _ _ _ _ _ hL h1 ⟨_,_,_,rfl⟩ (fun _=>⟨by omega,?_⟩))
  ·simp only [execOp,ho,Instr.sliceAt,Instr.slice,Sem.run_bind,run_underlying ht,Result.andThen_ok,ev,Option.map_none,hsb,size_run hs1,Sem.run_pure,e1]
  ·rw [hρ]
   refine ⟨_,by rw [Nat.sub_sub,Nat.zero_add],?_⟩
   rcases ha with ha|⟨ha1,ha2⟩
   ·rw [slice_addr hG S a' b (0 * sz) (c - 0) l.toNat sz ha]
    by_cases hc:c - 0=l.toNat
    ·rw [if_pos hc]
     by_cases hz:l.toNat=0
     ·left;rw [hz]
     ·right;exact ⟨by omega,hz⟩
    ·rw [if_neg hc];left;rw [Nat.zero_mul,Nat.zero_add]
   ·exact absurd rfl ha2
theorem op_slice3 (hG:GOk G M0) (S:Sim B nt M0 w0 M ρ t h a w) (ty e:TypeId) (x m:Operand) (lo hi:Option Operand) (n off len tot:Nat) (es:List DV) (fr:Bool) (sz:Nat) (agg:Bool) (l u:Int) (k:IntKind) (q:Int) (ho:o.op=.slice ty x lo hi (some m)) (ht:P.underlying ty=some (.slice e)) (he:elemT P e=some (sz,agg))
  (hx:evalOpd G t x=.own n off len tot) (hL:hlook h n=some (.row sz es fr)) (hm:evalOpd G t m=.int k q)
  (hl:bound lo (evalOpd G t) 0=some l) (hi0:hi≠none) (hu:bound hi (evalOpd G t) 1=some u) (hb:tot=es.length∧0≤l∧l≤u∧u≤q∧q≤len):OpGoal P B nt M0 w0 M ρ t h a w o .undef []:=by
 obtain ⟨hs1,hs2,hs3,hs4,hs5⟩:=elemT_spec he
 obtain ⟨b0,b1,b2,b3,b4⟩:=hb
 have r1:=S.opd hG x;rw [hx] at r1
 have rm:=S.opd hG m;rw [hm] at rm
 have em:=rm.inv_int
 obtain ⟨h1,h2⟩:=r1.inv_own hL
 obtain ⟨h3,h4⟩:=h2 b0
 have ev:∃ a' cap,a.eval x=.slice a' len cap∧(len:Int)≤cap:=by
  cases hρ:ρ n with
  |none =>
   have hes:=S.obj n _ hL
   simp only [ObjRel,hρ] at hes
   subst hes
   simp only [List.length_nil] at b0
   rw [hρ] at h4
   obtain ⟨a',ev⟩:=h4
   exact ⟨a',0,ev,by omega⟩
  |some bc =>
   obtain ⟨b,c⟩:=bc
   rw [hρ] at h4
   obtain ⟨a',ev,ha⟩:=h4
   obtain ⟨cs,ty',e3,e4,e5,e6,e7⟩:=row_cells hG S hL hρ
   exact ⟨a',_,ev,by omega⟩
 obtain ⟨a',cap,ev,hcap⟩:=ev
 have g1:=bound_run hG S lo 0 l hl
 have g2:=bound_run hG S hi 1 u hu
 obtain ⟨y,k',rfl,e2⟩:∃ y k',hi=some y∧a.eval y=.int k' u:=by
  rcases g2 with ⟨h,_⟩|h
  ·exact absurd h hi0
  ·exact h
 have c1:0≤u:=by omega
 have c2:0≤q:=by omega
 have c3:q≤(cap:Int):=by omega
 have c4:u≤max q 0:=by omega
 have c5:l≤max u 0:=by omega
 have hsb:(Instr.sliceBounds true len cap (lo.map a.eval) (some (.int k' u)) (some (.int k q))).run P w=.ok (l.toNat,u.toNat,q.toNat) w:=by
  rcases g1 with ⟨rfl,rfl⟩|⟨z,k'',rfl,e3⟩
  ·simp [Instr.sliceBounds,Instr.sliceBound,asIntOf,c1,c2,c3,c4]
  ·simp [Instr.sliceBounds,Instr.sliceBound,asIntOf,e3,b1,c1,c2,c3,c4,c5]
 refine OpGoal.same S (v:=.slice (if q.toNat=l.toNat then a' else a'.map (·.add (l.toNat * sz))) (u.toNat - l.toNat) (q.toNat - l.toNat)) ?_ (.pure (.undef _))
 simp only [execOp,ho,Instr.sliceAt,Instr.slice,Sem.run_bind,run_underlying ht,Result.andThen_ok,ev,Option.map_some,e2,em,hsb,size_run hs1,Sem.run_pure]
theorem splice_rel {sz off k:Nat} {es xs:List DV} {cs cs':Array Value} {g:Nat→Value} (hso:∀ e ∈ es,e.cells.length=sz) (hxs:∀ e ∈ xs,e.cells.length=sz) (hoff:off+k≤es.length) (hk:xs.length=k)
  (h7:∀ i,i < (flat es).length→RelP M ((flat es).getD i .undef) (cs.getD i Go.undef)) (hx:∀ i,i < k * sz→RelP M ((flat xs).getD i .undef) (g i))
  (hcs:∀ i,cs'.getD i Go.undef=if off * sz≤i∧i < off * sz+k * sz then g (i - off * sz) else cs.getD i Go.undef) :
  ∀ i,i < (flat (es.take off++xs++es.drop (off+k))).length→RelP M ((flat (es.take off++xs++es.drop (off+k))).getD i .undef) (cs'.getD i Go.undef):=fun i hi=>by
 have hfe:=length_flat es sz hso
 have hfx:=length_flat xs sz hxs
 rw [hk] at hfx
 have hoffk:(off+k) * sz=off * sz+k * sz:=Nat.add_mul ..
 have hoe:(off+k) * sz≤es.length * sz:=Nat.mul_le_mul_right _ (by omega)
 have e0:flat (es.take off++xs++es.drop (off+k))=(flat es).take (off * sz)++flat xs++(flat es).drop ((off+k) * sz):=by
  rw [flat_append,flat_append,flat_take es off hso,flat_drop es (off+k) hso]
 have hlen2:(flat (es.take off++xs++es.drop (off+k))).length=es.length * sz:=by
  rw [e0];simp;omega
 rw [hlen2] at hi
 rw [e0,hcs]
 by_cases c1:i < off * sz
 ·rw [if_neg (by omega)]
  have:=h7 i (by omega)
  rwa [show ((flat es).take (off * sz)++flat xs++(flat es).drop ((off+k) * sz)).getD i .undef=(flat es).getD i .undef by
   rw [List.getD_eq_getElem?_getD,List.getD_eq_getElem?_getD,List.append_assoc,List.getElem?_append_left (by simp;omega),List.getElem?_take_of_lt c1]]
 ·by_cases c2:i < off * sz+k * sz
  ·rw [if_pos ⟨by omega,c2⟩]
   have:=hx (i - off * sz) (by omega)
   rwa [show ((flat es).take (off * sz)++flat xs++(flat es).drop ((off+k) * sz)).getD i .undef=(flat xs).getD (i - off * sz) .undef by
    have l1:((flat es).take (off * sz)).length=off * sz:=by simp;omega
    rw [List.getD_eq_getElem?_getD,List.getD_eq_getElem?_getD,List.append_assoc,List.getElem?_append_right (by omega),l1,List.getElem?_append_left (by omega)]]
  ·rw [if_neg (by omega)]
   have:=h7 i (by omega)
   rwa [show ((flat es).take (off * sz)++flat xs++(flat es).drop ((off+k) * sz)).getD i .undef=(flat es).getD i .undef by
    have l1:((flat es).take (off * sz)++flat xs).length=off * sz+k * sz:=by simp;omega
    rw [List.getD_eq_getElem?_getD,List.getD_eq_getElem?_getD,List.getElem?_append_right (by omega),l1,List.getElem?_drop]
    congr 2;omega]
theorem ext_splice {m sz:Nat} {es es':List DV} (hl:hlook h m=some (.row sz es false)) (hlen:es'.length=es.length):Ext M ρ h M ρ ((m,.row sz es' false) :: h):=by
 refine ⟨M.le_refl,fun m' sz1 es1 fr1 e=>?_,fun m' o e hk=>⟨rfl,o,?_,like_refl hk⟩,fun m' sz1 c1 isz1 es1 pd1 e=>nrw_same (by rw [hlook_cons,if_neg (fun e2=>by subst e2;rw [hl] at e;cases e)];exact e) rfl rfl⟩
 ·rw [hlook_cons]
  by_cases e2:m=m'
  ·subst e2;rw [hl] at e;cases e
   exact ⟨sz,_,false,by rw [if_pos rfl],Nat.le_of_eq hlen.symm,fun _=>⟨.inl rfl,rfl⟩⟩
  ·exact ⟨sz1,es1,fr1,by rw [if_neg e2];exact e,Nat.le_refl _,fun _=>⟨.inl rfl,rfl⟩⟩
 ·have e2:m≠m':=fun e2=>by subst e2;rw [hl] at e;cases e;cases hk
  rw [hlook_cons,if_neg e2];exact e
theorem op_append_mid (hG:GOk G M0) (S:Sim B nt M0 w0 M ρ t h a w) (ty u e e':TypeId) (s x:Operand) (sz:Nat) (agg:Bool) (m len tot:Nat) (es xs:List DV) (q:Option Prop) (ho:o.op=.call ⟨.builtin .append,#[s,x],#[ty,u]⟩)
  (ht:P.underlying ty=some (.slice e)) (hu:P.underlying u=some (.slice e')) (he:elemT P e=some (sz,agg)) (hs:evalOpd G t s=.own m 0 len tot) (hl:hlook h m=some (.row sz es false))
  (hx:elems (hlook h) (evalOpd G t x)=some (q,xs)) (hq:holds q) (hn6:Nat.blt m 1000000=true) (hb:tot=es.length∧len+xs.length≤es.length∧∀ e ∈ xs,okE sz e=true) :
  OpGoal P B nt M0 w0 M ρ t h a w o (.own m 0 (len+xs.length) tot) [(m,.row sz (es.take len++xs++es.drop (len+xs.length)) false)]:=by
 obtain ⟨rfl,hroom,hxo⟩:=hb
 obtain ⟨h1,h2,h3,h4,h5⟩:=elemT_spec he
 have r1:=S.opd hG s;rw [hs] at r1
 obtain ⟨ax,cx,gx,x1,x2,x3,x4,x5,x6⟩:=elems_spec S (S.opd hG x) hx hq hxo
 obtain ⟨i1,i2⟩:=r1.inv_own hl
 obtain ⟨i3,i4⟩:=i2 rfl
 have hobj:=S.obj m _ hl
 simp only [ObjRel] at hobj
 have hxs:∀ e ∈ xs,e.cells.length=sz:=fun e he=>(okE_spec (hxo e he)).1
 have hlen':(es.take len++xs++es.drop (len+xs.length)).length=es.length:=by simp;omega
 cases hρ:ρ m with
 |none =>
  rw [hρ] at hobj i4
  subst hobj
  obtain ⟨as_,ev⟩:=i4
  simp only [List.length_nil] at hroom
  have hx0:xs=[]:=List.eq_nil_of_length_eq_zero (by omega)
  have hl0:len=0:=by omega
  subst hx0;subst hl0
  have hrun:=execOp_append (P:=P) (w:=w) (a:=a) ho (v:=.slice as_ 0 0) (w':=w) (by rw [ev,x1];exact run_append_same ht hu h1 (Nat.le_refl _) w)
  have hcon:∀ k,hlook ((m,DObj.row sz (([]:List DV).take 0++[]++([]:List DV).drop (0+([]:List DV).length)) false) :: h) k=hlook h k:=fun k=>by
   rw [hlook_cons]
   by_cases e2:m=k
   ·subst e2;rw [if_pos rfl,hl];rfl
   ·rw [if_neg e2]
  refine ⟨_,_,w,M,ρ,hrun,.inl rfl,S.congr (fun _=>rfl) hcon,?_⟩
  rw [← ev];exact r1.congr hcon
 |some bc =>
  obtain ⟨b,c⟩:=bc
  rw [hρ] at hobj i4
  obtain ⟨g2,cs,te,g3,g4,g5,g6,g7,g8,g9⟩:=hobj
  have g3:=g3.plain
  obtain ⟨as_,ev,ha⟩:=i4
  have ha':as_=some ⟨b,0,none⟩:=by
   rcases ha with ha|ha
   ·rw [ha,Nat.zero_mul]
   ·exact absurd rfl ha.2
  subst ha'
  rw [Nat.sub_zero] at ev
  have hso:∀ e ∈ es,e.cells.length=sz:=fun e he=>(okE_spec (g6 e he)).1
  have hmul:(len+xs.length) * sz≤c * sz:=Nat.mul_le_mul_right _ (by omega)
  rw [Nat.add_mul] at hmul
  have hgl:(gcells gx (xs.length * sz)).toList.length=xs.length * sz:=by simp [gcells]
  have hone:∀ v ∈ (gcells gx (xs.length * sz)).toList,v.oneCell'=true:=fun v hv=>by
   obtain ⟨i,hi,rfl⟩:=List.getElem_of_mem hv
   rw [hgl] at hi
   have h9:=x6 i hi
   rw [← gcells_getD gx hi,agetD_lt (by rw [gcells_size];exact hi)] at h9
   simpa using h9
  have hf1:(Builtin.firstCells sz xs.length (.slice ax xs.length cx)).run P w=.ok (gcells gx (xs.length * sz)) w :=
   firstCells_run' (g:=gx) rfl x3 (by rw [← x1];exact x4 w (fun _ _=>rfl))
  have hra:=run_append_in (rt:=o.type) ht hu h1 hf1 (show len+xs.length≤c by omega) g3 (by rw [gcells_size];omega) hone
  have hrun:=execOp_append (P:=P) (w:=w) (a:=a) ho (by rw [ev,x1];exact hra)
  obtain ⟨cs',f1,f2,f3,f4,f5,f6⟩:=heap_setCells b (gcells gx (xs.length * sz)).toList (len * sz) w cs g3 (by rw [hgl];omega)
  have hok:∀ e ∈ es.take len++xs++es.drop (len+xs.length),okE sz e=true:=fun e he=>by
   rcases List.mem_append.1 he with he|he
   ·rcases List.mem_append.1 he with he|he
    ·exact g6 e (List.mem_of_mem_take he)
    ·exact hxo e he
   ·exact g6 e (List.mem_of_mem_drop he)
  have hfx:=length_flat xs sz hxs
  have hflat:=splice_rel (M:=M) (cs':=cs') (g:=gx) hso hxs hroom rfl g7 (fun i hi=>x5 i (by omega)) (fun i=>by
   rw [f3,hgl]
   split
   ·rename_i hi
    rw [getD_lt (by rw [hgl];omega),Array.getElem_toList,← agetD_lt (d:=Go.undef),gcells_getD gx (by omega)]
   ·rfl)
  have hx':=ext_splice (M:=M) (ρ:=ρ) hl hlen'
  refine ⟨_,_,_,M,ρ,hrun,.inl rfl,S.setObj hl hρ f4 (f6 B w0 g2.1 S.below) (g9 trivial) g3 (fun _ e=>by cases e) hx' ?_,?_⟩
  ·simp only [ObjRel,hρ]
   exact ⟨g2,cs',te,.of f1,by rw [f2,g4],by rw [hlen'];exact g5,hok,hflat,by simp,fun _=>g9 trivial⟩
  ·refine .own m 0 _ _ sz (es.take len++xs++es.drop (len+xs.length)) false _ (by show hlook ((m,DObj.row sz _ false) :: h) m=_;rw [hlook_cons,if_pos rfl]) (by rw [hlen'];exact Nat.le_refl _) ⟨_,_,_,rfl⟩ (fun _=>⟨by omega,?_⟩)
   rw [hρ];exact ⟨_,by rw [Nat.sub_zero],.inl (by rw [Nat.zero_mul])⟩
theorem execOp_clear {x:Operand} {ts:Array TypeId} {v:Value} {w':World} (ho:o.op=.call ⟨.builtin .clear,#[x],ts⟩) (hr:(Builtin.clear_ ts o.type #[a.eval x]).run P w=.ok v w'):(execOp a.eval o).run P w=.ok (.value v) w':=by
 simp [execOp,ho,resolve,invoke,builtin,hr]
theorem op_clear (hG:GOk G M0) (S:Sim B nt M0 w0 M ρ t h a w) (ty e:TypeId) (x:Operand) (sz:Nat) (agg:Bool) (z:Value) (m off len tot:Nat) (es:List DV) (ho:o.op=.call ⟨.builtin .clear,#[x],#[ty]⟩)
  (ht:P.underlying ty=some (.slice e)) (he:elemT P e=some (sz,agg)) (hz:zeroT P e=some z) (hzs:z.cells.size=sz) (hs:evalOpd G t x=.own m off len tot) (hl:hlook h m=some (.row sz es false))
  (hb:tot=es.length∧okE sz (ofValue z)=true) :
  OpGoal P B nt M0 w0 M ρ t h a w o (.tuple []) [(m,.row sz (es.take off++List.replicate len (ofValue z)++es.drop (off+len)) false)]:=by
 obtain ⟨rfl,hzo⟩:=hb
 obtain ⟨h1,h2,h3,h4,h5⟩:=elemT_spec he
 have r1:=S.opd hG x;rw [hs] at r1
 obtain ⟨i1,i2⟩:=r1.inv_own hl
 obtain ⟨i3,i4⟩:=i2 rfl
 have hobj:=S.obj m _ hl
 simp only [ObjRel] at hobj
 have hsz:0 < sz:=by omega
 have hxo:∀ e ∈ List.replicate len (ofValue z),okE sz e=true:=fun e he=>by rw [List.mem_replicate] at he;rw [he.2];exact hzo
 have hxs:∀ e ∈ List.replicate len (ofValue z),e.cells.length=sz:=fun e he=>(okE_spec (hxo e he)).1
 have hlen':(es.take off++List.replicate len (ofValue z)++es.drop (off+len)).length=es.length:=by simp;omega
 have same:len=0→OpGoal P B nt M0 w0 M ρ t h a w o (.tuple []) [(m,.row sz (es.take off++List.replicate len (ofValue z)++es.drop (off+len)) false)]:=fun hl0=>by
  subst hl0
  obtain ⟨as_,cap,ev⟩:∃ as_ cap,a.eval x=.slice as_ 0 cap:=by
   cases hρ:ρ m with
   |none=>rw [hρ] at i4;obtain ⟨as_,ev⟩:=i4;exact ⟨_,_,ev⟩
   |some bc=>obtain ⟨b,c⟩:=bc;rw [hρ] at i4;obtain ⟨as_,ev,_⟩:=i4;exact ⟨_,_,ev⟩
  have hrun:(execOp a.eval o).run P w=.ok (.value (.tuple #[])) w:=by
   refine execOp_clear ho ?_
   cases as_<;>simp [Builtin.clear_,run_underlying ht,ev]
  have hcon:∀ k,hlook ((m,DObj.row sz (es.take off++List.replicate 0 (ofValue z)++es.drop (off+0)) false) :: h) k=hlook h k:=fun k=>by
   rw [hlook_cons]
   by_cases e2:m=k
   ·subst e2;rw [if_pos rfl,hl];simp
   ·rw [if_neg e2]
  exact ⟨_,_,w,M,ρ,hrun,.inl rfl,S.congr (fun _=>rfl) hcon,.pure (.tuple [] #[] rfl (by simp))⟩
 by_cases hl0:len=0
 ·exact same hl0
 cases hρ:ρ m with
 |none =>
  rw [hρ] at hobj
  subst hobj
  simp only [List.length_nil] at i3
  exact absurd (by omega) hl0
 |some bc =>
  obtain ⟨b,c⟩:=bc
  rw [hρ] at hobj i4
  obtain ⟨g2,cs,te,g3,g4,g5,g6,g7,g8,g9⟩:=hobj
  have g3:=g3.plain
  obtain ⟨as_,ev,ha⟩:=i4
  have ha':as_=some ⟨b,off * sz,none⟩:=by
   rcases ha with ha|ha
   ·exact ha
   ·exact absurd ha.1 hl0
  subst ha'
  have hso:∀ e ∈ es,e.cells.length=sz:=fun e he=>(okE_spec (g6 e he)).1
  have hmul:(off+len) * sz≤c * sz:=Nat.mul_le_mul_right _ (by omega)
  rw [Nat.add_mul] at hmul
  have hzl:(Builtin.zeroCells z.cells len).toList.length=len * sz:=by simp [Builtin.zeroCells,hzs]
  obtain ⟨zc,hzc⟩:∃ zc,zc=(Builtin.zeroCells z.cells len).toList:=⟨_,rfl⟩
  have hzr:∀ i,i < len * sz→RelP M ((flat (List.replicate len (ofValue z))).getD i .undef) (zc.getD i Go.undef):=fun i hi=>by
   have hf:=flat_rel (R:=RelP M) (es:=List.replicate len (ofValue z)) (cs:=(Array.range (len * sz)).map (z.cells[· % z.cells.size]!)) hxs (fun i j hi hj=>by
    simp only [List.length_replicate] at hi
    exact zero_row (M:=M) (len:=len) hzs hzo hsz i j hi hj)
   have:=hf i (by rw [length_flat _ sz hxs];simpa using hi)
   have e9:zc.getD i Go.undef=((Array.range (len * sz)).map (z.cells[· % z.cells.size]!)).getD i Go.undef:=by
    rw [hzc,getD_lt (by rw [hzl];exact hi),agetD_lt (by simpa using hi)]
    simp [Builtin.zeroCells]
   rw [e9];exact this
  have hone:∀ v ∈ zc,v.oneCell'=true:=fun v hv=>by
   obtain ⟨i,hi,rfl⟩:=List.getElem_of_mem hv
   rw [hzc] at hi
   rw [hzl] at hi
   have h9:=hzr i hi
   obtain ⟨q,r,hq,hm,e⟩:∃ q r,q < (List.replicate len (ofValue z)).length∧r < sz∧q * sz+r=i :=
    ⟨i / sz,i % sz,by rw [List.length_replicate];exact (Nat.div_lt_iff_lt_mul (by omega)).2 hi,Nat.mod_lt _ (by omega),by rw [Nat.mul_comm];exact Nat.div_add_mod i sz⟩
   rw [← e,getElem_flat _ sz hxs q r hq hm] at h9
   obtain ⟨k1,k2⟩:=okE_spec (hxo ((List.replicate len (ofValue z)).getD q .undef) (by rw [getD_lt hq];exact List.getElem_mem _))
   have:=oneCell_of (.pure h9:RelV M ρ h _ _) (cellsB_get k2 (by omega))
   rwa [e,getD_lt (by rw [hzc,hzl];exact hi)] at this
  have hst:(storeCells ⟨b,off * sz,none⟩ zc).run P w=.ok () (w.setCells b (off * sz) zc):=by
   have:=run_storeCells_cells (P:=P) b (off * sz) zc 0 w (fun j hj=>by
    rw [cell_of_heap g3,Array.getElem?_eq_getElem (by rw [hzc,hzl] at hj;omega)];rfl) (fun j hj=>by simp [World.frozen?,g3]) hone
   rw [Nat.add_zero] at this
   exact this
  have hrun:(execOp a.eval o).run P w=.ok (.value (.tuple #[])) (w.setCells b (off * sz) zc):=by
   refine execOp_clear ho ?_
   obtain ⟨len',rfl⟩:∃ k,len=k+1:=⟨len - 1,by omega⟩
   simp [Builtin.clear_,run_underlying ht,ev,zeroValue_run hz,← hzc,hst]
  obtain ⟨cs',f1,f2,f3,f4,f5,f6⟩:=heap_setCells b zc (off * sz) w cs g3 (by rw [hzc,hzl];omega)
  have hok:∀ e ∈ es.take off++List.replicate len (ofValue z)++es.drop (off+len),okE sz e=true:=fun e he=>by
   rcases List.mem_append.1 he with he|he
   ·rcases List.mem_append.1 he with he|he
    ·exact g6 e (List.mem_of_mem_take he)
    ·exact hxo e he
   ·exact g6 e (List.mem_of_mem_drop he)
  have hflat:=splice_rel (M:=M) (cs':=cs') (g:=fun i=>zc.getD i Go.undef) hso hxs (k:=len) (by omega) (by simp) g7 (fun i hi=>hzr i hi) (fun i=>by
   rw [f3,show zc.length=len * sz by rw [hzc,hzl]])
  have hx':=ext_splice (M:=M) (ρ:=ρ) hl hlen'
  refine ⟨_,_,_,M,ρ,hrun,.inl rfl,S.setObj hl hρ f4 (f6 B w0 g2.1 S.below) (g9 trivial) g3 (fun _ e=>by cases e) hx' ?_,.pure (.tuple [] #[] rfl (by simp))⟩
  simp only [ObjRel,hρ]
  exact ⟨g2,cs',te,.of f1,by rw [f2,g4],by rw [hlen'];exact g5,hok,hflat,by simp,fun _=>g9 trivial⟩
theorem op_sliceH (hG:GOk G M0) (S:Sim B nt M0 w0 M ρ t h a w) (ty e:TypeId) (x y:Operand) (n esz:Nat) (agg:Bool) (cs:List DV) (k:IntKind) (u:Int) (ho:o.op=.slice ty x none (some y) none) (ha:P.underlying ty=some (.array n e))
  (he:elemT P e=some (esz,agg)) (hx:evalOpd G t x=.ip (.agg cs)) (hy:evalOpd G t y=.int k u) (hl:cs.length=n * esz∧cellsB cs=true∧0≤u∧u≤n):OpGoal P B nt M0 w0 M ρ t h a w o (.list (window (chunks agg esz cs n) 0 u.toNat)) []:=by
 obtain ⟨hs1,hs2,hs3,hs4,hs5⟩:=elemT_spec he
 obtain ⟨hl,hcc,h0,hn⟩:=hl
 have r1:=S.opd hG x;rw [hx] at r1
 have r2:=r1.inv_ip
 have hsb:=sliceBounds_run hG S (P:=P) false n n none (some y) 0 u rfl (by simp [bound,hy]) ⟨Int.le_refl _,h0,hn⟩ (Nat.le_refl _)
 generalize hv:a.eval x=v at *
 cases r2 with
 |ip _ b o' g hM hr =>
  have hfl:flat (chunks agg esz cs n)=cs:=by rw [flat_chunks hs4 hcc n (by omega),← hl,List.take_length]
  have hlen:=chunks_length agg esz cs n
  have sub:∀ k,k * esz≤cs.length→∀ d ∈ chunks agg esz cs k,d.cells.length=esz:=by
   intro k
   induction k with
   |zero=>intro _ d hd;simp [chunks] at hd
   |succ k ih =>
    intro hk d hd
    rw [Nat.add_mul] at hk
    rw [chunks] at hd
    rcases List.mem_append.1 hd with hd|hd
    ·exact ih (by omega) d hd
    ·have:d=part agg (k * esz) esz cs:=by simpa using hd
     subst this
     rw [part_cells hs4 hcc (by omega)]
     simp;omega
  refine OpGoal.same S (v:=.slice (some ⟨b,o',none⟩) u.toNat n) ?_ (.pure ?_)
  ·have e0:(if n=0 then (⟨b,o',none⟩:Addr) else (⟨b,o',none⟩:Addr).add 0)=⟨b,o',none⟩:=by simp [add_lit]
   simp only [Option.map_none,Option.map_some] at hsb
   simp [execOp,ho,Instr.sliceAt,run_underlying ha,hv,Instr.sureAddr,hsb,size_run hs1,add_lit]
  ·exact window_list (b:=b) (o:=o') (sub n (by omega)) (by rw [hfl];exact hM) (by rw [hfl];exact hr) 0 u.toNat n (by rw [hlen];omega) (by omega) _ (.inr (by simp))
end
end Sh

/- A variable whose nil slices are rows of the call's own from the beginning. -/
namespace Sh
open Go
section
variable {P:Program} {G:Nat→Option DV} {B:Base} {nt:Nat} {M0:Mem} {w0:World} {M:Mem} {ρ:Locs} {t:Tmps} {h:Heap} {a:Act} {w:World} {o:Oper}
theorem Sim.addNil {i sz0:Nat} (S:Sim B nt M0 w0 M ρ t h a w) (hn:hlook h i=none) :
  Sim B nt M0 w0 M (locOut ρ i) t ((i,.row sz0 [] false) :: h) a w∧Ext M ρ h M (locOut ρ i) ((i,.row sz0 [] false) :: h) ∧
  ∀ as_,RelV M (locOut ρ i) ((i,.row sz0 [] false) :: h) (.own i 0 0 0) (.slice as_ 0 0):=by
 have hl:∀ m,hlook ((i,DObj.row sz0 [] false) :: h) m=if i=m then some (.row sz0 [] false) else hlook h m:=fun m=>hlook_cons _ _ _ _
 have hx:Ext M ρ h M (locOut ρ i) ((i,.row sz0 [] false) :: h):=by
  refine ⟨M.le_refl,fun m sz es fr e=>?_,fun m o e hk=>?_,fun m sz c isz es pd e=>?_⟩
  ·have hne:i≠m:=fun e2=>by subst e2;rw [hn] at e;cases e
   exact ⟨sz,es,fr,by rw [hl,if_neg hne];exact e,Nat.le_refl _,fun _=>⟨.inl rfl,locOut_ne ρ (Ne.symm hne)⟩⟩
  ·have hne:i≠m:=fun e2=>by subst e2;rw [hn] at e;cases e
   exact ⟨locOut_ne ρ (Ne.symm hne),o,by rw [hl,if_neg hne];exact e,like_refl hk⟩
  ·have hne:i≠m:=fun e2=>by subst e2;rw [hn] at e;cases e
   exact nrw_same (by rw [hl,if_neg hne];exact e) (locOut_ne ρ (Ne.symm hne)) (locOut_sub ρ (Ne.symm hne))
 refine ⟨{ S with tm:=fun j=>(S.tm j).ext hx,obj:=fun m o e=>?_,dis:=fun m m' o p b c b' c' hne e1 e2 e3 e4=>?_,dsub:=S.dsub.out rfl,ext:=S.ext.trans hx },hx,fun as_=>?_⟩
 ·rw [hl] at e
  by_cases e2:i=m
  ·subst e2
   rw [if_pos rfl] at e;cases e
   simp only [ObjRel,locOut_self]
  ·rw [if_neg e2] at e
   exact (S.obj m o e).ext hx (locOut_ne ρ (Ne.symm e2)) (locOut_sub ρ (Ne.symm e2))
 ·rw [hl] at e1 e2
  by_cases h1:m=i
  ·rw [h1,locOut_self] at e3;cases e3
  ·by_cases h2:m'=i
   ·rw [h2,locOut_self] at e4;cases e4
   ·rw [if_neg (Ne.symm h1)] at e1;rw [if_neg (Ne.symm h2)] at e2
    rw [locOut_ne ρ h1] at e3;rw [locOut_ne ρ h2] at e4
    exact S.dis m m' o p b c b' c' hne e1 e2 e3 e4
 ·refine .own i 0 0 0 sz0 [] false _ (by rw [hl,if_pos rfl]) (Nat.le_refl _) ⟨_,_,_,rfl⟩ (fun _=>⟨Nat.le_refl _,?_⟩)
  rw [locOut_self]
  exact ⟨as_,rfl⟩
theorem nilRows_sim (n:Nat):∀ (slots:List (Nat×Nat)) {ρ:Locs} {h:Heap},Sim B nt M0 w0 M ρ t h a w→(∀ c ∈ slots.map (·.1),hlook h (nrow n c)=none)→(slots.map (·.1)).Nodup →
  ∃ ρ',Sim B nt M0 w0 M ρ' t ((nilRows n slots).reverse++h) a w∧Ext M ρ h M ρ' ((nilRows n slots).reverse++h)∧∀ c ∈ slots.map (·.1),∀ as_,RelV M ρ' ((nilRows n slots).reverse++h) (.own (nrow n c) 0 0 0) (.slice as_ 0 0)
 |[],ρ,h,S,_,_=>⟨ρ,S,⟨M.le_refl,fun m sz es fr e=>⟨sz,es,fr,e,Nat.le_refl _,fun _=>⟨.inl rfl,rfl⟩⟩,fun m o e hk=>⟨rfl,o,e,like_refl hk⟩,(Ext.refl M ρ h).nrw⟩,fun c hc=>by cases hc⟩
 |(c,s) :: r,ρ,h,S,h1,h2=>by
  obtain ⟨S1,x1,r1⟩:=S.addNil (sz0:=s) (h1 c (by simp))
  rw [List.map_cons,List.nodup_cons] at h2
  obtain ⟨ρ',S2,x2,r2⟩:=nilRows_sim n r S1 (fun d hd=>by
   rw [hlook_cons,if_neg (fun e=>?_)]
   ·exact h1 d (by simp only [List.map_cons,List.mem_cons];exact .inr hd)
   ·have:c=d:=by unfold nrow at e;omega
    subst this;exact h2.1 hd) h2.2
  have e0:(nilRows n ((c,s) :: r)).reverse++h=(nilRows n r).reverse++((nrow n c,.row s [] false) :: h):=by simp [nilRows]
  rw [e0]
  refine ⟨ρ',S2,x1.trans x2,fun d hd as_=>?_⟩
  rw [List.map_cons,List.mem_cons] at hd
  rcases hd with rfl|hd
  ·exact (r1 as_).ext x2
  ·exact r2 d hd as_
theorem putCells_len (n:Nat):∀ (slots:List (Nat×Nat)) (cs:List DV),(putCells n slots cs).length=cs.length
 |[],cs=>rfl
 |(c,s) :: r,cs=>by unfold putCells;rw [putCells_len n r,List.length_set]
theorem putCells_getD (n:Nat):∀ (slots:List (Nat×Nat)) (cs:List DV) (i:Nat),i < cs.length→(putCells n slots cs).length=cs.length ∧
  ((i ∈ slots.map (·.1)∧(putCells n slots cs).getD i .undef=.own (nrow n i) 0 0 0)∨(putCells n slots cs).getD i .undef=cs.getD i .undef)
 |[],cs,i,hi=>⟨rfl,.inr rfl⟩
 |(c,s) :: r,cs,i,hi=>by
  obtain ⟨h1,h2⟩:=putCells_getD n r (cs.set c (.own (nrow n c) 0 0 0)) i (by simpa using hi)
  refine ⟨by unfold putCells;rw [h1,List.length_set],?_⟩
  unfold putCells
  rcases h2 with ⟨h3,h4⟩|h3
  ·exact .inl ⟨by simp only [List.map_cons,List.mem_cons];exact .inr h3,h4⟩
  ·rw [h3]
   by_cases e:c=i
   ·subst e
    left
    refine ⟨by simp,?_⟩
    rw [List.getD_eq_getElem?_getD,List.getElem?_set_self hi];rfl
   ·right
    rw [List.getD_eq_getElem?_getD,List.getElem?_set_ne e,← List.getD_eq_getElem?_getD]
theorem putNil_id {n:Nat} {slots:List (Nat×Nat)} {d:DV} (ha:∀ cs,d≠.agg cs) (hs:¬ ∃ s,slots=[(0,s)]):putNil n slots d=d:=by
 have key:∀ (sl:List (Nat×Nat)),(¬ ∃ s,sl=[(0,s)])→(match sl with|[(0,_)]=>DV.own (nrow n 0) 0 0 0|_=>d)=d:=fun sl h=>by
  split
  ·exact absurd ⟨_,rfl⟩ h
  ·rfl
 cases d with
 |agg cs=>exact absurd rfl (ha cs)
 |_=>exact key slots hs
theorem slotsOk_spec {lk:Nat→Option DObj} {n:Nat} {cs:List DV}:∀ {slots:List (Nat×Nat)} {k:Nat},slotsOk lk n cs slots k=true→(∀ c ∈ slots.map (·.1),k≤c∧lk (nrow n c)=none∧cs.getD c .undef=.full [])∧(slots.map (·.1)).Nodup
 |[],k,_=>⟨fun c hc=>(by cases hc),by simp⟩
 |(c,s) :: r,k,h=>by
  unfold slotsOk at h
  simp only [Bool.and_eq_true] at h
  obtain ⟨⟨⟨h1,h2⟩,h3⟩,h4⟩:=h
  obtain ⟨h5,h6⟩:=slotsOk_spec h4
  have hc:lk (nrow n c)=none:=by
   cases e:lk (nrow n c) with
   |none=>rfl
   |some x=>rw [e] at h2;cases h2
  have hf:cs.getD c .undef=.full []:=by
   generalize cs.getD c .undef=d at h3 ⊢
   unfold isNilS at h3
   split at h3
   ·rfl
   ·cases h3
  refine ⟨fun d hd=>?_,?_⟩
  ·rw [List.map_cons,List.mem_cons] at hd
   rcases hd with rfl|hd
   ·exact ⟨Nat.le_of_ble_eq_true h1,hc,hf⟩
   ·have:=h5 d hd
    exact ⟨by have:=Nat.le_of_ble_eq_true h1;omega,this.2⟩
  ·rw [List.map_cons,List.nodup_cons]
   exact ⟨fun hd=>by have:=(h5 c hd).1;omega,h6⟩
theorem op_allocO (e:TypeId) (n sz:Nat) (slots:List (Nat×Nat)) (z:Value) (ho:o.op=.alloc e) (hz:zeroT P e=some z) (hn:hlook h n=none) (hok:okE sz (putNil n slots (ofZero z))=true) (hn6:Nat.blt n 40000=true)
  (hsl:slotsOk (hlook h) n (ofZero z).cells slots 0=true) (S:Sim B nt M0 w0 M ρ t h a w) :
  OpGoal P B nt M0 w0 M ρ t h a w o (.bptr n 0) (nilRows n slots++[(n,.box sz (putNil n slots (ofZero z)))]):=by
 have hn6:n < 40000:=Nat.le_of_ble_eq_true hn6
 obtain ⟨h1,h2⟩:=slotsOk_spec hsl
 obtain ⟨ρ1,S1,x1,r1⟩:=nilRows_sim n slots S (fun c hc=>(h1 c hc).2.1) h2
 have hn1:hlook ((nilRows n slots).reverse++h) n=none:=by
  rw [show ∀ (u:Heap),(∀ x ∈ u,x.1≠n)→hlook (u++h) n=hlook h n from fun u hu=>by
   induction u with
   |nil=>rfl
   |cons x r ih =>
    obtain ⟨k,v⟩:=x
    rw [List.cons_append,hlook_cons,if_neg (hu (k,v) (by simp)),ih (fun y hy=>hu y (by simp [hy]))]]
  ·exact hn
  ·intro x hx
   rw [List.mem_reverse] at hx
   obtain ⟨c,_,rfl⟩:=List.mem_map.1 hx
   show nrow n c.1≠n
   unfold nrow;omega
 -- the value in the new heap
 have hrel:RelV M ρ1 ((nilRows n slots).reverse++h) (putNil n slots (ofZero z)) z:=by
  have h0:RelP M (ofZero z) z:=relP_ofZero M z
  generalize ofZero z=d at *
  have nilv:∀ v,RelP M (.full []) v→∃ as_,v=.slice as_ 0 0:=fun v hv=>by
   cases hv with|full _ as_ sz b o g ha hsz hM hr'=>exact ⟨as_,rfl⟩
  cases d with
  |agg cs =>
   cases h0 with
   |agg _ vs hl hr =>
    refine .agg _ vs (by rw [putCells_len];exact hl) (fun i hi=>?_)
    ·have hi':i < cs.length:=by rwa [putCells_len] at hi
     rcases (putCells_getD n slots cs i hi').2 with ⟨h3,h4⟩|h3
     ·rw [h4]
      have h5:=hr i hi'
      have h6:cs.getD i .undef=.full []:=(h1 i h3).2.2
      rw [h6] at h5
      obtain ⟨as_,e5⟩:=nilv _ h5
      rw [e5];exact r1 i h3 as_
     ·rw [h3];exact .pure (hr i hi')
  |full l =>
   by_cases hs:∃ s,slots=[(0,s)]
   ·obtain ⟨s,rfl⟩:=hs
    have h6:(DV.full l).cells.getD 0 .undef=.full []:=(h1 0 (by simp)).2.2
    have h7:DV.full l=.full []:=h6
    rw [h7] at h0
    obtain ⟨as_,e5⟩:=nilv _ h0
    rw [e5];exact r1 0 (by simp) as_
   ·rw [putNil_id (fun cs e=>by cases e) hs];exact .pure h0
  |_ =>
   by_cases hs:∃ s,slots=[(0,s)]
   ·obtain ⟨s,rfl⟩:=hs
    have h6:=(h1 0 (by simp)).2.2
    simp [DV.cells] at h6
   ·rw [putNil_id (fun cs e=>by cases e) hs];exact .pure h0
 obtain ⟨g1,g2⟩:=S1.newBox hn1 hrel hok e (tyN_lt (Nat.ble_eq_true_of_le (by omega:n+1≤1000000)))
 have e0:(nilRows n slots++[(n,DObj.box sz (putNil n slots (ofZero z)))]).reverse++h=(n,.box sz (putNil n slots (ofZero z))) :: ((nilRows n slots).reverse++h):=by simp
 refine ⟨.value (.pointer (some ⟨w.heap.size,0,none⟩)),_,_,M,_,?_,.inl rfl,by rw [e0];exact g1,by rw [e0];exact g2⟩
 unfold zeroT at hz
 cases hi:P.info? e with
 |none=>rw [hi] at hz;cases hz
 |some i =>
  rw [hi] at hz
  simp only [Option.bind_some] at hz
  simp only [execOp,ho,Instr.alloc,zeroValue,typeInfo,Sem.run_bind,run_program,Result.andThen_ok,hi,Sem.run_pure,hz,newVar_run]
end
end Sh

/- What single operations come to: maps,and ranges over strings. -/
namespace Sh
open Go
inductive EntRel (M:Mem):List (DV×DV)→List MapEntry→Prop
 |nil:EntRel M [] []
 |cons {k v:DV} {e:MapEntry} {es:List (DV×DV)} {E:List MapEntry} (hk:RelP M k e.key) (hv:RelP M v e.val) (h:EntRel M es E):EntRel M ((k,v) :: es) (e :: E)
theorem entRel_of {M:Mem}:∀ (es:List (DV×DV)) (E:List MapEntry),E.length=es.length→(∀ i e,E[i]?=some e→RelP M (es.getD i (.undef,.undef)).1 e.key∧RelP M (es.getD i (.undef,.undef)).2 e.val)→EntRel M es E
 |[],[],_,_=>.nil
 |[],_ :: _,h,_=>by simp at h
 |_ :: _,[],h,_=>by simp at h
 |(k,v) :: es,e :: E,h,hr=>.cons (hr 0 e rfl).1 (hr 0 e rfl).2 (entRel_of es E (by simpa using h) (fun i x hx=>by simpa using hr (i+1) x (by simpa using hx)))
def plainKey (kk:Nat):TypeDesc→Prop
 |.bool=>kk=0
 |.int _=>kk=1
 |.string=>kk=2
 |_=>False
theorem bytes_beq {s t:List UInt8}:((⟨s.toArray⟩:ByteArray) == ⟨t.toArray⟩)=decide (s=t):=by
 show (s.toArray == t.toArray)=_
 rw [Bool.eq_iff_iff];simp
theorem sameNow_of {M:Mem} {kk:Nat} {ks:List Nat} {desc:TypeDesc} (hd:plainKey kk desc) {a b:DV} {u v:Value} (ha:RelP M a u) (hb:RelP M b v) {r:Bool} (he:keyEq kk ks a b=some r):Instr.sameNow desc u v=some r:=by
 cases desc with
 |bool =>
  simp only [plainKey] at hd;subst hd
  simp only [keyEq] at he
  split at he
  ·cases ha;cases hb;simp only [Option.some.injEq] at he;subst he;rfl
  ·cases he
 |int q =>
  simp only [plainKey] at hd;subst hd
  simp only [keyEq] at he
  split at he
  ·rename_i j m k n
   cases ha;cases hb
   cases hk:kindEq j k with
   |false=>rw [hk] at he;cases he
   |true =>
    rw [hk] at he;simp only [cond_true,Option.some.injEq] at he;subst he
    have:=kindEq_eq hk;subst this
    simp [Instr.sameNow,Bool.beq_eq_decide_eq]
  ·cases he
 |string =>
  simp only [plainKey] at hd;subst hd
  simp only [keyEq] at he
  split at he
  ·cases ha;cases hb;simp only [Option.some.injEq] at he;subst he
   simp only [Instr.sameNow,bytes_beq]
  ·cases he
 |_=>exact hd.elim
theorem findNow_of {M:Mem} {kk:Nat} {ks:List Nat} {desc:TypeDesc} (hd:plainKey kk desc) {k:DV} {u:Value} (hk:RelP M k u) {es:List (DV×DV)} {E:List MapEntry} (hr:EntRel M es E):∀ (i:Nat) (r:Option (Nat×DV)),dfind (keyEq kk ks) k es i=some r →
  (r=none→Instr.findNow desc u E i=some none)∧∀ j v,r=some (j,v)→i≤j∧∃ e,E[j - i]?=some e∧Instr.findNow desc u E i=some (some (j,e.val))∧RelP M v e.val∧∃ k',keyEq kk ks k k'=some true∧RelP M k' e.key:=by
 induction hr with
 |nil=>intro i r h;simp only [dfind,Option.some.injEq] at h;subst h;exact ⟨fun _=>rfl,fun j v e=>by cases e⟩
 |@cons k' v' e es E hk' hv' _ ih =>
  intro i r h
  simp only [dfind] at h
  split at h
  ·rename_i he
   simp only [Option.some.injEq] at h;subst h
   refine ⟨fun e=>(by cases e),fun j v e2=>?_⟩
   cases e2
   refine ⟨Nat.le_refl _,e,by simp,?_,hv',k',he,hk'⟩
   simp only [Instr.findNow,sameNow_of hd hk hk' he]
  ·rename_i he
   obtain ⟨q1,q2⟩:=ih (i+1) r h
   refine ⟨fun e2=>?_,fun j v e2=>?_⟩
   ·simp only [Instr.findNow,sameNow_of hd hk hk' he];exact q1 e2
   ·obtain ⟨g0,x,g1,g2,g3,g4⟩:=q2 j v e2
    refine ⟨by omega,x,?_,?_,g3,g4⟩
    ·rw [show j - i=(j - (i+1))+1 by omega];simpa using g1
    ·simp only [Instr.findNow,sameNow_of hd hk hk' he];exact g2
  ·cases h
theorem sameBits_of {M:Mem} {kk:Nat} {ks:List Nat} {desc:TypeDesc} (hd:plainKey kk desc) {a b:DV} {u v:Value} (ha:RelP M a u) (hb:RelP M b v) (he:keyEq kk ks a b=some true):Instr.sameBits 10000 v u=true:=by
 cases desc with
 |bool =>
  simp only [plainKey] at hd;subst hd
  simp only [keyEq] at he
  split at he
  ·cases ha;cases hb;simp at he;subst he;simp [Instr.sameBits]
  ·cases he
 |int q =>
  simp only [plainKey] at hd;subst hd
  simp only [keyEq] at he
  split at he
  ·rename_i j m k n
   cases ha;cases hb
   cases hk:kindEq j k with
   |false=>rw [hk] at he;cases he
   |true =>
    rw [hk] at he;simp at he;subst he
    have:=kindEq_eq hk;subst this
    simp [Instr.sameBits]
  ·cases he
 |string =>
  simp only [plainKey] at hd;subst hd
  simp only [keyEq] at he
  split at he
  ·cases ha;cases hb;simp at he;subst he;simp [Instr.sameBits,bytes_beq]
  ·cases he
 |_=>exact hd.elim
section
variable {P:Program} {w:World}
theorem checkKey_plain {kk:Nat} {desc:TypeDesc} (hd:plainKey kk desc) {k:TypeId} (hk:P.underlying k=some desc) (b:Bool) (n:Nat) (v:Value):(Instr.checkKey b (n+1) k v).run P w=.ok () w:=by
 cases desc<;>first|exact hd.elim|(cases v<;>simp [Instr.checkKey,run_underlying hk])
theorem findKey_plain {desc:TypeDesc} {k:TypeId} (hk:P.underlying k=some desc) {u:Value} {E:List MapEntry} {r:Option (Nat×Value)} (h:Instr.findNow desc u E 0=some r):(Instr.findKey k u E).run P w=.ok r w:=by
 simp [Instr.findKey,run_underlying hk,h]
structure KeyRun (P:Program) (k:TypeId) (kk:Nat) (ks:List Nat):Prop where
 pure:∀ d,keyB kk ks d=true→pureB d=true
 check:∀ (M:Mem) (d:DV) (v:Value) (b:Bool) (w:World),RelP M d v→keyB kk ks d=true→(Instr.checkKey b 10000 k v).run P w=.ok () w
 find:∀ (M:Mem) (kd:DV) (kv:Value) (es:List (DV×DV)) (E:List MapEntry) (w:World),RelP M kd kv→keyB kk ks kd=true→EntRel M es E→∀ r,dfind (keyEq kk ks) kd es 0=some r →
  (r=none→(Instr.findKey k kv E).run P w=.ok none w) ∧
  ∀ j v,r=some (j,v)→∃ e,E[j]?=some e∧(Instr.findKey k kv E).run P w=.ok (some (j,e.val)) w∧RelP M v e.val∧Instr.sameBits 10000 e.key kv=true
theorem keyRun_plain {k:TypeId} {kk:Nat} {ks:List Nat} {desc:TypeDesc} (hu:P.underlying k=some desc) (hd:plainKey kk desc):KeyRun P k kk ks:=by
 have hk3:Nat.beq kk 3=false:=by
  cases desc<;>first|exact hd.elim|(simp only [plainKey] at hd;subst hd;rfl)
 refine ⟨fun d h=>?_,fun M d v b w hr h=>checkKey_plain hd hu b 9999 v,fun M kd kv es E w hr h hE r hf=>?_⟩
 ·unfold keyB at h
  rw [hk3] at h;exact h
 ·obtain ⟨q1,q2⟩:=findNow_of hd hr hE 0 r hf
  refine ⟨fun e=>findKey_plain hu (q1 e),fun j v e=>?_⟩
  obtain ⟨_,x,g1,g2,g3,k',g4,g5⟩:=q2 j v e
  rw [Nat.sub_zero] at g1
  exact ⟨x,g1,findKey_plain hu g2,g3,sameBits_of hd hr g5 g4⟩
theorem eqCells_pure:∀ {ks:List Nat} {xs ys:List DV} {r:Bool},eqCells ks xs ys=some r→pureBs xs=true
 |[],xs,ys,r,h=>by
  obtain ⟨rfl,_,_⟩:=eqCells_nil h
  rfl
 |k :: ks,xs,ys,r,h=>by
  have hsub:∀ {p q:List DV} {e:Bool},eqCells ks p q=some e→pureBs p=true:=fun hq=>eqCells_pure hq
  unfold eqCells at h
  split at h
  ·rename_i heq;cases heq
  ·rename_i heq
   simp only [List.cons.injEq] at heq
   obtain ⟨rfl,rfl⟩:=heq
   split at h
   ·rename_i e he
    simp only [pureBs,pureB,hsub he,Bool.and_self]
   ·cases h
  ·rename_i heq
   simp only [List.cons.injEq] at heq
   obtain ⟨rfl,rfl⟩:=heq
   split at h
   ·rename_i e he
    simp only [pureBs,pureB,hsub he,Bool.and_self]
   ·cases h
  ·rename_i heq
   simp only [List.cons.injEq] at heq
   obtain ⟨rfl,rfl⟩:=heq
   split at h
   ·rename_i e he
    simp only [pureBs,pureB,hsub he,Bool.and_self]
   ·cases h
  ·cases h
theorem eqCells_self {ks:List Nat} {xs:List DV} (h:(eqCells ks xs xs).isSome=true):xs.length=ks.length∧pureBs xs=true:=by
 cases he:eqCells ks xs xs with
 |none=>rw [he] at h;cases h
 |some r=>exact ⟨(eqCells_length _ _ _ _ he).1,eqCells_pure he⟩
inductive SameCell:DV→DV→Prop
 |bool (b):SameCell (.bool b) (.bool b)
 |int (k n):SameCell (.int k n) (.int k n)
 |str (s):SameCell (.str s) (.str s)
theorem eqCells_true:∀ {ks:List Nat} {xs ys:List DV},eqCells ks xs ys=some true→∀ i,i < xs.length→SameCell (xs.getD i .undef) (ys.getD i .undef)
 |[],xs,ys,h,i,hi=>by
  obtain ⟨rfl,_,_⟩:=eqCells_nil h
  simp at hi
 |k :: ks,xs,ys,h,i,hi=>by
  have hsub:∀ {p q:List DV},eqCells ks p q=some true→∀ i,i < p.length→SameCell (p.getD i .undef) (q.getD i .undef):=fun hq=>eqCells_true hq
  unfold eqCells at h
  split at h
  ·rename_i heq;cases heq
  ·rename_i j a rx k' b ry heq
   simp only [List.cons.injEq] at heq
   obtain ⟨rfl,rfl⟩:=heq
   split at h
   ·rename_i e hq
    cases hk:kindEq j k' with
    |false=>rw [hk] at h;cases h
    |true =>
     rw [hk] at h
     simp only [cond_true,Option.some.injEq,Bool.and_eq_true,decide_eq_true_eq] at h
     obtain ⟨rfl,rfl⟩:=h
     have:=kindEq_eq hk;subst this
     cases i with
     |zero=>exact .int _ _
     |succ i=>exact hsub hq i (by simpa using hi)
   ·cases h
  ·rename_i a rx b ry heq
   simp only [List.cons.injEq] at heq
   obtain ⟨rfl,rfl⟩:=heq
   split at h
   ·rename_i e hq
    simp only [Option.some.injEq,Bool.and_eq_true,beq_iff_eq] at h
    obtain ⟨rfl,rfl⟩:=h
    cases i with
    |zero=>exact .bool _
    |succ i=>exact hsub hq i (by simpa using hi)
   ·cases h
  ·rename_i a rx b ry heq
   simp only [List.cons.injEq] at heq
   obtain ⟨rfl,rfl⟩:=heq
   split at h
   ·rename_i e hq
    simp only [Option.some.injEq,Bool.and_eq_true,decide_eq_true_eq] at h
    obtain ⟨rfl,rfl⟩:=h
    cases i with
    |zero=>exact .str _
    |succ i=>exact hsub hq i (by simpa using hi)
   ·cases h
  ·cases h
theorem sameBits_cell {M:Mem} {a b:DV} {u v:Value} (h:SameCell a b) (ha:RelP M a u) (hb:RelP M b v) (n:Nat):Instr.sameBits n v u=true:=by
 cases h with
 |bool=>cases ha;cases hb;simp [Instr.sameBits]
 |int=>cases ha;cases hb;simp [Instr.sameBits]
 |str=>cases ha;cases hb;simp [Instr.sameBits,bytes_beq]
theorem check_fields {g:TypeId→Option (List Nat)} (vs:Array Value) (b:Bool) (n:Nat):∀ (fs:List Field) (off:Nat) (ks:List Nat),shapeFs P g fs off=some ks→fs.all (fun f=>plainT P f.type)=true→off+ks.length≤vs.size→∀ w:World,
  (forIn (m:=Sem) fs PUnit.unit fun (f:Field) (_:PUnit) =>
    if f.name ≠ "_" then do
     let v ← Go.part f.type vs f.offset
     Instr.checkKey b (n+1) f.type v
     pure (ForInStep.yield PUnit.unit)
    else pure (ForInStep.yield PUnit.unit)).run P w=.ok PUnit.unit w
 |[],_,_,_,_,_,w=>by simp
 |f :: fs,off,ks,hs,hp,hl,w=>by
  simp only [shapeFs] at hs
  rw [List.all_cons,Bool.and_eq_true] at hp
  split at hs
  ·rename_i s sz agg q e1 e2 e3 e4
   cases hcnd:((f.name != "_") && Nat.beq f.offset off && Nat.beq s.length sz && (agg || Nat.beq sz 1)) with
   |false=>rw [hcnd] at hs;cases hs
   |true =>
    rw [hcnd] at hs
    simp only [cond_true,Option.some.injEq] at hs;subst hs
    simp only [Bool.and_eq_true,Bool.or_eq_true] at hcnd
    obtain ⟨⟨⟨c1,c2⟩,c3⟩,c4⟩:=hcnd
    have c2:=Nat.eq_of_beq_eq_true c2
    have c3:=Nat.eq_of_beq_eq_true c3
    have hname:f.name ≠ "_":=by simpa using c1
    rw [List.length_append] at hl
    have h1:agg=false→sz=1:=fun e=>by
     rcases c4 with c4|c4
     ·rw [e] at c4;cases c4
     ·exact Nat.eq_of_beq_eq_true c4
    have p1:=part_run (P:=P) e3 e2 (off:=f.offset) (vs:=vs) h1 (by omega) w
    obtain ⟨desc,hu,kk,hd⟩:∃ desc,P.underlying f.type=some desc∧∃ kk,plainKey kk desc:=by
     have h2:=hp.1
     unfold plainT at h2
     split at h2
     ·rename_i hu;exact ⟨_,hu,0,rfl⟩
     ·rename_i hu;exact ⟨_,hu,1,rfl⟩
     ·rename_i hu;exact ⟨_,hu,2,rfl⟩
     ·cases h2
    have p2:=fun v=>checkKey_plain (P:=P) (w:=w) hd hu b n v
    rw [e2,Option.getD_some,← c3] at e4
    have ih:=check_fields vs b n fs (off+s.length) q e4 hp.2 (by omega) w
    simp only [List.forIn_cons,Sem.run_bind,hname,ne_eq,not_false_eq_true,if_true,Result.andThen_ok,p1,p2,Sem.run_pure]
    exact ih
  ·cases hs
theorem findAsking_of {k:TypeId} {ks:List Nat} (hs:shapeT P 20 k=some ks) (ha:isAggT P k=some true) {M:Mem} {xs:List DV} {kv:Value} (hk:RelP M (.agg xs) kv) {es:List (DV×DV)} {E:List MapEntry} (hr:EntRel M es E) (w:World) :
  ∀ (i:Nat) (r:Option (Nat×DV)),dfind (keyEq 3 ks) (.agg xs) es i=some r →
  (r=none→(Instr.findAsking k kv E i).run P w=.ok none w) ∧
  ∀ j v,r=some (j,v)→i≤j∧∃ e,E[j - i]?=some e∧(Instr.findAsking k kv E i).run P w=.ok (some (j,e.val)) w∧RelP M v e.val∧∃ ys,eqCells ks xs ys=some true∧RelP M (.agg ys) e.key:=by
 induction hr with
 |nil=>intro i r h;simp only [dfind,Option.some.injEq] at h;subst h;exact ⟨fun _=>by simp [Instr.findAsking],fun j v e=>by cases e⟩
 |@cons k' v' e es E hk' hv' _ ih =>
  intro i r h
  simp only [dfind] at h
  have heq:∀ c,keyEq 3 ks (.agg xs) k'=some c→(∃ ys,k'=.agg ys∧eqCells ks xs ys=some c)∧(Op.equal k kv e.key).run P w=.ok c w:=fun c hc=>by
   simp only [keyEq] at hc
   split at hc
   ·rename_i a xs' ys hx
    simp only [DV.agg.injEq] at hx;subst hx
    refine ⟨⟨_,rfl,hc⟩,?_⟩
    cases hk with
    |agg _ us hl1 hr1 =>
     generalize hke:e.key=ek at hk'
     cases hk' with
     |agg _ vs hl2 hr2 =>
      obtain ⟨n1,n2⟩:=eqCells_length _ _ _ _ hc
      have hrun:=eq_run (P:=P) (M:=M) (ρ:=Locs.none) (h:=[]) 20 k ks true 9980 hs ha (fun e=>by cases e) us vs 0 0 xs ys c w ⟨by omega,fun i hi=>by rw [Nat.zero_add];exact .pure (hr1 i hi)⟩ ⟨by omega,fun i hi=>by rw [Nat.zero_add];exact .pure (hr2 i hi)⟩ hc
      have e1:us.extract 0 (0+ks.length)=us:=by rw [Nat.zero_add,n1.symm.trans hl1];simp
      have e2:vs.extract 0 (0+ks.length)=vs:=by rw [Nat.zero_add,n2.symm.trans hl2];simp
      simp only [valOf,cond_true,e1,e2] at hrun
      exact hrun
   ·cases hc
  split at h
  ·rename_i he
   simp only [Option.some.injEq] at h;subst h
   obtain ⟨⟨ys,rfl,h1⟩,h2⟩:=heq true he
   refine ⟨fun e=>(by cases e),fun j v e2=>?_⟩
   cases e2
   refine ⟨Nat.le_refl _,e,by simp,?_,hv',ys,h1,hk'⟩
   simp only [Instr.findAsking,Sem.run_bind,h2,Result.andThen_ok,if_true,Sem.run_pure]
  ·rename_i he
   obtain ⟨_,h2⟩:=heq false he
   obtain ⟨q1,q2⟩:=ih (i+1) r h
   refine ⟨fun e2=>?_,fun j v e2=>?_⟩
   ·simp only [Instr.findAsking,Sem.run_bind,h2,Result.andThen_ok,Bool.false_eq_true,if_false];exact q1 e2
   ·obtain ⟨g0,x,g1,g2,g3,g4⟩:=q2 j v e2
    refine ⟨by omega,x,?_,?_,g3,g4⟩
    ·rw [show j - i=(j - (i+1))+1 by omega];simpa using g1
    ·simp only [Instr.findAsking,Sem.run_bind,h2,Result.andThen_ok,Bool.false_eq_true,if_false];exact g2
  ·cases h
theorem check_struct {k:TypeId} {ks:List Nat} {fs:Array Field} (hu:P.underlying k=some (.struct fs)) {g:TypeId→Option (List Nat)} (hs:shapeFs P g fs.toList 0=some ks) (hp:fs.toList.all (fun f=>plainT P f.type)=true) (vs:Array Value) (hl:ks.length≤vs.size) (b:Bool) (n:Nat) (w:World) :
  (Instr.checkKey b (n+2) k (.agg vs)).run P w=.ok () w:=by
 rw [show n+2=(n+1)+1 from rfl,Instr.checkKey]
 simp only [Sem.run_bind,run_underlying hu,Result.andThen_ok]
 rw [← Array.forIn_toList]
 have:=check_fields (P:=P) vs b n fs.toList 0 ks hs hp (by omega) w
 rw [this]
 simp only [Result.andThen_ok,Sem.run_pure]
theorem sameBits_agg {M:Mem} {ks:List Nat} {xs ys:List DV} (h:eqCells ks xs ys=some true) {u v:Value} (ha:RelP M (.agg xs) u) (hb:RelP M (.agg ys) v) (n:Nat):Instr.sameBits (n+1) v u=true:=by
 cases ha with
 |agg _ us hl1 hr1 =>
  cases hb with
  |agg _ vs hl2 hr2 =>
   obtain ⟨n1,n2⟩:=eqCells_length _ _ _ _ h
   have hsz:vs.size=us.size:=by omega
   rw [Instr.sameBits]
   simp only [hsz,beq_self_eq_true,Bool.true_and,List.all_eq_true]
   intro p hp
   obtain ⟨i,hi,e⟩:=List.getElem_of_mem hp
   have hi2:i < vs.size∧i < us.size:=by
    have:i < min vs.size us.size:=by simpa using hi
    omega
   subst e
   simp only [List.getElem_zip,Array.getElem_toList]
   have h1:=hr1 i (by omega)
   have h2:=hr2 i (by omega)
   have h3:=eqCells_true h i (by omega)
   have e1:us.getD i Go.undef=us[i]:=by simp [Array.getD,hi2.2]
   have e2:vs.getD i Go.undef=vs[i]:=by simp [Array.getD,hi2.1]
   rw [e1] at h1
   rw [e2] at h2
   exact sameBits_cell h3 h1 h2 n
theorem shapeT_struct {k:TypeId} {ks:List Nat} {fs:Array Field} (hu:P.underlying k=some (.struct fs)) {n:Nat} (hs:shapeT P (n+1) k=some ks):shapeFs P (shapeT P n) fs.toList 0=some ks:=by
 rw [shapeT] at hs
 simp only [hu] at hs
 cases hst:P.stoodInHeld k with
 |true=>rw [hst] at hs;cases hs
 |false=>rw [hst] at hs;exact hs
theorem keyRun_struct {k:TypeId} {ks:List Nat} {fs:Array Field} (hu:P.underlying k=some (.struct fs)) (hs:shapeT P 20 k=some ks) (ha:isAggT P k=some true) (hp:fs.toList.all (fun f=>plainT P f.type)=true):KeyRun P k 3 ks:=by
 have hform:∀ d,keyB 3 ks d=true→∃ xs,d=.agg xs∧(eqCells ks xs xs).isSome=true:=fun d h=>by
  cases d<;>first|exact ⟨_,rfl,h⟩|exact absurd (show false=true from h) (by decide)
 have hs2:shapeFs P (shapeT P 19) fs.toList 0=some ks:=shapeT_struct hu (n:=19) hs
 refine ⟨fun d h=>?_,fun M d v b w hr h=>?_,fun M kd kv es E w hr h hE r hf=>?_⟩
 ·obtain ⟨xs,rfl,hx⟩:=hform d h
  exact (eqCells_self hx).2
 ·obtain ⟨xs,rfl,hx⟩:=hform d h
  have hl:=(eqCells_self hx).1
  cases hr with
  |agg _ vs hl1 hr1=>exact check_struct hu hs2 hp vs (by omega) b 9998 w
 ·obtain ⟨xs,rfl,hx⟩:=hform kd h
  have hfk:=run_findKey_eq (P:=P) w (k:=k) (by rw [hu]) kv E
  obtain ⟨q1,q2⟩:=findAsking_of hs ha hr hE w 0 r hf
  refine ⟨fun e=>hfk.trans (q1 e),fun j v e=>?_⟩
  obtain ⟨_,x,g1,g2,g3,ys,g4,g5⟩:=q2 j v e
  rw [Nat.sub_zero] at g1
  exact ⟨x,g1,hfk.trans g2,g3,sameBits_agg g4 hr g5 9999⟩
theorem keyT_run {k:TypeId} {kk:Nat} {ks:List Nat} (h:keyT P k=some (kk,ks)):KeyRun P k kk ks:=by
 unfold keyT at h
 split at h
 ·rename_i hu;cases h;exact keyRun_plain hu rfl
 ·rename_i hu;cases h;exact keyRun_plain hu rfl
 ·rename_i hu;cases h;exact keyRun_plain hu rfl
 ·rename_i fs hu
  split at h
  ·rename_i ks' hs ha
   cases c1:fs.toList.all (fun f=>plainT P f.type) with
   |false=>rw [c1] at h;cases h
   |true =>
    rw [c1] at h
    cases h
    exact keyRun_struct hu hs ha c1
  ·cases h
 ·cases h
theorem mapT_spec {t k e:TypeId} {kk:Nat} {ks:List Nat} (h:mapT P t=some (k,e,kk,ks)):P.underlying t=some (.map k e)∧keyT P k=some (kk,ks):=by
 unfold mapT at h
 split at h
 ·rename_i hu
  split at h
  ·rename_i hk
   simp only [Option.some.injEq,Prod.mk.injEq] at h;obtain ⟨rfl,rfl,rfl,rfl⟩:=h
   exact ⟨hu,hk⟩
  ·cases h
 ·cases h
end
section
variable {P:Program} {G:Nat→Option DV} {B:Base} {nt:Nat} {M0:Mem} {w0:World} {M:Mem} {ρ:Locs} {t:Tmps} {h:Heap} {a:Act} {w:World} {o:Oper}
theorem inv_dict {n:Nat} {v:Value} (r:RelV M ρ h (.dict n) v) {es:List (DV×DV)} (hl:hlook h n=some (.dict es)):∃ b c,ρ n=some (b,c)∧v=.map (some b):=by
 cases r with
 |pure hp=>cases hp
 |dictv _ b c es' hl' hρ=>exact ⟨b,c,hρ,rfl⟩
 |sitv _ b c pos s hl' hρ=>rw [hl] at hl';cases hl'
 |yldv _ _ _ _ hl'=>rw [hl] at hl';cases hl'
theorem inv_siter {n:Nat} {v:Value} (r:RelV M ρ h (.dict n) v) {s:List UInt8} {pos:Nat} (hl:hlook h n=some (.siter s pos)):∃ b c,ρ n=some (b,c)∧v=.pointer (some ⟨b,0,none⟩):=by
 cases r with
 |pure hp=>cases hp
 |dictv _ b c es' hl' hρ=>rw [hl] at hl';cases hl'
 |sitv _ b c pos s hl' hρ=>exact ⟨b,c,hρ,rfl⟩
 |yldv _ _ _ _ hl'=>rw [hl] at hl';cases hl'
theorem ext_setOth (M:Mem) (ρ:Locs) {h:Heap} {n:Nat} {o o':DObj} (hn:hlook h n=some o) (hr:o.isRow=false) (hl:o.like o'):Ext M ρ h M ρ ((n,o') :: h):=by
 refine ⟨M.le_refl,fun m sz' es fr e=>⟨sz',es,fr,?_,Nat.le_refl _,fun _=>⟨.inl rfl,rfl⟩⟩,fun m p e hk=>⟨rfl,?_⟩,fun m sz c isz es pd e=>nrw_same (by rw [hlook_cons,if_neg (fun e2=>by subst e2;rw [hn] at e;cases e;cases hr)];exact e) rfl rfl⟩
 ·rw [hlook_cons]
  by_cases e2:n=m
  ·subst e2;rw [hn] at e;cases e;cases hr
  ·rw [if_neg e2];exact e
 ·rw [hlook_cons]
  by_cases e2:n=m
  ·subst e2;rw [hn] at e;cases e;exact ⟨_,by rw [if_pos rfl],hl⟩
  ·exact ⟨p,by rw [if_neg e2];exact e,like_refl hk⟩
theorem Sim.turn (S:Sim B nt M0 w0 M ρ t h a w) {n b c:Nat} {ob ob':DObj} {x x':Obj} (hn:hlook h n=some ob) (hr:ob.isRow=false) (hl:ob.like ob') (hρ:ρ n=some (b,c)) (hB:B.wr b) (hb:w.heap[b]?=some x) (hnd:∀ ds,x≠.deferred ds)
  (hfree:∀ o,M b o=none) (ho':ObjRel B M ρ ((n,ob') :: h) { w with heap:=w.heap.setIfInBounds b x' } n ob'):Sim B nt M0 w0 M ρ t ((n,ob') :: h) a { w with heap:=w.heap.setIfInBounds b x' }:=by
 have hk:∀ k,k≠b→(w.heap.setIfInBounds b x')[k]?=w.heap[k]?:=fun k hk=>Array.getElem?_setIfInBounds_ne (Ne.symm hk)
 refine S.setObj hn hρ hk ?_ hfree hb hnd (ext_setOth M ρ hn hr hl) ho' (by have:=like_row hl;cases ob'<;>first|rfl|cases this)
 exact S.below.trans ⟨rfl,rfl,rfl,by simp,fun k hk'=>hk k (fun e=>hk' (by rw [e];exact hB))⟩
theorem dict_spec (S:Sim B nt M0 w0 M ρ t h a w) {n b c:Nat} {es:List (DV×DV)} (hl:hlook h n=some (.dict es)) (hρ:ρ n=some (b,c)) :
  B.wr b∧(∃ E,w.heap[b]?=some (.map E es.length)∧E.size=es.length∧(∀ i e,E[i]?=some e→e.born=i∧RelP M (es.getD i (.undef,.undef)).1 e.key∧RelP M (es.getD i (.undef,.undef)).2 e.val)∧EntRel M es E.toList)∧∀ o,M b o=none:=by
 obtain ⟨b',c',q1,q2,⟨E,q3,q4,q5⟩,q6⟩:=S.obj n _ hl
 rw [hρ] at q1;cases q1
 exact ⟨q2,⟨E,q3,q4,q5,entRel_of es E.toList (by simpa using q4) (fun i e he=>(q5 i e (by simpa using he)).2)⟩,q6⟩
theorem op_makemap (S:Sim B nt M0 w0 M ρ t h a w) (ty:TypeId) (n:Nat) (ho:o.op=.makeMap ty none) (hn:hlook h n=none):OpGoal P B nt M0 w0 M ρ t h a w o (.dict n) [(n,.dict [])]:=by
 have hln:locWith ρ n w.heap.size 1 n=some (w.heap.size,1):=locWith_self ..
 have hs:Sim B nt M0 w0 M (locWith ρ n w.heap.size 1) t ((n,.dict []) :: h) a (w.alloc (.map #[] 0)):=by
  refine (S.alloc _).addObj hn (fun m hm=>?_) ?_
  ·have:=S.occ_lt hm;omega
  ·exact ⟨w.heap.size,1,hln,.inl S.Bsize,⟨#[],alloc_new w _,rfl,by simp⟩,fun o=>S.free_mem (Nat.le_refl _) o⟩
 refine ⟨_,.map (some w.heap.size),_,M,_,?_,.inl rfl,hs,.dictv n w.heap.size 1 [] (by show hlook ((n,DObj.dict []) :: h) n=_;rw [hlook_cons,if_pos rfl]) hln⟩
 simp only [execOp,ho,Option.map_none]
 rfl
theorem run_mapUpdate {t k e:TypeId} (ht:P.underlying t=some (.map k e)) {kk:Nat} {ks:List Nat} (hk:keyT P k=some (kk,ks)) {kd:DV} {kv vv:Value} (hkv:RelP M kd kv) (hkb:keyB kk ks kd=true) {b:Nat} {es:List (DV×DV)} {E:Array MapEntry} {cl:Nat}
  (hb:w.heap[b]?=some (.map E cl)) (hE:EntRel M es E.toList) {r:Option (Nat×DV)} (hf:dfind (keyEq kk ks) kd es 0=some r) :
  (r=none→(Instr.mapUpdate t (.map (some b)) kv vv).run P w=.ok () { w with heap:=w.heap.setIfInBounds b (.map (E.push { key:=kv,val:=vv,born:=cl }) (cl+1)) }) ∧
  (∀ i v,r=some (i,v)→(Instr.mapUpdate t (.map (some b)) kv vv).run P w=.ok () { w with heap:=w.heap.setIfInBounds b (.map (E.modify i fun e=>{ e with key:=kv,val:=vv }) cl) }):=by
 have hkr:=keyT_run hk
 obtain ⟨q1,q2⟩:=hkr.find M kd kv es E.toList w hkv hkb hE r hf
 have hck:=fun b=>hkr.check M kd kv b w hkv hkb
 refine ⟨fun e=>?_,fun i v e=>?_⟩
 ·have:=q1 e
  simp only [Instr.mapUpdate,Sem.run_bind,run_underlying ht,Result.andThen_ok,MapKept.run_getObj_map hb,hck,this,MapKept.run_setObj_map _ hb]
 ·obtain ⟨x,g1,hfk,g3,hsb⟩:=q2 i v e
  have hx:E[i]?=some x:=by simpa using g1
  simp only [Instr.mapUpdate,Sem.run_bind,run_underlying ht,Result.andThen_ok,MapKept.run_getObj_map hb,hck,hfk,hx,Option.map_some,Option.getD_some,Instr.keyThatStays,hsb,if_true,Sem.run_pure,MapKept.run_setObj_map _ hb]
theorem set_getD {α:Type} (l:List α) (i j:Nat) (x d:α) (hi:i < l.length):(l.set i x).getD j d=if i=j then x else l.getD j d:=by
 by_cases e:i=j
 ·subst e;simp [List.getD_eq_getElem?_getD,hi]
 ·simp [List.getD_eq_getElem?_getD,List.getElem?_set,e]
theorem dfind_lt {eq:DV→DV→Option Bool} {k:DV}:∀ {es:List (DV×DV)} {i j:Nat} {v:DV},dfind eq k es i=some (some (j,v))→i≤j∧j - i < es.length∧(es.getD (j - i) (.undef,.undef)).2=v
 |[],i,j,v,h=>by simp [dfind] at h
 |(k',v') :: r,i,j,v,h=>by
  simp only [dfind] at h
  split at h
  ·cases h;simp
  ·obtain ⟨h1,h2,h3⟩:=dfind_lt h
   refine ⟨by omega,by simp only [List.length_cons];omega,?_⟩
   rw [show j - i=(j - (i+1))+1 by omega];simpa using h3
  ·cases h
theorem dict_mod (S:Sim B nt M0 w0 M ρ t h a w) {n b c:Nat} {es:List (DV×DV)} (hl:hlook h n=some (.dict es)) (hρ:ρ n=some (b,c)) {E:Array MapEntry} (hb:w.heap[b]?=some (.map E es.length)) (hs:E.size=es.length)
  (hE:∀ i e,E[i]?=some e→e.born=i∧RelP M (es.getD i (.undef,.undef)).1 e.key∧RelP M (es.getD i (.undef,.undef)).2 e.val) (i:Nat) (hi:i < es.length) {kd vd:DV} {f:MapEntry→MapEntry}
  (hf:∀ e,E[i]?=some e→(f e).born=e.born∧RelP M kd (f e).key∧RelP M vd (f e).val) :
  Sim B nt M0 w0 M ρ t ((n,.dict (es.set i (kd,vd))) :: h) a { w with heap:=w.heap.setIfInBounds b (.map (E.modify i f) es.length) }:=by
 obtain ⟨h1,_,h3⟩:=dict_spec S hl hρ
 have hlt:b < w.heap.size:=(Array.getElem?_eq_some_iff.1 hb).1
 refine S.turn (ob':=.dict _) hl rfl trivial hρ h1 hb (fun _ e=>by cases e) h3 ⟨b,c,hρ,h1,⟨E.modify i f,?_,?_,fun j e he=>?_⟩,h3⟩
 ·simp [hlt]
 ·simp [hs]
 ·rw [Array.getElem?_modify] at he
  rw [set_getD es i j _ _ hi]
  by_cases hij:i=j
  ·subst hij
   rw [if_pos rfl] at he ⊢
   cases hx:E[i]? with
   |none=>rw [hx] at he;cases he
   |some x =>
    rw [hx] at he;cases he
    obtain ⟨g1,g2,g3⟩:=hf x hx
    exact ⟨g1.trans (hE i x hx).1,g2,g3⟩
  ·rw [if_neg hij] at he ⊢
   exact hE j e he
theorem dict_push (S:Sim B nt M0 w0 M ρ t h a w) {n b c:Nat} {es:List (DV×DV)} (hl:hlook h n=some (.dict es)) (hρ:ρ n=some (b,c)) {E:Array MapEntry} (hb:w.heap[b]?=some (.map E es.length)) (hs:E.size=es.length)
  (hE:∀ i e,E[i]?=some e→e.born=i∧RelP M (es.getD i (.undef,.undef)).1 e.key∧RelP M (es.getD i (.undef,.undef)).2 e.val) {kd vd:DV} {kv vv:Value} (h4:RelP M kd kv) (h5:RelP M vd vv) :
  Sim B nt M0 w0 M ρ t ((n,.dict (es++[(kd,vd)])) :: h) a { w with heap:=w.heap.setIfInBounds b (.map (E.push { key:=kv,val:=vv,born:=es.length }) (es.length+1)) }:=by
 obtain ⟨h1,_,h3⟩:=dict_spec S hl hρ
 have hlt:b < w.heap.size:=(Array.getElem?_eq_some_iff.1 hb).1
 refine S.turn (ob':=.dict _) hl rfl trivial hρ h1 hb (fun _ e=>by cases e) h3 ⟨b,c,hρ,h1,⟨E.push { key:=kv,val:=vv,born:=es.length },?_,?_,fun j e he=>?_⟩,h3⟩
 ·simp [hlt]
 ·simp [hs]
 ·rw [Array.getElem?_push] at he
  by_cases hj:j=E.size
  ·rw [if_pos hj] at he;cases he
   subst hj
   rw [hs]
   refine ⟨rfl,?_,?_⟩<;>simp [List.getD_eq_getElem?_getD,h4,h5]
  ·rw [if_neg hj] at he
   have hlt2:j < es.length:=by
    have:=(Array.getElem?_eq_some_iff.1 he).1;omega
   rw [show (es++[(kd,vd)]).getD j (.undef,.undef)=es.getD j (.undef,.undef) by simp [List.getD_eq_getElem?_getD,List.getElem?_append,hlt2]]
   exact hE j e he
theorem op_mapset (hG:GOk G M0) (S:Sim B nt M0 w0 M ρ t h a w) (ty kt et:TypeId) (m k v:Operand) (kk:Nat) (ks:List Nat) (ho:o.op=.mapUpdate ty m k v∨o.op=.insert ty m k v) (ht:mapT P ty=some (kt,et,kk,ks)) (n:Nat) (es:List (DV×DV))
  (hm:evalOpd G t m=.dict n) (hl:hlook h n=some (.dict es)) (hkb:keyB kk ks (evalOpd G t k)=true) (hvp:pureB (evalOpd G t v)=true) {r:Option (Nat×DV)} (hf:dfind (keyEq kk ks) (evalOpd G t k) es 0=some r) :
  OpGoal P B nt M0 w0 M ρ t h a w o (.tuple []) [(n,.dict (match r with|some (i,_)=>es.set i (evalOpd G t k,evalOpd G t v)|none=>es++[(evalOpd G t k,evalOpd G t v)]))]:=by
 obtain ⟨hu,hkt⟩:=mapT_spec ht
 have r1:=S.opd hG m;rw [hm] at r1
 obtain ⟨b,c,hρ,e1⟩:=inv_dict r1 hl
 have r2:=relV_pure _ _ ((keyT_run hkt).pure _ hkb) (S.opd hG k)
 have r3:=relV_pure _ _ hvp (S.opd hG v)
 obtain ⟨h1,⟨E,h2,h3,h4,h5⟩,h6⟩:=dict_spec S hl hρ
 obtain ⟨u1,u2⟩:=run_mapUpdate (vv:=a.eval v) hu hkt r2 hkb h2 h5 hf
 have hex:∀ w',(Instr.mapUpdate ty (.map (some b)) (a.eval k) (a.eval v)).run P w=.ok () w'→(execOp a.eval o).run P w=.ok .skip w':=fun w' hr=>by
  rcases ho with ho|ho<;>simp only [execOp,ho,e1,Sem.run_bind,hr,Result.andThen_ok,Sem.run_pure]
 cases r with
 |none=>exact ⟨_,Go.undef,_,M,ρ,hex _ (u1 rfl),.inr ⟨rfl,rfl⟩,dict_push S hl hρ h2 h3 h4 r2 r3,.pure (.tuple [] #[] rfl (by simp))⟩
 |some p =>
  obtain ⟨i,v'⟩:=p
  obtain ⟨_,g2,_⟩:=dfind_lt hf
  exact ⟨_,Go.undef,_,M,ρ,hex _ (u2 i v' rfl),.inr ⟨rfl,rfl⟩,dict_mod S hl hρ h2 h3 h4 i (by simpa using g2) (fun e _=>⟨rfl,r2,r3⟩),.pure (.tuple [] #[] rfl (by simp))⟩
theorem run_lookup {t k e:TypeId} (ht:P.underlying t=some (.map k e)) {kk:Nat} {ks:List Nat} (hk:keyT P k=some (kk,ks)) {kd:DV} {kv:Value} (hkv:RelP M kd kv) (hkb:keyB kk ks kd=true) {b:Nat} {es:List (DV×DV)} {E:Array MapEntry} {cl:Nat}
  (hb:w.heap[b]?=some (.map E cl)) (hE:EntRel M es E.toList) {z:Value} (hz:(zeroValue e).run P w=.ok z w) (ok:Bool) {r:Option (Nat×DV)} (hf:dfind (keyEq kk ks) kd es 0=some r) :
  (r=none→(Instr.lookup t (.map (some b)) kv ok).run P w=.ok (if ok then .tuple #[z,.bool false] else z) w) ∧
  (∀ i v,r=some (i,v)→∃ x,RelP M v x∧(Instr.lookup t (.map (some b)) kv ok).run P w=.ok (if ok then .tuple #[x,.bool true] else x) w):=by
 have hkr:=keyT_run hk
 obtain ⟨q1,q2⟩:=hkr.find M kd kv es E.toList w hkv hkb hE r hf
 have hck:=fun b=>hkr.check M kd kv b w hkv hkb
 refine ⟨fun e=>?_,fun i v e=>?_⟩
 ·have:=q1 e
  simp only [Instr.lookup,Sem.run_bind,run_underlying ht,Result.andThen_ok,MapKept.run_getObj_map hb,hck,this,hz,Sem.run_pure]
 ·obtain ⟨x,g1,hfk,g3,hsb⟩:=q2 i v e
  refine ⟨x.val,g3,?_⟩
  simp only [Instr.lookup,Sem.run_bind,run_underlying ht,Result.andThen_ok,MapKept.run_getObj_map hb,hck,hfk,Sem.run_pure]
theorem zero_run {e:TypeId} {z:Value} (hz:zeroT P e=some z):(zeroValue e).run P w=.ok z w:=by
 unfold zeroT at hz
 cases hi:P.info? e with
 |none=>rw [hi] at hz;cases hz
 |some i =>
  rw [hi] at hz
  simp only [Option.bind_some] at hz
  simp only [zeroValue,typeInfo,Sem.run_bind,run_program,Result.andThen_ok,hi,Sem.run_pure,hz]
theorem relP_pair {M:Mem} {x y:DV} {u v:Value} (hx:RelP M x u) (hy:RelP M y v):RelP M (.tuple [x,y]) (.tuple #[u,v]):=by
 refine .tuple [x,y] #[u,v] rfl (fun i hi=>?_)
 match i,hi with
 |0,_=>exact hx
 |1,_=>exact hy
theorem op_lookup (hG:GOk G M0) (S:Sim B nt M0 w0 M ρ t h a w) (ty kt et:TypeId) (m k:Operand) (kk:Nat) (ks:List Nat) (ok:Bool) (z:Value) (ho:o.op=.lookup ty m k ok) (ht:mapT P ty=some (kt,et,kk,ks)) (hz:zeroT P et=some z) (n:Nat) (es:List (DV×DV))
  (hm:evalOpd G t m=.dict n) (hl:hlook h n=some (.dict es)) (hkb:keyB kk ks (evalOpd G t k)=true) {r:Option (Nat×DV)} (hf:dfind (keyEq kk ks) (evalOpd G t k) es 0=some r) :
  OpGoal P B nt M0 w0 M ρ t h a w o (match r with|some (_,v)=>(bif ok then .tuple [v,.bool true] else v)|none=>(bif ok then .tuple [ofValue z,.bool false] else ofValue z)) []:=by
 obtain ⟨hu,hkt⟩:=mapT_spec ht
 have r1:=S.opd hG m;rw [hm] at r1
 obtain ⟨b,c,hρ,e1⟩:=inv_dict r1 hl
 have r2:=relV_pure _ _ ((keyT_run hkt).pure _ hkb) (S.opd hG k)
 obtain ⟨h1,⟨E,h2,h3,h4,h5⟩,h6⟩:=dict_spec S hl hρ
 obtain ⟨u1,u2⟩:=run_lookup hu hkt r2 hkb h2 h5 (zero_run (w:=w) hz) ok hf
 cases r with
 |none =>
  refine OpGoal.same S (v:=if ok then .tuple #[z,.bool false] else z) ?_ ?_
  ·simp only [execOp,ho,e1,Sem.run_bind,u1 rfl,Result.andThen_ok,Sem.run_pure]
  ·cases ok
   ·exact .pure (relP_ofValue M z)
   ·exact .pure (relP_pair (relP_ofValue M z) (.bool _))
 |some p =>
  obtain ⟨i,v⟩:=p
  obtain ⟨x,g1,g2⟩:=u2 i v rfl
  refine OpGoal.same S (v:=if ok then .tuple #[x,.bool true] else x) ?_ ?_
  ·simp only [execOp,ho,e1,Sem.run_bind,g2,Result.andThen_ok,Sem.run_pure]
  ·cases ok
   ·exact .pure g1
   ·exact .pure (relP_pair g1 (.bool _))
theorem op_mapentry (hG:GOk G M0) (S:Sim B nt M0 w0 M ρ t h a w) (ty kt et:TypeId) (m k:Operand) (kk:Nat) (ks:List Nat) (z:Value) (ho:o.op=.mapEntry ty m k) (ht:mapT P ty=some (kt,et,kk,ks)) (hz:zeroT P et=some z) (n:Nat) (es:List (DV×DV))
  (hm:evalOpd G t m=.dict n) (hl:hlook h n=some (.dict es)) (hkb:keyB kk ks (evalOpd G t k)=true) {r:Option (Nat×DV)} (hf:dfind (keyEq kk ks) (evalOpd G t k) es 0=some r) :
  OpGoal P B nt M0 w0 M ρ t h a w o (match r with|some (i,v)=>.tuple [v,.int .i64 i]|none=>.tuple [ofValue z,.int .i64 es.length])
   [(n,.dict (match r with|some (i,v)=>es.set i (evalOpd G t k,v)|none=>es++[(evalOpd G t k,ofValue z)]))]:=by
 obtain ⟨hu,hkt⟩:=mapT_spec ht
 have hkr:=keyT_run hkt
 have r1:=S.opd hG m;rw [hm] at r1
 obtain ⟨b,c,hρ,e1⟩:=inv_dict r1 hl
 have r2:=relV_pure _ _ ((keyT_run hkt).pure _ hkb) (S.opd hG k)
 obtain ⟨h1,⟨E,h2,h3,h4,h5⟩,h6⟩:=dict_spec S hl hρ
 obtain ⟨q1,q2⟩:=hkr.find M _ _ es E.toList w r2 hkb h5 r hf
 have hck:=fun b=>hkr.check M _ _ b w r2 hkb
 cases r with
 |none =>
  have hfk:=q1 rfl
  refine ⟨_,_,_,M,ρ,?_,.inl rfl,dict_push S hl hρ h2 h3 h4 r2 (relP_ofValue M z),.pure (relP_pair (relP_ofValue M z) (.int .i64 _))⟩
  simp only [execOp,ho,e1,Instr.mapEntry,Sem.run_bind,run_underlying hu,Result.andThen_ok,MapKept.run_getObj_map h2,hck,hfk,zero_run hz,MapKept.run_setObj_map _ h2,Sem.run_pure,goInt]
 |some p =>
  obtain ⟨i,v⟩:=p
  obtain ⟨x,g1,hfk,g3,hsb⟩:=q2 i v rfl
  have hx:E[i]?=some x:=by simpa using g1
  obtain ⟨_,g6,_⟩:=dfind_lt hf
  refine ⟨_,_,_,M,ρ,?_,.inl rfl,dict_mod S hl hρ h2 h3 h4 i (by simpa using g6) (f:=fun e=>{ e with key:=a.eval k }) (kd:=evalOpd G t k) (vd:=v) (fun e he=>⟨rfl,r2,?_⟩),.pure (relP_pair g3 (.int .i64 _))⟩
  ·simp only [execOp,ho,e1,Instr.mapEntry,Sem.run_bind,run_underlying hu,Result.andThen_ok,MapKept.run_getObj_map h2,hck,hfk,hx,Option.map_some,Option.getD_some,Instr.keyThatStays,hsb,if_true,MapKept.run_setObj_map _ h2,Sem.run_pure,goInt,(h4 i x hx).1]
  ·rw [hx] at he;cases he;exact g3
theorem op_entrystore (hG:GOk G M0) (S:Sim B nt M0 w0 M ρ t h a w) (ty:TypeId) (m s v:Operand) (ho:o.op=.entryStore ty m s v) (n:Nat) (es:List (DV×DV)) (k:IntKind) (i:Int)
  (hm:evalOpd G t m=.dict n) (hs:evalOpd G t s=.int k i) (hl:hlook h n=some (.dict es)) (hvp:pureB (evalOpd G t v)=true) (hb:0≤i∧i < es.length) :
  OpGoal P B nt M0 w0 M ρ t h a w o (.tuple []) [(n,.dict (es.set i.toNat ((es.getD i.toNat (.undef,.undef)).1,evalOpd G t v)))]:=by
 have r1:=S.opd hG m;rw [hm] at r1
 obtain ⟨b,c,hρ,e1⟩:=inv_dict r1 hl
 have r2:=S.opd hG s;rw [hs] at r2
 have r3:=relV_pure _ _ hvp (S.opd hG v)
 obtain ⟨h1,⟨E,h2,h3,h4,h5⟩,h6⟩:=dict_spec S hl hρ
 have hlt:i.toNat < E.size:=by omega
 have hfi:E.findIdx? (fun e=>(e.born:Int) == i)=some i.toNat:=by
  rw [Array.findIdx?_eq_some_iff_getElem]
  refine ⟨hlt,?_,fun j hj=>?_⟩
  ·have:=(h4 i.toNat _ (Array.getElem?_eq_getElem hlt)).1
   rw [this];simp;omega
  ·have:=(h4 j _ (Array.getElem?_eq_getElem (by omega))).1
   rw [this];simp;omega
 refine ⟨_,Go.undef,_,M,ρ,?_,.inr ⟨rfl,rfl⟩,dict_mod S hl hρ h2 h3 h4 i.toNat (by omega) (f:=fun e=>{ e with val:=a.eval v }) (fun e he=>⟨rfl,(h4 _ e he).2.1,r3⟩),.pure (.tuple [] #[] rfl (by simp))⟩
 simp only [execOp,ho,e1,r2.inv_int,Instr.entryStore,Sem.run_bind,MapKept.run_getObj_map h2,Result.andThen_ok,asInt,asIntOf,hfi,MapKept.run_setObj_map _ h2,Sem.run_pure]
theorem op_lenM (hG:GOk G M0) (S:Sim B nt M0 w0 M ρ t h a w) (ty kt et:TypeId) (x:Operand) (ho:o.op=.call ⟨.builtin .len,#[x],#[ty]⟩) (ht:P.underlying ty=some (.map kt et)) (n:Nat) (es:List (DV×DV)) (hx:evalOpd G t x=.dict n) (hl:hlook h n=some (.dict es)) :
  OpGoal P B nt M0 w0 M ρ t h a w o (.int .i64 es.length) []:=by
 have r1:=S.opd hG x;rw [hx] at r1
 obtain ⟨b,c,hρ,e1⟩:=inv_dict r1 hl
 obtain ⟨h1,⟨E,h2,h3,h4,h5⟩,h6⟩:=dict_spec S hl hρ
 refine OpGoal.same S (v:=goInt es.length) ?_ (.pure (.int _ _))
 have hrun:(Builtin.len_ #[ty] o.type #[.map (some b)]).run P w=.ok (goInt es.length) w:=by
  simp [Builtin.len_,run_underlying ht,MapKept.run_getObj_map h2,h3]
 simp only [execOp,ho,resolve,Array.map_singleton,invoke,builtin,Sem.run_bind,Sem.run_pure,Result.andThen_ok,e1,hrun]
theorem op_rangeS (hG:GOk G M0) (S:Sim B nt M0 w0 M ρ t h a w) (ty:TypeId) (x:Operand) (n:Nat) (s:List UInt8) (ho:o.op=.range ty x) (ht:P.underlying ty=some .string) (hx:evalOpd G t x=.str s) (hn:hlook h n=none) :
  OpGoal P B nt M0 w0 M ρ t h a w o (.dict n) [(n,.siter s 0)]:=by
 have r1:=S.opd hG x;rw [hx] at r1
 have e1:=r1.inv_str
 have hln:locWith ρ n w.heap.size 1 n=some (w.heap.size,1):=locWith_self ..
 have hs:Sim B nt M0 w0 M (locWith ρ n w.heap.size 1) t ((n,.siter s 0) :: h) a (w.alloc (.stringIter ⟨s.toArray⟩ 0)):=by
  refine (S.alloc _).addObj hn (fun m hm=>?_) ?_
  ·have:=S.occ_lt hm;omega
  ·exact ⟨w.heap.size,1,hln,.inl S.Bsize,alloc_new w _,fun o=>S.free_mem (Nat.le_refl _) o⟩
 refine ⟨_,.pointer (some ⟨w.heap.size,0,none⟩),_,M,_,?_,.inl rfl,hs,.sitv n w.heap.size 1 0 s (by show hlook ((n,DObj.siter s 0) :: h) n=_;rw [hlook_cons,if_pos rfl]) hln⟩
 simp only [execOp,ho,e1,Instr.range,Sem.run_bind,run_underlying ht,Result.andThen_ok,Sem.run_pure,run_newObj_alloc]
theorem op_nextS (hG:GOk G M0) (S:Sim B nt M0 w0 M ρ t h a w) (x:Operand) (n:Nat) (s:List UInt8) (pos:Nat) (ho:o.op=.next x true) (hx:evalOpd G t x=.dict n) (hl:hlook h n=some (.siter s pos)) :
  (pos < s.length→OpGoal P B nt M0 w0 M ρ t h a w o (.tuple [.bool true,.int .i64 pos,.int .i32 (sdecode s pos).1]) [(n,.siter s (pos+(sdecode s pos).2))]) ∧
  (¬ pos < s.length→OpGoal P B nt M0 w0 M ρ t h a w o (.tuple [.bool false]) []):=by
 have r1:=S.opd hG x;rw [hx] at r1
 obtain ⟨b,c,hρ,e1⟩:=inv_siter r1 hl
 obtain ⟨b',c',q1,q2,q3,q4⟩:=S.obj n _ hl
 rw [hρ] at q1;cases q1
 have hlt:b < w.heap.size:=(Array.getElem?_eq_some_iff.1 q3).1
 have hget:(getObj b).run P w=.ok (.stringIter ⟨s.toArray⟩ pos) w:=by simp [getObj,Sem.run,q3]
 have hset:∀ o',(setObj b o').run P w=.ok () { w with heap:=w.heap.setIfInBounds b o' }:=fun o'=>by simp [setObj,Sem.run,q3]
 refine ⟨fun hp=>?_,fun hp=>?_⟩
 ·have hp':pos < (⟨s.toArray⟩:ByteArray).size:=by rw [bsize];exact hp
  refine ⟨_,.tuple #[.bool true,goInt pos,.int .i32 (sdecode s pos).1],_,M,ρ,?_,.inl rfl,S.turn (ob':=.siter s (pos+(sdecode s pos).2)) (x':=.stringIter ⟨s.toArray⟩ (pos+(sdecode s pos).2)) hl rfl trivial hρ q2 q3 (fun _ e=>by cases e) q4 ⟨b,c,hρ,q2,?_,q4⟩,.pure ?_⟩
  ·simp only [execOp,ho,e1,Instr.next,Sem.run_bind,hget,Result.andThen_ok,hp',if_true,hset,Sem.run_pure]
   rfl
  ·simp [hlt]
  ·refine .tuple _ _ rfl (fun i hi=>?_)
   match i,hi with
   |0,_=>exact .bool _
   |1,_=>exact .int _ _
   |2,_=>exact .int _ _
 ·have hp':¬ pos < (⟨s.toArray⟩:ByteArray).size:=by rw [bsize];exact hp
  refine OpGoal.same S (v:=.tuple #[.bool false]) ?_ (.pure ?_)
  ·simp only [execOp,ho,e1,Instr.next,Sem.run_bind,hget,Result.andThen_ok,hp',if_false,Sem.run_pure]
  ·refine .tuple _ _ rfl (fun i hi=>?_)
   match i,hi with
   |0,_=>exact .bool _
end
end Sh

/- What single operations come to: floating-point numbers. -/
namespace Sh
open Go
theorem fkEq_eq {j k:FloatKind} (h:fkEq j k=true):j=k:=by
 revert h;cases j<;>cases k<;>simp [fkEq,fkNo]
theorem nan_cut (k:FloatKind) (a b t:Nat):∃ s p,k.decode ((Question.nanBits k a b).cut t)=.nan s p:=by
 cases k
 ·unfold FloatKind.decode Ieee.Format.read
  have h1:FloatKind.f32.format.signWeight=2147483648:=by decide
  have h2:FloatKind.f32.format.binade=8388608:=by decide
  have h3:FloatKind.f32.format.infRung=2139095040:=by decide
  have h4:(Question.nanBits .f32 a b).cut t=(t % 2) * 2147483648+2139095040+1+(t / 2) % 8388607:=rfl
  rw [h4,h1,h2,h3]
  simp only
  have h5:=Nat.mod_lt (t / 2) (show 0 < 8388607 by omega)
  generalize (t / 2) % 8388607=r at *
  rw [if_neg (by omega),if_neg (by omega),if_neg (by omega)]
  exact ⟨_,_,rfl⟩
 ·unfold FloatKind.decode Ieee.Format.read
  have h1:FloatKind.f64.format.signWeight=9223372036854775808:=by decide
  have h2:FloatKind.f64.format.binade=4503599627370496:=by decide
  have h3:FloatKind.f64.format.infRung=9218868437227405312:=by decide
  have h4:(Question.nanBits .f64 a b).cut t=(t % 2) * 9223372036854775808+9218868437227405312+1+(t / 2) % 4503599627370495:=rfl
  rw [h4,h1,h2,h3]
  simp only
  have h5:=Nat.mod_lt (t / 2) (show 0 < 4503599627370495 by omega)
  generalize (t / 2) % 4503599627370495=r at *
  rw [if_neg (by omega),if_neg (by omega),if_neg (by omega)]
  exact ⟨_,_,rfl⟩
theorem nanConv_cut (k:FloatKind) (a t:Nat):∃ s p,k.decode ((Question.nanConv k a).cut t)=.nan s p:=by
 have h:=nan_cut k a 0 t
 have e:(Question.nanConv k a).cut t=(Question.nanBits k a 0).cut t:=by cases k<;>rfl
 rw [e];exact h
theorem order_nan_l {k:FloatKind} {a b:Nat} {s:Bool} {p:Nat} (h:k.decode a=.nan s p):k.format.order a b=none:=by
 unfold Ieee.Format.order
 show (k.decode a).order _=none
 rw [h];rfl
theorem order_nan_r {k:FloatKind} {a b:Nat} {s:Bool} {p:Nat} (h:k.decode b=.nan s p):k.format.order a b=none:=by
 unfold Ieee.Format.order
 show Ieee.Datum.order _ (k.decode b)=none
 rw [h]
 cases k.format.read a<;>rfl
theorem fltO_ok (k:FloatKind) (r:Option Nat):∃ d,fltO k r=.ok none d []:=by cases r<;>exact ⟨_,rfl⟩
theorem fltBin_ok (op:BinOp) (k:FloatKind) (a b:Nat):fltBin op k a b=.fail∨∃ d,fltBin op k a b=.ok none d []:=by
 cases op<;>first|exact .inl rfl|exact .inr (fltO_ok _ _)|exact .inr ⟨_,rfl⟩
theorem nanBin_ok (op:BinOp):nanBin op=.fail∨∃ d,nanBin op=.ok none d []:=by
 cases op<;>first|exact .inl rfl|exact .inr ⟨_,rfl⟩
theorem fltConv_ok (j k:FloatKind) (a:Nat):fltConv j k a=.fail∨∃ d,fltConv j k a=.ok none d []:=by
 unfold fltConv
 cases fkEq j k with
 |true=>exact .inr ⟨_,rfl⟩
 |false =>
  rw [cond_false]
  split
  ·exact .inr ⟨_,rfl⟩
  ·exact .inr ⟨_,rfl⟩
  ·rename_i s m e _
   cases (k.decode (k.encode (.number s m e))).isInfinity
   ·exact .inr ⟨_,rfl⟩
   ·exact .inl rfl
theorem fltInt_ok (j:FloatKind) (k:IntKind) (a:Nat):fltInt j k a=.fail∨∃ d,fltInt j k a=.ok none d []:=by
 unfold fltInt
 split
 ·rename_i n _
  cases decide (k.min≤n∧n≤k.max)
  ·exact .inl rfl
  ·exact .inr ⟨_,rfl⟩
 ·exact .inl rfl
section
variable {P:Program} {G:Nat→Option DV} {B:Base} {nt:Nat} {M0:Mem} {w0:World} {M:Mem} {ρ:Locs} {t:Tmps} {h:Heap} {a:Act} {w:World} {o:Oper}
theorem OpGoal.drew (S:Sim B nt M0 w0 M ρ t h a w) {d:DV} {v:Value} (hr:(execOp a.eval o).run P w=.ok (.value v) w.drew) (hv:RelV M ρ h d v):OpGoal P B nt M0 w0 M ρ t h a w o d [] :=
 ⟨_,v,w.drew,M,ρ,hr,.inl rfl,S.drew,hv⟩
theorem op_bin_flt (hG:GOk G M0) (S:Sim B nt M0 w0 M ρ t h a w) (op:BinOp) (ty ty':TypeId) (x y:Operand) (k:FloatKind) (m n:Nat) (ho:o.op=.binOp op ty x y ty') (hx:evalOpd G t x=.flt k m) (hy:evalOpd G t y=.flt k n)
  {p:Option Prop} {d:DV} {u:Heap} (he:fltBin op k m n=.ok p d u):OpGoal P B nt M0 w0 M ρ t h a w o d u:=by
 have e1:=S.opd hG x;rw [hx] at e1;have e1:=e1.inv_flt
 have e2:=S.opd hG y;rw [hy] at e2;have e2:=e2.inv_flt
 have arith:∀ r,(op=.add∧r=k.format.add m n)∨(op=.sub∧r=k.format.sub m n)∨(op=.mul∧r=k.format.mul m n)∨(op=.quo∧r=k.format.div m n)→fltO k r=.ok p d u→OpGoal P B nt M0 w0 M ρ t h a w o d u:=fun r hop hr=>by
  cases r with
  |some r =>
   simp only [fltO,Ev.ok.injEq] at hr;obtain ⟨rfl,rfl,rfl⟩:=hr
   refine OpGoal.same S (v:=.float k r) ?_ (.pure (.flt k r))
   rcases hop with ⟨rfl,hr⟩|⟨rfl,hr⟩|⟨rfl,hr⟩|⟨rfl,hr⟩<;>simp [execOp,ho,e1,e2,eqGuard,binOp,Op.floatArith,← hr]
  |none =>
   simp only [fltO,Ev.ok.injEq] at hr;obtain ⟨rfl,rfl,rfl⟩:=hr
   have hf:(Question.nanBits k m n).forced=false:=rfl
   refine OpGoal.drew S (v:=.float k ((Question.nanBits k m n).cut (w.tape w.drawn (Question.nanBits k m n)))) ?_ (.pure (.fnan k _ (nan_cut k m n _)))
   rcases hop with ⟨rfl,h⟩|⟨rfl,h⟩|⟨rfl,h⟩|⟨rfl,h⟩<;>simp [execOp,ho,e1,e2,eqGuard,binOp,Op.floatArith,← h,hf]
 cases op<;>simp only [fltBin] at he
 case add=>exact arith _ (.inl ⟨rfl,rfl⟩) he
 case sub=>exact arith _ (.inr (.inl ⟨rfl,rfl⟩)) he
 case mul=>exact arith _ (.inr (.inr (.inl ⟨rfl,rfl⟩))) he
 case quo=>exact arith _ (.inr (.inr (.inr ⟨rfl,rfl⟩))) he
 all_goals first
  |cases he;done
  |(simp only [Ev.ok.injEq] at he;obtain ⟨rfl,rfl,rfl⟩:=he
    refine OpGoal.same S (v:=.bool _) ?_ (.pure (.bool _))
    simp [execOp,ho,e1,e2,eqGuard,binOp,Op.floatCmp])
theorem op_bin_nan (hG:GOk G M0) (S:Sim B nt M0 w0 M ρ t h a w) (op:BinOp) (ty ty':TypeId) (x y:Operand) (k:FloatKind) (m n:Nat) (ho:o.op=.binOp op ty x y ty') (e1:a.eval x=.float k m) (e2:a.eval y=.float k n) (hn:k.format.order m n=none)
  {p:Option Prop} {d:DV} {u:Heap} (he:nanBin op=.ok p d u):OpGoal P B nt M0 w0 M ρ t h a w o d u:=by
 cases op<;>simp only [nanBin] at he
 all_goals first
  |cases he;done
  |(simp only [Ev.ok.injEq] at he;obtain ⟨rfl,rfl,rfl⟩:=he
    refine OpGoal.same S (v:=.bool _) ?_ (.pure (.bool _))
    simp [execOp,ho,e1,e2,eqGuard,binOp,Op.floatCmp,hn])
theorem op_fconv (hG:GOk G M0) (S:Sim B nt M0 w0 M ρ t h a w) (sT dT:TypeId) (x:Operand) (j k:FloatKind) (m:Nat) (ho:o.op=.convert sT dT x) (hs:P.underlying sT=some (.float j)) (hd:P.underlying dT=some (.float k)) (hx:evalOpd G t x=.flt j m)
  {p:Option Prop} {d:DV} {u:Heap} (he:fltConv j k m=.ok p d u):OpGoal P B nt M0 w0 M ρ t h a w o d u:=by
 have e1:=S.opd hG x;rw [hx] at e1;have e1:=e1.inv_flt
 have run:∀ r w',(Conv.floatToFloat j m k).run P w=.ok r w'→(execOp a.eval o).run P w=.ok (.value r) w':=fun r w' hr=>by
  simp [execOp,ho,convert,run_underlying hs,run_underlying hd,e1,hr]
 unfold fltConv at he
 cases hjk:fkEq j k with
 |true =>
  rw [hjk,cond_true] at he
  have:=fkEq_eq hjk;subst this
  simp only [Ev.ok.injEq] at he;obtain ⟨rfl,rfl,rfl⟩:=he
  exact OpGoal.same S (run (.float j m) w (by simp [Conv.floatToFloat])) (.pure (.flt j m))
 |false =>
  rw [hjk,cond_false] at he
  have hne:j≠k:=fun e=>by subst e;cases j<;>cases hjk
  split at he
  ·rename_i s q hdc
   simp only [Ev.ok.injEq] at he;obtain ⟨rfl,rfl,rfl⟩:=he
   have hf:(Question.nanConv k m).forced=false:=rfl
   exact OpGoal.drew S (run (.float k ((Question.nanConv k m).cut (w.tape w.drawn (Question.nanConv k m)))) w.drew (by simp [Conv.floatToFloat,hne,hdc,hf])) (.pure (.fnan k _ (nanConv_cut k m _)))
  ·rename_i s hdc
   simp only [Ev.ok.injEq] at he;obtain ⟨rfl,rfl,rfl⟩:=he
   exact OpGoal.same S (run (.float k _) w (by simp [Conv.floatToFloat,hne,hdc])) (.pure (.flt k _))
  ·rename_i s q e hdc
   cases hi:(k.decode (k.encode (.number s q e))).isInfinity with
   |true=>rw [hi] at he;cases he
   |false =>
    rw [hi] at he
    simp only [cond_false,Ev.ok.injEq] at he;obtain ⟨rfl,rfl,rfl⟩:=he
    exact OpGoal.same S (run (.float k _) w (by simp [Conv.floatToFloat,hne,hdc,hi])) (.pure (.flt k _))
theorem op_fconv_nan (hG:GOk G M0) (S:Sim B nt M0 w0 M ρ t h a w) (sT dT:TypeId) (x:Operand) (j k:FloatKind) (ho:o.op=.convert sT dT x) (hs:P.underlying sT=some (.float j)) (hd:P.underlying dT=some (.float k)) (hx:evalOpd G t x=.fnan j) :
  OpGoal P B nt M0 w0 M ρ t h a w o (.fnan k) []:=by
 have e1:=S.opd hG x;rw [hx] at e1;obtain ⟨m,e1,s,q,hdc⟩:=e1.inv_fnan
 have run:∀ r w',(Conv.floatToFloat j m k).run P w=.ok r w'→(execOp a.eval o).run P w=.ok (.value r) w':=fun r w' hr=>by
  simp [execOp,ho,convert,run_underlying hs,run_underlying hd,e1,hr]
 by_cases hjk:j=k
 ·subst hjk
  exact OpGoal.same S (run (.float j m) w (by simp [Conv.floatToFloat])) (.pure (.fnan j m ⟨s,q,hdc⟩))
 ·have hf:(Question.nanConv k m).forced=false:=rfl
  exact OpGoal.drew S (run (.float k ((Question.nanConv k m).cut (w.tape w.drawn (Question.nanConv k m)))) w.drew (by simp [Conv.floatToFloat,hjk,hdc,hf])) (.pure (.fnan k _ (nanConv_cut k m _)))
theorem op_ftoi (hG:GOk G M0) (S:Sim B nt M0 w0 M ρ t h a w) (sT dT:TypeId) (x:Operand) (j:FloatKind) (k:IntKind) (m:Nat) (ho:o.op=.convert sT dT x) (hs:P.underlying sT=some (.float j)) (hd:P.underlying dT=some (.int k)) (hx:evalOpd G t x=.flt j m)
  {p:Option Prop} {d:DV} {u:Heap} (he:fltInt j k m=.ok p d u):OpGoal P B nt M0 w0 M ρ t h a w o d u:=by
 have e1:=S.opd hG x;rw [hx] at e1;have e1:=e1.inv_flt
 unfold fltInt at he
 split at he
 ·rename_i n hn
  cases hc:decide (k.min≤n∧n≤k.max) with
  |false=>rw [hc] at he;cases he
  |true =>
   rw [hc] at he
   simp only [cond_true,Ev.ok.injEq] at he;obtain ⟨rfl,rfl,rfl⟩:=he
   have hc:=of_decide_eq_true hc
   refine OpGoal.same S (v:=.int k n) ?_ (.pure (.int k n))
   simp [execOp,ho,convert,run_underlying hs,run_underlying hd,e1,Conv.floatToInt,hn,hc]
 ·cases he
theorem op_itof (hG:GOk G M0) (S:Sim B nt M0 w0 M ρ t h a w) (sT dT:TypeId) (x:Operand) (j j':IntKind) (k:FloatKind) (n:Int) (ho:o.op=.convert sT dT x) (hs:P.underlying sT=some (.int j)) (hd:P.underlying dT=some (.float k)) (hx:evalOpd G t x=.int j' n) :
  OpGoal P B nt M0 w0 M ρ t h a w o (.flt k (k.nearest n)) []:=by
 have e1:=S.opd hG x;rw [hx] at e1;have e1:=e1.inv_int
 refine OpGoal.same S (v:=.float k (k.nearest n)) ?_ (.pure (.flt k _))
 simp [execOp,ho,convert,run_underlying hs,run_underlying hd,e1,Conv.intToFloat]
end
end Sh

/- What single operations come to: rows whose elements have rows of their own. -/
namespace Sh
open Go
theorem InnerAt.heap {B:Base} {M:Mem} {loc loc':Option (Nat×Nat)} {w w':World} {isz:Nat} {l:List DV} (h:InnerAt B M loc w isz l) (e:loc'=loc) (hb:∀ b k,loc=some (b,k)→w'.heap[b]?=w.heap[b]?):InnerAt B M loc' w' isz l:=by
 subst e
 unfold InnerAt at *
 cases hl:loc' with
 |none=>rw [hl] at h;exact h
 |some bk =>
  obtain ⟨b,k⟩:=bk
  rw [hl] at h
  obtain ⟨g1,cs,t,g2,g3⟩:=h
  exact ⟨g1,cs,t,(hb b k hl).trans g2,g3⟩
def locSub (ρ:Locs) (n i:Nat) (x:Option (Nat×Nat)):Locs:=⟨ρ.main,fun m j=>if m=n∧j=i then x else ρ.sub m j⟩
theorem locSub_self (ρ:Locs) (n i:Nat) (x:Option (Nat×Nat)):(locSub ρ n i x).sub n i=x:=if_pos ⟨rfl,rfl⟩
theorem locSub_ne (ρ:Locs) {n i j:Nat} (x:Option (Nat×Nat)) (h:j≠i):(locSub ρ n i x).sub n j=ρ.sub n j:=if_neg (fun e=>h e.2)
theorem locSub_oth (ρ:Locs) {n m:Nat} (i:Nat) (x:Option (Nat×Nat)) (h:m≠n):(locSub ρ n i x).sub m=ρ.sub m:=by funext j;exact if_neg (fun e=>h e.1)
def locMain (ρ:Locs) (n b c:Nat):Locs:=⟨fun m=>if m=n then some (b,c) else ρ m,ρ.sub⟩
theorem locMain_self (ρ:Locs) (n b c:Nat):locMain ρ n b c n=some (b,c):=if_pos rfl
theorem locMain_ne (ρ:Locs) {n m:Nat} (b c:Nat) (h:m≠n):locMain ρ n b c m=ρ m:=if_neg h
theorem curL_none {c:Nat} {es:List DV} {i:Nat}:curL c es none i=innOf c (es.getD i .undef):=rfl
theorem curL_self {c:Nat} {es:List DV} {i:Nat} {l:List DV}:curL c es (some (i,l)) i=some l:=if_pos rfl
theorem curL_ne {c:Nat} {es:List DV} {i j:Nat} {l:List DV} (h:j≠i):curL c es (some (i,l)) j=innOf c (es.getD j .undef):=if_neg (Ne.symm h)
theorem innOf_cell {c:Nat} {e:DV} {l:List DV}:innOf c e=some l ↔ e.cells.getD c .undef=.inn l:=by
 unfold innOf
 cases e.cells.getD c .undef<;>simp [innD]
section
variable {P:Program} {G:Nat→Option DV} {B:Base} {nt:Nat} {M0:Mem} {w0:World} {M:Mem} {ρ:Locs} {t:Tmps} {h:Heap} {a:Act} {w:World} {o:Oper}
theorem ext_nrow (M:Mem) (ρ ρ':Locs) {h:Heap} {n sz c isz:Nat} {es es':List DV} {pd pd':Option (Nat×List DV)} (hn:hlook h n=some (.nrow sz c isz es pd)) (hm:∀ m,m≠n→ρ' m=ρ m) (hs:∀ m,m≠n→ρ'.sub m=ρ.sub m)
  (hle:es.length≤es'.length) (heq:es.length=es'.length→ρ' n=ρ n) (hhas:∀ i,hasL es pd i→hasL es' pd' i)
  (hcur:∀ i l',hasL es pd i→curL c es' pd' i=some l'→∃ l,curL c es pd i=some l∧l.length≤l'.length∧(l.length=l'.length→ρ'.sub n i=ρ.sub n i)):Ext M ρ h M ρ' ((n,.nrow sz c isz es' pd') :: h):=by
 refine ⟨M.le_refl,fun m sz1 es1 fr1 e=>?_,fun m o e hk=>?_,fun m sz1 c1 isz1 es1 pd1 e=>?_⟩
 ·have e2:n≠m:=fun e2=>by subst e2;rw [hn] at e;cases e
  exact ⟨sz1,es1,fr1,by rw [hlook_cons,if_neg e2];exact e,Nat.le_refl _,fun _=>⟨.inl rfl,hm m (Ne.symm e2)⟩⟩
 ·have e2:n≠m:=fun e2=>by subst e2;rw [hn] at e;cases e;cases hk
  exact ⟨hm m (Ne.symm e2),o,by rw [hlook_cons,if_neg e2];exact e,like_refl hk⟩
 ·by_cases e2:n=m
  ·subst e2;rw [hn] at e;cases e
   exact .inl ⟨es',pd',by rw [hlook_cons,if_pos rfl],hle,heq,hhas,hcur⟩
  ·exact nrw_same (by rw [hlook_cons,if_neg e2];exact e) (hm m (Ne.symm e2)) (hs m (Ne.symm e2))
theorem Sim.nrow_free (S:Sim B nt M0 w0 M ρ t h a w) {n sz c isz:Nat} {es:List DV} {pd:Option (Nat×List DV)} (hn:hlook h n=some (.nrow sz c isz es pd)) {b:Nat} (hb:Occ ρ h n b) (o:Nat):M b o=none:=by
 obtain ⟨_,h2,h3⟩:=S.obj n _ hn
 rcases hb.cases with ⟨_,k,_,hρ⟩|⟨i,sz',c',isz',es',pd',l,k,h4,h5,h6⟩
 ·rw [hρ] at h3
  obtain ⟨_,_,_,_,_,_,_,_,g⟩:=h3
  exact g o
 ·rw [hn] at h4;cases h4
  have:=h2 i l h5
  unfold InnerAt at this
  rw [h6] at this
  obtain ⟨_,_,_,_,_,_,_,_,g⟩:=this
  exact g o
theorem Sim.setN (S:Sim B nt M0 w0 M ρ t h a w) {n sz c isz:Nat} {es es':List DV} {pd pd':Option (Nat×List DV)} {ρ':Locs} {w':World} (hn:hlook h n=some (.nrow sz c isz es pd))
  (hkeep:∀ b,b < w.heap.size→¬ Occ ρ h n b→w'.heap[b]?=w.heap[b]?) (hbelow:B.touch w0 w') (hx:Ext M ρ h M ρ' ((n,.nrow sz c isz es' pd') :: h)) (hm:∀ m,m≠n→ρ' m=ρ m) (hs:∀ m,m≠n→ρ'.sub m=ρ.sub m)
  (ho':ObjRel B M ρ' ((n,.nrow sz c isz es' pd') :: h) w' n (.nrow sz c isz es' pd')) (hocc:∀ b,OnB ρ' n (.nrow sz c isz es' pd') b→Occ ρ h n b∨w.heap.size≤b)
  (hself:∀ i j l l' b k k',curL c es' pd' i=some l→curL c es' pd' j=some l'→ρ'.sub n i=some (b,k)→ρ'.sub n j=some (b,k')→j=i)
  (hms:∀ i l b k k',curL c es' pd' i=some l→ρ'.sub n i=some (b,k)→ρ' n≠some (b,k')):Sim B nt M0 w0 M ρ' t ((n,.nrow sz c isz es' pd') :: h) a w':=by
 have back:∀ m b,Occ ρ' ((n,.nrow sz c isz es' pd') :: h) m b→m≠n→Occ ρ h m b:=fun m b hb hne=>by
  obtain ⟨p,q1,q2⟩:=hb
  rcases hlook_cons_of q1 with ⟨e,_⟩|⟨_,q1⟩
  ·exact absurd e.symm hne
  ·refine ⟨p,q1,?_⟩
   rcases q2 with ⟨k,q2⟩|⟨sz1,c1,isz1,es1,pd1,i,l,k,rfl,q2,q3⟩
   ·exact .inl ⟨k,by rw [← hm m hne];exact q2⟩
   ·exact .inr ⟨sz1,c1,isz1,es1,pd1,i,l,k,rfl,q2,by rw [← hs m hne];exact q3⟩
 have mine:∀ b,Occ ρ' ((n,.nrow sz c isz es' pd') :: h) n b→Occ ρ h n b∨w.heap.size≤b:=fun b hb=>by
  obtain ⟨p,q1,q2⟩:=hb
  rcases hlook_cons_of q1 with ⟨_,rfl⟩|⟨hne,_⟩
  ·exact hocc b q2
  ·exact absurd rfl hne
 have apart:∀ m b,m≠n→Occ ρ' ((n,.nrow sz c isz es' pd') :: h) m b→Occ ρ' ((n,.nrow sz c isz es' pd') :: h) n b→False:=fun m b hne h1 h2=>by
  have h3:=back m b h1 hne
  rcases mine b h2 with h4|h4
  ·exact S.occ_dis hne h3 h4
  ·have:=S.occ_lt h3;omega
 refine { S with tm:=fun i=>(S.tm i).ext hx,mem:=fun b o v e=>?_,obj:=fun m p hp=>?_,dis:=fun m m' p p' b1 c1 b2 c2 hne h1 h2 e1 e2 e3=>?_,dsub:=fun m i b hsb=>⟨fun m' p k hp e=>?_,fun m' j hsb'=>?_⟩,below:=hbelow,marks:=⟨fun d hd=>?_,S.marks.2⟩,ext:=S.ext.trans hx }
 ·have h1:=S.mem b o v e
  have h2:b < w.heap.size:=World.block_lt_of_cell? (a:=⟨b,o,none⟩) _ h1
  rw [World.cell?_of_block (w:=w) (w':=w') (a:=⟨b,o,none⟩) (hkeep b h2 (fun hc=>by rw [S.nrow_free hn hc] at e;cases e))]
  exact h1
 ·rcases hlook_cons_of hp with ⟨rfl,rfl⟩|⟨hne,hp⟩
  ·exact ho'
  ·exact (S.obj m p hp).turn (fun d v hr=>hr.ext hx) M.le_refl (hm m (Ne.symm hne)) (hs m (Ne.symm hne)) (fun b hb=>⟨id,hkeep b (S.occ_lt ⟨p,hp,hb⟩) (fun hc=>S.occ_dis (Ne.symm hne) ⟨p,hp,hb⟩ hc),id⟩) id
 ·subst e3
  have o1:Occ ρ' ((n,.nrow sz c isz es' pd') :: h) m b1:=.main h1 e1
  have o2:Occ ρ' ((n,.nrow sz c isz es' pd') :: h) m' b1:=.main h2 e2
  by_cases em:m=n
  ·subst em;exact apart m' b1 (Ne.symm hne) o2 o1
  ·by_cases em':m'=n
   ·subst em';exact apart m b1 em o1 o2
   ·exact S.occ_dis hne (back m b1 o1 em) (back m' b1 o2 em')
 ·by_cases em:m=n
  ·subst em
   by_cases em':m'=m
   ·subst em'
    obtain ⟨sz1,c1,isz1,es1,pd1,l,k1,q1,q2,q3⟩:=hsb
    rw [hlook_cons,if_pos rfl] at q1;cases q1
    exact hms i l b k1 k q2 q3 e
   ·exact apart m' b em' (.main hp e) hsb.occ
  ·by_cases em':m'=n
   ·subst em';exact apart m b em hsb.occ (.main hp e)
   ·by_cases e2:m=m'
    ·subst e2
     obtain ⟨sz1,c1,isz1,es1,pd1,l,k1,q1,q2,q3⟩:=hsb
     rw [hlook_cons,if_neg (Ne.symm em)] at q1 hp
     exact (S.dsub m i b ⟨sz1,c1,isz1,es1,pd1,l,k1,q1,q2,by rw [← hs m em];exact q3⟩).1 m p k hp (by rw [← hm m em];exact e)
    ·exact S.occ_dis e2 (back m b hsb.occ em) (back m' b (.main hp e) em')
 ·by_cases em:m=n
  ·subst em
   by_cases em':m'=m
   ·subst em'
    obtain ⟨sz1,c1,isz1,es1,pd1,l,k1,q1,q2,q3⟩:=hsb
    obtain ⟨sz2,c2,isz2,es2,pd2,l2,k2,r1,r2,r3⟩:=hsb'
    rw [hlook_cons,if_pos rfl] at q1 r1;cases q1;cases r1
    exact ⟨rfl,hself i j l l2 b k1 k2 q2 r2 q3 r3⟩
   ·exact (apart m' b em' hsb'.occ hsb.occ).elim
  ·by_cases em':m'=n
   ·subst em';exact (apart m b em hsb.occ hsb'.occ).elim
   ·by_cases e2:m'=m
    ·subst e2
     obtain ⟨sz1,c1,isz1,es1,pd1,l,k1,q1,q2,q3⟩:=hsb
     obtain ⟨sz2,c2,isz2,es2,pd2,l2,k2,r1,r2,r3⟩:=hsb'
     rw [hlook_cons,if_neg (Ne.symm em)] at q1 r1
     exact (S.dsub m' i b ⟨sz1,c1,isz1,es1,pd1,l,k1,q1,q2,by rw [← hs m' em];exact q3⟩).2 m' j ⟨sz2,c2,isz2,es2,pd2,l2,k2,r1,r2,by rw [← hs m' em];exact r3⟩
    ·exact (S.occ_dis (Ne.symm e2) (back m b hsb.occ em) (back m' b hsb'.occ em')).elim
 ·obtain ⟨D,e1,e2,e3⟩:=S.marks.1 d hd
  have hc:¬ Occ ρ h n D:=fun hc=>by
   obtain ⟨_,ob0,q1,q2⟩:=S.occ hc
   rw [q1] at e3;exact q2 _ (Option.some.inj e3)
  exact ⟨D,e1,e2,by rw [hkeep D (Array.getElem?_eq_some_iff.1 e3).1 hc];exact e3⟩
section
variable (hG:GOk G M0) (S:Sim B nt M0 w0 M ρ t h a w)
include hG S
theorem nrow_cells {n sz c isz:Nat} {es:List DV} {pd:Option (Nat×List DV)} (hl:hlook h n=some (.nrow sz c isz es pd)) {b k:Nat} (hρ:ρ n=some (b,k)):∃ cs ty,w.heap[b]?=some (.cells cs (tyN n ty) (0,0))∧cs.size=k * sz∧es.length≤k∧(∀ e ∈ es,okE sz e=true)∧B.wr b∧(∀ o,M b o=none) ∧
  ∀ i j,i < es.length→j < sz→w.cell? ⟨b,i * sz+j,none⟩=some (cs.getD (i * sz+j) Go.undef)∧CellAt M (ρ.sub n i) c isz pd i j ((es.getD i .undef).cells.getD j .undef) (cs.getD (i * sz+j) Go.undef):=by
 obtain ⟨_,_,h3⟩:=S.obj n _ hl
 rw [hρ] at h3
 obtain ⟨g1,cs,ty,g2,g3,g4,g5,g6,g7⟩:=h3
 refine ⟨cs,ty,g2,g3,g4,g5,g1,g7,fun i j hi hj=>⟨?_,g6 i hi j hj⟩⟩
 have hlt2:i * sz+j < cs.size:=by
  have:(i+1) * sz≤k * sz:=Nat.mul_le_mul_right _ (by omega)
  rw [Nat.succ_mul] at this;omega
 rw [cell_of_heap g2,agetD_lt hlt2,Array.getElem?_eq_getElem hlt2]
theorem cell_open {n sz c isz i j:Nat} {es:List DV} {d:DV} {v:Value} (hl:hlook h n=some (.nrow sz c isz es none)) (hi:i < es.length) (hd:(es.getD i .undef).cells.getD j .undef=d) (hc:CellAt M (ρ.sub n i) c isz none i j d v):RelV M ρ h (openC n i d) v:=by
 unfold CellAt at hc
 cases d with
 |inn l =>
  obtain ⟨rfl,hs,hsl⟩:=hc
  refine .subv n i 0 l.length l.length v hs (.inl ⟨sz,j,isz,es,none,hl,.inl hi,fun l' e=>?_⟩)
  rw [curL_none,innOf_cell,hd] at e
  cases e
  exact ⟨Nat.le_refl _,fun _=>hsl (fun l' e=>by cases e)⟩
 |_=>exact .pure hc
theorem op_load_nrow (ty:TypeId) (x:Operand) (n i off tot sz c isz:Nat) (es:List DV) (ho:o.op=.load ty x) (he:elemT P ty=some (1,false)) (hx:evalOpd G t x=.ptr n i off tot) (hl:hlook h n=some (.nrow sz c isz es none))
  (hb:tot=es.length∧off < sz):OpGoal P B nt M0 w0 M ρ t h a w o (openC n i ((es.getD i .undef).cells.getD off .undef)) []:=by
 have r1:=S.opd hG x;rw [hx] at r1
 obtain ⟨h1,h2,h3⟩:=r1.inv_nptr hl
 obtain ⟨b,k,h4,h5⟩:=h3 hb.1
 obtain ⟨cs,ty',e3,e4,e5,e6,_,_,e7⟩:=nrow_cells hG S hl h4
 obtain ⟨h6,h7⟩:=e7 i off (by omega) hb.2
 refine OpGoal.same S (v:=cs.getD (i * sz+off) Go.undef) ?_ (cell_open hG S hl (by omega) rfl h7)
 have:=loadVar_run1 (P:=P) he h6
 simp only [execOp,ho,h5,Instr.loadAt,Instr.sureAddr,Sem.run_bind,Sem.run_pure,Result.andThen_ok,this]
theorem op_load_nrow_agg (ty:TypeId) (x:Operand) (n i off tot sz c isz k:Nat) (es:List DV) (ho:o.op=.load ty x) (he:elemT P ty=some (k,true)) (hx:evalOpd G t x=.ptr n i off tot) (hl:hlook h n=some (.nrow sz c isz es none))
  (hb:tot=es.length∧off+k≤sz):OpGoal P B nt M0 w0 M ρ t h a w o (.agg ((((es.getD i .undef).cells.drop off).take k).map (openC n i))) []:=by
 have r1:=S.opd hG x;rw [hx] at r1
 obtain ⟨h1,h2,h3⟩:=r1.inv_nptr hl
 obtain ⟨b,k',h4,h5⟩:=h3 hb.1
 obtain ⟨cs,ty',e3,e4,e5,e6,_,_,e7⟩:=nrow_cells hG S hl h4
 have hi:i < es.length:=by omega
 have hlen:(es.getD i .undef).cells.length=sz:=(okE_spec (e6 _ (by rw [getD_lt hi];exact List.getElem_mem hi))).1
 refine OpGoal.same S (v:=.agg (gcells (fun j=>cs.getD (i * sz+(off+j)) Go.undef) k)) ?_ (.agg _ _ (by rw [gcells_size,List.length_map,List.length_take,List.length_drop];omega) (fun j hj=>?_))
 ·have:=loadVar_run (P:=P) he (b:=b) (o:=i * sz+off) (g:=fun j=>cs.getD (i * sz+(off+j)) Go.undef) (w:=w) (fun j hj=>by rw [Nat.add_assoc];exact (e7 i (off+j) hi (by omega)).1)
  simp only [execOp,ho,h5,Instr.loadAt,Instr.sureAddr,Sem.run_bind,Sem.run_pure,Result.andThen_ok,this,cond_true]
 ·have hj':j < k:=by simp at hj;omega
  have hget:((((es.getD i .undef).cells.drop off).take k).map (openC n i)).getD j .undef=openC n i ((es.getD i .undef).cells.getD (off+j) .undef):=by
   rw [← take_drop_getD _ _ _ _ _ hj']
   simp only [List.getD_eq_getElem?_getD,List.getElem?_map]
   have hlt:j < (((es.getD i .undef).cells.drop off).take k).length:=by rw [List.length_take,List.length_drop];omega
   simp only [List.getD_eq_getElem?_getD] at hlt
   rw [List.getElem?_eq_getElem hlt];rfl
  rw [gcells_getD _ hj',hget]
  exact cell_open hG S hl hi rfl (e7 i (off+j) hi (by omega)).2
theorem op_iaddr_nown (ty e:TypeId) (x i:Operand) (sz:Nat) (m off len tot c isz:Nat) (es:List DV) (pd:Option (Nat×List DV)) (k:IntKind) (n:Int) (ho:o.op=.indexAddr ty x i) (ht:P.underlying ty=some (.slice e)) (hs:sizeT P e=some sz)
  (hx:evalOpd G t x=.own m off len tot) (hl:hlook h m=some (.nrow sz c isz es pd)) (hi:evalOpd G t i=.int k n) (hb:tot=es.length∧0≤n∧n < len) :
  OpGoal P B nt M0 w0 M ρ t h a w o (.ptr m (off+n.toNat) 0 tot) []:=by
 obtain ⟨hb0,hb1,hb2⟩:=hb
 have r2:=S.opd hG i;rw [hi] at r2
 have ei:=r2.inv_int
 have r1:=S.opd hG x;rw [hx] at r1
 obtain ⟨h1,h2⟩:=r1.inv_nown hl
 obtain ⟨h3,h4⟩:=h2 hb0
 cases hρ:ρ m with
 |none =>
  exfalso
  obtain ⟨_,_,this⟩:=S.obj m _ hl
  rw [hρ] at this
  subst this;simp at hb0;omega
 |some bc =>
  obtain ⟨b,c'⟩:=bc
  rw [hρ] at h4
  obtain ⟨a',e1,h5⟩:=h4
  rcases h5 with h5|h5
  ·subst h5
   refine OpGoal.same S (v:=.pointer (some ⟨b,off * sz+n.toNat * sz,none⟩)) ?_ (.nptr _ _ _ _ _ _ _ _ _ _ hl h1 (by omega) ⟨_,rfl⟩ (fun _=>⟨b,c',hρ,by rw [Nat.add_mul,Nat.add_zero]⟩))
   simp only [execOp,ho,e1,ei,Sem.run_bind,indexAt_slice hG S ht hs k n b (off * sz) len (c' - off) ⟨hb1,hb2⟩,Result.andThen_ok,Sem.run_pure]
  ·omega
theorem op_faddr_nptr (s:TypeId) (x:Operand) (f off sz:Nat) (agg:Bool) (n i o1 tot sz' c isz:Nat) (es:List DV) (pd:Option (Nat×List DV)) (ho:o.op=.fieldAddr s x f) (hf:fieldOf P s f=some (off,sz,agg))
  (hx:evalOpd G t x=.ptr n i o1 tot) (hl:hlook h n=some (.nrow sz' c isz es pd)) (ht:tot=es.length):OpGoal P B nt M0 w0 M ρ t h a w o (.ptr n i (o1+off) tot) []:=by
 have r1:=S.opd hG x;rw [hx] at r1
 obtain ⟨h1,h2,h3⟩:=r1.inv_nptr hl
 obtain ⟨b,c',h4,h5⟩:=h3 ht
 refine OpGoal.same S (v:=.pointer (some ⟨b,i * sz'+o1+off,none⟩)) ?_ (.nptr _ _ _ _ _ _ _ _ _ _ hl h1 h2 ⟨_,rfl⟩ (fun _=>⟨b,c',h4,by rw [Nat.add_assoc]⟩))
 simp only [execOp,ho,h5,Sem.run_bind,fieldAt_run hG S hf,Result.andThen_ok,Sem.run_pure]
theorem sub_slice {n i off len tot sz c isz:Nat} {es l:List DV} {pd:Option (Nat×List DV)} {v:Value} (hr:RelV M ρ h (.sub n i off len tot) v) (hl:hlook h n=some (.nrow sz c isz es pd)) (hc:curL c es pd i=some l) (ht:tot=l.length) :
  off+len≤tot∧((ρ.sub n i=none∧l=[]∧∃ a',v=.slice a' len 0)∨∃ b k cs ty,ρ.sub n i=some (b,k)∧B.wr b∧w.heap[b]?=some (.cells cs ty (0,0))∧cs.size=k * isz∧l.length≤k∧(∀ e ∈ l,okE isz e=true) ∧
   (∀ i,i < (flat l).length→RelP M ((flat l).getD i .undef) (cs.getD i Go.undef))∧(∀ o,M b o=none)∧∃ a',v=.slice a' len (k - off)∧(a'=some ⟨b,off * isz,none⟩∨(len=0∧off≠0))):=by
 obtain ⟨h1,h2,h3⟩:=hr.inv_sub hl hc
 obtain ⟨h4,h5⟩:=h3 ht
 obtain ⟨_,g2,_⟩:=S.obj n _ hl
 have g3:=g2 i l hc
 unfold InnerAt at g3
 refine ⟨h4,?_⟩
 cases e:ρ.sub n i with
 |none=>rw [e] at g3 h5;exact .inl ⟨rfl,g3,h5⟩
 |some bk =>
  obtain ⟨b,k⟩:=bk
  rw [e] at g3 h5
  obtain ⟨q1,cs,ty,q2,q3,q4,q5,q6,q7⟩:=g3
  exact .inr ⟨b,k,cs,ty,rfl,q1,q2,q3,q4,q5,q6,q7,h5⟩
theorem op_iaddr_sub (ty e:TypeId) (x i:Operand) (isz:Nat) (m q off len tot sz c:Nat) (es l:List DV) (k:IntKind) (n:Int) (ho:o.op=.indexAddr ty x i) (ht:P.underlying ty=some (.slice e)) (hs:sizeT P e=some isz)
  (hx:evalOpd G t x=.sub m q off len tot) (hl:hlook h m=some (.nrow sz c isz es none)) (hc:innOf c (es.getD q .undef)=some l) (hi:evalOpd G t i=.int k n) (hb:tot=l.length∧0≤n∧n < len) :
  OpGoal P B nt M0 w0 M ρ t h a w o (.sptr m q (off+n.toNat) 0 tot) []:=by
 obtain ⟨hb0,hb1,hb2⟩:=hb
 have r2:=S.opd hG i;rw [hi] at r2
 have ei:=r2.inv_int
 have r1:=S.opd hG x;rw [hx] at r1
 obtain ⟨h0,_⟩:=r1.inv_sub hl hc
 obtain ⟨h1,h2⟩:=sub_slice hG S r1 hl hc hb0
 rcases h2 with ⟨_,h3,_⟩|⟨b,c',cs,ty',e1,e2,e3,e4,e5,e6,e7,e8,a',ev,h5⟩
 ·subst h3;simp at hb0;omega
 ·rcases h5 with h5|h5
  ·subst h5
   refine OpGoal.same S (v:=.pointer (some ⟨b,off * isz+n.toNat * isz,none⟩)) ?_ (.sptrv _ _ _ _ _ _ ⟨_,rfl⟩ (.inl ⟨sz,c,isz,es,none,hl,h0,fun l' e=>?_⟩))
   ·simp only [execOp,ho,ev,ei,Sem.run_bind,indexAt_slice hG S ht hs k n b (off * isz) len (c' - off) ⟨hb1,hb2⟩,Result.andThen_ok,Sem.run_pure]
   ·rw [curL_none,hc] at e;cases e
    exact ⟨by omega,fun _=>⟨by omega,b,c',e1,by rw [Nat.add_mul,Nat.add_zero]⟩⟩
  ·omega
theorem sptr_cell {n i j off tot sz c isz:Nat} {es l:List DV} {v:Value} (hr:RelV M ρ h (.sptr n i j off tot) v) (hl:hlook h n=some (.nrow sz c isz es none)) (hc:innOf c (es.getD i .undef)=some l) (ht:tot=l.length) :
  j < l.length∧i < es.length∧∃ b k cs ty,ρ.sub n i=some (b,k)∧v=.pointer (some ⟨b,j * isz+off,none⟩)∧B.wr b∧w.heap[b]?=some (.cells cs ty (0,0))∧cs.size=k * isz∧l.length≤k∧(∀ e ∈ l,okE isz e=true)∧(∀ o,M b o=none) ∧
   ∀ i j,i < l.length→j < isz→w.cell? ⟨b,i * isz+j,none⟩=some (cs.getD (i * isz+j) Go.undef)∧RelP M ((l.getD i .undef).cells.getD j .undef) (cs.getD (i * isz+j) Go.undef):=by
 obtain ⟨h0,h1,h2⟩:=hr.inv_sptr hl (hc:curL c es none i=some l)
 obtain ⟨h3,b,k,h4,h5⟩:=h2 ht
 obtain ⟨_,g2,_⟩:=S.obj n _ hl
 have g3:=g2 i l hc
 unfold InnerAt at g3
 rw [h4] at g3
 obtain ⟨q1,cs,ty,q2,q3,q4,q5,q6,q7⟩:=g3
 have hs:∀ e ∈ l,e.cells.length=isz:=fun e he=>(okE_spec (q5 e he)).1
 refine ⟨by omega,(by rcases h0 with h|⟨_,h⟩;exact h;cases h),b,k,cs,ty,h4,h5,q1,q2,q3,q4,q5,q7,fun i j hi hj=>?_⟩
 have hlt:i * isz+j < l.length * isz:=by
  have:(i+1) * isz≤l.length * isz:=Nat.mul_le_mul_right _ hi
  rw [Nat.succ_mul] at this;omega
 have hlt2:i * isz+j < cs.size:=by
  have:l.length * isz≤k * isz:=Nat.mul_le_mul_right _ q4
  omega
 refine ⟨?_,?_⟩
 ·rw [cell_of_heap q2,agetD_lt hlt2,Array.getElem?_eq_getElem hlt2]
 ·have:=q6 (i * isz+j) (by rw [length_flat l isz hs];exact hlt)
  rwa [getElem_flat l isz hs i j hi hj] at this
theorem op_load_sptr (ty:TypeId) (x:Operand) (n i j off tot sz c isz:Nat) (es l:List DV) (ho:o.op=.load ty x) (he:elemT P ty=some (1,false)) (hx:evalOpd G t x=.sptr n i j off tot) (hl:hlook h n=some (.nrow sz c isz es none)) (hc:innOf c (es.getD i .undef)=some l)
  (hb:tot=l.length∧off < isz):OpGoal P B nt M0 w0 M ρ t h a w o ((l.getD j .undef).cells.getD off .undef) []:=by
 have r1:=S.opd hG x;rw [hx] at r1
 obtain ⟨h1,_,b,k,cs,ty',h4,h5,e2,e3,e4,e5,e6,_,e7⟩:=sptr_cell hG S r1 hl hc hb.1
 obtain ⟨h6,h7⟩:=e7 j off h1 hb.2
 refine OpGoal.same S (v:=cs.getD (j * isz+off) Go.undef) ?_ (.pure h7)
 have:=loadVar_run1 (P:=P) he h6
 simp only [execOp,ho,h5,Instr.loadAt,Instr.sureAddr,Sem.run_bind,Sem.run_pure,Result.andThen_ok,this]
theorem op_load_sptr_agg (ty:TypeId) (x:Operand) (n i j off tot sz c isz k:Nat) (es l:List DV) (ho:o.op=.load ty x) (he:elemT P ty=some (k,true)) (hx:evalOpd G t x=.sptr n i j off tot) (hl:hlook h n=some (.nrow sz c isz es none)) (hc:innOf c (es.getD i .undef)=some l)
  (hb:tot=l.length∧off+k≤isz):OpGoal P B nt M0 w0 M ρ t h a w o (.agg (((l.getD j .undef).cells.drop off).take k)) []:=by
 have r1:=S.opd hG x;rw [hx] at r1
 obtain ⟨h1,_,b,k',cs,ty',h4,h5,e2,e3,e4,e5,e6,_,e7⟩:=sptr_cell hG S r1 hl hc hb.1
 have hlen:(l.getD j .undef).cells.length=isz:=(okE_spec (e6 _ (by rw [getD_lt h1];exact List.getElem_mem h1))).1
 refine OpGoal.same S (v:=.agg (gcells (fun q=>cs.getD (j * isz+(off+q)) Go.undef) k)) ?_ (.agg _ _ (by rw [gcells_size,List.length_take,List.length_drop];omega) (fun q hq=>?_))
 ·have:=loadVar_run (P:=P) he (b:=b) (o:=j * isz+off) (g:=fun q=>cs.getD (j * isz+(off+q)) Go.undef) (w:=w) (fun q hq=>by rw [Nat.add_assoc];exact (e7 j (off+q) h1 (by omega)).1)
  simp only [execOp,ho,h5,Instr.loadAt,Instr.sureAddr,Sem.run_bind,Sem.run_pure,Result.andThen_ok,this,cond_true]
 ·have hq':q < k:=by simp at hq;omega
  rw [gcells_getD _ hq',take_drop_getD _ _ _ _ _ hq']
  exact .pure (e7 j (off+q) h1 (by omega)).2
theorem op_faddr_sptr (s:TypeId) (x:Operand) (f off sz:Nat) (agg:Bool) (n i j o1 tot sz' c isz:Nat) (es l:List DV) (ho:o.op=.fieldAddr s x f) (hf:fieldOf P s f=some (off,sz,agg))
  (hx:evalOpd G t x=.sptr n i j o1 tot) (hl:hlook h n=some (.nrow sz' c isz es none)) (hc:innOf c (es.getD i .undef)=some l) (ht:tot=l.length):OpGoal P B nt M0 w0 M ρ t h a w o (.sptr n i j (o1+off) tot) []:=by
 have r1:=S.opd hG x;rw [hx] at r1
 obtain ⟨h1,h2,b,k,cs,ty',h4,h5,_⟩:=sptr_cell hG S r1 hl hc ht
 refine OpGoal.same S (v:=.pointer (some ⟨b,j * isz+o1+off,none⟩)) ?_ (.sptrv _ _ _ _ _ _ ⟨_,rfl⟩ (.inl ⟨sz',c,isz,es,none,hl,.inl h2,fun l' e=>?_⟩))
 ·simp only [execOp,ho,h5,Sem.run_bind,fieldAt_run hG S hf,Result.andThen_ok,Sem.run_pure]
 ·rw [curL_none,hc] at e;cases e
  exact ⟨by omega,fun _=>⟨by omega,b,k,h4,by rw [Nat.add_assoc]⟩⟩
end
end
end Sh
