/-
  Chapter 8's functions, walked over pure data: the library of the walk, the functions' code over data, and what each computes. (part 3)
-/
import Derived.Test.YtcgajpaohlggpaaGreatDoorP2
import Derived.LoopNIn
import Derived.RangeFuncLeaves
import Derived.RangeFuncOwn
set_option linter.unusedVariables false
set_option linter.unusedSimpArgs false
/- A call that is given objects: their names,before it and behind it. -/
set_option linter.unusedSectionVars false
namespace Sh
open Go
theorem distinct_nodup:∀ {l:List Nat},distinct l=true→l.Nodup
 |[],_=>List.nodup_nil
 |n :: r,h=>by
  simp only [distinct,Bool.and_eq_true,Bool.not_eq_true'] at h
  refine List.nodup_cons.2 ⟨fun hm=>?_,distinct_nodup h.2⟩
  rw [any_beq.2 hm] at h;exact absurd h.1 (by simp)
theorem nodup_of_map {f:Nat→Nat}:∀ {l:List Nat},(l.map f).Nodup→l.Nodup
 |[],_=>List.nodup_nil
 |a :: r,h=>by
  simp only [List.map_cons,List.nodup_cons] at h
  exact List.nodup_cons.2 ⟨fun hm=>h.1 (List.mem_map.2 ⟨a,hm,rfl⟩),nodup_of_map h.2⟩
theorem nodup_rev {l:List Nat} (h:l.Nodup):l.reverse.Nodup:=(List.reverse_perm l).nodup_iff.2 h
theorem hlook_of_mem:∀ {h:Heap},(h.map (·.1)).Nodup→∀ {n:Nat} {o:DObj},(n,o) ∈ h→hlook h n=some o
 |[],_,_,_,hm=>by simp at hm
 |(k,p) :: r,hd,n,o,hm=>by
  rw [hlook_cons]
  simp only [List.map_cons,List.nodup_cons] at hd
  rcases List.mem_cons.1 hm with e|hm
  ·cases e;rw [if_pos rfl]
  ·have:k≠n:=fun e=>hd.1 (by rw [e];exact List.mem_map.2 ⟨(n,o),hm,rfl⟩)
   rw [if_neg this];exact hlook_of_mem hd.2 hm
theorem mem_of_hlook:∀ {h:Heap} {n:Nat} {o:DObj},hlook h n=some o→(n,o) ∈ h
 |[],n,o,e=>by simp [hlook] at e
 |(k,p) :: r,n,o,e=>by
  rw [hlook_cons] at e
  by_cases hk:k=n
  ·subst hk;rw [if_pos rfl] at e;cases e;simp
  ·rw [if_neg hk] at e;exact List.mem_cons_of_mem _ (mem_of_hlook e)
theorem hereH_mem {lk:Nat→Option DObj} {π:List (Nat×Nat)}:∀ {h:Heap},hereH lk π h→∀ {n:Nat} {o:DObj},(n,o) ∈ h→lk (app π n)=some (renO π o)
 |[],_,_,_,hm=>by simp at hm
 |(k,p) :: r,hh,n,o,hm=>by
  rcases List.mem_cons.1 hm with e|hm
  ·cases e;exact hh.1
  ·exact hereH_mem hh.2 hm
theorem freeH_mem {lk:Nat→Option DObj} {π:List (Nat×Nat)} {h0:Heap}:∀ {h:Heap},freeH lk π h0 h→∀ {n:Nat} {o:DObj},(n,o) ∈ h→n ∈ h0.map (·.1)∨lk (app π n)=none
 |[],_,_,_,hm=>by simp at hm
 |(k,p) :: r,hh,n,o,hm=>by
  rcases List.mem_cons.1 hm with e|hm
  ·cases e;exact hh.1.imp any_beq.1 id
  ·exact freeH_mem hh.2 hm
theorem rens_length (π:List (Nat×Nat)):∀ l:List DV,(rens π l).length=l.length
 |[]=>rfl
 |d :: r=>by simp [rens,rens_length π r]
theorem rens_getD (π:List (Nat×Nat)):∀ (l:List DV) (i:Nat),i < l.length→(rens π l).getD i .undef=ren π (l.getD i .undef)
 |[],i,hi=>by simp at hi
 |d :: r,0,_=>rfl
 |d :: r,i+1,hi=>by simpa [rens] using rens_getD π r i (by simpa using hi)
theorem ren_cells_length (π:List (Nat×Nat)) (d:DV):(ren π d).cells.length=d.cells.length:=by
 cases d<;>simp [ren,DV.cells,rens_length]
theorem namesIns_getD {l:List Nat}:∀ {cs:List DV},namesIns l cs=true→∀ i,i < cs.length→namesIn l (cs.getD i .undef)=true
 |[],_,i,hi=>by simp at hi
 |d :: r,h,0,_=>by simp only [namesIns,Bool.and_eq_true] at h;exact h.1
 |d :: r,h,i+1,hi=>by
  simp only [namesIns,Bool.and_eq_true] at h
  simpa using namesIns_getD h.2 i (by simpa using hi)
theorem ren_cells {π:List (Nat×Nat)} {l:List Nat} (d:DV) (i:Nat) (hi:i < d.cells.length) (hn:namesIn l d=true):(ren π d).cells.getD i .undef=ren π (d.cells.getD i .undef)∧namesIn l (d.cells.getD i .undef)=true:=by
 cases d with
 |agg cs =>
  have hn':namesIns l cs=true:=by simpa [namesIn] using hn
  exact ⟨rens_getD π cs i hi,namesIns_getD hn' i hi⟩
 |_ =>
  have hi0:i=0:=by simp [DV.cells] at hi;omega
  subst hi0
  exact ⟨rfl,hn⟩
theorem cellB_ren (π:List (Nat×Nat)) (d:DV):cellB (ren π d)=cellB d:=by cases d<;>rfl
theorem cellsB_rens (π:List (Nat×Nat)):∀ cs:List DV,cellsB (rens π cs)=cellsB cs
 |[]=>rfl
 |d :: r=>by simp [rens,cellsB,cellB_ren,cellsB_rens π r]
theorem cells_ren (π:List (Nat×Nat)) (d:DV):(ren π d).cells=rens π d.cells:=by cases d<;>simp [ren,DV.cells,rens]
theorem okE_ren (π:List (Nat×Nat)) (sz:Nat) (d:DV):okE sz (ren π d)=okE sz d:=by
 unfold okE;rw [cells_ren,cellsB_rens,rens_length]
theorem okE_unren {π:List (Nat×Nat)} {sz:Nat} {d:DV} (h:okE sz (ren π d)=true):okE sz d=true:=by rw [← okE_ren π];exact h
def unLoc (π:List (Nat×Nat)) (h:Heap) (ρ:Locs):Locs:=fun n=>if n ∈ h.map (·.1) then ρ (app π n) else none
section
variable {P:Program} {G:Nat→Option DV} {B:Base} {nt:Nat} {M0:Mem} {w0:World} {M:Mem} {ρ:Locs} {t:Tmps} {H:Heap} {a:Act} {w:World} {π:List (Nat×Nat)} {ds:List DV} {hs hs':Heap}
theorem inst_spec (hi:instOk π ds hs hs'=true):(hs.map (·.1)).Nodup∧(hs'.map fun x=>app π x.1).Nodup∧(∀ n ∈ hs.map (·.1),n ∈ hs'.map (·.1))∧namesIns (hs.map (·.1)) ds=true∧namesInH (hs.map (·.1)) hs=true:=by
 simp only [instOk,Bool.and_eq_true] at hi
 obtain ⟨⟨⟨⟨⟨_,h1⟩,h2⟩,h3⟩,h4⟩,h5⟩:=hi
 exact ⟨distinct_nodup h1,distinct_nodup h2,fun n hn=>any_beq.1 (List.all_eq_true.1 h3 n hn),h4,h5⟩
theorem app_ty (hi:instOk π ds hs hs'=true) {n:Nat} (hn:n ∈ hs'.map (·.1)) (t:TypeId):tyN (app π n) t=tyN n t:=by
 simp only [instOk,Bool.and_eq_true] at hi
 obtain ⟨⟨⟨⟨⟨h0,_⟩,_⟩,_⟩,_⟩,_⟩:=hi
 obtain ⟨x,hx,rfl⟩:=List.mem_map.1 hn
 have:=Nat.eq_of_beq_eq_true (List.all_eq_true.1 h0 x hx)
 unfold tyN
 rw [← this]
theorem namesInH_mem {l:List Nat}:∀ {h:Heap},namesInH l h=true→∀ {n:Nat} {o:DObj},(n,o) ∈ h→namesInO l o=true
 |[],_,_,_,hm=>by simp at hm
 |(k,p) :: r,hh,n,o,hm=>by
  simp only [namesInH,Bool.and_eq_true] at hh
  rcases List.mem_cons.1 hm with e|hm
  ·cases e;exact hh.1
  ·exact namesInH_mem hh.2 hm
theorem here_look (hi:instOk π ds hs hs'=true) (hh:hereH (hlook H) π hs) {n:Nat} (hn:n ∈ hs.map (·.1)):∃ o,hlook hs n=some o∧hlook H (app π n)=some (renO π o):=by
 obtain ⟨h1,_⟩:=inst_spec hi
 obtain ⟨x,hx,e⟩:=List.mem_map.1 hn
 obtain ⟨k,o⟩:=x
 simp only at e;subst e
 exact ⟨o,hlook_of_mem h1 hx,hereH_mem hh hx⟩
mutual
theorem unren (hi:instOk π ds hs hs'=true) (hh:hereH (hlook H) π hs) (d:DV) (v:Value) (hn:namesIn (hs.map (·.1)) d=true) (hr:RelV M ρ H (ren π d) v):RelV M (unLoc π hs ρ) hs d v:=by
 cases d with
 |agg cs =>
  obtain ⟨vs,rfl,hl,h1⟩:=RelV.inv_agg (by simpa [ren] using hr)
  rw [rens_length] at hl h1
  exact .agg cs vs hl (unrens hi hh cs (fun i=>vs.getD i Go.undef) (by simpa [namesIn] using hn) (fun i hlt=>by rw [← rens_getD π cs i hlt];exact h1 i hlt))
 |tuple cs =>
  obtain ⟨vs,rfl,hl,h1⟩:=RelV.inv_tuple (by simpa [ren] using hr)
  rw [rens_length] at hl h1
  exact .tuple cs vs hl (unrens hi hh cs (fun i=>vs.getD i Go.undef) (by simpa [namesIn] using hn) (fun i hlt=>by rw [← rens_getD π cs i hlt];exact h1 i hlt))
 |func f cs =>
  obtain ⟨vs,rfl,hl,h1⟩:=RelV.inv_func (by simpa [ren] using hr)
  rw [rens_length] at hl h1
  exact .func f cs vs hl (unrens hi hh cs (fun i=>vs.getD i Go.undef) (by simpa [namesIn] using hn) (fun i hlt=>by rw [← rens_getD π cs i hlt];exact h1 i hlt))
 |meth f cs =>
  obtain ⟨vs,rfl,hl,h1⟩:=RelV.inv_meth (by simpa [ren] using hr)
  rw [rens_length] at hl h1
  exact .meth f cs vs hl (unrens hi hh cs (fun i=>vs.getD i Go.undef) (by simpa [namesIn] using hn) (fun i hlt=>by rw [← rens_getD π cs i hlt];exact h1 i hlt))
 |own n off len tot =>
  have hm:=any_beq.1 (show (hs.map (·.1)).any (Nat.beq n)=true from hn)
  obtain ⟨o,e1,e2⟩:=here_look hi hh hm
  simp only [ren] at hr
  cases hr with
  |pure hp=>cases hp
  |own _ _ _ _ sz es fr _ hl ht hs0 hv =>
   rw [e2] at hl
   have:o=.row sz es fr:=by cases o<;>simp_all [renO]
   subst this
   exact .own n off len tot sz es fr v e1 ht hs0 (by unfold unLoc;rw [if_pos hm];exact hv)
 |ptr n i off tot =>
  have hm:=any_beq.1 (show (hs.map (·.1)).any (Nat.beq n)=true from hn)
  obtain ⟨o,e1,e2⟩:=here_look hi hh hm
  simp only [ren] at hr
  cases hr with
  |pure hp=>cases hp
  |ptr _ _ _ _ sz es fr _ hl ht hi0 hs0 hv =>
   rw [e2] at hl
   have:o=.row sz es fr:=by cases o<;>simp_all [renO]
   subst this
   exact .ptr n i off tot sz es fr v e1 ht hi0 hs0 (by unfold unLoc;rw [if_pos hm];exact hv)
 |bptr n off =>
  have hm:=any_beq.1 (show (hs.map (·.1)).any (Nat.beq n)=true from hn)
  obtain ⟨o,e1,e2⟩:=here_look hi hh hm
  simp only [ren] at hr
  cases hr with
  |pure hp=>cases hp
  |bptr _ _ sz b c d' hl hρ =>
   rw [e2] at hl
   obtain ⟨d0,rfl⟩:∃ d0,o=.box sz d0:=by cases o<;>simp_all [renO]
   exact .bptr n off sz b c d0 e1 (by unfold unLoc;rw [if_pos hm];exact hρ)
  |fptr _ _ sz b c d' hl hρ =>
   rw [e2] at hl
   obtain ⟨d0,rfl⟩:∃ d0,o=.fbox sz d0:=by cases o<;>simp_all [renO]
   exact .fptr n off sz b c d0 e1 (by unfold unLoc;rw [if_pos hm];exact hρ)
 |dict n =>
  have hm:=any_beq.1 (show (hs.map (·.1)).any (Nat.beq n)=true from hn)
  obtain ⟨o,e1,e2⟩:=here_look hi hh hm
  simp only [ren] at hr
  cases hr with
  |pure hp=>cases hp
  |dictv _ b c es hl hρ =>
   rw [e2] at hl
   have:o=.dict es:=by cases o<;>simp_all [renO]
   subst this
   exact .dictv n b c es e1 (by unfold unLoc;rw [if_pos hm];exact hρ)
  |sitv _ b c pos s hl hρ =>
   rw [e2] at hl
   have:o=.siter s pos:=by cases o<;>simp_all [renO]
   subst this
   exact .sitv n b c pos s e1 (by unfold unLoc;rw [if_pos hm];exact hρ)
  |yldv _ l rest live hl =>
   rw [e2] at hl
   have:o=.ghost rest live l:=by cases o<;>simp_all [renO]
   subst this
   exact .yldv n l rest live e1
 |_=>cases hr with|pure hp=>exact .pure hp
theorem unrens (hi:instOk π ds hs hs'=true) (hh:hereH (hlook H) π hs) (l:List DV) (vs:Nat→Value) (hn:namesIns (hs.map (·.1)) l=true) (hr:∀ i,i < l.length→RelV M ρ H (ren π (l.getD i .undef)) (vs i)) :
  ∀ i,i < l.length→RelV M (unLoc π hs ρ) hs (l.getD i .undef) (vs i):=by
 cases l with
 |nil=>intro i hi;simp at hi
 |cons d r =>
  simp only [namesIns,Bool.and_eq_true] at hn
  intro i hlt
  cases i with
  |zero=>exact unren hi hh d (vs 0) hn.1 (by simpa using hr 0 (by simp))
  |succ i =>
   have:=unrens hi hh r (fun i=>vs (i+1)) hn.2 (fun i hi=>by simpa using hr (i+1) (by simpa using hi)) i (by simpa using hlt)
   simpa using this
end
theorem unrenVs (S:Sim B nt M0 w0 M ρ t H a w) {vs:List DV} {args:Array Value} (h1:rens π ds=vs) (hi:instOk π ds hs hs'=true) (hh:hereH (hlook H) π hs)
  (hr:vs.length=args.size∧∀ i,i < vs.length→RelV M ρ H (vs.getD i .undef) (args.getD i Go.undef)):RelVs M (unLoc π hs ρ) hs ds args:=by
 subst h1
 obtain ⟨r1,r2⟩:=hr
 rw [rens_length] at r1 r2
 exact ⟨r1,unrens hi hh ds (fun i=>args.getD i Go.undef) (inst_spec hi).2.2.2.1 (fun i hlt=>by rw [← rens_getD π ds i hlt];exact r2 i hlt)⟩
theorem wr_any (b:Nat):anyB.wr b:=.inl (Nat.zero_le _)
theorem app_inj (hi:instOk π ds hs hs'=true) {n m:Nat} (hn:n ∈ hs'.map (·.1)) (hm:m ∈ hs'.map (·.1)) (e:app π n=app π m):n=m:=by
 obtain ⟨_,h2,_⟩:=inst_spec hi
 have key:∀ {l:Heap},(l.map fun x=>app π x.1).Nodup→∀ {n m:Nat},n ∈ l.map (·.1)→m ∈ l.map (·.1)→app π n=app π m→n=m:=by
  intro l
  induction l with
  |nil=>intro _ n m hn;simp at hn
  |cons x r ih =>
   intro hd n m hn hm e
   simp only [List.map_cons,List.nodup_cons] at hd
   simp only [List.map_cons,List.mem_cons] at hn hm
   have hr:∀ {k:Nat},k ∈ r.map (·.1)→app π k ∈ r.map fun x=>app π x.1:=fun {k} hk=>by
    obtain ⟨y,hy,e⟩:=List.mem_map.1 hk
    exact List.mem_map.2 ⟨y,hy,by rw [e]⟩
   rcases hn with rfl|hn<;>rcases hm with rfl|hm
   ·rfl
   ·exact absurd (by rw [e];exact hr hm) hd.1
   ·exact absurd (by rw [← e];exact hr hn) hd.1
   ·exact ih hd.2 hn hm e
 exact key h2 hn hm e
theorem Sim.heapIn (S:Sim B nt M0 w0 M ρ t H a w) (hi:instOk π ds hs hs'=true) (hh:hereH (hlook H) π hs):HeapIn M (unLoc π hs ρ) hs w:=by
 obtain ⟨h1,h2,h3,h4,h5⟩:=inst_spec hi
 have hmem:∀ {n:Nat} {o:DObj},hlook hs n=some o→n ∈ hs.map (·.1):=fun {n o} e=>List.mem_map.2 ⟨(n,o),mem_of_hlook e,rfl⟩
 have hloc:∀ {n:Nat} {o:DObj},hlook hs n=some o→unLoc π hs ρ n=ρ (app π n):=fun {n o} e=>by unfold unLoc;rw [if_pos (hmem e)]
 refine ⟨S.mem,fun n o e=>?_,fun n m o p b c b' c' hne e1 e2 e3 e4=>?_⟩
 ·have e2:=hereH_mem hh (mem_of_hlook e)
  have ho:=S.obj _ _ e2
  have hl:=hloc e
  have hty:=app_ty hi (h3 _ (hmem e))
  cases o with
  |row sz es fr =>
   simp only [renO,ObjRel,hty] at ho ⊢
   rw [hl]
   cases hρ:ρ (app π n) with
   |none=>rw [hρ] at ho;exact ho
   |some bc =>
    obtain ⟨b,c⟩:=bc
    rw [hρ] at ho
    exact ⟨⟨wr_any b,ho.1.2⟩,ho.2⟩
  |box sz d =>
   simp only [renO] at ho
   obtain ⟨b,c,q1,q2,cs,ty,q3,q4,q5,q6,q7⟩:=ho
   have hnm:=namesInH_mem h5 (mem_of_hlook e)
   have hcell:∀ i,i < sz→(ren π d).cells.getD i .undef=ren π (d.cells.getD i .undef)∧namesIn (hs.map (·.1)) (d.cells.getD i .undef)=true:=fun i hlt=>ren_cells d i (by rw [← ren_cells_length π d];have:=(okE_spec q5).1;omega) hnm
   refine ⟨b,c,by rw [hl];exact q1,wr_any b,cs,ty,by rw [← hty];exact q3,q4,okE_unren q5,fun i hlt=>?_,q7⟩
   obtain ⟨g1,g2⟩:=hcell i hlt
   have:=q6 i hlt
   rw [g1] at this
   exact unren hi hh _ _ g2 this
  |fbox sz d =>
   obtain ⟨b,c,q1,q2,q3⟩:=ho
   simp only [hty] at q3
   exact ⟨b,c,by rw [hl];exact q1,wr_any b,q3⟩
  |dict es =>
   obtain ⟨b,c,q1,q2,q3⟩:=ho
   exact ⟨b,c,by rw [hl];exact q1,wr_any b,q3⟩
  |siter s pos =>
   obtain ⟨b,c,q1,q2,q3⟩:=ho
   exact ⟨b,c,by rw [hl];exact q1,wr_any b,q3⟩
  |ghost _ _ _=>exact absurd (namesInH_mem h5 (mem_of_hlook e)) (by simp [namesInO])
 ·rw [hloc e1] at e3;rw [hloc e2] at e4
  exact S.dis _ _ _ _ b c b' c' (fun e=>hne (app_inj hi (h3 _ (hmem e1)) (h3 _ (hmem e2)) e)) (hereH_mem hh (mem_of_hlook e1)) (hereH_mem hh (mem_of_hlook e2)) e3 e4
def back (π:List (Nat×Nat)):Heap→Nat→Option Nat
 |[],_=>none
 |(n,_) :: r,m=>if app π n=m then some n else back π r m
theorem back_some {π:List (Nat×Nat)}:∀ {h:Heap} {m n:Nat},back π h m=some n→app π n=m∧n ∈ h.map (·.1)
 |[],m,n,e=>by simp [back] at e
 |(k,o) :: r,m,n,e=>by
  simp only [back] at e
  split at e
  ·rename_i h;cases e;exact ⟨h,by simp⟩
  ·obtain ⟨h1,h2⟩:=back_some e;exact ⟨h1,List.mem_cons_of_mem _ h2⟩
theorem back_none {π:List (Nat×Nat)}:∀ {h:Heap} {m:Nat},back π h m=none→∀ n ∈ h.map (·.1),app π n≠m
 |[],m,e,n,hn=>by simp at hn
 |(k,o) :: r,m,e,n,hn=>by
  simp only [back] at e
  split at e
  ·cases e
  ·rename_i h
   simp only [List.map_cons,List.mem_cons] at hn
   rcases hn with rfl|hn
   ·exact h
   ·exact back_none e n hn
theorem back_of (hi:instOk π ds hs hs'=true) {n:Nat} (hn:n ∈ hs'.map (·.1)):back π hs' (app π n)=some n:=by
 cases hb:back π hs' (app π n) with
 |none=>exact absurd rfl (back_none hb n hn)
 |some k =>
  obtain ⟨h1,h2⟩:=back_some hb
  rw [app_inj hi h2 hn h1]
theorem renH_mem {π:List (Nat×Nat)}:∀ {h:Heap} {n:Nat} {o:DObj},(n,o) ∈ h→(app π n,renO π o) ∈ renH π h
 |[],_,_,hm=>by simp at hm
 |(k,p) :: r,n,o,hm=>by
  rcases List.mem_cons.1 hm with e|hm
  ·cases e;simp [renH]
  ·exact List.mem_cons_of_mem _ (renH_mem hm)
theorem hlook_app_none {h h':Heap} {m:Nat} (hn:∀ n o,(n,o) ∈ h→n≠m):hlook (h++h') m=hlook h' m:=by
 induction h with
 |nil=>rfl
 |cons x r ih =>
  obtain ⟨k,o⟩:=x
  rw [List.cons_append,hlook_cons,if_neg (hn k o (by simp))]
  exact ih (fun n p hp=>hn n p (by simp [hp]))
theorem hlook_app_some {h h':Heap} {m:Nat} {o:DObj} (hl:hlook h m=some o):hlook (h++h') m=some o:=by
 induction h with
 |nil=>simp [hlook] at hl
 |cons x r ih =>
  obtain ⟨k,p⟩:=x
  rw [List.cons_append,hlook_cons]
  rw [hlook_cons] at hl
  split
  ·rename_i e;rw [if_pos e] at hl;exact hl
  ·rename_i e;rw [if_neg e] at hl;exact ih hl
theorem after_look (hi:instOk π ds hs hs'=true) (m:Nat) :
  hlook ((renH π hs').reverse++H) m=match back π hs' m with|some n=>(hlook hs' n).map (renO π)|none=>hlook H m:=by
 obtain ⟨h1,h2,h3,_⟩:=inst_spec hi
 have hnd:((renH π hs').reverse.map (·.1)).Nodup:=by
  rw [List.map_reverse,renH_names];exact nodup_rev h2
 have hnd':(hs'.map (·.1)).Nodup:=by
  have:(hs'.map fun x=>app π x.1)=(hs'.map (·.1)).map (app π):=by simp
  rw [this] at h2
  exact nodup_of_map h2
 cases hb:back π hs' m with
 |none =>
  refine hlook_app_none (fun n o hm e=>?_)
  subst e
  have:n ∈ (renH π hs').map (·.1):=List.mem_map.2 ⟨(n,o),by simpa using hm,rfl⟩
  rw [renH_names] at this
  obtain ⟨x,hx,e⟩:=List.mem_map.1 this
  exact back_none hb x.1 (List.mem_map.2 ⟨x,hx,rfl⟩) e
 |some n =>
  obtain ⟨e1,e2⟩:=back_some hb
  obtain ⟨x,hx,e⟩:=List.mem_map.1 e2
  obtain ⟨k,o⟩:=x
  simp only at e;subst e
  have g1:hlook hs' k=some o:=hlook_of_mem hnd' hx
  simp only [g1,Option.map_some]
  refine hlook_app_some (hlook_of_mem hnd ?_)
  subst e1
  simpa using renH_mem hx
def afterLoc (π:List (Nat×Nat)) (h:Heap) (ρ ρ':Locs):Locs:=fun m=>match back π h m with|some n=>ρ' n|none=>ρ m
mutual
theorem reren {M':Mem} {ρ':Locs} (hi:instOk π ds hs hs'=true) (d:DV) (v:Value) (hr:RelV M' ρ' hs' d v):RelV M' (afterLoc π hs' ρ ρ') ((renH π hs').reverse++H) (ren π d) v:=by
 have look:∀ {n:Nat} {o:DObj},hlook hs' n=some o→hlook ((renH π hs').reverse++H) (app π n)=some (renO π o)∧afterLoc π hs' ρ ρ' (app π n)=ρ' n:=fun {n o} e=>by
  have hb:=back_of hi (List.mem_map.2 ⟨(n,o),mem_of_hlook e,rfl⟩)
  refine ⟨?_,by unfold afterLoc;rw [hb]⟩
  rw [after_look hi,hb];simp [e]
 cases d with
 |agg cs =>
  obtain ⟨vs,rfl,hl,h1⟩:=hr.inv_agg
  exact .agg _ vs (by rw [rens_length];exact hl) (fun i hlt=>by
   rw [rens_length] at hlt;rw [rens_getD π cs i hlt];exact rerens hi cs (fun i=>vs.getD i Go.undef) h1 i hlt)
 |tuple cs =>
  obtain ⟨vs,rfl,hl,h1⟩:=hr.inv_tuple
  exact .tuple _ vs (by rw [rens_length];exact hl) (fun i hlt=>by
   rw [rens_length] at hlt;rw [rens_getD π cs i hlt];exact rerens hi cs (fun i=>vs.getD i Go.undef) h1 i hlt)
 |func f cs =>
  obtain ⟨vs,rfl,hl,h1⟩:=hr.inv_func
  exact .func f _ vs (by rw [rens_length];exact hl) (fun i hlt=>by
   rw [rens_length] at hlt;rw [rens_getD π cs i hlt];exact rerens hi cs (fun i=>vs.getD i Go.undef) h1 i hlt)
 |meth f cs =>
  obtain ⟨vs,rfl,hl,h1⟩:=hr.inv_meth
  exact .meth f _ vs (by rw [rens_length];exact hl) (fun i hlt=>by
   rw [rens_length] at hlt;rw [rens_getD π cs i hlt];exact rerens hi cs (fun i=>vs.getD i Go.undef) h1 i hlt)
 |own n off len tot =>
  cases hr with
  |pure hp=>cases hp
  |own _ _ _ _ sz es fr _ hl ht hs0 hv =>
   obtain ⟨g1,g2⟩:=look hl
   exact .own _ off len tot sz es fr v g1 ht hs0 (by rw [g2];exact hv)
 |ptr n i off tot =>
  cases hr with
  |pure hp=>cases hp
  |ptr _ _ _ _ sz es fr _ hl ht hi0 hs0 hv =>
   obtain ⟨g1,g2⟩:=look hl
   exact .ptr _ i off tot sz es fr v g1 ht hi0 hs0 (by rw [g2];exact hv)
 |bptr n off =>
  cases hr with
  |pure hp=>cases hp
  |bptr _ _ sz b c d' hl hρ =>
   obtain ⟨g1,g2⟩:=look hl
   exact .bptr _ off sz b c _ g1 (by rw [g2];exact hρ)
  |fptr _ _ sz b c d' hl hρ =>
   obtain ⟨g1,g2⟩:=look hl
   exact .fptr _ off sz b c _ g1 (by rw [g2];exact hρ)
 |dict n =>
  cases hr with
  |pure hp=>cases hp
  |dictv _ b c es hl hρ =>
   obtain ⟨g1,g2⟩:=look hl
   exact .dictv _ b c es g1 (by rw [g2];exact hρ)
  |sitv _ b c pos s hl hρ =>
   obtain ⟨g1,g2⟩:=look hl
   exact .sitv _ b c pos s g1 (by rw [g2];exact hρ)
  |yldv _ l rest live hl =>
   obtain ⟨g1,g2⟩:=look hl
   exact .yldv _ l rest live g1
 |_=>cases hr with|pure hp=>exact .pure hp
theorem rerens {M':Mem} {ρ':Locs} (hi:instOk π ds hs hs'=true) (l:List DV) (vs:Nat→Value) (hr:∀ i,i < l.length→RelV M' ρ' hs' (l.getD i .undef) (vs i)) :
  ∀ i,i < l.length→RelV M' (afterLoc π hs' ρ ρ') ((renH π hs').reverse++H) (ren π (l.getD i .undef)) (vs i):=by
 cases l with
 |nil=>intro i hi;simp at hi
 |cons d r =>
  intro i hlt
  cases i with
  |zero=>exact reren hi d (vs 0) (by simpa using hr 0 (by simp))
  |succ i =>
   have:=rerens hi r (fun i=>vs (i+1)) (fun i hi=>by simpa using hr (i+1) (by simpa using hi)) i (by simpa using hlt)
   simpa using this
end
theorem renO_like {π:List (Nat×Nat)} {o o':DObj} (h:o.like o'):(renO π o).like (renO π o'):=by cases o<;>cases o'<;>simp_all [DObj.like,renO]
theorem renO_isRow {π:List (Nat×Nat)} (o:DObj):(renO π o).isRow=o.isRow:=by cases o<;>rfl
theorem loc_wr (S:Sim B nt M0 w0 M ρ t H a w) {n b c:Nat} {o:DObj} (hl:hlook H n=some o) (hρ:ρ n=some (b,c)):B.wr b:=by
 have ho:=S.obj n o hl
 cases o with
 |row sz es fr=>simp only [ObjRel,hρ] at ho;exact ho.1.1
 |box sz d=>obtain ⟨b',c',q1,q2,_⟩:=ho;rw [hρ] at q1;cases q1;exact q2
 |fbox sz d=>obtain ⟨b',c',q1,q2,_⟩:=ho;rw [hρ] at q1;cases q1;exact q2
 |dict es=>obtain ⟨b',c',q1,q2,_⟩:=ho;rw [hρ] at q1;cases q1;exact q2
 |siter s p=>obtain ⟨b',c',q1,q2,_⟩:=ho;rw [hρ] at q1;cases q1;exact q2
 |ghost _ _ _=>obtain ⟨q1,_⟩:=ho;rw [hρ] at q1;cases q1
theorem loc_not_deferred (S:Sim B nt M0 w0 M ρ t H a w) {n b c:Nat} {o:DObj} (hl:hlook H n=some o) (hρ:ρ n=some (b,c)) (x:Option (List Deferred)):w.heap[b]?≠some (.deferred x):=fun e=>by
 have ho:=S.obj n o hl
 cases o with
 |row sz es fr=>simp only [ObjRel,hρ] at ho;obtain ⟨_,cs,ty,⟨fz,q,_⟩,_⟩:=ho;rw [e] at q;cases q
 |box sz d=>obtain ⟨b',c',q1,q2,cs,ty,q3,_⟩:=ho;rw [hρ] at q1;cases q1;rw [e] at q3;cases q3
 |fbox sz d=>obtain ⟨b',c',q1,q2,cs,ty,q3,_⟩:=ho;rw [hρ] at q1;cases q1;rw [e] at q3;cases q3
 |dict es=>obtain ⟨b',c',q1,q2,⟨E,q3,_⟩,_⟩:=ho;rw [hρ] at q1;cases q1;rw [e] at q3;cases q3
 |siter s p=>obtain ⟨b',c',q1,q2,q3,_⟩:=ho;rw [hρ] at q1;cases q1;rw [e] at q3;cases q3
 |ghost _ _ _=>obtain ⟨q1,_⟩:=ho;rw [hρ] at q1;cases q1
theorem call_wr (S:Sim B nt M0 w0 M ρ t H a w) (hh:hereH (hlook H) π hs) {b:Nat} (hb:(callB w (unLoc π hs ρ) hs).wr b):B.wr b:=by
 rcases hb with hb|⟨n,o,c,e1,e2⟩
 ·exact .inl (Nat.le_trans S.Bsize hb)
 ·unfold unLoc at e2;rw [if_pos (List.mem_map.2 ⟨(n,o),mem_of_hlook e1,rfl⟩)] at e2
  exact loc_wr S (hereH_mem hh (mem_of_hlook e1)) e2
theorem Sim.afterCall (S:Sim B nt M0 w0 M ρ t H a w) (hi:instOk π ds hs hs'=true) (hh:hereH (hlook H) π hs) (hfr:freeH (hlook H) π hs hs') {w':World} {M':Mem} {ρ':Locs} {d:DV} {v:Value}
  (a1:HeapIn M' ρ' hs' w') (a2:Ext M (unLoc π hs ρ) hs M' ρ' hs') (a3:RelV M' ρ' hs' d v) (a4:(callB w (unLoc π hs ρ) hs).touch w w') (a5:∀ b o v,M' b o=some v→M b o=none→(callB w (unLoc π hs ρ) hs).wr b)
  (a6:∀ n o b c,hlook hs' n=some o→ρ' n=some (b,c)→(callB w (unLoc π hs ρ) hs).wr b) :
  ∃ ρ'',Sim B nt M0 w0 M' ρ'' t ((renH π hs').reverse++H) a w'∧RelV M' ρ'' ((renH π hs').reverse++H) (ren π d) v:=by
 obtain ⟨h1,h2,h3,h4,h5⟩:=inst_spec hi
 have hmem:∀ {h:Heap} {n:Nat} {o:DObj},hlook h n=some o→n ∈ h.map (·.1):=fun {h n o} e=>List.mem_map.2 ⟨(n,o),mem_of_hlook e,rfl⟩
 have hin:∀ {n:Nat},n ∈ hs'.map (·.1)→∃ o,hlook hs' n=some o:=fun {n} hn=>by
  have hnd':(hs'.map (·.1)).Nodup:=by
   have:(hs'.map fun x=>app π x.1)=(hs'.map (·.1)).map (app π):=by simp
   rw [this] at h2
   exact nodup_of_map h2
  obtain ⟨x,hx,e⟩:=List.mem_map.1 hn
  obtain ⟨k,o⟩:=x
  simp only at e;subst e
  exact ⟨o,hlook_of_mem hnd' hx⟩
 -- what the callee writes is the caller's to write
 have hwr:∀ b,(callB w (unLoc π hs ρ) hs).wr b→B.wr b∧(b < w.heap.size→∃ n o c,hlook hs n=some o∧ρ (app π n)=some (b,c)∧hlook H (app π n)=some (renO π o)):=fun b hb=>by
  rcases hb with hb|⟨n,o,c,e1,e2⟩
  ·exact ⟨.inl (Nat.le_trans S.Bsize hb),fun hlt=>by simp only [callB] at hb;omega⟩
  ·unfold unLoc at e2;rw [if_pos (hmem e1)] at e2
   have e3:=hereH_mem hh (mem_of_hlook e1)
   exact ⟨loc_wr S e3 e2,fun _=>⟨n,o,c,e1,e2,e3⟩⟩
 have hkeep:∀ {m b c:Nat} {o:DObj},hlook H m=some o→back π hs' m=none→ρ m=some (b,c)→¬ (callB w (unLoc π hs ρ) hs).wr b:=fun {m b c o} e1 e2 e3 hb=>by
  have hlt:=S.loc_lt e1 e3
  obtain ⟨_,hx⟩:=hwr b hb
  obtain ⟨n,o',c',q1,q2,q3⟩:=hx hlt
  have hne:app π n≠m:=back_none e2 n (h3 n (hmem q1))
  exact S.dis _ _ _ _ b c' b c hne q3 e1 q2 e3 rfl
 -- where old objects are
 have hold:∀ {m:Nat} {o:DObj},hlook H m=some o→∀ n,back π hs' m=some n→∃ o0,hlook hs n=some o0∧o=renO π o0∧unLoc π hs ρ n=ρ m:=fun {m o} e n hb=>by
  obtain ⟨e1,e2⟩:=back_some hb
  subst e1
  obtain ⟨o1,e3⟩:=hin e2
  rcases freeH_mem hfr (mem_of_hlook e3) with hn|hn
  ·obtain ⟨o0,q1,q2⟩:=here_look hi hh hn
   rw [e] at q2;cases q2
   exact ⟨o0,q1,rfl,by unfold unLoc;rw [if_pos hn]⟩
  ·rw [e] at hn;cases hn
 have hx:Ext M ρ H M' (afterLoc π hs' ρ ρ') ((renH π hs').reverse++H):=by
  refine ⟨a2.le,fun m sz es fr e=>?_,fun m o e hr=>?_⟩
  ·rw [after_look hi]
   unfold afterLoc
   cases hb:back π hs' m with
   |none=>exact ⟨sz,es,fr,e,Nat.le_refl _,fun _=>⟨.inl rfl,rfl⟩⟩
   |some n =>
    obtain ⟨o0,q1,q2,q3⟩:=hold e n hb
    have:o0=.row sz es fr:=by cases o0<;>simp_all [renO]
    subst this
    obtain ⟨sz',es',fr',k1,k2,k3⟩:=a2.row n sz es fr q1
    exact ⟨sz',es',fr',by simp [k1,renO],k2,fun e=>by rw [← q3];exact k3 e⟩
  ·rw [after_look hi]
   unfold afterLoc
   cases hb:back π hs' m with
   |none=>exact ⟨rfl,o,e,like_refl hr⟩
   |some n =>
    obtain ⟨o0,q1,q2,q3⟩:=hold e n hb
    subst q2
    rw [renO_isRow] at hr
    obtain ⟨k1,o',k2,k3⟩:=a2.box n o0 q1 hr
    exact ⟨by rw [← q3];exact k1,renO π o',by simp [k2],renO_like k3⟩
 refine ⟨afterLoc π hs' ρ ρ',?_,reren hi d v a3⟩
 have hdisj:∀ {n m b c b' c':Nat} {o p:DObj},hlook hs' n=some o→ρ' n=some (b,c)→hlook H m=some p→back π hs' m=none→ρ m=some (b',c')→b≠b':=fun {n m b c b' c' o p} e1 e2 e3 e4 e5 e6=>by
  subst e6;exact hkeep e3 e4 e5 (a6 n o b c e1 e2)
 refine { S with le:=Mem.le_trans S.le a2.le,tm:=fun i=>(S.tm i).ext hx,mem:=a1.mem,obj:=fun m o hm=>?_,dis:=fun m m' o p b c b' c' hne e1 e2 e3 e4=>?_,below:=?_,new:=fun b o v e e0=>?_,marks:=⟨fun dd hd=>?_,S.marks.2⟩,ext:=S.ext.trans hx }
 ·rw [after_look hi] at hm
  cases hb:back π hs' m with
  |some n =>
   rw [hb] at hm
   simp only at hm
   have hloc:afterLoc π hs' ρ ρ' m=ρ' n:=by unfold afterLoc;rw [hb]
   cases ho:hlook hs' n with
   |none=>rw [ho] at hm;cases hm
   |some o' =>
    rw [ho] at hm;simp only [Option.map_some,Option.some.injEq] at hm;subst hm
    have hobj:=a1.obj n o' ho
    have hty:∀ t,tyN m t=tyN n t:=fun t=>by
     have h1:=back_some hb
     rw [← h1.1];exact app_ty hi h1.2 t
    have wb:∀ b c,ρ' n=some (b,c)→B.wr b:=fun b c e=>(hwr b (a6 n o' b c ho e)).1
    cases o' with
    |row sz es fr =>
     simp only [renO,ObjRel,hty] at hobj ⊢
     rw [hloc]
     cases hρ:ρ' n with
     |none=>rw [hρ] at hobj;exact hobj
     |some bc =>
      obtain ⟨b,c⟩:=bc
      rw [hρ] at hobj
      exact ⟨⟨wb b c hρ,hobj.1.2⟩,hobj.2⟩
    |box sz d0 =>
     obtain ⟨b,c,q1,q2,cs,ty,q3,q4,q5,q6,q7⟩:=hobj
     refine ⟨b,c,by rw [hloc];exact q1,wb b c q1,cs,ty,by rw [hty];exact q3,q4,by rw [okE_ren];exact q5,fun i hlt=>?_,q7⟩
     have h9:=(okE_spec q5).1
     have:(ren π d0).cells.getD i .undef=ren π (d0.cells.getD i .undef):=by
      rw [cells_ren];exact rens_getD π _ i (by omega)
     rw [this]
     exact reren hi _ _ (q6 i hlt)
    |fbox sz d0 =>
     obtain ⟨b,c,q1,q2,q3⟩:=hobj
     simp only [← hty] at q3
     exact ⟨b,c,by rw [hloc];exact q1,wb b c q1,q3⟩
    |dict es =>
     obtain ⟨b,c,q1,q2,q3⟩:=hobj
     exact ⟨b,c,by rw [hloc];exact q1,wb b c q1,q3⟩
    |siter s pos =>
     obtain ⟨b,c,q1,q2,q3⟩:=hobj
     exact ⟨b,c,by rw [hloc];exact q1,wb b c q1,q3⟩
    |ghost _ _ _=>exact absurd hobj.2 (by simp [anyB,Base.plain])
  |none =>
   rw [hb] at hm
   simp only at hm
   have hloc:afterLoc π hs' ρ ρ' m=ρ m:=by unfold afterLoc;rw [hb]
   have hobj:=S.obj m o hm
   have hsame:∀ b c,ρ m=some (b,c)→w'.heap[b]?=w.heap[b]?:=fun b c e=>a4.block b (hkeep hm hb e)
   have hfree:∀ b c,ρ m=some (b,c)→(∀ o,M b o=none)→∀ o,M' b o=none:=fun b c e hf o'=>by
    cases hM:M' b o' with
    |none=>rfl
    |some v=>exact absurd (a5 b o' v hM (hf o')) (hkeep hm hb e)
   have h1:=hobj.mem a2.le hfree
   have h2:=ObjRel.ext (M:=M') ⟨Mem.le_refl _,hx.row,hx.box⟩ hloc h1
   cases o with
   |row sz es fr =>
    simp only [ObjRel] at h2 ⊢
    rw [hloc] at h2 ⊢
    cases hρ:ρ m with
    |none=>rw [hρ] at h2;exact h2
    |some bc =>
     obtain ⟨b,c⟩:=bc
     rw [hρ] at h2
     obtain ⟨g2,cs',ty',g3,g4⟩:=h2
     exact ⟨g2,cs',ty',g3.heap (hsame b c hρ),g4⟩
   |box sz d0 =>
    obtain ⟨b,c,q1,q2,cs,ty,q3,q4⟩:=h2
    exact ⟨b,c,q1,q2,cs,ty,by rw [hsame b c (by rw [← hloc];exact q1)];exact q3,q4⟩
   |fbox sz d0 =>
    obtain ⟨b,c,q1,q2,cs,ty,q3,q4⟩:=h2
    exact ⟨b,c,q1,q2,cs,ty,by rw [hsame b c (by rw [← hloc];exact q1)];exact q3,q4⟩
   |dict es =>
    obtain ⟨b,c,q1,q2,⟨E,q3,q4⟩,q5⟩:=h2
    exact ⟨b,c,q1,q2,⟨E,by rw [hsame b c (by rw [← hloc];exact q1)];exact q3,q4⟩,q5⟩
   |siter s pos =>
    obtain ⟨b,c,q1,q2,q3,q5⟩:=h2
    exact ⟨b,c,q1,q2,by rw [hsame b c (by rw [← hloc];exact q1)];exact q3,q5⟩
   |ghost _ _ _=>exact h2
 ·rw [after_look hi] at e1 e2
  unfold afterLoc at e3 e4
  cases hb:back π hs' m with
  |some n =>
   rw [hb] at e1 e3
   simp only at e1 e3
   obtain ⟨o1,e1'⟩:∃ o1,hlook hs' n=some o1:=by cases ho:hlook hs' n<;>simp_all
   cases hb':back π hs' m' with
   |some n' =>
    rw [hb'] at e2 e4
    simp only at e2 e4
    obtain ⟨o2,e2'⟩:∃ o2,hlook hs' n'=some o2:=by cases ho:hlook hs' n'<;>simp_all
    refine a1.dis n n' o1 o2 b c b' c' (fun e=>hne ?_) e1' e2' e3 e4
    rw [← (back_some hb).1,← (back_some hb').1,e]
   |none =>
    rw [hb'] at e2 e4
    exact hdisj e1' e3 e2 hb' e4
  |none =>
   rw [hb] at e1 e3
   simp only at e1 e3
   cases hb':back π hs' m' with
   |some n' =>
    rw [hb'] at e2 e4
    simp only at e2 e4
    obtain ⟨o2,e2'⟩:∃ o2,hlook hs' n'=some o2:=by cases ho:hlook hs' n'<;>simp_all
    exact fun e=>hdisj e2' e4 e1 hb e3 e.symm
   |none =>
    rw [hb'] at e2 e4
    exact S.dis m m' o p b c b' c' hne e1 e2 e3 e4
 ·exact S.below.trans ⟨a4.os,a4.tape,a4.output,a4.size,fun k hk=>a4.block k (fun hb=>hk (hwr k hb).1)⟩
 ·cases hM:M b o with
  |none=>exact (hwr b (a5 b o v e hM)).1
  |some v'=>exact S.new b o v' hM e0
 ·obtain ⟨D,e1,e2,e3⟩:=S.marks.1 dd hd
  refine ⟨D,e1,e2,?_⟩
  have hlt:D < w.heap.size:=(Array.getElem?_eq_some_iff.1 e3).1
  rw [a4.block D (fun hb=>?_)];exact e3
  obtain ⟨n,o,c,q1,q2,q3⟩:=(hwr D hb).2 hlt
  exact loc_not_deferred S q3 q2 _ e3
end
end Sh

/- One operation of the shadow code against the operation of the model. -/
namespace Sh
open Go
theorem evalOp_okF {ev:Operand→DV} {lk:Nat→Option DObj} {n:Nat} {op:DOp} {ns:List Nat} {p:Option Prop} {d:DV} {u:Heap} (h:evalOp ev lk n op=.okF ns p d u) :
  (∃ imm sz len z ps,op=.lit imm sz len z ps)∨(∃ k x y,op=.store k x y)∨∃ sz x,op=.boxI sz x:=by
 cases op with
 |lit imm sz len z ps=>exact .inl ⟨_,_,_,_,_,rfl⟩
 |store k x y=>exact .inr (.inl ⟨_,_,_,rfl⟩)
 |boxI sz x=>exact .inr (.inr ⟨_,_,rfl⟩)
 |bin op x y =>
  exfalso
  simp only [evalOp] at h
  split at h
  ·rename_i j a k b _ _
   generalize kindEq j k=q at h
   cases q<;>cases op<;>cases h
  ·cases op<;>cases h
  ·cases h
 |_ =>
  exfalso
  simp only [evalOp] at h
  repeat' first
   |cases h
   |(rw [cond_eq_ite] at h)
   |split at h
section
variable {P:Program} {imm:Bool} {op:Op}
theorem cOp_call {f:Operand} {args:List Operand} (hc:cOp P imm op=some (.call f args)):∃ c:Call,op=.call c∧c.callee=.value f∧c.args.toList=args:=by
 cases op with
 |call c =>
  simp only [cOp] at hc
  split at hc
  ·rename_i f' hf;simp only [Option.some.injEq,DOp.call.injEq] at hc;exact ⟨c,rfl,by rw [hf,hc.1],hc.2⟩
  ·exfalso
   unfold cBuiltin at hc
   repeat' first
    |cases hc
    |(rw [cond_eq_ite] at hc)
    |split at hc
  ·cases hc
 |binOp bop ty x y ty' =>
  exfalso
  simp only [cOp,cBin,cEq,cNil] at hc
  repeat' first
   |cases hc
   |(rw [cond_eq_ite] at hc)
   |split at hc
 |makeFunc fn first caps =>
  exfalso
  cases fn<;>simp only [cOp] at hc<;>repeat' first
   |cases hc
   |(rw [cond_eq_ite] at hc)
   |split at hc
 |_ =>
  exfalso
  simp only [cOp] at hc
  repeat' first
   |cases hc
   |(rw [cond_eq_ite] at hc)
   |split at hc
theorem cOp_lit {imm':Bool} {sz len:Nat} {z:DV} {ps:List (Nat×Operand)} (hc:cOp P imm op=some (.lit imm' sz len z ps)) :
  ∃ ty e zv parts agg,op=.buildSlice ty len parts∧imm'=imm∧P.underlying ty=some (.slice e)∧elemT P e=some (sz,agg)∧zeroT P e=some zv∧z=ofValue zv∧ps=parts.toList ∧
   len * sz≤16777216∧zv.cells.size=sz∧okE sz (ofValue zv)=true∧∀ p ∈ parts.toList,p.1 < len:=by
 cases op with
 |buildSlice ty len' parts =>
  simp only [cOp] at hc
  split at hc
  ·rename_i e ht
   split at hc
   ·rename_i sz' agg zv hel hz
    obtain ⟨c1,hc⟩:=cond_some hc
    simp only [Option.some.injEq,DOp.lit.injEq] at hc
    obtain ⟨rfl,rfl,rfl,rfl,rfl⟩:=hc
    simp only [Bool.and_eq_true,List.all_eq_true] at c1
    obtain ⟨⟨⟨c1,c2⟩,c3⟩,c4⟩:=c1
    exact ⟨ty,e,zv,parts,agg,rfl,rfl,ht,hel,hz,rfl,rfl,Nat.le_of_ble_eq_true c1,Nat.eq_of_beq_eq_true c2,c3,fun p hp=>Nat.le_of_ble_eq_true (c4 p hp)⟩
   ·cases hc
  ·cases hc
 |call c =>
  exfalso
  simp only [cOp] at hc
  split at hc
  ·cases hc
  ·unfold cBuiltin at hc
   repeat' first
    |cases hc
    |(rw [cond_eq_ite] at hc)
    |split at hc
  ·cases hc
 |binOp bop ty x y ty' =>
  exfalso
  simp only [cOp,cBin,cEq,cNil] at hc
  repeat' first
   |cases hc
   |(rw [cond_eq_ite] at hc)
   |split at hc
 |makeFunc fn first caps =>
  exfalso
  cases fn<;>simp only [cOp] at hc<;>repeat' first
   |cases hc
   |(rw [cond_eq_ite] at hc)
   |split at hc
 |_ =>
  exfalso
  simp only [cOp] at hc
  repeat' first
   |cases hc
   |(rw [cond_eq_ite] at hc)
   |split at hc
theorem cOp_store {k:Nat} {x y:Operand} (hc:cOp P imm op=some (.store k x y)):∃ ty agg,op=.store ty x y∧elemT P ty=some (k,agg):=by
 cases op with
 |store ty a b =>
  simp only [cOp] at hc
  split at hc
  ·rename_i sz agg hel
   simp only [Option.some.injEq,DOp.store.injEq] at hc
   obtain ⟨rfl,rfl,rfl⟩:=hc
   exact ⟨ty,agg,rfl,hel⟩
  ·cases hc
 |call c =>
  exfalso
  simp only [cOp] at hc
  split at hc
  ·cases hc
  ·unfold cBuiltin at hc
   repeat' first
    |cases hc
    |(rw [cond_eq_ite] at hc)
    |split at hc
  ·cases hc
 |binOp bop ty x y ty' =>
  exfalso
  simp only [cOp,cBin,cEq,cNil] at hc
  repeat' first
   |cases hc
   |(rw [cond_eq_ite] at hc)
   |split at hc
 |makeFunc fn first caps =>
  exfalso
  cases fn<;>simp only [cOp] at hc<;>repeat' first
   |cases hc
   |(rw [cond_eq_ite] at hc)
   |split at hc
 |_ =>
  exfalso
  simp only [cOp] at hc
  repeat' first
   |cases hc
   |(rw [cond_eq_ite] at hc)
   |split at hc
theorem cOp_boxI {k:Nat} {x:Operand} (hc:cOp P imm op=some (.boxI k x)):∃ ty agg,op=.box ty x∧elemT P ty=some (k,agg):=by
 cases op with
 |box ty a =>
  simp only [cOp] at hc
  split at hc
  ·rename_i sz agg hel
   cases imm with
   |true =>
    rw [cond_true] at hc
    simp only [Option.some.injEq,DOp.boxI.injEq] at hc
    obtain ⟨rfl,rfl⟩:=hc
    exact ⟨ty,agg,rfl,hel⟩
   |false=>rw [cond_false] at hc;cases hc
  ·cases hc
 |call c =>
  exfalso
  simp only [cOp] at hc
  split at hc
  ·cases hc
  ·unfold cBuiltin at hc
   repeat' first
    |cases hc
    |(rw [cond_eq_ite] at hc)
    |split at hc
  ·cases hc
 |binOp bop ty x y ty' =>
  exfalso
  simp only [cOp,cBin,cEq,cNil] at hc
  repeat' first
   |cases hc
   |(rw [cond_eq_ite] at hc)
   |split at hc
 |makeFunc fn first caps =>
  exfalso
  cases fn<;>simp only [cOp] at hc<;>repeat' first
   |cases hc
   |(rw [cond_eq_ite] at hc)
   |split at hc
 |_ =>
  exfalso
  simp only [cOp] at hc
  repeat' first
   |cases hc
   |(rw [cond_eq_ite] at hc)
   |split at hc
end
section
variable {P:Program} {G:Nat→Option DV} {B:Base} {nt:Nat} {M0:Mem} {w0:World} {M:Mem} {ρ:Locs} {t:Tmps} {h:Heap} {a:Act} {w:World} {o:Oper}
theorem freeze_none {ns:List Nat} {n:Nat} (hn:hlook h n=none):hlook (freeze ns h) n=none:=by rw [freeze_look,hn];rfl
theorem op_soundF (hG:GOk G M0) (S:Sim B nt M0 w0 M ρ t h a w) (imm:Bool) (n:Nat) (dop:DOp) (hc:cOp P imm o.op=some dop) {ns:List Nat} {p:Option Prop} {d:DV} {u:Heap}
  (he:evalOp (evalOpd G t) (hlook h) n dop=.okF ns p d u) (hp:holds p):∃ M1,OpGoal P B nt M0 w0 M1 ρ t (freeze ns h) a w o d u:=by
 obtain ⟨M1,m1,S1,m2,m3,m4⟩:=S.freeze ns
 refine ⟨M1,?_⟩
 have hfr:∀ m ∈ ns,∀ sz es fr,hlook h m=some (.row sz es fr)→hlook (freeze ns h) m=some (.row sz es true):=fun m hm sz es fr e=>by
  rw [m4 m sz es fr e];simp [hm]
 rcases evalOp_okF he with ⟨imm',sz,len,z,ps,rfl⟩|⟨k,x,y,rfl⟩|⟨sz,x,rfl⟩
 ·obtain ⟨ty,e,zv,parts,agg,ho,rfl,ht,hel,hz,rfl,rfl,c1,c2,c3,c4⟩:=cOp_lit hc
  simp only [evalOp] at he
  split at he
  ·rename_i q es hes
   obtain ⟨hpk,he⟩:=cond_evF he
   have hpk:∀ p ∈ parts.toList,okE sz (evalOpd G t p.2)=true:=fun p hp=>(List.all_eq_true.1 hpk) p hp
   cases imm' with
   |true =>
    simp only [cond_true,Ev.okF.injEq] at he
    obtain ⟨rfl,rfl,rfl,rfl⟩:=he
    exact (op_lit hG S1 (hlook h) ty e len sz agg zv parts ho ht hel hz c1 c2 c3 c4 hpk hes hp hfr (fun m hm sz d0 hl hp=>freeze_fbox hm hl hp)).1
   |false =>
    simp only [cond_false] at he
    split at he
    ·rename_i hn
     obtain ⟨hn6,he⟩:=cond_evF he
     simp only [Ev.okF.injEq] at he
     obtain ⟨rfl,rfl,rfl,rfl⟩:=he
     exact (op_lit hG S1 (hlook h) ty e len sz agg zv parts ho ht hel hz c1 c2 c3 c4 hpk hes hp hfr (fun m hm sz d0 hl hp=>freeze_fbox hm hl hp)).2 n (freeze_none hn) hn6
    ·cases he
  ·cases he
 ·obtain ⟨ty,agg,ho,hel⟩:=cOp_store hc
  obtain ⟨e1,e2,e3,e4,e5⟩:=elemT_spec hel
  simp only [evalOp] at he
  split at he
  ·rename_i m off hx
   split at he
   ·obtain ⟨_,he⟩:=cond_evF he
    cases he
   ·cases he
  ·rename_i m i off tot hx
   split at he
   ·rename_i sz es hl
    split at he
    ·rename_i q v hv
     obtain ⟨c1,he⟩:=cond_not he
     simp only [Ev.okF.injEq] at he
     obtain ⟨rfl,rfl,rfl,rfl⟩:=he
     obtain ⟨hq,hb⟩:=holds_pand hp
     simp only [Bool.or_eq_false_iff,Bool.not_eq_false'] at c1
     have hni:m ∉ names (evalOpd G t y):=fun hm=>by
      have:=c1.1
      rw [List.any_eq_false] at this
      exact this m hm (by simp)
     have hl1:hlook (freeze (names (evalOpd G t y)) h) m=some (.row sz es false):=by rw [m4 m sz es false hl];simp [hni]
     exact op_store_row hG S1 (hlook h) ty x y m i off tot sz k es ho e1 hx hl1 hv hq c1.2 hfr (fun m hm sz d0 hl hp=>freeze_fbox hm hl hp) hb
    ·cases he
   ·cases he
  ·cases he
 ·obtain ⟨e,agg,ho,hel⟩:=cOp_boxI hc
  simp only [evalOp] at he
  split at he
  ·rename_i q dd hes
   obtain ⟨hk,he⟩:=cond_evF he
   simp only [Ev.okF.injEq] at he
   obtain ⟨rfl,rfl,rfl,rfl⟩:=he
   exact op_boxI hG S1 (hlook h) e x sz ho hk hes hp hfr (fun m hm sz d0 hl hp=>freeze_fbox hm hl hp)
  ·cases he
structure OperOk (P:Program) (nt:Nat) (ops:Array Oper) (o:Oper) (dop:DOper):Prop where
 op:(∃ imm,cOp P imm o.op=some dop.op)∨cEmp P o.op=some dop.op
 dst:dop.dst=o.dst
 lt:∀ d,o.dst=some d→d < nt
 guard:cGuard ops o=some dop.guard
theorem wanted_iff {ops:Array Oper} {dop:DOper} (ok:OperOk P nt ops o dop) (S:Sim B nt M0 w0 M ρ t h a w) :
  (Guarded dop t→Region.wanted o (yielded ops a.tmps)=true) ∧
  (∀ g want,dop.guard=some (g,want)→(tget t g=.bool (!want)∨tget t g=.tuple [])→Region.wanted o (yielded ops a.tmps)=false):=by
 have hg:=ok.guard
 unfold cGuard at hg
 unfold Region.wanted
 split at hg
 ·rename_i e
  rw [e]
  simp only [Option.some.injEq] at hg
  exact ⟨fun _=>rfl,fun g want e=>by rw [← hg] at e;cases e⟩
 ·rename_i j want e
  rw [e]
  split at hg
  ·rename_i oj hj
   split at hg
   ·rename_i dj hdj
    simp only [Option.some.injEq] at hg
    have hr:=S.tm dj
    have hy:∀ v,a.tmps.getD dj Go.undef=.bool v→yielded ops a.tmps j=some v:=fun v hv=>by
     unfold yielded
     rw [hj]
     simp only [Option.bind_some,hdj]
     have:a.tmps[dj]?=some (.bool v):=by
      rw [Array.getD_eq_getD_getElem?] at hv
      cases hx:a.tmps[dj]? with
      |none=>rw [hx] at hv;simp [Go.undef] at hv
      |some x=>rw [hx] at hv;simp at hv;rw [hv]
     rw [this]
    have hn:∀ vs,a.tmps.getD dj Go.undef=.tuple vs→yielded ops a.tmps j=none:=fun vs hv=>by
     unfold yielded
     rw [hj]
     simp only [Option.bind_some,hdj]
     rw [Array.getD_eq_getD_getElem?] at hv
     cases hx:a.tmps[dj]? with
     |none=>rfl
     |some x=>rw [hx] at hv;simp at hv;rw [hv]
    refine ⟨fun hgd=>?_,fun g want' e' ht=>?_⟩
    ·have h1:=hgd dj want hg.symm
     rw [h1] at hr
     simp [hy want hr.inv_bool]
    ·rw [← hg] at e';cases e'
     rcases ht with ht|ht
     ·rw [ht] at hr;simp [hy _ hr.inv_bool]
     ·rw [ht] at hr
      obtain ⟨vs,hv,_⟩:=hr.inv_tuple
      simp [hn vs hv]
   ·cases hg
  ·cases hg
theorem Sim.memUp (S:Sim B nt M0 w0 M ρ t h a w) {w':World} {M':Mem} (hm:M.le M') (hw:M'.holds w') (hk:∀ k,k < w.heap.size→w'.heap[k]?=w.heap[k]?) (hb:B.touch w0 w')
  (hn:∀ b o v,M' b o=some v→M b o=none→w.heap.size≤b):Sim B nt M0 w0 M' ρ t h a w':=by
 have S1:=S.world hk hb
 refine { S1 with le:=Mem.le_trans S.le hm,tm:=fun i=>(S.tm i).ext (Ext.of_mem ρ h hm),mem:=hw,obj:=fun n o ho=>(S1.obj n o ho).mem hm ?_,new:=fun b o v e e0=>?_,ext:=S.ext.trans (Ext.of_mem ρ h hm) }
 ·intro b c hρ hfree o'
  cases hM:M' b o' with
  |none=>rfl
  |some v =>
   have h1:=hn b o' v hM (hfree o')
   have h2:=S.loc_lt ho hρ
   omega
 ·cases hM:M b o with
  |none=>exact .inl (Nat.le_trans S.Bsize (hn b o v e hM))
  |some v'=>exact S.new b o v' hM e0
mutual
theorem relP_flat {M M':Mem} (d:DV) (v:Value) (hf:flatB d=true) (hr:RelP M d v):RelP M' d v:=by
 cases d with
 |undef=>exact .undef v
 |bool b=>cases hr;exact .bool b
 |int k n=>cases hr;exact .int k n
 |str s=>cases hr;exact .str s
 |nilptr=>cases hr;exact .nilptr
 |nilfunc=>cases hr with|nilfunc=>exact .nilfunc|nilmap=>exact .nilmap
 |nilsl=>cases hr;exact .nilslice
 |abool=>cases hr;exact .abool _
 |agg cs=>cases hr with|agg _ vs hl h=>exact .agg cs vs hl (relP_flats cs (fun i=>vs.getD i Go.undef) (by simpa [flatB] using hf) h)
 |tuple cs=>cases hr with|tuple _ vs hl h=>exact .tuple cs vs hl (relP_flats cs (fun i=>vs.getD i Go.undef) (by simpa [flatB] using hf) h)
 |func f cs=>cases hr with|func _ _ vs hl h=>exact .func f cs vs hl (relP_flats cs (fun i=>vs.getD i Go.undef) (by simpa [flatB] using hf) h)
 |meth f cs=>cases hr with|meth _ _ vs hl h=>exact .meth f cs vs hl (relP_flats cs (fun i=>vs.getD i Go.undef) (by simpa [flatB] using hf) h)
 |_=>simp [flatB] at hf
theorem relP_flats {M M':Mem} (ds:List DV) (vs:Nat→Value) (hf:flatBs ds=true) (hr:∀ i,i < ds.length→RelP M (ds.getD i .undef) (vs i)):∀ i,i < ds.length→RelP M' (ds.getD i .undef) (vs i):=by
 cases ds with
 |nil=>intro i hi;simp at hi
 |cons d r =>
  simp only [flatBs,Bool.and_eq_true] at hf
  intro i hi
  cases i with
  |zero=>exact relP_flat d (vs 0) hf.1 (by simpa using hr 0 (by simp))
  |succ i =>
   have:=relP_flats (M':=M') r (fun i=>vs (i+1)) hf.2 (fun i hi=>by simpa using hr (i+1) (by simpa using hi)) i (by simpa using hi)
   simpa using this
end
theorem call_run (hG:GOk G M0) (S:Sim B nt M0 w0 M ρ t h a w) {imm:Bool} {dop:DOp} (hc:cOp P imm o.op=some dop) {n:Nat} {f:FuncId} {vs:List DV} (he:evalOp (evalOpd G t) (hlook h) n dop=.call f vs)
  (hen:Enters P f):∃ args:Array Value,(execOp a.eval o).run P w=.ok (.enter f args) w∧vs.length=args.size∧∀ i,i < vs.length→RelV M ρ h (vs.getD i .undef) (args.getD i Go.undef):=by
 obtain ⟨fo,args,caps,rfl,⟨e2,rfl⟩|⟨e2,rfl⟩⟩:=evalOp_call he
 rotate_left
 ·obtain ⟨c,ho,hcal,rfl⟩:=cOp_call hc
  have hr:=S.opd hG fo
  rw [e2] at hr
  obtain ⟨cvs,hv,hl,hcv⟩:=hr.inv_meth
  refine ⟨cvs++c.args.map a.eval,?_,by simp [hl],fun i hi=>?_⟩
  ·simp only [execOp,ho,resolve,hcal,hv,Deferred.ofValue]
   simpa [invoke] using hen (cvs++c.args.map a.eval) w
  ·by_cases hlt:i < cvs.size
   ·have hlt2:i < caps.length:=by omega
    have e1:(caps++c.args.toList.map (evalOpd G t)).getD i .undef=caps.getD i .undef:=by
     simp [List.getD_eq_getElem?_getD,List.getElem?_append,hlt2]
    have e3:(cvs++c.args.map a.eval).getD i Go.undef=cvs.getD i Go.undef:=by
     simp [Array.getD_eq_getD_getElem?,Array.getElem?_append,hlt]
    rw [e1,e3];exact hcv i hlt2
   ·have hi2:i - cvs.size < c.args.size:=by simp at hi;omega
    have hlt2:¬ i < caps.length:=by omega
    have e1:(caps++c.args.toList.map (evalOpd G t)).getD i .undef=evalOpd G t c.args[i - cvs.size]:=by
     simp [List.getD_eq_getElem?_getD,List.getElem?_append,hl,hlt,hi2]
    have e3:(cvs++c.args.map a.eval).getD i Go.undef=a.eval c.args[i - cvs.size]:=by
     simp [Array.getD_eq_getD_getElem?,Array.getElem?_append,hlt,hi2]
    rw [e1,e3];exact S.opd hG _
 obtain ⟨c,ho,hcal,rfl⟩:=cOp_call hc
 have hr:=S.opd hG fo
 rw [e2] at hr
 obtain ⟨cvs,hv,hl,hcv⟩:=hr.inv_func
 refine ⟨c.args.map a.eval++cvs,?_,by simp [hl],fun i hi=>?_⟩
 ·simp only [execOp,ho,resolve,hcal,hv,Deferred.ofValue]
  simpa [invoke] using hen (c.args.map a.eval++cvs) w
 ·by_cases hlt:i < c.args.size
  ·have e1:(c.args.toList.map (evalOpd G t)++caps).getD i .undef=evalOpd G t c.args[i]:=by
    simp [List.getD_eq_getElem?_getD,List.getElem?_append,hlt]
   have e3:(c.args.map a.eval++cvs).getD i Go.undef=a.eval c.args[i]:=by
    simp [Array.getD_eq_getD_getElem?,Array.getElem?_append,hlt]
   rw [e1,e3];exact S.opd hG _
  ·have hlt':c.args.size≤i:=by omega
   have e1:(c.args.toList.map (evalOpd G t)++caps).getD i .undef=caps.getD (i - c.args.size) .undef:=by
    simp [List.getD_eq_getElem?_getD,List.getElem?_append,hlt]
   have e3:(c.args.map a.eval++cvs).getD i Go.undef=cvs.getD (i - c.args.size) Go.undef:=by
    simp [Array.getD_eq_getD_getElem?,Array.getElem?_append,hlt]
   rw [e1,e3]
   refine hcv _ ?_
   simp at hi;omega
theorem cEmp_spec {op:Op} {dop:DOp} (h:cEmp P op=some dop):∃ (c:Call) (s x:Operand) (ty u e e':TypeId) (sz:Nat) (agg:Bool),op=.call ⟨.builtin .append,#[s,x],#[ty,u]⟩∧dop=.appendE sz s x∧P.underlying ty=some (.slice e)∧P.underlying u=some (.slice e')∧elemT P e=some (sz,agg):=by
 unfold cEmp at h
 split at h
 ·rename_i c
  split at h
  ·rename_i s x t u h1 h2 h3
   split at h
   ·rename_i e e' ht hu
    split at h
    ·rename_i sz agg hel
     simp only [Option.some.injEq] at h
     refine ⟨c,s,x,t,u,e,e',sz,agg,?_,h.symm,ht,hu,hel⟩
     obtain ⟨cal,as_,ts⟩:=c
     simp only at h1 h2 h3
     subst h1
     have e2:as_=#[s,x]:=by rw [← Array.toList_inj,h2]
     have e3:ts=#[t,u]:=by rw [← Array.toList_inj,h3]
     rw [e2,e3]
    ·cases h
   ·cases h
  ·cases h
 ·cases h
theorem cOp_defer {imm:Bool} {op:Op} {dop:DOp} (h:cOp P imm op=some dop):∀ c,op≠.defer c:=fun c e=>by
 subst e;simp [cOp] at h
theorem calls_plain {F:Fence} {n:Nat} {f:FuncId} {args:Array Value} {w:World} {R:Ending→World→Prop} (h:CallsIn F.plain n P f args w R):CallsIn F n P f args w R:=h
theorem step_run {F:Fence} {n:Nat} {ops:Array Oper} {Q:Exit→Act→World→Prop} {dop:DOper} {i:Nat} {d:DV} {ns:List Nat} {u:Heap} {rd:List Nat}
  (hG:GOk G M0) (hF:OpenB G F B w0) (hd:F.depth=none) (ok:OperOk P nt ops o dop) (hi:ops[i]?=some o) (S:Sim B nt M0 w0 M ρ t h a w)
  (st:Step P G dop t h d ns u rd) {K:Act→World→Prop}
  (hK:∀ M' ρ' a' w',Sim B nt M0 w0 M' ρ' (putO dop.dst d t) (u.reverse++freeze ns h) a' w'→K a' w'):wpOpIn F n P ops Q i K a w:=by
 unfold wpOpIn
 rw [hi]
 simp only
 obtain ⟨hw1,hw2⟩:=wanted_iff ok S
 have hput:∀ {M':Mem} {ρ':Locs} {w':World} {h':Heap} {v:Value},Sim B nt M0 w0 M' ρ' t h' a w'→RelV M' ρ' h' d v→h'=u.reverse++freeze ns h→K (a.put o.dst v) w':=fun {M' ρ' w' h' v} S' hv e=>by
  subst e
  refine hK M' ρ' _ w' ?_
  rw [ok.dst]
  exact S'.put (fun k hk=>ok.lt k hk) hv
 rcases ok.op with ⟨imm,hc⟩|hc2
 rotate_left
 ·obtain ⟨c,s,x,ty,u,e,e',sz,agg,ho,hdop,ht,hu,hel⟩:=cEmp_spec hc2
  have hnc:∀ {f:FuncId} {vs:List DV},evalOp (evalOpd G t) (hlook h) (dop.dst.getD 0) dop.op≠.call f vs:=fun {f vs} e=>by
   obtain ⟨_,_,_,e2,_⟩:=evalOp_call e
   rw [hdop] at e2;cases e2
  cases st with
  |skip g want hg hv =>
   rw [if_neg (by rw [hw2 g want hg hv];simp)]
   exact ⟨fun f _=>hF.fn f,hput S (.pure (.tuple [] #[] rfl (by simp))) rfl⟩
  |ok hg p d u he hp =>
   rw [if_pos (hw1 hg)]
   rw [hdop] at he
   obtain ⟨nx,v,w',M',ρ',hrun,hnx,S',hv⟩:=op_appendE hG S ty u e e' s x sz agg ho ht hu hel he hp
   refine ⟨fun f _=>hF.fn f,?_⟩
   rw [Oper.semAt_eq _ _ _ (fun c' e=>by rw [ho] at e;cases e),hrun]
   rcases hnx with rfl|⟨rfl,rfl⟩
   ·exact hput S' hv rfl
   ·exact hput S' hv rfl
  |okF hg ns p d u he hp =>
   rcases evalOp_okF he with ⟨_,_,_,_,_,e2⟩|⟨_,_,_,e2⟩|⟨_,_,e2⟩<;>(rw [hdop] at e2;cases e2)
  |flat hg f vs p ds d he hv hp hcall hf=>exact absurd he hnc
  |frz hg f vs p ds d he hv hp hcall=>exact absurd he hnc
  |heap hg f vs π ds hs d hs' he hcall hi=>exact absurd he hnc
 have calls:∀ {f:FuncId} {vs:List DV} {p:Option Prop} {ds:List DV},Guarded dop t→evalOp (evalOpd G t) (hlook h) (dop.dst.getD 0) dop.op=.call f vs→purs (hlook h) vs=some (p,ds)→holds p→PureCall P G f ds d →
   (∀ M1 M' v w',Sim B nt M0 w0 M1 ρ t (freeze (namess vs) h) a w→M1.le M'→M'.holds w'→RelP M' d v→RowKit.Below w.heap.size w w'→(∀ b o v,M' b o=some v→M1 b o=none→w.heap.size≤b)→K (a.put o.dst v) w') →
   if Region.wanted o (yielded ops a.tmps)=true then o.wpIn F n P a w K Q else (∀ f,o.about P w a.eval=some f→F.fn f)∧K (a.put o.dst undef) w:=by
  intro f vs p ds hg he hv hp hcall hcont
  rw [if_pos (hw1 hg)]
  obtain ⟨hen,hcall⟩:=hcall
  obtain ⟨args,hrun,hsz,hrel⟩:=call_run hG S hc he hen
  obtain ⟨M1,m1,S1,m2,m3,m4⟩:=S.freeze (namess vs)
  refine ⟨fun f _=>hF.fn f,?_⟩
  rw [Oper.semAt_eq _ _ _ (cOp_defer hc),hrun,Oper.uponIn_enter]
  refine ⟨fun h=>by rw [hd] at h;simp at h,?_⟩
  obtain ⟨e1,e2⟩:=purs_rel S1 (hlook h) vs (fun i=>args.getD i Go.undef) p ds hv hp (fun i hi=>(hrel i hi).ext m3) (fun m hm sz es fr e=>by rw [m4 m sz es fr e];simp [hm]) (fun m hm sz d0 hl hp=>freeze_fbox hm hl hp)
  refine CallsIn.mono (calls_plain (hcall F.plain (n - 1) ⟨hF.fn,hF.quiet⟩ hd rfl M1 w args (hG.mono S1.le) (hF.tb.touch S1.below (fun k hk h=>h) |>.now) S1.mem ⟨by omega,fun i hi=>e2 i (by omega)⟩)) (fun e w' hA=>?_)
  obtain ⟨v,M',rfl,a1,a2,a3,a4,a5⟩:=hA
  exact hcont M1 M' v w' S1 a1 a2 a3 a4 a5
 cases st with
 |skip g want hg hv =>
  rw [if_neg (by rw [hw2 g want hg hv];simp)]
  exact ⟨fun f _=>hF.fn f,hput S (.pure (.tuple [] #[] rfl (by simp))) rfl⟩
 |ok hg p d u he hp =>
  rw [if_pos (hw1 hg)]
  obtain ⟨nx,v,w',M',ρ',hrun,hnx,S',hv⟩:=op_sound hG S imm _ _ hc he hp
  refine ⟨fun f _=>hF.fn f,?_⟩
  rw [Oper.semAt_eq _ _ _ (cOp_defer hc),hrun]
  rcases hnx with rfl|⟨rfl,rfl⟩
  ·exact hput S' hv rfl
  ·exact hput S' hv rfl
 |okF hg ns p d u he hp =>
  rw [if_pos (hw1 hg)]
  obtain ⟨M1,nx,v,w',M',ρ',hrun,hnx,S',hv⟩:=op_soundF hG S imm _ _ hc he hp
  refine ⟨fun f _=>hF.fn f,?_⟩
  rw [Oper.semAt_eq _ _ _ (cOp_defer hc),hrun]
  rcases hnx with rfl|⟨rfl,rfl⟩
  ·exact hput S' hv rfl
  ·exact hput S' hv rfl
 |flat hg f vs p ds d he hv hp hcall hf =>
  refine calls hg he hv hp hcall (fun M1 M' v w' S1 a1 a2 a3 a4 a5=>?_)
  exact hput (S.world (fun k hk=>a4.block k hk) (S.below.trans (.of_below (a4.mono S.Bsize)))) (.pure (relP_flat d v hf a3)) rfl
 |heap hg f vs π ds hs d hs' he hcall hi =>
  rw [if_pos (hw1 hg)]
  obtain ⟨hen,hcall⟩:=hcall
  obtain ⟨args,hrun,hsz,hrel⟩:=call_run hG S hc he hen
  refine ⟨fun f _=>hF.fn f,?_⟩
  rw [Oper.semAt_eq _ _ _ (cOp_defer hc),hrun,Oper.uponIn_enter]
  refine ⟨fun h=>by rw [hd] at h;simp at h,?_⟩
  obtain ⟨i1,i2,i3,i4⟩:=hi
  have hin:=S.heapIn i2 i3
  refine CallsIn.mono (calls_plain (hcall F.plain (n - 1) ⟨hF.fn,hF.quiet⟩ hd rfl M (unLoc π hs ρ) w args (hG.mono S.le) (hF.tb.touch S.below (fun k hk h=>call_wr S i3 h)) hin (unrenVs S i1 i2 i3 ⟨hsz,hrel⟩))) (fun e w' hA=>?_)
  obtain ⟨v,M',ρ',rfl,a1,a2,a3,a4,a5,a6⟩:=hA
  obtain ⟨ρ'',S',hv⟩:=S.afterCall i2 i3 i4 a1 a2 a3 a4 a5 a6
  exact hput S' hv rfl
 |frz hg f vs p ds d he hv hp hcall =>
  refine calls hg he hv hp hcall (fun M1 M' v w' S1 a1 a2 a3 a4 a5=>?_)
  exact hput (S1.memUp a1 a2 (fun k hk=>a4.block k hk) (S.below.trans (.of_below (a4.mono S.Bsize))) a5) (.pure a3) rfl
end
end Sh

/- Regions: in the order of the text,and in any order. -/
namespace Sh
open Go
theorem memB_iff (n:Nat):∀ l:List Nat,memB n l=true ↔ n ∈ l
 |[]=>by simp [memB]
 |k :: r=>by
  unfold memB
  rw [natbeq]
  by_cases e:k=n
  ·simp [e]
  ·simp [e,memB_iff n r,Ne.symm e]
theorem mem_insertN {m n:Nat} {l:List Nat} (h:m ∈ insertN n l):m=n∨m ∈ l:=by
 unfold insertN at h
 cases hb:memB n l
 ·rw [hb] at h;simp at h;exact h.symm
 ·rw [hb] at h;exact .inr h
theorem mem_unionN {m:Nat}:∀ {b a:List Nat},m ∈ unionN a b→m ∈ a∨m ∈ b
 |[],a,h=>.inl h
 |x :: r,a,h=>by
  have h':m ∈ unionN (insertN x a) r:=h
  rcases mem_unionN h' with h1|h1
  ·rcases mem_insertN h1 with rfl|h2
   ·exact .inr (by simp)
   ·exact .inl h2
  ·exact .inr (by simp [h1])
theorem mem_befOf {m:Nat} {o:Oper} {befs:List (List Nat)} (h:m ∈ befOf o befs):∃ e ∈ o.after,Region.binds .any e=true∧(m=e.on∨m ∈ befs.getD e.on []):=by
 have key:∀ (l:List Edge) (s:List Nat),m ∈ l.foldl (fun s e=>unionN (insertN e.on s) (befs.getD e.on [])) s→m ∈ s∨∃ e ∈ l,m=e.on∨m ∈ befs.getD e.on []:=by
  intro l
  induction l with
  |nil=>intro s h;exact .inl h
  |cons e r ih =>
   intro s h
   rcases ih _ h with h1|⟨e',h1,h2⟩
   ·rcases mem_unionN h1 with h1|h1
    ·rcases mem_insertN h1 with h1|h1
     ·exact .inr ⟨e,by simp,.inl h1⟩
     ·exact .inl h1
    ·exact .inr ⟨e,by simp,.inr h1⟩
   ·exact .inr ⟨e',by simp [h1],h2⟩
 rcases key _ _ h with h1|⟨e,h1,h2⟩
 ·simp at h1
 ·rw [List.mem_filter] at h1
  exact ⟨e,by simpa using h1.1,h1.2,h2⟩
section
variable {P:Program} {ann:Ann} {nt:Nat} {ops:Array Oper}
theorem cOpers_spec:∀ (l:List Oper) (i:Nat) (befs:List (List Nat)) (dl:List DOper),befs.length=i→cOpers P ann nt ops l i befs=some dl→dl.length=l.length ∧
  ∀ k o dop,l[k]?=some o→dl[k]?=some dop→OperOk P nt ops o dop∧(∀ e ∈ o.after,Region.binds .any e=true→e.on < i+k) ∧
   ∀ m ∈ dop.bef,∃ e ∈ o.after,Region.binds .any e=true∧(m=e.on∨m ∈ (befs++dl.map (·.bef)).getD e.on [])
 |[],i,befs,dl,hl,h=>by
  simp only [cOpers,Option.some.injEq] at h;subst h
  exact ⟨rfl,fun k o dop h=>by simp at h⟩
 |o :: r,i,befs,dl,hl,h=>by
  simp only [cOpers] at h
  split at h
  ·rename_i op g r' h1 h2 h3
   obtain ⟨c1,h⟩:=cond_some h
   simp only [Option.some.injEq] at h;subst h
   simp only [Bool.and_eq_true] at c1
   obtain ⟨i1,i2⟩:=cOpers_spec r (i+1) (befs++[befOf o befs]) r' (by simp [hl]) h3
   refine ⟨by simp [i1],fun k o' dop e1 e2=>?_⟩
   cases k with
   |zero =>
    simp only [List.getElem?_cons_zero,Option.some.injEq] at e1 e2
    subst e1;subst e2
    have hop:(∃ imm,cOp P imm o.op=some op)∨cEmp P o.op=some op:=by
     have key:∀ (b:Bool) (x y:Option DOp),(bif b then x else y)=some op→y=some op∨x=some op:=fun b x y h=>by
      cases b
      ·exact .inl h
      ·exact .inr h
     exact (key _ _ _ h1).imp (fun h=>⟨_,h⟩) id
    refine ⟨⟨hop,rfl,fun d hd=>?_,h2⟩,fun e he hb=>?_,fun m hm=>?_⟩
    ·have:=c1.2;rw [hd] at this;exact Nat.le_of_ble_eq_true this
    ·have:=c1.1
     unfold edgesBack at this
     rw [List.all_eq_true] at this
     exact Nat.le_of_ble_eq_true (this e (List.mem_filter.2 ⟨by simpa using he,hb⟩))
    ·obtain ⟨e,he,hb,hm⟩:=mem_befOf hm
     refine ⟨e,he,hb,hm.imp id (fun hm=>?_)⟩
     have hlt:e.on < befs.length:=by
      rcases Nat.lt_or_ge e.on befs.length with h|h
      ·exact h
      ·rw [List.getD_eq_getElem?_getD,List.getElem?_eq_none h] at hm;simp at hm
     rw [List.getD_eq_getElem?_getD,List.getElem?_append_left hlt,← List.getD_eq_getElem?_getD];exact hm
   |succ k =>
    simp only [List.getElem?_cons_succ] at e1 e2
    obtain ⟨j1,j2,j3⟩:=i2 k o' dop e1 e2
    refine ⟨j1,fun e he hb=>by have:=j2 e he hb;omega,fun m hm=>?_⟩
    obtain ⟨e,he,hb,hm⟩:=j3 m hm
    refine ⟨e,he,hb,hm.imp id (fun hm=>?_)⟩
    simpa using hm
  ·cases h
end
section
open Classical
variable {V:Type} {N:Nat} {s:Nat→Nat→V} {wr tc:Nat→Nat→Prop} {bef:Nat→Nat→Prop}
structure Parts (N:Nat) (s:Nat→Nat→V) (wr tc:Nat→Nat→Prop) (bef:Nat→Nat→Prop):Prop where
 frame:∀ k n,k < N→¬ wr k n→s (k+1) n=s k n
 sub:∀ k n,wr k n→tc k n
 ord:∀ j k,j < k→k < N→bef k j∨((∀ n,wr j n→¬ tc k n)∧∀ n,tc j n→¬ wr k n)
noncomputable def mix (s:Nat→Nat→V) (wr:Nat→Nat→Prop) (S:Nat→Bool):Nat→Nat→V
 |0,n=>s 0 n
 |k+1,n=>if S k=true∧wr k n then s (k+1) n else mix s wr S k n
theorem Parts.all (T:Parts N s wr tc bef) {S:Nat→Bool} (hS:∀ j,j < N→S j=true):∀ k,k≤N→∀ n,mix s wr S k n=s k n
 |0,_,_=>rfl
 |k+1,h,n=>by
  unfold mix
  rw [hS k (by omega),T.all hS k (by omega)]
  by_cases e:wr k n
  ·simp [e]
  ·simp [e,T.frame k n (by omega) e]
theorem mix_none {S:Nat→Bool} (hS:∀ j,S j=false) (k n:Nat):mix s wr S k n=s 0 n:=by
 induction k with
 |zero=>rfl
 |succ k ih=>unfold mix;rw [hS k];simpa using ih
theorem Parts.agree (T:Parts N s wr tc bef) {S:Nat→Bool} (cl:∀ k j,k < N→S k=true→bef k j→S j=true) {i n:Nat} (hi:i < N) (hiS:S i=false) (hb:∀ j,bef i j→S j=true) (ht:tc i n) :
  mix s wr S N n=s i n:=by
 have h1:∀ k,k≤i→mix s wr S k n=s k n:=by
  intro k
  induction k with
  |zero=>intro _;rfl
  |succ k ih =>
   intro hk
   unfold mix
   rw [ih (by omega)]
   by_cases e:wr k n
   ·rcases T.ord k i (by omega) hi with h|h
    ·simp [hb k h,e]
    ·exact absurd ht (h.1 n e)
   ·simp [e,T.frame k n (by omega) e]
 have h2:∀ k,i≤k→k≤N→mix s wr S k n=s i n:=by
  intro k
  induction k with
  |zero=>intro hk _;have:i=0:=by omega
         subst this;rfl
  |succ k ih =>
   intro hk hN
   rcases Nat.lt_or_eq_of_le hk with h|h
   ·unfold mix
    rw [ih (by omega) (by omega),if_neg]
    rintro ⟨e1,e2⟩
    rcases Nat.lt_or_eq_of_le (Nat.le_of_lt_succ h) with h|h
    ·rcases T.ord i k h (by omega) with h'|h'
     ·rw [cl k i (by omega) e1 h'] at hiS;cases hiS
     ·exact h'.2 n ht e2
    ·subst h;rw [e1] at hiS;cases hiS
   ·rw [← h];exact h1 i (Nat.le_refl _)
 exact h2 N (by omega) (Nat.le_refl _)
theorem Parts.step (T:Parts N s wr tc bef) {S S':Nat→Bool} (cl:∀ k j,k < N→S k=true→bef k j→S j=true) {i:Nat} (hi:i < N) (hiS:S i=false) (hb:∀ j,bef i j→S j=true)
  (hS:∀ j,S' j=(decide (j=i) || S j)) (n:Nat):mix s wr S' N n=if wr i n then s (i+1) n else mix s wr S N n:=by
 by_cases e:wr i n
 ·rw [if_pos e]
  have h2:∀ k,i < k→k≤N→mix s wr S' k n=s (i+1) n:=by
   intro k
   induction k with
   |zero=>intro hk;omega
   |succ k ih =>
    intro hk hN
    by_cases hne:k=i
    ·subst hne;unfold mix;rw [hS k];simp [e]
    ·unfold mix
     rw [ih (by omega) (by omega),if_neg]
     rintro ⟨e1,e2⟩
     rw [hS k] at e1
     simp only [hne,decide_false,Bool.false_or] at e1
     rcases T.ord i k (by omega) (by omega) with h'|h'
     ·rw [cl k i (by omega) e1 h'] at hiS;cases hiS
     ·exact h'.2 n (T.sub i n e) e2
  exact h2 N hi (Nat.le_refl _)
 ·rw [if_neg e]
  have h2:∀ k,mix s wr S' k n=mix s wr S k n:=by
   intro k
   induction k with
   |zero=>rfl
   |succ k ih =>
    unfold mix
    rw [ih,hS k]
    by_cases hk:k=i
    ·subst hk;simp [e]
    ·simp [hk]
  exact h2 N
end
theorem disj_spec {a b:List Nat} (h:disj a b=true) {n:Nat} (h1:n ∈ a):n ∉ b:=fun h2=>by
 unfold disj at h
 rw [List.all_eq_true] at h
 have:=h n h1
 simp only [Bool.not_eq_true',List.any_eq_false] at this
 exact this n h2 (by simp)
theorem footsOk_get {f:Foot}:∀ {l:List Foot} {j0:Nat},footsOk f l j0=true→∀ j g,l[j]?=some g→j0+j ∈ f.bef∨((∀ n ∈ g.wr,n ∉ f.rd∧n ∉ f.wr)∧∀ n ∈ g.rd,n ∉ f.wr)∨softPair g f=true
 |[],_,_,_,_,h=>by simp at h
 |g :: r,j0,h,j,g',hj=>by
  unfold footsOk at h
  simp only [Bool.and_eq_true,Bool.or_eq_true] at h
  cases j with
  |zero =>
   simp only [List.getElem?_cons_zero,Option.some.injEq] at hj;subst hj
   rcases h.1 with (⟨⟨h1,h2⟩,h3⟩|h1)|h1
   ·exact .inr (.inl ⟨fun n hn=>⟨disj_spec h1 hn,disj_spec h2 hn⟩,fun n hn=>disj_spec h3 hn⟩)
   ·rw [List.any_eq_true] at h1
    obtain ⟨x,hx,e⟩:=h1
    have:=Nat.eq_of_beq_eq_true e;subst this
    exact .inl hx
   ·exact .inr (.inr h1)
  |succ j =>
   have:=footsOk_get h.2 j g' (by simpa using hj)
   rwa [show j0+1+j=j0+(j+1) by omega] at this
theorem allFeet_get:∀ {l pre:List Foot},allFeet pre l=true→∀ k f,l[k]?=some f→footsOk f (pre++l.take k) 0=true
 |[],_,_,_,_,h=>by simp at h
 |f :: r,pre,h,k,f',hk=>by
  unfold allFeet at h
  simp only [Bool.and_eq_true] at h
  cases k with
  |zero=>simp only [List.getElem?_cons_zero,Option.some.injEq] at hk;subst hk;simpa using h.1
  |succ k =>
   have:=allFeet_get h.2 k f' (by simpa using hk)
   simpa using this
theorem statFrom_get {b:DOper}:∀ {l:List DOper} {j0:Nat},statFrom b l j0=true→∀ j a,l[j]?=some a→statPair a (j0+j) b=true
 |[],_,_,_,_,h=>by simp at h
 |g :: r,j0,h,j,g',hj=>by
  unfold statFrom at h
  simp only [Bool.and_eq_true] at h
  cases j with
  |zero=>simp only [List.getElem?_cons_zero,Option.some.injEq] at hj;subst hj;exact h.1
  |succ j =>
   have:=statFrom_get h.2 j g' (by simpa using hj)
   rwa [show j0+1+j=j0+(j+1) by omega] at this
theorem statAll_get:∀ {l pre:List DOper},statAll pre l=true→∀ k b,l[k]?=some b→statFrom b (pre++l.take k) 0=true
 |[],_,_,_,_,h=>by simp at h
 |f :: r,pre,h,k,f',hk=>by
  unfold statAll at h
  simp only [Bool.and_eq_true] at h
  cases k with
  |zero=>simp only [List.getElem?_cons_zero,Option.some.injEq] at hk;subst hk;simpa using h.1
  |succ k =>
   have:=statAll_get h.2 k f' (by simpa using hk)
   simpa using this
theorem statPair_spec {a b:DOper} {i:Nat} (h:statPair a i b=true):i ∈ b.bef∨((∀ d,a.dst=some d→d ∉ looksOf b∧b.dst≠some d)∧∀ d,b.dst=some d→d ∉ looksOf a∧a.dst≠some d):=by
 unfold statPair at h
 simp only [Bool.or_eq_true,Bool.and_eq_true] at h
 rcases h with h|⟨⟨h1,h2⟩,h3⟩
 ·exact .inl ((memB_iff _ _).1 h)
 ·refine .inr ⟨fun d hd=>⟨fun hm=>?_,fun e=>?_⟩,fun d hd=>⟨fun hm=>?_,fun e=>?_⟩⟩
  ·rw [hd] at h1;simp [(memB_iff d (looksOf b)).2 hm] at h1
  ·rw [hd,e] at h3;simp at h3
  ·rw [hd] at h2;simp [(memB_iff d (looksOf a)).2 hm] at h2
  ·rw [hd,e] at h3;simp at h3
theorem hlook_append (a b:Heap) (n:Nat):hlook (a++b) n=(hlook a n).or (hlook b n):=by
 induction a with
 |nil=>rfl
 |cons x r ih =>
  obtain ⟨k,v⟩:=x
  rw [List.cons_append,hlook_cons,hlook_cons,ih]
  split<;>rfl
theorem hlook_none {a:Heap} {n:Nat} (h:n ∉ a.map (·.1)):hlook a n=none:=by
 induction a with
 |nil=>rfl
 |cons x r ih =>
  obtain ⟨k,v⟩:=x
  simp only [List.map_cons,List.mem_cons,not_or] at h
  rw [hlook_cons,if_neg (Ne.symm h.1)];exact ih h.2
theorem eff_congr {u h h':Heap} {ns:List Nat} {n:Nat} (e:hlook h' n=hlook h n):hlook (u.reverse++freeze ns h') n=hlook (u.reverse++freeze ns h) n:=by
 rw [hlook_append,hlook_append,freeze_look,freeze_look,e]
theorem eff_frame {u h:Heap} {ns:List Nat} {n:Nat} (h1:n ∉ ns) (h2:n ∉ u.map (·.1)):hlook (u.reverse++freeze ns h) n=hlook h n:=by
 rw [hlook_append,hlook_none (by simpa using h2),freeze_look]
 simp only [Option.none_or]
 cases hlook h n with
 |none=>rfl
 |some o=>cases o<;>simp [h1]
theorem eqCells_eq:∀ {ks:List Nat} {xs ys:List DV},eqCells ks xs ys=some true→xs=ys
 |[],xs,ys,h=>by
  obtain ⟨rfl,rfl,_⟩:=eqCells_nil h
  rfl
 |k :: ks,xs,ys,h=>by
  have hsub:∀ {p q:List DV},eqCells ks p q=some true→p=q:=fun hq=>eqCells_eq hq
  unfold eqCells at h
  split at h
  ·rename_i heq;cases heq
  ·rename_i j a rx k' b ry heq
   simp only [List.cons.injEq] at heq
   obtain ⟨rfl,rfl⟩:=heq
   split at h
   ·rename_i e hq
    cases hk:kindEq j k' with
    |false=>rw [hk] at h;cases h
    |true =>
     rw [hk] at h
     simp only [cond_true,Option.some.injEq,Bool.and_eq_true,decide_eq_true_eq] at h
     obtain ⟨rfl,rfl⟩:=h
     have:=kindEq_eq hk;subst this
     rw [hsub hq]
   ·cases h
  ·rename_i a rx b ry heq
   simp only [List.cons.injEq] at heq
   obtain ⟨rfl,rfl⟩:=heq
   split at h
   ·rename_i e hq
    simp only [Option.some.injEq,Bool.and_eq_true,beq_iff_eq] at h
    obtain ⟨rfl,rfl⟩:=h
    rw [hsub hq]
   ·cases h
  ·rename_i a rx b ry heq
   simp only [List.cons.injEq] at heq
   obtain ⟨rfl,rfl⟩:=heq
   split at h
   ·rename_i e hq
    simp only [Option.some.injEq,Bool.and_eq_true,decide_eq_true_eq] at h
    obtain ⟨rfl,rfl⟩:=h
    rw [hsub hq]
   ·cases h
  ·cases h
theorem keyEq_eq {kk:Nat} {ks:List Nat} {a b:DV} (h:keyEq kk ks a b=some true):a=b:=by
 unfold keyEq at h
 split at h
 ·split at h
  ·simp only [Option.some.injEq,beq_iff_eq] at h;rw [h]
  ·cases h
 ·split at h
  ·rename_i j a k b
   cases hk:kindEq j k with
   |false=>rw [hk] at h;cases h
   |true =>
    rw [hk] at h
    simp only [cond_true,Option.some.injEq,decide_eq_true_eq] at h
    rw [h,kindEq_eq hk]
  ·cases h
 ·split at h
  ·simp only [Option.some.injEq,decide_eq_true_eq] at h;rw [h]
  ·cases h
 ·split at h
  ·rw [eqCells_eq h]
  ·cases h
theorem dfind_append (eq:DV→DV→Option Bool) (k:DV) (x:DV×DV):∀ (es:List (DV×DV)) (i:Nat),dfind eq k (es++[x]) i=match dfind eq k es i with
  |some none=>dfind eq k [x] (i+es.length)
  |r=>r
 |[],i=>rfl
 |(k',v) :: r,i=>by
  have ih:=dfind_append eq k x r (i+1)
  rw [show i+1+r.length=i+(r.length+1) by omega] at ih
  have e1:∀ l,dfind eq k ((k',v) :: l) i=match eq k k' with
   |some true=>some (some (i,v))
   |some false=>dfind eq k l (i+1)
   |none=>none:=fun l=>rfl
  rw [List.cons_append,e1,e1,List.length_cons]
  cases eq k k' with
  |none=>rfl
  |some b =>
   cases b with
   |true=>rfl
   |false=>exact ih
theorem dfind_at {eq:DV→DV→Option Bool} {k:DV}:∀ {es:List (DV×DV)} {i j:Nat} {v:DV},dfind eq k es i=some (some (j,v))→i≤j∧∃ k',es[j - i]?=some (k',v)∧eq k k'=some true
 |[],i,j,v,h=>by cases h
 |(k',v') :: r,i,j,v,h=>by
  unfold dfind at h
  split at h
  ·rename_i he
   simp only [Option.some.injEq,Prod.mk.injEq] at h
   obtain ⟨rfl,rfl⟩:=h
   exact ⟨Nat.le_refl _,k',by simp,he⟩
  ·obtain ⟨h1,k2,h2,h3⟩:=dfind_at h
   refine ⟨by omega,k2,?_,h3⟩
   rw [show j - i=(j - (i+1))+1 by omega];simpa using h2
  ·cases h
theorem eqNs_eq:∀ {a b:List Nat},eqNs a b=true→a=b
 |[],[],_=>rfl
 |[],_ :: _,h=>by cases h
 |_ :: _,[],h=>by cases h
 |a :: r,b :: s,h=>by
  unfold eqNs at h
  simp only [Bool.and_eq_true] at h
  rw [Nat.eq_of_beq_eq_true h.1,eqNs_eq h.2]
theorem sameZ_eq {a b:DV} (h:sameZ a b=true):a=b:=by
 unfold sameZ at h
 split at h
 ·simp only [Bool.and_eq_true,decide_eq_true_eq] at h
  rw [kindEq_eq h.1,h.2]
 ·simp only [beq_iff_eq] at h;rw [h]
 ·cases h
def lookR (kk:Nat) (ks:List Nat) (k z:DV) (es:List (DV×DV)):Ev:=match dfind (keyEq kk ks) k es 0 with
 |some (some (_,v))=>.ok none v []
 |some none=>.ok none z []
 |none=>.fail
theorem lookR_new {kk:Nat} {ks:List Nat} {k k' z:DV} {es:List (DV×DV)} (h:(keyEq kk ks k k').isSome=true):lookR kk ks k z (es++[(k',z)])=lookR kk ks k z es:=by
 unfold lookR
 rw [dfind_append]
 cases hd:dfind (keyEq kk ks) k es 0 with
 |none=>rfl
 |some r =>
  cases r with
  |some jv=>rfl
  |none =>
   simp only
   unfold dfind
   cases hq:keyEq kk ks k k' with
   |none=>rw [hq] at h;cases h
   |some b=>cases b<;>rfl
theorem evalOp_lookup {ev:Operand→DV} {lk:Nat→Option DObj} {n kk:Nat} {ks:List Nat} {z:DV} {m k:Operand} {q:Nat} (hm:ev m=.dict q):evalOp ev lk n (.lookup kk ks false z m k)=match lk q with
  |some (.dict es)=>bif keyB kk ks (ev k) then lookR kk ks (ev k) z es else .fail
  |_=>.fail:=by
 simp only [evalOp,hm]
 cases lk q with
 |none=>rfl
 |some o =>
  cases o with
  |dict es=>rfl
  |_=>rfl
def foundE (G:Nat→Option DV) (T:Nat→Tmps) (dl:List DOper) (fs:List Foot) (i:Nat) (lk:Nat→Option DObj):Ev :=
 match fs[i]? with
 |none=>.fail
 |some ft=>match ft.so with
  |some (false,_)=>match dl[i]? with
   |some dop=>evalOp (evalOpd G (T i)) lk (dop.dst.getD 0) dop.op
   |none=>.fail
  |_=>.fail
theorem foundE_some {G:Nat→Option DV} {T:Nat→Tmps} {dl:List DOper} {fs:List Foot} {i:Nat} {lk:Nat→Option DObj} {dop:DOper} {ft:Foot} {x:Nat×Nat×List Nat×DV×DV} (h1:dl[i]?=some dop) (h2:fs[i]?=some ft) (h3:ft.so=some (false,x)) :
  foundE G T dl fs i lk=evalOp (evalOpd G (T i)) lk (dop.dst.getD 0) dop.op:=by
 unfold foundE
 rw [h2];simp only;rw [h3];simp only;rw [h1]
theorem foundE_none {G:Nat→Option DV} {T:Nat→Tmps} {dl:List DOper} {fs:List Foot} {i:Nat} {lk:Nat→Option DObj} {ft:Foot} (h2:fs[i]?=some ft) (h3:∀ x,ft.so≠some (false,x)):foundE G T dl fs i lk=.fail:=by
 unfold foundE
 rw [h2]
 cases hso:ft.so with
 |none=>simp only [hso]
 |some x =>
  obtain ⟨b,x⟩:=x
  cases b with
  |false=>exact absurd hso (h3 x)
  |true=>simp only [hso]
theorem foundE_out {G:Nat→Option DV} {T:Nat→Tmps} {dl:List DOper} {fs:List Foot} {i:Nat} {lk:Nat→Option DObj} (h2:fs[i]?=none):foundE G T dl fs i lk=.fail:=by
 unfold foundE
 rw [h2]
theorem softOf_false {ev:Operand→DV} {op:DOp} {q kk:Nat} {ks:List Nat} {k z:DV} (h:softOf ev op=some (false,q,kk,ks,k,z)):∃ m ko,op=.lookup kk ks false z m ko∧ev m=.dict q∧ev ko=k:=by
 unfold softOf at h
 split at h
 ·rename_i m ko
  split at h
  ·rename_i hm
   simp only [Option.some.injEq,Prod.mk.injEq] at h
   obtain ⟨_,rfl,rfl,rfl,rfl,rfl⟩:=h
   exact ⟨_,_,rfl,hm,rfl⟩
  ·cases h
 ·split at h
  ·simp at h
  ·cases h
 ·cases h
theorem softOf_true {ev:Operand→DV} {op:DOp} {q kk:Nat} {ks:List Nat} {k z:DV} (h:softOf ev op=some (true,q,kk,ks,k,z)):∃ m ko,op=.mapentry kk ks z m ko∧ev m=.dict q∧ev ko=k:=by
 unfold softOf at h
 split at h
 ·split at h
  ·simp at h
  ·cases h
 ·rename_i m ko
  split at h
  ·rename_i hm
   simp only [Option.some.injEq,Prod.mk.injEq] at h
   obtain ⟨_,rfl,rfl,rfl,rfl,rfl⟩:=h
   exact ⟨_,_,rfl,hm,rfl⟩
  ·cases h
 ·cases h
theorem entry_ok {ev:Operand→DV} {lk:Nat→Option DObj} {n kk:Nat} {ks:List Nat} {z:DV} {m k:Operand} {q:Nat} {p:Option Prop} {d:DV} {u:Heap} (hm:ev m=.dict q) (he:evalOp ev lk n (.mapentry kk ks z m k)=.ok p d u) :
  ∃ es,lk q=some (.dict es)∧(u=[(q,.dict es)]∨u=[(q,.dict (es++[(ev k,z)]))]):=by
 simp only [evalOp,hm] at he
 split at he
 ·rename_i es hl
  refine ⟨es,hl,?_⟩
  cases hk:keyB kk ks (ev k) with
  |false=>rw [hk] at he;cases he
  |true =>
   rw [hk] at he
   simp only [cond_true] at he
   split at he
   ·rename_i i v hf
    simp only [Ev.ok.injEq] at he
    obtain ⟨_,_,rfl⟩:=he
    obtain ⟨_,k',h2,h3⟩:=dfind_at hf
    rw [← keyEq_eq h3,Nat.sub_zero] at h2
    left
    congr 3
    exact List.ext_getElem? fun j=>by
     rw [List.getElem?_set]
     split
     ·rename_i e;subst e
      obtain ⟨hlt,h4⟩:=List.getElem?_eq_some_iff.1 h2
      simp [hlt,h4]
     ·rfl
   ·simp only [Ev.ok.injEq] at he
    obtain ⟨_,_,rfl⟩:=he
    exact .inr rfl
   ·cases he
 ·cases he
section
variable {P:Program} {G:Nat→Option DV} {B:Base} {nt:Nat} {M0:Mem} {w0:World} {F:Fence} {n:Nat} {ops:Array Oper} {Q:Exit→Act→World→Prop}
theorem Chain.fun {l:List DOper} {fs:List Foot} {t t2:Tmps} {h h2:Heap} (c:Chain P G l fs t h t2 h2):fs.length=l.length∧∃ (T:Nat→Tmps) (H:Nat→Heap),T 0=t∧H 0=h∧T l.length=t2∧H l.length=h2 ∧
  ∀ k o ft,l[k]?=some o→fs[k]?=some ft→StepTo P G o ft (T k) (H k) (T (k+1)) (H (k+1)):=by
 induction c with
 |nil t h=>exact ⟨rfl,fun _=>t,fun _=>h,rfl,rfl,rfl,rfl,fun k o ft h=>by simp at h⟩
 |cons st c ih =>
  rename_i o r ft fs t h t1 h1 t2 h2
  obtain ⟨e,T,H,e1,e2,e3,e4,e5⟩:=ih
  refine ⟨by simp [e],fun k=>match k with|0=>t|k+1=>T k,fun k=>match k with|0=>h|k+1=>H k,rfl,rfl,e3,e4,fun k o' ft' h1 h2=>?_⟩
  cases k with
  |zero =>
   simp only [List.getElem?_cons_zero,Option.some.injEq] at h1 h2
   subst h1;subst h2
   simpa [e1,e2] using st
  |succ k=>exact e5 k o' ft' (by simpa using h1) (by simpa using h2)
theorem plain_run (hG:GOk G M0) (hF:OpenB G F B w0) (hd:F.depth=none) {l:List DOper} {fs:List Foot} {t t2:Tmps} {h h2:Heap} (c:Chain P G l fs t h t2 h2) :
  ∀ (i:Nat),(∀ k dop,l[k]?=some dop→∃ o,ops[i+k]?=some o∧OperOk P nt ops o dop)→∀ {M:Mem} {ρ:Locs} {a:Act} {w:World},Sim B nt M0 w0 M ρ t h a w →
   (∀ M' ρ' a' w',Sim B nt M0 w0 M' ρ' t2 h2 a' w'→Q .normal a' w')→wpOpsIn F n P ops Q (List.range' i l.length) a w:=by
 induction c with
 |nil t h=>intro i _ M ρ a w S hQ;exact hQ _ _ _ _ S
 |cons st c ih =>
  rename_i o r ft fs t h t1 h1 t2 h2
  intro i hok M ρ a w S hQ
  rw [List.length_cons,List.range'_succ,wpOpsIn_cons]
  obtain ⟨om,ho,ok⟩:=hok 0 o rfl
  obtain ⟨_,⟨d,ns,u,hs,e1,e2,_⟩,_⟩:=st
  refine step_run hG hF hd ok ho S hs (fun M' ρ' a' w' S'=>?_)
  refine ih (i+1) (fun k dop hk=>?_) (S'.congr e1 e2) hQ
  obtain ⟨om',ho',ok'⟩:=hok (k+1) dop (by simpa using hk)
  exact ⟨om',by rw [show i+1+k=i+(k+1) by omega];exact ho',ok'⟩
def cnt (S:Nat→Bool):Nat→Nat
 |0=>0
 |k+1=>cnt S k+(if S k=true then 0 else 1)
theorem cnt_zero {S:Nat→Bool}:∀ {N:Nat},cnt S N=0→∀ j,j < N→S j=true
 |0,_,j,h=>by omega
 |N+1,hc,j,h=>by
  unfold cnt at hc
  by_cases e:S N=true
  ·rcases Nat.lt_or_eq_of_le (Nat.le_of_lt_succ h) with h|h
   ·exact cnt_zero (by omega) j h
   ·subst h;exact e
  ·rw [if_neg e] at hc;omega
theorem cnt_set {S S':Nat→Bool} {i:Nat} (hi:S i=false) (hS:∀ j,S' j=(decide (j=i) || S j)):∀ N,cnt S' N+(if i < N then 1 else 0)=cnt S N
 |0=>by simp [cnt]
 |N+1=>by
  have:=cnt_set hi hS N
  unfold cnt
  rw [hS N]
  by_cases e:N=i
  ·subst e;simp at this;simp [this,hi]
  ·by_cases h:i < N
   ·simp [h] at this
    have h2:i < N+1:=by omega
    simp [e,h2];omega
   ·simp [h] at this
    have h2:¬ i < N+1:=by omega
    simp [e,h2,this]
theorem draw_run (hG:GOk G M0) (hF:OpenB G F B w0) (hd:F.depth=none) {ann:Ann} {dl:List DOper} (hc:cOpers P ann nt ops ops.toList 0 []=some dl) (hst:statAll [] dl=true)
  {fs:List Foot} {t t2:Tmps} {h h2:Heap} (c:Chain P G dl fs t h t2 h2) (hfeet:allFeet [] fs=true) {M:Mem} {ρ:Locs} {a:Act} {w:World} (S0:Sim B nt M0 w0 M ρ t h a w)
  (hQ:∀ M' ρ' a' w',Sim B nt M0 w0 M' ρ' t2 h2 a' w'→Q .normal a' w'):wpAnyIn F n P .any ops Q ops.size (Array.replicate ops.size false) a w:=by
 obtain ⟨hlen,hops⟩:=cOpers_spec ops.toList 0 [] dl rfl hc
 simp only [Array.length_toList,Nat.zero_add,List.nil_append] at hlen hops
 obtain ⟨hfl,T,H,e1,e2,e3,e4,hsteps⟩:=c.fun
 have hdl:∀ k,k < ops.size→∃ o dop ft,ops[k]?=some o∧dl[k]?=some dop∧fs[k]?=some ft:=fun k hk =>
  ⟨ops[k],dl[k]'(by omega),fs[k]'(by omega),by simp [hk],by simp [hlen,hk],by simp [hfl,hlen,hk]⟩
 let bef:Nat→Nat→Prop:=fun k j=>∃ dop,dl[k]?=some dop∧j ∈ dop.bef
 let wrT:Nat→Nat→Prop:=fun k x=>∃ dop,dl[k]?=some dop∧dop.dst=some x
 let tcT:Nat→Nat→Prop:=fun k x=>∃ dop,dl[k]?=some dop∧(dop.dst=some x∨x ∈ looksOf dop)
 let wrH:Nat→Nat→Prop:=fun k x=>∃ ft,fs[k]?=some ft∧x ∈ ft.wr
 let tcH:Nat→Nat→Prop:=fun k x=>∃ ft,fs[k]?=some ft∧(x ∈ ft.wr∨(x ∈ ft.rd∧∀ y,ft.so≠some (false,y)))
 have PT:Parts ops.size (fun k=>tget (T k)) wrT tcT bef:=by
  refine ⟨fun k x hk hw=>?_,fun k x ⟨dop,h1,h2⟩=>⟨dop,h1,.inl h2⟩,fun j k hjk hk=>?_⟩
  ·obtain ⟨o,dop,ft,h1,h2,h3⟩:=hdl k hk
   obtain ⟨_,⟨d,ns,u,_,g1,_,_⟩,_⟩:=hsteps k dop ft h2 h3
   show tget (T (k+1)) x=tget (T k) x
   rw [g1,tget_putO,if_neg (fun e=>hw ⟨dop,h2,e⟩)]
  ·obtain ⟨o,dop,ft,h1,h2,h3⟩:=hdl k hk
   obtain ⟨o',dop',ft',h1',h2',h3'⟩:=hdl j (by omega)
   have hs:=statFrom_get (statAll_get hst k dop h2) j dop' (by rw [List.nil_append,List.getElem?_take_of_lt hjk];exact h2')
   rw [Nat.zero_add] at hs
   rcases statPair_spec hs with h|⟨g1,g2⟩
   ·exact .inl ⟨dop,h2,h⟩
   ·refine .inr ⟨fun x ⟨d1,q1,q2⟩ ⟨d2,q3,q4⟩=>?_,fun x ⟨d1,q1,q2⟩ ⟨d2,q3,q4⟩=>?_⟩
    ·rw [h2'] at q1;cases q1;rw [h2] at q3;cases q3
     rcases q4 with q4|q4
     ·exact (g1 x q2).2 q4
     ·exact (g1 x q2).1 q4
    ·rw [h2'] at q1;cases q1;rw [h2] at q3;cases q3
     rcases q2 with q2|q2
     ·exact (g2 x q4).2 q2
     ·exact (g2 x q4).1 q2
 have PH:Parts ops.size (fun k=>hlook (H k)) wrH tcH bef:=by
  refine ⟨fun k x hk hw=>?_,fun k x ⟨dop,h1,h2⟩=>⟨dop,h1,.inl h2⟩,fun j k hjk hk=>?_⟩
  ·obtain ⟨o,dop,ft,h1,h2,h3⟩:=hdl k hk
   obtain ⟨_,⟨d,ns,u,_,_,g1,g2⟩,_⟩:=hsteps k dop ft h2 h3
   have hx:x ∉ ft.wr:=fun e=>hw ⟨ft,h3,e⟩
   rw [g2] at hx
   show hlook (H (k+1)) x=hlook (H k) x
   rw [g1]
   exact eff_frame (fun e=>hx (.inl e)) (fun e=>hx (.inr e))
  ·obtain ⟨o,dop,ft,h1,h2,h3⟩:=hdl k hk
   obtain ⟨o',dop',ft',h1',h2',h3'⟩:=hdl j (by omega)
   have hs:=footsOk_get (allFeet_get hfeet k ft h3) j ft' (by rw [List.nil_append,List.getElem?_take_of_lt hjk];exact h3')
   rw [Nat.zero_add] at hs
   rcases hs with h|⟨g1,g2⟩|hsp
   ·exact .inl ⟨dop,h2,by rw [← (hsteps k dop ft h2 h3).bef];exact h⟩
   ·refine .inr ⟨fun x ⟨d1,q1,q2⟩ ⟨d2,q3,q4⟩=>?_,fun x ⟨d1,q1,q2⟩ ⟨d2,q3,q4⟩=>?_⟩
    ·rw [h3'] at q1;cases q1;rw [h3] at q3;cases q3
     rcases q4 with q4|⟨q4,_⟩
     ·exact (g1 x q2).2 q4
     ·exact (g1 x q2).1 q4
    ·rw [h3'] at q1;cases q1;rw [h3] at q3;cases q3
     rcases q2 with q2|⟨q2,_⟩
     ·exact (g1 x q2).2 q4
     ·exact g2 x q2 q4
   ·unfold softPair at hsp
    rw [Bool.and_eq_true] at hsp
    have hwj:ft'.wr=[]:=List.isEmpty_iff.1 hsp.1
    refine .inr ⟨fun x ⟨d1,q1,q2⟩ _=>?_,fun x ⟨d1,q1,q2⟩ _=>?_⟩
    ·rw [h3'] at q1;cases q1;rw [hwj] at q2;cases q2
    ·rw [h3'] at q1;cases q1
     rcases q2 with q2|⟨_,q2⟩
     ·rw [hwj] at q2;cases q2
     ·have h:=hsp.2
      split at h
      ·rename_i e1 _;exact q2 _ e1
      ·cases h
 -- what the lookups find
 let E:Nat→(Nat→Option DObj)→Ev:=foundE G T dl fs
 have EL:∀ {i:Nat} {dop:DOper} {ft:Foot} {x:Nat×Nat×List Nat×DV×DV} (lk:Nat→Option DObj),dl[i]?=some dop→fs[i]?=some ft→ft.so=some (false,x)→E i lk=evalOp (evalOpd G (T i)) lk (dop.dst.getD 0) dop.op:=fun lk h1 h2 h3=>foundE_some h1 h2 h3
 have EN:∀ {i:Nat} {ft:Foot} (lk lk':Nat→Option DObj),fs[i]?=some ft→(∀ x,ft.so≠some (false,x))→E i lk'=E i lk:=fun lk lk' h2 h3=>by
  show foundE G T dl fs _ lk'=foundE G T dl fs _ lk
  rw [foundE_none h2 h3,foundE_none h2 h3]
 have isL:∀ {i q kk:Nat} {ks:List Nat} {k z:DV} {dop:DOper} {ft:Foot},dl[i]?=some dop→fs[i]?=some ft→ft.so=some (false,q,kk,ks,k,z)→∃ m ko,dop.op=.lookup kk ks false z m ko∧evalOpd G (T i) m=.dict q∧evalOpd G (T i) ko=k∧ft.rd=[q] ∧
   Guarded dop (T i)∧∃ p d u,evalOp (evalOpd G (T i)) (hlook (H i)) (dop.dst.getD 0) dop.op=.ok p d u∧(holds p∧∀ n,hlook (H (i+1)) n=hlook (u.reverse++H i) n):=fun {i q kk ks k z dop ft} h1 h2 h3=>by
  rcases (hsteps i dop ft h1 h2).soft with h|⟨s1,s2,s3,s4⟩
  ·rw [h] at h3;cases h3
  ·rw [h3] at s1
   obtain ⟨m,ko,e1,e2,e3⟩:=softOf_false s1.symm
   refine ⟨m,ko,e1,e2,e3,?_,s3,s4⟩
   rw [s2,e1];simp only [readsOf,e2,names]
 have Econg:∀ {i:Nat} {ft:Foot} {q:Nat} {x:Nat×List Nat×DV×DV} (lk lk':Nat→Option DObj),fs[i]?=some ft→ft.so=some (false,q,x)→lk' q=lk q→E i lk'=E i lk:=fun {i ft q x} lk lk' h2 h3 hq=>by
  obtain ⟨kk,ks,k,z⟩:=x
  have hi:i < dl.length:=by rw [← hfl];exact (List.getElem?_eq_some_iff.1 h2).1
  have h1:dl[i]?=some dl[i]:=List.getElem?_eq_getElem hi
  obtain ⟨m,ko,e1,e2,e3,_⟩:=isL h1 h2 h3
  rw [EL lk' h1 h2 h3,EL lk h1 h2 h3]
  exact evalOp_congr _ (fun _ _=>rfl) (fun n hn=>by
   rw [e1] at hn
   simp only [readsOf,e2,names,List.mem_singleton] at hn
   rw [hn];exact hq)
 have Esoft:∀ {i k:Nat} {fi fk:Foot},fs[i]?=some fi→fs[k]?=some fk→softPair fi fk=true→E i (hlook (H (k+1)))=E i (hlook (H k)):=fun {i k fi fk} h2 h2' hsp=>by
  have hi:i < dl.length:=by rw [← hfl];exact (List.getElem?_eq_some_iff.1 h2).1
  have h1:dl[i]?=some dl[i]:=List.getElem?_eq_getElem hi
  have hk:k < dl.length:=by rw [← hfl];exact (List.getElem?_eq_some_iff.1 h2').1
  have h1':dl[k]?=some dl[k]:=List.getElem?_eq_getElem hk
  unfold softPair at hsp
  rw [Bool.and_eq_true] at hsp
  obtain ⟨_,hsp⟩:=hsp
  split at hsp
  ·rename_i q kk ks kv z q' kk' ks' kv' z' s1 s2
   simp only [Bool.and_eq_true] at hsp
   obtain ⟨g1,g2,g3,g4,g5⟩:=hsp
   have g1:=Nat.eq_of_beq_eq_true g1;subst g1
   have g2:=Nat.eq_of_beq_eq_true g2;subst g2
   have g3:=eqNs_eq g3;subst g3
   have g5:=sameZ_eq g5;subst g5
   obtain ⟨m,ko,e1,e2,e3,_⟩:=isL h1 h2 s1
   rcases (hsteps k _ fk h1' h2').soft with h|⟨t1,t2,t3,p,d,u,t4,_,t5⟩
   ·rw [h] at s2;cases s2
   ·rw [s2] at t1
    obtain ⟨m',ko',f1,f2,f3⟩:=softOf_true t1.symm
    rw [f1] at t4
    obtain ⟨es,u1,u2⟩:=entry_ok f2 t4
    rw [EL _ h1 h2 s1,EL _ h1 h2 s1,e1,evalOp_lookup e2,evalOp_lookup e2,u1,t5 q]
    rcases u2 with rfl|rfl
    ·simp only [List.reverse_cons,List.reverse_nil,List.nil_append,List.cons_append,hlook_cons,if_true]
    ·simp only [List.reverse_cons,List.reverse_nil,List.nil_append,List.cons_append,hlook_cons,if_true]
     rw [f3,e3,lookR_new g4]
  ·cases hsp
 let wrS:Nat→Nat→Prop:=fun k i=>∃ fi fk q x,fs[i]?=some fi∧fs[k]?=some fk∧fi.so=some (false,q,x)∧q ∈ fk.wr∧softPair fi fk=false
 let tcS:Nat→Nat→Prop:=fun k i=>wrS k i∨(k=i∧∃ fi x,fs[i]?=some fi∧fi.so=some (false,x))
 have PS:Parts ops.size (fun k i=>E i (hlook (H k))) wrS tcS bef:=by
  refine ⟨fun k i hk hw=>?_,fun k x h=>.inl h,fun j k hjk hk=>?_⟩
  ·show E i (hlook (H (k+1)))=E i (hlook (H k))
   obtain ⟨o,dop,fk,h1,h2,h3⟩:=hdl k hk
   cases hfi:fs[i]? with
   |none =>
    show foundE G T dl fs _ _=foundE G T dl fs _ _
    rw [foundE_out hfi,foundE_out hfi]
   |some fi =>
    by_cases hso:∃ x,fi.so=some (false,x)
    ·obtain ⟨⟨q,x⟩,hx⟩:=hso
     cases hsp:softPair fi fk with
     |true=>exact Esoft hfi h3 hsp
     |false =>
      refine Econg _ _ hfi hx ?_
      obtain ⟨_,⟨d,ns,u,_,_,g1,g2⟩,_⟩:=hsteps k dop fk h2 h3
      have hx':q ∉ fk.wr:=fun e=>hw ⟨fi,fk,q,x,hfi,h3,hx,e,hsp⟩
      rw [g2] at hx'
      rw [g1]
      exact eff_frame (fun e=>hx' (.inl e)) (fun e=>hx' (.inr e))
    ·exact EN _ _ hfi (fun x hx=>hso ⟨x,hx⟩)
  ·obtain ⟨o,dop,ft,h1,h2,h3⟩:=hdl k hk
   obtain ⟨o',dop',ft',h1',h2',h3'⟩:=hdl j (by omega)
   have hs:=footsOk_get (allFeet_get hfeet k ft h3) j ft' (by rw [List.nil_append,List.getElem?_take_of_lt hjk];exact h3')
   rw [Nat.zero_add] at hs
   have rdL:∀ {fi:Foot} {i q:Nat} {x:Nat×List Nat×DV×DV},fs[i]?=some fi→fi.so=some (false,q,x)→q ∈ fi.rd:=fun {fi i q x} e1 e2=>by
    obtain ⟨kk,ks,kv,z⟩:=x
    have hi:i < dl.length:=by rw [← hfl];exact (List.getElem?_eq_some_iff.1 e1).1
    obtain ⟨m,ko,_,_,_,e3,_⟩:=isL (List.getElem?_eq_getElem hi) e1 e2
    rw [e3];simp
   rcases hs with h|h|h
   ·exact .inl ⟨dop,h2,by rw [← (hsteps k dop ft h2 h3).bef];exact h⟩
   ·obtain ⟨g1,g2⟩:=h
    refine .inr ⟨fun i ⟨fi,fj,q,x,a1,a2,a3,a4,a5⟩ hk'=>?_,fun i hj' ⟨fi,fk,q,x,a1,a2,a3,a4,a5⟩=>?_⟩
    ·rw [h3'] at a2;cases a2
     rcases hk' with ⟨fi',fk',q',x',b1,b2,b3,b4,b5⟩|⟨rfl,_⟩
     ·rw [a1] at b1;cases b1;rw [a3] at b3;cases b3
      rw [h3] at b2;cases b2
      exact (g1 q a4).2 b4
     ·rw [h3] at a1;cases a1
      exact (g1 q a4).1 (rdL h3 a3)
    ·rw [h3] at a2;cases a2
     rcases hj' with ⟨fi',fk',q',x',b1,b2,b3,b4,b5⟩|⟨rfl,_⟩
     ·rw [a1] at b1;cases b1;rw [a3] at b3;cases b3
      rw [h3'] at b2;cases b2
      exact (g1 q b4).2 a4
     ·rw [h3'] at a1;cases a1
      exact g2 q (rdL h3' a3) a4
   ·have hwj:ft'.wr=[]:=by
     unfold softPair at h
     rw [Bool.and_eq_true] at h
     exact List.isEmpty_iff.1 h.1
    refine .inr ⟨fun i ⟨fi,fj,q,x,a1,a2,a3,a4,a5⟩ hk'=>?_,fun i hj' ⟨fi,fk,q,x,a1,a2,a3,a4,a5⟩=>?_⟩
    ·rw [h3'] at a2;cases a2
     rw [hwj] at a4;cases a4
    ·rw [h3] at a2;cases a2
     rcases hj' with ⟨fi',fk',q',x',b1,b2,b3,b4,b5⟩|⟨rfl,_⟩
     ·rw [h3'] at b2;cases b2
      rw [hwj] at b4;cases b4
     ·rw [h3'] at a1;cases a1
      rw [h] at a5;cases a5
 have main:∀ (fuel:Nat) (L:Nat→Bool) (listed:Array Bool) (t':Tmps) (h':Heap) (M:Mem) (ρ:Locs) (a:Act) (w:World),listed.size=ops.size→(∀ j,j < ops.size→listed[j]?=some (L j))→cnt L ops.size≤fuel →
   (∀ k j,k < ops.size→L k=true→bef k j→L j=true)→(∀ x,tget t' x=mix (fun k=>tget (T k)) wrT L ops.size x)→(∀ x,hlook h' x=mix (fun k=>hlook (H k)) wrH L ops.size x)→(∀ i,E i (hlook h')=mix (fun k i=>E i (hlook (H k))) wrS L ops.size i) →
   Sim B nt M0 w0 M ρ t' h' a w→wpAnyIn F n P .any ops Q fuel listed a w:=by
  intro fuel
  have done:∀ (L:Nat→Bool) (t':Tmps) (h':Heap) (M:Mem) (ρ:Locs) (a:Act) (w:World),(∀ j,j < ops.size→L j=true)→(∀ x,tget t' x=mix (fun k=>tget (T k)) wrT L ops.size x) →
    (∀ x,hlook h' x=mix (fun k=>hlook (H k)) wrH L ops.size x)→Sim B nt M0 w0 M ρ t' h' a w→Q .normal a w:=by
   intro L t' h' M ρ a w hall ht hh S
   refine hQ M ρ a w (S.congr (fun x=>?_) (fun x=>?_))
   ·rw [ht,PT.all hall _ (Nat.le_refl _),← hlen,e3]
   ·rw [hh,PH.all hall _ (Nat.le_refl _),← hlen,e4]
  induction fuel with
  |zero =>
   intro L listed t' h' M ρ a w hsz hl hcnt hcl ht hh hE S
   have hall:=cnt_zero (S:=L) (N:=ops.size) (by omega)
   refine ⟨?_,done L t' h' M ρ a w hall ht hh S⟩
   rw [List.eq_nil_iff_forall_not_mem]
   intro j hj
   obtain ⟨h1,o,h2,_⟩:=mem_ready.1 hj
   have hlt:j < ops.size:=(Array.getElem?_eq_some_iff.1 h2).1
   rw [Array.getD_eq_getD_getElem?,hl j hlt,hall j hlt] at h1
   simp at h1
  |succ fuel ih =>
   intro L listed t' h' M ρ a w hsz hl hcnt hcl ht hh hE S
   refine ⟨fun hnil=>?_,fun i hi=>?_⟩
   ·refine done L t' h' M ρ a w (fun j=>?_) ht hh S
    induction j using Nat.strongRecOn with
    |_ j ihj =>
     intro hj
     cases hLj:L j with
     |true=>rfl
     |false =>
      exfalso
      have:j ∈ Region.ready .any ops listed:=by
       refine mem_ready.2 ⟨by rw [Array.getD_eq_getD_getElem?,hl j hj,hLj];rfl,ops[j],by simp [hj],fun e he hb=>?_⟩
       obtain ⟨o,dop,ft,h1,h2,h3⟩:=hdl j hj
       have ho:ops[j]=o:=by simpa [hj] using h1
       have hlt:=(hops j o dop (by simpa using h1) h2).2.1 e (by rw [← ho];exact he) hb
       rw [Array.getD_eq_getD_getElem?,hl e.on (by omega),ihj e.on hlt (by omega)];rfl
      rw [hnil] at this;cases this
   ·obtain ⟨h1,o,h2,h3⟩:=mem_ready.1 hi
    have hlt:i < ops.size:=(Array.getElem?_eq_some_iff.1 h2).1
    have hLi:L i=false:=by rw [Array.getD_eq_getD_getElem?,hl i hlt] at h1;simpa using h1
    obtain ⟨o',dop,ft,g1,g2,g3⟩:=hdl i hlt
    rw [h2] at g1;cases g1
    obtain ⟨ok,hback,hbef⟩:=hops i o dop (by simpa using h2) g2
    have hbL:∀ j,bef i j→L j=true:=by
     rintro j ⟨dop',q1,q2⟩
     rw [g2] at q1;cases q1
     obtain ⟨e,he,hb,hm⟩:=hbef j q2
     have hon:e.on < ops.size:=by have:=hback e he hb;omega
     have hLe:L e.on=true:=by
      have:=h3 e he hb
      rw [Array.getD_eq_getD_getElem?,hl e.on hon] at this;simpa using this
     rcases hm with rfl|hm
     ·exact hLe
     ·obtain ⟨oe,de,fe,k1,k2,k3⟩:=hdl e.on hon
      refine hcl e.on j hon hLe ⟨de,k2,?_⟩
      rw [List.getD_eq_getElem?_getD,List.getElem?_map,k2] at hm
      simpa using hm
    obtain ⟨_,⟨d,ns,u,hs,q1,q2,q3⟩,hsof⟩:=hsteps i dop ft g2 g3
    have aT:∀ x,tcT i x→tget t' x=tget (T i) x:=fun x hx=>by rw [ht];exact PT.agree hcl hlt hLi hbL hx
    have aH:∀ x,tcH i x→hlook h' x=hlook (H i) x:=fun x hx=>by rw [hh];exact PH.agree hcl hlt hLi hbL hx
    have hs':∃ rd,Step P G dop t' h' d ns u rd:=by
     by_cases hso:∃ x,ft.so=some (false,x)
     ·obtain ⟨⟨q,kk,ks,kv,z⟩,hx⟩:=hso
      obtain ⟨m,ko,b1,b2,b3,b4,b5,p,d',u',b6,b7,_⟩:=isL g2 g3 hx
      have hEi:E i (hlook h')=E i (hlook (H i)):=by rw [hE];exact PS.agree hcl hlt hLi hbL (.inr ⟨rfl,ft,_,g3,hx⟩)
      rw [EL _ g2 g3 hx,EL _ g2 g3 hx,b6] at hEi
      have he0:=opd_congr (G:=G) (o:=dop) (t:=T i) (t':=t') (fun x hx=>aT x ⟨dop,g2,.inr hx⟩)
      rw [← evalOp_congr (ev':=evalOpd G t') dop.op he0 (fun _ _=>rfl)] at hEi
      have hstep:=Step.ok (P:=P) (b5.congr (fun x hx=>aT x ⟨dop,g2,.inr hx⟩)) p d' u' hEi b7
      -- the step of the text is the same one
      have hdu:d=d'∧ns=[]∧u=u':=by
       clear hstep
       revert hs
       generalize ft.rd=r
       intro hs
       cases hs with
       |skip g want hg hv =>
        have:=b5 g want hg
        rcases hv with hv|hv
        ·rw [this] at hv;cases want<;>cases hv
        ·rw [this] at hv;cases hv
       |ok hg p2 d2 u2 he hp=>rw [b6] at he;cases he;exact ⟨rfl,rfl,rfl⟩
       |okF hg ns p2 d2 u2 he hp=>rw [b6] at he;cases he
       |flat hg f vs p2 ds d2 he hv hp hc hf=>rw [b6] at he;cases he
       |frz hg f vs p2 ds d2 he hv hp hc=>rw [b6] at he;cases he
       |heap hg f vs π ds hs d2 hs' he hc hi=>rw [b6] at he;cases he
      obtain ⟨rfl,rfl,rfl⟩:=hdu
      exact ⟨_,hstep⟩
     ·exact ⟨_,hs.congr (t':=t') (h':=h') (fun x hx=>aT x ⟨dop,g2,.inr hx⟩) (fun x hx=>aH x ⟨ft,g3,.inr ⟨hx,fun y hy=>hso ⟨y,hy⟩⟩⟩)⟩
    obtain ⟨rd',hs'⟩:=hs'
    let L':Nat→Bool:=fun j=>decide (j=i) || L j
    refine step_run hG hF hd ok h2 S hs' (fun M' ρ' a' w' S'=>?_)
    have hnew:∀ x,x ∈ ft.wr→hlook (u.reverse++freeze ns h') x=hlook (H (i+1)) x:=fun x e=>by
     rw [q2];exact eff_congr (aH x ⟨ft,g3,.inl e⟩)
    have hold:∀ x,x ∉ ft.wr→hlook (u.reverse++freeze ns h') x=hlook h' x:=fun x e=>by
     rw [q3] at e
     exact eff_frame (fun h=>e (.inl h)) (fun h=>e (.inr h))
    refine ih L' (listed.setIfInBounds i true) _ _ M' ρ' a' w' (by simpa using hsz) (fun j hj=>?_) ?_ (fun k j hk hL hb=>?_) (fun x=>?_) (fun x=>?_) (fun s=>?_) S'
    ·by_cases e:i=j
     ·subst e;simp [hsz,hj,L']
     ·rw [Array.getElem?_setIfInBounds_ne e,hl j hj];simp [L',Ne.symm e]
    ·have:=cnt_set (S:=L) (S':=L') hLi (fun _=>rfl) ops.size
     rw [if_pos hlt] at this;omega
    ·show (decide (j=i) || L j)=true
     by_cases e:k=i
     ·subst e;rw [hbL j hb];simp
     ·have:L k=true:=by simpa [L',e] using hL
      rw [hcl k j hk this hb];simp
    ·rw [PT.step (S':=L') hcl hlt hLi hbL (fun _=>rfl) x,tget_putO]
     by_cases e:dop.dst=some x
     ·rw [if_pos e,if_pos ⟨dop,g2,e⟩]
      show d=tget (T (i+1)) x
      rw [q1,tget_putO,if_pos e]
     ·rw [if_neg e,if_neg (fun ⟨dop',k1,k2⟩=>by rw [g2] at k1;cases k1;exact e k2)]
      exact ht x
    ·rw [PH.step (S':=L') hcl hlt hLi hbL (fun _=>rfl) x]
     by_cases e:x ∈ ft.wr
     ·rw [if_pos ⟨ft,g3,e⟩]
      show _=hlook (H (i+1)) x
      rw [q2]
      exact eff_congr (aH x ⟨ft,g3,.inl e⟩)
     ·rw [if_neg (fun ⟨ft',k1,k2⟩=>by rw [g3] at k1;cases k1;exact e k2)]
      rw [q3] at e
      rw [eff_frame (fun h=>e (.inl h)) (fun h=>e (.inr h))]
      exact hh x
    ·rw [PS.step (S':=L') hcl hlt hLi hbL (fun _=>rfl) s]
     by_cases hwS:wrS i s
     ·rw [if_pos hwS]
      obtain ⟨fi,fk,q,x,a1,a2,a3,a4,a5⟩:=hwS
      rw [g3] at a2;cases a2
      exact Econg _ _ a1 a3 (hnew q a4)
     ·rw [if_neg hwS,← hE s]
      cases hfs:fs[s]? with
      |none =>
       show foundE G T dl fs _ _=foundE G T dl fs _ _
       rw [foundE_out hfs,foundE_out hfs]
      |some fi =>
       by_cases hso:∃ x,fi.so=some (false,x)
       ·obtain ⟨⟨q,x⟩,hx⟩:=hso
        by_cases hq:q ∈ ft.wr
        ·cases hsp:softPair fi ft with
         |false=>exact absurd ⟨fi,ft,q,x,hfs,g3,hx,hq,hsp⟩ hwS
         |true =>
          rw [Econg (hlook (H (i+1))) _ hfs hx (hnew q hq),Econg (hlook (H i)) (hlook h') hfs hx (aH q ⟨ft,g3,.inl hq⟩)]
          exact Esoft hfs g3 hsp
        ·exact Econg _ _ hfs hx (hold q hq)
       ·exact EN _ _ hfs (fun x hx=>hso ⟨x,hx⟩)
 refine main ops.size (fun _=>false) _ t h M ρ a w (by simp) (fun j hj=>by simp [hj]) ?_ (fun k j _ h=>by cases h) (fun x=>?_) (fun x=>?_) (fun x=>?_) S0
 ·have:∀ N,cnt (fun _=>false) N≤N:=fun N=>by
   induction N with
   |zero=>exact Nat.le_refl _
   |succ N ih=>unfold cnt;simp;exact ih
  exact this _
 ·rw [mix_none (fun _=>rfl),e1]
 ·rw [mix_none (fun _=>rfl),e2]
 ·rw [mix_none (fun _=>rfl),e2]
end
end Sh

/- Shadow code against the code of the model;a function's contract. -/
namespace Sh
open Go
section
variable {P:Program} {G:Nat→Option DV} {B:Base} {nt:Nat} {M0:Mem} {w0:World} {M:Mem} {ρ:Locs} {t:Tmps} {h:Heap} {a:Act} {w:World}
theorem ress_getD (kh:List Nat) (lk:Nat→Option DObj) (l:List DV) (i:Nat) (hi:i < l.length):(ress kh lk l).getD i .undef=res kh lk (l.getD i .undef):=by
 induction l generalizing i with
 |nil=>simp at hi
 |cons d r ih =>
  cases i with
  |zero=>rfl
  |succ i=>simpa [ress] using ih i (by simpa using hi)
theorem ress_length (kh:List Nat) (lk:Nat→Option DObj) (l:List DV):(ress kh lk l).length=l.length:=by
 induction l with
 |nil=>rfl
 |cons d r ih=>simp [ress,ih]
theorem resP {kh:List Nat} {lk:Nat→Option DObj} {d:DV} {v:Value} (hr:RelP M d v):RelP M (res kh lk d) v:=by
 induction hr with
 |undef v=>exact .undef v
 |abool b=>exact .abool b
 |bool b=>exact .bool b
 |int k n=>exact .int k n
 |str s=>exact .str s
 |agg ds vs hl _ ih=>exact .agg _ vs (by rw [ress_length];exact hl) (fun i hi=>by rw [ress_length] at hi;rw [ress_getD _ _ _ _ hi];exact ih i hi)
 |tuple ds vs hl _ ih=>exact .tuple _ vs (by rw [ress_length];exact hl) (fun i hi=>by rw [ress_length] at hi;rw [ress_getD _ _ _ _ hi];exact ih i hi)
 |func f ds vs hl _ ih=>exact .func f _ vs (by rw [ress_length];exact hl) (fun i hi=>by rw [ress_length] at hi;rw [ress_getD _ _ _ _ hi];exact ih i hi)
 |meth f ds vs hl _ ih=>exact .meth f _ vs (by rw [ress_length];exact hl) (fun i hi=>by rw [ress_length] at hi;rw [ress_getD _ _ _ _ hi];exact ih i hi)
 |list l a cap sz b o g hcap ha hsz hM hr _=>exact .list l a cap sz b o g hcap ha hsz hM hr
 |full l a sz b o g ha hsz hM hr _=>exact .full l a sz b o g ha hsz hM hr
 |ip d b o g hM hr _=>exact .ip d b o g hM hr
 |nilptr=>exact .nilptr
 |nilfunc=>exact .nilfunc
 |nilmap=>exact .nilmap
 |nilslice=>exact .nilslice
theorem drop_box (S:Sim B nt M0 w0 M ρ t h a w) {kh:List Nat} {h0 h':Heap} (hfb:∀ n sz d,memB n kh=false→hlook h0 n=some (.box sz d)∨hlook h0 n=some (.fbox sz d)→pureB d=true→hlook h n=some (.fbox sz d))
  {n off:Nat} {v:Value} (hm:memB n kh=false) (hr:RelV M ρ h (.bptr n off) v):RelV M ρ h' (res kh (hlook h0) (.bptr n off)) v:=by
 unfold res
 rw [hm]
 simp only [cond_false]
 have key:∀ sz d0,hlook h0 n=some (.box sz d0)∨hlook h0 n=some (.fbox sz d0)→RelV M ρ h' (bif Nat.beq off 0 && pureB d0 then DV.ip d0 else .undef) v:=fun sz d0 hl=>by
  cases hc:Nat.beq off 0 && pureB d0 with
  |false=>exact .pure (.undef _)
  |true =>
   simp only [Bool.and_eq_true] at hc
   have:=Nat.eq_of_beq_eq_true hc.1;subst this
   exact .pure (fptr_ip S (hfb n sz d0 hm hl hc.2) hr)
 split
 ·rename_i sz d0 hl;exact key sz d0 (.inl hl)
 ·rename_i sz d0 hl;exact key sz d0 (.inr hl)
 ·exact .pure (.undef _)
theorem like_resObj (kh:List Nat) (lk:Nat→Option DObj) {o:DObj} (h:o.isRow=false):o.like (resObj kh lk o):=by cases o<;>simp_all [DObj.like,DObj.isRow,resObj]
theorem resV (S:Sim B nt M0 w0 M ρ t h a w) {kh:List Nat} {h0 h':Heap} (hfr:∀ n sz es fr,memB n kh=false→hlook h0 n=some (.row sz es fr)→hlook h n=some (.row sz es true))
  (hrow:∀ n sz es fr,memB n kh=true→hlook h n=some (.row sz es fr)→hlook h' n=some (.row sz es fr)) (hbox:∀ n o,memB n kh=true→hlook h n=some o→o.isRow=false→∃ o',hlook h' n=some o'∧o.like o')
  (hfb:∀ n sz d,memB n kh=false→hlook h0 n=some (.box sz d)∨hlook h0 n=some (.fbox sz d)→pureB d=true→hlook h n=some (.fbox sz d)) {d:DV} {v:Value} (hr:RelV M ρ h d v):RelV M ρ h' (res kh (hlook h0) d) v:=by
 induction hr with
 |pure hp=>exact .pure (resP hp)
 |agg ds vs hl _ ih=>exact .agg _ vs (by rw [ress_length];exact hl) (fun i hi=>by rw [ress_length] at hi;rw [ress_getD _ _ _ _ hi];exact ih i hi)
 |tuple ds vs hl _ ih=>exact .tuple _ vs (by rw [ress_length];exact hl) (fun i hi=>by rw [ress_length] at hi;rw [ress_getD _ _ _ _ hi];exact ih i hi)
 |func f ds vs hl _ ih=>exact .func f _ vs (by rw [ress_length];exact hl) (fun i hi=>by rw [ress_length] at hi;rw [ress_getD _ _ _ _ hi];exact ih i hi)
 |meth f ds vs hl _ ih=>exact .meth f _ vs (by rw [ress_length];exact hl) (fun i hi=>by rw [ress_length] at hi;rw [ress_getD _ _ _ _ hi];exact ih i hi)
 |own n off len tot sz es fr v hl ht hs hv =>
  unfold res
  cases hm:memB n kh with
  |true=>exact .own n off len tot sz es fr v (hrow n sz es fr hm hl) ht hs hv
  |false =>
   simp only [cond_false]
   split
   ·rename_i sz' es' fr' h0n
    split
    ·rename_i e
     have h1:=hfr n sz' es' fr' hm h0n
     rw [hl] at h1;cases h1
     exact .pure (own_list S hl (.own n off len tot sz es true v hl ht hs hv) e)
    ·exact .pure (.undef v)
   ·exact .pure (.undef v)
 |ptr n i off tot sz es fr v hl ht hi hs hv =>
  unfold res
  cases hm:memB n kh with
  |true=>exact .ptr n i off tot sz es fr v (hrow n sz es fr hm hl) ht hi hs hv
  |false=>exact .pure (.undef v)
 |bptr n off sz b c d hl hρ =>
  cases hm:memB n kh with
  |true =>
   unfold res;rw [hm]
   obtain ⟨o',h1,h2⟩:=hbox n _ hm hl rfl
   cases o' with
   |box sz' d'=>simp only [DObj.like] at h2;subst h2;exact .bptr n off _ b c d' h1 hρ
   |fbox sz' d'=>simp only [DObj.like] at h2;subst h2;exact .fptr n off _ b c d' h1 hρ
   |_=>exact h2.elim
  |false=>exact drop_box S hfb hm (.bptr n off sz b c d hl hρ)
 |fptr n off sz b c d hl hρ =>
  cases hm:memB n kh with
  |true =>
   unfold res;rw [hm]
   obtain ⟨o',h1,h2⟩:=hbox n _ hm hl rfl
   cases o' with
   |fbox sz' d'=>simp only [DObj.like] at h2;subst h2;exact .fptr n off _ b c d' h1 hρ
   |_=>exact h2.elim
  |false=>exact drop_box S hfb hm (.fptr n off sz b c d hl hρ)
 |dictv n b c es hl hρ =>
  unfold res
  cases hm:memB n kh with
  |true =>
   obtain ⟨o',h1,h2⟩:=hbox n _ hm hl rfl
   cases o' with
   |dict es'=>exact .dictv n b c es' h1 hρ
   |_=>exact h2.elim
  |false=>exact .pure (.undef _)
 |sitv n b c pos s hl hρ =>
  unfold res
  cases hm:memB n kh with
  |true =>
   obtain ⟨o',h1,h2⟩:=hbox n _ hm hl rfl
   cases o' with
   |siter s' p'=>exact .sitv n b c p' s' h1 hρ
   |_=>exact h2.elim
  |false=>exact .pure (.undef _)
 |yldv n l rest live hl =>
  unfold res
  cases hm:memB n kh with
  |true =>
   obtain ⟨o',h1,h2⟩:=hbox n _ hm hl rfl
   cases o' with
   |ghost r' v' l'=>simp only [DObj.like] at h2;obtain ⟨_,_,rfl⟩:=h2;exact .yldv n _ r' v' h1
   |_=>exact h2.elim
  |false=>exact .pure (.undef _)
theorem tget_keepT (kh:List Nat) (lk:Nat→Option DObj) (t:Tmps):∀ (l:List Nat) (i:Nat),tget (keepT kh lk t l) i=if i ∈ l then res kh lk (tget t i) else .undef
 |[],i=>by simp [keepT,tget]
 |j :: r,i=>by
  unfold keepT
  rw [tget_cons,tget_keepT kh lk t r i]
  by_cases e:j=i
  ·subst e;simp
  ·simp [e,Ne.symm e]
theorem hlook_keepH (kh:List Nat) (lk:Nat→Option DObj):∀ (l:List Nat) (n:Nat),hlook (keepH kh lk l) n=if n ∈ l then (lk n).map (resObj kh lk) else none
 |[],n=>by simp [keepH,hlook]
 |j :: r,n=>by
  unfold keepH
  split
  ·rename_i o ho
   rw [hlook_cons,hlook_keepH kh lk r n]
   by_cases e:j=n
   ·subst e;simp [ho]
   ·simp [e,Ne.symm e]
  ·rename_i ho
   rw [hlook_keepH kh lk r n]
   by_cases e:j=n
   ·subst e;simp [ho]
   ·simp [e,Ne.symm e]
theorem boxesOk_get {kh:List Nat} {lk:Nat→Option DObj}:∀ {l:List Nat},boxesOk kh lk l=true→∀ n ∈ l,∀ sz d,lk n=some (.box sz d)→okE sz (res kh lk d)=true
 |[],_,n,hn=>by simp at hn
 |j :: r,hb,n,hn=>by
  intro sz d e
  unfold boxesOk at hb
  rcases List.mem_cons.1 hn with rfl|hn
  ·rw [e] at hb;simp only [Bool.and_eq_true] at hb;exact hb.1
  ·split at hb
   ·simp only [Bool.and_eq_true] at hb;exact boxesOk_get hb.2 n hn sz d e
   ·exact boxesOk_get hb n hn sz d e
theorem res_cells {kh:List Nat} {lk:Nat→Option DObj} (d:DV) (i:Nat) (hi:i < d.cells.length):(res kh lk d).cells.getD i .undef=res kh lk (d.cells.getD i .undef):=by
 cases d with
 |agg cs=>simp only [res,DV.cells] at *;exact ress_getD kh lk cs i hi
 |own n off len tot =>
  have hi0:i=0:=by simp [DV.cells] at hi;omega
  subst hi0
  show (res kh lk (.own n off len tot)).cells.getD 0 .undef=res kh lk (.own n off len tot)
  unfold res
  cases memB n kh
  ·simp only [cond_false];split
   ·split<;>rfl
   ·rfl
  ·rfl
 |ptr n a b c =>
  have hi0:i=0:=by simp [DV.cells] at hi;omega
  subst hi0
  show (res kh lk (.ptr n a b c)).cells.getD 0 .undef=res kh lk (.ptr n a b c)
  unfold res
  cases memB n kh<;>rfl
 |bptr n a =>
  have hi0:i=0:=by simp [DV.cells] at hi;omega
  subst hi0
  show (res kh lk (.bptr n a)).cells.getD 0 .undef=res kh lk (.bptr n a)
  unfold res
  cases memB n kh
  ·simp only [cond_false]
   split
   ·cases Nat.beq a 0 && pureB _<;>rfl
   ·cases Nat.beq a 0 && pureB _<;>rfl
   ·rfl
  ·rfl
 |dict n =>
  have hi0:i=0:=by simp [DV.cells] at hi;omega
  subst hi0
  show (res kh lk (.dict n)).cells.getD 0 .undef=res kh lk (.dict n)
  unfold res
  cases memB n kh<;>rfl
 |_ =>
  have hi0:i=0:=by simp [DV.cells] at hi;omega
  subst hi0
  rfl
theorem Sim.keepR (S:Sim B nt M0 w0 M ρ t h a w) (kh kt:List Nat) (hk0:∀ n o,hlook B.h0 n=some o→n ∈ kh) (hbx:boxesOk kh (hlook h) kh=true):∃ M',Sim B nt M0 w0 M' ρ (keepT kh (hlook h) t kt) (keepH kh (hlook h) kh) a w∧(∀ d v,RelV M ρ h d v→RelV M' ρ (keepH kh (hlook h) kh) (res kh (hlook h) d) v)∧M.le M':=by
 obtain ⟨M1,m1,S1,m2,m3,m4⟩:=S.freeze ((h.map (·.1)).filter fun n=>!memB n kh)
 have hkeep:∀ n,memB n kh=true→hlook (Sh.freeze ((h.map (·.1)).filter fun n=>!memB n kh) h) n=hlook h n:=fun n hn=>by
  rw [freeze_look]
  cases hl:hlook h n with
  |none=>rfl
  |some o=>cases o<;>simp [hn]
 have hfr:∀ n sz es fr,memB n kh=false→hlook h n=some (.row sz es fr)→hlook (Sh.freeze ((h.map (·.1)).filter fun n=>!memB n kh) h) n=some (.row sz es true):=fun n sz es fr hn hl=>by
  rw [m4 n sz es fr hl]
  have:n ∈ h.map (·.1):=Classical.byContradiction fun hc=>by rw [hlook_none hc] at hl;cases hl
  have h2:n ∈ (h.map (·.1)).filter fun n=>!memB n kh:=List.mem_filter.2 ⟨this,by simp [hn]⟩
  simp only [h2,decide_true,Bool.or_true]
 have hfb:∀ n sz d,memB n kh=false→hlook h n=some (.box sz d)∨hlook h n=some (.fbox sz d)→pureB d=true→hlook (Sh.freeze ((h.map (·.1)).filter fun n=>!memB n kh) h) n=some (.fbox sz d):=fun n sz d hn hl hp=>by
  have:n ∈ h.map (·.1):=Classical.byContradiction fun hc=>by rcases hl with hl|hl<;>(rw [hlook_none hc] at hl;cases hl)
  exact freeze_fbox (List.mem_filter.2 ⟨this,by simp [hn]⟩) hl hp
 have hk':∀ n,hlook (keepH kh (hlook h) kh) n=if memB n kh=true then (hlook h n).map (resObj kh (hlook h)) else none:=fun n=>by
  rw [hlook_keepH]
  by_cases e:n ∈ kh
  ·rw [if_pos e,if_pos ((memB_iff n kh).2 e)]
  ·rw [if_neg e,if_neg (fun h=>e ((memB_iff n kh).1 h))]
 have rel:∀ {d:DV} {v:Value},RelV M1 ρ (Sh.freeze ((h.map (·.1)).filter fun n=>!memB n kh) h) d v→RelV M1 ρ (keepH kh (hlook h) kh) (res kh (hlook h) d) v:=fun {d v} hr =>
  resV S1 hfr (fun n sz es fr hn hl=>by rw [hkeep n hn] at hl;rw [hk',if_pos hn,hl];rfl) (fun n o hn hl hr=>by rw [hkeep n hn] at hl;exact ⟨_,by rw [hk',if_pos hn,hl];rfl,like_resObj _ _ hr⟩) hfb hr
 have hx:Ext M0 B.ρ0 B.h0 M1 ρ (keepH kh (hlook h) kh):=by
  refine ⟨S1.le,fun n sz es fr hn=>?_,fun n o hn hr=>?_⟩
  ·obtain ⟨sz',es',fr',q1,q2,q3⟩:=S1.ext.row n sz es fr hn
   have hm:=(memB_iff n kh).2 (hk0 n _ hn)
   rw [hkeep n hm] at q1
   exact ⟨sz',es',fr',by rw [hk',if_pos hm,q1];rfl,q2,q3⟩
  ·obtain ⟨q1,o',q2,q3⟩:=S1.ext.box n o hn hr
   have hm:=(memB_iff n kh).2 (hk0 n _ hn)
   rw [hkeep n hm] at q2
   exact ⟨q1,_,by rw [hk',if_pos hm,q2];rfl,like_trans q3 (like_resObj _ _ (like_row q3))⟩
 refine ⟨M1,{ S1 with tm:=fun i=>?_,obj:=fun n o hn=>?_,dis:=fun n m o p b c b' c' hne hn hm e1 e2=>?_,ext:=hx },fun d v hr=>rel (hr.ext m3),m1⟩
 ·rw [tget_keepT]
  by_cases e:i ∈ kt
  ·rw [if_pos e];exact rel (S1.tm i)
  ·rw [if_neg e];exact .pure (.undef _)
 ·rw [hk'] at hn
  by_cases e:memB n kh=true
  ·rw [if_pos e] at hn
   cases hl:hlook h n with
   |none=>rw [hl] at hn;cases hn
   |some o0 =>
    rw [hl] at hn
    simp only [Option.map_some,Option.some.injEq] at hn
    have h1:=S1.obj n o0 (by rw [hkeep n e];exact hl)
    cases o0 with
    |row sz es fr=>simp only [resObj] at hn;subst hn;exact h1
    |box sz d =>
     simp only [resObj] at hn;subst hn
     obtain ⟨b,c,q1,q2,cs,ty,q3,q4,q5,q6,q7⟩:=h1
     refine ⟨b,c,q1,q2,cs,ty,q3,q4,boxesOk_get hbx n ((memB_iff n kh).1 e) sz d hl,fun i hi=>?_,q7⟩
     have hsz:=(okE_spec q5).1
     rw [res_cells d i (by omega)]
     exact rel (q6 i hi)
    |fbox sz d=>simp only [resObj] at hn;subst hn;exact h1
    |dict es=>simp only [resObj] at hn;subst hn;exact h1
    |siter s pos=>simp only [resObj] at hn;subst hn;exact h1
    |ghost _ _ _=>simp only [resObj] at hn;subst hn;exact h1
  ·rw [if_neg e] at hn;cases hn
 ·have get:∀ {n:Nat} {o:DObj},hlook (keepH kh (hlook h) kh) n=some o→∃ o',hlook (Sh.freeze ((h.map (·.1)).filter fun n=>!memB n kh) h) n=some o':=fun {n o} hn=>by
   rw [hk'] at hn
   by_cases e:memB n kh=true
   ·rw [hkeep n e]
    cases hl:hlook h n with
    |none=>rw [if_pos e,hl] at hn;cases hn
    |some o0=>exact ⟨o0,rfl⟩
   ·rw [if_neg e] at hn;cases hn
  obtain ⟨o1,h1⟩:=get hn
  obtain ⟨o2,h2⟩:=get hm
  exact S1.dis n m o1 o2 b c b' c' hne h1 h2 e1 e2
theorem Sim.keep (S:Sim B nt M0 w0 M ρ t h a w) (kh kt:List Nat) (hk0:∀ n o,hlook B.h0 n=some o→n ∈ kh) (hbx:boxesOk kh (hlook h) kh=true):∃ M',Sim B nt M0 w0 M' ρ (keepT kh (hlook h) t kt) (keepH kh (hlook h) kh) a w:=by
 obtain ⟨M',h1,_⟩:=S.keepR kh kt hk0 hbx
 exact ⟨M',h1⟩
theorem hlook_mem {h:Heap} {n:Nat} {o:DObj} (e:hlook h n=some o):n ∈ h.map (·.1) :=
 Classical.byContradiction fun hc=>by rw [hlook_none hc] at e;cases e
theorem keeps_kh {h:Heap} {kh:List Nat} (hk:(h.map (·.1)).all (memB · kh)=true):∀ n o,hlook h n=some o→n ∈ kh:=fun n o e =>
 (memB_iff n kh).1 (List.all_eq_true.1 hk n (hlook_mem e))
theorem Sim.keepK {k:Option Keep} {N:SP} (S:Sim B nt M0 w0 M ρ t h a w) (hk0:∀ k',k=some k'→∀ n o,hlook B.h0 n=some o→n ∈ k'.kh) (hk:Sh.keepK k t h N):∃ M' t' h',Sim B nt M0 w0 M' ρ t' h' a w∧N t' h':=by
 cases k with
 |none=>exact ⟨M,t,h,S,hk⟩
 |some k =>
  simp only [Sh.keepK,keepTK_eq,keepHK_eq,List.reverse_nil,List.nil_append] at hk
  obtain ⟨M',S'⟩:=S.keep k.kh k.kt (hk0 k rfl) hk.1
  exact ⟨M',_,_,S',hk.2⟩
theorem Sim.enter {i sz0:Nat} (S:Sim B nt M0 w0 M ρ t h a w) (ht:tget t i=.full []) (hn:hlook h i=none) :
  Sim B nt M0 w0 M (fun m=>if m=i then none else ρ m) ((i,.own i 0 0 0) :: t) ((i,.row sz0 [] false) :: h) a w:=by
 have hl:∀ m,hlook ((i,DObj.row sz0 [] false) :: h) m=if i=m then some (.row sz0 [] false) else hlook h m:=fun m=>hlook_cons _ _ _ _
 have hx:Ext M ρ h M (fun m=>if m=i then none else ρ m) ((i,.row sz0 [] false) :: h):=by
  refine ⟨M.le_refl,fun m sz es fr e=>?_,fun m o e hk=>?_⟩
  ·have hne:i≠m:=fun e2=>by subst e2;rw [hn] at e;cases e
   exact ⟨sz,es,fr,by rw [hl,if_neg hne];exact e,Nat.le_refl _,fun _=>⟨.inl rfl,by simp [Ne.symm hne]⟩⟩
  ·have hne:i≠m:=fun e2=>by subst e2;rw [hn] at e;cases e
   exact ⟨by simp [Ne.symm hne],o,by rw [hl,if_neg hne];exact e,like_refl hk⟩
 refine { S with tm:=fun j=>?_,obj:=fun m o e=>?_,dis:=fun m m' o p b c b' c' hne e1 e2 e3 e4=>?_,ext:=S.ext.trans hx }
 ·rw [tget_cons]
  by_cases e:i=j
  ·subst e
   rw [if_pos rfl]
   have hr:=S.tm i
   rw [ht] at hr
   have hv:=hr.inv_full
   generalize a.tmps.getD i Go.undef=v at *
   cases hv with
   |full _ as_ sz b o g ha hsz hM hr' =>
    refine .own i 0 0 0 sz0 [] false _ (by rw [hl,if_pos rfl]) (Nat.le_refl _) ⟨_,_,_,rfl⟩ (fun _=>⟨Nat.le_refl _,?_⟩)
    simp only [if_true]
    exact ⟨as_,rfl⟩
  ·rw [if_neg e];exact (S.tm j).ext hx
 ·rw [hl] at e
  by_cases e2:i=m
  ·subst e2
   rw [if_pos rfl] at e;cases e
   simp [ObjRel]
  ·rw [if_neg e2] at e
   exact (S.obj m o e).ext hx (by simp [Ne.symm e2])
 ·rw [hl] at e1 e2
  by_cases h1:m=i
  ·simp [h1] at e3
  ·by_cases h2:m'=i
   ·simp [h2] at e4
   ·rw [if_neg (Ne.symm h1)] at e1;rw [if_neg (Ne.symm h2)] at e2
    simp only [h1,h2,if_false] at e3 e4
    exact S.dis m m' o p b c b' c' hne e1 e2 e3 e4
theorem Sim.enterK {N:SP}:∀ {l:List (Nat×Nat)} {ρ:Locs} {t:Tmps} {h:Heap},Sim B nt M0 w0 M ρ t h a w→Sh.enterK l t h N→∃ ρ' t' h',Sim B nt M0 w0 M ρ' t' h' a w∧N t' h'
 |[],ρ,t,h,S,hk=>⟨ρ,t,h,S,hk⟩
 |(i,sz0) :: r,ρ,t,h,S,hk=>by
  unfold Sh.enterK at hk
  split at hk
  ·rename_i ht
   split at hk
   ·rename_i hn;exact Sim.enterK (S.enter ht hn) hk
   ·exact Sim.enterK S hk
  ·exact Sim.enterK S hk
def DExit.toExit:DExit→Exit
 |.normal=>.normal
 |.exit i=>.exit i
 |.ret=>.ret
def ReadsQ (B:Base) (nt:Nat) (M0:Mem) (w0:World) (DQ:DExit→SP) (Q:Exit→Act→World→Prop):Prop :=
 ∀ e t h M ρ a w,DQ e t h→Sim B nt M0 w0 M ρ t h a w→Q e.toExit a w
variable {F:Fence} {n:Nat}
def DObj.isMap:DObj→Bool
 |.dict _=>true
 |.siter _ _=>true
 |_=>false
theorem Sim.map_block (S:Sim B nt M0 w0 M ρ t h a w) {n b c:Nat} {o:DObj} (hn:hlook h n=some o) (ho:o.isMap=true) (hρ:ρ n=some (b,c)) (ds:Option (List Deferred)):w.heap[b]?≠some (.deferred ds):=fun e=>by
 have h1:=S.obj n o hn
 cases o with
 |row _ _ _=>cases ho
 |box _ _=>cases ho
 |fbox _ _=>cases ho
 |dict es=>obtain ⟨b',c',q1,q2,⟨E,q3,q4⟩,q5⟩:=h1;rw [hρ] at q1;cases q1;rw [e] at q3;cases q3
 |siter s pos=>obtain ⟨b',c',q1,q2,q3,q5⟩:=h1;rw [hρ] at q1;cases q1;rw [e] at q3;cases q3
 |ghost _ _ _=>obtain ⟨q1,_⟩:=h1;rw [hρ] at q1;cases q1
theorem Sim.other (S:Sim B nt M0 w0 M ρ t h a w) {w':World} {a':Act} (ha:a'.tmps=a.tmps) (hk:∀ (k:Nat) (o:Obj),w.heap[k]?=some o→o.isCells=true→w'.heap[k]?=some o)
  (hd:∀ (n:Nat) (o:DObj) (b c:Nat),hlook h n=some o→o.isMap=true→ρ n=some (b,c)→w'.heap[b]?=w.heap[b]?) (hm:MarksOk B w' a'.defers) (hb:B.touch w0 w'):Sim B nt M0 w0 M ρ t h a' w':=by
 refine { S with tm:=fun i=>(by rw [ha];exact S.tm i),mem:=fun b o v e=>?_,obj:=fun n o hn=>?_,below:=hb,marks:=hm,size:=(by rw [ha];exact S.size) }
 ·have h1:=S.mem b o v e
  obtain ⟨ob,h2,h3⟩:=cells_of_cell h1
  have h4:=hk _ ob h2 h3
  rw [World.cell?_of_block (w:=w) (w':=w') (a:=⟨b,o,none⟩) (by rw [h2];exact h4)];exact h1
 ·have h1:=S.obj n o hn
  cases o with
  |row sz es fr =>
   simp only [ObjRel] at h1 ⊢
   cases hρ:ρ n with
   |none=>rw [hρ] at h1;exact h1
   |some bc =>
    obtain ⟨b,c⟩:=bc
    rw [hρ] at h1
    obtain ⟨h2,cs,ty,⟨fz,h3,h5⟩,h4⟩:=h1
    exact ⟨h2,cs,ty,⟨fz,hk _ _ h3 rfl,h5⟩,h4⟩
  |box sz d =>
   obtain ⟨b,c,h1,h2,cs,ty,h3,h4⟩:=h1
   exact ⟨b,c,h1,h2,cs,ty,hk _ _ h3 rfl,h4⟩
  |fbox sz d =>
   obtain ⟨b,c,h1,h2,cs,ty,h3,h4⟩:=h1
   exact ⟨b,c,h1,h2,cs,ty,hk _ _ h3 rfl,h4⟩
  |dict es =>
   obtain ⟨b,c,h1,h2,⟨E,h3,h4⟩,h5⟩:=h1
   exact ⟨b,c,h1,h2,⟨E,by rw [hd n _ b c hn rfl h1];exact h3,h4⟩,h5⟩
  |siter s pos =>
   obtain ⟨b,c,h1,h2,h3,h5⟩:=h1
   exact ⟨b,c,h1,h2,by rw [hd n _ b c hn rfl h1];exact h3,h5⟩
  |ghost _ _ _=>exact h1
theorem putObj_other {w:World} {b:Nat} {o o':Obj} (hb:w.heap[b]?=some o') (ho:o'.isCells=false) (k:Nat) (x:Obj) (hx:w.heap[k]?=some x) (hc:x.isCells=true):(w.putObj b o).heap[k]?=some x:=by
 have hne:k≠b:=fun e=>by subst e;rw [hb] at hx;cases hx;rw [ho] at hc;cases hc
 rw [World.putObj_heap_other hne];exact hx
theorem ObjRel.moved {B B':Base} {M:Mem} {ρ:Locs} {h h':Heap} {w w':World} {n:Nat} {o:DObj} (ho:ObjRel B M ρ h w n o) (hr:∀ d v,RelV M ρ h d v→RelV M ρ h' d v)
  (hb:∀ b c,ρ n=some (b,c)→B'.wr b∧w'.heap[b]?=w.heap[b]?) (hg:B.gh=true→B'.gh=true):ObjRel B' M ρ h' w' n o:=by
 cases o with
 |row sz es fr =>
  simp only [ObjRel] at ho ⊢
  cases hρ:ρ n with
  |none=>rw [hρ] at ho;exact ho
  |some bc =>
   obtain ⟨b,c⟩:=bc
   rw [hρ] at ho
   obtain ⟨q1,cs,ty,q2,q3⟩:=ho
   exact ⟨⟨(hb b c hρ).1,q1.2⟩,cs,ty,q2.heap (hb b c hρ).2,q3⟩
 |box sz d=>obtain ⟨b,c,q1,q2,cs,ty,q3,q4,q5,q6,q7⟩:=ho;exact ⟨b,c,q1,(hb b c q1).1,cs,ty,by rw [(hb b c q1).2];exact q3,q4,q5,fun i hi=>hr _ _ (q6 i hi),q7⟩
 |fbox sz d=>obtain ⟨b,c,q1,q2,cs,ty,q3,q4⟩:=ho;exact ⟨b,c,q1,(hb b c q1).1,cs,ty,by rw [(hb b c q1).2];exact q3,q4⟩
 |dict es=>obtain ⟨b,c,q1,q2,⟨E,q3,q4⟩,q5⟩:=ho;exact ⟨b,c,q1,(hb b c q1).1,⟨E,by rw [(hb b c q1).2];exact q3,q4⟩,q5⟩
 |siter s p=>obtain ⟨b,c,q1,q2,q3,q4⟩:=ho;exact ⟨b,c,q1,(hb b c q1).1,by rw [(hb b c q1).2];exact q3,q4⟩
 |ghost _ _ _=>exact ⟨ho.1,hg ho.2⟩
end
theorem ObjRel.base {B B':Base} {M:Mem} {ρ:Locs} {h:Heap} {w:World} {n:Nat} {o:DObj} (ho:ObjRel B M ρ h w n o) (hb:∀ b c,ρ n=some (b,c)→B'.wr b) (hg:B.gh=true→B'.gh=true):ObjRel B' M ρ h w n o:=by
 cases o with
 |row sz es fr =>
  simp only [ObjRel] at ho ⊢
  cases hρ:ρ n with
  |none=>rw [hρ] at ho;exact ho
  |some bc =>
   obtain ⟨b,c⟩:=bc
   rw [hρ] at ho
   exact ⟨⟨hb b c hρ,ho.1.2⟩,ho.2⟩
 |box sz d=>obtain ⟨b,c,q1,q2,q3⟩:=ho;exact ⟨b,c,q1,hb b c q1,q3⟩
 |fbox sz d=>obtain ⟨b,c,q1,q2,q3⟩:=ho;exact ⟨b,c,q1,hb b c q1,q3⟩
 |dict es=>obtain ⟨b,c,q1,q2,q3⟩:=ho;exact ⟨b,c,q1,hb b c q1,q3⟩
 |siter s p=>obtain ⟨b,c,q1,q2,q3⟩:=ho;exact ⟨b,c,q1,hb b c q1,q3⟩
 |ghost _ _ _=>exact ⟨ho.1,hg ho.2⟩
def noGo (Q:Exit→Act→World→Prop):Exit→Act→World→Prop
 |.goto _,_,_=>False
 |e,a,w=>Q e a w
theorem wpIn_scope_plain {F:Fence} {n:Nat} {P:Program} {Q:Exit→Act→World→Prop} {a:Act} {w:World} {c:Code} (h:c.wpIn F n P (noGo Q) a w):(Code.scope c).wpIn F n P Q a w:=by
 intro b k cs hro hb hr
 have h0:(lone (b.atR a (.code (.scope c) :: k)) cs w).fenced P F:=fenced_calm hb hr rfl
 have s0:step P (lone (b.atR a (.code (.scope c) :: k)) cs w)=.next (lone (b.atR a (.code c :: .inScope c :: k)) cs w):=step_lone_go (by simp [stepG,stepG.exec,Frame.atR])
 obtain ⟨e,a₁,w₁,hq,harr⟩:=h b (.inScope c :: k) cs hro hb hr
 cases e with
 |normal =>
  have s1:step P (lone (b.atR a₁ (.inScope c :: k)) cs w₁)=.next (lone (b.atR a₁ k) cs w₁):=step_lone_go (by simp [stepG,stepG.exec,Frame.atR])
  exact ⟨.normal,a₁,w₁,hq,.head h0 s0 (StepsIn.trans harr (.one (fenced_calm (fr:=b.atR a₁ (.inScope c :: k)) hb hr rfl) s1))⟩
 |exit id =>
  have hx:exitTo id (.inScope c :: k)=exitTo id k:=by simp [exitTo]
  exact ⟨.exit id,a₁,w₁,hq,fun k' hk=>.head h0 s0 (harr.1 k' (by rw [hx];exact hk)),fun hr' hk=>let ⟨k₁,h1,h2⟩:=harr.2 hr' (by rw [hx];exact hk);⟨k₁,h1,.head h0 s0 h2⟩⟩
 |goto l=>exact hq.elim
 |ret=>exact ⟨_,a₁,w₁,hq,.of_steps (.one h0 s0) harr⟩
 |panic ch=>exact ⟨_,a₁,w₁,hq,.of_steps (.one h0 s0) harr⟩
 |outgrown=>exact ⟨_,a₁,w₁,hq,.of_steps (.one h0 s0) harr⟩
end Sh

namespace Sh
open Go
section
variable {P:Program} {G:Nat→Option DV} {B:Base} {nt:Nat} {M0:Mem} {w0:World} {M:Mem} {ρ:Locs} {t:Tmps} {h:Heap} {a:Act} {w:World} {F:Fence} {n:Nat}
theorem Sim.stayed (S:Sim B nt M0 w0 M ρ t h a w) {K C:Nat→Prop} {W':World} (hC:∀ b,C b→B.wr b) (hK:∀ n o b c,hlook h n=some o→ρ n=some (b,c)→K b) (hM:∀ b o v,M b o=some v→K b∨(b < B.lo∧¬ C b))
  (hd:a.defers=[]) (st:Stays B.lo C K w W'):Sim B nt M0 w0 M ρ t h a W':=by
 refine { S with mem:=fun b o v e=>?_,obj:=fun n o e=>?_,below:=?_,marks:=?_ }
 ·have hlt:b < w.heap.size:=by
   false_or_by_contra
   rename_i hlt
   have:=S.free_mem (b:=b) (by omega) o
   rw [this] at e;cases e
  rw [World.cell?_of_block (w:=w) (w':=W') (a:=⟨b,o,none⟩) (st.block b hlt (hM b o v e))]
  exact S.mem b o v e
 ·exact (S.obj n o e).moved (fun _ _ r=>r) (fun b c hb=>⟨loc_wr S e hb,st.block b (S.loc_lt e hb) (.inl (hK n o b c e hb))⟩) id
 ·refine S.below.trans ⟨st.os,st.tape,st.output,st.size,fun k hk=>?_⟩
  have hlo:k < B.lo:=by
   false_or_by_contra
   rename_i h1
   exact hk (.inl (by omega))
  exact st.block k (Nat.lt_of_lt_of_le hlo S.Bsize) (.inr ⟨hlo,fun hc=>hk (hC k hc)⟩)
 ·rw [hd];exact ⟨fun d hd=>by simp at hd,.nil,fun _=>rfl⟩
def jumpOf:DExit→Option Code
 |.normal=>none
 |.exit i=>some (.exit i)
 |.ret=>some .ret
def RJ (B:Base) (nt:Nat) (M1:Mem) (W1:World) (t:Tmps) (tm:Array Value) (kh:List Nat) (R:List (List DV)→Heap→Prop) (DQ:DExit→SP) (C:Nat→Prop) (l D:Nat) (rec:LoopState→Option Code→Loop):ProtoJ:=fun rest live K W =>
 ∃ M ρ h,Sim B nt M1 W1 M ρ t h { tmps:=tm,defers:=[] } W∧(∀ n o,hlook h n=some o→n ∈ kh)∧(∀ n o b c,hlook h n=some o→ρ n=some (b,c)→K b)∧(∀ b o v,M b o=some v→K b∨(b < B.lo∧¬ C b))∧K l∧K D∧l < W.heap.size∧D < W.heap.size ∧
  W.heap[D]?=some (.deferred (some [])) ∧
  ((live=true∧R rest h∧W.heap[l]?=some (.loop (rec .ready none)))∨(live=false∧∃ e,e≠.normal∧DQ e t h∧W.heap[l]?=some (.loop (rec .done (jumpOf e)))))
theorem RJ.stays {M1:Mem} {W1:World} {tm:Array Value} {kh:List Nat} {R:List (List DV)→Heap→Prop} {DQ:DExit→SP} {C:Nat→Prop} {l D:Nat} {rec:LoopState→Option Code→Loop} (hC:∀ b,C b→B.wr b) (r:List (List DV)) (b:Bool) (K:Nat→Prop) (W W':World)
  (hJ:RJ B nt M1 W1 t tm kh R DQ C l D rec r b K W) (st:Stays B.lo C K W W'):RJ B nt M1 W1 t tm kh R DQ C l D rec r b K W':=by
 obtain ⟨M,ρ,h,S,hnm,hK,hM,kl,kD,ll,lD,hD,hr⟩:=hJ
 refine ⟨M,ρ,h,S.stayed hC hK hM rfl st,hnm,hK,hM,kl,kD,Nat.lt_of_lt_of_le ll st.size,Nat.lt_of_lt_of_le lD st.size,by rw [st.block D lD (.inl kD)];exact hD,?_⟩
 rw [st.block l ll (.inl kl)]
 exact hr
def freshB (w:World) (ρ:Locs) (h:Heap):Base:=⟨w.heap.size,fun b=>∃ n o c,hlook h n=some o∧ρ n=some (b,c),ρ,h,false,true⟩
theorem Sim.rebase (S:Sim B nt M0 w0 M ρ t h a w) (hgh:B.gh=false) (hd:a.defers=[]):Sim (freshB w ρ h) nt M w M ρ t h a w :=
 {S with le:=M.le_refl,obj:=fun n o e=>(S.obj n o e).base (fun b c hb=>.inr ⟨n,o,c,e,hb⟩) (fun e=>by rw [hgh] at e;cases e),below:=Base.touch.refl _ _,hB:=rfl,new:=fun b o v e e0=>(by rw [e] at e0;cases e0),marks:=(by rw [hd];exact ⟨fun d hd=>by simp at hd,.nil,fun _=>rfl⟩),ext:=Ext.refl _ _ _ }
theorem fresh_wr (S:Sim B nt M0 w0 M ρ t h a w) {b:Nat} (hb:(freshB w ρ h).wr b):B.wr b:=by
 rcases hb with hb|⟨n,o,c,e1,e2⟩
 ·exact .inl (Nat.le_trans S.Bsize hb)
 ·exact loc_wr S e1 e2
theorem loc_not_loop (S:Sim B nt M0 w0 M ρ t h a w) {n b c:Nat} {o:DObj} (hl:hlook h n=some o) (hρ:ρ n=some (b,c)) (x:Loop):w.heap[b]?≠some (.loop x):=fun e=>by
 have ho:=S.obj n o hl
 cases o with
 |row sz es fr=>simp only [ObjRel,hρ] at ho;obtain ⟨_,cs,ty,⟨fz,q,_⟩,_⟩:=ho;rw [e] at q;cases q
 |box sz d=>obtain ⟨b',c',q1,q2,cs,ty,q3,_⟩:=ho;rw [hρ] at q1;cases q1;rw [e] at q3;cases q3
 |fbox sz d=>obtain ⟨b',c',q1,q2,cs,ty,q3,_⟩:=ho;rw [hρ] at q1;cases q1;rw [e] at q3;cases q3
 |dict es=>obtain ⟨b',c',q1,q2,⟨E,q3,_⟩,_⟩:=ho;rw [hρ] at q1;cases q1;rw [e] at q3;cases q3
 |siter s p=>obtain ⟨b',c',q1,q2,q3,_⟩:=ho;rw [hρ] at q1;cases q1;rw [e] at q3;cases q3
 |ghost _ _ _=>obtain ⟨q1,_⟩:=ho;rw [hρ] at q1;cases q1
theorem Sim.putLoop (S:Sim B nt M0 w0 M ρ t h a w) {l:Nat} {x:Loop} (y:Obj) (hl:w.heap[l]?=some (.loop x)) (hw:B.wr l) (hd:a.defers=[]):Sim B nt M0 w0 M ρ t h a (w.putObj l y) :=
 S.other rfl (putObj_other hl rfl) (fun n o b c hn _ hρ=>World.putObj_heap_other (fun e=>by subst e;exact loc_not_loop S hn hρ x hl)) (by rw [hd];exact ⟨fun d hd=>by simp at hd,.nil,fun _=>rfl⟩)
  (S.below.trans ⟨rfl,rfl,rfl,by simp,fun k hk=>World.putObj_heap_other (fun e=>hk (by rw [e];exact hw))⟩)
theorem setPs_rel:∀ (ps:List Nat) (x:List DV) (vs:List Value) (t:Tmps) (T:Array Value),ps.length=x.length→x.length=vs.length→(∀ p ∈ ps,p < T.size)→(∀ i,i < x.length→RelV M ρ h (x.getD i .undef) (vs.getD i Go.undef)) →
  (∀ i,RelV M ρ h (tget t i) (T.getD i Go.undef))→∀ i,RelV M ρ h (tget (setPs ps x t) i) (((ps.zip vs).foldl (fun t (p,v)=>t.setIfInBounds p v) T).getD i Go.undef)
 |[],[],[],t,T,_,_,_,_,ht,i=>ht i
 |p :: ps,d :: x,v :: vs,t,T,h1,h2,h3,h4,ht,i=>by
  refine setPs_rel ps x vs ((p,d) :: t) (T.setIfInBounds p v) (by simpa using h1) (by simpa using h2) (fun q hq=>by simpa using h3 q (List.mem_cons_of_mem _ hq)) (fun j hj=>by simpa using h4 (j+1) (by simpa using hj)) (fun j=>?_) i
  rw [tget_cons]
  by_cases e:p=j
  ·subst e
   have hp:=h3 p (List.mem_cons_self ..)
   rw [if_pos rfl]
   have:(T.setIfInBounds p v).getD p Go.undef=v:=by simp [Array.getD_eq_getD_getElem?,hp]
   rw [this];simpa using h4 0 (by simp)
  ·rw [if_neg e]
   have:(T.setIfInBounds p v).getD j Go.undef=T.getD j Go.undef:=by simp [Array.getD_eq_getD_getElem?,Array.getElem?_setIfInBounds,e]
   rw [this];exact ht j
 |[],[],_ :: _,_,_,_,h2,_,_,_,_=>by simp at h2
 |[],_ :: _,_,_,_,h1,_,_,_,_,_=>by simp at h1
 |_ :: _,[],_,_,_,h1,_,_,_,_,_=>by simp at h1
 |_ :: _,_ :: _,[],_,_,_,h2,_,_,_,_=>by simp at h2
def bodyB (W w2:World) (ρ:Locs) (h:Heap) (ρ1:Locs) (h1:Heap):Base:=⟨w2.heap.size,fun b=>(∃ n o c,hlook h1 n=some o∧ρ1 n=some (b,c))∨(freshB W ρ h).wr b,ρ,h,false,true⟩
theorem Sim.toBody {M1:Mem} {ρ1:Locs} {t1:Tmps} {h1:Heap} {a1:Act} {w1:World} (S:Sim (freshB w ρ h) nt M w M1 ρ1 t1 h1 a1 w1) (hd:a1.defers=[]) {l:Nat} {x:Loop} (y:Obj) (hl:w1.heap[l]?=some (.loop x)) :
  Sim (bodyB w (w1.putObj l y) ρ h ρ1 h1) nt M (w1.putObj l y) M1 ρ1 t1 h1 a1 (w1.putObj l y):=by
 have hput:∀ k,k≠l→(w1.putObj l y).heap[k]?=w1.heap[k]?:=fun k hk=>World.putObj_heap_other hk
 have S0:Sim ⟨w.heap.size,fun b=>(∃ n o c,hlook h n=some o∧ρ n=some (b,c))∨b=l,ρ,h,false,true⟩ nt M w M1 ρ1 t1 h1 a1 w1 :=
  {S with obj:=fun n o e=>(S.obj n o e).base (fun b c hb=>by rcases loc_wr S e hb with q|q;exact .inl q;exact .inr (.inl q)) (fun e=>Bool.noConfusion e),below:=⟨S.below.os,S.below.tape,S.below.output,S.below.size,fun k hk=>S.below.block k (fun q=>hk (by rcases q with q|q;exact .inl q;exact .inr (.inl q)))⟩,new:=fun b o v e e0=>(by rcases S.new b o v e e0 with q|q;exact .inl q;exact .inr (.inl q)),marks:=(by rw [hd];exact ⟨fun d hd=>by simp at hd,.nil,fun _=>rfl⟩) }
 have S2:=S0.putLoop y hl (.inr (.inr rfl)) hd
 exact { S2 with obj:=fun n o e=>(S2.obj n o e).base (fun b c hb=>.inr (.inl ⟨n,o,c,e,hb⟩)) (fun e=>Bool.noConfusion e),below:=Base.touch.refl _ _,hB:=rfl,new:=fun b o v e e0=>.inr (.inr (S.new b o v e e0)),marks:=(by rw [hd];exact ⟨fun d hd=>by simp at hd,.nil,fun _=>rfl⟩) }
theorem body_wr {M1:Mem} {ρ1:Locs} {t1:Tmps} {h1:Heap} {a1:Act} {w1 w2:World} (S:Sim (freshB w ρ h) nt M w M1 ρ1 t1 h1 a1 w1) (hs:w.heap.size≤w2.heap.size) {b:Nat} (hb:(bodyB w w2 ρ h ρ1 h1).wr b):(freshB w ρ h).wr b:=by
 rcases hb with hb|⟨n,o,c,e1,e2⟩|hb
 ·exact .inl (Nat.le_trans hs hb)
 ·exact loc_wr S e1 e2
 ·exact hb
theorem from_new (S:Sim B nt M0 w0 M ρ t h a w) {M3:Mem} {p:Nat→Prop} (hn:∀ b o v,M3 b o=some v→M b o=none→p b) (wr:∀ {b},p b→B.wr b) {b o:Nat} {v:Value} (e:M3 b o=some v) (e0:M0 b o=none):B.wr b:=by
 cases e1:M b o with
 |none=>exact wr (hn b o v e e1)
 |some u=>exact S.new b o u e1 e0
theorem Sim.fromBody (S:Sim B nt M0 w0 M ρ t h a w) (hgh:B.gh=false) {M1:Mem} {ρ1:Locs} {t1:Tmps} {h1:Heap} {a1:Act} {w1:World} (S1:Sim (freshB w ρ h) nt M w M1 ρ1 t1 h1 a1 w1) {l:Nat} {x z:Loop} (y:Obj) (hl:w1.heap[l]?=some (.loop x)) (hlB:B.wr l)
  {M3:Mem} {ρ3:Locs} {t3:Tmps} {h3:Heap} {a3:Act} {w3:World} (S3:Sim (bodyB w (w1.putObj l y) ρ h ρ1 h1) nt M (w1.putObj l y) M3 ρ3 t3 h3 a3 w3) (h3d:a3.defers=[]) (hl3:w3.heap[l]?=some (.loop z)) (y':Obj) :
  Sim B nt M0 w0 M3 ρ3 t3 h3 a3 (w3.putObj l y'):=by
 have hs:w.heap.size≤(w1.putObj l y).heap.size:=by have:=S1.below.size;simpa using this
 have wr:∀ {b},(bodyB w (w1.putObj l y) ρ h ρ1 h1).wr b→B.wr b:=fun hb=>fresh_wr S (body_wr S1 hs hb)
 have S4:Sim B nt M0 w0 M3 ρ3 t3 h3 a3 w3 :=
  {S3 with le:=Mem.le_trans S.le S3.le,obj:=fun n o e=>(S3.obj n o e).base (fun b c hb=>wr (loc_wr S3 e hb)) (fun e=>Bool.noConfusion e),below:=((S.below.trans ⟨S1.below.os,S1.below.tape,S1.below.output,S1.below.size,fun k hk=>S1.below.block k (fun q=>hk (fresh_wr S q))⟩).trans (w'':=w1.putObj l y) ⟨rfl,rfl,rfl,by simp,fun k hk=>World.putObj_heap_other (fun e=>hk (by rw [e];exact hlB))⟩).trans ⟨S3.below.os,S3.below.tape,S3.below.output,S3.below.size,fun k hk=>S3.below.block k (fun q=>hk (wr q))⟩,hB:=S.hB,new:=fun b o v e e0=>from_new S S3.new wr e e0,marks:=(by rw [h3d];exact ⟨fun d hd=>by simp at hd,.nil,fun _=>rfl⟩),ext:=S.ext.trans S3.ext }
 exact S4.putLoop y' hl3 hlB h3d
def RunsAs (P:Program) (G:Nat→Option DV) (nt:Nat) (c:Code) (dc:DC):Prop :=
 ∀ {F:Fence} {n:Nat} {B:Base} {M0:Mem} {w0:World},GOk G M0→OpenB G F B w0→F.depth=none→B.gh=false→(F.round=none∧B.nd=false∨noRange dc=true)→keepsAll (B.h0.map (·.1)) dc=true →
  ∀ {DQ:DExit→SP} {t:Tmps} {h:Heap},dwp P G dc DQ t h→∀ {M:Mem} {ρ:Locs} {a:Act} {w:World},Sim B nt M0 w0 M ρ t h a w→∀ {Q:Exit→Act→World→Prop},ReadsQ B nt M0 w0 DQ Q→c.wpIn F n P Q a w
theorem keepsAll_sub {ns ms:List Nat} (hs:∀ n ∈ ns,n ∈ ms):∀ {c:DC},keepsAll ms c=true→keepsAll ns c=true:=by
 have key:∀ {kh:List Nat},ms.all (memB · kh)=true→ns.all (memB · kh)=true:=fun h=>List.all_eq_true.2 fun n hn=>List.all_eq_true.1 h n (hs n hn)
 intro c
 induction c with
 |seq a b iha ihb=>simp only [keepsAll,Bool.and_eq_true];exact fun h=>⟨iha h.1,ihb h.2⟩
 |cond _ a b iha ihb=>simp only [keepsAll,Bool.and_eq_true];exact fun h=>⟨iha h.1,ihb h.2⟩
 |block _ k a ih =>
  cases k with
  |none=>simp only [keepsAll,Bool.true_and];exact ih
  |some k=>simp only [keepsAll,Bool.and_eq_true];exact fun h=>⟨key h.1,ih h.2⟩
 |loop k b ih=>simp only [keepsAll,Bool.and_eq_true];exact fun h=>⟨key h.1,ih h.2⟩
 |rangeF k f ps a b iha ihb=>simp only [keepsAll,Bool.and_eq_true];exact fun h=>⟨key h.1,iha h.2.1,ihb h.2.2⟩
 |_=>exact fun _=>rfl
theorem fresh_not {b:Nat} {ρ:Locs} {h:Heap} (S:Sim B nt M0 w0 M ρ t h a w) {x:Obj} (hb:w.heap[b]?=some x) (hn:∀ n o c,hlook h n=some o→ρ n=some (b,c)→False):¬ (freshB w ρ h).wr b:=by
 rintro (q|⟨n,o,c,e1,e2⟩)
 ·have:=(Array.getElem?_eq_some_iff.1 hb).1
  have q:w.heap.size≤b:=q
  omega
 ·exact hn n o c e1 e2
theorem foldl_size:∀ (l:List (Nat×Value)) (T:Array Value),(l.foldl (fun t (p,v)=>t.setIfInBounds p v) T).size=T.size
 |[],_=>rfl
 |(p,v) :: r,T=>by
  rw [List.foldl_cons,foldl_size r];simp
theorem hlook_some:∀ {h:Heap} {n:Nat},n ∈ h.map (·.1)→∃ o,hlook h n=some o
 |(k,o) :: r,n,hn=>by
  by_cases e:k=n
  ·exact ⟨o,by rw [hlook_cons,if_pos e]⟩
  ·obtain ⟨o',h1⟩:=hlook_some (h:=r) (n:=n) (by
    rcases List.mem_cons.1 (by simpa using hn:n ∈ k :: r.map (·.1)) with h|h
    ·exact absurd h.symm e
    ·exact h)
   exact ⟨o',by rw [hlook_cons,if_neg e];exact h1⟩
theorem RJ.round {M1:Mem} {W1:World} {tm:Array Value} {kh:List Nat} {dx dy:DC} {asn bd:Code} {DQ:DExit→SP} {C:Nat→Prop} {l D:Nat} {fnid:FuncId} {ps:Array Tmp} {rec:LoopState→Option Code→Loop}
  (hrec:rec=fun st pe=>{ state:=st,pending:=pe,fn:=fnid,tmps:=tm,params:=ps,assign:=asn,body:=bd,defers:=D })
  (hG:GOk G M1) (hF:OpenB G F B W1) (hd:F.depth=none) (hgh:B.gh=false) (hlB:B.wr l) (hA:RunsAs P G nt asn dx) (hBd:RunsAs P G nt bd dy) (hnx:noRange dx=true) (hny:noRange dy=true)
  (hkx:keepsAll kh dx=true) (hky:keepsAll kh dy=true) (hps:∀ p ∈ ps.toList,p < nt) {x:List DV} {r:List (List DV)} {K:Nat→Prop} {W:World} {args:Array Value} (m:Nat) (hx:x.length=ps.size)
  (hJ:RJ B nt M1 W1 t tm kh (fun r h=>roundsN (fun R=>dwp P G dx (seqQ (dwp P G dy R) fun _ _ _=>False)) kh ps.toList DQ t r h) DQ C l D rec (x :: r) true K W) (hKs:∀ b,K b→b < W.heap.size) (hargs:RelPs (fun _ _=>none) x args) :
  ∃ fn tmps assign body,(Instr.yield l args).run P W=.ok (.round l fn tmps assign body) W ∧
   RoundIn F m P l fn tmps assign body W fun e W'=>∃ b K',e=.returned (.bool b)∧RJ B nt M1 W1 t tm kh (fun r h=>roundsN (fun R=>dwp P G dx (seqQ (dwp P G dy R) fun _ _ _=>False)) kh ps.toList DQ t r h) DQ C l D rec r b K' W' ∧
    (∀ k,K' k→K k∨W.heap.size≤k)∧(∀ k,K k→K' k)∧(∀ k,K' k→k < W'.heap.size)∧Turns K W W':=by
 obtain ⟨M,ρ,h,S,hnm,hK,hM,kl,kD,ll,lD,hD,⟨_,hR,hl⟩|⟨h0,_⟩⟩:=hJ
 ·have hsz:args.size=ps.size:=by rw [← hargs.1,hx]
  have hy:=run_yield (P:=P) (args:=args) hl (by rw [hrec];exact hsz)
  rw [hrec] at hy
  refine ⟨_,_,_,_,hy,roundIn_of_wpIn (hF.fn _) ?_⟩
  have S0:=S.rebase hgh rfl
  have hnotl:¬ (freshB W ρ h).wr l:=fresh_not S hl (fun n o c e1 e2=>loc_not_loop S e1 e2 _ hl)
  have hnotD:¬ (freshB W ρ h).wr D:=fresh_not S hD (fun n o c e1 e2=>loc_not_deferred S e1 e2 _ hD)
  have hkhs:∀ n ∈ h.map (·.1),n ∈ kh:=fun n hn=>by
   obtain ⟨o,e⟩:=hlook_some hn
   exact hnm n o e
  have hT:Sim (freshB W ρ h) nt M W M ρ (setPs ps.toList x t) h { tmps:=(ps.zip args).foldl (fun t (p,v)=>t.setIfInBounds p v) tm,defers:=[] } W:=by
   refine { S0 with tm:=fun i=>?_,size:=?_ }
   ·have:=setPs_rel (M:=M) (ρ:=ρ) (h:=h) ps.toList x args.toList t tm (by simpa using hx.symm) (by simpa using hargs.1) (fun p hp=>by have h2:tm.size=nt:=S.size;rw [h2];exact hps p hp)
     (fun i hi=>.pure ((by simpa [Array.getD_eq_getD_getElem?,List.getD_eq_getElem?_getD] using hargs.2 i hi:RelP (fun _ _=>none) (x.getD i .undef) (args.toList.getD i Go.undef)).mono (fun b o v e=>by cases e))) S.tm i
    rw [← Array.foldl_toList,Array.toList_zip]
    exact this
   ·show ((ps.zip args).foldl (fun t (p,v)=>t.setIfInBounds p v) tm).size=nt
    rw [← Array.foldl_toList,foldl_size]
    exact S.size
  refine hA (F:=F.inRound l) (hG.mono S.le) ⟨⟨hF.fn,hF.quiet⟩,hF.tb.touch S.below (fun k hk h=>fresh_wr S h)⟩ hd rfl (.inr hnx) (keepsAll_sub hkhs hkx) hR hT ?_
  intro e t1 h1 M1' ρ1 a1 w1 hq S1
  cases e with
  |exit i=>exact hq.elim
  |ret=>exact hq.elim
  |normal =>
   have hl1:w1.heap[l]?=some (.loop (rec .ready none)):=by rw [S1.below.block l hnotl];exact hl
   have hd1:a1.defers=[]:=S1.marks.2.2 rfl
   refine ⟨_,run_beginRound hl1 (by rw [hrec]),?_⟩
   have tbBody:Tb G (w1.putObj l (.loop { rec .ready none with state:=.busy })) (bodyB W (w1.putObj l (.loop { rec .ready none with state:=.busy })) ρ h ρ1 h1).wr:=by
    refine (hF.tb.touch S.below (q:=fun b=>(freshB W ρ h).wr b∨b=l) (fun k hk h=>?_)).step (fun k hk hn=>?_) (by simpa using S1.below.size) (fun k hk hb=>.inl (body_wr S1 (by simpa using S1.below.size) hb))
    ·rcases h with h|rfl
     ·exact fresh_wr S h
     ·exact hlB
    ·rw [World.putObj_heap_other (fun e=>hn (.inr e))]
     exact S1.below.block k (fun q=>hn (.inl q))
   have S2:=S1.toBody hd1 (.loop { rec .ready none with state:=.busy }) hl1
   refine hBd (F:=F.inRound l) (hG.mono S.le) ⟨⟨hF.fn,hF.quiet⟩,tbBody⟩ hd rfl (.inr hny) (keepsAll_sub hkhs hky) hq S2 ?_
   intro e t3 h3 M3 ρ3 a3 w3 hq3 S3
   have hd3:a3.defers=[]:=S3.marks.2.2 rfl
   have hs1:W.heap.size≤w1.heap.size:=S1.below.size
   have hs2:W.heap.size≤(w1.putObj l (.loop { rec .ready none with state:=.busy })).heap.size:=by simpa using hs1
   have hl3:w3.heap[l]?=some (.loop { rec .ready none with state:=.busy }):=by
    rw [S3.below.block l (fun q=>hnotl (body_wr S1 hs2 q))]
    exact World.putObj_heap_same (by omega)
   have fin:∀ (jump:Option Code),boxesOk kh (hlook h3) kh=true→∃ K':Nat→Prop,(∀ k,K' k→K k∨W.heap.size≤k)∧(∀ k,K k→K' k)∧(∀ k,K' k→k < (w3.putObj l (.loop (rec (if jump.isNone then .ready else .done) jump))).heap.size)∧Turns K W (w3.putObj l (.loop (rec (if jump.isNone then .ready else .done) jump))) ∧
     (Instr.endRound l jump).run P w3=.ok (.bool jump.isNone) (w3.putObj l (.loop (rec (if jump.isNone then .ready else .done) jump))) ∧
     (∃ M4 ρ4,Sim B nt M1 W1 M4 ρ4 t (keepH kh (hlook h3) kh) { tmps:=tm,defers:=[] } (w3.putObj l (.loop (rec (if jump.isNone then .ready else .done) jump)))∧(∀ n o,hlook (keepH kh (hlook h3) kh) n=some o→n ∈ kh) ∧
       (∀ n o b c,hlook (keepH kh (hlook h3) kh) n=some o→ρ4 n=some (b,c)→K' b)∧(∀ b o v,M4 b o=some v→K' b∨(b < B.lo∧¬ C b)))∧(w3.putObj l (.loop (rec (if jump.isNone then .ready else .done) jump))).heap[D]?=some (.deferred (some [])):=by
    intro jump hbx
    have hend:=run_endRound (P:=P) jump hl3
    obtain ⟨M4,S4⟩:=S3.keep kh [] (fun n o e=>hnm n o e) hbx
    have S5:=S.fromBody hgh S1 (.loop { rec .ready none with state:=.busy }) hl1 hlB S4 hd3 hl3 (.loop (rec (if jump.isNone then .ready else .done) jump))
    have hsz3:W.heap.size≤w3.heap.size:=Nat.le_trans hs2 S3.below.size
    refine ⟨fun b=>K b∨(W.heap.size≤b∧b < w3.heap.size),fun k hk=>hk.imp id (·.1),fun k hk=>.inl hk,fun k hk=>?_,?_,?_,⟨M4,ρ3,?_,fun n o e=>?_,fun n o b c e1 e2=>?_,fun b o v e=>?_⟩,?_⟩
    ·have hk2:k < w3.heap.size:=by
      rcases hk with hk|hk
      ·exact Nat.lt_of_lt_of_le (hKs k hk) hsz3
      ·exact hk.2
     simpa using hk2
    ·refine ⟨S3.below.os.trans S1.below.os,S3.below.tape.trans S1.below.tape,S3.below.output.trans S1.below.output,by simpa using hsz3,fun b hb hk=>?_⟩
     have hbl:b≠l:=fun e=>hk (e ▸ kl)
     have hnw:¬ (freshB W ρ h).wr b:=by
      rintro (q|⟨n,o,c,e1,e2⟩)
      ·have q:W.heap.size≤b:=q
       omega
      ·exact hk (hK n o b c e1 e2)
     rw [World.putObj_heap_other hbl,S3.below.block b (fun q=>hnw (body_wr S1 hs2 q)),World.putObj_heap_other hbl]
     exact S1.below.block b hnw
    ·rw [hrec] at hend ⊢;exact hend
    ·exact { S5 with tm:=fun i=>(S.tm i).ext S4.ext,size:=S.size,marks:=(by exact ⟨fun d hd=>by simp at hd,.nil,fun _=>rfl⟩) }
    ·rw [hlook_keepH] at e
     split at e
     ·assumption
     ·cases e
    ·have q:=body_wr S1 hs2 (loc_wr S4 e1 e2)
     rcases q with q|⟨n',o',c',q1,q2⟩
     ·exact .inr ⟨q,S4.loc_lt e1 e2⟩
     ·exact .inl (hK n' o' b c' q1 q2)
    ·cases e0:M b o with
     |some u=>exact (hM b o u e0).imp .inl id
     |none =>
      have q:=body_wr S1 hs2 (S4.new b o v e e0)
      rcases q with q|⟨n',o',c',q1,q2⟩
      ·refine .inl (.inr ⟨q,?_⟩)
       false_or_by_contra
       rename_i hlt
       have:=S4.free_mem (b:=b) (by omega) o
       rw [this] at e;cases e
      ·exact .inl (.inl (hK n' o' b c' q1 q2))
    ·have hDl:D≠l:=fun e=>by subst e;rw [hD] at hl;cases hl
     rw [World.putObj_heap_other hDl,S3.below.block D (fun q=>hnotD (body_wr S1 hs2 q)),World.putObj_heap_other hDl,S1.below.block D hnotD]
     exact hD
   obtain ⟨hbx,hq4⟩:=hq3
   cases e with
   |normal =>
    obtain ⟨K',k1,k2,k3,k4,hend,⟨M4,ρ4,S5,g1,g2,g3⟩,gD⟩:=fin none hbx
    refine ⟨_,_,hend,true,K',rfl,⟨M4,ρ4,_,S5,g1,g2,g3,k2 _ kl,k2 _ kD,k3 _ (k2 _ kl),k3 _ (k2 _ kD),gD,.inl ⟨rfl,hq4,?_⟩⟩,k1,k2,k3,k4⟩
    exact World.putObj_heap_same (Array.getElem?_eq_some_iff.1 hl3).1
   |ret =>
    obtain ⟨K',k1,k2,k3,k4,hend,⟨M4,ρ4,S5,g1,g2,g3⟩,gD⟩:=fin (some .ret) hbx
    refine ⟨_,_,hend,false,K',rfl,⟨M4,ρ4,_,S5,g1,g2,g3,k2 _ kl,k2 _ kD,k3 _ (k2 _ kl),k3 _ (k2 _ kD),gD,.inr ⟨rfl,.ret,by simp,hq4,?_⟩⟩,k1,k2,k3,k4⟩
    exact World.putObj_heap_same (Array.getElem?_eq_some_iff.1 hl3).1
   |exit id =>
    obtain ⟨K',k1,k2,k3,k4,hend,⟨M4,ρ4,S5,g1,g2,g3⟩,gD⟩:=fin (some (.exit id)) hbx
    refine ⟨_,_,hend,false,K',rfl,⟨M4,ρ4,_,S5,g1,g2,g3,k2 _ kl,k2 _ kD,k3 _ (k2 _ kl),k3 _ (k2 _ kD),gD,.inr ⟨rfl,.exit id,by simp,hq4,?_⟩⟩,k1,k2,k3,k4⟩
    exact World.putObj_heap_same (Array.getElem?_eq_some_iff.1 hl3).1
 ·cases h0
theorem livH_look:∀ {h:Heap} {n:Nat} {o:DObj},livH h=true→hlook h n=some o→livO o=true
 |[],n,o,_,e=>by simp [hlook] at e
 |(k,p) :: r,n,o,hl,e=>by
  simp only [livH,Bool.and_eq_true] at hl
  rw [hlook_cons] at e
  split at e
  ·simp only [Option.some.injEq] at e;subst e;exact hl.1
  ·exact livH_look hl.2 e
theorem live_mem {M:Mem} {ρ:Locs} {h:Heap} {w:World} {n:Nat} {o:DObj} (ho:ObjRel B M ρ h w n o) (hl:livO o=true) {b c:Nat} (hρ:ρ n=some (b,c)) (i:Nat):M b i=none:=by
 cases o with
 |row sz es fr =>
  simp only [ObjRel,hρ] at ho
  obtain ⟨_,cs,ty,_,_,_,_,_,_,q⟩:=ho
  have:fr=false:=by simpa [livO] using hl
  exact q this i
 |box sz d=>obtain ⟨b',c',q1,q2,cs,ty,q3,q4,q5,q6,q7⟩:=ho;rw [hρ] at q1;cases q1;exact q7 i
 |fbox sz d=>simp [livO] at hl
 |dict es=>obtain ⟨b',c',q1,q2,q3,q4⟩:=ho;rw [hρ] at q1;cases q1;exact q4 i
 |siter s p=>obtain ⟨b',c',q1,q2,q3,q4⟩:=ho;rw [hρ] at q1;cases q1;exact q4 i
 |ghost _ _ _=>simp [livO] at hl
def loopB (W1:World) (ρ:Locs) (h:Heap) (l:Nat) (C:Nat→Prop):Base:=⟨W1.heap.size,fun b=>(∃ n o c,hlook h n=some o∧ρ n=some (b,c))∨b=l∨C b,ρ,h,false,true⟩
theorem loop_wr (S:Sim B nt M0 w0 M ρ t h a w) {l:Nat} {C:Nat→Prop} (hl:B.lo≤l) (hC:∀ b,C b→B.wr b) {b:Nat} (hb:(loopB w ρ h l C).wr b):B.wr b:=by
 rcases hb with hb|⟨n,o,c,e1,e2⟩|hb|hb
 ·exact .inl (Nat.le_trans S.Bsize hb)
 ·exact loc_wr S e1 e2
 ·exact .inl (by rw [hb];exact hl)
 ·exact hC b hb
theorem Sim.fromLoop (S:Sim B nt M0 w0 M ρ t h a w) (hgh:B.gh=false) {l:Nat} {C:Nat→Prop} {x z:Loop} (hlB:B.lo≤l) (hC:∀ b,C b→B.wr b) (hCd:∀ b x,C b→w.heap[b]?≠some (.deferred x)) (hl:w.heap[l]?=some (.loop x)) {M4:Mem} {ρ4:Locs} {h4:Heap} {w3:World}
  (S4:Sim (loopB w ρ h l C) nt M w M4 ρ4 t h4 { tmps:=a.tmps,defers:=[] } w3) (hl3:w3.heap[l]?=some (.loop z)) (y:Obj):Sim B nt M0 w0 M4 ρ4 t h4 a (w3.putObj l y):=by
 have S5:=S4.putLoop y hl3 (.inr (.inr (.inl rfl))) rfl
 refine { S5 with le:=Mem.le_trans S.le S5.le,obj:=fun n o e=>(S5.obj n o e).base (fun b c hb=>loop_wr S hlB hC (loc_wr S5 e hb)) (fun e=>Bool.noConfusion e),below:=?_,hB:=S.hB,new:=fun b o v e e0=>from_new S S5.new (loop_wr S hlB hC) e e0,marks:=?_,ext:=S.ext.trans S5.ext }
 ·exact S.below.trans ⟨S5.below.os,S5.below.tape,S5.below.output,S5.below.size,fun k hk=>S5.below.block k (fun q=>hk (loop_wr S hlB hC q))⟩
 ·refine ⟨fun d hd=>?_,S.marks.2⟩
  obtain ⟨D,e1,e2,e3⟩:=S.marks.1 d hd
  refine ⟨D,e1,e2,?_⟩
  have hne:¬ (loopB w ρ h l C).wr D:=by
   rintro (q|⟨n,o,c,q1,q2⟩|q|q)
   ·have:=(Array.getElem?_eq_some_iff.1 e3).1
    have q:w.heap.size≤D:=q
    omega
   ·exact loc_not_deferred S q1 q2 _ e3
   ·subst q;rw [hl] at e3;cases e3
   ·exact hCd D _ q e3
  rw [S5.below.block D hne];exact e3
theorem HeapIn.world {ρc:Locs} {hc:Heap} {W:World} (H:HeapIn M ρc hc w) (hM:M.holds W) (hb:∀ n o b c,hlook hc n=some o→ρc n=some (b,c)→W.heap[b]?=w.heap[b]?):HeapIn M ρc hc W :=
 ⟨hM,fun n o e=>(H.obj n o e).moved (fun _ _ r=>r) (fun b c hρ=>⟨.inl (Nat.zero_le _),hb n o b c e hρ⟩) id,H.dis⟩
theorem range_core (hG:GOk G M0) (hF:OpenB G F B w0) (hd:F.depth=none) (hro:F.round=none) (hnd:B.nd=false) (hgh:B.gh=false) {x y:Code} {dx dy:DC} (hA:RunsAs P G nt x dx) (hBd:RunsAs P G nt y dy)
  (hnx:noRange dx=true) (hny:noRange dy=true) {f:Operand} {ps:Array Tmp} {k:Keep} (hkx:keepsAll k.kh dx=true) (hky:keepsAll k.kh dy=true) (hps:∀ p ∈ ps.toList,p < nt)
  {DQ:DExit→SP} {g:FuncId} {vs:Array Value} (hv:a.eval f=.func (.func g) #[] vs) {M2:Mem} {t1:Tmps} {h1:Heap} (S2:Sim B nt M0 w0 M2 ρ t1 h1 a w) (hnm:∀ n o,hlook h1 n=some o→n ∈ k.kh) (hliv:livH h1=true)
  {cs:List DV} {hc:Heap} {xs:List (List DV)} (hseq:ISeqW P G g cs hc xs) {ρc:Locs} {C:Nat→Prop} (hc0:ρc 0=none) (hHc:HeapIn M2 ρc hc w) (hcs:RelVs M2 ρc hc cs vs)
  (hCl:∀ n o b c,hlook hc n=some o→ρc n=some (b,c)→C b) (hCB:∀ b,C b→B.wr b) (hCs:∀ b,C b→b < w.heap.size) (hCd:∀ b x,C b→w.heap[b]?≠some (.deferred x)) (hCM:∀ b o,C b→M2 b o=none)
  (hCo:∀ b n o c,C b→hlook h1 n=some o→ρ n=some (b,c)→False)
  (hlen:∀ x ∈ xs,x.length=ps.toList.length) (hrs:roundsN (fun R=>dwp P G dx (seqQ (dwp P G dy R) (fun _ _ _=>False))) k.kh ps.toList DQ t1 xs h1)
  {Q:Exit→Act→World→Prop} (hQ:ReadsQ B nt M0 w0 DQ Q):(Code.rangeFunc f ps x y).wpIn F n P Q a w:=by
 refine wpIn_rangeFunc (fun fn hfn=>?_)
 rw [hro]
 obtain ⟨rec,hrec⟩:∃ rec:LoopState→Option Code→Loop,rec=fun st pe=>{ state:=st,pending:=pe,fn:=fn,tmps:=a.tmps,params:=ps,assign:=x,body:=y,defers:=w.heap.size }:=⟨_,rfl⟩
 obtain ⟨W1,hW1⟩:∃ W1,(w.alloc (.deferred (some []))).alloc (.loop (rec .ready none))=W1:=⟨_,rfl⟩
 have hsz1:W1.heap.size=w.heap.size+2:=by rw [← hW1];simp
 have hL1:W1.heap[w.heap.size+1]?=some (.loop (rec .ready none)):=by
  rw [← hW1];have:=World.alloc_heap_new (w.alloc (.deferred (some []))) (.loop (rec .ready none));rwa [World.size_alloc] at this
 have hD1:W1.heap[w.heap.size]?=some (.deferred (some [])):=by
  rw [← hW1];exact (RowKit.Below.heap_alloc _ _ _ (by simp)).trans (World.alloc_heap_new w _)
 have hold:∀ k,k < w.heap.size→W1.heap[k]?=w.heap[k]?:=fun k hk=>by
  rw [← hW1];exact (RowKit.Below.heap_alloc _ _ _ (by simp;omega)).trans (RowKit.Below.heap_alloc _ _ _ hk)
 have hB2:=S2.Bsize
 have hto:B.touch w0 W1:=by rw [← hW1];exact (S2.below.alloc hB2 _).alloc (by simp;omega) _
 have S2':=S2.world hold hto
 have S3:Sim B nt M0 w0 M2 ρ t1 h1 { a with defers:=[{ target:=.collected w.heap.size,args:=#[] }]++a.defers } W1:=by
  refine { S2' with marks:=⟨fun d hd=>?_,List.pairwise_cons.2 ⟨fun d hd e=>?_,S2'.marks.2.1⟩,fun e=>by rw [hnd] at e;cases e⟩ }
  ·rcases List.mem_cons.1 hd with rfl|hd
   ·exact ⟨w.heap.size,rfl,hB2,hD1⟩
   ·exact S2'.marks.1 d hd
  ·obtain ⟨D',q1,q2,q3⟩:=S2.marks.1 d hd
   have q4:=(Array.getElem?_eq_some_iff.1 q3).1
   rw [q1] at e
   simp only [Deferred.mk.injEq,Target.collected.injEq,and_true] at e
   omega
 have SB:Sim (loopB W1 ρ h1 (w.heap.size+1) C) nt M2 W1 M2 ρ t1 h1 { tmps:=a.tmps,defers:=[] } W1 :=
  {S3 with le:=M2.le_refl,obj:=fun n o e=>(S3.obj n o e).base (fun b c hb=>.inr (.inl ⟨n,o,c,e,hb⟩)) (fun e=>by rw [hgh] at e;cases e),below:=Base.touch.refl _ _,hB:=rfl,new:=fun b o v e e0=>(by rw [e] at e0;cases e0),marks:=⟨fun d hd=>by simp at hd,.nil,fun _=>rfl⟩,ext:=Ext.refl _ _ _ }
 have hlo:B.lo≤w.heap.size+1:=by omega
 have hCd1:∀ b x,C b→W1.heap[b]?≠some (.deferred x):=fun b x hb=>by rw [hold b (hCs b hb)];exact hCd b x hb
 refine ⟨w.heap.size+1,[{ target:=.collected w.heap.size,args:=#[] }],W1,{ target:=.fn (.func g) vs,args:=#[.func (.yield (w.heap.size+1)) #[] #[]] },W1,g,#[.func (.yield (w.heap.size+1)) #[] #[]]++vs,W1,?_,?_,?_,?_,fun h=>(by rw [hd] at h;cases h),?_⟩
 ·rw [← hW1,hrec];exact run_enterLoop_outer _ _ _ _ _
 ·simp only [resolve,hv]
  simp [go_sem]
 ·intro f' hf';exact hF.fn _
 ·have eg:=hseq.1 (#[.func (.yield (w.heap.size+1)) #[] #[]]++vs) W1
  simpa [invoke,go_sem] using eg
 ·have hJ0:RJ (loopB W1 ρ h1 (w.heap.size+1) C) nt M2 W1 t1 a.tmps k.kh (fun r h=>roundsN (fun R=>dwp P G dx (seqQ (dwp P G dy R) fun _ _ _=>False)) k.kh ps.toList DQ t1 r h) DQ C (w.heap.size+1) w.heap.size rec xs true
    (fun b=>(∃ n o c,hlook h1 n=some o∧ρ n=some (b,c))∨b=w.heap.size+1∨b=w.heap.size) W1:=by
   refine ⟨M2,ρ,h1,SB,hnm,fun n o b c e1 e2=>.inl ⟨n,o,c,e1,e2⟩,fun b o v e=>.inr ⟨?_,fun hc=>(by rw [hCM b o hc] at e;cases e)⟩,.inr (.inl rfl),.inr (.inr rfl),by omega,by omega,hD1,.inl ⟨rfl,hrs,hL1⟩⟩
   show b < W1.heap.size
   false_or_by_contra
   rename_i hlt
   have:=S3.free_mem (b:=b) (by omega) o
   rw [this] at e;cases e
  have pr:Proto F P W1.heap.size C (w.heap.size+1) (fun rest live K W=>(∀ x ∈ rest,x.length=ps.size)∧RJ (loopB W1 ρ h1 (w.heap.size+1) C) nt M2 W1 t1 a.tmps k.kh (fun r h=>roundsN (fun R=>dwp P G dx (seqQ (dwp P G dy R) fun _ _ _=>False)) k.kh ps.toList DQ t1 r h) DQ C (w.heap.size+1) w.heap.size rec rest live K W):=by
   refine ⟨fun r b K W W' hJ st=>⟨hJ.1,hJ.2.stays (B:=loopB W1 ρ h1 (w.heap.size+1) C) (fun b hb=>.inr (.inr (.inr hb))) r b K W W' st⟩,fun x r K W args m hJ hK hargs=>?_⟩
   obtain ⟨fn',tm',as',bd',q1,q2⟩:=RJ.round hrec (hG.mono S3.le) ⟨hF.toOpenF,hF.tb.touch S3.below (fun k hk h=>loop_wr S3 hlo hCB h)⟩ hd rfl (show (loopB W1 ρ h1 (w.heap.size+1) C).wr (w.heap.size+1) from Or.inr (Or.inr (Or.inl rfl))) hA hBd hnx hny hkx hky hps m (hJ.1 x (List.mem_cons_self ..)) hJ.2 hK hargs
   exact ⟨fn',tm',as',bd',q1,q2.mono (fun e W' hR=>by
    obtain ⟨b,K',r1,r2,r3⟩:=hR
    exact ⟨b,K',r1,⟨fun z hz=>hJ.1 z (List.mem_cons_of_mem _ hz),r2⟩,r3⟩)⟩
  refine (hseq.2.2 F (n - 1) hF.toOpenF hd M2 ρc W1 vs (w.heap.size+1) (fun b=>(∃ n o c,hlook h1 n=some o∧ρ n=some (b,c))∨b=w.heap.size+1∨b=w.heap.size) C _ (hG.mono S3.le) (hF.tb.touch S3.below (fun k hk h=>by rcases h with (⟨n,o,c,q1,q2⟩|q|q)|q;exact loc_wr S3 q1 q2;exact .inl (by omega);exact .inl (by omega);exact hCB k q))
   (hHc.world S3.mem (fun n o b c e1 e2=>hold b (hCs b (hCl n o b c e1 e2)))) hc0 hcs hCl ?_ ?_ ?_ pr ⟨fun x hx=>by simpa using hlen x hx,hJ0⟩).mono ?_
  ·rintro b hb (⟨n,o,c,q1,q2⟩|q|q)
   ·exact hCo b n o c hb q1 q2
   ·have:=hCs b hb;omega
   ·have:=hCs b hb;omega
  ·rintro b (⟨n,o,c,q1,q2⟩|q|q)
   ·exact S3.loc_lt q1 q2
   ·omega
   ·omega
  ·rintro b i v e (⟨n,o,c,q1,q2⟩|q|q)
   ·have:=live_mem (S3.obj n o q1) (livH_look hliv q1) q2 i
    rw [this] at e;cases e
   ·have:=S2.free_mem (b:=b) (by omega) i
    rw [this] at e;cases e
   ·have:=S2.free_mem (b:=b) (by omega) i
    rw [this] at e;cases e
  ·rintro e w3 ⟨v,K',rfl,hJ,_,_⟩
   rcases hJ with ⟨_,M4,ρ4,h4,S4,_,_,_,_,_,_,_,_,hcase⟩|⟨r,_,M4,ρ4,h4,S4,_,_,_,_,_,_,_,_,hcase⟩
   ·rcases hcase with ⟨_,hR,hl4⟩|⟨h0,_⟩
    ·have hend:=run_endLoop (P:=P) hl4 (by rw [hrec];simp)
     subst hrec
     exact ⟨none,_,hend,hQ .normal _ _ _ _ _ _ hR (S3.fromLoop hgh hlo hCB hCd1 hL1 S4 hl4 _)⟩
    ·cases h0
   ·rcases hcase with ⟨h0,_⟩|⟨_,e,hne,hq,hl4⟩
    ·cases h0
    ·have hend:=run_endLoop (P:=P) hl4 (by rw [hrec];simp)
     subst hrec
     cases e with
     |normal=>exact absurd rfl hne
     |exit i=>exact ⟨some (.exit i),_,hend,wpIn_exit (hQ (.exit i) _ _ _ _ _ _ hq (S3.fromLoop hgh hlo hCB hCd1 hL1 S4 hl4 _))⟩
     |ret=>exact ⟨some .ret,_,hend,wpIn_ret (hQ .ret _ _ _ _ _ _ hq (S3.fromLoop hgh hlo hCB hCd1 hL1 S4 hl4 _))⟩
theorem capsB_get {n:Nat}:∀ {caps:List DV},capsB n caps=true→∀ {i:Nat},i < caps.length→caps.getD i .undef=.bptr n 0∨pureB (caps.getD i .undef)=true
 |[],_,i,hi=>by simp at hi
 |d :: r,h,i,hi=>by
  have hr:capsB n r=true:=by
   cases d<;>simp only [capsB,Bool.and_eq_true] at h<;>exact h.2
  cases i with
  |succ i=>exact capsB_get hr (by simpa using hi)
  |zero =>
   cases d with
   |bptr m off =>
    simp only [capsB,Bool.and_eq_true] at h
    obtain ⟨⟨h1,h2⟩,_⟩:=h
    rw [Nat.eq_of_beq_eq_true h1,Nat.eq_of_beq_eq_true h2]
    exact .inl rfl
   |_=>simp only [capsB,Bool.and_eq_true] at h;exact .inr h.1
theorem hlook_cutH (n m:Nat):∀ h:Heap,hlook (cutH n h) m=if m=n then none else hlook h m
 |[]=>by simp [cutH,hlook]
 |(k,o) :: r=>by
  unfold cutH
  rw [natbeq]
  by_cases e:k=n
  ·subst e
   rw [decide_eq_true rfl,cond_true,hlook_cutH,hlook_cons]
   by_cases e2:m=k
   ·rw [if_pos e2,if_pos e2]
   ·rw [if_neg e2,if_neg e2,if_neg (Ne.symm e2)]
  ·rw [decide_eq_false e,cond_false,hlook_cons,hlook_cons,hlook_cutH]
   by_cases e2:k=m
   ·subst e2;rw [if_pos rfl,if_pos rfl,if_neg e]
   ·rw [if_neg e2,if_neg e2]
theorem tget_cutT (n i:Nat):∀ t:Tmps,tget (cutT n t) i=cutV n (tget t i)
 |[]=>rfl
 |(k,d) :: r=>by
  unfold cutT
  rw [tget_cons,tget_cons,tget_cutT n i r]
  split<;>rfl
theorem freeOf_look {n:Nat}:∀ {h:Heap} {m sz:Nat} {d:DV},freeOf n h=true→hlook h m=some (.box sz d)→(names d).any (Nat.beq n)=false
 |[],m,sz,d,_,e=>by simp [hlook] at e
 |(k,o) :: r,m,sz,d,hf,e=>by
  rw [hlook_cons] at e
  by_cases e2:k=m
  ·rw [if_pos e2] at e
   simp only [Option.some.injEq] at e
   subst e
   simp only [freeOf,Bool.and_eq_true,Bool.not_eq_true'] at hf
   exact hf.1
  ·rw [if_neg e2] at e
   refine freeOf_look (h:=r) ?_ e
   cases o with
   |box _ _=>simp only [freeOf,Bool.and_eq_true] at hf;exact hf.2
   |_=>exact hf
theorem namess_get {n:Nat}:∀ {ds:List DV},(namess ds).any (Nat.beq n)=false→∀ i,i < ds.length→(names (ds.getD i .undef)).any (Nat.beq n)=false
 |[],_,i,h=>absurd h (Nat.not_lt_zero i)
 |d :: r,hf,i,h=>by
  simp only [namess,List.any_append,Bool.or_eq_false_iff] at hf
  cases i with
  |zero=>exact hf.1
  |succ i=>exact namess_get hf.2 i (by simpa using h)
theorem RelV.cut {n:Nat} {h':Heap} (hl:∀ m o,m≠n→hlook h m=some o→hlook h' m=some o) {d:DV} {v:Value} (r:RelV M ρ h d v):(names d).any (Nat.beq n)=false→RelV M ρ h' d v:=by
 have one:∀ {m:Nat},([m]:List Nat).any (Nat.beq n)=false→m≠n:=fun {m} e e2=>by subst e2;simp at e
 induction r with
 |pure hp=>exact fun _=>.pure hp
 |agg ds vs hl _ ih=>exact fun hf=>.agg ds vs hl (fun i hi=>ih i hi (namess_get (by simpa [names] using hf) i hi))
 |tuple ds vs hl _ ih=>exact fun hf=>.tuple ds vs hl (fun i hi=>ih i hi (namess_get (by simpa [names] using hf) i hi))
 |func f ds vs hl _ ih=>exact fun hf=>.func f ds vs hl (fun i hi=>ih i hi (namess_get (by simpa [names] using hf) i hi))
 |meth f ds vs hl _ ih=>exact fun hf=>.meth f ds vs hl (fun i hi=>ih i hi (namess_get (by simpa [names] using hf) i hi))
 |own n' off len tot sz es fr v h1 ht hs hv=>exact fun hf=>.own n' off len tot sz es fr v (hl _ _ (one hf) h1) ht hs hv
 |ptr n' i off tot sz es fr v h1 ht hi hs hv=>exact fun hf=>.ptr n' i off tot sz es fr v (hl _ _ (one hf) h1) ht hi hs hv
 |bptr n' off sz b c d h1 hρ=>exact fun hf=>.bptr n' off sz b c d (hl _ _ (one hf) h1) hρ
 |fptr n' off sz b c d h1 hρ=>exact fun hf=>.fptr n' off sz b c d (hl _ _ (one hf) h1) hρ
 |dictv n' b c es h1 hρ=>exact fun hf=>.dictv n' b c es (hl _ _ (one hf) h1) hρ
 |sitv n' b c pos s h1 hρ=>exact fun hf=>.sitv n' b c pos s (hl _ _ (one hf) h1) hρ
 |yldv n' l' rest live h1=>exact fun hf=>.yldv n' l' rest live (hl _ _ (one hf) h1)
theorem RelV.cutV {n:Nat} {h':Heap} (hl:∀ m o,m≠n→hlook h m=some o→hlook h' m=some o) {d:DV} {v:Value} (r:RelV M ρ h d v):RelV M ρ h' (Sh.cutV n d) v:=by
 unfold Sh.cutV
 cases e:(names d).any (Nat.beq n) with
 |true=>exact .pure (.undef _)
 |false=>exact r.cut hl e
def cutB (w:World) (ρ:Locs) (h:Heap):Base:=⟨w.heap.size,fun b=>∃ n o c,hlook h n=some o∧ρ n=some (b,c),ρ,[],false,true⟩
theorem Sim.cut (S:Sim B nt M0 w0 M ρ t h a w) (hgh:B.gh=false) {n:Nat} (hf:freeOf n h=true):Sim (cutB w ρ (cutH n h)) nt M w M ρ (cutT n t) (cutH n h) { tmps:=a.tmps,defers:=[] } w:=by
 have hl:∀ m o,m≠n→hlook h m=some o→hlook (cutH n h) m=some o:=fun m o e e1=>by rw [hlook_cutH,if_neg e];exact e1
 have hl2:∀ {m o},hlook (cutH n h) m=some o→m≠n∧hlook h m=some o:=fun {m o} e=>by
  rw [hlook_cutH] at e
  split at e
  ·cases e
  ·exact ⟨‹_›,e⟩
 refine { le:=M.le_refl,tm:=fun i=>by rw [tget_cutT];exact (S.tm i).cutV hl,mem:=S.mem,obj:=fun m o e=>?_,dis:=fun m m' o p b c b' c' hne e1 e2=>S.dis m m' o p b c b' c' hne (hl2 e1).2 (hl2 e2).2,below:=Base.touch.refl _ _,hB:=rfl,new:=fun b o v e e0=>(by rw [e] at e0;cases e0),size:=S.size,marks:=⟨fun d hd=>by simp at hd,.nil,fun _=>rfl⟩,ext:=⟨M.le_refl,fun n sz es fr e=>(by cases e),fun n o e=>(by cases e)⟩ }
 have ho:=(S.obj m o (hl2 e).2).base (B':=cutB w ρ (cutH n h)) (fun b c hb=>.inr ⟨m,o,c,e,hb⟩) (fun e=>by rw [hgh] at e;cases e)
 cases o with
 |box sz d =>
  obtain ⟨b,c,h1,h2,cs,ty,h3,h4,h5,h6,h7⟩:=ho
  refine ⟨b,c,h1,h2,cs,ty,h3,h4,h5,fun i hi=>(h6 i hi).cut hl ?_,h7⟩
  have hn:=freeOf_look hf (hl2 e).2
  cases d with
  |agg ds =>
   rw [names] at hn
   exact namess_get hn i (by have:ds.length=sz:=(okE_spec h5).1;omega)
  |_ =>
   have:=(okE_spec h5).1
   simp only [DV.cells,List.length_cons,List.length_nil] at this
   have:i=0:=by omega
   subst this
   exact hn
 |_=>exact ho
theorem Sim.uncut (S:Sim B nt M0 w0 M ρ t h a w) {n:Nat} {k:Keep} (hnk:memB n k.kh=false) (hkk:∀ n o,hlook B.h0 n=some o→n ∈ k.kh) {M2:Mem} {t1:Tmps}
  (S2:Sim (cutB w ρ (cutH n h)) nt M w M2 ρ t1 (keepH k.kh (hlook (cutH n h)) k.kh) { tmps:=a.tmps,defers:=[] } w):Sim B nt M0 w0 M2 ρ t1 (keepH k.kh (hlook (cutH n h)) k.kh) a w:=by
 have wr:∀ {b},(cutB w ρ (cutH n h)).wr b→B.wr b:=fun {b} hb=>by
  rcases hb with hb|⟨m,o,c,e1,e2⟩
  ·exact .inl (Nat.le_trans S.Bsize hb)
  ·rw [hlook_cutH] at e1
   split at e1
   ·cases e1
   ·exact loc_wr S e1 e2
 have hk:∀ m o,m ∈ k.kh→hlook h m=some o→hlook (keepH k.kh (hlook (cutH n h)) k.kh) m=some (resObj k.kh (hlook (cutH n h)) o):=fun m o hm e=>by
  have hne:m≠n:=fun e2=>by subst e2;rw [(memB_iff m k.kh).2 hm] at hnk;cases hnk
  rw [hlook_keepH,if_pos hm,hlook_cutH,if_neg hne,e];rfl
 refine { S2 with le:=Mem.le_trans S.le S2.le,obj:=fun m o e=>(S2.obj m o e).base (fun b c hb=>wr (loc_wr S2 e hb)) (fun e=>Bool.noConfusion e),below:=S.below,hB:=S.hB,new:=fun b o v e e0=>from_new S S2.new wr e e0,size:=S.size,marks:=S.marks,ext:=?_ }
 refine ⟨Mem.le_trans S.le S2.le,fun m sz es fr e=>?_,fun m o e hr=>?_⟩
 ·obtain ⟨sz',es',fr',q1,q2,q3⟩:=S.ext.row m sz es fr e
  exact ⟨sz',es',fr',by rw [hk m _ (hkk m _ e) q1];rfl,q2,q3⟩
 ·obtain ⟨q1,o',q2,q3⟩:=S.ext.box m o e hr
  exact ⟨q1,_,hk m _ (hkk m _ e) q2,like_trans q3 (like_resObj _ _ (like_row q3))⟩
theorem range_run (hG:GOk G M0) (hF:OpenB G F B w0) (hd:F.depth=none) (hro:F.round=none) (hnd:B.nd=false) (hgh:B.gh=false) {x y:Code} {dx dy:DC} (hA:RunsAs P G nt x dx) (hBd:RunsAs P G nt y dy)
  (hnx:noRange dx=true) (hny:noRange dy=true) {f:Operand} {ps:Array Tmp} {k:Keep} (hkk:∀ n o,hlook B.h0 n=some o→n ∈ k.kh) (hkx:keepsAll k.kh dx=true) (hky:keepsAll k.kh dy=true) (hps:∀ p ∈ ps.toList,p < nt)
  {DQ:DExit→SP} (hw:rangeWp P G (fun R=>dwp P G dx (seqQ (dwp P G dy R) (fun _ _ _=>False))) k ps.toList DQ (evalOpd G t f) t h)
  (S:Sim B nt M0 w0 M ρ t h a w) {Q:Exit→Act→World→Prop} (hQ:ReadsQ B nt M0 w0 DQ Q):(Code.rangeFunc f ps x y).wpIn F n P Q a w:=by
 have hnm:∀ (lk:Nat→Option DObj) n o,hlook (keepH k.kh lk k.kh) n=some o→n ∈ k.kh:=fun lk n o e=>by
  rw [hlook_keepH] at e
  split at e
  ·assumption
  ·cases e
 unfold rangeWp at hw
 split at hw
 ·rename_i g caps hf
  rcases hw with hw|⟨nc,sz,d,xs,⟨hcp,hlk,hpd,hn0,hnk,hfo⟩,hseq,hlen,hbx,hliv,hrs⟩
  ·split at hw
   ·rename_i p cs hp
    obtain ⟨hp1,xs,hseq,hlen,hbx,hliv,hrs⟩:=pre_holds hw
    obtain ⟨M1,m1,S1,m2,m3,m4⟩:=S.freeze (namess caps)
    have hrel:=S.opd hG f
    rw [hf] at hrel
    obtain ⟨vs,hv,hvl,hvs⟩:=hrel.inv_func
    obtain ⟨e1,e2⟩:=purs_rel S1 (hlook h) caps (fun i=>vs.getD i Go.undef) p cs hp hp1 (fun i hi=>(hvs i hi).ext m3) (fun m hm sz es fr e=>by rw [m4 m sz es fr e];simp [hm]) (fun m hm sz d0 hl hp=>freeze_fbox hm hl hp)
    obtain ⟨M2,S2,_,m5⟩:=S1.keepR k.kh k.kt (fun n o e=>hkk n o e) hbx
    exact range_core hG hF hd hro hnd hgh hA hBd hnx hny hkx hky hps hv S2 (hnm _) hliv hseq (ρc:=fun _=>none) (C:=fun _=>False) rfl ⟨S2.mem,fun n o e=>(by cases e),fun n m o p b c b' c' _ e=>(by cases e)⟩ ⟨by omega,fun i hi=>.pure ((e2 i (by omega)).mono m5)⟩
     (fun n o b c e=>by cases e) (fun b h=>h.elim) (fun b h=>h.elim) (fun b x h=>h.elim) (fun b o h=>h.elim) (fun b n o c h=>h.elim) hlen hrs hQ
   ·exact hw.elim
  ·have hrel:=S.opd hG f
   rw [hf] at hrel
   obtain ⟨vs,hv,hvl,hvs⟩:=hrel.inv_func
   obtain ⟨b,c,hρ,hwr,cs,ty,q3,q4,q5,q6,q7⟩:=S.obj nc _ hlk
   have Sc:=S.cut hgh hfo
   obtain ⟨M2,S2,_,m5⟩:=Sc.keepR k.kh k.kt (fun n o e=>by cases e) hbx
   have hblt:=S.loc_lt hlk hρ
   have hdis:∀ m o c',hlook (cutH nc h) m=some o→ρ m=some (b,c')→False:=fun m o c' e1 e2=>by
    rw [hlook_cutH] at e1
    split at e1
    ·cases e1
    ·rename_i hne
     exact S.dis m nc o _ b c' b c hne e1 hlk e2 hρ rfl
   have hM2:∀ o,M2 b o=none:=fun o=>by
    cases e:M2 b o with
    |none=>rfl
    |some v =>
     rcases S2.new b o v e (q7 o) with q|⟨m,o',c',e1,e2⟩
     ·have q:w.heap.size≤b:=q
      omega
     ·exact (hdis m o' c' e1 e2).elim
   have hl1:hlook [(nc,DObj.box sz d)] nc=some (.box sz d):=by rw [hlook_cons,if_pos rfl]
   have hl2:∀ {m o},hlook [(nc,DObj.box sz d)] m=some o→m=nc∧o=.box sz d:=fun {m o} e=>by
    rw [hlook_cons] at e
    split at e
    ·rename_i e2;cases e;exact ⟨e2.symm,rfl⟩
    ·cases e
   refine range_core hG hF hd hro hnd hgh hA hBd hnx hny hkx hky hps hv (S.uncut hnk hkk S2) (hnm _) hliv hseq (ρc:=fun m=>if m=nc then some (b,c) else none) (C:=fun k=>k=b) (by simp;omega) ⟨S2.mem,fun m o e=>?_,fun m m' o p b1 c1 b2 c2 hne e1 e2=>absurd ((hl2 e1).1.trans (hl2 e2).1.symm) hne⟩ ⟨by omega,fun i hi=>?_⟩
    (fun n o b' c' e1 e2=>?_) (fun k hk=>by subst hk;exact hwr) (fun k hk=>by subst hk;exact hblt) (fun k x hk=>by subst hk;rw [q3];simp) (fun k o hk=>by subst hk;exact hM2 o) (fun k m o c' hk e1 e2=>?_) hlen hrs hQ
   ·obtain ⟨rfl,rfl⟩:=hl2 e
    refine ⟨b,c,by simp,.inl (Nat.zero_le _),cs,ty,q3,q4,q5,fun i hi=>?_,hM2⟩
    exact .pure ((relV_pure _ _ (pureB_cells hpd i (by have:=(okE_spec q5).1;omega)) (q6 i hi)).mono m5)
   ·have h1:=hvs i (by omega)
    rcases capsB_get hcp (show i < caps.length by omega) with e0|e0
    ·rw [e0] at h1 ⊢
     obtain ⟨_,b',c',_,e2,_,e1⟩:=RelV.inv_bptr h1
     rw [hρ] at e1;cases e1
     rw [e2]
     exact .bptr nc 0 sz b c d hl1 (by simp)
    ·exact .pure ((relV_pure _ _ e0 h1).mono m5)
   ·obtain ⟨rfl,rfl⟩:=hl2 e1
    simp only [if_true] at e2;cases e2;rfl
   ·subst hk
    have hm:=hnm _ m o e1
    rw [hlook_keepH,if_pos hm] at e1
    cases e3:hlook (cutH nc h) m with
    |none=>rw [e3] at e1;cases e1
    |some o'=>exact hdis m o' c' e3 e2
 ·exact hw.elim
end
end Sh

/- Shadow code against the code of the model;a function's contract. -/
namespace Sh
open Go
section
variable {P:Program} {G:Nat→Option DV} {B:Base} {nt:Nat} {M0:Mem} {w0:World} {M:Mem} {ρ:Locs} {t:Tmps} {h:Heap} {a:Act} {w:World}
variable {F:Fence} {n:Nat}
theorem opsWp_clr (P:Program) (G:Nat→Option DV):∀ l:List DOper,opsWp P G (l.map clrB)=opsWp P G l
 |[]=>rfl
 |o :: r=>by
  have ih:=opsWp_clr P G r
  funext K Q t h
  show (match o.guard with
   |none=>stepWp P G o (opsWp P G (r.map clrB) K Q) t h
   |some (g,want)=>match tget t g with
    |.bool b=>onG (memB g K) b want (stepWp P G o (opsWp P G (r.map clrB) (g :: K) Q) ((g,.bool want) :: t) h) (putK o.dst (.tuple []) ((g,.bool (!want)) :: t) fun t'=>opsWp P G (r.map clrB) (g :: K) Q t' h)
    |.tuple []=>putK o.dst (.tuple []) t fun t'=>opsWp P G (r.map clrB) K Q t' h
    |_=>False)=_
  rw [ih];rfl
theorem code_runA (hmo:P.follows .mixedOrders=true) {ann:Ann} :
  ∀ (c:Code) (blk:Nat) (dc:DC),cCode P ann nt blk c=some dc→∀ {F:Fence} {n:Nat} {B:Base} {M0:Mem} {w0:World},GOk G M0→OpenB G F B w0→F.depth=none→B.gh=false→(F.round=none∧B.nd=false∨noRange dc=true) →
   keepsAll (B.h0.map (·.1)) dc=true→∀ {DQ:DExit→SP} {t:Tmps} {h:Heap},dwp P G dc DQ t h→∀ {M:Mem} {ρ:Locs} {a:Act} {w:World},Sim B nt M0 w0 M ρ t h a w →
   ∀ {Q:Exit→Act→World→Prop},ReadsQ B nt M0 w0 DQ Q→c.wpIn F n P Q a w:=by
 intro c
 induction c with
 |skip =>
  intro blk dc hc F n B M0 w0 hG hF hd hgh hnr hka DQ t h hw M ρ a w S Q hQ
  simp only [cCode,Option.some.injEq] at hc;subst hc
  exact wpIn_skip (hQ .normal _ _ _ _ _ _ hw S)
 |region id ops draw =>
  intro blk dc hc F n B M0 w0 hG hF hd hgh hnr hka DQ t h hw M ρ a w S Q hQ
  simp only [cCode] at hc
  split at hc
  ·rename_i l hl
   obtain ⟨c1,hc⟩:=cond_some hc
   simp only [Option.some.injEq] at hc;subst hc
   cases draw with
   |false =>
    have hw:opsWp P G (l.map clrB) [] (DQ .normal) t h:=hw
    rw [opsWp_clr] at hw
    obtain ⟨fs,t2,h2,ch,hq⟩:=opsWp_chain hw
    obtain ⟨hlen,hops⟩:=cOpers_spec ops.toList 0 [] l rfl hl
    refine wpIn_region ?_
    have:=plain_run (n:=n) (Q:=Q) (ops:=ops) (nt:=nt) hG hF hd ch 0 (fun k dop hk=>?_) S (fun M' ρ' a' w' S'=>hQ .normal _ _ _ _ _ _ hq S')
    ·rw [List.range_eq_range']
     rw [hlen] at this;simp at this;exact this
    ·have hlt:k < l.length:=(List.getElem?_eq_some_iff.1 hk).1
     rw [hlen] at hlt
     have hk2:ops.toList[k]?=some ops.toList[k]:=List.getElem?_eq_getElem hlt
     refine ⟨ops.toList[k],?_,(hops k _ dop hk2 hk).1⟩
     rw [Nat.zero_add];simp
   |true =>
    simp only [Bool.not_true,Bool.false_or] at c1
    have hw:drawWp P G l [] [] (DQ .normal) t h:=hw
    obtain ⟨fs,t2,h2,ch,hft,hq⟩:=drawWp_chain hw
    rw [List.reverse_nil,List.nil_append] at hft
    refine wpIn_region_any hmo ?_
    have hS:Sim B nt M0 w0 M ρ t h a { w with drawn:=w.drawn+1 }:=S.world (fun _ _=>rfl) ⟨S.below.os,S.below.tape,S.below.output,S.below.size,S.below.block⟩
    exact draw_run hG hF hd hl c1 ch hft hS (fun M' ρ' a' w' S'=>hQ .normal _ _ _ _ _ _ hq S')
  ·cases hc
 |seq x y ihx ihy =>
  intro blk dc hc F n B M0 w0 hG hF hd hgh hnr hka DQ t h hw M ρ a w S Q hQ
  simp only [cCode] at hc
  split at hc
  ·rename_i dx dy hx hy
   simp only [Option.some.injEq] at hc;subst hc
   simp only [keepsAll,Bool.and_eq_true] at hka
   refine wpIn_seq (ihx blk dx hx hG hF hd hgh (hnr.imp id fun e=>(Bool.and_eq_true_iff.1 e).1) hka.1 hw S ?_)
   intro e t' h' M' ρ' a' w' hq S'
   cases e with
   |normal=>exact ihy blk dy hy hG hF hd hgh (hnr.imp id fun e=>(Bool.and_eq_true_iff.1 e).2) hka.2 hq S' hQ
   |exit i=>exact hQ (.exit i) _ _ _ _ _ _ hq S'
   |ret=>exact hQ .ret _ _ _ _ _ _ hq S'
  ·cases hc
 |cond cnd x y ihx ihy =>
  intro blk dc hc F n B M0 w0 hG hF hd hgh hnr hka DQ t h hw M ρ a w S Q hQ
  simp only [cCode] at hc
  split at hc
  ·rename_i dx dy hx hy
   simp only [Option.some.injEq] at hc;subst hc
   unfold dwp at hw
   split at hw
   ·rename_i v hv
    have hrel:=S.opd hG cnd
    rw [hv] at hrel
    simp only [keepsAll,Bool.and_eq_true] at hka
    exact wpIn_cond_split hrel.inv_bool (fun e=>ihx blk dx hx hG hF hd hgh (hnr.imp id fun e=>(Bool.and_eq_true_iff.1 e).1) hka.1 (hw.1 e) S hQ) (fun e=>ihy blk dy hy hG hF hd hgh (hnr.imp id fun e=>(Bool.and_eq_true_iff.1 e).2) hka.2 (hw.2 e) S hQ)
   ·rename_i hv
    have hrel:=S.opd hG cnd
    rw [hv] at hrel
    obtain ⟨b,hb⟩:=hrel.inv_abool
    simp only [keepsAll,Bool.and_eq_true] at hka
    exact wpIn_cond_split hb (fun e=>ihx blk dx hx hG hF hd hgh (hnr.imp id fun e=>(Bool.and_eq_true_iff.1 e).1) hka.1 hw.1 S hQ) (fun e=>ihy blk dy hy hG hF hd hgh (hnr.imp id fun e=>(Bool.and_eq_true_iff.1 e).2) hka.2 hw.2 S hQ)
   ·exact hw.elim
  ·cases hc
 |block id x ih =>
  intro blk dc hc F n B M0 w0 hG hF hd hgh hnr hka DQ t h hw M ρ a w S Q hQ
  simp only [cCode] at hc
  split at hc
  ·rename_i dx hx
   simp only [Option.some.injEq] at hc;subst hc
   simp only [keepsAll,Bool.and_eq_true] at hka
   have hkk:∀ k',assoc ann.blocks id=some k'→∀ n o,hlook B.h0 n=some o→n ∈ k'.kh:=fun k' e=>by
    have h1:=hka.1;rw [e] at h1;exact keeps_kh h1
   refine wpIn_block (ih id dx hx hG hF hd hgh hnr hka.2 hw S ?_)
   intro e t' h' M' ρ' a' w' hq S'
   cases e with
   |normal =>
    obtain ⟨M2,t2,h2,S2,hq2⟩:=S'.keepK hkk hq
    exact hQ .normal _ _ _ _ _ _ hq2 S2
   |exit i =>
    simp only [blockQ] at hq
    show (if i=id then Q .normal a' w' else Q (.exit i) a' w')
    rw [natbeq] at hq
    by_cases e:i=id
    ·rw [if_pos e]
     simp only [e,decide_true,cond_true] at hq
     obtain ⟨M2,t2,h2,S2,hq2⟩:=S'.keepK hkk hq
     exact hQ .normal _ _ _ _ _ _ hq2 S2
    ·rw [if_neg e]
     simp only [e,decide_false,cond_false] at hq
     exact hQ (.exit i) _ _ _ _ _ _ hq S'
   |ret=>exact hQ .ret _ _ _ _ _ _ hq S'
  ·cases hc
 |loop x ih =>
  intro blk dc hc F n B M0 w0 hG hF hd hgh hnr hka DQ t h hw M ρ a w S Q hQ
  simp only [cCode] at hc
  split at hc
  ·rename_i dx hx
   simp only [Option.some.injEq] at hc;subst hc
   simp only [keepsAll,Bool.and_eq_true] at hka
   have hkk:=keeps_kh hka.1
   unfold dwp loopWp at hw
   obtain ⟨ρ1,t1,h1,S1,hbx,m,hw⟩:=S.enterK hw
   obtain ⟨M2,S2⟩:=S1.keep _ ((assoc ann.loops blk).getD default).kt hkk hbx
   refine wpIn_loop_rounds m ?_
   have key:∀ (m:Nat) (t:Tmps) (h:Heap) (M:Mem) (ρ:Locs) (a:Act) (w:World),loopN (dwp P G dx) ((assoc ann.loops blk).getD default) DQ m t h→Sim B nt M0 w0 M ρ t h a w→x.roundsIn F n P Q m a w:=by
    intro m
    induction m with
    |zero=>intro t h M ρ a w hw _;exact hw.elim
    |succ m ihm =>
     intro t h M ρ a w hw S
     rw [roundsIn_succ]
     refine ih blk dx hx hG hF hd hgh hnr hka.2 hw S ?_
     intro e t' h' M' ρ' a' w' hq S'
     cases e with
     |normal =>
      obtain ⟨M3,S3⟩:=S'.keep _ ((assoc ann.loops blk).getD default).kt hkk hq.1
      exact ihm _ _ M3 ρ' a' w' hq.2 S3
     |exit i=>exact hQ (.exit i) _ _ _ _ _ _ hq S'
     |ret=>exact hQ .ret _ _ _ _ _ _ hq S'
   exact key m _ _ M2 ρ1 a w hw S2
  ·cases hc
 |exit id =>
  intro blk dc hc F n B M0 w0 hG hF hd hgh hnr hka DQ t h hw M ρ a w S Q hQ
  simp only [cCode,Option.some.injEq] at hc;subst hc
  exact wpIn_exit (hQ (.exit id) _ _ _ _ _ _ hw S)
 |ret =>
  intro blk dc hc F n B M0 w0 hG hF hd hgh hnr hka DQ t h hw M ρ a w S Q hQ
  simp only [cCode,Option.some.injEq] at hc;subst hc
  exact wpIn_ret (hQ .ret _ _ _ _ _ _ hw S)
 |rangeFunc f ps x y ihx ihy =>
  intro blk dc hc F n B M0 w0 hG hF hd hgh hnr hka DQ t h hw M ρ a w S Q hQ
  simp only [cCode] at hc
  split at hc
  ·rename_i dx dy hx hy
   obtain ⟨c1,hc⟩:=cond_some hc
   simp only [Option.some.injEq] at hc;subst hc
   simp only [Bool.and_eq_true] at c1
   obtain ⟨⟨⟨kx,ky⟩,nx,ny⟩,cp⟩:=c1
   simp only [keepsAll,Bool.and_eq_true] at hka
   rcases hnr with ⟨hro,hnd⟩|hnr
   ·refine range_run hG hF hd hro hnd hgh (x:=x) (y:=y) (dx:=dx) (dy:=dy) (fun {F n B M0 w0}=>ihx blk dx hx) (fun {F n B M0 w0}=>ihy blk dy hy) nx ny (keeps_kh hka.1) kx ky (fun p hp=>Nat.le_of_ble_eq_true (List.all_eq_true.1 cp p hp)) ?_ S hQ
    unfold dwp at hw;exact hw
   ·simp [noRange] at hnr
  ·cases hc
 |scope x ih =>
  intro blk dc hc F n B M0 w0 hG hF hd hgh hnr hka DQ t h hw M ρ a w S Q hQ
  simp only [cCode] at hc
  refine wpIn_scope_plain (ih blk dc hc hG hF hd hgh hnr hka hw S ?_)
  intro e t' h' M' ρ' a' w' hq S'
  cases e with
  |normal=>exact hQ .normal _ _ _ _ _ _ hq S'
  |exit i=>exact hQ (.exit i) _ _ _ _ _ _ hq S'
  |ret=>exact hQ .ret _ _ _ _ _ _ hq S'
 |label l =>
  intro blk dc hc F n B M0 w0 hG hF hd hgh hnr hka DQ t h hw M ρ a w S Q hQ
  simp only [cCode,Option.some.injEq] at hc;subst hc
  exact wpIn_label (hQ .normal _ _ _ _ _ _ hw S)
 |_=>intro blk dc hc;simp [cCode] at hc
theorem code_run (hG:GOk G M0) (hF:OpenB G F B w0) (hd:F.depth=none) (hmo:P.follows .mixedOrders=true) {ann:Ann} (c:Code) (blk:Nat) (dc:DC) (hc:cCode P ann nt blk c=some dc) (hka:keepsAll (B.h0.map (·.1)) dc=true)
  {DQ:DExit→SP} {t:Tmps} {h:Heap} (hw:dwp P G dc DQ t h) {M:Mem} {ρ:Locs} {a:Act} {w:World} (S:Sim B nt M0 w0 M ρ t h a w) {Q:Exit→Act→World→Prop} (hQ:ReadsQ B nt M0 w0 DQ Q) (hro:F.round=none) (hgh:B.gh=false:=by rfl) (hnd:B.nd=false:=by rfl):c.wpIn F n P Q a w :=
 code_runA hmo c blk dc hc hG hF hd hgh (.inl ⟨hro,hnd⟩) hka hw S hQ
theorem keepsAll_nil:∀ c:DC,keepsAll [] c=true
 |.seq a b=>by simp [keepsAll,keepsAll_nil a,keepsAll_nil b]
 |.cond _ a b=>by simp [keepsAll,keepsAll_nil a,keepsAll_nil b]
 |.block _ k a=>by cases k<;>simp [keepsAll,keepsAll_nil a]
 |.loop _ b=>by simp [keepsAll,keepsAll_nil b]
 |.skip=>rfl
 |.ops _ _=>rfl
 |.exit _=>rfl
 |.ret=>rfl
 |.rangeF _ _ _ a b=>by simp [keepsAll,keepsAll_nil a,keepsAll_nil b]
theorem Sim.leave {fn:Func} {R:Ending→World→Prop}:∀ {a:Act} {w:World},Sim B nt M0 w0 M ρ t h a w →
  (∀ (a':Act) (w':World),a'.tmps=a.tmps→Sim B nt M0 w0 M ρ t h a' w'→∃ v,(results fn a'.tmps).run P w'=.ok v w'∧R (.returned v) w')→LeavesInM F n P fn a.tmps R a.defers .returning w:=by
 intro a w
 generalize hds:a.defers=ds
 induction ds generalizing a w with
 |nil=>intro S hR;exact hR a w rfl S
 |cons d ds ih =>
  intro S hR
  obtain ⟨m1,m2,m0⟩:=S.marks
  rw [hds] at m1 m2 m0
  obtain ⟨D,rfl,h1,h2⟩:=m1 d (by simp)
  obtain ⟨m3,m4⟩:=List.pairwise_cons.1 m2
  refine ⟨by simp,.inl ⟨D,w.putObj D (.deferred none),rfl,run_takeDeferred h2,?_⟩⟩
  have S':Sim B nt M0 w0 M ρ t h { a with defers:=ds } (w.putObj D (.deferred none)):=by
   refine S.other rfl (putObj_other h2 rfl) (fun n o b c hn ho hρ=>World.putObj_heap_other (fun e=>by subst e;exact S.map_block hn ho hρ _ h2)) ⟨fun d hd=>?_,m4,fun e=>absurd (m0 e) (by simp)⟩ ?_
   ·obtain ⟨D',e1,e2,e3⟩:=m1 d (by simp [hd])
    refine ⟨D',e1,e2,?_⟩
    have hne:D'≠D:=fun e=>m3 d hd (by rw [e1,e])
    rw [World.putObj_heap_other hne];exact e3
   ·refine S.below.trans ⟨rfl,rfl,rfl,by simp,fun k hk=>World.putObj_heap_other (fun e=>hk (.inl (by rw [e];exact h1)))⟩
  exact @ih { a with defers:=ds } _ rfl S' (fun a' w' ha S''=>hR a' w' ha S'')
def resSem (tmps:Array Value):ResultVar→Sem Value
 |.tmp t=>pure (tmps.getD t undef)
 |.cell a t=>do loadVar t (← asAddr (tmps.getD a undef))
theorem results_eq (fn:Func) (tmps:Array Value):results fn tmps=(do let vs ← fn.results.mapM (resSem tmps);pure (if h:vs.size=1 then vs[0] else .tuple vs)):=by
 unfold results
 congr 1
theorem res_run (hG:GOk G M0) (S:Sim B nt M0 w0 M ρ t h a w) {r:ResultVar} {l:List DRes} (hr:resultsOf P [r]=some l) {ds:List DV} (hv:resVals (hlook h) t l=some ds) :
  ∃ d v,ds=[d]∧(resSem a.tmps r).run P w=.ok v w∧RelV M ρ h d v:=by
 cases r with
 |tmp i =>
  simp only [resultsOf,Option.some.injEq] at hr;subst hr
  simp only [resVals,resVal,Option.some.injEq] at hv;subst hv
  exact ⟨_,_,rfl,rfl,S.tm i⟩
 |cell x ty =>
  simp only [resultsOf] at hr
  split at hr
  ·rename_i sz agg l' hel hl'
   simp only [Option.some.injEq] at hl' hr;subst hl';subst hr
   obtain ⟨e1,e2,e3,e4,e5⟩:=elemT_spec hel
   simp only [resVals,resVal] at hv
   split at hv
   ·rename_i d ds' hd hds
    simp only [Option.some.injEq] at hds hv;subst hds;subst hv
    split at hd
    ·rename_i n off hx
     split at hd
     ·rename_i szb d0 hl
      have r1:=S.tm x;rw [hx] at r1
      obtain ⟨sz',b,c,d',q1,q2,q3⟩:=r1.inv_bptr
      obtain ⟨cs,ty',e6,e7,e8,e9,e10⟩:=box_cells hG S (.inl hl) q3
      cases agg with
      |false =>
       simp only [cond_false] at hd
       obtain ⟨c1,hd⟩:=cond_some hd
       simp only [Option.some.injEq] at hd;subst hd
       simp only [Bool.and_eq_true] at c1
       have h0:=Nat.eq_of_beq_eq_true c1.1;subst h0
       have h1:0 < szb:=Nat.le_of_ble_eq_true c1.2
       have:=e4 rfl;subst this
       refine ⟨_,cs.getD 0 Go.undef,rfl,?_,(e10 0 h1).2⟩
       have:=loadVar_run1 (P:=P) hel (e10 0 h1).1
       simp only [resSem,q1,asAddr,Sem.run_bind,Sem.run_pure,Result.andThen_ok,this]
      |true =>
       simp only [cond_true] at hd
       obtain ⟨c1,hd⟩:=cond_some hd
       simp only [Option.some.injEq] at hd;subst hd
       simp only [Bool.and_eq_true] at c1
       have h0:=Nat.eq_of_beq_eq_true c1.1.1;subst h0
       have h1:=Nat.eq_of_beq_eq_true c1.1.2;subst h1
       refine ⟨_,.agg (gcells (fun j=>cs.getD (0+j) Go.undef) sz),rfl,?_,?_⟩
       ·have:=loadVar_run (P:=P) hel (b:=b) (o:=0) (g:=fun j=>cs.getD (0+j) Go.undef) (w:=w) (fun j hj=>(e10 (0+j) (by omega)).1)
        simp only [resSem,q1,asAddr,Sem.run_bind,Sem.run_pure,Result.andThen_ok,this,cond_true]
       ·rw [← whole_agg hG S c1.2 e8]
        refine .agg _ _ (by rw [gcells_size];simp;omega) (fun i hi=>?_)
        have hi':i < sz:=by simp at hi;omega
        rw [gcells_getD _ hi',take_drop_getD _ _ _ _ _ hi']
        exact (e10 (0+i) (by omega)).2
     ·cases hd
    ·cases hd
   ·cases hv
  ·cases hr
theorem resultsOf_cons {r:ResultVar} {l:List ResultVar} {rs:List DRes} (h:resultsOf P (r :: l)=some rs):∃ x rs',rs=x :: rs'∧resultsOf P [r]=some [x]∧resultsOf P l=some rs':=by
 cases r with
 |tmp i =>
  simp only [resultsOf] at h ⊢
  split at h
  ·rename_i l' hl;simp only [Option.some.injEq] at h;subst h;exact ⟨_,_,rfl,rfl,hl⟩
  ·cases h
 |cell x ty =>
  simp only [resultsOf] at h ⊢
  split at h
  ·rename_i sz agg l' he hl;simp only [Option.some.injEq] at h;subst h;exact ⟨_,_,rfl,by rw [he],hl⟩
  ·cases h
theorem resultsOf_run (hG:GOk G M0) (S:Sim B nt M0 w0 M ρ t h a w):∀ (l:List ResultVar) (rs:List DRes),resultsOf P l=some rs→∀ ds,resVals (hlook h) t rs=some ds →
  ∃ vs:List Value,(l.mapM (resSem a.tmps)).run P w=.ok vs w∧ds.length=vs.length∧l.length=vs.length∧∀ i,i < ds.length→RelV M ρ h (ds.getD i .undef) (vs.getD i Go.undef)
 |[],rs,hr,ds,hv=>by
  simp only [resultsOf,Option.some.injEq] at hr;subst hr
  simp only [resVals,Option.some.injEq] at hv;subst hv
  exact ⟨[],by simp,rfl,rfl,fun i hi=>by simp at hi⟩
 |r :: l,rs,hr,ds,hv=>by
  obtain ⟨x,rs',rfl,h1,h2⟩:=resultsOf_cons hr
  simp only [resVals] at hv
  split at hv
  ·rename_i d ds' hd hds
   simp only [Option.some.injEq] at hv;subst hv
   obtain ⟨d',v,e1,e2,e3⟩:=res_run hG S h1 (ds:=[d]) (by simp only [resVals,hd])
   simp only [List.cons.injEq,and_true] at e1;subst e1
   obtain ⟨vs,k1,k2,k3,k4⟩:=resultsOf_run hG S l rs' h2 ds' hds
   refine ⟨v :: vs,by simp [List.mapM_cons,e2,k1],by simp [k2],by simp [k3],fun i hi=>?_⟩
   cases i with
   |zero=>exact e3
   |succ i=>simpa using k4 i (by simpa using hi)
  ·cases hv
theorem pack_rel {M:Mem} {ds:List DV} {vs:List Value} (e1:ds.length=vs.length) (e2:∀ i,i < vs.length→RelP M (ds.getD i .undef) (vs.getD i Go.undef)) :
  RelP M (pack ds) (if h:vs.length=1 then vs[0]'(by omega) else .tuple vs.toArray):=by
 by_cases hl:vs.length=1
 ·rw [dif_pos hl]
  match ds,e1 with
  |[x],_ =>
   have:=e2 0 (by omega)
   simpa [pack,List.getD_eq_getElem?_getD,List.getElem?_eq_getElem (show 0 < vs.length by omega)] using this
  |[],e1=>simp at e1;omega
  |_ :: _ :: _,e1=>simp at e1;omega
 ·rw [dif_neg hl]
  have:pack ds=.tuple ds:=by
   match ds,e1 with
   |[x],e1=>simp at e1;omega
   |[],_=>rfl
   |_ :: _ :: _,_=>rfl
  rw [this]
  refine .tuple ds _ (by simp [e1]) (fun i hi=>?_)
  have:=e2 i (by omega)
  simpa [Array.getD_eq_getD_getElem?,List.getD_eq_getElem?_getD] using this
theorem packV_rel {ds:List DV} {vs:List Value} (e1:ds.length=vs.length) (e2:∀ i,i < vs.length→RelV M ρ h (ds.getD i .undef) (vs.getD i Go.undef)) :
  RelV M ρ h (pack ds) (if h:vs.length=1 then vs[0]'(by omega) else .tuple vs.toArray):=by
 by_cases hl:vs.length=1
 ·rw [dif_pos hl]
  match ds,e1 with
  |[x],_ =>
   have:=e2 0 (by omega)
   simpa [pack,List.getD_eq_getElem?_getD,List.getElem?_eq_getElem (show 0 < vs.length by omega)] using this
  |[],e1=>simp at e1;omega
  |_ :: _ :: _,e1=>simp at e1;omega
 ·rw [dif_neg hl]
  have:pack ds=.tuple ds:=by
   match ds,e1 with
   |[x],e1=>simp at e1;omega
   |[],_=>rfl
   |_ :: _ :: _,_=>rfl
  rw [this]
  refine .tuple ds _ (by simp [e1]) (fun i hi=>?_)
  have:=e2 i (by omega)
  simpa [Array.getD_eq_getD_getElem?,List.getD_eq_getElem?_getD] using this
theorem outs_run (hG:GOk G M0) {fn:Func} {rs:List DRes} (hrs:resultsOf P fn.results.toList=some rs) {d:DV} (S:Sim B nt M0 w0 M ρ t h a w) (ho:outs rs d t h) :
  ∃ v M',(results fn a.tmps).run P w=.ok v w∧M0.le M'∧M'.holds w∧RelP M' d v∧∀ b o v,M' b o=some v→M0 b o=none→B.wr b:=by
 unfold outs at ho
 split at ho
 ·exact ho.elim
 rename_i ds0 hv0
 obtain ⟨vs,hvs,hl1,hl2,hrel0⟩:=resultsOf_run hG S _ rs hrs ds0 hv0
 obtain ⟨M1,m1,S1,m2,m3,m4⟩:=S.freeze (namess ds0)
 have hrun:(results fn a.tmps).run P w=.ok (if h:vs.length=1 then vs[0]'(by omega) else .tuple vs.toArray) w:=by
  rw [results_eq]
  have h2:(fn.results.mapM (resSem a.tmps)).run P w=.ok vs.toArray w:=by
   rw [Array.mapM_eq_mapM_toList]
   simp [hvs]
  rw [Sem.run_bind,h2]
  by_cases hl:vs.length=1
  ·simp [hl]
  ·simp [hl]
 have hrel:∀ p ds,purs (hlook h) ds0=some (p,ds)→holds p→ds.length=vs.length∧∀ i,i < vs.length→RelP M1 (ds.getD i .undef) (vs.getD i Go.undef):=fun p ds hv hp=>by
  obtain ⟨e1,e2⟩:=purs_rel S1 (hlook h) ds0 (fun i=>vs.getD i Go.undef) p ds hv hp (fun i hi=>(hrel0 i hi).ext m3) (fun m hm sz es fr e=>by rw [m4 m sz es fr e];simp [hm]) (fun m hm sz d0 hl hp=>freeze_fbox hm hl hp)
  exact ⟨by omega,fun i hi=>e2 i (by omega)⟩
 refine ⟨_,M1,hrun,Mem.le_trans S.le m1,S1.mem,?_,S1.new⟩
 split at ho
 ·rename_i p ds hv
  obtain ⟨hp,ho⟩:=pre_holds ho
  rw [forceS_eq] at ho
  simp only [List.reverse_nil,List.nil_append] at ho
  subst ho
  obtain ⟨e1,e2⟩:=hrel p ds hv hp
  exact pack_rel e1 e2
 ·exact ho.elim
end
theorem tget_params:∀ (ds:List DV) (j i:Nat),tget (params ds j) i=if j≤i∧i < j+ds.length then ds.getD (i - j) .undef else .undef
 |[],j,i=>by
  simp only [params,List.length_nil]
  rw [if_neg (by omega)];rfl
 |d :: r,j,i=>by
  unfold params
  rw [tget_cons,tget_params r (j+1) i]
  by_cases e:j=i
  ·subst e;simp
  ·rw [if_neg e]
   by_cases h:j+1≤i∧i < j+1+r.length
   ·rw [if_pos h,if_pos (by simp only [List.length_cons];omega)]
    rw [show i - j=(i - (j+1))+1 by omega];simp
   ·rw [if_neg h,if_neg (by simp only [List.length_cons];omega)]
theorem pureCall_of {P:Program} {G:Nat→Option DV} {ann:Ann} {f:FuncId} {ds:List DV} {d:DV} {df:DFunc} (hc:cProg P ann f=some df) (hn:ds.length=df.nargs)
  (h:dwp P G df.body (retQ df.results d) (params ds 0) []):PureCall P G f ds d:=by
 unfold cProg at hc
 split at hc
 ·rename_i fn hfn
  unfold cFunc at hc
  split at hc
  ·rename_i c rs hb hrs
   split at hc
   ·rename_i dc hdc
    obtain ⟨c1,hc⟩:=cond_some hc
    simp only [Option.some.injEq] at hc;subst hc
    simp only [Bool.and_eq_true] at c1
    obtain ⟨⟨c1,c2⟩,c3⟩:=c1
    have c3:=Nat.le_of_ble_eq_true c3
    refine ⟨fun args w=>?_,fun F n hF hd hr M w vs hG hT hM hrel=>?_⟩
    ·unfold callFunc
     have hname:(fn.name == "runtime.NumGoroutine")=false:=by simpa using c2
     have hbody:fn.body.isNone=false:=by rw [hb];rfl
     have hname':fn.name ≠ "runtime.NumGoroutine":=by simpa using hname
     have hbody':fn.body≠none:=by rw [hb];simp
     simp [Sem.run_bind,hfn,hname',hbody']
    ·obtain ⟨r1,r2⟩:=hrel
     have hnt:vs.size≤fn.ntmps:=by simp only at hn;omega
     refine callsIn_of_wp_marks hfn hb (hF.fn f) (code_run (M0:=M) (w0:=w) (B:=Base.plain w.heap.size) (nt:=fn.ntmps) hG ⟨hF,hT.tb (fun k hk h=>by rcases h with h|h;exact absurd h (by simp only [Base.plain];omega);exact h.elim)⟩ hd c1 c 0 dc hdc (keepsAll_nil dc) h (M:=M) (ρ:=fun _=>none) ?_ ?_ hr) hr
     ·refine { le:=M.le_refl,tm:=fun i=>?_,mem:=hM,obj:=fun n o h=>(by simp [hlook] at h),dis:=fun n m o p b c b' c' _ h=>(by simp [hlook] at h),below:=Base.touch.refl _ _,hB:=rfl,new:=fun b o v e e0=>(by rw [e] at e0;cases e0),size:=(by simp;omega),marks:=⟨fun d hd=>(by simp at hd),.nil,fun _=>rfl⟩,ext:=Ext.refl _ _ _ }
      rw [tget_params]
      by_cases hi:i < ds.length
      ·rw [if_pos ⟨Nat.zero_le _,by omega⟩]
       have h1:(vs++Array.replicate (fn.ntmps - vs.size) undef).getD i Go.undef=vs.getD i Go.undef:=by
        simp [Array.getD_eq_getD_getElem?,Array.getElem?_append,show i < vs.size by omega]
       rw [h1];exact .pure (r2 i hi)
      ·rw [if_neg (by omega)];exact .pure (.undef _)
     ·have key:∀ (t:Tmps) (h:Heap) (M':Mem) (ρ:Locs) (a:Act) (w':World),outs rs d t h→Sim (Base.plain w.heap.size) fn.ntmps M w M' ρ t h a w'→LeavesInM F n P fn a.tmps (After M w d) a.defers .returning w':=by
       intro t h M' ρ a w' ho S
       refine S.leave (fun a' w' ht S'=>?_)
       obtain ⟨v,M2,q1,q2,q3,q4,q5⟩:=outs_run (P:=P) hG hrs S' ho
       exact ⟨v,q1,v,M2,rfl,q2,q3,q4,S'.below.below,fun b o v e e0=>by have:=q5 b o v e e0;simpa [Base.wr,Base.plain] using this⟩
      intro e t h M' ρ a w' hq S
      cases e with
      |normal=>exact key t h M' ρ a w' hq S
      |ret=>exact key t h M' ρ a w' hq S
      |exit i=>exact hq.elim
   ·cases hc
  ·cases hc
 ·cases hc
theorem cProg_spec {P:Program} {ann:Ann} {f:FuncId} {df:DFunc} (hc:cProg P ann f=some df):∃ fn c,P.funcs[f]?=some fn∧fn.body=some c∧resultsOf P fn.results.toList=some df.results∧cCode P ann fn.ntmps 0 c=some df.body ∧
  P.follows .mixedOrders=true∧Enters P f∧df.nargs≤fn.ntmps:=by
 unfold cProg at hc
 split at hc
 ·rename_i fn hfn
  unfold cFunc at hc
  split at hc
  ·rename_i c rs hb hrs
   split at hc
   ·rename_i dc hdc
    obtain ⟨c1,hc⟩:=cond_some hc
    simp only [Option.some.injEq] at hc;subst hc
    simp only [Bool.and_eq_true] at c1
    obtain ⟨⟨c1,c2⟩,c3⟩:=c1
    refine ⟨fn,c,hfn,hb,hrs,hdc,c1,fun args w=>?_,Nat.le_of_ble_eq_true c3⟩
    unfold callFunc
    have hname':fn.name ≠ "runtime.NumGoroutine":=by simpa using c2
    have hbody':fn.body≠none:=by rw [hb];simp
    simp [Sem.run_bind,hfn,hname',hbody']
   ·cases hc
  ·cases hc
 ·cases hc
theorem hCall_of {P:Program} {G:Nat→Option DV} {ann:Ann} {f:FuncId} {ds:List DV} {d:DV} {hs hs':Heap} {df:DFunc} (hc:cProg P ann f=some df) (hn:ds.length=df.nargs) (hk:keepsAll (hs.map (·.1)) df.body=true)
  (hsub:(hs.map (·.1)).all (fun n=>(hs'.map (·.1)).any (Nat.beq n))=true) (hw:dwp P G df.body (retH df.results d hs') (params ds 0) hs):HCall P G f ds hs d hs':=by
 obtain ⟨fn,c,hfn,hb,hrs,hdc,hmo,hen,hnt⟩:=cProg_spec hc
 refine ⟨hen,fun F n hF hd hr M ρ w vs hG hT hin hrel=>?_⟩
 obtain ⟨r1,r2⟩:=hrel
 have hsz:vs.size≤fn.ntmps:=by omega
 have hB0:∀ n o,hlook (callB w ρ hs).h0 n=some o→n ∈ hs'.map (·.1):=fun n o e=>by
  have h1:=List.all_eq_true.1 hsub n (List.mem_map.2 ⟨(n,o),mem_of_hlook e,rfl⟩)
  exact any_beq.1 h1
 refine callsIn_of_wp_marks hfn hb (hF.fn f) (code_run (M0:=M) (w0:=w) (B:=callB w ρ hs) (nt:=fn.ntmps) hG ⟨hF,hT⟩ hd hmo c 0 df.body hdc hk hw (M:=M) (ρ:=ρ) ?_ ?_ hr) hr
 ·refine { le:=M.le_refl,tm:=fun i=>?_,mem:=hin.mem,obj:=fun n o h=>(hin.obj n o h).base (fun b c e=>.inr ⟨n,o,c,h,e⟩) (fun h=>Bool.noConfusion h),dis:=hin.dis,below:=Base.touch.refl _ _,hB:=rfl,new:=fun b o v e e0=>(by rw [e] at e0;cases e0),size:=(by simp;omega),marks:=⟨fun d hd=>(by simp at hd),.nil,fun _=>rfl⟩,ext:=Ext.refl _ _ _ }
  rw [tget_params]
  by_cases hi:i < ds.length
  ·rw [if_pos ⟨Nat.zero_le _,by omega⟩]
   have h1:(vs++Array.replicate (fn.ntmps - vs.size) undef).getD i Go.undef=vs.getD i Go.undef:=by
    simp [Array.getD_eq_getD_getElem?,Array.getElem?_append,show i < vs.size by omega]
   rw [h1];exact r2 i hi
  ·rw [if_neg (by omega)];exact .pure (.undef _)
 ·have key:∀ (t:Tmps) (h:Heap) (M':Mem) (ρ':Locs) (a:Act) (w':World),outsH df.results d hs' t h→Sim (callB w ρ hs) fn.ntmps M w M' ρ' t h a w'→LeavesInM F n P fn a.tmps (HAfter M ρ w hs d hs') a.defers .returning w':=by
   intro t h M' ρ' a w' ho S
   refine S.leave (fun a' w' ht S'=>?_)
   unfold outsH at ho
   split at ho
   ·exact ho.elim
   ·rename_i ds0 hv0
    rw [keepHK_eq] at ho
    simp only [List.reverse_nil,List.nil_append,forceS_eq] at ho
    obtain ⟨hbx,hh,hd⟩:=ho
    obtain ⟨vs',hvs,hl1,hl2,hrel0⟩:=resultsOf_run hG S' _ df.results hrs ds0 hv0
    obtain ⟨M1,S1,hrel1,_⟩:=S'.keepR (hs'.map (·.1)) [] hB0 hbx
    rw [hh] at S1 hrel1
    have hrun:(results fn a'.tmps).run P w'=.ok (if h:vs'.length=1 then vs'[0]'(by omega) else .tuple vs'.toArray) w':=by
     rw [results_eq]
     have h2:(fn.results.mapM (resSem a'.tmps)).run P w'=.ok vs'.toArray w':=by
      rw [Array.mapM_eq_mapM_toList]
      simp [hvs]
     rw [Sem.run_bind,h2]
     by_cases hl:vs'.length=1
     ·simp [hl]
     ·simp [hl]
    refine ⟨_,hrun,_,M1,ρ',rfl,⟨S1.mem,fun n o e=>(S1.obj n o e).base (fun b c _=>wr_any b) (fun h=>Bool.noConfusion h),S1.dis⟩,S1.ext,?_,S1.below,S1.new,fun n o b c e1 e2=>loc_wr S1 e1 e2⟩
    rw [← hd]
    have e1:(ress (hs'.map (·.1)) (hlook h) ds0).length=vs'.length:=by rw [ress_length];omega
    refine packV_rel e1 (fun i hi=>?_)
    have h3:=hrel1 _ _ (hrel0 i (by omega))
    rw [ress_getD _ _ _ _ (by omega)];exact h3
  intro e t h M' ρ' a w' hq S
  cases e with
  |normal=>exact key t h M' ρ' a w' hq S
  |ret=>exact key t h M' ρ' a w' hq S
  |exit i=>exact hq.elim
end Sh

/- Plain lemmas for walks over the shadow semantics. -/
namespace Sh
open Go
theorem getD_enc {α:Type} (f:α→DV) (l:List α) (i:Nat) (d:α) (h:i < l.length):(l.map f).getD (Int.toNat (i:Int)) .undef=f (l.getD i d):=by
 simp [List.getD_eq_getElem?_getD,h]
def W (n:Int):Int:=IntKind.i64.wrap n
theorem W_def (n:Int):W n=if 9223372036854775808≤n % 18446744073709551616 then n % 18446744073709551616 - 18446744073709551616 else n % 18446744073709551616:=by
 unfold W IntKind.wrap
 simp [IntKind.bits,IntKind.signed]
theorem W_in {n:Int} (h1 : -9223372036854775808≤n) (h2:n≤9223372036854775807):W n=n:=by rw [W_def];split<;>omega
theorem wrap_W (a:Int):IntKind.i64.wrap a=W a:=rfl
end Sh

namespace Sh
open Go
def opsR (P:Program) (G:Nat→Option DV) (l:List DOper):List Nat→SP→SP :=
 List.rec (motive:=fun _=>List Nat→SP→SP) (fun _ Q t h=>Q t h)
  (fun o _ ih K Q t h=>match o.guard with
    |none=>stepWp P G o (ih K Q) t h
    |some (g,want)=>match tget t g with
     |.bool b=>onG (memB g K) b want (stepWp P G o (ih (g :: K) Q) ((g,.bool want) :: t) h) (putK o.dst (.tuple []) ((g,.bool (!want)) :: t) fun t'=>ih (g :: K) Q t' h)
     |.tuple []=>putK o.dst (.tuple []) t fun t'=>ih K Q t' h
     |_=>False) l
def forceN (l:List Nat):(List Nat→Prop)→Prop :=
 List.rec (motive:=fun _=>(List Nat→Prop)→Prop) (fun k=>k []) (fun n _ ih k=>ih fun r=>k (n :: r)) l
def forceSo {α:Type} (o:Option α) (k:Option α→Prop):Prop:=match o with
 |none=>k none
 |some a=>k (some a)
def forceFs (fs:List Foot) (k:List Foot→SP):SP:=fun t h=>match fs with
 |[]=>k [] t h
 |⟨bef,rd,wr,so⟩ :: r=>forceN rd fun rd=>forceN wr fun wr=>forceSo so fun so=>k (⟨bef,rd,wr,so⟩ :: r) t h
theorem forceN_eq:∀ (l:List Nat) (k:List Nat→Prop),forceN l k=k l
 |[],_=>rfl
 |n :: r,k=>forceN_eq r fun r=>k (n :: r)
theorem forceSo_eq {α:Type} (o:Option α) (k:Option α→Prop):forceSo o k=k o:=by cases o<;>rfl
theorem forceFs_eq (fs:List Foot) (k:List Foot→SP):forceFs fs k=k fs:=by
 funext t h
 match fs with
 |[]=>rfl
 |⟨bef,rd,wr,so⟩ :: r =>
  show forceN rd (fun rd=>forceN wr fun wr=>forceSo so fun so=>k (⟨bef,rd,wr,so⟩ :: r) t h)=_
  rw [forceN_eq,forceN_eq,forceSo_eq]
def drawR (P:Program) (G:Nat→Option DV) (l:List DOper):List Nat→List Foot→SP→SP :=
 List.rec (motive:=fun _=>List Nat→List Foot→SP→SP) (fun _ fs Q t h=>allFeet [] fs.reverse=true∧Q t h)
  (fun o _ ih K fs Q t h=>match o.guard with
    |none=>drawRun P G o fs (fun fs=>forceFs fs fun fs=>ih K fs Q) t h
    |some (g,want)=>match tget t g with
     |.bool b=>onG (memB g K) b want (drawRun P G o fs (fun fs=>forceFs fs fun fs=>ih (g :: K) fs Q) ((g,.bool want) :: t) h)
       (putK o.dst (.tuple []) ((g,.bool (!want)) :: t) fun t'=>ih (g :: K) (⟨o.bef,[],[],none⟩ :: fs) Q t' h)
     |.tuple []=>putK o.dst (.tuple []) t fun t'=>ih K (⟨o.bef,[],[],none⟩ :: fs) Q t' h
     |_=>False) l
def dwpR (P:Program) (G:Nat→Option DV) (d:DC):(DExit→SP)→SP :=
 DC.rec (motive:=fun _=>(DExit→SP)→SP) (fun Q t h=>Q .normal t h)
  (fun dr l Q t h=>match dr with
    |false=>opsR P G l [] (Q .normal) t h
    |true=>drawR P G l [] [] (Q .normal) t h)
  (fun _ _ ia ib Q t h=>ia (seqQ (ib Q) Q) t h)
  (fun c _ _ ia ib Q t h=>match evalOpd G t c with
    |.bool v=>(v=true→ia Q t h)∧(v=false→ib Q t h)
    |.abool=>ia Q t h∧ib Q t h
    |_=>False)
  (fun id k _ ia Q t h=>ia (blockQ id k Q) t h)
  (fun k _ ib Q t h=>loopWp ib k Q t h)
  (fun id Q t h=>Q (.exit id) t h)
  (fun Q t h=>Q .ret t h)
  (fun k f ps _ _ ia ib Q t h=>rangeWp P G (fun R=>ia (seqQ (ib R) (fun _ _ _=>False))) k ps Q (evalOpd G t f) t h) d
theorem opsR_eq (P:Program) (G:Nat→Option DV):∀ l:List DOper,opsR P G l=opsWp P G l
 |[]=>rfl
 |o :: r=>by
  have ih:=opsR_eq P G r
  funext K Q t h
  show (match o.guard with
   |none=>stepWp P G o (opsR P G r K Q) t h
   |some (g,want)=>match tget t g with
    |.bool b=>onG (memB g K) b want (stepWp P G o (opsR P G r (g :: K) Q) ((g,.bool want) :: t) h) (putK o.dst (.tuple []) ((g,.bool (!want)) :: t) fun t'=>opsR P G r (g :: K) Q t' h)
    |.tuple []=>putK o.dst (.tuple []) t fun t'=>opsR P G r K Q t' h
    |_=>False)=_
  rw [ih];rfl
theorem drawR_eq (P:Program) (G:Nat→Option DV):∀ l:List DOper,drawR P G l=drawWp P G l
 |[]=>rfl
 |o :: r=>by
  have ih:=drawR_eq P G r
  funext K fs Q t h
  show (match o.guard with
   |none=>drawRun P G o fs (fun fs=>forceFs fs fun fs=>drawR P G r K fs Q) t h
   |some (g,want)=>match tget t g with
    |.bool b=>onG (memB g K) b want (drawRun P G o fs (fun fs=>forceFs fs fun fs=>drawR P G r (g :: K) fs Q) ((g,.bool want) :: t) h)
      (putK o.dst (.tuple []) ((g,.bool (!want)) :: t) fun t'=>drawR P G r (g :: K) (⟨o.bef,[],[],none⟩ :: fs) Q t' h)
    |.tuple []=>putK o.dst (.tuple []) t fun t'=>drawR P G r K (⟨o.bef,[],[],none⟩ :: fs) Q t' h
    |_=>False)=_
  simp only [forceFs_eq,ih];rfl
theorem dwpR_eq (P:Program) (G:Nat→Option DV):∀ d:DC,dwpR P G d=dwp P G d
 |.skip=>rfl
 |.ops false l=>by
  funext Q t h
  show opsR P G l [] (Q .normal) t h=_
  rw [opsR_eq];rfl
 |.ops true l=>by
  funext Q t h
  show drawR P G l [] [] (Q .normal) t h=_
  rw [drawR_eq];rfl
 |.seq a b=>by
  funext Q t h
  show dwpR P G a (seqQ (dwpR P G b Q) Q) t h=_
  rw [dwpR_eq P G a,dwpR_eq P G b];rfl
 |.cond c a b=>by
  funext Q t h
  show (match evalOpd G t c with
   |.bool v=>(v=true→dwpR P G a Q t h)∧(v=false→dwpR P G b Q t h)
   |.abool=>dwpR P G a Q t h∧dwpR P G b Q t h
   |_=>False)=_
  rw [dwpR_eq P G a,dwpR_eq P G b];rfl
 |.block id k a=>by
  funext Q t h
  show dwpR P G a (blockQ id k Q) t h=_
  rw [dwpR_eq P G a];rfl
 |.loop k b=>by
  funext Q t h
  show loopWp (dwpR P G b) k Q t h=_
  rw [dwpR_eq P G b];rfl
 |.exit _=>rfl
 |.ret=>rfl
 |.rangeF k f ps x y=>by
  funext Q t h
  show rangeWp P G (fun R=>dwpR P G x (seqQ (dwpR P G y R) (fun _ _ _=>False))) k ps Q (evalOpd G t f) t h=_
  rw [dwpR_eq P G x,dwpR_eq P G y];rfl
theorem pureCall_ofR {P:Program} {G:Nat→Option DV} {ann:Ann} {f:FuncId} {ds:List DV} {d:DV} {df:DFunc} (hc:cProg P ann f=some df) (hn:ds.length=df.nargs)
  (h:dwpR P G df.body (retQ df.results d) (params ds 0) []):PureCall P G f ds d:=pureCall_of hc hn (by rw [← dwpR_eq];exact h)
theorem hCall_ofR {P:Program} {G:Nat→Option DV} {ann:Ann} {f:FuncId} {ds:List DV} {d:DV} {hs hs':Heap} {df:DFunc} (hc:cProg P ann f=some df) (hn:ds.length=df.nargs) (hk:keepsAll (hs.map (·.1)) df.body=true)
  (hsub:(hs.map (·.1)).all (fun n=>(hs'.map (·.1)).any (Nat.beq n))=true) (hw:dwpR P G df.body (retH df.results d hs') (params ds 0) hs):HCall P G f ds hs d hs' :=
 hCall_of hc hn hk hsub (by rw [← dwpR_eq];exact hw)
theorem dwp_loopR {P:Program} {G:Nat→Option DV} {α:Type} (T:α→Tmps) (H:α→Heap) (inv:α→Prop) (μ:α→Nat) {k:Keep} {b:DC} {Q:DExit→SP} {t:Tmps} {s:Heap} (a0:α)
  (h0:enterK k.cv t s fun t' h'=>boxesOk k.kh (hlook h') k.kh=true∧keepT k.kh (hlook h') t' k.kt=T a0∧keepH k.kh (hlook h') k.kh=H a0) (hi:inv a0)
  (step:∀ a,inv a→dwpR P G b (seqQ (fun t' h'=>∃ a',boxesOk k.kh (hlook h') k.kh=true∧keepT k.kh (hlook h') t' k.kt=T a'∧keepH k.kh (hlook h') k.kh=H a'∧inv a'∧μ a' < μ a) Q) (T a) (H a)) :
  loopWp (dwpR P G b) k Q t s:=by
 rw [dwpR_eq]
 exact dwp_loop T H inv μ a0 h0 hi fun a ha=>by rw [← dwpR_eq];exact step a ha
end Sh

namespace Sh
open Go
def opsY (P:Program) (G:Nat→Option DV) (l:List DOper):List Nat→SP→SP :=
 List.rec (motive:=fun _=>List Nat→SP→SP) (fun _ Q t h=>Q t h)
  (fun o _ ih K Q t h=>match o.guard with
    |none=>match evalOp (evalOpd G t) (hlook h) (o.dst.getD 0) o.op with
     |.yield 0 vs=>match hlook h 0 with
      |some (.ghost (x :: rest) true l)=>vs=x∧∀ b:Bool,putK o.dst (.bool b) t fun t'=>ih K Q t' ((0,.ghost rest b l) :: h)
      |_=>False
     |_=>stepWp P G o (ih K Q) t h
    |some (g,want)=>match tget t g with
     |.bool b=>onG (memB g K) b want (stepWp P G o (ih (g :: K) Q) ((g,.bool want) :: t) h) (putK o.dst (.tuple []) ((g,.bool (!want)) :: t) fun t'=>ih (g :: K) Q t' h)
     |.tuple []=>putK o.dst (.tuple []) t fun t'=>ih K Q t' h
     |_=>False) l
def dwpY (P:Program) (G:Nat→Option DV) (d:DC):(DExit→SP)→SP :=
 DC.rec (motive:=fun _=>(DExit→SP)→SP) (fun Q t h=>Q .normal t h)
  (fun dr l Q t h=>match dr with
    |false=>opsY P G l [] (Q .normal) t h
    |true=>drawR P G l [] [] (Q .normal) t h)
  (fun _ _ ia ib Q t h=>ia (seqQ (ib Q) Q) t h)
  (fun c _ _ ia ib Q t h=>match evalOpd G t c with
    |.bool v=>(v=true→ia Q t h)∧(v=false→ib Q t h)
    |.abool=>ia Q t h∧ib Q t h
    |_=>False)
  (fun id k _ ia Q t h=>ia (blockQ id k Q) t h)
  (fun k _ ib Q t h=>loopWp ib k Q t h)
  (fun id Q t h=>Q (.exit id) t h)
  (fun Q t h=>Q .ret t h)
  (fun _ _ _ _ _ _ _ _ _ _=>False) d
theorem opsY_clr (P:Program) (G:Nat→Option DV):∀ l:List DOper,opsY P G (l.map clrB)=opsY P G l
 |[]=>rfl
 |o :: r=>by
  have ih:=opsY_clr P G r
  funext K Q t h
  show (match o.guard with
   |none=>match evalOp (evalOpd G t) (hlook h) (o.dst.getD 0) o.op with
    |.yield 0 vs=>match hlook h 0 with
     |some (.ghost (x :: rest) true l)=>vs=x∧∀ b:Bool,putK o.dst (.bool b) t fun t'=>opsY P G (r.map clrB) K Q t' ((0,.ghost rest b l) :: h)
     |_=>False
    |_=>stepWp P G o (opsY P G (r.map clrB) K Q) t h
   |some (g,want)=>match tget t g with
    |.bool b=>onG (memB g K) b want (stepWp P G o (opsY P G (r.map clrB) (g :: K) Q) ((g,.bool want) :: t) h) (putK o.dst (.tuple []) ((g,.bool (!want)) :: t) fun t'=>opsY P G (r.map clrB) (g :: K) Q t' h)
    |.tuple []=>putK o.dst (.tuple []) t fun t'=>opsY P G (r.map clrB) K Q t' h
    |_=>False)=_
  rw [ih];rfl
inductive TreeY (P:Program) (G:Nat→Option DV):List DOper→Tmps→Heap→SP→Prop
 |nil {t:Tmps} {h:Heap} {Q:SP} (hq:Q t h):TreeY P G [] t h Q
 |step {o:DOper} {r:List DOper} {ft:Foot} {t t':Tmps} {h h':Heap} {Q:SP} (s:StepTo P G o ft t h t' h') (hr:TreeY P G r t' h' Q):TreeY P G (o :: r) t h Q
 |yld {o:DOper} {r:List DOper} {t:Tmps} {h:Heap} {Q:SP} {l:Nat} {x:List DV} {rest:List (List DV)} (hg:o.guard=none)
   (he:evalOp (evalOpd G t) (hlook h) (o.dst.getD 0) o.op=.yield 0 x) (hn:hlook h 0=some (.ghost (x :: rest) true l))
   (hr:∀ b:Bool,TreeY P G r (putO o.dst (.bool b) t) ((0,.ghost rest b l) :: h) Q):TreeY P G (o :: r) t h Q
theorem opsY_tree {P:Program} {G:Nat→Option DV}:∀ {l:List DOper} {K:List Nat} {Q:SP} {t:Tmps} {h:Heap},opsY P G l K Q t h→TreeY P G l t h Q
 |[],_,_,_,_,hs=>.nil hs
 |o :: r,K,Q,t,h,hs=>by
  have hs:(match o.guard with
   |none=>match evalOp (evalOpd G t) (hlook h) (o.dst.getD 0) o.op with
    |.yield 0 vs=>match hlook h 0 with
     |some (.ghost (x :: rest) true l)=>vs=x∧∀ b:Bool,putK o.dst (.bool b) t fun t'=>opsY P G r K Q t' ((0,.ghost rest b l) :: h)
     |_=>False
    |_=>stepWp P G o (opsY P G r K Q) t h
   |some (g,want)=>match tget t g with
    |.bool b=>onG (memB g K) b want (stepWp P G o (opsY P G r (g :: K) Q) ((g,.bool want) :: t) h) (putK o.dst (.tuple []) ((g,.bool (!want)) :: t) fun t'=>opsY P G r (g :: K) Q t' h)
    |.tuple []=>putK o.dst (.tuple []) t fun t'=>opsY P G r K Q t' h
    |_=>False):=hs
  split at hs
  ·rename_i hg
   split at hs
   ·rename_i vs he
    split at hs
    ·rename_i x rest l hn
     obtain ⟨rfl,hs⟩:=hs
     refine .yld hg he hn (fun b=>?_)
     have:=hs b
     rw [putK_eq] at this
     exact opsY_tree this
    ·exact hs.elim
   ·obtain ⟨ft,t1,h1,st,hs⟩:=drawRun_step (fun g want e=>by rw [hg] at e;cases e) (stepWp_draw hs)
    exact .step st (opsY_tree hs)
  ·rename_i g want hg
   split at hs
   ·rename_i b hb
    have hs:=onG_spec hs
    by_cases e:b=want
    ·have h1:=hs.1 e
     obtain ⟨ft,t1,h1,st,hs⟩:=drawRun_step (guarded_of hg) (stepWp_draw h1)
     exact .step (st.of_dup (by rw [hb,e])) (opsY_tree hs)
    ·have e':b=!want:=by cases b<;>cases want<;>simp_all
     have h1:=hs.2 e'
     rw [putK_eq] at h1
     exact .step (StepTo.skip hg (.inl (by rw [hb,e'])) (tget_dup (by rw [hb,e']))) (opsY_tree h1)
   ·rename_i hb
    rw [putK_eq] at hs
    exact .step (StepTo.skip hg (.inr hb) (fun _=>rfl)) (opsY_tree hs)
   ·exact hs.elim
def baseY (wy:World) (L:Nat→Prop)  (rest:List (List DV)) (live:Bool) (l:Nat):Base:=⟨wy.heap.size,L,fun _=>none,[(0,.ghost rest live l)],true,true⟩
def SG (nt:Nat) (w00:World) (l:Nat) (K0 C:Nat→Prop) (M00:Mem) (J:ProtoJ) (t:Tmps) (h:Heap) (a:Act) (w:World):Prop :=
 ∃ (wy:World) (L:Nat→Prop) (My M:Mem) (ρ:Locs) (rest:List (List DV)) (live:Bool) (K:Nat→Prop),
  Sim (baseY wy L rest live l) nt My wy M ρ t h a w∧J rest live K wy∧(∀ b,K b→b < wy.heap.size)∧(∀ b,L b→¬ K b∧(w00.heap.size≤b∨C b))∧(∀ b o v,My b o=some v→¬ K b) ∧
   (∀ b,K b→K0 b∨w00.heap.size≤b)∧(∀ b,K0 b→K b)∧Turns (fun b=>K0 b∨C b) w00 wy∧M00.le My∧(∀ x ∈ rest,flatBs x=true)
section
variable {P:Program} {G:Nat→Option DV} {nt:Nat} {w00:World} {l:Nat} {K0 C:Nat→Prop} {M00:Mem} {J:ProtoJ} {F:Fence} {n:Nat}
theorem sg_tb {wy:World} {L:Nat→Prop} {rest:List (List DV)} {live:Bool} {K:Nat→Prop} (hTb:Tb G w00 (fun b=>K0 b∨C b)) (hL:∀ b,L b→¬ K b∧(w00.heap.size≤b∨C b)) (hT:Turns (fun b=>K0 b∨C b) w00 wy):Tb G wy (baseY wy L rest live l).wr :=
 hTb.step hT.block hT.size (fun k hk h=>by
  rcases h with h|h
  ·exact absurd (show wy.heap.size≤k from h) (by have:=hT.size;omega)
  ·rcases (hL k h).2 with q|q
   ·omega
   ·exact .inr q)
theorem wr_notK {wy:World} {L:Nat→Prop} {rest:List (List DV)} {live:Bool} {K:Nat→Prop} (hK:∀ b,K b→b < wy.heap.size) (hL:∀ b,L b→¬ K b∧(w00.heap.size≤b∨C b)) (hsz:w00.heap.size≤wy.heap.size) {b:Nat}
  (h:(baseY wy L rest live l).wr b):¬ K b∧(w00.heap.size≤b∨C b):=by
 rcases h with h|h
 ·exact ⟨fun hk=>by have:=hK b hk;have h:wy.heap.size≤b:=h;omega,.inl (by have h:wy.heap.size≤b:=h;omega)⟩
 ·exact hL b h
theorem stays_of_touch {wy w:World} {L:Nat→Prop} {rest:List (List DV)} {live:Bool} {K:Nat→Prop} (hK:∀ b,K b→b < wy.heap.size) (hL:∀ b,L b→¬ K b∧(w00.heap.size≤b∨C b)) (hsz:w00.heap.size≤wy.heap.size)
  (h:(baseY wy L rest live l).touch wy w):Stays w00.heap.size C K wy w :=
 ⟨h.os,h.tape,h.output,h.size,fun b _ hb=>h.block b (fun hw=>by have:=wr_notK hK hL hsz hw;rcases hb with hb|hb;exact this.1 hb;rcases this.2 with q|q;omega;exact hb.2 q)⟩
theorem turns_now {wy w:World} {L:Nat→Prop} {rest:List (List DV)} {live:Bool} {K:Nat→Prop} (hK:∀ b,K b→b < wy.heap.size) (hL:∀ b,L b→¬ K b∧(w00.heap.size≤b∨C b)) (hT:Turns (fun b=>K0 b∨C b) w00 wy)
  (h:(baseY wy L rest live l).touch wy w):Turns (fun b=>K0 b∨C b) w00 w :=
 ⟨h.os.trans hT.os,h.tape.trans hT.tape,h.output.trans hT.output,Nat.le_trans hT.size h.size,fun b hb hk=>(h.block b (fun hw=>by have:=wr_notK hK hL hT.size hw;rcases this.2 with q|q;omega;exact hk (.inr q))).trans (hT.block b hb hk)⟩
theorem flatBs_relP {x:List DV} (hf:flatBs x=true) {M:Mem} {vs:Array Value} (h:RelPs M x vs):RelPs (fun _ _=>none) x vs :=
 ⟨h.1,fun i hi=>relP_flats x (fun i=>vs.getD i Go.undef) hf (fun i hi=>h.2 i hi) i hi⟩
theorem flatBs_get:∀ {ds:List DV},flatBs ds=true→∀ i,i < ds.length→flatB (ds.getD i .undef)=true
 |[],_,i,h=>absurd h (Nat.not_lt_zero i)
 |d :: r,hf,i,h=>by
  simp only [flatBs,Bool.and_eq_true] at hf
  cases i with
  |zero=>exact hf.1
  |succ i=>exact flatBs_get hf.2 i (by simpa using h)
theorem relV_flat {M:Mem} {ρ:Locs} {h:Heap} {d:DV} {v:Value} (r:RelV M ρ h d v):flatB d=true→RelP M d v:=by
 induction r with
 |pure hp=>exact fun _=>hp
 |agg ds vs hl _ ih=>exact fun hf=>.agg ds vs hl (fun i hi=>ih i hi (flatBs_get (by simpa [flatB] using hf) i hi))
 |tuple ds vs hl _ ih=>exact fun hf=>.tuple ds vs hl (fun i hi=>ih i hi (flatBs_get (by simpa [flatB] using hf) i hi))
 |func f ds vs hl _ ih=>exact fun hf=>.func f ds vs hl (fun i hi=>ih i hi (flatBs_get (by simpa [flatB] using hf) i hi))
 |meth f ds vs hl _ ih=>exact fun hf=>.meth f ds vs hl (fun i hi=>ih i hi (flatBs_get (by simpa [flatB] using hf) i hi))
 |_=>intro hf;simp [flatB] at hf
theorem RelV.ghost {M:Mem} {ρ:Locs} {h:Heap} {r0 r1:List (List DV)} {v0 v1:Bool} {l:Nat} (hn:hlook h 0=some (.ghost r0 v0 l)) {d:DV} {v:Value} (r:RelV M ρ h d v):RelV M ρ ((0,.ghost r1 v1 l) :: h) d v:=by
 have look:∀ {n o},hlook h n=some o→(∀ a b c,o≠.ghost a b c)→hlook ((0,DObj.ghost r1 v1 l) :: h) n=some o:=fun {n o} e hng=>by
  rw [hlook_cons]
  split
  ·rename_i e0;subst e0;rw [hn] at e;cases e;exact absurd rfl (hng _ _ _)
  ·exact e
 induction r with
 |pure hp=>exact .pure hp
 |agg ds vs hl _ ih=>exact .agg ds vs hl ih
 |tuple ds vs hl _ ih=>exact .tuple ds vs hl ih
 |func f ds vs hl _ ih=>exact .func f ds vs hl ih
 |meth f ds vs hl _ ih=>exact .meth f ds vs hl ih
 |own n off len tot sz es fr v hl ht hs hv=>exact .own n off len tot sz es fr v (look hl (fun _ _ _=>by simp)) ht hs hv
 |ptr n i off tot sz es fr v hl ht hi hs hv=>exact .ptr n i off tot sz es fr v (look hl (fun _ _ _=>by simp)) ht hi hs hv
 |bptr n off sz b c d hl hρ=>exact .bptr n off sz b c d (look hl (fun _ _ _=>by simp)) hρ
 |fptr n off sz b c d hl hρ=>exact .fptr n off sz b c d (look hl (fun _ _ _=>by simp)) hρ
 |dictv n b c es hl hρ=>exact .dictv n b c es (look hl (fun _ _ _=>by simp)) hρ
 |sitv n b c pos s hl hρ=>exact .sitv n b c pos s (look hl (fun _ _ _=>by simp)) hρ
 |yldv n l' rest live hl =>
  by_cases e:n=0
  ·subst e;rw [hn] at hl;cases hl
   exact .yldv 0 l r1 v1 (by rw [hlook_cons,if_pos rfl])
  ·exact .yldv n l' rest live (by rw [hlook_cons,if_neg (Ne.symm e)];exact hl)
theorem evalOp_yield {ev:Operand→DV} {lk:Nat→Option DObj} {n:Nat} {op:DOp} {k:Nat} {vs:List DV} (h:evalOp ev lk n op=.yield k vs) :
  ∃ fo args,op=.call fo args∧ev fo=.dict k∧vs=args.map ev:=by
 cases op with
 |call fo args =>
  simp only [evalOp] at h
  split at h
  ·cases h
  ·cases h
  ·rename_i m hm;cases h;exact ⟨fo,args,rfl,hm,rfl⟩
  ·cases h
 |bin op x y =>
  exfalso
  simp only [evalOp] at h
  split at h
  ·rename_i j a k b _ _
   generalize kindEq j k=q at h
   cases q<;>cases op<;>cases h
  ·cases op<;>cases h
  ·cases h
 |lit imm sz len z ps =>
  exfalso
  simp only [evalOp] at h
  split at h
  ·rename_i p es _
   revert h
   cases ps.all fun q=>okE sz (ev q.2)
   ·intro h;cases h
   ·cases imm
    ·simp only [cond_true,cond_false];split
     ·cases Nat.blt n 1000000<;>intro h<;>cases h
     ·intro h;cases h
    ·intro h;cases h
  ·cases h
 |_ =>
  exfalso
  simp only [evalOp] at h
  repeat' first
   |cases h
   |(rw [cond_eq_ite] at h)
   |split at h
theorem inv_yield {M:Mem} {ρ:Locs} {h:Heap} {n:Nat} {v:Value} (r:RelV M ρ h (.dict n) v) {rest:List (List DV)} {live:Bool} (hl:hlook h n=some (.ghost rest live l)):v=.func (.yield l) #[] #[]:=by
 cases r with
 |pure hp=>cases hp
 |dictv _ b c es hl' hρ=>rw [hl] at hl';cases hl'
 |sitv _ b c pos s hl' hρ=>rw [hl] at hl';cases hl'
 |yldv _ l' _ _ hl'=>rw [hl] at hl';cases hl';rfl
theorem yield_run {B:Base} {M0:Mem} {w0:World} {M:Mem} {ρ:Locs} {t:Tmps} {h:Heap} {a:Act} {w:World} {o:Oper} (hG:GOk G M0) (S:Sim B nt M0 w0 M ρ t h a w) {imm:Bool} {dop:DOp} (hc:cOp P imm o.op=some dop) {m:Nat} {x:List DV}
  (he:evalOp (evalOpd G t) (hlook h) m dop=.yield 0 x) {rest:List (List DV)} {live:Bool} (hn:hlook h 0=some (.ghost rest live l)) :
  ∃ args:Array Value,RelVs M ρ h x args∧∀ fn tmps assign body,(Instr.yield l args).run P w=.ok (.round l fn tmps assign body) w→(execOp a.eval o).run P w=.ok (.round l fn tmps assign body) w:=by
 obtain ⟨fo,args,rfl,e2,rfl⟩:=evalOp_yield he
 obtain ⟨c,ho,hcal,rfl⟩:=cOp_call hc
 have hr:=S.opd hG fo
 rw [e2] at hr
 have hv:=inv_yield hr hn
 refine ⟨c.args.map a.eval,⟨by simp,fun i hi=>?_⟩,fun fn tmps assign body hy=>?_⟩
 ·have hlt:i < c.args.size:=by simpa using hi
  have e1:(c.args.toList.map (evalOpd G t)).getD i .undef=evalOpd G t c.args[i]:=by
   simp [List.getD_eq_getElem?_getD,hlt]
  have e3:(c.args.map a.eval).getD i Go.undef=a.eval c.args[i]:=by
   simp [Array.getD_eq_getD_getElem?,hlt]
  rw [e1,e3];exact S.opd hG _
 ·simp only [execOp,ho,resolve,hcal,hv,Deferred.ofValue]
  simpa [invoke] using hy
theorem ghost_now {wy:World} {L:Nat→Prop} {My M:Mem} {ρ:Locs} {t:Tmps} {h:Heap} {a:Act} {w:World} {rest:List (List DV)} {live:Bool} (S:Sim (baseY wy L rest live l) nt My wy M ρ t h a w):hlook h 0=some (.ghost rest live l)∧ρ 0=none:=by
 obtain ⟨e1,o',e2,e3⟩:=S.ext.box 0 (.ghost rest live l) rfl rfl
 cases o' with
 |ghost r v l'=>obtain ⟨rfl,rfl,rfl⟩:=e3;exact ⟨e2,e1⟩
 |_=>exact e3.elim
theorem SG.after {wy:World} {L:Nat→Prop} {My M:Mem} {ρ:Locs} {t:Tmps} {h:Heap} {a:Act} {w W':World} {r0 rest:List (List DV)} {v0 live:Bool} {K K':Nat→Prop}
  (S:Sim (baseY wy L r0 v0 l) nt My wy M ρ t h a w) (hK:∀ b,K b→b < wy.heap.size) (hL:∀ b,L b→¬ K b∧(w00.heap.size≤b∨C b)) (hM:∀ b o v,My b o=some v→¬ K b)
  (hK0:∀ b,K b→K0 b∨w00.heap.size≤b) (hK0':∀ b,K0 b→K b) (hT:Turns (fun b=>K0 b∨C b) w00 wy) (hM0:M00.le My) (hfl:∀ x ∈ rest,flatBs x=true)
  (hJ:J rest live K' W') (k1:∀ k,K' k→K k∨w.heap.size≤k) (k2:∀ k,K k→K' k) (k3:∀ k,K' k→k < W'.heap.size) (k4:Turns K w W') :
  SG nt w00 l K0 C M00 J t ((0,.ghost rest live l) :: h) a W':=by
 obtain ⟨hn,hρ0⟩:=ghost_now S
 have hsz:wy.heap.size≤w.heap.size:=S.below.size
 have wr:∀ {b},(baseY wy L r0 v0 l).wr b→¬ K b∧(w00.heap.size≤b∨C b):=fun hb=>wr_notK hK hL hT.size hb
 have loc:∀ {n o b c},hlook h n=some o→ρ n=some (b,c)→¬ K b∧(w00.heap.size≤b∨C b)∧b < w.heap.size:=fun e1 e2=>⟨(wr (loc_wr S e1 e2)).1,(wr (loc_wr S e1 e2)).2,S.loc_lt e1 e2⟩
 have memK:∀ b o v,M b o=some v→¬ K b∧b < w.heap.size:=fun b o v e=>by
  refine ⟨?_,?_⟩
  ·cases e0:My b o with
   |none=>exact (wr (S.new b o v e e0)).1
   |some u=>exact hM b o u e0
  ·false_or_by_contra
   rename_i hlt
   have:=S.free_mem (b:=b) (by omega) o
   rw [this] at e;cases e
 have look:∀ {n o},hlook ((0,DObj.ghost rest live l) :: h) n=some o→n≠0→hlook h n=some o:=fun {n o} e hne=>by
  rw [hlook_cons,if_neg (Ne.symm hne)] at e;exact e
 have S':Sim (baseY W' (fun b=>∃ n o c,n≠0∧hlook h n=some o∧ρ n=some (b,c)) rest live l) nt M W' M ρ t ((0,.ghost rest live l) :: h) a W':=by
  refine { le:=M.le_refl,tm:=fun i=>(S.tm i).ghost hn,mem:=fun b o v e=>?_,obj:=fun n o e=>?_,dis:=fun n m o p b c b' c' hne e1 e2 e3 e4=>?_,below:=Base.touch.refl _ _,hB:=rfl,new:=fun b o v e e0=>(by rw [e] at e0;cases e0),size:=S.size,marks:=?_,ext:=?_ }
  ·obtain ⟨q1,q2⟩:=memK b o v e
   rw [World.cell?_of_block (w:=w) (w':=W') (a:=⟨b,o,none⟩) (k4.block b q2 q1)]
   exact S.mem b o v e
  ·by_cases hne:n=0
   ·subst hne
    rw [hlook_cons,if_pos rfl] at e;cases e
    exact ⟨hρ0,rfl⟩
   ·have e:=look e hne
    refine (S.obj n o e).moved (fun d v r=>r.ghost hn) (fun b c hb=>?_) (fun _=>rfl)
    obtain ⟨q1,_,q3⟩:=loc e hb
    exact ⟨.inr ⟨n,o,c,hne,e,hb⟩,k4.block b q3 q1⟩
  ·have hn0:n≠0:=fun e=>by subst e;rw [hρ0] at e3;cases e3
   have hm0:m≠0:=fun e=>by subst e;rw [hρ0] at e4;cases e4
   exact S.dis n m o p b c b' c' hne (look e1 hn0) (look e2 hm0) e3 e4
  ·have hd:=S.marks.2.2 rfl
   rw [hd]
   exact ⟨fun d hd=>by simp at hd,.nil,fun _=>rfl⟩
  ·refine ⟨M.le_refl,fun n sz es fr e=>?_,fun n o e hk=>?_⟩
   ·have e:hlook [(0,DObj.ghost rest live l)] n=some (.row sz es fr):=e
    rw [hlook_cons] at e;split at e<;>cases e
   ·have e:hlook [(0,DObj.ghost rest live l)] n=some o:=e
    rw [hlook_cons] at e
    split at e
    ·rename_i e0;subst e0;cases e
     exact ⟨hρ0,_,by rw [hlook_cons,if_pos rfl],like_refl rfl⟩
    ·cases e
 refine ⟨W',_,M,M,ρ,rest,live,K',S',hJ,k3,?_,?_,?_,fun b hb=>k2 b (hK0' b hb),?_,Mem.le_trans hM0 S.le,hfl⟩
 ·rintro b ⟨n,o,c,_,e1,e2⟩
  obtain ⟨q1,q2,q3⟩:=loc e1 e2
  refine ⟨fun hk=>?_,q2⟩
  rcases k1 b hk with hk|hk
  ·exact q1 hk
  ·omega
 ·intro b o v e hk
  obtain ⟨q1,q2⟩:=memK b o v e
  rcases k1 b hk with hk|hk
  ·exact q1 hk
  ·omega
 ·intro b hk
  rcases k1 b hk with hk|hk
  ·exact hK0 b hk
  ·have:=hT.size;exact .inr (by omega)
 ·have hT2:=turns_now hK hL hT S.below
  refine ⟨k4.os.trans hT2.os,k4.tape.trans hT2.tape,k4.output.trans hT2.output,Nat.le_trans hT2.size k4.size,fun b hb hk=>?_⟩
  refine (k4.block b (by have:=hT2.size;omega) (fun h1=>?_)).trans (hT2.block b hb hk)
  rcases hK0 b h1 with h2|h2
  ·exact hk (.inl h2)
  ·omega
theorem tree_run (hG:GOk G M00) (hF:OpenF F) (hTb:Tb G w00 (fun b=>K0 b∨C b)) (hd:F.depth=none) (pr:Proto F P w00.heap.size C l J) {ops:Array Oper} {Q:Exit→Act→World→Prop} {DQ:SP} {dl:List DOper} {t:Tmps} {h:Heap} (T:TreeY P G dl t h DQ) :
  ∀ (i:Nat),(∀ k dop,dl[k]?=some dop→∃ o,ops[i+k]?=some o∧OperOk P nt ops o dop)→∀ {a:Act} {w:World},SG nt w00 l K0 C M00 J t h a w →
   (∀ t' h' a' w',DQ t' h'→SG nt w00 l K0 C M00 J t' h' a' w'→Q .normal a' w')→wpOpsIn F n P ops Q (List.range' i dl.length) a w:=by
 induction T with
 |nil hq=>intro i _ a w S hQ;exact hQ _ _ _ _ hq S
 |step st hr ih =>
  rename_i o r ft t t' h h' DQ
  intro i hok a w S hQ
  rw [List.length_cons,List.range'_succ,wpOpsIn_cons]
  obtain ⟨om,ho,ok⟩:=hok 0 o rfl
  obtain ⟨_,⟨d,ns,u,hs,e1,e2,_⟩,_⟩:=st
  obtain ⟨wy,L,My,M,ρ,rest,live,K,S,hJ,hK,hL,hM,hK0,hK0',hT,hM0,hfl⟩:=S
  refine step_run (hG.mono hM0) ⟨hF,sg_tb hTb hL hT⟩ hd ok ho S hs (fun M' ρ' a' w' S'=>?_)
  refine ih (i+1) (fun k dop hk=>?_) ⟨wy,L,My,M',ρ',rest,live,K,S'.congr e1 e2,hJ,hK,hL,hM,hK0,hK0',hT,hM0,hfl⟩ hQ
  obtain ⟨om',ho',ok'⟩:=hok (k+1) dop (by simpa using hk)
  exact ⟨om',by rw [show i+1+k=i+(k+1) by omega];exact ho',ok'⟩
 |yld hg he hn hr ih =>
  rename_i o r t h DQ l' x rest'
  intro i hok a w S hQ
  rw [List.length_cons,List.range'_succ,wpOpsIn_cons]
  obtain ⟨om,ho,ok⟩:=hok 0 o rfl
  obtain ⟨wy,L,My,M,ρ,rest,live,K,S,hJ,hK,hL,hM,hK0,hK0',hT,hM0,hfl⟩:=S
  obtain ⟨hnow,_⟩:=ghost_now S
  rw [hn] at hnow
  cases hnow
  obtain ⟨imm,hc⟩:∃ imm,cOp P imm om.op=some o.op:=by
   rcases ok.op with h|hc2
   ·exact h
   ·obtain ⟨_,s,x,_,_,_,_,sz,_,_,hdop,_⟩:=cEmp_spec hc2
    obtain ⟨_,_,e2,_⟩:=evalOp_yield he
    rw [hdop] at e2;cases e2
  obtain ⟨args,hargs,hrun⟩:=yield_run (hG.mono hM0) S hc he hn
  have hx:flatBs x=true:=hfl x (List.mem_cons_self ..)
  have hrel:RelPs (fun _ _=>none) x args :=
   flatBs_relP hx (M:=M) ⟨hargs.1,fun i hi=>relV_flat (hargs.2 i hi) (flatBs_get hx i hi)⟩
  have hJw:J (x :: rest') true K w:=pr.stays _ _ _ _ _ hJ (stays_of_touch hK hL hT.size S.below)
  have hKw:∀ b,K b→b < w.heap.size:=fun b hb=>Nat.lt_of_lt_of_le (hK b hb) S.below.size
  obtain ⟨fn,tmps,assign,body,hy,hround⟩:=pr.round x rest' K w args (n - 1) hJw hKw hrel
  unfold wpOpIn
  rw [show ops[i]?=some om from ho]
  simp only
  obtain ⟨hw1,_⟩:=wanted_iff ok S
  rw [if_pos (hw1 (fun g want e=>by rw [hg] at e;cases e))]
  refine ⟨fun f _=>hF.fn f,?_⟩
  rw [Oper.semAt_eq _ _ _ (cOp_defer hc),hrun _ _ _ _ hy,Oper.uponIn_round]
  refine ⟨fun h=>by rw [hd] at h;simp at h,hround.mono (fun e W' hR=>?_)⟩
  obtain ⟨b,K',rfl,j1,j2,j3,j4,j5⟩:=hR
  have SG1:=SG.after S hK hL hM hK0 hK0' hT hM0 (fun y hy=>hfl y (List.mem_cons_of_mem _ hy)) j1 j2 j3 j4 j5
  obtain ⟨wy',L',My',M',ρ',rest2,live2,K2,S2,rr⟩:=SG1
  refine ih b (i+1) (fun k dop hk=>?_) ⟨wy',L',My',M',ρ',rest2,live2,K2,?_,rr⟩ hQ
  ·obtain ⟨om',ho',ok'⟩:=hok (k+1) dop (by simpa using hk)
   exact ⟨om',by rw [show i+1+k=i+(k+1) by omega];exact ho',ok'⟩
  ·rw [ok.dst]
   exact S2.put (fun k hk=>ok.lt k hk) (.pure (.bool b))
theorem kh0 {kh:List Nat} (hk:([0]:List Nat).all (memB · kh)=true) {wy:World} {L:Nat→Prop} {rest:List (List DV)} {live:Bool}:∀ n o,hlook (baseY wy L rest live l).h0 n=some o→n ∈ kh:=fun n o e=>by
 have e:hlook [(0,DObj.ghost rest live l)] n=some o:=e
 rw [hlook_cons] at e
 split at e
 ·rename_i e0;subst e0
  exact (memB_iff 0 kh).1 (by simpa using hk)
 ·cases e
theorem SG.keep {t:Tmps} {h:Heap} {a:Act} {w:World} (S:SG nt w00 l K0 C M00 J t h a w) (kh kt:List Nat) (hk:([0]:List Nat).all (memB · kh)=true) (hbx:boxesOk kh (hlook h) kh=true) :
  SG nt w00 l K0 C M00 J (keepT kh (hlook h) t kt) (keepH kh (hlook h) kh) a w:=by
 obtain ⟨wy,L,My,M,ρ,rest,live,K,S,rr⟩:=S
 obtain ⟨M',S'⟩:=S.keep kh kt (kh0 hk) hbx
 exact ⟨wy,L,My,M',ρ,rest,live,K,S',rr⟩
theorem SG.keepK {t:Tmps} {h:Heap} {a:Act} {w:World} {k:Option Keep} {N:SP} (S:SG nt w00 l K0 C M00 J t h a w) (hk:∀ k',k=some k'→([0]:List Nat).all (memB · k'.kh)=true) (hq:Sh.keepK k t h N) :
  ∃ t' h',SG nt w00 l K0 C M00 J t' h' a w∧N t' h':=by
 obtain ⟨wy,L,My,M,ρ,rest,live,K,S,rr⟩:=S
 obtain ⟨M',t',h',S',hn⟩:=S.keepK (fun k' e=>kh0 (hk k' e)) hq
 exact ⟨t',h',⟨wy,L,My,M',ρ,rest,live,K,S',rr⟩,hn⟩
theorem SG.enterK {t:Tmps} {h:Heap} {a:Act} {w:World} {ns:List (Nat×Nat)} {N:SP} (S:SG nt w00 l K0 C M00 J t h a w) (hq:Sh.enterK ns t h N):∃ t' h',SG nt w00 l K0 C M00 J t' h' a w∧N t' h':=by
 obtain ⟨wy,L,My,M,ρ,rest,live,K,S,rr⟩:=S
 obtain ⟨ρ',t',h',S',hn⟩:=S.enterK hq
 exact ⟨t',h',⟨wy,L,My,M,ρ',rest,live,K,S',rr⟩,hn⟩
theorem codeY_run (hG:GOk G M00) (hF:OpenF F) (hTb:Tb G w00 (fun b=>K0 b∨C b)) (hd:F.depth=none) (hmo:P.follows .mixedOrders=true) (pr:Proto F P w00.heap.size C l J) {ann:Ann} :
  ∀ (c:Code) (blk:Nat) (dc:DC),cCode P ann nt blk c=some dc→keepsAll [0] dc=true→∀ {DQ:DExit→SP} {t:Tmps} {h:Heap},dwpY P G dc DQ t h→∀ {a:Act} {w:World},SG nt w00 l K0 C M00 J t h a w →
   ∀ {Q:Exit→Act→World→Prop},(∀ e t h a w,DQ e t h→SG nt w00 l K0 C M00 J t h a w→Q e.toExit a w)→c.wpIn F n P Q a w:=by
 intro c
 induction c with
 |skip =>
  intro blk dc hc hka DQ t h hw a w S Q hQ
  simp only [cCode,Option.some.injEq] at hc;subst hc
  exact wpIn_skip (hQ .normal _ _ _ _ hw S)
 |region id ops draw =>
  intro blk dc hc hka DQ t h hw a w S Q hQ
  simp only [cCode] at hc
  split at hc
  ·rename_i l0 hl
   obtain ⟨c1,hc⟩:=cond_some hc
   simp only [Option.some.injEq] at hc;subst hc
   cases draw with
   |false =>
    have hw:opsY P G (l0.map clrB) [] (DQ .normal) t h:=hw
    rw [opsY_clr] at hw
    obtain ⟨hlen,hops⟩:=cOpers_spec ops.toList 0 [] l0 rfl hl
    refine wpIn_region ?_
    have:=tree_run (n:=n) (Q:=Q) (ops:=ops) (nt:=nt) (K0:=K0) hG hF hTb hd pr (opsY_tree hw) 0 (fun k dop hk=>?_) S (fun t' h' a' w' hq S'=>hQ .normal _ _ _ _ hq S')
    ·rw [List.range_eq_range']
     rw [hlen] at this;simp at this;exact this
    ·have hlt:k < l0.length:=(List.getElem?_eq_some_iff.1 hk).1
     rw [hlen] at hlt
     have hk2:ops.toList[k]?=some ops.toList[k]:=List.getElem?_eq_getElem hlt
     refine ⟨ops.toList[k],?_,(hops k _ dop hk2 hk).1⟩
     rw [Nat.zero_add];simp
   |true =>
    simp only [Bool.not_true,Bool.false_or] at c1
    have hw:drawR P G l0 [] [] (DQ .normal) t h:=hw
    rw [drawR_eq] at hw
    obtain ⟨fs,t2,h2,ch,hft,hq⟩:=drawWp_chain hw
    rw [List.reverse_nil,List.nil_append] at hft
    refine wpIn_region_any hmo ?_
    obtain ⟨wy,L,My,M,ρ,rest,live,K,S,hJ,hK,hL,hM,hK0,hK0',hT,hM0,hfl⟩:=S
    have hS:=S.world (w':={ w with drawn:=w.drawn+1 }) (fun _ _=>rfl) ⟨S.below.os,S.below.tape,S.below.output,S.below.size,S.below.block⟩
    exact draw_run (hG.mono hM0) ⟨hF,sg_tb hTb hL hT⟩ hd hl c1 ch hft hS (fun M' ρ' a' w' S'=>hQ .normal _ _ _ _ hq ⟨wy,L,My,M',ρ',rest,live,K,S',hJ,hK,hL,hM,hK0,hK0',hT,hM0,hfl⟩)
  ·cases hc
 |seq x y ihx ihy =>
  intro blk dc hc hka DQ t h hw a w S Q hQ
  simp only [cCode] at hc
  split at hc
  ·rename_i dx dy hx hy
   simp only [Option.some.injEq] at hc;subst hc
   simp only [keepsAll,Bool.and_eq_true] at hka
   have hw:dwpY P G dx (seqQ (dwpY P G dy DQ) DQ) t h:=hw
   refine wpIn_seq (ihx blk dx hx hka.1 hw S ?_)
   intro e t' h' a' w' hq S'
   cases e with
   |normal=>exact ihy blk dy hy hka.2 hq S' hQ
   |exit i=>exact hQ (.exit i) _ _ _ _ hq S'
   |ret=>exact hQ .ret _ _ _ _ hq S'
  ·cases hc
 |cond cnd x y ihx ihy =>
  intro blk dc hc hka DQ t h hw a w S Q hQ
  simp only [cCode] at hc
  split at hc
  ·rename_i dx dy hx hy
   simp only [Option.some.injEq] at hc;subst hc
   have hw:(match evalOpd G t cnd with
    |.bool v=>(v=true→dwpY P G dx DQ t h)∧(v=false→dwpY P G dy DQ t h)
    |.abool=>dwpY P G dx DQ t h∧dwpY P G dy DQ t h
    |_=>False):=hw
   split at hw
   ·rename_i v hv
    have S0:=S
    obtain ⟨wy,L,My,M,ρ,rest,live,K,S,hJ,hK,hL,hM,hK0,hK0',hT,hM0,hfl⟩:=S
    have hrel:=S.opd (hG.mono hM0) cnd
    rw [hv] at hrel
    simp only [keepsAll,Bool.and_eq_true] at hka
    exact wpIn_cond_split hrel.inv_bool (fun e=>ihx blk dx hx hka.1 (hw.1 e) S0 hQ) (fun e=>ihy blk dy hy hka.2 (hw.2 e) S0 hQ)
   ·rename_i hv
    have S0:=S
    obtain ⟨wy,L,My,M,ρ,rest,live,K,S,hJ,hK,hL,hM,hK0,hK0',hT,hM0,hfl⟩:=S
    have hrel:=S.opd (hG.mono hM0) cnd
    rw [hv] at hrel
    obtain ⟨b,hb⟩:=hrel.inv_abool
    simp only [keepsAll,Bool.and_eq_true] at hka
    exact wpIn_cond_split hb (fun e=>ihx blk dx hx hka.1 hw.1 S0 hQ) (fun e=>ihy blk dy hy hka.2 hw.2 S0 hQ)
   ·exact hw.elim
  ·cases hc
 |block id x ih =>
  intro blk dc hc hka DQ t h hw a w S Q hQ
  simp only [cCode] at hc
  split at hc
  ·rename_i dx hx
   simp only [Option.some.injEq] at hc;subst hc
   simp only [keepsAll,Bool.and_eq_true] at hka
   have hkk:∀ k',assoc ann.blocks id=some k'→([0]:List Nat).all (memB · k'.kh)=true:=fun k' e=>by
    have h1:=hka.1;rw [e] at h1;exact h1
   have hw:dwpY P G dx (blockQ id (assoc ann.blocks id) DQ) t h:=hw
   refine wpIn_block (ih id dx hx hka.2 hw S ?_)
   intro e t' h' a' w' hq S'
   cases e with
   |normal =>
    obtain ⟨t2,h2,S2,hq2⟩:=S'.keepK hkk hq
    exact hQ .normal _ _ _ _ hq2 S2
   |exit i =>
    simp only [blockQ] at hq
    show (if i=id then Q .normal a' w' else Q (.exit i) a' w')
    rw [natbeq] at hq
    by_cases e:i=id
    ·rw [if_pos e]
     simp only [e,decide_true,cond_true] at hq
     obtain ⟨t2,h2,S2,hq2⟩:=S'.keepK hkk hq
     exact hQ .normal _ _ _ _ hq2 S2
    ·rw [if_neg e]
     simp only [e,decide_false,cond_false] at hq
     exact hQ (.exit i) _ _ _ _ hq S'
   |ret=>exact hQ .ret _ _ _ _ hq S'
  ·cases hc
 |loop x ih =>
  intro blk dc hc hka DQ t h hw a w S Q hQ
  simp only [cCode] at hc
  split at hc
  ·rename_i dx hx
   simp only [Option.some.injEq] at hc;subst hc
   simp only [keepsAll,Bool.and_eq_true] at hka
   have hw:loopWp (dwpY P G dx) ((assoc ann.loops blk).getD default) DQ t h:=hw
   unfold loopWp at hw
   obtain ⟨t1,h1,S1,hbx,m,hw⟩:=S.enterK hw
   have S2:=S1.keep _ ((assoc ann.loops blk).getD default).kt hka.1 hbx
   refine wpIn_loop_rounds m ?_
   have key:∀ (m:Nat) (t:Tmps) (h:Heap) (a:Act) (w:World),loopN (dwpY P G dx) ((assoc ann.loops blk).getD default) DQ m t h→SG nt w00 l K0 C M00 J t h a w→x.roundsIn F n P Q m a w:=by
    intro m
    induction m with
    |zero=>intro t h a w hw _;exact hw.elim
    |succ m ihm =>
     intro t h a w hw S
     rw [roundsIn_succ]
     refine ih blk dx hx hka.2 hw S ?_
     intro e t' h' a' w' hq S'
     cases e with
     |normal=>exact ihm _ _ _ _ hq.2 (S'.keep _ ((assoc ann.loops blk).getD default).kt hka.1 hq.1)
     |exit i=>exact hQ (.exit i) _ _ _ _ hq S'
     |ret=>exact hQ .ret _ _ _ _ hq S'
   exact key m _ _ a w hw S2
  ·cases hc
 |exit id =>
  intro blk dc hc hka DQ t h hw a w S Q hQ
  simp only [cCode,Option.some.injEq] at hc;subst hc
  exact wpIn_exit (hQ (.exit id) _ _ _ _ hw S)
 |ret =>
  intro blk dc hc hka DQ t h hw a w S Q hQ
  simp only [cCode,Option.some.injEq] at hc;subst hc
  exact wpIn_ret (hQ .ret _ _ _ _ hw S)
 |rangeFunc f ps x y ihx ihy =>
  intro blk dc hc hka DQ t h hw
  simp only [cCode] at hc
  split at hc
  ·obtain ⟨_,hc⟩:=cond_some hc
   simp only [Option.some.injEq] at hc;subst hc
   exact hw.elim
  ·cases hc
 |scope x ih =>
  intro blk dc hc hka DQ t h hw a w S Q hQ
  simp only [cCode] at hc
  refine wpIn_scope_plain (ih blk dc hc hka hw S ?_)
  intro e t' h' a' w' hq S'
  cases e with
  |normal=>exact hQ .normal _ _ _ _ hq S'
  |exit i=>exact hQ (.exit i) _ _ _ _ hq S'
  |ret=>exact hQ .ret _ _ _ _ hq S'
 |label l =>
  intro blk dc hc hka DQ t h hw a w S Q hQ
  simp only [cCode,Option.some.injEq] at hc;subst hc
  exact wpIn_label (hQ .normal _ _ _ _ hw S)
 |_=>intro blk dc hc;simp [cCode] at hc
end
def retY:DExit→SP
 |.exit _,_,_=>False
 |_,_,h=>match hlook h 0 with
  |some (.ghost r v _)=>v=true→r=[]
  |_=>False
theorem iseqW_of {P:Program} {G:Nat→Option DV} {ann:Ann} {g:FuncId} {cs:List DV} {hc:Heap} {xs:List (List DV)} {df:DFunc} (hcp:cProg P ann g=some df) (hres:df.results=[]) (hn:cs.length+1=df.nargs) (hk:keepsAll [0] df.body=true) (h00:hlook hc 0=none)
  (hfl:∀ x ∈ xs,flatBs x=true) (hw:∀ l,dwpY P G df.body retY (params (.dict 0 :: cs) 0) ((0,.ghost xs true l) :: hc)):ISeqW P G g cs hc xs:=by
 obtain ⟨fn,c,hfn,hb,hrs,hdc,hmo,hen,hnt⟩:=cProg_spec hcp
 refine ⟨hen,hfl,fun F0 n hF hd M ρ w vs l K C J hG hTb hH hρ0 hrel hCl hCK hK hMK pr0 hJ=>calls_plain ?_⟩
 have pr:Proto F0.plain P w.heap.size C l J:=⟨pr0.stays,pr0.round⟩
 revert pr
 have hF:OpenF F0.plain:=⟨hF.fn,hF.quiet⟩
 have hd:F0.plain.depth=none:=hd
 have hro:F0.plain.round=none:=rfl
 generalize F0.plain=F at hF hd hro ⊢
 intro pr
 obtain ⟨r1,r2⟩:=hrel
 have hsz:vs.size+1≤fn.ntmps:=by omega
 have key:∀ (t:Tmps) (h:Heap) (a:Act) (w':World),(match hlook h 0 with
   |some (.ghost r v _)=>v=true→r=[]
   |_=>False)→SG fn.ntmps w l K C M J t h a w' →
   LeavesInM F n P fn a.tmps (fun e w'=>∃ v K',e=.returned v∧(J [] true K' w'∨∃ r,J r false K' w')∧(∀ b,K b→K' b)∧Turns (fun b=>K b∨C b) w w') a.defers .returning w':=by
  intro t h a w' hq SG0
  obtain ⟨wy,L,My,M',ρ,rest,live,K',S,hJ,hK',hL,hM',hK0,hK0',hT,hM0,hfl'⟩:=SG0
  obtain ⟨hnow,_⟩:=ghost_now S
  rw [hnow] at hq
  simp only at hq
  refine S.leave (fun a' w'' ha S'=>?_)
  obtain ⟨vs',hvs,hl1,hl2,hrel0⟩:=resultsOf_run (hG.mono hM0) S' fn.results.toList df.results hrs [] (by rw [hres];rfl)
  have hrun:(results fn a'.tmps).run P w''=.ok (if h:vs'.length=1 then vs'[0]'(by omega) else .tuple vs'.toArray) w'':=by
   rw [results_eq]
   have h2:(fn.results.mapM (resSem a'.tmps)).run P w''=.ok vs'.toArray w'':=by
    rw [Array.mapM_eq_mapM_toList]
    simp [hvs]
   rw [Sem.run_bind,h2]
   by_cases hl:vs'.length=1
   ·simp [hl]
   ·simp [hl]
  have hJ':=pr.stays _ _ _ _ _ hJ (stays_of_touch hK' hL hT.size S'.below)
  refine ⟨_,hrun,_,K',rfl,?_,hK0',turns_now hK' hL hT S'.below⟩
  cases live with
  |false=>exact .inr ⟨rest,hJ'⟩
  |true=>have:=hq rfl;subst this;exact .inl hJ'
 have hlk:∀ m o,hlook hc m=some o→m≠0∧hlook ((0,DObj.ghost xs true l) :: hc) m=some o:=fun m o e=>by
  have hne:m≠0:=fun e2=>by subst e2;rw [h00] at e;cases e
  exact ⟨hne,by rw [hlook_cons,if_neg (Ne.symm hne)];exact e⟩
 have hlk2:∀ m o,hlook ((0,DObj.ghost xs true l) :: hc) m=some o→(m=0∧o=.ghost xs true l)∨(m≠0∧hlook hc m=some o):=fun m o e=>by
  rw [hlook_cons] at e
  split at e
  ·rename_i e2;cases e;exact .inl ⟨e2.symm,rfl⟩
  ·rename_i e2;exact .inr ⟨Ne.symm e2,e⟩
 have hx:Ext M ρ hc M ρ ((0,.ghost xs true l) :: hc):=⟨M.le_refl,fun m sz es fr e=>⟨sz,es,fr,(hlk m _ e).2,Nat.le_refl _,fun _=>⟨.inl rfl,rfl⟩⟩,fun m o e hk=>⟨rfl,o,(hlk m o e).2,like_refl hk⟩⟩
 refine callsIn_of_wp_marks hfn hb (hF.fn g) (codeY_run (K0:=K) (C:=C) (M00:=M) (w00:=w) (J:=J) (nt:=fn.ntmps) hG hF hTb hd hmo pr c 0 df.body hdc hk (hw l) ?_ ?_) hro
 ·refine ⟨w,fun b=>∃ m o c,hlook hc m=some o∧ρ m=some (b,c),M,M,ρ,xs,true,K,?_,hJ,hK,fun b h=>?_,hMK,fun b hb=>.inl hb,fun b hb=>hb,Turns.refl _ w,M.le_refl,hfl⟩
  ·refine { le:=M.le_refl,tm:=fun i=>?_,mem:=hH.mem,obj:=fun m o e=>?_,dis:=fun m m' o p b c b' c' hne e1 e2 e3 e4=>?_,below:=Base.touch.refl _ _,hB:=rfl,new:=fun b o v e e0=>(by rw [e] at e0;cases e0),size:=(by simp;omega),marks:=⟨fun d hd=>(by simp at hd),.nil,fun _=>rfl⟩,ext:=?_ }
   ·rw [tget_params]
    cases i with
    |zero =>
     rw [if_pos ⟨Nat.zero_le _,by simp⟩]
     have h1:(#[Value.func (.yield l) #[] #[]]++vs++Array.replicate (fn.ntmps - (#[Value.func (.yield l) #[] #[]]++vs).size) undef).getD 0 Go.undef=Value.func (.yield l) #[] #[]:=by
      simp [Array.getD_eq_getD_getElem?,Array.getElem?_append]
     rw [h1]
     exact .yldv 0 l xs true (by rw [hlook_cons,if_pos rfl])
    |succ i =>
     by_cases hi:i < cs.length
     ·rw [if_pos ⟨Nat.zero_le _,by simpa using hi⟩]
      have h1:(#[Value.func (.yield l) #[] #[]]++vs++Array.replicate (fn.ntmps - (#[Value.func (.yield l) #[] #[]]++vs).size) undef).getD (i+1) Go.undef=vs.getD i Go.undef:=by
       simp [Array.getD_eq_getD_getElem?,Array.getElem?_append,show i < vs.size by omega,show i+1 < 1+vs.size by omega]
      rw [h1]
      exact (show RelV M ρ hc _ _ by simpa using r2 i hi).ext hx
     ·rw [if_neg (by simp;omega)];exact .pure (.undef _)
   ·rcases hlk2 m o e with ⟨rfl,rfl⟩|⟨hne,e⟩
    ·exact ⟨hρ0,rfl⟩
    ·exact ((hH.obj m o e).base (B':=baseY w (fun b=>∃ m o c,hlook hc m=some o∧ρ m=some (b,c)) xs true l) (fun b c hb=>.inr ⟨m,o,c,e,hb⟩) (fun e=>Bool.noConfusion e)).ext hx rfl
   ·rcases hlk2 m o e1 with ⟨rfl,rfl⟩|⟨_,q1⟩
    ·rw [hρ0] at e3;cases e3
    ·rcases hlk2 m' p e2 with ⟨rfl,rfl⟩|⟨_,q2⟩
     ·rw [hρ0] at e4;cases e4
     ·exact hH.dis m m' o p b c b' c' hne q1 q2 e3 e4
   ·refine ⟨M.le_refl,fun m sz es fr e=>?_,fun m o e hk=>?_⟩
    ·have e:hlook [(0,DObj.ghost xs true l)] m=some (.row sz es fr):=e
     rw [hlook_cons] at e;split at e<;>cases e
    ·have e:hlook [(0,DObj.ghost xs true l)] m=some o:=e
     rw [hlook_cons] at e
     split at e
     ·rename_i e0;subst e0;cases e
      exact ⟨hρ0,_,by rw [hlook_cons,if_pos rfl],like_refl rfl⟩
     ·cases e
  ·obtain ⟨m,o,c',e1,e2⟩:=h
   have hc:=hCl m o b c' e1 e2
   exact ⟨hCK b hc,.inr hc⟩
 ·intro e t h a w' hq SG0
  cases e with
  |normal=>exact key t h a w' hq SG0
  |ret=>exact key t h a w' hq SG0
  |exit i=>exact hq.elim
end Sh

namespace Sh
open Go
variable {P:Program} {G:Nat→Option DV}
theorem opsY_mono {Q Q':SP} (h:∀ t s,Q t s→Q' t s):∀ {l:List DOper} {K:List Nat} {t:Tmps} {s:Heap},opsY P G l K Q t s→opsY P G l K Q' t s
 |[],_,_,_,hs=>h _ _ hs
 |o :: r,K,t,s,hs=>by
  have hs:(match o.guard with
   |none=>match evalOp (evalOpd G t) (hlook s) (o.dst.getD 0) o.op with
    |.yield 0 vs=>match hlook s 0 with
     |some (.ghost (x :: rest) true l)=>vs=x∧∀ b:Bool,putK o.dst (.bool b) t fun t'=>opsY P G r K Q t' ((0,.ghost rest b l) :: s)
     |_=>False
    |_=>stepWp P G o (opsY P G r K Q) t s
   |some (g,want)=>match tget t g with
    |.bool b=>onG (memB g K) b want (stepWp P G o (opsY P G r (g :: K) Q) ((g,.bool want) :: t) s) (putK o.dst (.tuple []) ((g,.bool (!want)) :: t) fun t'=>opsY P G r (g :: K) Q t' s)
    |.tuple []=>putK o.dst (.tuple []) t fun t'=>opsY P G r K Q t' s
    |_=>False):=hs
  show (match o.guard with
   |none=>match evalOp (evalOpd G t) (hlook s) (o.dst.getD 0) o.op with
    |.yield 0 vs=>match hlook s 0 with
     |some (.ghost (x :: rest) true l)=>vs=x∧∀ b:Bool,putK o.dst (.bool b) t fun t'=>opsY P G r K Q' t' ((0,.ghost rest b l) :: s)
     |_=>False
    |_=>stepWp P G o (opsY P G r K Q') t s
   |some (g,want)=>match tget t g with
    |.bool b=>onG (memB g K) b want (stepWp P G o (opsY P G r (g :: K) Q') ((g,.bool want) :: t) s) (putK o.dst (.tuple []) ((g,.bool (!want)) :: t) fun t'=>opsY P G r (g :: K) Q' t' s)
    |.tuple []=>putK o.dst (.tuple []) t fun t'=>opsY P G r K Q' t' s
    |_=>False)
  split
  ·rename_i hg;rw [hg] at hs;simp only at hs
   split
   ·rename_i vs he
    rw [he] at hs;simp only at hs
    split
    ·rename_i x rest l hn
     rw [hn] at hs
     exact ⟨hs.1,fun b=>putK_mono (fun _=>opsY_mono h) (hs.2 b)⟩
    ·rename_i hn;split at hs
     ·exact absurd ‹_› (hn _ _ _)
     ·exact hs
   ·rename_i he
    split at hs
    ·exact absurd ‹_› (he _)
    ·exact stepWp_mono (fun _ _=>opsY_mono h) hs
  ·rename_i g want hg;rw [hg] at hs;simp only at hs
   split
   ·rename_i hb;rw [hb] at hs;exact onG_mono (stepWp_mono (fun _ _=>opsY_mono h)) (putK_mono (fun _=>opsY_mono h)) hs
   ·rename_i hb;rw [hb] at hs;exact putK_mono (fun _=>opsY_mono h) hs
   ·rename_i h1 h2;split at hs
    ·exact absurd ‹_› (h1 _)
    ·exact absurd ‹_› h2
    ·exact hs
theorem drawR_mono {Q Q':SP} (h:∀ t s,Q t s→Q' t s) {l:List DOper} {K:List Nat} {fs:List Foot} {t:Tmps} {s:Heap} (hs:drawR P G l K fs Q t s):drawR P G l K fs Q' t s:=by
 rw [drawR_eq] at *;exact drawWp_mono h hs
theorem dwpY_mono:∀ {c:DC} {Q Q':DExit→SP} {t:Tmps} {s:Heap},(∀ e t s,Q e t s→Q' e t s)→dwpY P G c Q t s→dwpY P G c Q' t s
 |.skip,_,_,_,_,h,hs=>h _ _ _ hs
 |.ops false _,_,_,_,_,h,hs=>opsY_mono (h _) hs
 |.ops true _,_,_,_,_,h,hs=>drawR_mono (h _) hs
 |.seq a b,Q,Q',t,s,h,hs=>dwpY_mono (c:=a) (seqQ_mono (fun _ _ hh=>dwpY_mono (c:=b) h hh) h) hs
 |.cond c a b,Q,Q',t,s,h,hs=>by
  have hs:(match evalOpd G t c with
   |.bool v=>(v=true→dwpY P G a Q t s)∧(v=false→dwpY P G b Q t s)
   |.abool=>dwpY P G a Q t s∧dwpY P G b Q t s
   |_=>False):=hs
  show (match evalOpd G t c with
   |.bool v=>(v=true→dwpY P G a Q' t s)∧(v=false→dwpY P G b Q' t s)
   |.abool=>dwpY P G a Q' t s∧dwpY P G b Q' t s
   |_=>False)
  split
  ·rename_i hc;rw [hc] at hs;exact ⟨fun e=>dwpY_mono h (hs.1 e),fun e=>dwpY_mono h (hs.2 e)⟩
  ·rename_i hc;rw [hc] at hs;exact ⟨dwpY_mono h hs.1,dwpY_mono h hs.2⟩
  ·rename_i hc hc2;split at hs
   ·exact absurd ‹_› (hc _)
   ·exact absurd ‹_› hc2
   ·exact hs
 |.block id k a,Q,Q',t,s,h,hs=>by
  refine dwpY_mono (c:=a) (fun e t' s' hh=>?_) hs
  cases e with
  |normal=>exact keepK_mono (h _) hh
  |ret=>exact h _ _ _ hh
  |exit i =>
   simp only [blockQ] at *
   cases hb:Nat.beq i id
   ·simp only [hb,cond_false] at hh ⊢;exact h _ _ _ hh
   ·simp only [hb,cond_true] at hh ⊢;exact keepK_mono (h _) hh
 |.loop k b,Q,Q',t,s,h,hs=>by
  have hs:loopWp (dwpY P G b) k Q t s:=hs
  show loopWp (dwpY P G b) k Q' t s
  unfold loopWp at *
  exact enterK_mono (fun _ _ ⟨hb,n,hn⟩=>⟨hb,n,loopN_mono (b:=dwpY P G b) (b':=dwpY P G b) (fun R R' t s hr hb=>dwpY_mono hr hb) h n _ _ hn⟩) hs
 |.rangeF ..,_,_,_,_,_,hs=>hs.elim
 |.exit _,_,_,_,_,h,hs=>h _ _ _ hs
 |.ret,_,_,_,_,h,hs=>h _ _ _ hs
theorem dwp_loopY {α:Type} (T:α→Tmps) (H:α→Heap) (inv:α→Prop) (μ:α→Nat) {k:Keep} {b:DC} {Q:DExit→SP} {t:Tmps} {s:Heap} (a0:α)
  (h0:enterK k.cv t s fun t' h'=>boxesOk k.kh (hlook h') k.kh=true∧keepT k.kh (hlook h') t' k.kt=T a0∧keepH k.kh (hlook h') k.kh=H a0) (hi:inv a0)
  (step:∀ a,inv a→dwpY P G b (seqQ (fun t' h'=>∃ a',boxesOk k.kh (hlook h') k.kh=true∧keepT k.kh (hlook h') t' k.kt=T a'∧keepH k.kh (hlook h') k.kh=H a'∧inv a'∧μ a' < μ a) Q) (T a) (H a)) :
  loopWp (dwpY P G b) k Q t s:=by
 unfold loopWp
 have h2:∀ n a,inv a→μ a < n→loopN (dwpY P G b) k Q n (T a) (H a):=by
  intro n
  induction n with
  |zero=>intro a _ h;omega
  |succ n ihn =>
   intro a ha hn
   refine dwpY_mono (seqQ_mono (fun t' s' hs'=>?_) (fun _ _ _ h=>h)) (step a ha)
   obtain ⟨a',hbx,hk,hk',hi',hlt⟩:=hs'
   rw [hk,hk'];exact ⟨hbx,ihn a' hi' (by omega)⟩
 refine enterK_mono (fun t' h' hh=>?_) h0
 rw [hh.2.1,hh.2.2]
 exact ⟨hh.1,μ a0+1,h2 _ a0 hi (by omega)⟩
theorem rounds_inv2 {body:(DExit→SP)→SP} {kh ps:List Nat} {Q:DExit→SP} {t:Tmps} {xs:List (List DV)} (H:Nat→Heap) (inv:Nat→Prop) (h0:inv 0)
  (mono:∀ (R R':DExit→SP) (t:Tmps) (s:Heap),(∀ e t s,R e t s→R' e t s)→body R t s→body R' t s)
  (step:∀ i x,xs[i]?=some x→inv i→body (fun e _ h'=>boxesOk kh (hlook h') kh=true∧match e with
    |.normal=>keepH kh (hlook h') kh=H (i+1)∧inv (i+1)
    |e=>Q e t (keepH kh (hlook h') kh)) (setPs ps x t) (H i))
  (fin:inv xs.length→Q .normal t (H xs.length)):roundsN body kh ps Q t xs (H 0):=by
 have key:∀ (r:List (List DV)) (i:Nat),i≤xs.length→xs.drop i=r→inv i→roundsN body kh ps Q t r (H i):=by
  intro r
  induction r with
  |nil =>
   intro i hl hi hv
   have hle:xs.length≤i:=List.drop_eq_nil_iff.1 hi
   have e:i=xs.length:=by omega
   subst e;exact fin hv
  |cons x r ih =>
   intro i hl hi hv
   have hx:xs[i]?=some x:=by
    have:=congrArg (fun l=>l[0]?) hi
    simpa using this
   unfold roundsN
   refine mono _ _ _ _ (fun e t' s' hh=>⟨hh.1,?_⟩) (step i x hx hv)
   have hh2:=hh.2
   cases e with
   |normal =>
    simp only at hh2 ⊢
    rw [hh2.1]
    refine ih (i+1) (List.getElem?_eq_some_iff.1 hx).1 ?_ hh2.2
    have:=congrArg (List.drop 1) hi
    simpa [List.drop_drop,Nat.add_comm] using this
   |ret=>exact hh2
   |exit j=>exact hh2
 exact key xs 0 (Nat.zero_le _) rfl h0
theorem range_W2 {P:Program} {G:Nat→Option DV} {g:FuncId} {caps:List DV} {n sz:Nat} {d:DV} {k:Keep} {ps:List Nat} {Q:DExit→SP} {t:Tmps} {h:Heap} {x y:DC} (xs:List (List DV)) (H:Nat→Heap) (T:Tmps) (inv:Nat→Prop) (h0:inv 0) (hi:ISeqW P G g caps [(n,.box sz d)] xs) (hcp:capsB n caps=true)
  (hp:hlook h n=some (.box sz d)∧pureB d=true) (hn:n≠0) (hk:memB n k.kh=false∧freeOf n h=true) (hl:∀ z ∈ xs,z.length=ps.length)
  (hb:boxesOk k.kh (hlook (cutH n h)) k.kh=true) (hv:livH (keepH k.kh (hlook (cutH n h)) k.kh)=true) (hT:keepT k.kh (hlook (cutH n h)) (cutT n t) k.kt=T) (hH:keepH k.kh (hlook (cutH n h)) k.kh=H 0)
  (step:∀ i z,xs[i]?=some z→inv i→dwpR P G x (seqQ (dwpR P G y (fun e _ h'=>boxesOk k.kh (hlook h') k.kh=true∧match e with
    |.normal=>keepH k.kh (hlook h') k.kh=H (i+1)∧inv (i+1)
    |e=>Q e T (keepH k.kh (hlook h') k.kh))) (fun _ _ _=>False)) (setPs ps z T) (H i))
  (fin:inv xs.length→Q .normal T (H xs.length)):rangeWp P G (fun R=>dwpR P G x (seqQ (dwpR P G y R) (fun _ _ _=>False))) k ps Q (.func g caps) t h:=by
 unfold rangeWp
 refine .inr ⟨n,sz,d,xs,⟨hcp,hp.1,hp.2,hn,hk.1,hk.2⟩,hi,hl,hb,hv,?_⟩
 rw [hT,hH]
 refine rounds_inv2 H inv h0 (fun R R' t s hr hb=>?_) step fin
 rw [dwpR_eq,dwpR_eq] at *
 refine dwp_mono (fun e t s hh=>?_) hb
 cases e with
 |normal=>exact dwp_mono hr hh
 |ret=>exact hh
 |exit i=>exact hh
end Sh

namespace Sh
open Go
def tfind:Tmps→Nat→Option DV
 |[],_=>none
 |(k,v) :: r,i=>bif Nat.beq k i then some v else tfind r i
def orD:Option DV→DV→DV
 |some x,_=>x
 |none,d=>d
def ovT (v:Tmps):Tmps→Tmps
 |[]=>[]
 |(i,d) :: r=>(i,orD (tfind v i) d) :: ovT v r
def ovTK (v:Tmps):Tmps→(Tmps→Prop)→Prop
 |[],k=>k []
 |(i,d) :: r,k=>match tfind v i with
  |some x=>ovTK v r fun l=>k ((i,x) :: l)
  |none=>ovTK v r fun l=>k ((i,d) :: l)
theorem ovTK_eq (v:Tmps):∀ (t:Tmps) (k:Tmps→Prop),ovTK v t k=k (ovT v t)
 |[],k=>rfl
 |(i,d) :: r,k=>by
  unfold ovTK ovT
  cases tfind v i with
  |some x=>exact ovTK_eq v r _
  |none=>exact ovTK_eq v r _
section
variable {P:Program} {G:Nat→Option DV}
theorem dwpR_mono {c:DC} {Q Q':DExit→SP} {t:Tmps} {s:Heap} (h:∀ e t s,Q e t s→Q' e t s) (hs:dwpR P G c Q t s):dwpR P G c Q' t s:=by
 rw [dwpR_eq] at *;exact dwp_mono h hs
theorem loopU_aux {α:Type} (T:α→Tmps) (H:α→Heap) (inv:α→Prop) (μ:α→Nat) {k:Keep} {b:DC} {Q:DExit→SP}
  (step:∀ a,inv a→dwpR P G b (seqQ (fun t' h'=>∃ a',boxesOk k.kh (hlook h') k.kh=true∧keepT k.kh (hlook h') t' k.kt=T a'∧keepH k.kh (hlook h') k.kh=H a'∧inv a'∧μ a' < μ a) Q) (T a) (H a)) :
  ∀ n a,inv a→μ a < n→loopN (dwpR P G b) k Q n (T a) (H a):=by
 intro n
 induction n with
 |zero=>intro a _ h;omega
 |succ n ihn =>
  intro a ha hn
  unfold loopN
  have:=step a ha
  refine dwpR_mono (seqQ_mono (fun t' s' hs'=>?_) (fun _ _ _ h=>h)) this
  obtain ⟨a',hbx,hk,hk',hi',hlt⟩:=hs'
  rw [hk,hk'];exact ⟨hbx,ihn a' hi' (by omega)⟩
theorem dwp_loopU {α:Type} (V:α→Tmps) (H:α→Heap) (inv:α→Prop) (μ:α→Nat) {k:Keep} {b:DC} {Q:DExit→SP} {t:Tmps} {s:Heap} (a0:α) (hi:inv a0)
  (h0:enterK k.cv t s fun t' h'=>boxesOk k.kh (hlook h') k.kh=true∧keepH k.kh (hlook h') k.kh=H a0∧keepTK k.kh (hlook h') t' k.kt [] fun T0=>ovT (V a0) T0=T0 ∧
    ∀ a,inv a→ovTK (V a) T0 fun T=>dwpR P G b (seqQ (fun t'' h''=>∃ a',boxesOk k.kh (hlook h'') k.kh=true∧keepT k.kh (hlook h'') t'' k.kt=ovT (V a') T0∧keepH k.kh (hlook h'') k.kh=H a'∧inv a'∧μ a' < μ a) Q) T (H a)) :
  loopWp (dwpR P G b) k Q t s:=by
 unfold loopWp
 refine enterK_mono (fun t' h' hh=>?_) h0
 obtain ⟨h1,h2,h3⟩:=hh
 rw [keepTK_eq,List.reverse_nil,List.nil_append] at h3
 refine ⟨h1,μ a0+1,?_⟩
 rw [h2,← h3.1]
 exact loopU_aux (fun a=>ovT (V a) (keepT k.kh (hlook h') t' k.kt)) H inv μ (fun a ha=>by have:=h3.2 a ha;rw [ovTK_eq] at this;exact this) _ a0 hi (by omega)
end
end Sh
