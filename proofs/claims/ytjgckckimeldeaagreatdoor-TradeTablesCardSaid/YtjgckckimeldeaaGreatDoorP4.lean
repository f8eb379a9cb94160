/-
  Chapter 9's functions, walked over pure data: the library of the walk, the functions' code over data, and what each computes. (part 4)
-/
import Derived.Test.YtjgckckimeldeaaGreatDoorP3
import Derived.LoopNIn
import Derived.RangeFuncLeaves
import Derived.RangeFuncOwn
import Derived.Lib.LaidTab
import Derived.Lib.AppendIntMem
import Derived.ChangeArms
import Derived.ChangeSame
import Derived.OpenShut
import Derived.WideShapes
import Derived.FnData
import Derived.LaidMore
import Derived.DataReads
import Derived.ProofKit
import Derived.Carry
import Derived.HandedShaped
import Derived.Shelf.Vars
import Derived.Stop.Joined
import Derived.Deep.DeepHandedRow
import Derived.MakeChecks
import Derived.LaidSub
import Derived.LaidHandle
set_option linter.unusedVariables false
set_option linter.unusedSimpArgs false
/- Regions: in the order of the text,and in any order. -/
set_option linter.unusedSectionVars false
namespace Sh
open Go
theorem memB_iff (n:Nat):∀ l:List Nat,memB n l=true ↔ n ∈ l
 |[]=>by simp [memB]
 |k :: r=>by
  unfold memB
  rw [natbeq]
  by_cases e:k=n
  ·simp [e]
  ·simp [e,memB_iff n r,Ne.symm e]
theorem mem_insertN {m n:Nat} {l:List Nat} (h:m ∈ insertN n l):m=n∨m ∈ l:=by
 unfold insertN at h
 cases hb:memB n l
 ·rw [hb] at h;simp at h;exact h.symm
 ·rw [hb] at h;exact .inr h
theorem mem_unionN {m:Nat}:∀ {b a:List Nat},m ∈ unionN a b→m ∈ a∨m ∈ b
 |[],a,h=>.inl h
 |x :: r,a,h=>by
  have h':m ∈ unionN (insertN x a) r:=h
  rcases mem_unionN h' with h1|h1
  ·rcases mem_insertN h1 with rfl|h2
   ·exact .inr (by simp)
   ·exact .inl h2
  ·exact .inr (by simp [h1])
theorem mem_befOf {m:Nat} {o:Oper} {befs:List (List Nat)} (h:m ∈ befOf o befs):∃ e ∈ o.after,Region.binds .any e=true∧(m=e.on∨m ∈ befs.getD e.on []):=by
 have key:∀ (l:List Edge) (s:List Nat),m ∈ l.foldl (fun s e=>unionN (insertN e.on s) (befs.getD e.on [])) s→m ∈ s∨∃ e ∈ l,m=e.on∨m ∈ befs.getD e.on []:=by
  intro l
  induction l with
  |nil=>intro s h;exact .inl h
  |cons e r ih =>
   intro s h
   rcases ih _ h with h1|⟨e',h1,h2⟩
   ·rcases mem_unionN h1 with h1|h1
    ·rcases mem_insertN h1 with h1|h1
     ·exact .inr ⟨e,by simp,.inl h1⟩
     ·exact .inl h1
    ·exact .inr ⟨e,by simp,.inr h1⟩
   ·exact .inr ⟨e',by simp [h1],h2⟩
 rcases key _ _ h with h1|⟨e,h1,h2⟩
 ·simp at h1
 ·rw [List.mem_filter] at h1
  exact ⟨e,by simpa using h1.1,h1.2,h2⟩
section
variable {P:Program} {ann:Ann} {nt:Nat} {ops:Array Oper}
theorem cOpers_spec:∀ (l:List Oper) (i:Nat) (befs:List (List Nat)) (dl:List DOper),befs.length=i→cOpers P ann nt ops l i befs=some dl→dl.length=l.length ∧
  ∀ k o dop,l[k]?=some o→dl[k]?=some dop→OperOk P nt ops o dop∧(∀ e ∈ o.after,Region.binds .any e=true→e.on < i+k) ∧
   ∀ m ∈ dop.bef,∃ e ∈ o.after,Region.binds .any e=true∧(m=e.on∨m ∈ (befs++dl.map (·.bef)).getD e.on [])
 |[],i,befs,dl,hl,h=>by
  simp only [cOpers,Option.some.injEq] at h;subst h
  exact ⟨rfl,fun k o dop h=>by simp at h⟩
 |o :: r,i,befs,dl,hl,h=>by
  simp only [cOpers] at h
  split at h
  ·rename_i op g r' h1 h2 h3
   obtain ⟨c1,h⟩:=cond_some h
   simp only [Option.some.injEq] at h;subst h
   simp only [Bool.and_eq_true] at c1
   obtain ⟨i1,i2⟩:=cOpers_spec r (i+1) (befs++[befOf o befs]) r' (by simp [hl]) h3
   refine ⟨by simp [i1],fun k o' dop e1 e2=>?_⟩
   cases k with
   |zero =>
    simp only [List.getElem?_cons_zero,Option.some.injEq] at e1 e2
    subst e1;subst e2
    have hop:(∃ imm,cOp P imm o.op=some op)∨∃ k,cX P k o.op=some op:=by
     unfold cAny at h1
     split at h1
     ·exact .inr ⟨_,h1⟩
     ·exact .inl ⟨_,h1⟩
    refine ⟨⟨hop,rfl,fun d hd=>?_,h2⟩,fun e he hb=>?_,fun m hm=>?_⟩
    ·have:=c1.2;rw [hd] at this;exact Nat.le_of_ble_eq_true this
    ·have:=c1.1
     unfold edgesBack at this
     rw [List.all_eq_true] at this
     exact Nat.le_of_ble_eq_true (this e (List.mem_filter.2 ⟨by simpa using he,hb⟩))
    ·obtain ⟨e,he,hb,hm⟩:=mem_befOf hm
     refine ⟨e,he,hb,hm.imp id (fun hm=>?_)⟩
     have hlt:e.on < befs.length:=by
      rcases Nat.lt_or_ge e.on befs.length with h|h
      ·exact h
      ·rw [List.getD_eq_getElem?_getD,List.getElem?_eq_none h] at hm;simp at hm
     rw [List.getD_eq_getElem?_getD,List.getElem?_append_left hlt,← List.getD_eq_getElem?_getD];exact hm
   |succ k =>
    simp only [List.getElem?_cons_succ] at e1 e2
    obtain ⟨j1,j2,j3⟩:=i2 k o' dop e1 e2
    refine ⟨j1,fun e he hb=>by have:=j2 e he hb;omega,fun m hm=>?_⟩
    obtain ⟨e,he,hb,hm⟩:=j3 m hm
    refine ⟨e,he,hb,hm.imp id (fun hm=>?_)⟩
    simpa using hm
  ·cases h
end
section
open Classical
variable {V:Type} {N:Nat} {s:Nat→Nat→V} {wr tc:Nat→Nat→Prop} {bef:Nat→Nat→Prop}
structure Parts (N:Nat) (s:Nat→Nat→V) (wr tc:Nat→Nat→Prop) (bef:Nat→Nat→Prop):Prop where
 frame:∀ k n,k < N→¬ wr k n→s (k+1) n=s k n
 sub:∀ k n,wr k n→tc k n
 ord:∀ j k,j < k→k < N→bef k j∨((∀ n,wr j n→¬ tc k n)∧∀ n,tc j n→¬ wr k n)
noncomputable def mix (s:Nat→Nat→V) (wr:Nat→Nat→Prop) (S:Nat→Bool):Nat→Nat→V
 |0,n=>s 0 n
 |k+1,n=>if S k=true∧wr k n then s (k+1) n else mix s wr S k n
theorem Parts.all (T:Parts N s wr tc bef) {S:Nat→Bool} (hS:∀ j,j < N→S j=true):∀ k,k≤N→∀ n,mix s wr S k n=s k n
 |0,_,_=>rfl
 |k+1,h,n=>by
  unfold mix
  rw [hS k (by omega),T.all hS k (by omega)]
  by_cases e:wr k n
  ·simp [e]
  ·simp [e,T.frame k n (by omega) e]
theorem mix_none {S:Nat→Bool} (hS:∀ j,S j=false) (k n:Nat):mix s wr S k n=s 0 n:=by
 induction k with
 |zero=>rfl
 |succ k ih=>unfold mix;rw [hS k];simpa using ih
theorem Parts.agree (T:Parts N s wr tc bef) {S:Nat→Bool} (cl:∀ k j,k < N→S k=true→bef k j→S j=true) {i n:Nat} (hi:i < N) (hiS:S i=false) (hb:∀ j,bef i j→S j=true) (ht:tc i n) :
  mix s wr S N n=s i n:=by
 have h1:∀ k,k≤i→mix s wr S k n=s k n:=by
  intro k
  induction k with
  |zero=>intro _;rfl
  |succ k ih =>
   intro hk
   unfold mix
   rw [ih (by omega)]
   by_cases e:wr k n
   ·rcases T.ord k i (by omega) hi with h|h
    ·simp [hb k h,e]
    ·exact absurd ht (h.1 n e)
   ·simp [e,T.frame k n (by omega) e]
 have h2:∀ k,i≤k→k≤N→mix s wr S k n=s i n:=by
  intro k
  induction k with
  |zero=>intro hk _;have:i=0:=by omega
         subst this;rfl
  |succ k ih =>
   intro hk hN
   rcases Nat.lt_or_eq_of_le hk with h|h
   ·unfold mix
    rw [ih (by omega) (by omega),if_neg]
    rintro ⟨e1,e2⟩
    rcases Nat.lt_or_eq_of_le (Nat.le_of_lt_succ h) with h|h
    ·rcases T.ord i k h (by omega) with h'|h'
     ·rw [cl k i (by omega) e1 h'] at hiS;cases hiS
     ·exact h'.2 n ht e2
    ·subst h;rw [e1] at hiS;cases hiS
   ·rw [← h];exact h1 i (Nat.le_refl _)
 exact h2 N (by omega) (Nat.le_refl _)
theorem Parts.step (T:Parts N s wr tc bef) {S S':Nat→Bool} (cl:∀ k j,k < N→S k=true→bef k j→S j=true) {i:Nat} (hi:i < N) (hiS:S i=false) (hb:∀ j,bef i j→S j=true)
  (hS:∀ j,S' j=(decide (j=i) || S j)) (n:Nat):mix s wr S' N n=if wr i n then s (i+1) n else mix s wr S N n:=by
 by_cases e:wr i n
 ·rw [if_pos e]
  have h2:∀ k,i < k→k≤N→mix s wr S' k n=s (i+1) n:=by
   intro k
   induction k with
   |zero=>intro hk;omega
   |succ k ih =>
    intro hk hN
    by_cases hne:k=i
    ·subst hne;unfold mix;rw [hS k];simp [e]
    ·unfold mix
     rw [ih (by omega) (by omega),if_neg]
     rintro ⟨e1,e2⟩
     rw [hS k] at e1
     simp only [hne,decide_false,Bool.false_or] at e1
     rcases T.ord i k (by omega) (by omega) with h'|h'
     ·rw [cl k i (by omega) e1 h'] at hiS;cases hiS
     ·exact h'.2 n (T.sub i n e) e2
  exact h2 N hi (Nat.le_refl _)
 ·rw [if_neg e]
  have h2:∀ k,mix s wr S' k n=mix s wr S k n:=by
   intro k
   induction k with
   |zero=>rfl
   |succ k ih =>
    unfold mix
    rw [ih,hS k]
    by_cases hk:k=i
    ·subst hk;simp [e]
    ·simp [hk]
  exact h2 N
end
theorem disj_spec {a b:List Nat} (h:disj a b=true) {n:Nat} (h1:n ∈ a):n ∉ b:=fun h2=>by
 unfold disj at h
 rw [List.all_eq_true] at h
 have:=h n h1
 simp only [Bool.not_eq_true',List.any_eq_false] at this
 exact this n h2 (by simp)
theorem footsOk_get {f:Foot}:∀ {l:List Foot} {j0:Nat},footsOk f l j0=true→∀ j g,l[j]?=some g→j0+j ∈ f.bef∨((∀ n ∈ g.wr,n ∉ f.rd∧n ∉ f.wr)∧∀ n ∈ g.rd,n ∉ f.wr)∨softPair g f=true
 |[],_,_,_,_,h=>by simp at h
 |g :: r,j0,h,j,g',hj=>by
  unfold footsOk at h
  simp only [Bool.and_eq_true,Bool.or_eq_true] at h
  cases j with
  |zero =>
   simp only [List.getElem?_cons_zero,Option.some.injEq] at hj;subst hj
   rcases h.1 with (⟨⟨h1,h2⟩,h3⟩|h1)|h1
   ·exact .inr (.inl ⟨fun n hn=>⟨disj_spec h1 hn,disj_spec h2 hn⟩,fun n hn=>disj_spec h3 hn⟩)
   ·rw [List.any_eq_true] at h1
    obtain ⟨x,hx,e⟩:=h1
    have:=Nat.eq_of_beq_eq_true e;subst this
    exact .inl hx
   ·exact .inr (.inr h1)
  |succ j =>
   have:=footsOk_get h.2 j g' (by simpa using hj)
   rwa [show j0+1+j=j0+(j+1) by omega] at this
theorem allFeet_get:∀ {l pre:List Foot},allFeet pre l=true→∀ k f,l[k]?=some f→footsOk f (pre++l.take k) 0=true
 |[],_,_,_,_,h=>by simp at h
 |f :: r,pre,h,k,f',hk=>by
  unfold allFeet at h
  simp only [Bool.and_eq_true] at h
  cases k with
  |zero=>simp only [List.getElem?_cons_zero,Option.some.injEq] at hk;subst hk;simpa using h.1
  |succ k =>
   have:=allFeet_get h.2 k f' (by simpa using hk)
   simpa using this
theorem statFrom_get {b:DOper}:∀ {l:List DOper} {j0:Nat},statFrom b l j0=true→∀ j a,l[j]?=some a→statPair a (j0+j) b=true
 |[],_,_,_,_,h=>by simp at h
 |g :: r,j0,h,j,g',hj=>by
  unfold statFrom at h
  simp only [Bool.and_eq_true] at h
  cases j with
  |zero=>simp only [List.getElem?_cons_zero,Option.some.injEq] at hj;subst hj;exact h.1
  |succ j =>
   have:=statFrom_get h.2 j g' (by simpa using hj)
   rwa [show j0+1+j=j0+(j+1) by omega] at this
theorem statAll_get:∀ {l pre:List DOper},statAll pre l=true→∀ k b,l[k]?=some b→statFrom b (pre++l.take k) 0=true
 |[],_,_,_,_,h=>by simp at h
 |f :: r,pre,h,k,f',hk=>by
  unfold statAll at h
  simp only [Bool.and_eq_true] at h
  cases k with
  |zero=>simp only [List.getElem?_cons_zero,Option.some.injEq] at hk;subst hk;simpa using h.1
  |succ k =>
   have:=statAll_get h.2 k f' (by simpa using hk)
   simpa using this
theorem statPair_spec {a b:DOper} {i:Nat} (h:statPair a i b=true):i ∈ b.bef∨((∀ d,a.dst=some d→d ∉ looksOf b∧b.dst≠some d)∧∀ d,b.dst=some d→d ∉ looksOf a∧a.dst≠some d):=by
 unfold statPair at h
 simp only [Bool.or_eq_true,Bool.and_eq_true] at h
 rcases h with h|⟨⟨h1,h2⟩,h3⟩
 ·exact .inl ((memB_iff _ _).1 h)
 ·refine .inr ⟨fun d hd=>⟨fun hm=>?_,fun e=>?_⟩,fun d hd=>⟨fun hm=>?_,fun e=>?_⟩⟩
  ·rw [hd] at h1;simp [(memB_iff d (looksOf b)).2 hm] at h1
  ·rw [hd,e] at h3;simp at h3
  ·rw [hd] at h2;simp [(memB_iff d (looksOf a)).2 hm] at h2
  ·rw [hd,e] at h3;simp at h3
theorem hlook_append (a b:Heap) (n:Nat):hlook (a++b) n=(hlook a n).or (hlook b n):=by
 induction a with
 |nil=>rfl
 |cons x r ih =>
  obtain ⟨k,v⟩:=x
  rw [List.cons_append,hlook_cons,hlook_cons,ih]
  split<;>rfl
theorem hlook_none {a:Heap} {n:Nat} (h:n ∉ a.map (·.1)):hlook a n=none:=by
 induction a with
 |nil=>rfl
 |cons x r ih =>
  obtain ⟨k,v⟩:=x
  simp only [List.map_cons,List.mem_cons,not_or] at h
  rw [hlook_cons,if_neg (Ne.symm h.1)];exact ih h.2
theorem eff_congr {u h h':Heap} {ns:List Nat} {n:Nat} (e:hlook h' n=hlook h n):hlook (u.reverse++freeze ns h') n=hlook (u.reverse++freeze ns h) n:=by
 rw [hlook_append,hlook_append,freeze_look,freeze_look,e]
theorem eff_frame {u h:Heap} {ns:List Nat} {n:Nat} (h1:n ∉ ns) (h2:n ∉ u.map (·.1)):hlook (u.reverse++freeze ns h) n=hlook h n:=by
 rw [hlook_append,hlook_none (by simpa using h2),freeze_look]
 simp only [Option.none_or]
 rw [decide_eq_false h1]
 cases hlook h n with
 |none=>rfl
 |some o=>simp [frz_false]
theorem eqCells_eq:∀ {ks:List Nat} {xs ys:List DV},eqCells ks xs ys=some true→xs=ys
 |[],xs,ys,h=>by
  obtain ⟨rfl,rfl,_⟩:=eqCells_nil h
  rfl
 |k :: ks,xs,ys,h=>by
  have hsub:∀ {p q:List DV},eqCells ks p q=some true→p=q:=fun hq=>eqCells_eq hq
  unfold eqCells at h
  split at h
  ·rename_i heq;cases heq
  ·rename_i j a rx k' b ry heq
   simp only [List.cons.injEq] at heq
   obtain ⟨rfl,rfl⟩:=heq
   split at h
   ·rename_i e hq
    cases hk:kindEq j k' with
    |false=>rw [hk] at h;cases h
    |true =>
     rw [hk] at h
     simp only [cond_true,Option.some.injEq,Bool.and_eq_true,decide_eq_true_eq] at h
     obtain ⟨rfl,rfl⟩:=h
     have:=kindEq_eq hk;subst this
     rw [hsub hq]
   ·cases h
  ·rename_i a rx b ry heq
   simp only [List.cons.injEq] at heq
   obtain ⟨rfl,rfl⟩:=heq
   split at h
   ·rename_i e hq
    simp only [Option.some.injEq,Bool.and_eq_true,beq_iff_eq] at h
    obtain ⟨rfl,rfl⟩:=h
    rw [hsub hq]
   ·cases h
  ·rename_i a rx b ry heq
   simp only [List.cons.injEq] at heq
   obtain ⟨rfl,rfl⟩:=heq
   split at h
   ·rename_i e hq
    simp only [Option.some.injEq,Bool.and_eq_true,decide_eq_true_eq] at h
    obtain ⟨rfl,rfl⟩:=h
    rw [hsub hq]
   ·cases h
  ·cases h
theorem keyEq_eq {kk:Nat} {ks:List Nat} {a b:DV} (h:keyEq kk ks a b=some true):a=b:=by
 unfold keyEq at h
 split at h
 ·split at h
  ·simp only [Option.some.injEq,beq_iff_eq] at h;rw [h]
  ·cases h
 ·split at h
  ·rename_i j a k b
   cases hk:kindEq j k with
   |false=>rw [hk] at h;cases h
   |true =>
    rw [hk] at h
    simp only [cond_true,Option.some.injEq,decide_eq_true_eq] at h
    rw [h,kindEq_eq hk]
  ·cases h
 ·split at h
  ·simp only [Option.some.injEq,decide_eq_true_eq] at h;rw [h]
  ·cases h
 ·split at h
  ·rw [eqCells_eq h]
  ·cases h
theorem dfind_append (eq:DV→DV→Option Bool) (k:DV) (x:DV×DV):∀ (es:List (DV×DV)) (i:Nat),dfind eq k (es++[x]) i=match dfind eq k es i with
  |some none=>dfind eq k [x] (i+es.length)
  |r=>r
 |[],i=>rfl
 |(k',v) :: r,i=>by
  have ih:=dfind_append eq k x r (i+1)
  rw [show i+1+r.length=i+(r.length+1) by omega] at ih
  have e1:∀ l,dfind eq k ((k',v) :: l) i=match eq k k' with
   |some true=>some (some (i,v))
   |some false=>dfind eq k l (i+1)
   |none=>none:=fun l=>rfl
  rw [List.cons_append,e1,e1,List.length_cons]
  cases eq k k' with
  |none=>rfl
  |some b =>
   cases b with
   |true=>rfl
   |false=>exact ih
theorem dfind_at {eq:DV→DV→Option Bool} {k:DV}:∀ {es:List (DV×DV)} {i j:Nat} {v:DV},dfind eq k es i=some (some (j,v))→i≤j∧∃ k',es[j - i]?=some (k',v)∧eq k k'=some true
 |[],i,j,v,h=>by cases h
 |(k',v') :: r,i,j,v,h=>by
  unfold dfind at h
  split at h
  ·rename_i he
   simp only [Option.some.injEq,Prod.mk.injEq] at h
   obtain ⟨rfl,rfl⟩:=h
   exact ⟨Nat.le_refl _,k',by simp,he⟩
  ·obtain ⟨h1,k2,h2,h3⟩:=dfind_at h
   refine ⟨by omega,k2,?_,h3⟩
   rw [show j - i=(j - (i+1))+1 by omega];simpa using h2
  ·cases h
theorem eqNs_eq:∀ {a b:List Nat},eqNs a b=true→a=b
 |[],[],_=>rfl
 |[],_ :: _,h=>by cases h
 |_ :: _,[],h=>by cases h
 |a :: r,b :: s,h=>by
  unfold eqNs at h
  simp only [Bool.and_eq_true] at h
  rw [Nat.eq_of_beq_eq_true h.1,eqNs_eq h.2]
theorem sameZ_eq {a b:DV} (h:sameZ a b=true):a=b:=by
 unfold sameZ at h
 split at h
 ·simp only [Bool.and_eq_true,decide_eq_true_eq] at h
  rw [kindEq_eq h.1,h.2]
 ·simp only [beq_iff_eq] at h;rw [h]
 ·cases h
def lookR (kk:Nat) (ks:List Nat) (k z:DV) (es:List (DV×DV)):Ev:=match dfind (keyEq kk ks) k es 0 with
 |some (some (_,v))=>.ok none v []
 |some none=>.ok none z []
 |none=>.fail
theorem lookR_new {kk:Nat} {ks:List Nat} {k k' z:DV} {es:List (DV×DV)} (h:(keyEq kk ks k k').isSome=true):lookR kk ks k z (es++[(k',z)])=lookR kk ks k z es:=by
 unfold lookR
 rw [dfind_append]
 cases hd:dfind (keyEq kk ks) k es 0 with
 |none=>rfl
 |some r =>
  cases r with
  |some jv=>rfl
  |none =>
   simp only
   unfold dfind
   cases hq:keyEq kk ks k k' with
   |none=>rw [hq] at h;cases h
   |some b=>cases b<;>rfl
theorem evalOp_lookup {ev:Operand→DV} {lk:Nat→Option DObj} {n kk:Nat} {ks:List Nat} {z:DV} {m k:Operand} {q:Nat} (hm:ev m=.dict q):evalOp ev lk n (.lookup kk ks false z m k)=match lk q with
  |some (.dict es)=>bif keyB kk ks (ev k) then lookR kk ks (ev k) z es else .fail
  |_=>.fail:=by
 simp only [evalOp,hm]
 cases lk q with
 |none=>rfl
 |some o =>
  cases o with
  |dict es=>rfl
  |_=>rfl
def foundE (G:Nat→Option DV) (T:Nat→Tmps) (dl:List DOper) (fs:List Foot) (i:Nat) (lk:Nat→Option DObj):Ev :=
 match fs[i]? with
 |none=>.fail
 |some ft=>match ft.so with
  |some (false,_)=>match dl[i]? with
   |some dop=>evalOp (evalOpd G (T i)) lk (dop.dst.getD 0) dop.op
   |none=>.fail
  |_=>.fail
theorem foundE_some {G:Nat→Option DV} {T:Nat→Tmps} {dl:List DOper} {fs:List Foot} {i:Nat} {lk:Nat→Option DObj} {dop:DOper} {ft:Foot} {x:Nat×Nat×List Nat×DV×DV} (h1:dl[i]?=some dop) (h2:fs[i]?=some ft) (h3:ft.so=some (false,x)) :
  foundE G T dl fs i lk=evalOp (evalOpd G (T i)) lk (dop.dst.getD 0) dop.op:=by
 unfold foundE
 rw [h2];simp only;rw [h3];simp only;rw [h1]
theorem foundE_none {G:Nat→Option DV} {T:Nat→Tmps} {dl:List DOper} {fs:List Foot} {i:Nat} {lk:Nat→Option DObj} {ft:Foot} (h2:fs[i]?=some ft) (h3:∀ x,ft.so≠some (false,x)):foundE G T dl fs i lk=.fail:=by
 unfold foundE
 rw [h2]
 cases hso:ft.so with
 |none=>simp only [hso]
 |some x =>
  obtain ⟨b,x⟩:=x
  cases b with
  |false=>exact absurd hso (h3 x)
  |true=>simp only [hso]
theorem foundE_out {G:Nat→Option DV} {T:Nat→Tmps} {dl:List DOper} {fs:List Foot} {i:Nat} {lk:Nat→Option DObj} (h2:fs[i]?=none):foundE G T dl fs i lk=.fail:=by
 unfold foundE
 rw [h2]
theorem softOf_false {ev:Operand→DV} {op:DOp} {q kk:Nat} {ks:List Nat} {k z:DV} (h:softOf ev op=some (false,q,kk,ks,k,z)):∃ m ko,op=.lookup kk ks false z m ko∧ev m=.dict q∧ev ko=k:=by
 unfold softOf at h
 split at h
 ·rename_i m ko
  split at h
  ·rename_i hm
   simp only [Option.some.injEq,Prod.mk.injEq] at h
   obtain ⟨_,rfl,rfl,rfl,rfl,rfl⟩:=h
   exact ⟨_,_,rfl,hm,rfl⟩
  ·cases h
 ·split at h
  ·simp at h
  ·cases h
 ·cases h
theorem softOf_true {ev:Operand→DV} {op:DOp} {q kk:Nat} {ks:List Nat} {k z:DV} (h:softOf ev op=some (true,q,kk,ks,k,z)):∃ m ko,op=.mapentry kk ks z m ko∧ev m=.dict q∧ev ko=k:=by
 unfold softOf at h
 split at h
 ·split at h
  ·simp at h
  ·cases h
 ·rename_i m ko
  split at h
  ·rename_i hm
   simp only [Option.some.injEq,Prod.mk.injEq] at h
   obtain ⟨_,rfl,rfl,rfl,rfl,rfl⟩:=h
   exact ⟨_,_,rfl,hm,rfl⟩
  ·cases h
 ·cases h
theorem entry_ok {ev:Operand→DV} {lk:Nat→Option DObj} {n kk:Nat} {ks:List Nat} {z:DV} {m k:Operand} {q:Nat} {p:Option Prop} {d:DV} {u:Heap} (hm:ev m=.dict q) (he:evalOp ev lk n (.mapentry kk ks z m k)=.ok p d u) :
  ∃ es,lk q=some (.dict es)∧(u=[(q,.dict es)]∨u=[(q,.dict (es++[(ev k,z)]))]):=by
 simp only [evalOp,hm] at he
 split at he
 ·rename_i es hl
  refine ⟨es,hl,?_⟩
  cases hk:keyB kk ks (ev k) with
  |false=>rw [hk] at he;cases he
  |true =>
   rw [hk] at he
   simp only [cond_true] at he
   split at he
   ·rename_i i v hf
    simp only [Ev.ok.injEq] at he
    obtain ⟨_,_,rfl⟩:=he
    obtain ⟨_,k',h2,h3⟩:=dfind_at hf
    rw [← keyEq_eq h3,Nat.sub_zero] at h2
    left
    congr 3
    exact List.ext_getElem? fun j=>by
     rw [List.getElem?_set]
     split
     ·rename_i e;subst e
      obtain ⟨hlt,h4⟩:=List.getElem?_eq_some_iff.1 h2
      simp [hlt,h4]
     ·rfl
   ·simp only [Ev.ok.injEq] at he
    obtain ⟨_,_,rfl⟩:=he
    exact .inr rfl
   ·cases he
 ·cases he
section
variable {P:Program} {G:Nat→Option DV} {B:Base} {nt:Nat} {M0:Mem} {w0:World} {F:Fence} {n:Nat} {ops:Array Oper} {Q:Exit→Act→World→Prop}
theorem Chain.fun {l:List DOper} {fs:List Foot} {t t2:Tmps} {h h2:Heap} (c:Chain P G l fs t h t2 h2):fs.length=l.length∧∃ (T:Nat→Tmps) (H:Nat→Heap),T 0=t∧H 0=h∧T l.length=t2∧H l.length=h2 ∧
  ∀ k o ft,l[k]?=some o→fs[k]?=some ft→StepTo P G o ft (T k) (H k) (T (k+1)) (H (k+1)):=by
 induction c with
 |nil t h=>exact ⟨rfl,fun _=>t,fun _=>h,rfl,rfl,rfl,rfl,fun k o ft h=>by simp at h⟩
 |cons st c ih =>
  rename_i o r ft fs t h t1 h1 t2 h2
  obtain ⟨e,T,H,e1,e2,e3,e4,e5⟩:=ih
  refine ⟨by simp [e],fun k=>match k with|0=>t|k+1=>T k,fun k=>match k with|0=>h|k+1=>H k,rfl,rfl,e3,e4,fun k o' ft' h1 h2=>?_⟩
  cases k with
  |zero =>
   simp only [List.getElem?_cons_zero,Option.some.injEq] at h1 h2
   subst h1;subst h2
   simpa [e1,e2] using st
  |succ k=>exact e5 k o' ft' (by simpa using h1) (by simpa using h2)
theorem plain_run (hG:GOk G M0) (hF:OpenB G F B w0) (hd:F.depth=none) {l:List DOper} {fs:List Foot} {t t2:Tmps} {h h2:Heap} (c:Chain P G l fs t h t2 h2) :
  ∀ (i:Nat),(∀ k dop,l[k]?=some dop→∃ o,ops[i+k]?=some o∧OperOk P nt ops o dop)→∀ {M:Mem} {ρ:Locs} {a:Act} {w:World},Sim B nt M0 w0 M ρ t h a w →
   (∀ M' ρ' a' w',Sim B nt M0 w0 M' ρ' t2 h2 a' w'→Q .normal a' w')→wpOpsIn F n P ops Q (List.range' i l.length) a w:=by
 induction c with
 |nil t h=>intro i _ M ρ a w S hQ;exact hQ _ _ _ _ S
 |cons st c ih =>
  rename_i o r ft fs t h t1 h1 t2 h2
  intro i hok M ρ a w S hQ
  rw [List.length_cons,List.range'_succ,wpOpsIn_cons]
  obtain ⟨om,ho,ok⟩:=hok 0 o rfl
  obtain ⟨_,⟨d,ns,u,hs,e1,e2,_⟩,_⟩:=st
  refine step_run hG hF hd ok ho S hs (fun M' ρ' a' w' S'=>?_)
  refine ih (i+1) (fun k dop hk=>?_) (S'.congr e1 e2) hQ
  obtain ⟨om',ho',ok'⟩:=hok (k+1) dop (by simpa using hk)
  exact ⟨om',by rw [show i+1+k=i+(k+1) by omega];exact ho',ok'⟩
def cnt (S:Nat→Bool):Nat→Nat
 |0=>0
 |k+1=>cnt S k+(if S k=true then 0 else 1)
theorem cnt_zero {S:Nat→Bool}:∀ {N:Nat},cnt S N=0→∀ j,j < N→S j=true
 |0,_,j,h=>by omega
 |N+1,hc,j,h=>by
  unfold cnt at hc
  by_cases e:S N=true
  ·rcases Nat.lt_or_eq_of_le (Nat.le_of_lt_succ h) with h|h
   ·exact cnt_zero (by omega) j h
   ·subst h;exact e
  ·rw [if_neg e] at hc;omega
theorem cnt_set {S S':Nat→Bool} {i:Nat} (hi:S i=false) (hS:∀ j,S' j=(decide (j=i) || S j)):∀ N,cnt S' N+(if i < N then 1 else 0)=cnt S N
 |0=>by simp [cnt]
 |N+1=>by
  have:=cnt_set hi hS N
  unfold cnt
  rw [hS N]
  by_cases e:N=i
  ·subst e;simp at this;simp [this,hi]
  ·by_cases h:i < N
   ·simp [h] at this
    have h2:i < N+1:=by omega
    simp [e,h2];omega
   ·simp [h] at this
    have h2:¬ i < N+1:=by omega
    simp [e,h2,this]
theorem draw_run (hG:GOk G M0) (hF:OpenB G F B w0) (hd:F.depth=none) {ann:Ann} {dl:List DOper} (hc:cOpers P ann nt ops ops.toList 0 []=some dl) (hst:statAll [] dl=true)
  {fs:List Foot} {t t2:Tmps} {h h2:Heap} (c:Chain P G dl fs t h t2 h2) (hfeet:allFeet [] fs=true) {M:Mem} {ρ:Locs} {a:Act} {w:World} (S0:Sim B nt M0 w0 M ρ t h a w)
  (hQ:∀ M' ρ' a' w',Sim B nt M0 w0 M' ρ' t2 h2 a' w'→Q .normal a' w'):wpAnyIn F n P .any ops Q ops.size (Array.replicate ops.size false) a w:=by
 obtain ⟨hlen,hops⟩:=cOpers_spec ops.toList 0 [] dl rfl hc
 simp only [Array.length_toList,Nat.zero_add,List.nil_append] at hlen hops
 obtain ⟨hfl,T,H,e1,e2,e3,e4,hsteps⟩:=c.fun
 have hdl:∀ k,k < ops.size→∃ o dop ft,ops[k]?=some o∧dl[k]?=some dop∧fs[k]?=some ft:=fun k hk =>
  ⟨ops[k],dl[k]'(by omega),fs[k]'(by omega),by simp [hk],by simp [hlen,hk],by simp [hfl,hlen,hk]⟩
 let bef:Nat→Nat→Prop:=fun k j=>∃ dop,dl[k]?=some dop∧j ∈ dop.bef
 let wrT:Nat→Nat→Prop:=fun k x=>∃ dop,dl[k]?=some dop∧dop.dst=some x
 let tcT:Nat→Nat→Prop:=fun k x=>∃ dop,dl[k]?=some dop∧(dop.dst=some x∨x ∈ looksOf dop)
 let wrH:Nat→Nat→Prop:=fun k x=>∃ ft,fs[k]?=some ft∧x ∈ ft.wr
 let tcH:Nat→Nat→Prop:=fun k x=>∃ ft,fs[k]?=some ft∧(x ∈ ft.wr∨(x ∈ ft.rd∧∀ y,ft.so≠some (false,y)))
 have PT:Parts ops.size (fun k=>tget (T k)) wrT tcT bef:=by
  refine ⟨fun k x hk hw=>?_,fun k x ⟨dop,h1,h2⟩=>⟨dop,h1,.inl h2⟩,fun j k hjk hk=>?_⟩
  ·obtain ⟨o,dop,ft,h1,h2,h3⟩:=hdl k hk
   obtain ⟨_,⟨d,ns,u,_,g1,_,_⟩,_⟩:=hsteps k dop ft h2 h3
   show tget (T (k+1)) x=tget (T k) x
   rw [g1,tget_putO,if_neg (fun e=>hw ⟨dop,h2,e⟩)]
  ·obtain ⟨o,dop,ft,h1,h2,h3⟩:=hdl k hk
   obtain ⟨o',dop',ft',h1',h2',h3'⟩:=hdl j (by omega)
   have hs:=statFrom_get (statAll_get hst k dop h2) j dop' (by rw [List.nil_append,List.getElem?_take_of_lt hjk];exact h2')
   rw [Nat.zero_add] at hs
   rcases statPair_spec hs with h|⟨g1,g2⟩
   ·exact .inl ⟨dop,h2,h⟩
   ·refine .inr ⟨fun x ⟨d1,q1,q2⟩ ⟨d2,q3,q4⟩=>?_,fun x ⟨d1,q1,q2⟩ ⟨d2,q3,q4⟩=>?_⟩
    ·rw [h2'] at q1;cases q1;rw [h2] at q3;cases q3
     rcases q4 with q4|q4
     ·exact (g1 x q2).2 q4
     ·exact (g1 x q2).1 q4
    ·rw [h2'] at q1;cases q1;rw [h2] at q3;cases q3
     rcases q2 with q2|q2
     ·exact (g2 x q4).2 q2
     ·exact (g2 x q4).1 q2
 have PH:Parts ops.size (fun k=>hlook (H k)) wrH tcH bef:=by
  refine ⟨fun k x hk hw=>?_,fun k x ⟨dop,h1,h2⟩=>⟨dop,h1,.inl h2⟩,fun j k hjk hk=>?_⟩
  ·obtain ⟨o,dop,ft,h1,h2,h3⟩:=hdl k hk
   obtain ⟨_,⟨d,ns,u,_,_,g1,g2⟩,_⟩:=hsteps k dop ft h2 h3
   have hx:x ∉ ft.wr:=fun e=>hw ⟨ft,h3,e⟩
   rw [g2] at hx
   show hlook (H (k+1)) x=hlook (H k) x
   rw [g1]
   exact eff_frame (fun e=>hx (.inl e)) (fun e=>hx (.inr e))
  ·obtain ⟨o,dop,ft,h1,h2,h3⟩:=hdl k hk
   obtain ⟨o',dop',ft',h1',h2',h3'⟩:=hdl j (by omega)
   have hs:=footsOk_get (allFeet_get hfeet k ft h3) j ft' (by rw [List.nil_append,List.getElem?_take_of_lt hjk];exact h3')
   rw [Nat.zero_add] at hs
   rcases hs with h|⟨g1,g2⟩|hsp
   ·exact .inl ⟨dop,h2,by rw [← (hsteps k dop ft h2 h3).bef];exact h⟩
   ·refine .inr ⟨fun x ⟨d1,q1,q2⟩ ⟨d2,q3,q4⟩=>?_,fun x ⟨d1,q1,q2⟩ ⟨d2,q3,q4⟩=>?_⟩
    ·rw [h3'] at q1;cases q1;rw [h3] at q3;cases q3
     rcases q4 with q4|⟨q4,_⟩
     ·exact (g1 x q2).2 q4
     ·exact (g1 x q2).1 q4
    ·rw [h3'] at q1;cases q1;rw [h3] at q3;cases q3
     rcases q2 with q2|⟨q2,_⟩
     ·exact (g1 x q2).2 q4
     ·exact g2 x q2 q4
   ·unfold softPair at hsp
    rw [Bool.and_eq_true] at hsp
    have hwj:ft'.wr=[]:=List.isEmpty_iff.1 hsp.1
    refine .inr ⟨fun x ⟨d1,q1,q2⟩ _=>?_,fun x ⟨d1,q1,q2⟩ _=>?_⟩
    ·rw [h3'] at q1;cases q1;rw [hwj] at q2;cases q2
    ·rw [h3'] at q1;cases q1
     rcases q2 with q2|⟨_,q2⟩
     ·rw [hwj] at q2;cases q2
     ·have h:=hsp.2
      split at h
      ·rename_i e1 _;exact q2 _ e1
      ·cases h
 -- what the lookups find
 let E:Nat→(Nat→Option DObj)→Ev:=foundE G T dl fs
 have EL:∀ {i:Nat} {dop:DOper} {ft:Foot} {x:Nat×Nat×List Nat×DV×DV} (lk:Nat→Option DObj),dl[i]?=some dop→fs[i]?=some ft→ft.so=some (false,x)→E i lk=evalOp (evalOpd G (T i)) lk (dop.dst.getD 0) dop.op:=fun lk h1 h2 h3=>foundE_some h1 h2 h3
 have EN:∀ {i:Nat} {ft:Foot} (lk lk':Nat→Option DObj),fs[i]?=some ft→(∀ x,ft.so≠some (false,x))→E i lk'=E i lk:=fun lk lk' h2 h3=>by
  show foundE G T dl fs _ lk'=foundE G T dl fs _ lk
  rw [foundE_none h2 h3,foundE_none h2 h3]
 have isL:∀ {i q kk:Nat} {ks:List Nat} {k z:DV} {dop:DOper} {ft:Foot},dl[i]?=some dop→fs[i]?=some ft→ft.so=some (false,q,kk,ks,k,z)→∃ m ko,dop.op=.lookup kk ks false z m ko∧evalOpd G (T i) m=.dict q∧evalOpd G (T i) ko=k∧ft.rd=[q] ∧
   Guarded dop (T i)∧∃ p d u,evalOp (evalOpd G (T i)) (hlook (H i)) (dop.dst.getD 0) dop.op=.ok p d u∧(holds p∧∀ n,hlook (H (i+1)) n=hlook (u.reverse++H i) n):=fun {i q kk ks k z dop ft} h1 h2 h3=>by
  rcases (hsteps i dop ft h1 h2).soft with h|⟨s1,s2,s3,s4⟩
  ·rw [h] at h3;cases h3
  ·rw [h3] at s1
   obtain ⟨m,ko,e1,e2,e3⟩:=softOf_false s1.symm
   refine ⟨m,ko,e1,e2,e3,?_,s3,s4⟩
   rw [s2,e1];simp only [readsOf,e2,names]
 have Econg:∀ {i:Nat} {ft:Foot} {q:Nat} {x:Nat×List Nat×DV×DV} (lk lk':Nat→Option DObj),fs[i]?=some ft→ft.so=some (false,q,x)→lk' q=lk q→E i lk'=E i lk:=fun {i ft q x} lk lk' h2 h3 hq=>by
  obtain ⟨kk,ks,k,z⟩:=x
  have hi:i < dl.length:=by rw [← hfl];exact (List.getElem?_eq_some_iff.1 h2).1
  have h1:dl[i]?=some dl[i]:=List.getElem?_eq_getElem hi
  obtain ⟨m,ko,e1,e2,e3,_⟩:=isL h1 h2 h3
  rw [EL lk' h1 h2 h3,EL lk h1 h2 h3]
  exact evalOp_congr _ (fun _ _=>rfl) (fun n hn=>by
   rw [e1] at hn
   simp only [readsOf,e2,names,List.mem_singleton] at hn
   rw [hn];exact hq)
 have Esoft:∀ {i k:Nat} {fi fk:Foot},fs[i]?=some fi→fs[k]?=some fk→softPair fi fk=true→E i (hlook (H (k+1)))=E i (hlook (H k)):=fun {i k fi fk} h2 h2' hsp=>by
  have hi:i < dl.length:=by rw [← hfl];exact (List.getElem?_eq_some_iff.1 h2).1
  have h1:dl[i]?=some dl[i]:=List.getElem?_eq_getElem hi
  have hk:k < dl.length:=by rw [← hfl];exact (List.getElem?_eq_some_iff.1 h2').1
  have h1':dl[k]?=some dl[k]:=List.getElem?_eq_getElem hk
  unfold softPair at hsp
  rw [Bool.and_eq_true] at hsp
  obtain ⟨_,hsp⟩:=hsp
  split at hsp
  ·rename_i q kk ks kv z q' kk' ks' kv' z' s1 s2
   simp only [Bool.and_eq_true] at hsp
   obtain ⟨g1,g2,g3,g4,g5⟩:=hsp
   have g1:=Nat.eq_of_beq_eq_true g1;subst g1
   have g2:=Nat.eq_of_beq_eq_true g2;subst g2
   have g3:=eqNs_eq g3;subst g3
   have g5:=sameZ_eq g5;subst g5
   obtain ⟨m,ko,e1,e2,e3,_⟩:=isL h1 h2 s1
   rcases (hsteps k _ fk h1' h2').soft with h|⟨t1,t2,t3,p,d,u,t4,_,t5⟩
   ·rw [h] at s2;cases s2
   ·rw [s2] at t1
    obtain ⟨m',ko',f1,f2,f3⟩:=softOf_true t1.symm
    rw [f1] at t4
    obtain ⟨es,u1,u2⟩:=entry_ok f2 t4
    rw [EL _ h1 h2 s1,EL _ h1 h2 s1,e1,evalOp_lookup e2,evalOp_lookup e2,u1,t5 q]
    rcases u2 with rfl|rfl
    ·simp only [List.reverse_cons,List.reverse_nil,List.nil_append,List.cons_append,hlook_cons,if_true]
    ·simp only [List.reverse_cons,List.reverse_nil,List.nil_append,List.cons_append,hlook_cons,if_true]
     rw [f3,e3,lookR_new g4]
  ·cases hsp
 let wrS:Nat→Nat→Prop:=fun k i=>∃ fi fk q x,fs[i]?=some fi∧fs[k]?=some fk∧fi.so=some (false,q,x)∧q ∈ fk.wr∧softPair fi fk=false
 let tcS:Nat→Nat→Prop:=fun k i=>wrS k i∨(k=i∧∃ fi x,fs[i]?=some fi∧fi.so=some (false,x))
 have PS:Parts ops.size (fun k i=>E i (hlook (H k))) wrS tcS bef:=by
  refine ⟨fun k i hk hw=>?_,fun k x h=>.inl h,fun j k hjk hk=>?_⟩
  ·show E i (hlook (H (k+1)))=E i (hlook (H k))
   obtain ⟨o,dop,fk,h1,h2,h3⟩:=hdl k hk
   cases hfi:fs[i]? with
   |none =>
    show foundE G T dl fs _ _=foundE G T dl fs _ _
    rw [foundE_out hfi,foundE_out hfi]
   |some fi =>
    by_cases hso:∃ x,fi.so=some (false,x)
    ·obtain ⟨⟨q,x⟩,hx⟩:=hso
     cases hsp:softPair fi fk with
     |true=>exact Esoft hfi h3 hsp
     |false =>
      refine Econg _ _ hfi hx ?_
      obtain ⟨_,⟨d,ns,u,_,_,g1,g2⟩,_⟩:=hsteps k dop fk h2 h3
      have hx':q ∉ fk.wr:=fun e=>hw ⟨fi,fk,q,x,hfi,h3,hx,e,hsp⟩
      rw [g2] at hx'
      rw [g1]
      exact eff_frame (fun e=>hx' (.inl e)) (fun e=>hx' (.inr e))
    ·exact EN _ _ hfi (fun x hx=>hso ⟨x,hx⟩)
  ·obtain ⟨o,dop,ft,h1,h2,h3⟩:=hdl k hk
   obtain ⟨o',dop',ft',h1',h2',h3'⟩:=hdl j (by omega)
   have hs:=footsOk_get (allFeet_get hfeet k ft h3) j ft' (by rw [List.nil_append,List.getElem?_take_of_lt hjk];exact h3')
   rw [Nat.zero_add] at hs
   have rdL:∀ {fi:Foot} {i q:Nat} {x:Nat×List Nat×DV×DV},fs[i]?=some fi→fi.so=some (false,q,x)→q ∈ fi.rd:=fun {fi i q x} e1 e2=>by
    obtain ⟨kk,ks,kv,z⟩:=x
    have hi:i < dl.length:=by rw [← hfl];exact (List.getElem?_eq_some_iff.1 e1).1
    obtain ⟨m,ko,_,_,_,e3,_⟩:=isL (List.getElem?_eq_getElem hi) e1 e2
    rw [e3];simp
   rcases hs with h|h|h
   ·exact .inl ⟨dop,h2,by rw [← (hsteps k dop ft h2 h3).bef];exact h⟩
   ·obtain ⟨g1,g2⟩:=h
    refine .inr ⟨fun i ⟨fi,fj,q,x,a1,a2,a3,a4,a5⟩ hk'=>?_,fun i hj' ⟨fi,fk,q,x,a1,a2,a3,a4,a5⟩=>?_⟩
    ·rw [h3'] at a2;cases a2
     rcases hk' with ⟨fi',fk',q',x',b1,b2,b3,b4,b5⟩|⟨rfl,_⟩
     ·rw [a1] at b1;cases b1;rw [a3] at b3;cases b3
      rw [h3] at b2;cases b2
      exact (g1 q a4).2 b4
     ·rw [h3] at a1;cases a1
      exact (g1 q a4).1 (rdL h3 a3)
    ·rw [h3] at a2;cases a2
     rcases hj' with ⟨fi',fk',q',x',b1,b2,b3,b4,b5⟩|⟨rfl,_⟩
     ·rw [a1] at b1;cases b1;rw [a3] at b3;cases b3
      rw [h3'] at b2;cases b2
      exact (g1 q b4).2 a4
     ·rw [h3'] at a1;cases a1
      exact g2 q (rdL h3' a3) a4
   ·have hwj:ft'.wr=[]:=by
     unfold softPair at h
     rw [Bool.and_eq_true] at h
     exact List.isEmpty_iff.1 h.1
    refine .inr ⟨fun i ⟨fi,fj,q,x,a1,a2,a3,a4,a5⟩ hk'=>?_,fun i hj' ⟨fi,fk,q,x,a1,a2,a3,a4,a5⟩=>?_⟩
    ·rw [h3'] at a2;cases a2
     rw [hwj] at a4;cases a4
    ·rw [h3] at a2;cases a2
     rcases hj' with ⟨fi',fk',q',x',b1,b2,b3,b4,b5⟩|⟨rfl,_⟩
     ·rw [h3'] at b2;cases b2
      rw [hwj] at b4;cases b4
     ·rw [h3'] at a1;cases a1
      rw [h] at a5;cases a5
 have main:∀ (fuel:Nat) (L:Nat→Bool) (listed:Array Bool) (t':Tmps) (h':Heap) (M:Mem) (ρ:Locs) (a:Act) (w:World),listed.size=ops.size→(∀ j,j < ops.size→listed[j]?=some (L j))→cnt L ops.size≤fuel →
   (∀ k j,k < ops.size→L k=true→bef k j→L j=true)→(∀ x,tget t' x=mix (fun k=>tget (T k)) wrT L ops.size x)→(∀ x,hlook h' x=mix (fun k=>hlook (H k)) wrH L ops.size x)→(∀ i,E i (hlook h')=mix (fun k i=>E i (hlook (H k))) wrS L ops.size i) →
   Sim B nt M0 w0 M ρ t' h' a w→wpAnyIn F n P .any ops Q fuel listed a w:=by
  intro fuel
  have done:∀ (L:Nat→Bool) (t':Tmps) (h':Heap) (M:Mem) (ρ:Locs) (a:Act) (w:World),(∀ j,j < ops.size→L j=true)→(∀ x,tget t' x=mix (fun k=>tget (T k)) wrT L ops.size x) →
    (∀ x,hlook h' x=mix (fun k=>hlook (H k)) wrH L ops.size x)→Sim B nt M0 w0 M ρ t' h' a w→Q .normal a w:=by
   intro L t' h' M ρ a w hall ht hh S
   refine hQ M ρ a w (S.congr (fun x=>?_) (fun x=>?_))
   ·rw [ht,PT.all hall _ (Nat.le_refl _),← hlen,e3]
   ·rw [hh,PH.all hall _ (Nat.le_refl _),← hlen,e4]
  induction fuel with
  |zero =>
   intro L listed t' h' M ρ a w hsz hl hcnt hcl ht hh hE S
   have hall:=cnt_zero (S:=L) (N:=ops.size) (by omega)
   refine ⟨?_,done L t' h' M ρ a w hall ht hh S⟩
   rw [List.eq_nil_iff_forall_not_mem]
   intro j hj
   obtain ⟨h1,o,h2,_⟩:=mem_ready.1 hj
   have hlt:j < ops.size:=(Array.getElem?_eq_some_iff.1 h2).1
   rw [Array.getD_eq_getD_getElem?,hl j hlt,hall j hlt] at h1
   simp at h1
  |succ fuel ih =>
   intro L listed t' h' M ρ a w hsz hl hcnt hcl ht hh hE S
   refine ⟨fun hnil=>?_,fun i hi=>?_⟩
   ·refine done L t' h' M ρ a w (fun j=>?_) ht hh S
    induction j using Nat.strongRecOn with
    |_ j ihj =>
     intro hj
     cases hLj:L j with
     |true=>rfl
     |false =>
      exfalso
      have:j ∈ Region.ready .any ops listed:=by
       refine mem_ready.2 ⟨by rw [Array.getD_eq_getD_getElem?,hl j hj,hLj];rfl,ops[j],by simp [hj],fun e he hb=>?_⟩
       obtain ⟨o,dop,ft,h1,h2,h3⟩:=hdl j hj
       have ho:ops[j]=o:=by simpa [hj] using h1
       have hlt:=(hops j o dop (by simpa using h1) h2).2.1 e (by rw [← ho];exact he) hb
       rw [Array.getD_eq_getD_getElem?,hl e.on (by omega),ihj e.on hlt (by omega)];rfl
      rw [hnil] at this;cases this
   ·obtain ⟨h1,o,h2,h3⟩:=mem_ready.1 hi
    have hlt:i < ops.size:=(Array.getElem?_eq_some_iff.1 h2).1
    have hLi:L i=false:=by rw [Array.getD_eq_getD_getElem?,hl i hlt] at h1;simpa using h1
    obtain ⟨o',dop,ft,g1,g2,g3⟩:=hdl i hlt
    rw [h2] at g1;cases g1
    obtain ⟨ok,hback,hbef⟩:=hops i o dop (by simpa using h2) g2
    have hbL:∀ j,bef i j→L j=true:=by
     rintro j ⟨dop',q1,q2⟩
     rw [g2] at q1;cases q1
     obtain ⟨e,he,hb,hm⟩:=hbef j q2
     have hon:e.on < ops.size:=by have:=hback e he hb;omega
     have hLe:L e.on=true:=by
      have:=h3 e he hb
      rw [Array.getD_eq_getD_getElem?,hl e.on hon] at this;simpa using this
     rcases hm with rfl|hm
     ·exact hLe
     ·obtain ⟨oe,de,fe,k1,k2,k3⟩:=hdl e.on hon
      refine hcl e.on j hon hLe ⟨de,k2,?_⟩
      rw [List.getD_eq_getElem?_getD,List.getElem?_map,k2] at hm
      simpa using hm
    obtain ⟨_,⟨d,ns,u,hs,q1,q2,q3⟩,hsof⟩:=hsteps i dop ft g2 g3
    have aT:∀ x,tcT i x→tget t' x=tget (T i) x:=fun x hx=>by rw [ht];exact PT.agree hcl hlt hLi hbL hx
    have aH:∀ x,tcH i x→hlook h' x=hlook (H i) x:=fun x hx=>by rw [hh];exact PH.agree hcl hlt hLi hbL hx
    have hs':∃ rd,Step P G dop t' h' d ns u rd:=by
     by_cases hso:∃ x,ft.so=some (false,x)
     ·obtain ⟨⟨q,kk,ks,kv,z⟩,hx⟩:=hso
      obtain ⟨m,ko,b1,b2,b3,b4,b5,p,d',u',b6,b7,_⟩:=isL g2 g3 hx
      have hEi:E i (hlook h')=E i (hlook (H i)):=by rw [hE];exact PS.agree hcl hlt hLi hbL (.inr ⟨rfl,ft,_,g3,hx⟩)
      rw [EL _ g2 g3 hx,EL _ g2 g3 hx,b6] at hEi
      have he0:=opd_congr (G:=G) (o:=dop) (t:=T i) (t':=t') (fun x hx=>aT x ⟨dop,g2,.inr hx⟩)
      rw [← evalOp_congr (ev':=evalOpd G t') dop.op he0 (fun _ _=>rfl)] at hEi
      have hstep:=Step.ok (P:=P) (b5.congr (fun x hx=>aT x ⟨dop,g2,.inr hx⟩)) p d' u' hEi b7
      -- the step of the text is the same one
      have hdu:d=d'∧ns=[]∧u=u':=by
       clear hstep
       revert hs
       generalize ft.rd=r
       intro hs
       cases hs with
       |skip g want hg hv =>
        have:=b5 g want hg
        rcases hv with hv|hv
        ·rw [this] at hv;cases want<;>cases hv
        ·rw [this] at hv;cases hv
       |ok hg p2 d2 u2 he hp=>rw [b6] at he;cases he;exact ⟨rfl,rfl,rfl⟩
       |okF hg ns p2 d2 u2 he hp=>rw [b6] at he;cases he
       |flat hg f vs p2 ds d2 he hv hp hc hf=>rw [b6] at he;cases he
       |frz hg f vs p2 ds d2 he hv hp hc=>rw [b6] at he;cases he
       |heap hg f vs π ds hs d2 hs' he hc hi=>rw [b6] at he;cases he
      obtain ⟨rfl,rfl,rfl⟩:=hdu
      exact ⟨_,hstep⟩
     ·exact ⟨_,hs.congr (t':=t') (h':=h') (fun x hx=>aT x ⟨dop,g2,.inr hx⟩) (fun x hx=>aH x ⟨ft,g3,.inr ⟨hx,fun y hy=>hso ⟨y,hy⟩⟩⟩)⟩
    obtain ⟨rd',hs'⟩:=hs'
    let L':Nat→Bool:=fun j=>decide (j=i) || L j
    refine step_run hG hF hd ok h2 S hs' (fun M' ρ' a' w' S'=>?_)
    have hnew:∀ x,x ∈ ft.wr→hlook (u.reverse++freeze ns h') x=hlook (H (i+1)) x:=fun x e=>by
     rw [q2];exact eff_congr (aH x ⟨ft,g3,.inl e⟩)
    have hold:∀ x,x ∉ ft.wr→hlook (u.reverse++freeze ns h') x=hlook h' x:=fun x e=>by
     rw [q3] at e
     exact eff_frame (fun h=>e (.inl h)) (fun h=>e (.inr h))
    refine ih L' (listed.setIfInBounds i true) _ _ M' ρ' a' w' (by simpa using hsz) (fun j hj=>?_) ?_ (fun k j hk hL hb=>?_) (fun x=>?_) (fun x=>?_) (fun s=>?_) S'
    ·by_cases e:i=j
     ·subst e;simp [hsz,hj,L']
     ·rw [Array.getElem?_setIfInBounds_ne e,hl j hj];simp [L',Ne.symm e]
    ·have:=cnt_set (S:=L) (S':=L') hLi (fun _=>rfl) ops.size
     rw [if_pos hlt] at this;omega
    ·show (decide (j=i) || L j)=true
     by_cases e:k=i
     ·subst e;rw [hbL j hb];simp
     ·have:L k=true:=by simpa [L',e] using hL
      rw [hcl k j hk this hb];simp
    ·rw [PT.step (S':=L') hcl hlt hLi hbL (fun _=>rfl) x,tget_putO]
     by_cases e:dop.dst=some x
     ·rw [if_pos e,if_pos ⟨dop,g2,e⟩]
      show d=tget (T (i+1)) x
      rw [q1,tget_putO,if_pos e]
     ·rw [if_neg e,if_neg (fun ⟨dop',k1,k2⟩=>by rw [g2] at k1;cases k1;exact e k2)]
      exact ht x
    ·rw [PH.step (S':=L') hcl hlt hLi hbL (fun _=>rfl) x]
     by_cases e:x ∈ ft.wr
     ·rw [if_pos ⟨ft,g3,e⟩]
      show _=hlook (H (i+1)) x
      rw [q2]
      exact eff_congr (aH x ⟨ft,g3,.inl e⟩)
     ·rw [if_neg (fun ⟨ft',k1,k2⟩=>by rw [g3] at k1;cases k1;exact e k2)]
      rw [q3] at e
      rw [eff_frame (fun h=>e (.inl h)) (fun h=>e (.inr h))]
      exact hh x
    ·rw [PS.step (S':=L') hcl hlt hLi hbL (fun _=>rfl) s]
     by_cases hwS:wrS i s
     ·rw [if_pos hwS]
      obtain ⟨fi,fk,q,x,a1,a2,a3,a4,a5⟩:=hwS
      rw [g3] at a2;cases a2
      exact Econg _ _ a1 a3 (hnew q a4)
     ·rw [if_neg hwS,← hE s]
      cases hfs:fs[s]? with
      |none =>
       show foundE G T dl fs _ _=foundE G T dl fs _ _
       rw [foundE_out hfs,foundE_out hfs]
      |some fi =>
       by_cases hso:∃ x,fi.so=some (false,x)
       ·obtain ⟨⟨q,x⟩,hx⟩:=hso
        by_cases hq:q ∈ ft.wr
        ·cases hsp:softPair fi ft with
         |false=>exact absurd ⟨fi,ft,q,x,hfs,g3,hx,hq,hsp⟩ hwS
         |true =>
          rw [Econg (hlook (H (i+1))) _ hfs hx (hnew q hq),Econg (hlook (H i)) (hlook h') hfs hx (aH q ⟨ft,g3,.inl hq⟩)]
          exact Esoft hfs g3 hsp
        ·exact Econg _ _ hfs hx (hold q hq)
       ·exact EN _ _ hfs (fun x hx=>hso ⟨x,hx⟩)
 refine main ops.size (fun _=>false) _ t h M ρ a w (by simp) (fun j hj=>by simp [hj]) ?_ (fun k j _ h=>by cases h) (fun x=>?_) (fun x=>?_) (fun x=>?_) S0
 ·have:∀ N,cnt (fun _=>false) N≤N:=fun N=>by
   induction N with
   |zero=>exact Nat.le_refl _
   |succ N ih=>unfold cnt;simp;exact ih
  exact this _
 ·rw [mix_none (fun _=>rfl),e1]
 ·rw [mix_none (fun _=>rfl),e2]
 ·rw [mix_none (fun _=>rfl),e2]
end
end Sh

/- Shadow code against the code of the model;a function's contract. -/
namespace Sh
open Go
section
variable {P:Program} {G:Nat→Option DV} {B:Base} {nt:Nat} {M0:Mem} {w0:World} {M:Mem} {ρ:Locs} {t:Tmps} {h:Heap} {a:Act} {w:World}
theorem ress_getD (kh:List Nat) (lk:Nat→Option DObj) (l:List DV) (i:Nat) (hi:i < l.length):(ress kh lk l).getD i .undef=res kh lk (l.getD i .undef):=by
 induction l generalizing i with
 |nil=>simp at hi
 |cons d r ih =>
  cases i with
  |zero=>rfl
  |succ i=>simpa [ress] using ih i (by simpa using hi)
theorem ress_length (kh:List Nat) (lk:Nat→Option DObj) (l:List DV):(ress kh lk l).length=l.length:=by
 induction l with
 |nil=>rfl
 |cons d r ih=>simp [ress,ih]
theorem resP {kh:List Nat} {lk:Nat→Option DObj} {d:DV} {v:Value} (hr:RelP M d v):RelP M (res kh lk d) v:=by
 induction hr with
 |undef v=>exact .undef v
 |abool b=>exact .abool b
 |bool b=>exact .bool b
 |int k n=>exact .int k n
 |str s=>exact .str s
 |agg ds vs hl _ ih=>exact .agg _ vs (by rw [ress_length];exact hl) (fun i hi=>by rw [ress_length] at hi;rw [ress_getD _ _ _ _ hi];exact ih i hi)
 |tuple ds vs hl _ ih=>exact .tuple _ vs (by rw [ress_length];exact hl) (fun i hi=>by rw [ress_length] at hi;rw [ress_getD _ _ _ _ hi];exact ih i hi)
 |func f ds vs hl _ ih=>exact .func f _ vs (by rw [ress_length];exact hl) (fun i hi=>by rw [ress_length] at hi;rw [ress_getD _ _ _ _ hi];exact ih i hi)
 |meth f ds vs hl _ ih=>exact .meth f _ vs (by rw [ress_length];exact hl) (fun i hi=>by rw [ress_length] at hi;rw [ress_getD _ _ _ _ hi];exact ih i hi)
 |list l a cap sz b o g hcap ha hsz hM hr _=>exact .list l a cap sz b o g hcap ha hsz hM hr
 |full l a sz b o g ha hsz hM hr _=>exact .full l a sz b o g ha hsz hM hr
 |ip d b o g hM hr _=>exact .ip d b o g hM hr
 |nilptr=>exact .nilptr
 |nilfunc=>exact .nilfunc
 |nilmap=>exact .nilmap
 |nilslice=>exact .nilslice
 |flt k n=>exact .flt k n
 |fnan k n h=>exact .fnan k n h
theorem drop_box (S:Sim B nt M0 w0 M ρ t h a w) {kh:List Nat} {h0 h':Heap} (hfb:∀ n sz d,memB n kh=false→hlook h0 n=some (.box sz d)∨hlook h0 n=some (.fbox sz d)→pureB d=true→hlook h n=some (.fbox sz d))
  {n off:Nat} {v:Value} (hm:memB n kh=false) (hr:RelV M ρ h (.bptr n off) v):RelV M ρ h' (res kh (hlook h0) (.bptr n off)) v:=by
 unfold res
 rw [hm]
 simp only [cond_false]
 have key:∀ sz d0,hlook h0 n=some (.box sz d0)∨hlook h0 n=some (.fbox sz d0)→RelV M ρ h' (bif Nat.beq off 0 && pureB d0 then DV.ip d0 else .undef) v:=fun sz d0 hl=>by
  cases hc:Nat.beq off 0 && pureB d0 with
  |false=>exact .pure (.undef _)
  |true =>
   simp only [Bool.and_eq_true] at hc
   have:=Nat.eq_of_beq_eq_true hc.1;subst this
   exact .pure (fptr_ip S (hfb n sz d0 hm hl hc.2) hr)
 split
 ·rename_i sz d0 hl;exact key sz d0 (.inl hl)
 ·rename_i sz d0 hl;exact key sz d0 (.inr hl)
 ·exact .pure (.undef _)
theorem like_resObj (kh:List Nat) (lk:Nat→Option DObj) {o:DObj} (h:o.isRow=false):o.like (resObj kh lk o):=by cases o<;>simp_all [DObj.like,DObj.isRow,resObj]
theorem resV (S:Sim B nt M0 w0 M ρ t h a w) {kh:List Nat} {h0 h':Heap} (hfr:∀ n sz es fr,memB n kh=false→hlook h0 n=some (.row sz es fr)→hlook h n=some (.row sz es true))
  (hrow:∀ n sz es fr,memB n kh=true→hlook h n=some (.row sz es fr)→hlook h' n=some (.row sz es fr)) (hnrow:∀ n sz c isz es pd,memB n kh=true→hlook h n=some (.nrow sz c isz es pd)→hlook h' n=some (.nrow sz c isz es pd)) (hbox:∀ n o,memB n kh=true→hlook h n=some o→o.isRow=false→∃ o',hlook h' n=some o'∧o.like o')
  (hfb:∀ n sz d,memB n kh=false→hlook h0 n=some (.box sz d)∨hlook h0 n=some (.fbox sz d)→pureB d=true→hlook h n=some (.fbox sz d)) {d:DV} {v:Value} (hr:RelV M ρ h d v):RelV M ρ h' (res kh (hlook h0) d) v:=by
 induction hr with
 |pure hp=>exact .pure (resP hp)
 |agg ds vs hl _ ih=>exact .agg _ vs (by rw [ress_length];exact hl) (fun i hi=>by rw [ress_length] at hi;rw [ress_getD _ _ _ _ hi];exact ih i hi)
 |tuple ds vs hl _ ih=>exact .tuple _ vs (by rw [ress_length];exact hl) (fun i hi=>by rw [ress_length] at hi;rw [ress_getD _ _ _ _ hi];exact ih i hi)
 |func f ds vs hl _ ih=>exact .func f _ vs (by rw [ress_length];exact hl) (fun i hi=>by rw [ress_length] at hi;rw [ress_getD _ _ _ _ hi];exact ih i hi)
 |meth f ds vs hl _ ih=>exact .meth f _ vs (by rw [ress_length];exact hl) (fun i hi=>by rw [ress_length] at hi;rw [ress_getD _ _ _ _ hi];exact ih i hi)
 |own n off len tot sz es fr v hl ht hs hv =>
  unfold res
  cases hm:memB n kh with
  |true=>exact .own n off len tot sz es fr v (hrow n sz es fr hm hl) ht hs hv
  |false =>
   simp only [cond_false]
   split
   ·rename_i sz' es' fr' h0n
    split
    ·rename_i e
     have h1:=hfr n sz' es' fr' hm h0n
     rw [hl] at h1;cases h1
     exact .pure (own_list S hl (.own n off len tot sz es true v hl ht hs hv) e)
    ·exact .pure (.undef v)
   ·exact .pure (.undef v)
 |ptr n i off tot sz es fr v hl ht hi hs hv =>
  unfold res
  cases hm:memB n kh with
  |true=>exact .ptr n i off tot sz es fr v (hrow n sz es fr hm hl) ht hi hs hv
  |false=>exact .pure (.undef v)
 |bptr n off sz b c d hl hρ =>
  cases hm:memB n kh with
  |true =>
   unfold res;rw [hm]
   obtain ⟨o',h1,h2⟩:=hbox n _ hm hl rfl
   cases o' with
   |box sz' d'=>simp only [DObj.like] at h2;subst h2;exact .bptr n off _ b c d' h1 hρ
   |fbox sz' d'=>simp only [DObj.like] at h2;subst h2;exact .fptr n off _ b c d' h1 hρ
   |_=>exact h2.elim
  |false=>exact drop_box S hfb hm (.bptr n off sz b c d hl hρ)
 |fptr n off sz b c d hl hρ =>
  cases hm:memB n kh with
  |true =>
   unfold res;rw [hm]
   obtain ⟨o',h1,h2⟩:=hbox n _ hm hl rfl
   cases o' with
   |fbox sz' d'=>simp only [DObj.like] at h2;subst h2;exact .fptr n off _ b c d' h1 hρ
   |_=>exact h2.elim
  |false=>exact drop_box S hfb hm (.fptr n off sz b c d hl hρ)
 |dictv n b c es hl hρ =>
  unfold res
  cases hm:memB n kh with
  |true =>
   obtain ⟨o',h1,h2⟩:=hbox n _ hm hl rfl
   cases o' with
   |dict es'=>exact .dictv n b c es' h1 hρ
   |_=>exact h2.elim
  |false=>exact .pure (.undef _)
 |sitv n b c pos s hl hρ =>
  unfold res
  cases hm:memB n kh with
  |true =>
   obtain ⟨o',h1,h2⟩:=hbox n _ hm hl rfl
   cases o' with
   |siter s' p'=>exact .sitv n b c p' s' h1 hρ
   |_=>exact h2.elim
  |false=>exact .pure (.undef _)
 |yldv n l rest live hl =>
  unfold res
  cases hm:memB n kh with
  |true =>
   obtain ⟨o',h1,h2⟩:=hbox n _ hm hl rfl
   cases o' with
   |ghost r' v' l'=>simp only [DObj.like] at h2;obtain ⟨_,_,rfl⟩:=h2;exact .yldv n _ r' v' h1
   |_=>exact h2.elim
  |false=>exact .pure (.undef _)
 |nown n off len tot sz c isz es pd v hl ht hs hv =>
  unfold res
  cases hm:memB n kh with
  |true=>exact .nown n off len tot sz c isz es pd v (hnrow n sz c isz es pd hm hl) ht hs hv
  |false =>
   simp only [cond_false]
   split
   ·rename_i sz' es' fr' h0n
    have h1:=hfr n sz' es' fr' hm h0n
    rw [hl] at h1;cases h1
   ·exact .pure (.undef v)
 |nptr n i off tot sz c isz es pd v hl ht hi hs hv =>
  unfold res
  cases hm:memB n kh with
  |true=>exact .nptr n i off tot sz c isz es pd v (hnrow n sz c isz es pd hm hl) ht hi hs hv
  |false=>exact .pure (.undef v)
 |subv n i off len tot v hs hh =>
  unfold res
  cases hm:memB n kh with
  |true =>
   refine .subv n i off len tot v hs ?_
   rcases hh with ⟨sz,c,isz,es,pd,q1,q2,q3⟩|⟨sz,es,fr,q1⟩
   ·exact .inl ⟨sz,c,isz,es,pd,hnrow n sz c isz es pd hm q1,q2,q3⟩
   ·exact .inr ⟨sz,es,fr,hrow n sz es fr hm q1⟩
  |false=>exact .pure (.undef v)
 |sptrv n i j off tot v hs hh =>
  unfold res
  cases hm:memB n kh with
  |true =>
   refine .sptrv n i j off tot v hs ?_
   rcases hh with ⟨sz,c,isz,es,pd,q1,q2,q3⟩|⟨sz,es,fr,q1⟩
   ·exact .inl ⟨sz,c,isz,es,pd,hnrow n sz c isz es pd hm q1,q2,q3⟩
   ·exact .inr ⟨sz,es,fr,hrow n sz es fr hm q1⟩
  |false=>exact .pure (.undef v)
 |vl l b sz g _ _ _ _=>exact .pure (.undef _)
theorem tget_keepT (kh:List Nat) (lk:Nat→Option DObj) (t:Tmps):∀ (l:List Nat) (i:Nat),tget (keepT kh lk t l) i=if i ∈ l then res kh lk (tget t i) else .undef
 |[],i=>by simp [keepT,tget]
 |j :: r,i=>by
  unfold keepT
  rw [tget_cons,tget_keepT kh lk t r i]
  by_cases e:j=i
  ·subst e;simp
  ·simp [e,Ne.symm e]
theorem hlook_keepH (kh:List Nat) (lk:Nat→Option DObj):∀ (l:List Nat) (n:Nat),hlook (keepH kh lk l) n=if n ∈ l then (lk n).map (resObj kh lk) else none
 |[],n=>by simp [keepH,hlook]
 |j :: r,n=>by
  unfold keepH
  split
  ·rename_i o ho
   rw [hlook_cons,hlook_keepH kh lk r n]
   by_cases e:j=n
   ·subst e;simp [ho]
   ·simp [e,Ne.symm e]
  ·rename_i ho
   rw [hlook_keepH kh lk r n]
   by_cases e:j=n
   ·subst e;simp [ho]
   ·simp [e,Ne.symm e]
theorem boxesOk_get {kh:List Nat} {lk:Nat→Option DObj}:∀ {l:List Nat},boxesOk kh lk l=true→∀ n ∈ l,∀ sz d,lk n=some (.box sz d)→okE sz (res kh lk d)=true
 |[],_,n,hn=>by simp at hn
 |j :: r,hb,n,hn=>by
  intro sz d e
  unfold boxesOk at hb
  rcases List.mem_cons.1 hn with rfl|hn
  ·rw [e] at hb;simp only [Bool.and_eq_true] at hb;exact hb.1
  ·split at hb
   ·simp only [Bool.and_eq_true] at hb;exact boxesOk_get hb.2 n hn sz d e
   ·exact boxesOk_get hb n hn sz d e
theorem res_cells {kh:List Nat} {lk:Nat→Option DObj} (d:DV) (i:Nat) (hi:i < d.cells.length):(res kh lk d).cells.getD i .undef=res kh lk (d.cells.getD i .undef):=by
 cases d with
 |agg cs=>simp only [res,DV.cells] at *;exact ress_getD kh lk cs i hi
 |own n off len tot =>
  have hi0:i=0:=by simp [DV.cells] at hi;omega
  subst hi0
  show (res kh lk (.own n off len tot)).cells.getD 0 .undef=res kh lk (.own n off len tot)
  unfold res
  cases memB n kh
  ·simp only [cond_false];split
   ·split<;>rfl
   ·rfl
  ·rfl
 |ptr n a b c =>
  have hi0:i=0:=by simp [DV.cells] at hi;omega
  subst hi0
  show (res kh lk (.ptr n a b c)).cells.getD 0 .undef=res kh lk (.ptr n a b c)
  unfold res
  cases memB n kh<;>rfl
 |bptr n a =>
  have hi0:i=0:=by simp [DV.cells] at hi;omega
  subst hi0
  show (res kh lk (.bptr n a)).cells.getD 0 .undef=res kh lk (.bptr n a)
  unfold res
  cases memB n kh
  ·simp only [cond_false]
   split
   ·cases Nat.beq a 0 && pureB _<;>rfl
   ·cases Nat.beq a 0 && pureB _<;>rfl
   ·rfl
  ·rfl
 |dict n =>
  have hi0:i=0:=by simp [DV.cells] at hi;omega
  subst hi0
  show (res kh lk (.dict n)).cells.getD 0 .undef=res kh lk (.dict n)
  unfold res
  cases memB n kh<;>rfl
 |sub n a b c e =>
  have hi0:i=0:=by simp [DV.cells] at hi;omega
  subst hi0
  show (res kh lk (.sub n a b c e)).cells.getD 0 .undef=res kh lk (.sub n a b c e)
  unfold res
  cases memB n kh<;>rfl
 |sptr n a b c e =>
  have hi0:i=0:=by simp [DV.cells] at hi;omega
  subst hi0
  show (res kh lk (.sptr n a b c e)).cells.getD 0 .undef=res kh lk (.sptr n a b c e)
  unfold res
  cases memB n kh<;>rfl
 |_ =>
  have hi0:i=0:=by simp [DV.cells] at hi;omega
  subst hi0
  rfl
theorem Sim.keepR (S:Sim B nt M0 w0 M ρ t h a w) (kh kt:List Nat) (hk0:∀ n o,hlook B.h0 n=some o→n ∈ kh) (hbx:boxesOk kh (hlook h) kh=true):∃ M',Sim B nt M0 w0 M' ρ (keepT kh (hlook h) t kt) (keepH kh (hlook h) kh) a w∧(∀ d v,RelV M ρ h d v→RelV M' ρ (keepH kh (hlook h) kh) (res kh (hlook h) d) v)∧M.le M':=by
 obtain ⟨M1,m1,S1,m2,m3,m4,_⟩:=S.freeze ((h.map (·.1)).filter fun n=>!memB n kh)
 have hkeep:∀ n,memB n kh=true→hlook (Sh.freeze ((h.map (·.1)).filter fun n=>!memB n kh) h) n=hlook h n:=fun n hn=>by
  rw [freeze_look,decide_eq_false (fun hm=>by rw [List.mem_filter] at hm;simp [hn] at hm)]
  cases hl:hlook h n with
  |none=>rfl
  |some o=>simp [frz_false]
 have hfr:∀ n sz es fr,memB n kh=false→hlook h n=some (.row sz es fr)→hlook (Sh.freeze ((h.map (·.1)).filter fun n=>!memB n kh) h) n=some (.row sz es true):=fun n sz es fr hn hl=>by
  rw [m4 n sz es fr hl]
  have:n ∈ h.map (·.1):=Classical.byContradiction fun hc=>by rw [hlook_none hc] at hl;cases hl
  have h2:n ∈ (h.map (·.1)).filter fun n=>!memB n kh:=List.mem_filter.2 ⟨this,by simp [hn]⟩
  simp only [h2,decide_true,Bool.or_true]
 have hfb:∀ n sz d,memB n kh=false→hlook h n=some (.box sz d)∨hlook h n=some (.fbox sz d)→pureB d=true→hlook (Sh.freeze ((h.map (·.1)).filter fun n=>!memB n kh) h) n=some (.fbox sz d):=fun n sz d hn hl hp=>by
  have:n ∈ h.map (·.1):=Classical.byContradiction fun hc=>by rcases hl with hl|hl<;>(rw [hlook_none hc] at hl;cases hl)
  exact freeze_fbox (List.mem_filter.2 ⟨this,by simp [hn]⟩) hl hp
 have hk':∀ n,hlook (keepH kh (hlook h) kh) n=if memB n kh=true then (hlook h n).map (resObj kh (hlook h)) else none:=fun n=>by
  rw [hlook_keepH]
  by_cases e:n ∈ kh
  ·rw [if_pos e,if_pos ((memB_iff n kh).2 e)]
  ·rw [if_neg e,if_neg (fun h=>e ((memB_iff n kh).1 h))]
 have rel:∀ {d:DV} {v:Value},RelV M1 ρ (Sh.freeze ((h.map (·.1)).filter fun n=>!memB n kh) h) d v→RelV M1 ρ (keepH kh (hlook h) kh) (res kh (hlook h) d) v:=fun {d v} hr =>
  resV S1 hfr (fun n sz es fr hn hl=>by rw [hkeep n hn] at hl;rw [hk',if_pos hn,hl];rfl) (fun n sz c isz es pd hn hl=>by rw [hkeep n hn] at hl;rw [hk',if_pos hn,hl];rfl) (fun n o hn hl hr=>by rw [hkeep n hn] at hl;exact ⟨_,by rw [hk',if_pos hn,hl];rfl,like_resObj _ _ hr⟩) hfb hr
 have hx:Ext M0 B.ρ0 B.h0 M1 ρ (keepH kh (hlook h) kh):=by
  refine ⟨S1.le,fun n sz es fr hn=>?_,fun n o hn hr=>?_,fun n sz c isz es pd hn=>?_⟩
  ·obtain ⟨sz',es',fr',q1,q2,q3⟩:=S1.ext.row n sz es fr hn
   have hm:=(memB_iff n kh).2 (hk0 n _ hn)
   rw [hkeep n hm] at q1
   exact ⟨sz',es',fr',by rw [hk',if_pos hm,q1];rfl,q2,q3⟩
  ·obtain ⟨q1,o',q2,q3⟩:=S1.ext.box n o hn hr
   have hm:=(memB_iff n kh).2 (hk0 n _ hn)
   rw [hkeep n hm] at q2
   exact ⟨q1,_,by rw [hk',if_pos hm,q2];rfl,like_trans q3 (like_resObj _ _ (like_row q3))⟩
  ·have hm:=(memB_iff n kh).2 (hk0 n _ hn)
   rcases S1.ext.nrw n sz c isz es pd hn with ⟨es',pd',q1,q2⟩|⟨sz',es',fr',q1,q2,q3⟩
   ·rw [hkeep n hm] at q1
    exact .inl ⟨es',pd',by rw [hk',if_pos hm,q1];rfl,q2⟩
   ·rw [hkeep n hm] at q1
    exact .inr ⟨sz',es',fr',by rw [hk',if_pos hm,q1];rfl,q2,q3⟩
 have get:∀ {n:Nat} {o:DObj},hlook (keepH kh (hlook h) kh) n=some o→∃ o',hlook (Sh.freeze ((h.map (·.1)).filter fun n=>!memB n kh) h) n=some o'∧o=resObj kh (hlook h) o':=fun {n o} hn=>by
  rw [hk'] at hn
  by_cases e:memB n kh=true
  ·rw [hkeep n e]
   cases hl:hlook h n with
   |none=>rw [if_pos e,hl] at hn;cases hn
   |some o0=>rw [if_pos e,hl] at hn;simp only [Option.map_some,Option.some.injEq] at hn;exact ⟨o0,rfl,hn.symm⟩
  ·rw [if_neg e] at hn;cases hn
 refine ⟨M1,{ S1 with tm:=fun i=>?_,obj:=fun n o hn=>?_,dis:=fun n m o p b c b' c' hne hn hm e1 e2=>?_,dsub:=S1.dsub.of (fun n i b hs=>?_) (fun m o k b hm e=>?_),ext:=hx },fun d v hr=>rel (hr.ext m3),m1⟩
 ·rw [tget_keepT]
  by_cases e:i ∈ kt
  ·rw [if_pos e];exact rel (S1.tm i)
  ·rw [if_neg e];exact .pure (.undef _)
 ·rw [hk'] at hn
  by_cases e:memB n kh=true
  ·rw [if_pos e] at hn
   cases hl:hlook h n with
   |none=>rw [hl] at hn;cases hn
   |some o0 =>
    rw [hl] at hn
    simp only [Option.map_some,Option.some.injEq] at hn
    have h1:=S1.obj n o0 (by rw [hkeep n e];exact hl)
    cases o0 with
    |row sz es fr=>simp only [resObj] at hn;subst hn;exact h1
    |box sz d =>
     simp only [resObj] at hn;subst hn
     obtain ⟨b,c,q1,q2,cs,ty,q3,q4,q5,q6,q7⟩:=h1
     refine ⟨b,c,q1,q2,cs,ty,q3,q4,boxesOk_get hbx n ((memB_iff n kh).1 e) sz d hl,fun i hi=>?_,q7⟩
     have hsz:=(okE_spec q5).1
     rw [res_cells d i (by omega)]
     exact rel (q6 i hi)
    |fbox sz d=>simp only [resObj] at hn;subst hn;exact h1
    |dict es=>simp only [resObj] at hn;subst hn;exact h1
    |siter s pos=>simp only [resObj] at hn;subst hn;exact h1
    |ghost _ _ _=>simp only [resObj] at hn;subst hn;exact h1
    |nrow _ _ _ _ _=>simp only [resObj] at hn;subst hn;exact h1
  ·rw [if_neg e] at hn;cases hn
 ·obtain ⟨o1,h1,_⟩:=get hn
  obtain ⟨o2,h2,_⟩:=get hm
  exact S1.dis n m o1 o2 b c b' c' hne h1 h2 e1 e2
 ·obtain ⟨sz,c,isz,es,pd,l,k,q1,q2,q3⟩:=hs
  obtain ⟨o1,h1,h2⟩:=get q1
  have:o1=.nrow sz c isz es pd:=by cases o1<;>simp_all [resObj]
  subst this
  exact ⟨sz,c,isz,es,pd,l,k,h1,q2,q3⟩
 ·obtain ⟨o1,h1,_⟩:=get hm
  exact .inl ⟨o1,h1,e⟩
theorem Sim.keep (S:Sim B nt M0 w0 M ρ t h a w) (kh kt:List Nat) (hk0:∀ n o,hlook B.h0 n=some o→n ∈ kh) (hbx:boxesOk kh (hlook h) kh=true):∃ M',Sim B nt M0 w0 M' ρ (keepT kh (hlook h) t kt) (keepH kh (hlook h) kh) a w:=by
 obtain ⟨M',h1,_⟩:=S.keepR kh kt hk0 hbx
 exact ⟨M',h1⟩
theorem hlook_mem {h:Heap} {n:Nat} {o:DObj} (e:hlook h n=some o):n ∈ h.map (·.1) :=
 Classical.byContradiction fun hc=>by rw [hlook_none hc] at e;cases e
theorem keeps_kh {h:Heap} {kh:List Nat} (hk:(h.map (·.1)).all (memB · kh)=true):∀ n o,hlook h n=some o→n ∈ kh:=fun n o e =>
 (memB_iff n kh).1 (List.all_eq_true.1 hk n (hlook_mem e))
theorem Sim.keepK {k:Option Keep} {N:SP} (S:Sim B nt M0 w0 M ρ t h a w) (hk0:∀ k',k=some k'→∀ n o,hlook B.h0 n=some o→n ∈ k'.kh) (hk:Sh.keepK k t h N):∃ M' t' h',Sim B nt M0 w0 M' ρ t' h' a w∧N t' h':=by
 cases k with
 |none=>exact ⟨M,t,h,S,hk⟩
 |some k =>
  simp only [Sh.keepK,keepTK_eq,keepHK_eq,List.reverse_nil,List.nil_append] at hk
  obtain ⟨M',S'⟩:=S.keep k.kh k.kt (hk0 k rfl) hk.1
  exact ⟨M',_,_,S',hk.2⟩
theorem rowAt_cases {sz:Nat} (h:rowOk sz=true):rowAt sz=.row sz [] false∨∃ a c i,rowAt sz=.nrow a c i [] none∧c < a∧i≠0:=by
 unfold rowOk at h
 unfold rowAt
 cases hb:Nat.blt sz 1000000 with
 |true=>exact .inl rfl
 |false =>
  rw [hb,Bool.false_or,Bool.and_eq_true] at h
  have h1:=natblt_of h.1
  have h2:=natblt_of h.2
  exact .inr ⟨_,_,_,rfl,h1,by omega⟩
theorem curL_nil (c i:Nat):curL c [] none i=none:=innOf_undef c
theorem Sim.enter {i sz0:Nat} (S:Sim B nt M0 w0 M ρ t h a w) (ht:tget t i=.full []) (hn:hlook h i=none) (hok:rowOk sz0=true) :
  Sim B nt M0 w0 M (locOut ρ i) ((i,.own i 0 0 0) :: t) ((i,rowAt sz0) :: h) a w:=by
 have hl:∀ m,hlook ((i,rowAt sz0) :: h) m=if i=m then some (rowAt sz0) else hlook h m:=fun m=>hlook_cons _ _ _ _
 have hx:Ext M ρ h M (locOut ρ i) ((i,rowAt sz0) :: h):=by
  refine ⟨M.le_refl,fun m sz es fr e=>?_,fun m o e hk=>?_,fun m sz c isz es pd e=>?_⟩
  ·have hne:i≠m:=fun e2=>by subst e2;rw [hn] at e;cases e
   exact ⟨sz,es,fr,by rw [hl,if_neg hne];exact e,Nat.le_refl _,fun _=>⟨.inl rfl,locOut_ne ρ (Ne.symm hne)⟩⟩
  ·have hne:i≠m:=fun e2=>by subst e2;rw [hn] at e;cases e
   exact ⟨locOut_ne ρ (Ne.symm hne),o,by rw [hl,if_neg hne];exact e,like_refl hk⟩
  ·have hne:i≠m:=fun e2=>by subst e2;rw [hn] at e;cases e
   exact nrw_same (by rw [hl,if_neg hne];exact e) (locOut_ne ρ (Ne.symm hne)) (locOut_sub ρ (Ne.symm hne))
 refine { S with tm:=fun j=>?_,obj:=fun m o e=>?_,dis:=fun m m' o p b c b' c' hne e1 e2 e3 e4=>?_,dsub:=S.dsub.out rfl,ext:=S.ext.trans hx }
 ·rw [tget_cons]
  by_cases e:i=j
  ·subst e
   rw [if_pos rfl]
   have hr:=S.tm i
   rw [ht] at hr
   have hv:=hr.inv_full
   generalize a.tmps.getD i Go.undef=v at *
   cases hv with
   |full _ as_ sz b o g ha hsz hM hr' =>
    have hsl:∀ sz,SliceIs (locOut ρ i i) sz 0 0 0 (.slice as_ 0 0):=fun sz=>⟨Nat.le_refl _,by rw [locOut_self];exact ⟨as_,rfl⟩⟩
    rcases rowAt_cases hok with e0|⟨a0,c0,i0,e0,_,_⟩
    ·exact .own i 0 0 0 sz0 [] false _ (by rw [hl,if_pos rfl,e0]) (Nat.le_refl _) ⟨_,_,_,rfl⟩ (fun _=>hsl _)
    ·exact .nown i 0 0 0 a0 c0 i0 [] none _ (by rw [hl,if_pos rfl,e0]) (Nat.le_refl _) ⟨_,_,_,rfl⟩ (fun _=>hsl _)
  ·rw [if_neg e];exact (S.tm j).ext hx
 ·rw [hl] at e
  by_cases e2:i=m
  ·subst e2
   rw [if_pos rfl] at e
   rcases rowAt_cases hok with e0|⟨a0,c0,i0,e0,h1,h2⟩
   ·rw [e0] at e;cases e
    simp only [ObjRel,locOut_self]
   ·rw [e0] at e;cases e
    refine ⟨⟨h1,h2,fun l k e=>by cases e⟩,(fun j l e=>by rw [curL_nil] at e;cases e),?_⟩
    rw [locOut_self]
  ·rw [if_neg e2] at e
   exact (S.obj m o e).ext hx (locOut_ne ρ (Ne.symm e2)) (locOut_sub ρ (Ne.symm e2))
 ·rw [hl] at e1 e2
  by_cases h1:m=i
  ·rw [h1,locOut_self] at e3;cases e3
  ·by_cases h2:m'=i
   ·rw [h2,locOut_self] at e4;cases e4
   ·rw [if_neg (Ne.symm h1)] at e1;rw [if_neg (Ne.symm h2)] at e2
    rw [locOut_ne ρ h1] at e3;rw [locOut_ne ρ h2] at e4
    exact S.dis m m' o p b c b' c' hne e1 e2 e3 e4
theorem Sim.enterK {N:SP}:∀ {l:List (Nat×Nat)} {ρ:Locs} {t:Tmps} {h:Heap},Sim B nt M0 w0 M ρ t h a w→Sh.enterK l t h N→∃ ρ' t' h',Sim B nt M0 w0 M ρ' t' h' a w∧N t' h'
 |[],ρ,t,h,S,hk=>⟨ρ,t,h,S,hk⟩
 |(i,sz0) :: r,ρ,t,h,S,hk=>by
  unfold Sh.enterK at hk
  split at hk
  ·rename_i ht
   split at hk
   ·rename_i hn
    cases hok:rowOk sz0 with
    |false=>rw [hok] at hk;exact hk.elim
    |true=>rw [hok,cond_true] at hk;exact Sim.enterK (S.enter ht hn hok) hk
   ·exact Sim.enterK S hk
  ·exact Sim.enterK S hk
def DExit.toExit:DExit→Exit
 |.normal=>.normal
 |.exit i=>.exit i
 |.ret=>.ret
def ReadsQ (B:Base) (nt:Nat) (M0:Mem) (w0:World) (DQ:DExit→SP) (Q:Exit→Act→World→Prop):Prop :=
 ∀ e t h M ρ a w,DQ e t h→Sim B nt M0 w0 M ρ t h a w→Q e.toExit a w
variable {F:Fence} {n:Nat}
def DObj.isMap:DObj→Bool
 |.dict _=>true
 |.siter _ _=>true
 |_=>false
theorem Sim.map_block (S:Sim B nt M0 w0 M ρ t h a w) {n b c:Nat} {o:DObj} (hn:hlook h n=some o) (ho:o.isMap=true) (hρ:ρ n=some (b,c)) (ds:Option (List Deferred)):w.heap[b]?≠some (.deferred ds):=fun e=>by
 obtain ⟨_,ob,q1,q2⟩:=S.occ (.main hn hρ)
 rw [e] at q1;exact q2 _ (Option.some.inj q1).symm
theorem Sim.other (S:Sim B nt M0 w0 M ρ t h a w) {w':World} {a':Act} (ha:a'.tmps=a.tmps) (hk:∀ (k:Nat) (o:Obj),w.heap[k]?=some o→o.isCells=true→w'.heap[k]?=some o)
  (hd:∀ (n:Nat) (o:DObj) (b c:Nat),hlook h n=some o→o.isMap=true→ρ n=some (b,c)→w'.heap[b]?=w.heap[b]?) (hm:MarksOk B w' a'.defers) (hb:B.touch w0 w'):Sim B nt M0 w0 M ρ t h a' w':=by
 refine { S with tm:=fun i=>(by rw [ha];exact S.tm i),mem:=fun b o v e=>?_,obj:=fun n o hn=>?_,below:=hb,marks:=hm,size:=(by rw [ha];exact S.size) }
 ·have h1:=S.mem b o v e
  obtain ⟨ob,h2,h3⟩:=cells_of_cell h1
  have h4:=hk _ ob h2 h3
  rw [World.cell?_of_block (w:=w) (w':=w') (a:=⟨b,o,none⟩) (by rw [h2];exact h4)];exact h1
 ·have h1:=S.obj n o hn
  cases o with
  |row sz es fr =>
   simp only [ObjRel] at h1 ⊢
   cases hρ:ρ n with
   |none=>rw [hρ] at h1;exact h1
   |some bc =>
    obtain ⟨b,c⟩:=bc
    rw [hρ] at h1
    obtain ⟨h2,cs,ty,⟨fz,h3,h5⟩,h4⟩:=h1
    exact ⟨h2,cs,ty,⟨fz,hk _ _ h3 rfl,h5⟩,h4⟩
  |box sz d =>
   obtain ⟨b,c,h1,h2,cs,ty,h3,h4⟩:=h1
   exact ⟨b,c,h1,h2,cs,ty,hk _ _ h3 rfl,h4⟩
  |fbox sz d =>
   obtain ⟨b,c,h1,h2,cs,ty,h3,h4⟩:=h1
   exact ⟨b,c,h1,h2,cs,ty,hk _ _ h3 rfl,h4⟩
  |dict es =>
   obtain ⟨b,c,h1,h2,⟨E,h3,h4⟩,h5⟩:=h1
   exact ⟨b,c,h1,h2,⟨E,by rw [hd n _ b c hn rfl h1];exact h3,h4⟩,h5⟩
  |siter s pos =>
   obtain ⟨b,c,h1,h2,h3,h5⟩:=h1
   exact ⟨b,c,h1,h2,by rw [hd n _ b c hn rfl h1];exact h3,h5⟩
  |ghost _ _ _=>exact h1
  |nrow sz c isz es pd =>
   obtain ⟨g1,g2,g3⟩:=h1
   refine ⟨g1,fun i l e=>(g2 i l e).heap rfl (fun b k hb=>?_),?_⟩
   ·have:=g2 i l e
    unfold InnerAt at this
    rw [hb] at this
    obtain ⟨_,cs,ty,q,_⟩:=this
    rw [q];exact hk _ _ q rfl
   ·cases hρ:ρ n with
    |none=>rw [hρ] at g3;exact g3
    |some bc =>
     obtain ⟨b,c'⟩:=bc
     rw [hρ] at g3
     obtain ⟨k1,cs,ty,k2,k3⟩:=g3
     exact ⟨k1,cs,ty,hk _ _ k2 rfl,k3⟩
theorem putObj_other {w:World} {b:Nat} {o o':Obj} (hb:w.heap[b]?=some o') (ho:o'.isCells=false) (k:Nat) (x:Obj) (hx:w.heap[k]?=some x) (hc:x.isCells=true):(w.putObj b o).heap[k]?=some x:=by
 have hne:k≠b:=fun e=>by subst e;rw [hb] at hx;cases hx;rw [ho] at hc;cases hc
 rw [World.putObj_heap_other hne];exact hx
theorem ObjRel.moved {B B':Base} {M:Mem} {ρ:Locs} {h h':Heap} {w w':World} {n:Nat} {o:DObj} (ho:ObjRel B M ρ h w n o) (hr:∀ d v,RelV M ρ h d v→RelV M ρ h' d v)
  (hb:∀ b,OnB ρ n o b→B'.wr b∧w'.heap[b]?=w.heap[b]?) (hg:B.gh=true→B'.gh=true):ObjRel B' M ρ h' w' n o :=
 ho.turn hr M.le_refl rfl rfl (fun b e=>⟨fun _=>(hb b e).1,(hb b e).2,id⟩) hg
end
theorem ObjRel.base {B B':Base} {M:Mem} {ρ:Locs} {h:Heap} {w:World} {n:Nat} {o:DObj} (ho:ObjRel B M ρ h w n o) (hb:∀ b,OnB ρ n o b→B'.wr b) (hg:B.gh=true→B'.gh=true):ObjRel B' M ρ h w n o :=
 ho.turn (fun _ _ r=>r) M.le_refl rfl rfl (fun b e=>⟨fun _=>hb b e,rfl,id⟩) hg
theorem callL_of {ρ:Locs} {h:Heap} {n b:Nat} (ho:Occ ρ h n b):(∃ n o c,hlook h n=some o∧ρ n=some (b,c))∨∃ n i,SubAt ρ h n i b:=by
 rcases ho.cases with ⟨o,c,q1,q2⟩|⟨i,q1⟩
 ·exact .inl ⟨n,o,c,q1,q2⟩
 ·exact .inr ⟨n,i,q1⟩
def noGo (Q:Exit→Act→World→Prop):Exit→Act→World→Prop
 |.goto _,_,_=>False
 |e,a,w=>Q e a w
theorem wpIn_scope_plain {F:Fence} {n:Nat} {P:Program} {Q:Exit→Act→World→Prop} {a:Act} {w:World} {c:Code} (h:c.wpIn F n P (noGo Q) a w):(Code.scope c).wpIn F n P Q a w:=by
 intro b k cs hro hb hr
 have h0:(lone (b.atR a (.code (.scope c) :: k)) cs w).fenced P F:=fenced_calm hb hr rfl
 have s0:step P (lone (b.atR a (.code (.scope c) :: k)) cs w)=.next (lone (b.atR a (.code c :: .inScope c :: k)) cs w):=step_lone_go (by simp [stepG,stepG.exec,Frame.atR])
 obtain ⟨e,a₁,w₁,hq,harr⟩:=h b (.inScope c :: k) cs hro hb hr
 cases e with
 |normal =>
  have s1:step P (lone (b.atR a₁ (.inScope c :: k)) cs w₁)=.next (lone (b.atR a₁ k) cs w₁):=step_lone_go (by simp [stepG,stepG.exec,Frame.atR])
  exact ⟨.normal,a₁,w₁,hq,.head h0 s0 (StepsIn.trans harr (.one (fenced_calm (fr:=b.atR a₁ (.inScope c :: k)) hb hr rfl) s1))⟩
 |exit id =>
  have hx:exitTo id (.inScope c :: k)=exitTo id k:=by simp [exitTo]
  exact ⟨.exit id,a₁,w₁,hq,fun k' hk=>.head h0 s0 (harr.1 k' (by rw [hx];exact hk)),fun hr' hk=>let ⟨k₁,h1,h2⟩:=harr.2 hr' (by rw [hx];exact hk);⟨k₁,h1,.head h0 s0 h2⟩⟩
 |goto l=>exact hq.elim
 |ret=>exact ⟨_,a₁,w₁,hq,.of_steps (.one h0 s0) harr⟩
 |panic ch=>exact ⟨_,a₁,w₁,hq,.of_steps (.one h0 s0) harr⟩
 |outgrown=>exact ⟨_,a₁,w₁,hq,.of_steps (.one h0 s0) harr⟩
end Sh

namespace Sh
open Go
section
variable {P:Program} {G:Nat→Option DV} {B:Base} {nt:Nat} {M0:Mem} {w0:World} {M:Mem} {ρ:Locs} {t:Tmps} {h:Heap} {a:Act} {w:World} {F:Fence} {n:Nat}
theorem Sim.stayed (S:Sim B nt M0 w0 M ρ t h a w) {K C:Nat→Prop} {W':World} (hC:∀ b,C b→B.wr b) (hK:∀ n b,Occ ρ h n b→K b) (hM:∀ b o v,M b o=some v→K b∨(b < B.lo∧¬ C b))
  (hd:a.defers=[]) (st:Stays B.lo C K w W'):Sim B nt M0 w0 M ρ t h a W':=by
 refine { S with mem:=fun b o v e=>?_,obj:=fun n o e=>?_,below:=?_,marks:=?_ }
 ·have hlt:b < w.heap.size:=by
   false_or_by_contra
   rename_i hlt
   have:=S.free_mem (b:=b) (by omega) o
   rw [this] at e;cases e
  rw [World.cell?_of_block (w:=w) (w':=W') (a:=⟨b,o,none⟩) (st.block b hlt (hM b o v e))]
  exact S.mem b o v e
 ·exact (S.obj n o e).moved (fun _ _ r=>r) (fun b hb=>⟨(S.occ ⟨o,e,hb⟩).1,st.block b (S.occ_lt ⟨o,e,hb⟩) (.inl (hK n b ⟨o,e,hb⟩))⟩) id
 ·refine S.below.trans ⟨st.os,st.tape,st.output,st.size,fun k hk=>?_⟩
  have hlo:k < B.lo:=by
   false_or_by_contra
   rename_i h1
   exact hk (.inl (by omega))
  exact st.block k (Nat.lt_of_lt_of_le hlo S.Bsize) (.inr ⟨hlo,fun hc=>hk (hC k hc)⟩)
 ·rw [hd];exact ⟨fun d hd=>by simp at hd,.nil,fun _=>rfl⟩
def jumpOf:DExit→Option Code
 |.normal=>none
 |.exit i=>some (.exit i)
 |.ret=>some .ret
def RJ (B:Base) (nt:Nat) (M1:Mem) (W1:World) (t:Tmps) (tm:Array Value) (kh:List Nat) (R:List (List DV)→Heap→Prop) (DQ:DExit→SP) (C:Nat→Prop) (l D:Nat) (rec:LoopState→Option Code→Loop):ProtoJ:=fun rest live K W =>
 ∃ M ρ h,Sim B nt M1 W1 M ρ t h { tmps:=tm,defers:=[] } W∧(∀ n o,hlook h n=some o→n ∈ kh)∧(∀ n b,Occ ρ h n b→K b)∧(∀ b o v,M b o=some v→K b∨(b < B.lo∧¬ C b))∧K l∧K D∧l < W.heap.size∧D < W.heap.size ∧
  W.heap[D]?=some (.deferred (some [])) ∧
  ((live=true∧R rest h∧W.heap[l]?=some (.loop (rec .ready none)))∨(live=false∧∃ e,e≠.normal∧DQ e t h∧W.heap[l]?=some (.loop (rec .done (jumpOf e)))))
theorem RJ.stays {M1:Mem} {W1:World} {tm:Array Value} {kh:List Nat} {R:List (List DV)→Heap→Prop} {DQ:DExit→SP} {C:Nat→Prop} {l D:Nat} {rec:LoopState→Option Code→Loop} (hC:∀ b,C b→B.wr b) (r:List (List DV)) (b:Bool) (K:Nat→Prop) (W W':World)
  (hJ:RJ B nt M1 W1 t tm kh R DQ C l D rec r b K W) (st:Stays B.lo C K W W'):RJ B nt M1 W1 t tm kh R DQ C l D rec r b K W':=by
 obtain ⟨M,ρ,h,S,hnm,hK,hM,kl,kD,ll,lD,hD,hr⟩:=hJ
 refine ⟨M,ρ,h,S.stayed hC hK hM rfl st,hnm,hK,hM,kl,kD,Nat.lt_of_lt_of_le ll st.size,Nat.lt_of_lt_of_le lD st.size,by rw [st.block D lD (.inl kD)];exact hD,?_⟩
 rw [st.block l ll (.inl kl)]
 exact hr
def freshB (w:World) (ρ:Locs) (h:Heap):Base:=⟨w.heap.size,fun b=>∃ n,Occ ρ h n b,ρ,h,false,true⟩
theorem Sim.rebase (S:Sim B nt M0 w0 M ρ t h a w) (hgh:B.gh=false) (hd:a.defers=[]):Sim (freshB w ρ h) nt M w M ρ t h a w :=
 {S with le:=M.le_refl,obj:=fun n o e=>(S.obj n o e).base (fun b hb=>.inr ⟨n,o,e,hb⟩) (fun e=>by rw [hgh] at e;cases e),below:=Base.touch.refl _ _,hB:=rfl,new:=fun b o v e e0=>(by rw [e] at e0;cases e0),marks:=(by rw [hd];exact ⟨fun d hd=>by simp at hd,.nil,fun _=>rfl⟩),ext:=Ext.refl _ _ _ }
theorem fresh_wr (S:Sim B nt M0 w0 M ρ t h a w) {b:Nat} (hb:(freshB w ρ h).wr b):B.wr b:=by
 rcases hb with hb|⟨n,e1⟩
 ·exact .inl (Nat.le_trans S.Bsize hb)
 ·exact (S.occ e1).1
theorem occ_not_loop (S:Sim B nt M0 w0 M ρ t h a w) {n b:Nat} (ho:Occ ρ h n b) (x:Loop):w.heap[b]?≠some (.loop x):=fun e=>by
 obtain ⟨o,hl,hob⟩:=ho
 have ho:=S.obj n o hl
 rcases hob with ⟨c,hρ⟩|⟨sz,c,isz,es,pd,i,l,k,rfl,e1,e2⟩
 ·cases o with
  |row sz es fr=>simp only [ObjRel,hρ] at ho;obtain ⟨_,cs,ty,⟨fz,q,_⟩,_⟩:=ho;rw [e] at q;cases q
  |box sz d=>obtain ⟨b',c',q1,q2,cs,ty,q3,_⟩:=ho;rw [hρ] at q1;cases q1;rw [e] at q3;cases q3
  |fbox sz d=>obtain ⟨b',c',q1,q2,cs,ty,q3,_⟩:=ho;rw [hρ] at q1;cases q1;rw [e] at q3;cases q3
  |dict es=>obtain ⟨b',c',q1,q2,⟨E,q3,_⟩,_⟩:=ho;rw [hρ] at q1;cases q1;rw [e] at q3;cases q3
  |siter s p=>obtain ⟨b',c',q1,q2,q3,_⟩:=ho;rw [hρ] at q1;cases q1;rw [e] at q3;cases q3
  |ghost _ _ _=>obtain ⟨q1,_⟩:=ho;rw [hρ] at q1;cases q1
  |nrow sz c' isz es pd =>
   obtain ⟨_,_,g3⟩:=ho
   rw [hρ] at g3
   obtain ⟨_,cs,ty,q,_⟩:=g3
   rw [e] at q;cases q
 ·obtain ⟨_,g2,_⟩:=ho
  have:=g2 i l e1
  unfold InnerAt at this
  rw [e2] at this
  obtain ⟨_,cs,ty,q,_⟩:=this
  rw [e] at q;cases q
theorem occ_not_deferred (S:Sim B nt M0 w0 M ρ t h a w) {n b:Nat} (ho:Occ ρ h n b) (x:Option (List Deferred)):w.heap[b]?≠some (.deferred x):=fun e=>by
 obtain ⟨_,ob,q1,q2⟩:=S.occ ho
 rw [e] at q1;exact q2 _ (Option.some.inj q1).symm
theorem loc_not_loop (S:Sim B nt M0 w0 M ρ t h a w) {n b c:Nat} {o:DObj} (hl:hlook h n=some o) (hρ:ρ n=some (b,c)) (x:Loop):w.heap[b]?≠some (.loop x):=occ_not_loop S (.main hl hρ) x
theorem Sim.putLoop (S:Sim B nt M0 w0 M ρ t h a w) {l:Nat} {x:Loop} (y:Obj) (hl:w.heap[l]?=some (.loop x)) (hw:B.wr l) (hd:a.defers=[]):Sim B nt M0 w0 M ρ t h a (w.putObj l y) :=
 S.other rfl (putObj_other hl rfl) (fun n o b c hn _ hρ=>World.putObj_heap_other (fun e=>by subst e;exact loc_not_loop S hn hρ x hl)) (by rw [hd];exact ⟨fun d hd=>by simp at hd,.nil,fun _=>rfl⟩)
  (S.below.trans ⟨rfl,rfl,rfl,by simp,fun k hk=>World.putObj_heap_other (fun e=>hk (by rw [e];exact hw))⟩)
theorem setPs_rel:∀ (ps:List Nat) (x:List DV) (vs:List Value) (t:Tmps) (T:Array Value),ps.length=x.length→x.length=vs.length→(∀ p ∈ ps,p < T.size)→(∀ i,i < x.length→RelV M ρ h (x.getD i .undef) (vs.getD i Go.undef)) →
  (∀ i,RelV M ρ h (tget t i) (T.getD i Go.undef))→∀ i,RelV M ρ h (tget (setPs ps x t) i) (((ps.zip vs).foldl (fun t (p,v)=>t.setIfInBounds p v) T).getD i Go.undef)
 |[],[],[],t,T,_,_,_,_,ht,i=>ht i
 |p :: ps,d :: x,v :: vs,t,T,h1,h2,h3,h4,ht,i=>by
  refine setPs_rel ps x vs ((p,d) :: t) (T.setIfInBounds p v) (by simpa using h1) (by simpa using h2) (fun q hq=>by simpa using h3 q (List.mem_cons_of_mem _ hq)) (fun j hj=>by simpa using h4 (j+1) (by simpa using hj)) (fun j=>?_) i
  rw [tget_cons]
  by_cases e:p=j
  ·subst e
   have hp:=h3 p (List.mem_cons_self ..)
   rw [if_pos rfl]
   have:(T.setIfInBounds p v).getD p Go.undef=v:=by simp [Array.getD_eq_getD_getElem?,hp]
   rw [this];simpa using h4 0 (by simp)
  ·rw [if_neg e]
   have:(T.setIfInBounds p v).getD j Go.undef=T.getD j Go.undef:=by simp [Array.getD_eq_getD_getElem?,Array.getElem?_setIfInBounds,e]
   rw [this];exact ht j
 |[],[],_ :: _,_,_,_,h2,_,_,_,_=>by simp at h2
 |[],_ :: _,_,_,_,h1,_,_,_,_,_=>by simp at h1
 |_ :: _,[],_,_,_,h1,_,_,_,_,_=>by simp at h1
 |_ :: _,_ :: _,[],_,_,_,h2,_,_,_,_=>by simp at h2
def bodyB (W w2:World) (ρ:Locs) (h:Heap) (ρ1:Locs) (h1:Heap):Base:=⟨w2.heap.size,fun b=>(∃ n,Occ ρ1 h1 n b)∨(freshB W ρ h).wr b,ρ,h,false,true⟩
theorem Sim.toBody {M1:Mem} {ρ1:Locs} {t1:Tmps} {h1:Heap} {a1:Act} {w1:World} (S:Sim (freshB w ρ h) nt M w M1 ρ1 t1 h1 a1 w1) (hd:a1.defers=[]) {l:Nat} {x:Loop} (y:Obj) (hl:w1.heap[l]?=some (.loop x)) :
  Sim (bodyB w (w1.putObj l y) ρ h ρ1 h1) nt M (w1.putObj l y) M1 ρ1 t1 h1 a1 (w1.putObj l y):=by
 have hput:∀ k,k≠l→(w1.putObj l y).heap[k]?=w1.heap[k]?:=fun k hk=>World.putObj_heap_other hk
 have S0:Sim ⟨w.heap.size,fun b=>(∃ n,Occ ρ h n b)∨b=l,ρ,h,false,true⟩ nt M w M1 ρ1 t1 h1 a1 w1 :=
  {S with obj:=fun n o e=>(S.obj n o e).base (fun b hb=>by rcases (S.occ ⟨o,e,hb⟩).1 with q|q;exact .inl q;exact .inr (.inl q)) (fun e=>Bool.noConfusion e),below:=⟨S.below.os,S.below.tape,S.below.output,S.below.size,fun k hk=>S.below.block k (fun q=>hk (by rcases q with q|q;exact .inl q;exact .inr (.inl q)))⟩,new:=fun b o v e e0=>(by rcases S.new b o v e e0 with q|q;exact .inl q;exact .inr (.inl q)),marks:=(by rw [hd];exact ⟨fun d hd=>by simp at hd,.nil,fun _=>rfl⟩) }
 have S2:=S0.putLoop y hl (.inr (.inr rfl)) hd
 exact { S2 with obj:=fun n o e=>(S2.obj n o e).base (fun b hb=>.inr (.inl ⟨n,o,e,hb⟩)) (fun e=>Bool.noConfusion e),below:=Base.touch.refl _ _,hB:=rfl,new:=fun b o v e e0=>.inr (.inr (S.new b o v e e0)),marks:=(by rw [hd];exact ⟨fun d hd=>by simp at hd,.nil,fun _=>rfl⟩) }
theorem body_wr {M1:Mem} {ρ1:Locs} {t1:Tmps} {h1:Heap} {a1:Act} {w1 w2:World} (S:Sim (freshB w ρ h) nt M w M1 ρ1 t1 h1 a1 w1) (hs:w.heap.size≤w2.heap.size) {b:Nat} (hb:(bodyB w w2 ρ h ρ1 h1).wr b):(freshB w ρ h).wr b:=by
 rcases hb with hb|⟨n,e1⟩|hb
 ·exact .inl (Nat.le_trans hs hb)
 ·exact (S.occ e1).1
 ·exact hb
theorem from_new (S:Sim B nt M0 w0 M ρ t h a w) {M3:Mem} {p:Nat→Prop} (hn:∀ b o v,M3 b o=some v→M b o=none→p b) (wr:∀ {b},p b→B.wr b) {b o:Nat} {v:Value} (e:M3 b o=some v) (e0:M0 b o=none):B.wr b:=by
 cases e1:M b o with
 |none=>exact wr (hn b o v e e1)
 |some u=>exact S.new b o u e1 e0
theorem Sim.fromBody (S:Sim B nt M0 w0 M ρ t h a w) (hgh:B.gh=false) {M1:Mem} {ρ1:Locs} {t1:Tmps} {h1:Heap} {a1:Act} {w1:World} (S1:Sim (freshB w ρ h) nt M w M1 ρ1 t1 h1 a1 w1) {l:Nat} {x z:Loop} (y:Obj) (hl:w1.heap[l]?=some (.loop x)) (hlB:B.wr l)
  {M3:Mem} {ρ3:Locs} {t3:Tmps} {h3:Heap} {a3:Act} {w3:World} (S3:Sim (bodyB w (w1.putObj l y) ρ h ρ1 h1) nt M (w1.putObj l y) M3 ρ3 t3 h3 a3 w3) (h3d:a3.defers=[]) (hl3:w3.heap[l]?=some (.loop z)) (y':Obj) :
  Sim B nt M0 w0 M3 ρ3 t3 h3 a3 (w3.putObj l y'):=by
 have hs:w.heap.size≤(w1.putObj l y).heap.size:=by have:=S1.below.size;simpa using this
 have wr:∀ {b},(bodyB w (w1.putObj l y) ρ h ρ1 h1).wr b→B.wr b:=fun hb=>fresh_wr S (body_wr S1 hs hb)
 have S4:Sim B nt M0 w0 M3 ρ3 t3 h3 a3 w3 :=
  {S3 with le:=Mem.le_trans S.le S3.le,obj:=fun n o e=>(S3.obj n o e).base (fun b hb=>wr (S3.occ ⟨o,e,hb⟩).1) (fun e=>Bool.noConfusion e),below:=((S.below.trans ⟨S1.below.os,S1.below.tape,S1.below.output,S1.below.size,fun k hk=>S1.below.block k (fun q=>hk (fresh_wr S q))⟩).trans (w'':=w1.putObj l y) ⟨rfl,rfl,rfl,by simp,fun k hk=>World.putObj_heap_other (fun e=>hk (by rw [e];exact hlB))⟩).trans ⟨S3.below.os,S3.below.tape,S3.below.output,S3.below.size,fun k hk=>S3.below.block k (fun q=>hk (wr q))⟩,hB:=S.hB,new:=fun b o v e e0=>from_new S S3.new wr e e0,marks:=(by rw [h3d];exact ⟨fun d hd=>by simp at hd,.nil,fun _=>rfl⟩),ext:=S.ext.trans S3.ext }
 exact S4.putLoop y' hl3 hlB h3d
def RunsAs (P:Program) (G:Nat→Option DV) (nt:Nat) (c:Code) (dc:DC):Prop :=
 ∀ {F:Fence} {n:Nat} {B:Base} {M0:Mem} {w0:World},GOk G M0→OpenB G F B w0→F.depth=none→B.gh=false→(F.round=none∧B.nd=false∨noRange dc=true)→keepsAll (B.h0.map (·.1)) dc=true →
  ∀ {DQ:DExit→SP} {t:Tmps} {h:Heap},dwp P G dc DQ t h→∀ {M:Mem} {ρ:Locs} {a:Act} {w:World},Sim B nt M0 w0 M ρ t h a w→∀ {Q:Exit→Act→World→Prop},ReadsQ B nt M0 w0 DQ Q→c.wpIn F n P Q a w
theorem keepsAll_sub {ns ms:List Nat} (hs:∀ n ∈ ns,n ∈ ms):∀ {c:DC},keepsAll ms c=true→keepsAll ns c=true:=by
 have key:∀ {kh:List Nat},ms.all (memB · kh)=true→ns.all (memB · kh)=true:=fun h=>List.all_eq_true.2 fun n hn=>List.all_eq_true.1 h n (hs n hn)
 intro c
 induction c with
 |seq a b iha ihb=>simp only [keepsAll,Bool.and_eq_true];exact fun h=>⟨iha h.1,ihb h.2⟩
 |cond _ a b iha ihb=>simp only [keepsAll,Bool.and_eq_true];exact fun h=>⟨iha h.1,ihb h.2⟩
 |block _ k a ih =>
  cases k with
  |none=>simp only [keepsAll,Bool.true_and];exact ih
  |some k=>simp only [keepsAll,Bool.and_eq_true];exact fun h=>⟨key h.1,ih h.2⟩
 |loop k b ih=>simp only [keepsAll,Bool.and_eq_true];exact fun h=>⟨key h.1,ih h.2⟩
 |rangeF k f ps a b iha ihb=>simp only [keepsAll,Bool.and_eq_true];exact fun h=>⟨key h.1,iha h.2.1,ihb h.2.2⟩
 |_=>exact fun _=>rfl
theorem fresh_not {b:Nat} {ρ:Locs} {h:Heap} (S:Sim B nt M0 w0 M ρ t h a w) {x:Obj} (hb:w.heap[b]?=some x) (hn:∀ n,Occ ρ h n b→False):¬ (freshB w ρ h).wr b:=by
 rintro (q|⟨n,e1⟩)
 ·have:=(Array.getElem?_eq_some_iff.1 hb).1
  have q:w.heap.size≤b:=q
  omega
 ·exact hn n e1
theorem foldl_size:∀ (l:List (Nat×Value)) (T:Array Value),(l.foldl (fun t (p,v)=>t.setIfInBounds p v) T).size=T.size
 |[],_=>rfl
 |(p,v) :: r,T=>by
  rw [List.foldl_cons,foldl_size r];simp
theorem hlook_some:∀ {h:Heap} {n:Nat},n ∈ h.map (·.1)→∃ o,hlook h n=some o
 |(k,o) :: r,n,hn=>by
  by_cases e:k=n
  ·exact ⟨o,by rw [hlook_cons,if_pos e]⟩
  ·obtain ⟨o',h1⟩:=hlook_some (h:=r) (n:=n) (by
    rcases List.mem_cons.1 (by simpa using hn:n ∈ k :: r.map (·.1)) with h|h
    ·exact absurd h.symm e
    ·exact h)
   exact ⟨o',by rw [hlook_cons,if_neg e];exact h1⟩
theorem RJ.round {M1:Mem} {W1:World} {tm:Array Value} {kh:List Nat} {dx dy:DC} {asn bd:Code} {DQ:DExit→SP} {C:Nat→Prop} {l D:Nat} {fnid:FuncId} {ps:Array Tmp} {rec:LoopState→Option Code→Loop}
  (hrec:rec=fun st pe=>{ state:=st,pending:=pe,fn:=fnid,tmps:=tm,params:=ps,assign:=asn,body:=bd,defers:=D })
  (hG:GOk G M1) (hF:OpenB G F B W1) (hd:F.depth=none) (hgh:B.gh=false) (hlB:B.wr l) (hA:RunsAs P G nt asn dx) (hBd:RunsAs P G nt bd dy) (hnx:noRange dx=true) (hny:noRange dy=true)
  (hkx:keepsAll kh dx=true) (hky:keepsAll kh dy=true) (hps:∀ p ∈ ps.toList,p < nt) {x:List DV} {r:List (List DV)} {K:Nat→Prop} {W:World} {args:Array Value} (m:Nat) (hx:x.length=ps.size)
  (hJ:RJ B nt M1 W1 t tm kh (fun r h=>roundsN (fun R=>dwp P G dx (seqQ (dwp P G dy R) fun _ _ _=>False)) kh ps.toList DQ t r h) DQ C l D rec (x :: r) true K W) (hKs:∀ b,K b→b < W.heap.size) (hargs:RelPs (fun _ _=>none) x args) :
  ∃ fn tmps assign body,(Instr.yield l args).run P W=.ok (.round l fn tmps assign body) W ∧
   RoundIn F m P l fn tmps assign body W fun e W'=>∃ b K',e=.returned (.bool b)∧RJ B nt M1 W1 t tm kh (fun r h=>roundsN (fun R=>dwp P G dx (seqQ (dwp P G dy R) fun _ _ _=>False)) kh ps.toList DQ t r h) DQ C l D rec r b K' W' ∧
    (∀ k,K' k→K k∨W.heap.size≤k)∧(∀ k,K k→K' k)∧(∀ k,K' k→k < W'.heap.size)∧Turns K W W':=by
 obtain ⟨M,ρ,h,S,hnm,hK,hM,kl,kD,ll,lD,hD,⟨_,hR,hl⟩|⟨h0,_⟩⟩:=hJ
 ·have hsz:args.size=ps.size:=by rw [← hargs.1,hx]
  have hy:=run_yield (P:=P) (args:=args) hl (by rw [hrec];exact hsz)
  rw [hrec] at hy
  refine ⟨_,_,_,_,hy,roundIn_of_wpIn (hF.fn _) ?_⟩
  have S0:=S.rebase hgh rfl
  have hnotl:¬ (freshB W ρ h).wr l:=fresh_not S hl (fun n e1=>occ_not_loop S e1 _ hl)
  have hnotD:¬ (freshB W ρ h).wr D:=fresh_not S hD (fun n e1=>occ_not_deferred S e1 _ hD)
  have hkhs:∀ n ∈ h.map (·.1),n ∈ kh:=fun n hn=>by
   obtain ⟨o,e⟩:=hlook_some hn
   exact hnm n o e
  have hT:Sim (freshB W ρ h) nt M W M ρ (setPs ps.toList x t) h { tmps:=(ps.zip args).foldl (fun t (p,v)=>t.setIfInBounds p v) tm,defers:=[] } W:=by
   refine { S0 with tm:=fun i=>?_,size:=?_ }
   ·have:=setPs_rel (M:=M) (ρ:=ρ) (h:=h) ps.toList x args.toList t tm (by simpa using hx.symm) (by simpa using hargs.1) (fun p hp=>by have h2:tm.size=nt:=S.size;rw [h2];exact hps p hp)
     (fun i hi=>.pure ((by simpa [Array.getD_eq_getD_getElem?,List.getD_eq_getElem?_getD] using hargs.2 i hi:RelP (fun _ _=>none) (x.getD i .undef) (args.toList.getD i Go.undef)).mono (fun b o v e=>by cases e))) S.tm i
    rw [← Array.foldl_toList,Array.toList_zip]
    exact this
   ·show ((ps.zip args).foldl (fun t (p,v)=>t.setIfInBounds p v) tm).size=nt
    rw [← Array.foldl_toList,foldl_size]
    exact S.size
  refine hA (F:=F.inRound l) (hG.mono S.le) ⟨⟨hF.fn,hF.quiet⟩,hF.tb.touch S.below (fun k hk h=>fresh_wr S h)⟩ hd rfl (.inr hnx) (keepsAll_sub hkhs hkx) hR hT ?_
  intro e t1 h1 M1' ρ1 a1 w1 hq S1
  cases e with
  |exit i=>exact hq.elim
  |ret=>exact hq.elim
  |normal =>
   have hl1:w1.heap[l]?=some (.loop (rec .ready none)):=by rw [S1.below.block l hnotl];exact hl
   have hd1:a1.defers=[]:=S1.marks.2.2 rfl
   refine ⟨_,run_beginRound hl1 (by rw [hrec]),?_⟩
   have tbBody:Tb G (w1.putObj l (.loop { rec .ready none with state:=.busy })) (bodyB W (w1.putObj l (.loop { rec .ready none with state:=.busy })) ρ h ρ1 h1).wr:=by
    refine (hF.tb.touch S.below (q:=fun b=>(freshB W ρ h).wr b∨b=l) (fun k hk h=>?_)).step (fun k hk hn=>?_) (by simpa using S1.below.size) (fun k hk hb=>.inl (body_wr S1 (by simpa using S1.below.size) hb))
    ·rcases h with h|rfl
     ·exact fresh_wr S h
     ·exact hlB
    ·rw [World.putObj_heap_other (fun e=>hn (.inr e))]
     exact S1.below.block k (fun q=>hn (.inl q))
   have S2:=S1.toBody hd1 (.loop { rec .ready none with state:=.busy }) hl1
   refine hBd (F:=F.inRound l) (hG.mono S.le) ⟨⟨hF.fn,hF.quiet⟩,tbBody⟩ hd rfl (.inr hny) (keepsAll_sub hkhs hky) hq S2 ?_
   intro e t3 h3 M3 ρ3 a3 w3 hq3 S3
   have hd3:a3.defers=[]:=S3.marks.2.2 rfl
   have hs1:W.heap.size≤w1.heap.size:=S1.below.size
   have hs2:W.heap.size≤(w1.putObj l (.loop { rec .ready none with state:=.busy })).heap.size:=by simpa using hs1
   have hl3:w3.heap[l]?=some (.loop { rec .ready none with state:=.busy }):=by
    rw [S3.below.block l (fun q=>hnotl (body_wr S1 hs2 q))]
    exact World.putObj_heap_same (by omega)
   have fin:∀ (jump:Option Code),boxesOk kh (hlook h3) kh=true→∃ K':Nat→Prop,(∀ k,K' k→K k∨W.heap.size≤k)∧(∀ k,K k→K' k)∧(∀ k,K' k→k < (w3.putObj l (.loop (rec (if jump.isNone then .ready else .done) jump))).heap.size)∧Turns K W (w3.putObj l (.loop (rec (if jump.isNone then .ready else .done) jump))) ∧
     (Instr.endRound l jump).run P w3=.ok (.bool jump.isNone) (w3.putObj l (.loop (rec (if jump.isNone then .ready else .done) jump))) ∧
     (∃ M4 ρ4,Sim B nt M1 W1 M4 ρ4 t (keepH kh (hlook h3) kh) { tmps:=tm,defers:=[] } (w3.putObj l (.loop (rec (if jump.isNone then .ready else .done) jump)))∧(∀ n o,hlook (keepH kh (hlook h3) kh) n=some o→n ∈ kh) ∧
       (∀ n b,Occ ρ4 (keepH kh (hlook h3) kh) n b→K' b)∧(∀ b o v,M4 b o=some v→K' b∨(b < B.lo∧¬ C b)))∧(w3.putObj l (.loop (rec (if jump.isNone then .ready else .done) jump))).heap[D]?=some (.deferred (some [])):=by
    intro jump hbx
    have hend:=run_endRound (P:=P) jump hl3
    obtain ⟨M4,S4⟩:=S3.keep kh [] (fun n o e=>hnm n o e) hbx
    have S5:=S.fromBody hgh S1 (.loop { rec .ready none with state:=.busy }) hl1 hlB S4 hd3 hl3 (.loop (rec (if jump.isNone then .ready else .done) jump))
    have hsz3:W.heap.size≤w3.heap.size:=Nat.le_trans hs2 S3.below.size
    refine ⟨fun b=>K b∨(W.heap.size≤b∧b < w3.heap.size),fun k hk=>hk.imp id (·.1),fun k hk=>.inl hk,fun k hk=>?_,?_,?_,⟨M4,ρ3,?_,fun n o e=>?_,fun n b e1=>?_,fun b o v e=>?_⟩,?_⟩
    ·have hk2:k < w3.heap.size:=by
      rcases hk with hk|hk
      ·exact Nat.lt_of_lt_of_le (hKs k hk) hsz3
      ·exact hk.2
     simpa using hk2
    ·refine ⟨S3.below.os.trans S1.below.os,S3.below.tape.trans S1.below.tape,S3.below.output.trans S1.below.output,by simpa using hsz3,fun b hb hk=>?_⟩
     have hbl:b≠l:=fun e=>hk (e ▸ kl)
     have hnw:¬ (freshB W ρ h).wr b:=by
      rintro (q|⟨n,e1⟩)
      ·have q:W.heap.size≤b:=q
       omega
      ·exact hk (hK n b e1)
     rw [World.putObj_heap_other hbl,S3.below.block b (fun q=>hnw (body_wr S1 hs2 q)),World.putObj_heap_other hbl]
     exact S1.below.block b hnw
    ·rw [hrec] at hend ⊢;exact hend
    ·exact { S5 with tm:=fun i=>(S.tm i).ext S4.ext,size:=S.size,marks:=(by exact ⟨fun d hd=>by simp at hd,.nil,fun _=>rfl⟩) }
    ·rw [hlook_keepH] at e
     split at e
     ·assumption
     ·cases e
    ·have q:=body_wr S1 hs2 (S4.occ e1).1
     rcases q with q|⟨n',q1⟩
     ·exact .inr ⟨q,S4.occ_lt e1⟩
     ·exact .inl (hK n' b q1)
    ·cases e0:M b o with
     |some u=>exact (hM b o u e0).imp .inl id
     |none =>
      have q:=body_wr S1 hs2 (S4.new b o v e e0)
      rcases q with q|⟨n',q1⟩
      ·refine .inl (.inr ⟨q,?_⟩)
       false_or_by_contra
       rename_i hlt
       have:=S4.free_mem (b:=b) (by omega) o
       rw [this] at e;cases e
      ·exact .inl (.inl (hK n' b q1))
    ·have hDl:D≠l:=fun e=>by subst e;rw [hD] at hl;cases hl
     rw [World.putObj_heap_other hDl,S3.below.block D (fun q=>hnotD (body_wr S1 hs2 q)),World.putObj_heap_other hDl,S1.below.block D hnotD]
     exact hD
   obtain ⟨hbx,hq4⟩:=hq3
   cases e with
   |normal =>
    obtain ⟨K',k1,k2,k3,k4,hend,⟨M4,ρ4,S5,g1,g2,g3⟩,gD⟩:=fin none hbx
    refine ⟨_,_,hend,true,K',rfl,⟨M4,ρ4,_,S5,g1,g2,g3,k2 _ kl,k2 _ kD,k3 _ (k2 _ kl),k3 _ (k2 _ kD),gD,.inl ⟨rfl,hq4,?_⟩⟩,k1,k2,k3,k4⟩
    exact World.putObj_heap_same (Array.getElem?_eq_some_iff.1 hl3).1
   |ret =>
    obtain ⟨K',k1,k2,k3,k4,hend,⟨M4,ρ4,S5,g1,g2,g3⟩,gD⟩:=fin (some .ret) hbx
    refine ⟨_,_,hend,false,K',rfl,⟨M4,ρ4,_,S5,g1,g2,g3,k2 _ kl,k2 _ kD,k3 _ (k2 _ kl),k3 _ (k2 _ kD),gD,.inr ⟨rfl,.ret,by simp,hq4,?_⟩⟩,k1,k2,k3,k4⟩
    exact World.putObj_heap_same (Array.getElem?_eq_some_iff.1 hl3).1
   |exit id =>
    obtain ⟨K',k1,k2,k3,k4,hend,⟨M4,ρ4,S5,g1,g2,g3⟩,gD⟩:=fin (some (.exit id)) hbx
    refine ⟨_,_,hend,false,K',rfl,⟨M4,ρ4,_,S5,g1,g2,g3,k2 _ kl,k2 _ kD,k3 _ (k2 _ kl),k3 _ (k2 _ kD),gD,.inr ⟨rfl,.exit id,by simp,hq4,?_⟩⟩,k1,k2,k3,k4⟩
    exact World.putObj_heap_same (Array.getElem?_eq_some_iff.1 hl3).1
 ·cases h0
theorem livH_look:∀ {h:Heap} {n:Nat} {o:DObj},livH h=true→hlook h n=some o→livO o=true
 |[],n,o,_,e=>by simp [hlook] at e
 |(k,p) :: r,n,o,hl,e=>by
  simp only [livH,Bool.and_eq_true] at hl
  rw [hlook_cons] at e
  split at e
  ·simp only [Option.some.injEq] at e;subst e;exact hl.1
  ·exact livH_look hl.2 e
theorem live_mem {M:Mem} {ρ:Locs} {h:Heap} {w:World} {n:Nat} {o:DObj} (ho:ObjRel B M ρ h w n o) (hl:livO o=true) {b:Nat} (hb:OnB ρ n o b) (i:Nat):M b i=none:=by
 rcases hb with ⟨c,hρ⟩|⟨sz,c,isz,es,pd,j,l,k,rfl,e1,e2⟩
 ·cases o with
  |row sz es fr =>
   simp only [ObjRel,hρ] at ho
   obtain ⟨_,cs,ty,_,_,_,_,_,_,q⟩:=ho
   have:fr=false:=by simpa [livO] using hl
   exact q this i
  |box sz d=>obtain ⟨b',c',q1,q2,cs,ty,q3,q4,q5,q6,q7⟩:=ho;rw [hρ] at q1;cases q1;exact q7 i
  |fbox sz d=>simp [livO] at hl
  |dict es=>obtain ⟨b',c',q1,q2,q3,q4⟩:=ho;rw [hρ] at q1;cases q1;exact q4 i
  |siter s p=>obtain ⟨b',c',q1,q2,q3,q4⟩:=ho;rw [hρ] at q1;cases q1;exact q4 i
  |ghost _ _ _=>simp [livO] at hl
  |nrow sz c' isz es pd =>
   obtain ⟨_,_,g3⟩:=ho
   rw [hρ] at g3
   obtain ⟨_,cs,ty,_,_,_,_,_,q⟩:=g3
   exact q i
 ·obtain ⟨_,g2,_⟩:=ho
  have:=g2 j l e1
  unfold InnerAt at this
  rw [e2] at this
  obtain ⟨_,cs,ty,_,_,_,_,_,q⟩:=this
  exact q i
def loopB (W1:World) (ρ:Locs) (h:Heap) (l:Nat) (C:Nat→Prop):Base:=⟨W1.heap.size,fun b=>(∃ n,Occ ρ h n b)∨b=l∨C b,ρ,h,false,true⟩
theorem loop_wr (S:Sim B nt M0 w0 M ρ t h a w) {l:Nat} {C:Nat→Prop} (hl:B.lo≤l) (hC:∀ b,C b→B.wr b) {b:Nat} (hb:(loopB w ρ h l C).wr b):B.wr b:=by
 rcases hb with hb|⟨n,e1⟩|hb|hb
 ·exact .inl (Nat.le_trans S.Bsize hb)
 ·exact (S.occ e1).1
 ·exact .inl (by rw [hb];exact hl)
 ·exact hC b hb
theorem Sim.fromLoop (S:Sim B nt M0 w0 M ρ t h a w) (hgh:B.gh=false) {l:Nat} {C:Nat→Prop} {x z:Loop} (hlB:B.lo≤l) (hC:∀ b,C b→B.wr b) (hCd:∀ b x,C b→w.heap[b]?≠some (.deferred x)) (hl:w.heap[l]?=some (.loop x)) {M4:Mem} {ρ4:Locs} {h4:Heap} {w3:World}
  (S4:Sim (loopB w ρ h l C) nt M w M4 ρ4 t h4 { tmps:=a.tmps,defers:=[] } w3) (hl3:w3.heap[l]?=some (.loop z)) (y:Obj):Sim B nt M0 w0 M4 ρ4 t h4 a (w3.putObj l y):=by
 have S5:=S4.putLoop y hl3 (.inr (.inr (.inl rfl))) rfl
 refine { S5 with le:=Mem.le_trans S.le S5.le,obj:=fun n o e=>(S5.obj n o e).base (fun b hb=>loop_wr S hlB hC (S5.occ ⟨o,e,hb⟩).1) (fun e=>Bool.noConfusion e),below:=?_,hB:=S.hB,new:=fun b o v e e0=>from_new S S5.new (loop_wr S hlB hC) e e0,marks:=?_,ext:=S.ext.trans S5.ext }
 ·exact S.below.trans ⟨S5.below.os,S5.below.tape,S5.below.output,S5.below.size,fun k hk=>S5.below.block k (fun q=>hk (loop_wr S hlB hC q))⟩
 ·refine ⟨fun d hd=>?_,S.marks.2⟩
  obtain ⟨D,e1,e2,e3⟩:=S.marks.1 d hd
  refine ⟨D,e1,e2,?_⟩
  have hne:¬ (loopB w ρ h l C).wr D:=by
   rintro (q|⟨n,q1⟩|q|q)
   ·have:=(Array.getElem?_eq_some_iff.1 e3).1
    have q:w.heap.size≤D:=q
    omega
   ·exact occ_not_deferred S q1 _ e3
   ·subst q;rw [hl] at e3;cases e3
   ·exact hCd D _ q e3
  rw [S5.below.block D hne];exact e3
theorem HeapIn.world {ρc:Locs} {hc:Heap} {W:World} (H:HeapIn M ρc hc w) (hM:M.holds W) (hb:∀ n b,Occ ρc hc n b→W.heap[b]?=w.heap[b]?):HeapIn M ρc hc W :=
 ⟨hM,fun n o e=>(H.obj n o e).moved (fun _ _ r=>r) (fun b hρ=>⟨.inl (Nat.zero_le _),hb n b ⟨o,e,hρ⟩⟩) id,H.dis,H.dsub⟩
theorem range_core (hG:GOk G M0) (hF:OpenB G F B w0) (hd:F.depth=none) (hro:F.round=none) (hnd:B.nd=false) (hgh:B.gh=false) {x y:Code} {dx dy:DC} (hA:RunsAs P G nt x dx) (hBd:RunsAs P G nt y dy)
  (hnx:noRange dx=true) (hny:noRange dy=true) {f:Operand} {ps:Array Tmp} {k:Keep} (hkx:keepsAll k.kh dx=true) (hky:keepsAll k.kh dy=true) (hps:∀ p ∈ ps.toList,p < nt)
  {DQ:DExit→SP} {g:FuncId} {vs:Array Value} (hv:a.eval f=.func (.func g) #[] vs) {M2:Mem} {t1:Tmps} {h1:Heap} (S2:Sim B nt M0 w0 M2 ρ t1 h1 a w) (hnm:∀ n o,hlook h1 n=some o→n ∈ k.kh) (hliv:livH h1=true)
  {cs:List DV} {hc:Heap} {xs:List (List DV)} (hseq:ISeqW P G g cs hc xs) {ρc:Locs} {C:Nat→Prop} (hc0:ρc 0=none) (hHc:HeapIn M2 ρc hc w) (hcs:RelVs M2 ρc hc cs vs)
  (hCl:∀ n b,Occ ρc hc n b→C b) (hCB:∀ b,C b→B.wr b) (hCs:∀ b,C b→b < w.heap.size) (hCd:∀ b x,C b→w.heap[b]?≠some (.deferred x)) (hCM:∀ b o,C b→M2 b o=none)
  (hCo:∀ b n,C b→Occ ρ h1 n b→False)
  (hlen:∀ x ∈ xs,x.length=ps.toList.length) (hrs:roundsN (fun R=>dwp P G dx (seqQ (dwp P G dy R) (fun _ _ _=>False))) k.kh ps.toList DQ t1 xs h1)
  {Q:Exit→Act→World→Prop} (hQ:ReadsQ B nt M0 w0 DQ Q):(Code.rangeFunc f ps x y).wpIn F n P Q a w:=by
 refine wpIn_rangeFunc (fun fn hfn=>?_)
 rw [hro]
 obtain ⟨rec,hrec⟩:∃ rec:LoopState→Option Code→Loop,rec=fun st pe=>{ state:=st,pending:=pe,fn:=fn,tmps:=a.tmps,params:=ps,assign:=x,body:=y,defers:=w.heap.size }:=⟨_,rfl⟩
 obtain ⟨W1,hW1⟩:∃ W1,(w.alloc (.deferred (some []))).alloc (.loop (rec .ready none))=W1:=⟨_,rfl⟩
 have hsz1:W1.heap.size=w.heap.size+2:=by rw [← hW1];simp
 have hL1:W1.heap[w.heap.size+1]?=some (.loop (rec .ready none)):=by
  rw [← hW1];have:=World.alloc_heap_new (w.alloc (.deferred (some []))) (.loop (rec .ready none));rwa [World.size_alloc] at this
 have hD1:W1.heap[w.heap.size]?=some (.deferred (some [])):=by
  rw [← hW1];exact (RowKit.Below.heap_alloc _ _ _ (by simp)).trans (World.alloc_heap_new w _)
 have hold:∀ k,k < w.heap.size→W1.heap[k]?=w.heap[k]?:=fun k hk=>by
  rw [← hW1];exact (RowKit.Below.heap_alloc _ _ _ (by simp;omega)).trans (RowKit.Below.heap_alloc _ _ _ hk)
 have hB2:=S2.Bsize
 have hto:B.touch w0 W1:=by rw [← hW1];exact (S2.below.alloc hB2 _).alloc (by simp;omega) _
 have S2':=S2.world hold hto
 have S3:Sim B nt M0 w0 M2 ρ t1 h1 { a with defers:=[{ target:=.collected w.heap.size,args:=#[] }]++a.defers } W1:=by
  refine { S2' with marks:=⟨fun d hd=>?_,List.pairwise_cons.2 ⟨fun d hd e=>?_,S2'.marks.2.1⟩,fun e=>by rw [hnd] at e;cases e⟩ }
  ·rcases List.mem_cons.1 hd with rfl|hd
   ·exact ⟨w.heap.size,rfl,hB2,hD1⟩
   ·exact S2'.marks.1 d hd
  ·obtain ⟨D',q1,q2,q3⟩:=S2.marks.1 d hd
   have q4:=(Array.getElem?_eq_some_iff.1 q3).1
   rw [q1] at e
   simp only [Deferred.mk.injEq,Target.collected.injEq,and_true] at e
   omega
 have SB:Sim (loopB W1 ρ h1 (w.heap.size+1) C) nt M2 W1 M2 ρ t1 h1 { tmps:=a.tmps,defers:=[] } W1 :=
  {S3 with le:=M2.le_refl,obj:=fun n o e=>(S3.obj n o e).base (fun b hb=>.inr (.inl ⟨n,o,e,hb⟩)) (fun e=>by rw [hgh] at e;cases e),below:=Base.touch.refl _ _,hB:=rfl,new:=fun b o v e e0=>(by rw [e] at e0;cases e0),marks:=⟨fun d hd=>by simp at hd,.nil,fun _=>rfl⟩,ext:=Ext.refl _ _ _ }
 have hlo:B.lo≤w.heap.size+1:=by omega
 have hCd1:∀ b x,C b→W1.heap[b]?≠some (.deferred x):=fun b x hb=>by rw [hold b (hCs b hb)];exact hCd b x hb
 refine ⟨w.heap.size+1,[{ target:=.collected w.heap.size,args:=#[] }],W1,{ target:=.fn (.func g) vs,args:=#[.func (.yield (w.heap.size+1)) #[] #[]] },W1,g,#[.func (.yield (w.heap.size+1)) #[] #[]]++vs,W1,?_,?_,?_,?_,fun h=>(by rw [hd] at h;cases h),?_⟩
 ·rw [← hW1,hrec];exact run_enterLoop_outer _ _ _ _ _
 ·simp only [resolve,hv]
  simp [go_sem]
 ·intro f' hf';exact hF.fn _
 ·have eg:=hseq.1 (#[.func (.yield (w.heap.size+1)) #[] #[]]++vs) W1
  simpa [invoke,go_sem] using eg
 ·have hJ0:RJ (loopB W1 ρ h1 (w.heap.size+1) C) nt M2 W1 t1 a.tmps k.kh (fun r h=>roundsN (fun R=>dwp P G dx (seqQ (dwp P G dy R) fun _ _ _=>False)) k.kh ps.toList DQ t1 r h) DQ C (w.heap.size+1) w.heap.size rec xs true
    (fun b=>(∃ n,Occ ρ h1 n b)∨b=w.heap.size+1∨b=w.heap.size) W1:=by
   refine ⟨M2,ρ,h1,SB,hnm,fun n b e1=>.inl ⟨n,e1⟩,fun b o v e=>.inr ⟨?_,fun hc=>(by rw [hCM b o hc] at e;cases e)⟩,.inr (.inl rfl),.inr (.inr rfl),by omega,by omega,hD1,.inl ⟨rfl,hrs,hL1⟩⟩
   show b < W1.heap.size
   false_or_by_contra
   rename_i hlt
   have:=S3.free_mem (b:=b) (by omega) o
   rw [this] at e;cases e
  have pr:Proto F P W1.heap.size C (w.heap.size+1) (fun rest live K W=>(∀ x ∈ rest,x.length=ps.size)∧RJ (loopB W1 ρ h1 (w.heap.size+1) C) nt M2 W1 t1 a.tmps k.kh (fun r h=>roundsN (fun R=>dwp P G dx (seqQ (dwp P G dy R) fun _ _ _=>False)) k.kh ps.toList DQ t1 r h) DQ C (w.heap.size+1) w.heap.size rec rest live K W):=by
   refine ⟨fun r b K W W' hJ st=>⟨hJ.1,hJ.2.stays (B:=loopB W1 ρ h1 (w.heap.size+1) C) (fun b hb=>.inr (.inr (.inr hb))) r b K W W' st⟩,fun x r K W args m hJ hK hargs=>?_⟩
   obtain ⟨fn',tm',as',bd',q1,q2⟩:=RJ.round hrec (hG.mono S3.le) ⟨hF.toOpenF,hF.tb.touch S3.below (fun k hk h=>loop_wr S3 hlo hCB h)⟩ hd rfl (show (loopB W1 ρ h1 (w.heap.size+1) C).wr (w.heap.size+1) from Or.inr (Or.inr (Or.inl rfl))) hA hBd hnx hny hkx hky hps m (hJ.1 x (List.mem_cons_self ..)) hJ.2 hK hargs
   exact ⟨fn',tm',as',bd',q1,q2.mono (fun e W' hR=>by
    obtain ⟨b,K',r1,r2,r3⟩:=hR
    exact ⟨b,K',r1,⟨fun z hz=>hJ.1 z (List.mem_cons_of_mem _ hz),r2⟩,r3⟩)⟩
  refine (hseq.2.2 F (n - 1) hF.toOpenF hd M2 ρc W1 vs (w.heap.size+1) (fun b=>(∃ n,Occ ρ h1 n b)∨b=w.heap.size+1∨b=w.heap.size) C _ (hG.mono S3.le) (hF.tb.touch S3.below (fun k hk h=>by rcases h with (⟨n,q1⟩|q|q)|q;exact (S3.occ q1).1;exact .inl (by omega);exact .inl (by omega);exact hCB k q))
   (hHc.world S3.mem (fun n b e1=>hold b (hCs b (hCl n b e1)))) hc0 hcs ⟨fun n o b c e1 e2=>hCl n b (.main e1 e2),fun n i b e1=>hCl n b e1.occ⟩ ?_ ?_ ?_ pr ⟨fun x hx=>by simpa using hlen x hx,hJ0⟩).mono ?_
  ·rintro b hb (⟨n,q1⟩|q|q)
   ·exact hCo b n hb q1
   ·have:=hCs b hb;omega
   ·have:=hCs b hb;omega
  ·rintro b (⟨n,q1⟩|q|q)
   ·exact S3.occ_lt q1
   ·omega
   ·omega
  ·rintro b i v e (⟨n,o,q1,q2⟩|q|q)
   ·have:=live_mem (S3.obj n o q1) (livH_look hliv q1) q2 i
    rw [this] at e;cases e
   ·have:=S2.free_mem (b:=b) (by omega) i
    rw [this] at e;cases e
   ·have:=S2.free_mem (b:=b) (by omega) i
    rw [this] at e;cases e
  ·rintro e w3 ⟨v,K',rfl,hJ,_,_⟩
   rcases hJ with ⟨_,M4,ρ4,h4,S4,_,_,_,_,_,_,_,_,hcase⟩|⟨r,_,M4,ρ4,h4,S4,_,_,_,_,_,_,_,_,hcase⟩
   ·rcases hcase with ⟨_,hR,hl4⟩|⟨h0,_⟩
    ·have hend:=run_endLoop (P:=P) hl4 (by rw [hrec];simp)
     subst hrec
     exact ⟨none,_,hend,hQ .normal _ _ _ _ _ _ hR (S3.fromLoop hgh hlo hCB hCd1 hL1 S4 hl4 _)⟩
    ·cases h0
   ·rcases hcase with ⟨h0,_⟩|⟨_,e,hne,hq,hl4⟩
    ·cases h0
    ·have hend:=run_endLoop (P:=P) hl4 (by rw [hrec];simp)
     subst hrec
     cases e with
     |normal=>exact absurd rfl hne
     |exit i=>exact ⟨some (.exit i),_,hend,wpIn_exit (hQ (.exit i) _ _ _ _ _ _ hq (S3.fromLoop hgh hlo hCB hCd1 hL1 S4 hl4 _))⟩
     |ret=>exact ⟨some .ret,_,hend,wpIn_ret (hQ .ret _ _ _ _ _ _ hq (S3.fromLoop hgh hlo hCB hCd1 hL1 S4 hl4 _))⟩
theorem capsB_get {n:Nat}:∀ {caps:List DV},capsB n caps=true→∀ {i:Nat},i < caps.length→caps.getD i .undef=.bptr n 0∨pureB (caps.getD i .undef)=true
 |[],_,i,hi=>by simp at hi
 |d :: r,h,i,hi=>by
  have hr:capsB n r=true:=by
   cases d<;>simp only [capsB,Bool.and_eq_true] at h<;>exact h.2
  cases i with
  |succ i=>exact capsB_get hr (by simpa using hi)
  |zero =>
   cases d with
   |bptr m off =>
    simp only [capsB,Bool.and_eq_true] at h
    obtain ⟨⟨h1,h2⟩,_⟩:=h
    rw [Nat.eq_of_beq_eq_true h1,Nat.eq_of_beq_eq_true h2]
    exact .inl rfl
   |_=>simp only [capsB,Bool.and_eq_true] at h;exact .inr h.1
theorem hlook_cutH (n m:Nat):∀ h:Heap,hlook (cutH n h) m=if m=n then none else hlook h m
 |[]=>by simp [cutH,hlook]
 |(k,o) :: r=>by
  unfold cutH
  rw [natbeq]
  by_cases e:k=n
  ·subst e
   rw [decide_eq_true rfl,cond_true,hlook_cutH,hlook_cons]
   by_cases e2:m=k
   ·rw [if_pos e2,if_pos e2]
   ·rw [if_neg e2,if_neg e2,if_neg (Ne.symm e2)]
  ·rw [decide_eq_false e,cond_false,hlook_cons,hlook_cons,hlook_cutH]
   by_cases e2:k=m
   ·subst e2;rw [if_pos rfl,if_pos rfl,if_neg e]
   ·rw [if_neg e2,if_neg e2]
theorem tget_cutT (n i:Nat):∀ t:Tmps,tget (cutT n t) i=cutV n (tget t i)
 |[]=>rfl
 |(k,d) :: r=>by
  unfold cutT
  rw [tget_cons,tget_cons,tget_cutT n i r]
  split<;>rfl
theorem freeOf_look {n:Nat}:∀ {h:Heap} {m sz:Nat} {d:DV},freeOf n h=true→hlook h m=some (.box sz d)→(names d).any (Nat.beq n)=false
 |[],m,sz,d,_,e=>by simp [hlook] at e
 |(k,o) :: r,m,sz,d,hf,e=>by
  rw [hlook_cons] at e
  by_cases e2:k=m
  ·rw [if_pos e2] at e
   simp only [Option.some.injEq] at e
   subst e
   simp only [freeOf,Bool.and_eq_true,Bool.not_eq_true'] at hf
   exact hf.1
  ·rw [if_neg e2] at e
   refine freeOf_look (h:=r) ?_ e
   cases o with
   |box _ _=>simp only [freeOf,Bool.and_eq_true] at hf;exact hf.2
   |_=>exact hf
theorem namess_get {n:Nat}:∀ {ds:List DV},(namess ds).any (Nat.beq n)=false→∀ i,i < ds.length→(names (ds.getD i .undef)).any (Nat.beq n)=false
 |[],_,i,h=>absurd h (Nat.not_lt_zero i)
 |d :: r,hf,i,h=>by
  simp only [namess,List.any_append,Bool.or_eq_false_iff] at hf
  cases i with
  |zero=>exact hf.1
  |succ i=>exact namess_get hf.2 i (by simpa using h)
theorem namess_app:∀ (a b:List DV),namess (a++b)=namess a++namess b
 |[],_=>rfl
 |d :: r,b=>by simp [namess,namess_app r b]
theorem namess_flat:∀ (l:List DV),namess (flat l)=namess l
 |[]=>rfl
 |d :: r=>by
  have h1:=namess_flat r
  have h2:namess d.cells=names d:=by cases d<;>simp [DV.cells,namess,names]
  simp only [flat] at h1
  simp only [flat,List.flatMap_cons,namess_app,h1,h2,namess]
theorem RelV.cut {n:Nat} {h':Heap} (hl:∀ m o,m≠n→hlook h m=some o→hlook h' m=some o) {d:DV} {v:Value} (r:RelV M ρ h d v):(names d).any (Nat.beq n)=false→RelV M ρ h' d v:=by
 have one:∀ {m:Nat},([m]:List Nat).any (Nat.beq n)=false→m≠n:=fun {m} e e2=>by subst e2;simp at e
 induction r with
 |pure hp=>exact fun _=>.pure hp
 |agg ds vs hl _ ih=>exact fun hf=>.agg ds vs hl (fun i hi=>ih i hi (namess_get (by simpa [names] using hf) i hi))
 |tuple ds vs hl _ ih=>exact fun hf=>.tuple ds vs hl (fun i hi=>ih i hi (namess_get (by simpa [names] using hf) i hi))
 |func f ds vs hl _ ih=>exact fun hf=>.func f ds vs hl (fun i hi=>ih i hi (namess_get (by simpa [names] using hf) i hi))
 |meth f ds vs hl _ ih=>exact fun hf=>.meth f ds vs hl (fun i hi=>ih i hi (namess_get (by simpa [names] using hf) i hi))
 |own n' off len tot sz es fr v h1 ht hs hv=>exact fun hf=>.own n' off len tot sz es fr v (hl _ _ (one hf) h1) ht hs hv
 |ptr n' i off tot sz es fr v h1 ht hi hs hv=>exact fun hf=>.ptr n' i off tot sz es fr v (hl _ _ (one hf) h1) ht hi hs hv
 |bptr n' off sz b c d h1 hρ=>exact fun hf=>.bptr n' off sz b c d (hl _ _ (one hf) h1) hρ
 |fptr n' off sz b c d h1 hρ=>exact fun hf=>.fptr n' off sz b c d (hl _ _ (one hf) h1) hρ
 |dictv n' b c es h1 hρ=>exact fun hf=>.dictv n' b c es (hl _ _ (one hf) h1) hρ
 |sitv n' b c pos s h1 hρ=>exact fun hf=>.sitv n' b c pos s (hl _ _ (one hf) h1) hρ
 |yldv n' l' rest live h1=>exact fun hf=>.yldv n' l' rest live (hl _ _ (one hf) h1)
 |nown n' off len tot sz c isz es pd v h1 ht hs hv=>exact fun hf=>.nown n' off len tot sz c isz es pd v (hl _ _ (one hf) h1) ht hs hv
 |nptr n' i off tot sz c isz es pd v h1 ht hi hs hv=>exact fun hf=>.nptr n' i off tot sz c isz es pd v (hl _ _ (one hf) h1) ht hi hs hv
 |subv n' i off len tot v hs hh =>
  refine fun hf=>.subv n' i off len tot v hs ?_
  rcases hh with ⟨sz,c,isz,es,pd,q1,q2,q3⟩|⟨sz,es,fr,q1⟩
  ·exact .inl ⟨sz,c,isz,es,pd,hl _ _ (one hf) q1,q2,q3⟩
  ·exact .inr ⟨sz,es,fr,hl _ _ (one hf) q1⟩
 |sptrv n' i j off tot v hs hh =>
  refine fun hf=>.sptrv n' i j off tot v hs ?_
  rcases hh with ⟨sz,c,isz,es,pd,q1,q2,q3⟩|⟨sz,es,fr,q1⟩
  ·exact .inl ⟨sz,c,isz,es,pd,hl _ _ (one hf) q1,q2,q3⟩
  ·exact .inr ⟨sz,es,fr,hl _ _ (one hf) q1⟩
 |vl l b sz g hsz hM _ ih=>exact fun hf=>.vl l b sz g hsz hM (fun i hi=>ih i hi (namess_get (by rw [namess_flat];simpa [names] using hf) i hi))
theorem RelV.cutV {n:Nat} {h':Heap} (hl:∀ m o,m≠n→hlook h m=some o→hlook h' m=some o) {d:DV} {v:Value} (r:RelV M ρ h d v):RelV M ρ h' (Sh.cutV n d) v:=by
 unfold Sh.cutV
 cases e:(names d).any (Nat.beq n) with
 |true=>exact .pure (.undef _)
 |false=>exact r.cut hl e
def cutB (w:World) (ρ:Locs) (h:Heap):Base:=⟨w.heap.size,fun b=>∃ n,Occ ρ h n b,ρ,[],false,true⟩
theorem Sim.cut (S:Sim B nt M0 w0 M ρ t h a w) (hgh:B.gh=false) {n:Nat} (hf:freeOf n h=true):Sim (cutB w ρ (cutH n h)) nt M w M ρ (cutT n t) (cutH n h) { tmps:=a.tmps,defers:=[] } w:=by
 have hl:∀ m o,m≠n→hlook h m=some o→hlook (cutH n h) m=some o:=fun m o e e1=>by rw [hlook_cutH,if_neg e];exact e1
 have hl2:∀ {m o},hlook (cutH n h) m=some o→m≠n∧hlook h m=some o:=fun {m o} e=>by
  rw [hlook_cutH] at e
  split at e
  ·cases e
  ·exact ⟨‹_›,e⟩
 refine { le:=M.le_refl,tm:=fun i=>by rw [tget_cutT];exact (S.tm i).cutV hl,mem:=S.mem,obj:=fun m o e=>?_,dis:=fun m m' o p b c b' c' hne e1 e2=>S.dis m m' o p b c b' c' hne (hl2 e1).2 (hl2 e2).2,below:=Base.touch.refl _ _,hB:=rfl,new:=fun b o v e e0=>(by rw [e] at e0;cases e0),size:=S.size,marks:=⟨fun d hd=>by simp at hd,.nil,fun _=>rfl⟩,dsub:=S.dsub.of (fun m i b hs=>?_) (fun m o k b hm e=>.inl ⟨o,(hl2 hm).2,e⟩),ext:=⟨M.le_refl,fun n sz es fr e=>(by cases e),fun n o e=>(by cases e),fun n sz c isz es pd e=>(by cases e)⟩ }
 rotate_left
 ·obtain ⟨sz,c,isz,es,pd,l,k,q1,q2,q3⟩:=hs
  exact ⟨sz,c,isz,es,pd,l,k,(hl2 q1).2,q2,q3⟩
 have ho:=(S.obj m o (hl2 e).2).base (B':=cutB w ρ (cutH n h)) (fun b hb=>.inr ⟨m,o,e,hb⟩) (fun e=>by rw [hgh] at e;cases e)
 cases o with
 |box sz d =>
  obtain ⟨b,c,h1,h2,cs,ty,h3,h4,h5,h6,h7⟩:=ho
  refine ⟨b,c,h1,h2,cs,ty,h3,h4,h5,fun i hi=>(h6 i hi).cut hl ?_,h7⟩
  have hn:=freeOf_look hf (hl2 e).2
  cases d with
  |agg ds =>
   rw [names] at hn
   exact namess_get hn i (by have:ds.length=sz:=(okE_spec h5).1;omega)
  |_ =>
   have:=(okE_spec h5).1
   simp only [DV.cells,List.length_cons,List.length_nil] at this
   have:i=0:=by omega
   subst this
   exact hn
 |_=>exact ho
theorem Sim.uncut (S:Sim B nt M0 w0 M ρ t h a w) {n:Nat} {k:Keep} (hnk:memB n k.kh=false) (hkk:∀ n o,hlook B.h0 n=some o→n ∈ k.kh) {M2:Mem} {t1:Tmps}
  (S2:Sim (cutB w ρ (cutH n h)) nt M w M2 ρ t1 (keepH k.kh (hlook (cutH n h)) k.kh) { tmps:=a.tmps,defers:=[] } w):Sim B nt M0 w0 M2 ρ t1 (keepH k.kh (hlook (cutH n h)) k.kh) a w:=by
 have wr:∀ {b},(cutB w ρ (cutH n h)).wr b→B.wr b:=fun {b} hb=>by
  rcases hb with hb|⟨m,o,e1,e2⟩
  ·exact .inl (Nat.le_trans S.Bsize hb)
  ·rw [hlook_cutH] at e1
   split at e1
   ·cases e1
   ·exact (S.occ ⟨o,e1,e2⟩).1
 have hk:∀ m o,m ∈ k.kh→hlook h m=some o→hlook (keepH k.kh (hlook (cutH n h)) k.kh) m=some (resObj k.kh (hlook (cutH n h)) o):=fun m o hm e=>by
  have hne:m≠n:=fun e2=>by subst e2;rw [(memB_iff m k.kh).2 hm] at hnk;cases hnk
  rw [hlook_keepH,if_pos hm,hlook_cutH,if_neg hne,e];rfl
 refine { S2 with le:=Mem.le_trans S.le S2.le,obj:=fun m o e=>(S2.obj m o e).base (fun b hb=>wr (S2.occ ⟨o,e,hb⟩).1) (fun e=>Bool.noConfusion e),below:=S.below,hB:=S.hB,new:=fun b o v e e0=>from_new S S2.new wr e e0,size:=S.size,marks:=S.marks,ext:=?_ }
 refine ⟨Mem.le_trans S.le S2.le,fun m sz es fr e=>?_,fun m o e hr=>?_,fun m sz c isz es pd e=>?_⟩
 ·obtain ⟨sz',es',fr',q1,q2,q3⟩:=S.ext.row m sz es fr e
  exact ⟨sz',es',fr',by rw [hk m _ (hkk m _ e) q1];rfl,q2,q3⟩
 ·obtain ⟨q1,o',q2,q3⟩:=S.ext.box m o e hr
  exact ⟨q1,_,hk m _ (hkk m _ e) q2,like_trans q3 (like_resObj _ _ (like_row q3))⟩
 ·rcases S.ext.nrw m sz c isz es pd e with ⟨es',pd',q1,q2⟩|⟨sz',es',fr',q1,q2,q3⟩
  ·exact .inl ⟨es',pd',hk m _ (hkk m _ e) q1,q2⟩
  ·exact .inr ⟨sz',es',fr',hk m _ (hkk m _ e) q1,q2,q3⟩
theorem range_run (hG:GOk G M0) (hF:OpenB G F B w0) (hd:F.depth=none) (hro:F.round=none) (hnd:B.nd=false) (hgh:B.gh=false) {x y:Code} {dx dy:DC} (hA:RunsAs P G nt x dx) (hBd:RunsAs P G nt y dy)
  (hnx:noRange dx=true) (hny:noRange dy=true) {f:Operand} {ps:Array Tmp} {k:Keep} (hkk:∀ n o,hlook B.h0 n=some o→n ∈ k.kh) (hkx:keepsAll k.kh dx=true) (hky:keepsAll k.kh dy=true) (hps:∀ p ∈ ps.toList,p < nt)
  {DQ:DExit→SP} (hw:rangeWp P G (fun R=>dwp P G dx (seqQ (dwp P G dy R) (fun _ _ _=>False))) k ps.toList DQ (evalOpd G t f) t h)
  (S:Sim B nt M0 w0 M ρ t h a w) {Q:Exit→Act→World→Prop} (hQ:ReadsQ B nt M0 w0 DQ Q):(Code.rangeFunc f ps x y).wpIn F n P Q a w:=by
 have hnm:∀ (lk:Nat→Option DObj) n o,hlook (keepH k.kh lk k.kh) n=some o→n ∈ k.kh:=fun lk n o e=>by
  rw [hlook_keepH] at e
  split at e
  ·assumption
  ·cases e
 unfold rangeWp at hw
 split at hw
 ·rename_i g caps hf
  rcases hw with hw|⟨nc,sz,d,xs,⟨hcp,hlk,hpd,hn0,hnk,hfo⟩,hseq,hlen,hbx,hliv,hrs⟩
  ·split at hw
   ·rename_i p cs hp
    obtain ⟨hp1,xs,hseq,hlen,hbx,hliv,hrs⟩:=pre_holds hw
    obtain ⟨M1,m1,S1,m2,m3,m4,mz⟩:=S.freeze (namess caps)
    have hrel:=S.opd hG f
    rw [hf] at hrel
    obtain ⟨vs,hv,hvl,hvs⟩:=hrel.inv_func
    obtain ⟨e1,e2⟩:=purs_rel S1 (hlook h) caps (fun i=>vs.getD i Go.undef) p cs hp hp1 (fun i hi=>(hvs i hi).ext m3) mz (fun m hm sz d0 hl hp=>freeze_fbox hm hl hp)
    obtain ⟨M2,S2,_,m5⟩:=S1.keepR k.kh k.kt (fun n o e=>hkk n o e) hbx
    exact range_core hG hF hd hro hnd hgh hA hBd hnx hny hkx hky hps hv S2 (hnm _) hliv hseq (ρc:=Locs.none) (C:=fun _=>False) rfl ⟨S2.mem,fun n o e=>(by cases e),fun n m o p b c b' c' _ e=>(by cases e),DSub.nil _⟩ ⟨by omega,fun i hi=>.pure ((e2 i (by omega)).mono m5)⟩
     (fun n b e=>by obtain ⟨o,e,_⟩:=e;cases e) (fun b h=>h.elim) (fun b h=>h.elim) (fun b x h=>h.elim) (fun b o h=>h.elim) (fun b n h=>h.elim) hlen hrs hQ
   ·exact hw.elim
  ·have hrel:=S.opd hG f
   rw [hf] at hrel
   obtain ⟨vs,hv,hvl,hvs⟩:=hrel.inv_func
   obtain ⟨b,c,hρ,hwr,cs,ty,q3,q4,q5,q6,q7⟩:=S.obj nc _ hlk
   have Sc:=S.cut hgh hfo
   obtain ⟨M2,S2,_,m5⟩:=Sc.keepR k.kh k.kt (fun n o e=>by cases e) hbx
   have hblt:=S.loc_lt hlk hρ
   have hdis:∀ m,Occ ρ (cutH nc h) m b→False:=fun m ⟨o,e1,e2⟩=>by
    rw [hlook_cutH] at e1
    split at e1
    ·cases e1
    ·rename_i hne
     exact S.occ_dis hne ⟨o,e1,e2⟩ (.main hlk hρ)
   have hM2:∀ o,M2 b o=none:=fun o=>by
    cases e:M2 b o with
    |none=>rfl
    |some v =>
     rcases S2.new b o v e (q7 o) with q|⟨m,e1⟩
     ·have q:w.heap.size≤b:=q
      omega
     ·exact (hdis m e1).elim
   have hl1:hlook [(nc,DObj.box sz d)] nc=some (.box sz d):=by rw [hlook_cons,if_pos rfl]
   have hl2:∀ {m o},hlook [(nc,DObj.box sz d)] m=some o→m=nc∧o=.box sz d:=fun {m o} e=>by
    rw [hlook_cons] at e
    split at e
    ·rename_i e2;cases e;exact ⟨e2.symm,rfl⟩
    ·cases e
   refine range_core hG hF hd hro hnd hgh hA hBd hnx hny hkx hky hps hv (S.uncut hnk hkk S2) (hnm _) hliv hseq (ρc:=⟨fun m=>if m=nc then some (b,c) else none,fun _ _=>none⟩) (C:=fun k=>k=b) (if_neg (Ne.symm hn0)) ⟨S2.mem,fun m o e=>?_,fun m m' o p b1 c1 b2 c2 hne e1 e2=>absurd ((hl2 e1).1.trans (hl2 e2).1.symm) hne,fun m i b1 hs1=>?_⟩ ⟨by omega,fun i hi=>?_⟩
    (fun n b' e1=>?_) (fun k hk=>by subst hk;exact hwr) (fun k hk=>by subst hk;exact hblt) (fun k x hk=>by subst hk;rw [q3];simp) (fun k o hk=>by subst hk;exact hM2 o) (fun k m hk e1=>?_) hlen hrs hQ
   ·obtain ⟨rfl,rfl⟩:=hl2 e
    refine ⟨b,c,by simp,.inl (Nat.zero_le _),cs,ty,q3,q4,q5,fun i hi=>?_,hM2⟩
    exact .pure ((relV_pure _ _ (pureB_cells hpd i (by have:=(okE_spec q5).1;omega)) (q6 i hi)).mono m5)
   ·obtain ⟨_,_,_,_,_,_,_,e1,_⟩:=hs1
    cases (hl2 e1).2
   ·have h1:=hvs i (by omega)
    rcases capsB_get hcp (show i < caps.length by omega) with e0|e0
    ·rw [e0] at h1 ⊢
     obtain ⟨_,b',c',_,e2,_,e1⟩:=RelV.inv_bptr h1
     rw [hρ] at e1;cases e1
     rw [e2]
     exact .bptr nc 0 sz b c d hl1 (by simp)
    ·exact .pure ((relV_pure _ _ e0 h1).mono m5)
   ·obtain ⟨o,e1,e2⟩:=e1
    obtain ⟨rfl,rfl⟩:=hl2 e1
    rcases e2 with ⟨c',e2⟩|⟨_,_,_,_,_,_,_,_,e2,_⟩
    ·rw [show ((⟨fun m=>if m=n then some (b,c) else none,fun _ _=>none⟩:Locs) n)=some (b,c) from if_pos rfl] at e2
     cases e2;rfl
    ·cases e2
   ·subst hk
    obtain ⟨o,e1,e2⟩:=e1
    have hm:=hnm _ m o e1
    rw [hlook_keepH,if_pos hm] at e1
    cases e3:hlook (cutH nc h) m with
    |none=>rw [e3] at e1;cases e1
    |some o' =>
     rw [e3] at e1
     simp only [Option.map_some,Option.some.injEq] at e1
     refine hdis m ⟨o',e3,?_⟩
     rcases e2 with e2|⟨sz1,c1,isz1,es1,pd1,i1,l1,k1,e4,e5,e6⟩
     ·exact .inl e2
     ·have:o'=.nrow sz1 c1 isz1 es1 pd1:=by
       rw [e4] at e1
       cases o'<;>simp_all [resObj]
      exact .inr ⟨sz1,c1,isz1,es1,pd1,i1,l1,k1,this,e5,e6⟩
 ·exact hw.elim
end
end Sh

/- Shadow code against the code of the model;a function's contract. -/
namespace Sh
open Go
section
variable {P:Program} {G:Nat→Option DV} {B:Base} {nt:Nat} {M0:Mem} {w0:World} {M:Mem} {ρ:Locs} {t:Tmps} {h:Heap} {a:Act} {w:World}
variable {F:Fence} {n:Nat}
theorem opsWp_clr (P:Program) (G:Nat→Option DV):∀ l:List DOper,opsWp P G (l.map clrB)=opsWp P G l
 |[]=>rfl
 |o :: r=>by
  have ih:=opsWp_clr P G r
  funext K Q t h
  show (match o.guard with
   |none=>stepWp P G o (opsWp P G (r.map clrB) K Q) t h
   |some (g,want)=>match tget t g with
    |.bool b=>onG (memB g K) b want (stepWp P G o (opsWp P G (r.map clrB) (g :: K) Q) ((g,.bool want) :: t) h) (putK o.dst (.tuple []) ((g,.bool (!want)) :: t) fun t'=>opsWp P G (r.map clrB) (g :: K) Q t' h)
    |.tuple []=>putK o.dst (.tuple []) t fun t'=>opsWp P G (r.map clrB) K Q t' h
    |_=>False)=_
  rw [ih];rfl
theorem code_runA (hmo:P.follows .mixedOrders=true) {ann:Ann} :
  ∀ (c:Code) (blk:Nat) (dc:DC),cCode P ann nt blk c=some dc→∀ {F:Fence} {n:Nat} {B:Base} {M0:Mem} {w0:World},GOk G M0→OpenB G F B w0→F.depth=none→B.gh=false→(F.round=none∧B.nd=false∨noRange dc=true) →
   keepsAll (B.h0.map (·.1)) dc=true→∀ {DQ:DExit→SP} {t:Tmps} {h:Heap},dwp P G dc DQ t h→∀ {M:Mem} {ρ:Locs} {a:Act} {w:World},Sim B nt M0 w0 M ρ t h a w →
   ∀ {Q:Exit→Act→World→Prop},ReadsQ B nt M0 w0 DQ Q→c.wpIn F n P Q a w:=by
 intro c
 induction c with
 |skip =>
  intro blk dc hc F n B M0 w0 hG hF hd hgh hnr hka DQ t h hw M ρ a w S Q hQ
  simp only [cCode,Option.some.injEq] at hc;subst hc
  exact wpIn_skip (hQ .normal _ _ _ _ _ _ hw S)
 |region id ops draw =>
  intro blk dc hc F n B M0 w0 hG hF hd hgh hnr hka DQ t h hw M ρ a w S Q hQ
  simp only [cCode] at hc
  split at hc
  ·rename_i l hl
   obtain ⟨c1,hc⟩:=cond_some hc
   simp only [Option.some.injEq] at hc;subst hc
   cases draw with
   |false =>
    have hw:opsWp P G (l.map clrB) [] (DQ .normal) t h:=hw
    rw [opsWp_clr] at hw
    obtain ⟨fs,t2,h2,ch,hq⟩:=opsWp_chain hw
    obtain ⟨hlen,hops⟩:=cOpers_spec ops.toList 0 [] l rfl hl
    refine wpIn_region ?_
    have:=plain_run (n:=n) (Q:=Q) (ops:=ops) (nt:=nt) hG hF hd ch 0 (fun k dop hk=>?_) S (fun M' ρ' a' w' S'=>hQ .normal _ _ _ _ _ _ hq S')
    ·rw [List.range_eq_range']
     rw [hlen] at this;simp at this;exact this
    ·have hlt:k < l.length:=(List.getElem?_eq_some_iff.1 hk).1
     rw [hlen] at hlt
     have hk2:ops.toList[k]?=some ops.toList[k]:=List.getElem?_eq_getElem hlt
     refine ⟨ops.toList[k],?_,(hops k _ dop hk2 hk).1⟩
     rw [Nat.zero_add];simp
   |true =>
    simp only [Bool.not_true,Bool.false_or] at c1
    have hw:drawWp P G l [] [] (DQ .normal) t h:=hw
    obtain ⟨fs,t2,h2,ch,hft,hq⟩:=drawWp_chain hw
    rw [List.reverse_nil,List.nil_append] at hft
    refine wpIn_region_any hmo ?_
    have hS:Sim B nt M0 w0 M ρ t h a { w with drawn:=w.drawn+1 }:=S.world (fun _ _=>rfl) ⟨S.below.os,S.below.tape,S.below.output,S.below.size,S.below.block⟩
    exact draw_run hG hF hd hl c1 ch hft hS (fun M' ρ' a' w' S'=>hQ .normal _ _ _ _ _ _ hq S')
  ·cases hc
 |seq x y ihx ihy =>
  intro blk dc hc F n B M0 w0 hG hF hd hgh hnr hka DQ t h hw M ρ a w S Q hQ
  simp only [cCode] at hc
  split at hc
  ·rename_i dx dy hx hy
   simp only [Option.some.injEq] at hc;subst hc
   simp only [keepsAll,Bool.and_eq_true] at hka
   refine wpIn_seq (ihx blk dx hx hG hF hd hgh (hnr.imp id fun e=>(Bool.and_eq_true_iff.1 e).1) hka.1 hw S ?_)
   intro e t' h' M' ρ' a' w' hq S'
   cases e with
   |normal=>exact ihy blk dy hy hG hF hd hgh (hnr.imp id fun e=>(Bool.and_eq_true_iff.1 e).2) hka.2 hq S' hQ
   |exit i=>exact hQ (.exit i) _ _ _ _ _ _ hq S'
   |ret=>exact hQ .ret _ _ _ _ _ _ hq S'
  ·cases hc
 |cond cnd x y ihx ihy =>
  intro blk dc hc F n B M0 w0 hG hF hd hgh hnr hka DQ t h hw M ρ a w S Q hQ
  simp only [cCode] at hc
  split at hc
  ·rename_i dx dy hx hy
   simp only [Option.some.injEq] at hc;subst hc
   unfold dwp at hw
   split at hw
   ·rename_i v hv
    have hrel:=S.opd hG cnd
    rw [hv] at hrel
    simp only [keepsAll,Bool.and_eq_true] at hka
    exact wpIn_cond_split hrel.inv_bool (fun e=>ihx blk dx hx hG hF hd hgh (hnr.imp id fun e=>(Bool.and_eq_true_iff.1 e).1) hka.1 (hw.1 e) S hQ) (fun e=>ihy blk dy hy hG hF hd hgh (hnr.imp id fun e=>(Bool.and_eq_true_iff.1 e).2) hka.2 (hw.2 e) S hQ)
   ·rename_i hv
    have hrel:=S.opd hG cnd
    rw [hv] at hrel
    obtain ⟨b,hb⟩:=hrel.inv_abool
    simp only [keepsAll,Bool.and_eq_true] at hka
    exact wpIn_cond_split hb (fun e=>ihx blk dx hx hG hF hd hgh (hnr.imp id fun e=>(Bool.and_eq_true_iff.1 e).1) hka.1 hw.1 S hQ) (fun e=>ihy blk dy hy hG hF hd hgh (hnr.imp id fun e=>(Bool.and_eq_true_iff.1 e).2) hka.2 hw.2 S hQ)
   ·exact hw.elim
  ·cases hc
 |block id x ih =>
  intro blk dc hc F n B M0 w0 hG hF hd hgh hnr hka DQ t h hw M ρ a w S Q hQ
  simp only [cCode] at hc
  split at hc
  ·rename_i dx hx
   simp only [Option.some.injEq] at hc;subst hc
   simp only [keepsAll,Bool.and_eq_true] at hka
   have hkk:∀ k',assoc ann.blocks id=some k'→∀ n o,hlook B.h0 n=some o→n ∈ k'.kh:=fun k' e=>by
    have h1:=hka.1;rw [e] at h1;exact keeps_kh h1
   refine wpIn_block (ih id dx hx hG hF hd hgh hnr hka.2 hw S ?_)
   intro e t' h' M' ρ' a' w' hq S'
   cases e with
   |normal =>
    obtain ⟨M2,t2,h2,S2,hq2⟩:=S'.keepK hkk hq
    exact hQ .normal _ _ _ _ _ _ hq2 S2
   |exit i =>
    simp only [blockQ] at hq
    show (if i=id then Q .normal a' w' else Q (.exit i) a' w')
    rw [natbeq] at hq
    by_cases e:i=id
    ·rw [if_pos e]
     simp only [e,decide_true,cond_true] at hq
     obtain ⟨M2,t2,h2,S2,hq2⟩:=S'.keepK hkk hq
     exact hQ .normal _ _ _ _ _ _ hq2 S2
    ·rw [if_neg e]
     simp only [e,decide_false,cond_false] at hq
     exact hQ (.exit i) _ _ _ _ _ _ hq S'
   |ret=>exact hQ .ret _ _ _ _ _ _ hq S'
  ·cases hc
 |loop x ih =>
  intro blk dc hc F n B M0 w0 hG hF hd hgh hnr hka DQ t h hw M ρ a w S Q hQ
  simp only [cCode] at hc
  split at hc
  ·rename_i dx hx
   simp only [Option.some.injEq] at hc;subst hc
   simp only [keepsAll,Bool.and_eq_true] at hka
   have hkk:=keeps_kh hka.1
   unfold dwp loopWp at hw
   obtain ⟨ρ1,t1,h1,S1,hbx,m,hw⟩:=S.enterK hw
   obtain ⟨M2,S2⟩:=S1.keep _ ((assoc ann.loops blk).getD default).kt hkk hbx
   refine wpIn_loop_rounds m ?_
   have key:∀ (m:Nat) (t:Tmps) (h:Heap) (M:Mem) (ρ:Locs) (a:Act) (w:World),loopN (dwp P G dx) ((assoc ann.loops blk).getD default) DQ m t h→Sim B nt M0 w0 M ρ t h a w→x.roundsIn F n P Q m a w:=by
    intro m
    induction m with
    |zero=>intro t h M ρ a w hw _;exact hw.elim
    |succ m ihm =>
     intro t h M ρ a w hw S
     rw [roundsIn_succ]
     refine ih blk dx hx hG hF hd hgh hnr hka.2 hw S ?_
     intro e t' h' M' ρ' a' w' hq S'
     cases e with
     |normal =>
      obtain ⟨M3,S3⟩:=S'.keep _ ((assoc ann.loops blk).getD default).kt hkk hq.1
      exact ihm _ _ M3 ρ' a' w' hq.2 S3
     |exit i=>exact hQ (.exit i) _ _ _ _ _ _ hq S'
     |ret=>exact hQ .ret _ _ _ _ _ _ hq S'
   exact key m _ _ M2 ρ1 a w hw S2
  ·cases hc
 |exit id =>
  intro blk dc hc F n B M0 w0 hG hF hd hgh hnr hka DQ t h hw M ρ a w S Q hQ
  simp only [cCode,Option.some.injEq] at hc;subst hc
  exact wpIn_exit (hQ (.exit id) _ _ _ _ _ _ hw S)
 |ret =>
  intro blk dc hc F n B M0 w0 hG hF hd hgh hnr hka DQ t h hw M ρ a w S Q hQ
  simp only [cCode,Option.some.injEq] at hc;subst hc
  exact wpIn_ret (hQ .ret _ _ _ _ _ _ hw S)
 |rangeFunc f ps x y ihx ihy =>
  intro blk dc hc F n B M0 w0 hG hF hd hgh hnr hka DQ t h hw M ρ a w S Q hQ
  simp only [cCode] at hc
  split at hc
  ·rename_i dx dy hx hy
   obtain ⟨c1,hc⟩:=cond_some hc
   simp only [Option.some.injEq] at hc;subst hc
   simp only [Bool.and_eq_true] at c1
   obtain ⟨⟨⟨kx,ky⟩,nx,ny⟩,cp⟩:=c1
   simp only [keepsAll,Bool.and_eq_true] at hka
   rcases hnr with ⟨hro,hnd⟩|hnr
   ·refine range_run hG hF hd hro hnd hgh (x:=x) (y:=y) (dx:=dx) (dy:=dy) (fun {F n B M0 w0}=>ihx blk dx hx) (fun {F n B M0 w0}=>ihy blk dy hy) nx ny (keeps_kh hka.1) kx ky (fun p hp=>Nat.le_of_ble_eq_true (List.all_eq_true.1 cp p hp)) ?_ S hQ
    unfold dwp at hw;exact hw
   ·simp [noRange] at hnr
  ·cases hc
 |scope x ih =>
  intro blk dc hc F n B M0 w0 hG hF hd hgh hnr hka DQ t h hw M ρ a w S Q hQ
  simp only [cCode] at hc
  refine wpIn_scope_plain (ih blk dc hc hG hF hd hgh hnr hka hw S ?_)
  intro e t' h' M' ρ' a' w' hq S'
  cases e with
  |normal=>exact hQ .normal _ _ _ _ _ _ hq S'
  |exit i=>exact hQ (.exit i) _ _ _ _ _ _ hq S'
  |ret=>exact hQ .ret _ _ _ _ _ _ hq S'
 |label l =>
  intro blk dc hc F n B M0 w0 hG hF hd hgh hnr hka DQ t h hw M ρ a w S Q hQ
  simp only [cCode,Option.some.injEq] at hc;subst hc
  exact wpIn_label (hQ .normal _ _ _ _ _ _ hw S)
 |_=>intro blk dc hc;simp [cCode] at hc
theorem code_run (hG:GOk G M0) (hF:OpenB G F B w0) (hd:F.depth=none) (hmo:P.follows .mixedOrders=true) {ann:Ann} (c:Code) (blk:Nat) (dc:DC) (hc:cCode P ann nt blk c=some dc) (hka:keepsAll (B.h0.map (·.1)) dc=true)
  {DQ:DExit→SP} {t:Tmps} {h:Heap} (hw:dwp P G dc DQ t h) {M:Mem} {ρ:Locs} {a:Act} {w:World} (S:Sim B nt M0 w0 M ρ t h a w) {Q:Exit→Act→World→Prop} (hQ:ReadsQ B nt M0 w0 DQ Q) (hro:F.round=none) (hgh:B.gh=false:=by rfl) (hnd:B.nd=false:=by rfl):c.wpIn F n P Q a w :=
 code_runA hmo c blk dc hc hG hF hd hgh (.inl ⟨hro,hnd⟩) hka hw S hQ
theorem keepsAll_nil:∀ c:DC,keepsAll [] c=true
 |.seq a b=>by simp [keepsAll,keepsAll_nil a,keepsAll_nil b]
 |.cond _ a b=>by simp [keepsAll,keepsAll_nil a,keepsAll_nil b]
 |.block _ k a=>by cases k<;>simp [keepsAll,keepsAll_nil a]
 |.loop _ b=>by simp [keepsAll,keepsAll_nil b]
 |.skip=>rfl
 |.ops _ _=>rfl
 |.exit _=>rfl
 |.ret=>rfl
 |.rangeF _ _ _ a b=>by simp [keepsAll,keepsAll_nil a,keepsAll_nil b]
theorem Sim.leave {fn:Func} {R:Ending→World→Prop}:∀ {a:Act} {w:World},Sim B nt M0 w0 M ρ t h a w →
  (∀ (a':Act) (w':World),a'.tmps=a.tmps→Sim B nt M0 w0 M ρ t h a' w'→∃ v,(results fn a'.tmps).run P w'=.ok v w'∧R (.returned v) w')→LeavesInM F n P fn a.tmps R a.defers .returning w:=by
 intro a w
 generalize hds:a.defers=ds
 induction ds generalizing a w with
 |nil=>intro S hR;exact hR a w rfl S
 |cons d ds ih =>
  intro S hR
  obtain ⟨m1,m2,m0⟩:=S.marks
  rw [hds] at m1 m2 m0
  obtain ⟨D,rfl,h1,h2⟩:=m1 d (by simp)
  obtain ⟨m3,m4⟩:=List.pairwise_cons.1 m2
  refine ⟨by simp,.inl ⟨D,w.putObj D (.deferred none),rfl,run_takeDeferred h2,?_⟩⟩
  have S':Sim B nt M0 w0 M ρ t h { a with defers:=ds } (w.putObj D (.deferred none)):=by
   refine S.other rfl (putObj_other h2 rfl) (fun n o b c hn ho hρ=>World.putObj_heap_other (fun e=>by subst e;exact S.map_block hn ho hρ _ h2)) ⟨fun d hd=>?_,m4,fun e=>absurd (m0 e) (by simp)⟩ ?_
   ·obtain ⟨D',e1,e2,e3⟩:=m1 d (by simp [hd])
    refine ⟨D',e1,e2,?_⟩
    have hne:D'≠D:=fun e=>m3 d hd (by rw [e1,e])
    rw [World.putObj_heap_other hne];exact e3
   ·refine S.below.trans ⟨rfl,rfl,rfl,by simp,fun k hk=>World.putObj_heap_other (fun e=>hk (.inl (by rw [e];exact h1)))⟩
  exact @ih { a with defers:=ds } _ rfl S' (fun a' w' ha S''=>hR a' w' ha S'')
def resSem (tmps:Array Value):ResultVar→Sem Value
 |.tmp t=>pure (tmps.getD t undef)
 |.cell a t=>do loadVar t (← asAddr (tmps.getD a undef))
theorem results_eq (fn:Func) (tmps:Array Value):results fn tmps=(do let vs ← fn.results.mapM (resSem tmps);pure (if h:vs.size=1 then vs[0] else .tuple vs)):=by
 unfold results
 congr 1
theorem res_run (hG:GOk G M0) (S:Sim B nt M0 w0 M ρ t h a w) {r:ResultVar} {l:List DRes} (hr:resultsOf P [r]=some l) {ds:List DV} (hv:resVals (hlook h) t l=some ds) :
  ∃ d v,ds=[d]∧(resSem a.tmps r).run P w=.ok v w∧RelV M ρ h d v:=by
 cases r with
 |tmp i =>
  simp only [resultsOf,Option.some.injEq] at hr;subst hr
  simp only [resVals,resVal,Option.some.injEq] at hv;subst hv
  exact ⟨_,_,rfl,rfl,S.tm i⟩
 |cell x ty =>
  simp only [resultsOf] at hr
  split at hr
  ·rename_i sz agg l' hel hl'
   simp only [Option.some.injEq] at hl' hr;subst hl';subst hr
   obtain ⟨e1,e2,e3,e4,e5⟩:=elemT_spec hel
   simp only [resVals,resVal] at hv
   split at hv
   ·rename_i d ds' hd hds
    simp only [Option.some.injEq] at hds hv;subst hds;subst hv
    split at hd
    ·rename_i n off hx
     split at hd
     ·rename_i szb d0 hl
      have r1:=S.tm x;rw [hx] at r1
      obtain ⟨sz',b,c,d',q1,q2,q3⟩:=r1.inv_bptr
      obtain ⟨cs,ty',e6,e7,e8,e9,e10⟩:=box_cells hG S (.inl hl) q3
      cases agg with
      |false =>
       simp only [cond_false] at hd
       obtain ⟨c1,hd⟩:=cond_some hd
       simp only [Option.some.injEq] at hd;subst hd
       simp only [Bool.and_eq_true] at c1
       have h0:=Nat.eq_of_beq_eq_true c1.1;subst h0
       have h1:0 < szb:=Nat.le_of_ble_eq_true c1.2
       have:=e4 rfl;subst this
       refine ⟨_,cs.getD 0 Go.undef,rfl,?_,(e10 0 h1).2⟩
       have:=loadVar_run1 (P:=P) hel (e10 0 h1).1
       simp only [resSem,q1,asAddr,Sem.run_bind,Sem.run_pure,Result.andThen_ok,this]
      |true =>
       simp only [cond_true] at hd
       obtain ⟨c1,hd⟩:=cond_some hd
       simp only [Option.some.injEq] at hd;subst hd
       simp only [Bool.and_eq_true] at c1
       have h0:=Nat.eq_of_beq_eq_true c1.1.1;subst h0
       have h1:=Nat.eq_of_beq_eq_true c1.1.2;subst h1
       refine ⟨_,.agg (gcells (fun j=>cs.getD (0+j) Go.undef) sz),rfl,?_,?_⟩
       ·have:=loadVar_run (P:=P) hel (b:=b) (o:=0) (g:=fun j=>cs.getD (0+j) Go.undef) (w:=w) (fun j hj=>(e10 (0+j) (by omega)).1)
        simp only [resSem,q1,asAddr,Sem.run_bind,Sem.run_pure,Result.andThen_ok,this,cond_true]
       ·rw [← whole_agg hG S c1.2 e8]
        refine .agg _ _ (by rw [gcells_size];simp;omega) (fun i hi=>?_)
        have hi':i < sz:=by simp at hi;omega
        rw [gcells_getD _ hi',take_drop_getD _ _ _ _ _ hi']
        exact (e10 (0+i) (by omega)).2
     ·cases hd
    ·cases hd
   ·cases hv
  ·cases hr
theorem resultsOf_cons {r:ResultVar} {l:List ResultVar} {rs:List DRes} (h:resultsOf P (r :: l)=some rs):∃ x rs',rs=x :: rs'∧resultsOf P [r]=some [x]∧resultsOf P l=some rs':=by
 cases r with
 |tmp i =>
  simp only [resultsOf] at h ⊢
  split at h
  ·rename_i l' hl;simp only [Option.some.injEq] at h;subst h;exact ⟨_,_,rfl,rfl,hl⟩
  ·cases h
 |cell x ty =>
  simp only [resultsOf] at h ⊢
  split at h
  ·rename_i sz agg l' he hl;simp only [Option.some.injEq] at h;subst h;exact ⟨_,_,rfl,by rw [he],hl⟩
  ·cases h
theorem resultsOf_run (hG:GOk G M0) (S:Sim B nt M0 w0 M ρ t h a w):∀ (l:List ResultVar) (rs:List DRes),resultsOf P l=some rs→∀ ds,resVals (hlook h) t rs=some ds →
  ∃ vs:List Value,(l.mapM (resSem a.tmps)).run P w=.ok vs w∧ds.length=vs.length∧l.length=vs.length∧∀ i,i < ds.length→RelV M ρ h (ds.getD i .undef) (vs.getD i Go.undef)
 |[],rs,hr,ds,hv=>by
  simp only [resultsOf,Option.some.injEq] at hr;subst hr
  simp only [resVals,Option.some.injEq] at hv;subst hv
  exact ⟨[],by simp,rfl,rfl,fun i hi=>by simp at hi⟩
 |r :: l,rs,hr,ds,hv=>by
  obtain ⟨x,rs',rfl,h1,h2⟩:=resultsOf_cons hr
  simp only [resVals] at hv
  split at hv
  ·rename_i d ds' hd hds
   simp only [Option.some.injEq] at hv;subst hv
   obtain ⟨d',v,e1,e2,e3⟩:=res_run hG S h1 (ds:=[d]) (by simp only [resVals,hd])
   simp only [List.cons.injEq,and_true] at e1;subst e1
   obtain ⟨vs,k1,k2,k3,k4⟩:=resultsOf_run hG S l rs' h2 ds' hds
   refine ⟨v :: vs,by simp [List.mapM_cons,e2,k1],by simp [k2],by simp [k3],fun i hi=>?_⟩
   cases i with
   |zero=>exact e3
   |succ i=>simpa using k4 i (by simpa using hi)
  ·cases hv
theorem pack_rel {M:Mem} {ds:List DV} {vs:List Value} (e1:ds.length=vs.length) (e2:∀ i,i < vs.length→RelP M (ds.getD i .undef) (vs.getD i Go.undef)) :
  RelP M (pack ds) (if h:vs.length=1 then vs[0]'(by omega) else .tuple vs.toArray):=by
 by_cases hl:vs.length=1
 ·rw [dif_pos hl]
  match ds,e1 with
  |[x],_ =>
   have:=e2 0 (by omega)
   simpa [pack,List.getD_eq_getElem?_getD,List.getElem?_eq_getElem (show 0 < vs.length by omega)] using this
  |[],e1=>simp at e1;omega
  |_ :: _ :: _,e1=>simp at e1;omega
 ·rw [dif_neg hl]
  have:pack ds=.tuple ds:=by
   match ds,e1 with
   |[x],e1=>simp at e1;omega
   |[],_=>rfl
   |_ :: _ :: _,_=>rfl
  rw [this]
  refine .tuple ds _ (by simp [e1]) (fun i hi=>?_)
  have:=e2 i (by omega)
  simpa [Array.getD_eq_getD_getElem?,List.getD_eq_getElem?_getD] using this
theorem packV_rel {ds:List DV} {vs:List Value} (e1:ds.length=vs.length) (e2:∀ i,i < vs.length→RelV M ρ h (ds.getD i .undef) (vs.getD i Go.undef)) :
  RelV M ρ h (pack ds) (if h:vs.length=1 then vs[0]'(by omega) else .tuple vs.toArray):=by
 by_cases hl:vs.length=1
 ·rw [dif_pos hl]
  match ds,e1 with
  |[x],_ =>
   have:=e2 0 (by omega)
   simpa [pack,List.getD_eq_getElem?_getD,List.getElem?_eq_getElem (show 0 < vs.length by omega)] using this
  |[],e1=>simp at e1;omega
  |_ :: _ :: _,e1=>simp at e1;omega
 ·rw [dif_neg hl]
  have:pack ds=.tuple ds:=by
   match ds,e1 with
   |[x],e1=>simp at e1;omega
   |[],_=>rfl
   |_ :: _ :: _,_=>rfl
  rw [this]
  refine .tuple ds _ (by simp [e1]) (fun i hi=>?_)
  have:=e2 i (by omega)
  simpa [Array.getD_eq_getD_getElem?,List.getD_eq_getElem?_getD] using this
theorem outs_run (hG:GOk G M0) {fn:Func} {rs:List DRes} (hrs:resultsOf P fn.results.toList=some rs) {d:DV} (S:Sim B nt M0 w0 M ρ t h a w) (ho:outs rs d t h) :
  ∃ v M',(results fn a.tmps).run P w=.ok v w∧M0.le M'∧M'.holds w∧RelP M' d v∧∀ b o v,M' b o=some v→M0 b o=none→B.wr b:=by
 unfold outs at ho
 split at ho
 ·exact ho.elim
 rename_i ds0 hv0
 obtain ⟨vs,hvs,hl1,hl2,hrel0⟩:=resultsOf_run hG S _ rs hrs ds0 hv0
 obtain ⟨M1,m1,S1,m2,m3,m4,m5⟩:=S.freeze (namess ds0)
 have hrun:(results fn a.tmps).run P w=.ok (if h:vs.length=1 then vs[0]'(by omega) else .tuple vs.toArray) w:=by
  rw [results_eq]
  have h2:(fn.results.mapM (resSem a.tmps)).run P w=.ok vs.toArray w:=by
   rw [Array.mapM_eq_mapM_toList]
   simp [hvs]
  rw [Sem.run_bind,h2]
  by_cases hl:vs.length=1
  ·simp [hl]
  ·simp [hl]
 have hrel:∀ p ds,purs (hlook h) ds0=some (p,ds)→holds p→ds.length=vs.length∧∀ i,i < vs.length→RelP M1 (ds.getD i .undef) (vs.getD i Go.undef):=fun p ds hv hp=>by
  obtain ⟨e1,e2⟩:=purs_rel S1 (hlook h) ds0 (fun i=>vs.getD i Go.undef) p ds hv hp (fun i hi=>(hrel0 i hi).ext m3) m5 (fun m hm sz d0 hl hp=>freeze_fbox hm hl hp)
  exact ⟨by omega,fun i hi=>e2 i (by omega)⟩
 refine ⟨_,M1,hrun,Mem.le_trans S.le m1,S1.mem,?_,S1.new⟩
 split at ho
 ·rename_i p ds hv
  obtain ⟨hp,ho⟩:=pre_holds ho
  rw [forceS_eq] at ho
  simp only [List.reverse_nil,List.nil_append] at ho
  subst ho
  obtain ⟨e1,e2⟩:=hrel p ds hv hp
  exact pack_rel e1 e2
 ·exact ho.elim
end
theorem tget_params:∀ (ds:List DV) (j i:Nat),tget (params ds j) i=if j≤i∧i < j+ds.length then ds.getD (i - j) .undef else .undef
 |[],j,i=>by
  simp only [params,List.length_nil]
  rw [if_neg (by omega)];rfl
 |d :: r,j,i=>by
  unfold params
  rw [tget_cons,tget_params r (j+1) i]
  by_cases e:j=i
  ·subst e;simp
  ·rw [if_neg e]
   by_cases h:j+1≤i∧i < j+1+r.length
   ·rw [if_pos h,if_pos (by simp only [List.length_cons];omega)]
    rw [show i - j=(i - (j+1))+1 by omega];simp
   ·rw [if_neg h,if_neg (by simp only [List.length_cons];omega)]
theorem pureCall_of {P:Program} {G:Nat→Option DV} {ann:Ann} {f:FuncId} {ds:List DV} {d:DV} {df:DFunc} (hc:cProg P ann f=some df) (hn:ds.length=df.nargs)
  (h:dwp P G df.body (retQ df.results d) (params ds 0) []):PureCall P G f ds d:=by
 unfold cProg at hc
 split at hc
 ·rename_i fn hfn
  unfold cFunc at hc
  split at hc
  ·rename_i c rs hb hrs
   split at hc
   ·rename_i dc hdc
    obtain ⟨c1,hc⟩:=cond_some hc
    simp only [Option.some.injEq] at hc;subst hc
    simp only [Bool.and_eq_true] at c1
    obtain ⟨⟨c1,c2⟩,c3⟩:=c1
    have c3:=Nat.le_of_ble_eq_true c3
    refine ⟨fun args w=>?_,fun F n hF hd hr M w vs hG hT hM hrel=>?_⟩
    ·unfold callFunc
     have hname:(fn.name == "runtime.NumGoroutine")=false:=by simpa using c2
     have hbody:fn.body.isNone=false:=by rw [hb];rfl
     have hname':fn.name ≠ "runtime.NumGoroutine":=by simpa using hname
     have hbody':fn.body≠none:=by rw [hb];simp
     simp [Sem.run_bind,hfn,hname',hbody']
    ·obtain ⟨r1,r2⟩:=hrel
     have hnt:vs.size≤fn.ntmps:=by simp only at hn;omega
     refine callsIn_of_wp_marks hfn hb (hF.fn f) (code_run (M0:=M) (w0:=w) (B:=Base.plain w.heap.size) (nt:=fn.ntmps) hG ⟨hF,hT.tb (fun k hk h=>by rcases h with h|h;exact absurd h (by simp only [Base.plain];omega);exact h.elim)⟩ hd c1 c 0 dc hdc (keepsAll_nil dc) h (M:=M) (ρ:=Locs.none) ?_ ?_ hr) hr
     ·refine { le:=M.le_refl,tm:=fun i=>?_,mem:=hM,obj:=fun n o h=>(by simp [hlook] at h),dis:=fun n m o p b c b' c' _ h=>(by simp [hlook] at h),dsub:=DSub.nil _,below:=Base.touch.refl _ _,hB:=rfl,new:=fun b o v e e0=>(by rw [e] at e0;cases e0),size:=(by simp;omega),marks:=⟨fun d hd=>(by simp at hd),.nil,fun _=>rfl⟩,ext:=Ext.refl _ _ _ }
      rw [tget_params]
      by_cases hi:i < ds.length
      ·rw [if_pos ⟨Nat.zero_le _,by omega⟩]
       have h1:(vs++Array.replicate (fn.ntmps - vs.size) undef).getD i Go.undef=vs.getD i Go.undef:=by
        simp [Array.getD_eq_getD_getElem?,Array.getElem?_append,show i < vs.size by omega]
       rw [h1];exact .pure (r2 i hi)
      ·rw [if_neg (by omega)];exact .pure (.undef _)
     ·have key:∀ (t:Tmps) (h:Heap) (M':Mem) (ρ:Locs) (a:Act) (w':World),outs rs d t h→Sim (Base.plain w.heap.size) fn.ntmps M w M' ρ t h a w'→LeavesInM F n P fn a.tmps (After M w d) a.defers .returning w':=by
       intro t h M' ρ a w' ho S
       refine S.leave (fun a' w' ht S'=>?_)
       obtain ⟨v,M2,q1,q2,q3,q4,q5⟩:=outs_run (P:=P) hG hrs S' ho
       exact ⟨v,q1,v,M2,rfl,q2,q3,q4,S'.below.below,fun b o v e e0=>by have:=q5 b o v e e0;simpa [Base.wr,Base.plain] using this⟩
      intro e t h M' ρ a w' hq S
      cases e with
      |normal=>exact key t h M' ρ a w' hq S
      |ret=>exact key t h M' ρ a w' hq S
      |exit i=>exact hq.elim
   ·cases hc
  ·cases hc
 ·cases hc
theorem cProg_spec {P:Program} {ann:Ann} {f:FuncId} {df:DFunc} (hc:cProg P ann f=some df):∃ fn c,P.funcs[f]?=some fn∧fn.body=some c∧resultsOf P fn.results.toList=some df.results∧cCode P ann fn.ntmps 0 c=some df.body ∧
  P.follows .mixedOrders=true∧Enters P f∧df.nargs≤fn.ntmps:=by
 unfold cProg at hc
 split at hc
 ·rename_i fn hfn
  unfold cFunc at hc
  split at hc
  ·rename_i c rs hb hrs
   split at hc
   ·rename_i dc hdc
    obtain ⟨c1,hc⟩:=cond_some hc
    simp only [Option.some.injEq] at hc;subst hc
    simp only [Bool.and_eq_true] at c1
    obtain ⟨⟨c1,c2⟩,c3⟩:=c1
    refine ⟨fn,c,hfn,hb,hrs,hdc,c1,fun args w=>?_,Nat.le_of_ble_eq_true c3⟩
    unfold callFunc
    have hname':fn.name ≠ "runtime.NumGoroutine":=by simpa using c2
    have hbody':fn.body≠none:=by rw [hb];simp
    simp [Sem.run_bind,hfn,hname',hbody']
   ·cases hc
  ·cases hc
 ·cases hc
theorem hCall_of {P:Program} {G:Nat→Option DV} {ann:Ann} {f:FuncId} {ds:List DV} {d:DV} {hs hs':Heap} {df:DFunc} (hc:cProg P ann f=some df) (hn:ds.length=df.nargs) (hk:keepsAll (hs.map (·.1)) df.body=true)
  (hsub:(hs.map (·.1)).all (fun n=>(hs'.map (·.1)).any (Nat.beq n))=true) (hw:dwp P G df.body (retH df.results d hs') (params ds 0) hs):HCall P G f ds hs d hs':=by
 obtain ⟨fn,c,hfn,hb,hrs,hdc,hmo,hen,hnt⟩:=cProg_spec hc
 refine ⟨hen,fun F n hF hd hr M ρ w vs hG hT hin hrel=>?_⟩
 obtain ⟨r1,r2⟩:=hrel
 have hsz:vs.size≤fn.ntmps:=by omega
 have hB0:∀ n o,hlook (callB w ρ hs).h0 n=some o→n ∈ hs'.map (·.1):=fun n o e=>by
  have h1:=List.all_eq_true.1 hsub n (List.mem_map.2 ⟨(n,o),mem_of_hlook e,rfl⟩)
  exact any_beq.1 h1
 refine callsIn_of_wp_marks hfn hb (hF.fn f) (code_run (M0:=M) (w0:=w) (B:=callB w ρ hs) (nt:=fn.ntmps) hG ⟨hF,hT⟩ hd hmo c 0 df.body hdc hk hw (M:=M) (ρ:=ρ) ?_ ?_ hr) hr
 ·refine { le:=M.le_refl,tm:=fun i=>?_,mem:=hin.mem,obj:=fun n o h=>(hin.obj n o h).base (fun b e=>.inr (callL_of ⟨o,h,e⟩)) (fun h=>Bool.noConfusion h),dis:=hin.dis,dsub:=hin.dsub,below:=Base.touch.refl _ _,hB:=rfl,new:=fun b o v e e0=>(by rw [e] at e0;cases e0),size:=(by simp;omega),marks:=⟨fun d hd=>(by simp at hd),.nil,fun _=>rfl⟩,ext:=Ext.refl _ _ _ }
  rw [tget_params]
  by_cases hi:i < ds.length
  ·rw [if_pos ⟨Nat.zero_le _,by omega⟩]
   have h1:(vs++Array.replicate (fn.ntmps - vs.size) undef).getD i Go.undef=vs.getD i Go.undef:=by
    simp [Array.getD_eq_getD_getElem?,Array.getElem?_append,show i < vs.size by omega]
   rw [h1];exact r2 i hi
  ·rw [if_neg (by omega)];exact .pure (.undef _)
 ·have key:∀ (t:Tmps) (h:Heap) (M':Mem) (ρ':Locs) (a:Act) (w':World),outsH df.results d hs' t h→Sim (callB w ρ hs) fn.ntmps M w M' ρ' t h a w'→LeavesInM F n P fn a.tmps (HAfter M ρ w hs d hs') a.defers .returning w':=by
   intro t h M' ρ' a w' ho S
   refine S.leave (fun a' w' ht S'=>?_)
   unfold outsH at ho
   split at ho
   ·exact ho.elim
   ·rename_i ds0 hv0
    rw [keepHK_eq] at ho
    simp only [List.reverse_nil,List.nil_append,forceS_eq] at ho
    obtain ⟨hbx,hh,hd⟩:=ho
    obtain ⟨vs',hvs,hl1,hl2,hrel0⟩:=resultsOf_run hG S' _ df.results hrs ds0 hv0
    obtain ⟨M1,S1,hrel1,_⟩:=S'.keepR (hs'.map (·.1)) [] hB0 hbx
    rw [hh] at S1 hrel1
    have hrun:(results fn a'.tmps).run P w'=.ok (if h:vs'.length=1 then vs'[0]'(by omega) else .tuple vs'.toArray) w':=by
     rw [results_eq]
     have h2:(fn.results.mapM (resSem a'.tmps)).run P w'=.ok vs'.toArray w':=by
      rw [Array.mapM_eq_mapM_toList]
      simp [hvs]
     rw [Sem.run_bind,h2]
     by_cases hl:vs'.length=1
     ·simp [hl]
     ·simp [hl]
    refine ⟨_,hrun,_,M1,ρ',rfl,⟨S1.mem,fun n o e=>(S1.obj n o e).base (fun b _=>wr_any b) (fun h=>Bool.noConfusion h),S1.dis,S1.dsub⟩,S1.ext,?_,S1.below,S1.new,fun n o b c e1 e2=>loc_wr S1 e1 e2,fun n i b e1=>(S1.occ e1.occ).1⟩
    rw [← hd]
    have e1:(ress (hs'.map (·.1)) (hlook h) ds0).length=vs'.length:=by rw [ress_length];omega
    refine packV_rel e1 (fun i hi=>?_)
    have h3:=hrel1 _ _ (hrel0 i (by omega))
    rw [ress_getD _ _ _ _ (by omega)];exact h3
  intro e t h M' ρ' a w' hq S
  cases e with
  |normal=>exact key t h M' ρ' a w' hq S
  |ret=>exact key t h M' ρ' a w' hq S
  |exit i=>exact hq.elim
end Sh

/- Plain lemmas for walks over the shadow semantics. -/
namespace Sh
open Go
theorem getD_enc {α:Type} (f:α→DV) (l:List α) (i:Nat) (d:α) (h:i < l.length):(l.map f).getD (Int.toNat (i:Int)) .undef=f (l.getD i d):=by
 simp [List.getD_eq_getElem?_getD,h]
def W (n:Int):Int:=IntKind.i64.wrap n
theorem W_def (n:Int):W n=if 9223372036854775808≤n % 18446744073709551616 then n % 18446744073709551616 - 18446744073709551616 else n % 18446744073709551616:=by
 unfold W IntKind.wrap
 simp [IntKind.bits,IntKind.signed]
theorem W_in {n:Int} (h1 : -9223372036854775808≤n) (h2:n≤9223372036854775807):W n=n:=by rw [W_def];split<;>omega
theorem wrap_W (a:Int):IntKind.i64.wrap a=W a:=rfl
end Sh

namespace Sh
open Go
def opsR (P:Program) (G:Nat→Option DV) (l:List DOper):List Nat→SP→SP :=
 List.rec (motive:=fun _=>List Nat→SP→SP) (fun _ Q t h=>Q t h)
  (fun o _ ih K Q t h=>match o.guard with
    |none=>stepWp P G o (ih K Q) t h
    |some (g,want)=>match tget t g with
     |.bool b=>onG (memB g K) b want (stepWp P G o (ih (g :: K) Q) ((g,.bool want) :: t) h) (putK o.dst (.tuple []) ((g,.bool (!want)) :: t) fun t'=>ih (g :: K) Q t' h)
     |.tuple []=>putK o.dst (.tuple []) t fun t'=>ih K Q t' h
     |_=>False) l
def forceN (l:List Nat):(List Nat→Prop)→Prop :=
 List.rec (motive:=fun _=>(List Nat→Prop)→Prop) (fun k=>k []) (fun n _ ih k=>ih fun r=>k (n :: r)) l
def forceSo {α:Type} (o:Option α) (k:Option α→Prop):Prop:=match o with
 |none=>k none
 |some a=>k (some a)
def forceFs (fs:List Foot) (k:List Foot→SP):SP:=fun t h=>match fs with
 |[]=>k [] t h
 |⟨bef,rd,wr,so⟩ :: r=>forceN rd fun rd=>forceN wr fun wr=>forceSo so fun so=>k (⟨bef,rd,wr,so⟩ :: r) t h
theorem forceN_eq:∀ (l:List Nat) (k:List Nat→Prop),forceN l k=k l
 |[],_=>rfl
 |n :: r,k=>forceN_eq r fun r=>k (n :: r)
theorem forceSo_eq {α:Type} (o:Option α) (k:Option α→Prop):forceSo o k=k o:=by cases o<;>rfl
theorem forceFs_eq (fs:List Foot) (k:List Foot→SP):forceFs fs k=k fs:=by
 funext t h
 match fs with
 |[]=>rfl
 |⟨bef,rd,wr,so⟩ :: r =>
  show forceN rd (fun rd=>forceN wr fun wr=>forceSo so fun so=>k (⟨bef,rd,wr,so⟩ :: r) t h)=_
  rw [forceN_eq,forceN_eq,forceSo_eq]
def drawR (P:Program) (G:Nat→Option DV) (l:List DOper):List Nat→List Foot→SP→SP :=
 List.rec (motive:=fun _=>List Nat→List Foot→SP→SP) (fun _ fs Q t h=>allFeet [] fs.reverse=true∧Q t h)
  (fun o _ ih K fs Q t h=>match o.guard with
    |none=>drawRun P G o fs (fun fs=>forceFs fs fun fs=>ih K fs Q) t h
    |some (g,want)=>match tget t g with
     |.bool b=>onG (memB g K) b want (drawRun P G o fs (fun fs=>forceFs fs fun fs=>ih (g :: K) fs Q) ((g,.bool want) :: t) h)
       (putK o.dst (.tuple []) ((g,.bool (!want)) :: t) fun t'=>ih (g :: K) (⟨o.bef,[],[],none⟩ :: fs) Q t' h)
     |.tuple []=>putK o.dst (.tuple []) t fun t'=>ih K (⟨o.bef,[],[],none⟩ :: fs) Q t' h
     |_=>False) l
def dwpR (P:Program) (G:Nat→Option DV) (d:DC):(DExit→SP)→SP :=
 DC.rec (motive:=fun _=>(DExit→SP)→SP) (fun Q t h=>Q .normal t h)
  (fun dr l Q t h=>match dr with
    |false=>opsR P G l [] (Q .normal) t h
    |true=>drawR P G l [] [] (Q .normal) t h)
  (fun _ _ ia ib Q t h=>ia (seqQ (ib Q) Q) t h)
  (fun c _ _ ia ib Q t h=>match evalOpd G t c with
    |.bool v=>(v=true→ia Q t h)∧(v=false→ib Q t h)
    |.abool=>ia Q t h∧ib Q t h
    |_=>False)
  (fun id k _ ia Q t h=>ia (blockQ id k Q) t h)
  (fun k _ ib Q t h=>loopWp ib k Q t h)
  (fun id Q t h=>Q (.exit id) t h)
  (fun Q t h=>Q .ret t h)
  (fun k f ps _ _ ia ib Q t h=>rangeWp P G (fun R=>ia (seqQ (ib R) (fun _ _ _=>False))) k ps Q (evalOpd G t f) t h) d
theorem opsR_eq (P:Program) (G:Nat→Option DV):∀ l:List DOper,opsR P G l=opsWp P G l
 |[]=>rfl
 |o :: r=>by
  have ih:=opsR_eq P G r
  funext K Q t h
  show (match o.guard with
   |none=>stepWp P G o (opsR P G r K Q) t h
   |some (g,want)=>match tget t g with
    |.bool b=>onG (memB g K) b want (stepWp P G o (opsR P G r (g :: K) Q) ((g,.bool want) :: t) h) (putK o.dst (.tuple []) ((g,.bool (!want)) :: t) fun t'=>opsR P G r (g :: K) Q t' h)
    |.tuple []=>putK o.dst (.tuple []) t fun t'=>opsR P G r K Q t' h
    |_=>False)=_
  rw [ih];rfl
theorem drawR_eq (P:Program) (G:Nat→Option DV):∀ l:List DOper,drawR P G l=drawWp P G l
 |[]=>rfl
 |o :: r=>by
  have ih:=drawR_eq P G r
  funext K fs Q t h
  show (match o.guard with
   |none=>drawRun P G o fs (fun fs=>forceFs fs fun fs=>drawR P G r K fs Q) t h
   |some (g,want)=>match tget t g with
    |.bool b=>onG (memB g K) b want (drawRun P G o fs (fun fs=>forceFs fs fun fs=>drawR P G r (g :: K) fs Q) ((g,.bool want) :: t) h)
      (putK o.dst (.tuple []) ((g,.bool (!want)) :: t) fun t'=>drawR P G r (g :: K) (⟨o.bef,[],[],none⟩ :: fs) Q t' h)
    |.tuple []=>putK o.dst (.tuple []) t fun t'=>drawR P G r K (⟨o.bef,[],[],none⟩ :: fs) Q t' h
    |_=>False)=_
  simp only [forceFs_eq,ih];rfl
theorem dwpR_eq (P:Program) (G:Nat→Option DV):∀ d:DC,dwpR P G d=dwp P G d
 |.skip=>rfl
 |.ops false l=>by
  funext Q t h
  show opsR P G l [] (Q .normal) t h=_
  rw [opsR_eq];rfl
 |.ops true l=>by
  funext Q t h
  show drawR P G l [] [] (Q .normal) t h=_
  rw [drawR_eq];rfl
 |.seq a b=>by
  funext Q t h
  show dwpR P G a (seqQ (dwpR P G b Q) Q) t h=_
  rw [dwpR_eq P G a,dwpR_eq P G b];rfl
 |.cond c a b=>by
  funext Q t h
  show (match evalOpd G t c with
   |.bool v=>(v=true→dwpR P G a Q t h)∧(v=false→dwpR P G b Q t h)
   |.abool=>dwpR P G a Q t h∧dwpR P G b Q t h
   |_=>False)=_
  rw [dwpR_eq P G a,dwpR_eq P G b];rfl
 |.block id k a=>by
  funext Q t h
  show dwpR P G a (blockQ id k Q) t h=_
  rw [dwpR_eq P G a];rfl
 |.loop k b=>by
  funext Q t h
  show loopWp (dwpR P G b) k Q t h=_
  rw [dwpR_eq P G b];rfl
 |.exit _=>rfl
 |.ret=>rfl
 |.rangeF k f ps x y=>by
  funext Q t h
  show rangeWp P G (fun R=>dwpR P G x (seqQ (dwpR P G y R) (fun _ _ _=>False))) k ps Q (evalOpd G t f) t h=_
  rw [dwpR_eq P G x,dwpR_eq P G y];rfl
theorem pureCall_ofR {P:Program} {G:Nat→Option DV} {ann:Ann} {f:FuncId} {ds:List DV} {d:DV} {df:DFunc} (hc:cProg P ann f=some df) (hn:ds.length=df.nargs)
  (h:dwpR P G df.body (retQ df.results d) (params ds 0) []):PureCall P G f ds d:=pureCall_of hc hn (by rw [← dwpR_eq];exact h)
theorem hCall_ofR {P:Program} {G:Nat→Option DV} {ann:Ann} {f:FuncId} {ds:List DV} {d:DV} {hs hs':Heap} {df:DFunc} (hc:cProg P ann f=some df) (hn:ds.length=df.nargs) (hk:keepsAll (hs.map (·.1)) df.body=true)
  (hsub:(hs.map (·.1)).all (fun n=>(hs'.map (·.1)).any (Nat.beq n))=true) (hw:dwpR P G df.body (retH df.results d hs') (params ds 0) hs):HCall P G f ds hs d hs' :=
 hCall_of hc hn hk hsub (by rw [← dwpR_eq];exact hw)
theorem dwp_loopR {P:Program} {G:Nat→Option DV} {α:Type} (T:α→Tmps) (H:α→Heap) (inv:α→Prop) (μ:α→Nat) {k:Keep} {b:DC} {Q:DExit→SP} {t:Tmps} {s:Heap} (a0:α)
  (h0:enterK k.cv t s fun t' h'=>boxesOk k.kh (hlook h') k.kh=true∧keepT k.kh (hlook h') t' k.kt=T a0∧keepH k.kh (hlook h') k.kh=H a0) (hi:inv a0)
  (step:∀ a,inv a→dwpR P G b (seqQ (fun t' h'=>∃ a',boxesOk k.kh (hlook h') k.kh=true∧keepT k.kh (hlook h') t' k.kt=T a'∧keepH k.kh (hlook h') k.kh=H a'∧inv a'∧μ a' < μ a) Q) (T a) (H a)) :
  loopWp (dwpR P G b) k Q t s:=by
 rw [dwpR_eq]
 exact dwp_loop T H inv μ a0 h0 hi fun a ha=>by rw [← dwpR_eq];exact step a ha
end Sh

namespace Sh
open Go
def opsY (P:Program) (G:Nat→Option DV) (l:List DOper):List Nat→SP→SP :=
 List.rec (motive:=fun _=>List Nat→SP→SP) (fun _ Q t h=>Q t h)
  (fun o _ ih K Q t h=>match o.guard with
    |none=>match evalOp (evalOpd G t) (hlook h) (o.dst.getD 0) o.op with
     |.yield 0 vs=>match hlook h 0 with
      |some (.ghost (x :: rest) true l)=>vs=x∧∀ b:Bool,putK o.dst (.bool b) t fun t'=>ih K Q t' ((0,.ghost rest b l) :: h)
      |_=>False
     |_=>stepWp P G o (ih K Q) t h
    |some (g,want)=>match tget t g with
     |.bool b=>onG (memB g K) b want (stepWp P G o (ih (g :: K) Q) ((g,.bool want) :: t) h) (putK o.dst (.tuple []) ((g,.bool (!want)) :: t) fun t'=>ih (g :: K) Q t' h)
     |.tuple []=>putK o.dst (.tuple []) t fun t'=>ih K Q t' h
     |_=>False) l
def dwpY (P:Program) (G:Nat→Option DV) (d:DC):(DExit→SP)→SP :=
 DC.rec (motive:=fun _=>(DExit→SP)→SP) (fun Q t h=>Q .normal t h)
  (fun dr l Q t h=>match dr with
    |false=>opsY P G l [] (Q .normal) t h
    |true=>drawR P G l [] [] (Q .normal) t h)
  (fun _ _ ia ib Q t h=>ia (seqQ (ib Q) Q) t h)
  (fun c _ _ ia ib Q t h=>match evalOpd G t c with
    |.bool v=>(v=true→ia Q t h)∧(v=false→ib Q t h)
    |.abool=>ia Q t h∧ib Q t h
    |_=>False)
  (fun id k _ ia Q t h=>ia (blockQ id k Q) t h)
  (fun k _ ib Q t h=>loopWp ib k Q t h)
  (fun id Q t h=>Q (.exit id) t h)
  (fun Q t h=>Q .ret t h)
  (fun _ _ _ _ _ _ _ _ _ _=>False) d
theorem opsY_clr (P:Program) (G:Nat→Option DV):∀ l:List DOper,opsY P G (l.map clrB)=opsY P G l
 |[]=>rfl
 |o :: r=>by
  have ih:=opsY_clr P G r
  funext K Q t h
  show (match o.guard with
   |none=>match evalOp (evalOpd G t) (hlook h) (o.dst.getD 0) o.op with
    |.yield 0 vs=>match hlook h 0 with
     |some (.ghost (x :: rest) true l)=>vs=x∧∀ b:Bool,putK o.dst (.bool b) t fun t'=>opsY P G (r.map clrB) K Q t' ((0,.ghost rest b l) :: h)
     |_=>False
    |_=>stepWp P G o (opsY P G (r.map clrB) K Q) t h
   |some (g,want)=>match tget t g with
    |.bool b=>onG (memB g K) b want (stepWp P G o (opsY P G (r.map clrB) (g :: K) Q) ((g,.bool want) :: t) h) (putK o.dst (.tuple []) ((g,.bool (!want)) :: t) fun t'=>opsY P G (r.map clrB) (g :: K) Q t' h)
    |.tuple []=>putK o.dst (.tuple []) t fun t'=>opsY P G (r.map clrB) K Q t' h
    |_=>False)=_
  rw [ih];rfl
inductive TreeY (P:Program) (G:Nat→Option DV):List DOper→Tmps→Heap→SP→Prop
 |nil {t:Tmps} {h:Heap} {Q:SP} (hq:Q t h):TreeY P G [] t h Q
 |step {o:DOper} {r:List DOper} {ft:Foot} {t t':Tmps} {h h':Heap} {Q:SP} (s:StepTo P G o ft t h t' h') (hr:TreeY P G r t' h' Q):TreeY P G (o :: r) t h Q
 |yld {o:DOper} {r:List DOper} {t:Tmps} {h:Heap} {Q:SP} {l:Nat} {x:List DV} {rest:List (List DV)} (hg:o.guard=none)
   (he:evalOp (evalOpd G t) (hlook h) (o.dst.getD 0) o.op=.yield 0 x) (hn:hlook h 0=some (.ghost (x :: rest) true l))
   (hr:∀ b:Bool,TreeY P G r (putO o.dst (.bool b) t) ((0,.ghost rest b l) :: h) Q):TreeY P G (o :: r) t h Q
theorem opsY_tree {P:Program} {G:Nat→Option DV}:∀ {l:List DOper} {K:List Nat} {Q:SP} {t:Tmps} {h:Heap},opsY P G l K Q t h→TreeY P G l t h Q
 |[],_,_,_,_,hs=>.nil hs
 |o :: r,K,Q,t,h,hs=>by
  have hs:(match o.guard with
   |none=>match evalOp (evalOpd G t) (hlook h) (o.dst.getD 0) o.op with
    |.yield 0 vs=>match hlook h 0 with
     |some (.ghost (x :: rest) true l)=>vs=x∧∀ b:Bool,putK o.dst (.bool b) t fun t'=>opsY P G r K Q t' ((0,.ghost rest b l) :: h)
     |_=>False
    |_=>stepWp P G o (opsY P G r K Q) t h
   |some (g,want)=>match tget t g with
    |.bool b=>onG (memB g K) b want (stepWp P G o (opsY P G r (g :: K) Q) ((g,.bool want) :: t) h) (putK o.dst (.tuple []) ((g,.bool (!want)) :: t) fun t'=>opsY P G r (g :: K) Q t' h)
    |.tuple []=>putK o.dst (.tuple []) t fun t'=>opsY P G r K Q t' h
    |_=>False):=hs
  split at hs
  ·rename_i hg
   split at hs
   ·rename_i vs he
    split at hs
    ·rename_i x rest l hn
     obtain ⟨rfl,hs⟩:=hs
     refine .yld hg he hn (fun b=>?_)
     have:=hs b
     rw [putK_eq] at this
     exact opsY_tree this
    ·exact hs.elim
   ·obtain ⟨ft,t1,h1,st,hs⟩:=drawRun_step (fun g want e=>by rw [hg] at e;cases e) (stepWp_draw hs)
    exact .step st (opsY_tree hs)
  ·rename_i g want hg
   split at hs
   ·rename_i b hb
    have hs:=onG_spec hs
    by_cases e:b=want
    ·have h1:=hs.1 e
     obtain ⟨ft,t1,h1,st,hs⟩:=drawRun_step (guarded_of hg) (stepWp_draw h1)
     exact .step (st.of_dup (by rw [hb,e])) (opsY_tree hs)
    ·have e':b=!want:=by cases b<;>cases want<;>simp_all
     have h1:=hs.2 e'
     rw [putK_eq] at h1
     exact .step (StepTo.skip hg (.inl (by rw [hb,e'])) (tget_dup (by rw [hb,e']))) (opsY_tree h1)
   ·rename_i hb
    rw [putK_eq] at hs
    exact .step (StepTo.skip hg (.inr hb) (fun _=>rfl)) (opsY_tree hs)
   ·exact hs.elim
def baseY (wy:World) (L:Nat→Prop)  (rest:List (List DV)) (live:Bool) (l:Nat):Base:=⟨wy.heap.size,L,Locs.none,[(0,.ghost rest live l)],true,true⟩
def SG (nt:Nat) (w00:World) (l:Nat) (K0 C:Nat→Prop) (M00:Mem) (J:ProtoJ) (t:Tmps) (h:Heap) (a:Act) (w:World):Prop :=
 ∃ (wy:World) (L:Nat→Prop) (My M:Mem) (ρ:Locs) (rest:List (List DV)) (live:Bool) (K:Nat→Prop),
  Sim (baseY wy L rest live l) nt My wy M ρ t h a w∧J rest live K wy∧(∀ b,K b→b < wy.heap.size)∧(∀ b,L b→¬ K b∧(w00.heap.size≤b∨C b))∧(∀ b o v,My b o=some v→¬ K b) ∧
   (∀ b,K b→K0 b∨w00.heap.size≤b)∧(∀ b,K0 b→K b)∧Turns (fun b=>K0 b∨C b) w00 wy∧M00.le My∧(∀ x ∈ rest,flatBs x=true)
section
variable {P:Program} {G:Nat→Option DV} {nt:Nat} {w00:World} {l:Nat} {K0 C:Nat→Prop} {M00:Mem} {J:ProtoJ} {F:Fence} {n:Nat}
theorem sg_tb {wy:World} {L:Nat→Prop} {rest:List (List DV)} {live:Bool} {K:Nat→Prop} (hTb:Tb G w00 (fun b=>K0 b∨C b)) (hL:∀ b,L b→¬ K b∧(w00.heap.size≤b∨C b)) (hT:Turns (fun b=>K0 b∨C b) w00 wy):Tb G wy (baseY wy L rest live l).wr :=
 hTb.step hT.block hT.size (fun k hk h=>by
  rcases h with h|h
  ·exact absurd (show wy.heap.size≤k from h) (by have:=hT.size;omega)
  ·rcases (hL k h).2 with q|q
   ·omega
   ·exact .inr q)
theorem wr_notK {wy:World} {L:Nat→Prop} {rest:List (List DV)} {live:Bool} {K:Nat→Prop} (hK:∀ b,K b→b < wy.heap.size) (hL:∀ b,L b→¬ K b∧(w00.heap.size≤b∨C b)) (hsz:w00.heap.size≤wy.heap.size) {b:Nat}
  (h:(baseY wy L rest live l).wr b):¬ K b∧(w00.heap.size≤b∨C b):=by
 rcases h with h|h
 ·exact ⟨fun hk=>by have:=hK b hk;have h:wy.heap.size≤b:=h;omega,.inl (by have h:wy.heap.size≤b:=h;omega)⟩
 ·exact hL b h
theorem stays_of_touch {wy w:World} {L:Nat→Prop} {rest:List (List DV)} {live:Bool} {K:Nat→Prop} (hK:∀ b,K b→b < wy.heap.size) (hL:∀ b,L b→¬ K b∧(w00.heap.size≤b∨C b)) (hsz:w00.heap.size≤wy.heap.size)
  (h:(baseY wy L rest live l).touch wy w):Stays w00.heap.size C K wy w :=
 ⟨h.os,h.tape,h.output,h.size,fun b _ hb=>h.block b (fun hw=>by have:=wr_notK hK hL hsz hw;rcases hb with hb|hb;exact this.1 hb;rcases this.2 with q|q;omega;exact hb.2 q)⟩
theorem turns_now {wy w:World} {L:Nat→Prop} {rest:List (List DV)} {live:Bool} {K:Nat→Prop} (hK:∀ b,K b→b < wy.heap.size) (hL:∀ b,L b→¬ K b∧(w00.heap.size≤b∨C b)) (hT:Turns (fun b=>K0 b∨C b) w00 wy)
  (h:(baseY wy L rest live l).touch wy w):Turns (fun b=>K0 b∨C b) w00 w :=
 ⟨h.os.trans hT.os,h.tape.trans hT.tape,h.output.trans hT.output,Nat.le_trans hT.size h.size,fun b hb hk=>(h.block b (fun hw=>by have:=wr_notK hK hL hT.size hw;rcases this.2 with q|q;omega;exact hk (.inr q))).trans (hT.block b hb hk)⟩
theorem flatBs_relP {x:List DV} (hf:flatBs x=true) {M:Mem} {vs:Array Value} (h:RelPs M x vs):RelPs (fun _ _=>none) x vs :=
 ⟨h.1,fun i hi=>relP_flats x (fun i=>vs.getD i Go.undef) hf (fun i hi=>h.2 i hi) i hi⟩
theorem flatBs_get:∀ {ds:List DV},flatBs ds=true→∀ i,i < ds.length→flatB (ds.getD i .undef)=true
 |[],_,i,h=>absurd h (Nat.not_lt_zero i)
 |d :: r,hf,i,h=>by
  simp only [flatBs,Bool.and_eq_true] at hf
  cases i with
  |zero=>exact hf.1
  |succ i=>exact flatBs_get hf.2 i (by simpa using h)
theorem relV_flat {M:Mem} {ρ:Locs} {h:Heap} {d:DV} {v:Value} (r:RelV M ρ h d v):flatB d=true→RelP M d v:=by
 induction r with
 |pure hp=>exact fun _=>hp
 |agg ds vs hl _ ih=>exact fun hf=>.agg ds vs hl (fun i hi=>ih i hi (flatBs_get (by simpa [flatB] using hf) i hi))
 |tuple ds vs hl _ ih=>exact fun hf=>.tuple ds vs hl (fun i hi=>ih i hi (flatBs_get (by simpa [flatB] using hf) i hi))
 |func f ds vs hl _ ih=>exact fun hf=>.func f ds vs hl (fun i hi=>ih i hi (flatBs_get (by simpa [flatB] using hf) i hi))
 |meth f ds vs hl _ ih=>exact fun hf=>.meth f ds vs hl (fun i hi=>ih i hi (flatBs_get (by simpa [flatB] using hf) i hi))
 |_=>intro hf;simp [flatB] at hf
theorem RelV.ghost {M:Mem} {ρ:Locs} {h:Heap} {r0 r1:List (List DV)} {v0 v1:Bool} {l:Nat} (hn:hlook h 0=some (.ghost r0 v0 l)) {d:DV} {v:Value} (r:RelV M ρ h d v):RelV M ρ ((0,.ghost r1 v1 l) :: h) d v:=by
 have look:∀ {n o},hlook h n=some o→(∀ a b c,o≠.ghost a b c)→hlook ((0,DObj.ghost r1 v1 l) :: h) n=some o:=fun {n o} e hng=>by
  rw [hlook_cons]
  split
  ·rename_i e0;subst e0;rw [hn] at e;cases e;exact absurd rfl (hng _ _ _)
  ·exact e
 induction r with
 |pure hp=>exact .pure hp
 |agg ds vs hl _ ih=>exact .agg ds vs hl ih
 |tuple ds vs hl _ ih=>exact .tuple ds vs hl ih
 |func f ds vs hl _ ih=>exact .func f ds vs hl ih
 |meth f ds vs hl _ ih=>exact .meth f ds vs hl ih
 |own n off len tot sz es fr v hl ht hs hv=>exact .own n off len tot sz es fr v (look hl (fun _ _ _=>by simp)) ht hs hv
 |ptr n i off tot sz es fr v hl ht hi hs hv=>exact .ptr n i off tot sz es fr v (look hl (fun _ _ _=>by simp)) ht hi hs hv
 |bptr n off sz b c d hl hρ=>exact .bptr n off sz b c d (look hl (fun _ _ _=>by simp)) hρ
 |fptr n off sz b c d hl hρ=>exact .fptr n off sz b c d (look hl (fun _ _ _=>by simp)) hρ
 |dictv n b c es hl hρ=>exact .dictv n b c es (look hl (fun _ _ _=>by simp)) hρ
 |sitv n b c pos s hl hρ=>exact .sitv n b c pos s (look hl (fun _ _ _=>by simp)) hρ
 |yldv n l' rest live hl =>
  by_cases e:n=0
  ·subst e;rw [hn] at hl;cases hl
   exact .yldv 0 l r1 v1 (by rw [hlook_cons,if_pos rfl])
  ·exact .yldv n l' rest live (by rw [hlook_cons,if_neg (Ne.symm e)];exact hl)
 |nown n off len tot sz c isz es pd v hl ht hs hv=>exact .nown n off len tot sz c isz es pd v (look hl (fun _ _ _=>by simp)) ht hs hv
 |nptr n i off tot sz c isz es pd v hl ht hi hs hv=>exact .nptr n i off tot sz c isz es pd v (look hl (fun _ _ _=>by simp)) ht hi hs hv
 |subv n i off len tot v hs hh =>
  refine .subv n i off len tot v hs ?_
  rcases hh with ⟨sz,c,isz,es,pd,q1,q2,q3⟩|⟨sz,es,fr,q1⟩
  ·exact .inl ⟨sz,c,isz,es,pd,look q1 (fun _ _ _=>by simp),q2,q3⟩
  ·exact .inr ⟨sz,es,fr,look q1 (fun _ _ _=>by simp)⟩
 |sptrv n i j off tot v hs hh =>
  refine .sptrv n i j off tot v hs ?_
  rcases hh with ⟨sz,c,isz,es,pd,q1,q2,q3⟩|⟨sz,es,fr,q1⟩
  ·exact .inl ⟨sz,c,isz,es,pd,look q1 (fun _ _ _=>by simp),q2,q3⟩
  ·exact .inr ⟨sz,es,fr,look q1 (fun _ _ _=>by simp)⟩
 |vl l' b sz g hsz hM _ ih=>exact .vl l' b sz g hsz hM ih
theorem evalOp_yield {ev:Operand→DV} {lk:Nat→Option DObj} {n:Nat} {op:DOp} {k:Nat} {vs:List DV} (h:evalOp ev lk n op=.yield k vs) :
  ∃ fo args,op=.call fo args∧ev fo=.dict k∧vs=args.map ev:=by
 cases op with
 |call fo args =>
  simp only [evalOp] at h
  split at h
  ·cases h
  ·cases h
  ·rename_i m hm;cases h;exact ⟨fo,args,rfl,hm,rfl⟩
  ·cases h
 |bin op x y =>
  exfalso
  simp only [evalOp] at h
  split at h
  ·rename_i j a k b _ _
   generalize kindEq j k=q at h
   cases q<;>cases op<;>cases h
  ·cases op<;>cases h
  ·rename_i j a k b _ _
   cases hq:fkEq j k<;>rw [hq] at h
   ·cases h
   ·rcases fltBin_ok op k a b with e|⟨d,e⟩<;>rw [cond_true,e] at h<;>cases h
  iterate 3
   ·rename_i j k _ _
    revert h
    generalize fkEq _ _=q
    intro h
    cases q
    ·cases h
    ·rcases nanBin_ok op with e|⟨d,e⟩<;>rw [cond_true,e] at h<;>cases h
  ·cases h
 |fconv j k x =>
  exfalso
  simp only [evalOp] at h
  split at h
  ·rename_i j' a _
   cases hq:fkEq j j'<;>rw [hq] at h
   ·cases h
   ·rcases fltConv_ok j k a with e|⟨d,e⟩<;>rw [cond_true,e] at h<;>cases h
  ·rename_i j' _
   cases hq:fkEq j j'<;>rw [hq] at h<;>cases h
  ·cases h
 |ftoi j k x =>
  exfalso
  simp only [evalOp] at h
  split at h
  ·rename_i j' a _
   cases hq:fkEq j j'<;>rw [hq] at h
   ·cases h
   ·rcases fltInt_ok j k a with e|⟨d,e⟩<;>rw [cond_true,e] at h<;>cases h
  ·cases h
 |lit imm sz len z ps =>
  exfalso
  simp only [evalOp] at h
  split at h
  ·rename_i p es _
   revert h
   cases ps.all fun q=>okE sz (ev q.2)
   ·intro h;cases h
   ·cases imm
    ·simp only [cond_true,cond_false];split
     ·cases Nat.blt n 1000000<;>intro h<;>cases h
     ·intro h;cases h
    ·intro h;cases h
  ·cases h
 |_ =>
  exfalso
  simp only [evalOp] at h
  repeat' first
   |cases h
   |(rw [cond_eq_ite] at h)
   |split at h
theorem inv_yield {M:Mem} {ρ:Locs} {h:Heap} {n:Nat} {v:Value} (r:RelV M ρ h (.dict n) v) {rest:List (List DV)} {live:Bool} (hl:hlook h n=some (.ghost rest live l)):v=.func (.yield l) #[] #[]:=by
 cases r with
 |pure hp=>cases hp
 |dictv _ b c es hl' hρ=>rw [hl] at hl';cases hl'
 |sitv _ b c pos s hl' hρ=>rw [hl] at hl';cases hl'
 |yldv _ l' _ _ hl'=>rw [hl] at hl';cases hl';rfl
theorem yield_run {B:Base} {M0:Mem} {w0:World} {M:Mem} {ρ:Locs} {t:Tmps} {h:Heap} {a:Act} {w:World} {o:Oper} (hG:GOk G M0) (S:Sim B nt M0 w0 M ρ t h a w) {imm:Bool} {dop:DOp} (hc:cOp P imm o.op=some dop) {m:Nat} {x:List DV}
  (he:evalOp (evalOpd G t) (hlook h) m dop=.yield 0 x) {rest:List (List DV)} {live:Bool} (hn:hlook h 0=some (.ghost rest live l)) :
  ∃ args:Array Value,RelVs M ρ h x args∧∀ fn tmps assign body,(Instr.yield l args).run P w=.ok (.round l fn tmps assign body) w→(execOp a.eval o).run P w=.ok (.round l fn tmps assign body) w:=by
 obtain ⟨fo,args,rfl,e2,rfl⟩:=evalOp_yield he
 obtain ⟨c,ho,hcal,rfl⟩:=cOp_call hc
 have hr:=S.opd hG fo
 rw [e2] at hr
 have hv:=inv_yield hr hn
 refine ⟨c.args.map a.eval,⟨by simp,fun i hi=>?_⟩,fun fn tmps assign body hy=>?_⟩
 ·have hlt:i < c.args.size:=by simpa using hi
  have e1:(c.args.toList.map (evalOpd G t)).getD i .undef=evalOpd G t c.args[i]:=by
   simp [List.getD_eq_getElem?_getD,hlt]
  have e3:(c.args.map a.eval).getD i Go.undef=a.eval c.args[i]:=by
   simp [Array.getD_eq_getD_getElem?,hlt]
  rw [e1,e3];exact S.opd hG _
 ·simp only [execOp,ho,resolve,hcal,hv,Deferred.ofValue]
  simpa [invoke] using hy
theorem ghost_now {wy:World} {L:Nat→Prop} {My M:Mem} {ρ:Locs} {t:Tmps} {h:Heap} {a:Act} {w:World} {rest:List (List DV)} {live:Bool} (S:Sim (baseY wy L rest live l) nt My wy M ρ t h a w):hlook h 0=some (.ghost rest live l)∧ρ 0=none:=by
 obtain ⟨e1,o',e2,e3⟩:=S.ext.box 0 (.ghost rest live l) rfl rfl
 cases o' with
 |ghost r v l'=>obtain ⟨rfl,rfl,rfl⟩:=e3;exact ⟨e2,e1⟩
 |_=>exact e3.elim
theorem SG.after {wy:World} {L:Nat→Prop} {My M:Mem} {ρ:Locs} {t:Tmps} {h:Heap} {a:Act} {w W':World} {r0 rest:List (List DV)} {v0 live:Bool} {K K':Nat→Prop}
  (S:Sim (baseY wy L r0 v0 l) nt My wy M ρ t h a w) (hK:∀ b,K b→b < wy.heap.size) (hL:∀ b,L b→¬ K b∧(w00.heap.size≤b∨C b)) (hM:∀ b o v,My b o=some v→¬ K b)
  (hK0:∀ b,K b→K0 b∨w00.heap.size≤b) (hK0':∀ b,K0 b→K b) (hT:Turns (fun b=>K0 b∨C b) w00 wy) (hM0:M00.le My) (hfl:∀ x ∈ rest,flatBs x=true)
  (hJ:J rest live K' W') (k1:∀ k,K' k→K k∨w.heap.size≤k) (k2:∀ k,K k→K' k) (k3:∀ k,K' k→k < W'.heap.size) (k4:Turns K w W') :
  SG nt w00 l K0 C M00 J t ((0,.ghost rest live l) :: h) a W':=by
 obtain ⟨hn,hρ0⟩:=ghost_now S
 have hsz:wy.heap.size≤w.heap.size:=S.below.size
 have wr:∀ {b},(baseY wy L r0 v0 l).wr b→¬ K b∧(w00.heap.size≤b∨C b):=fun hb=>wr_notK hK hL hT.size hb
 have loc:∀ {n b},Occ ρ h n b→¬ K b∧(w00.heap.size≤b∨C b)∧b < w.heap.size:=fun e1=>⟨(wr (S.occ e1).1).1,(wr (S.occ e1).1).2,S.occ_lt e1⟩
 have memK:∀ b o v,M b o=some v→¬ K b∧b < w.heap.size:=fun b o v e=>by
  refine ⟨?_,?_⟩
  ·cases e0:My b o with
   |none=>exact (wr (S.new b o v e e0)).1
   |some u=>exact hM b o u e0
  ·false_or_by_contra
   rename_i hlt
   have:=S.free_mem (b:=b) (by omega) o
   rw [this] at e;cases e
 have look:∀ {n o},hlook ((0,DObj.ghost rest live l) :: h) n=some o→n≠0→hlook h n=some o:=fun {n o} e hne=>by
  rw [hlook_cons,if_neg (Ne.symm hne)] at e;exact e
 have S':Sim (baseY W' (fun b=>∃ n,n≠0∧Occ ρ h n b) rest live l) nt M W' M ρ t ((0,.ghost rest live l) :: h) a W':=by
  refine { le:=M.le_refl,tm:=fun i=>(S.tm i).ghost hn,mem:=fun b o v e=>?_,obj:=fun n o e=>?_,dis:=fun n m o p b c b' c' hne e1 e2 e3 e4=>?_,dsub:=S.dsub.set hn rfl,below:=Base.touch.refl _ _,hB:=rfl,new:=fun b o v e e0=>(by rw [e] at e0;cases e0),size:=S.size,marks:=?_,ext:=?_ }
  ·obtain ⟨q1,q2⟩:=memK b o v e
   rw [World.cell?_of_block (w:=w) (w':=W') (a:=⟨b,o,none⟩) (k4.block b q2 q1)]
   exact S.mem b o v e
  ·by_cases hne:n=0
   ·subst hne
    rw [hlook_cons,if_pos rfl] at e;cases e
    exact ⟨hρ0,rfl⟩
   ·have e:=look e hne
    refine (S.obj n o e).moved (fun d v r=>r.ghost hn) (fun b hb=>?_) (fun _=>rfl)
    obtain ⟨q1,_,q3⟩:=loc ⟨o,e,hb⟩
    exact ⟨.inr ⟨n,hne,o,e,hb⟩,k4.block b q3 q1⟩
  ·have hn0:n≠0:=fun e=>by subst e;rw [hρ0] at e3;cases e3
   have hm0:m≠0:=fun e=>by subst e;rw [hρ0] at e4;cases e4
   exact S.dis n m o p b c b' c' hne (look e1 hn0) (look e2 hm0) e3 e4
  ·have hd:=S.marks.2.2 rfl
   rw [hd]
   exact ⟨fun d hd=>by simp at hd,.nil,fun _=>rfl⟩
  ·refine ⟨M.le_refl,fun n sz es fr e=>?_,fun n o e hk=>?_,fun n sz c isz es pd e=>?_⟩
   rotate_left 2
   ·have e:hlook [(0,DObj.ghost rest live l)] n=some (.nrow sz c isz es pd):=e
    rw [hlook_cons] at e;split at e<;>cases e
   ·have e:hlook [(0,DObj.ghost rest live l)] n=some (.row sz es fr):=e
    rw [hlook_cons] at e;split at e<;>cases e
   ·have e:hlook [(0,DObj.ghost rest live l)] n=some o:=e
    rw [hlook_cons] at e
    split at e
    ·rename_i e0;subst e0;cases e
     exact ⟨hρ0,_,by rw [hlook_cons,if_pos rfl],like_refl rfl⟩
    ·cases e
 refine ⟨W',_,M,M,ρ,rest,live,K',S',hJ,k3,?_,?_,?_,fun b hb=>k2 b (hK0' b hb),?_,Mem.le_trans hM0 S.le,hfl⟩
 ·rintro b ⟨n,_,e1⟩
  obtain ⟨q1,q2,q3⟩:=loc e1
  refine ⟨fun hk=>?_,q2⟩
  rcases k1 b hk with hk|hk
  ·exact q1 hk
  ·omega
 ·intro b o v e hk
  obtain ⟨q1,q2⟩:=memK b o v e
  rcases k1 b hk with hk|hk
  ·exact q1 hk
  ·omega
 ·intro b hk
  rcases k1 b hk with hk|hk
  ·exact hK0 b hk
  ·have:=hT.size;exact .inr (by omega)
 ·have hT2:=turns_now hK hL hT S.below
  refine ⟨k4.os.trans hT2.os,k4.tape.trans hT2.tape,k4.output.trans hT2.output,Nat.le_trans hT2.size k4.size,fun b hb hk=>?_⟩
  refine (k4.block b (by have:=hT2.size;omega) (fun h1=>?_)).trans (hT2.block b hb hk)
  rcases hK0 b h1 with h2|h2
  ·exact hk (.inl h2)
  ·omega
theorem tree_run (hG:GOk G M00) (hF:OpenF F) (hTb:Tb G w00 (fun b=>K0 b∨C b)) (hd:F.depth=none) (pr:Proto F P w00.heap.size C l J) {ops:Array Oper} {Q:Exit→Act→World→Prop} {DQ:SP} {dl:List DOper} {t:Tmps} {h:Heap} (T:TreeY P G dl t h DQ) :
  ∀ (i:Nat),(∀ k dop,dl[k]?=some dop→∃ o,ops[i+k]?=some o∧OperOk P nt ops o dop)→∀ {a:Act} {w:World},SG nt w00 l K0 C M00 J t h a w →
   (∀ t' h' a' w',DQ t' h'→SG nt w00 l K0 C M00 J t' h' a' w'→Q .normal a' w')→wpOpsIn F n P ops Q (List.range' i dl.length) a w:=by
 induction T with
 |nil hq=>intro i _ a w S hQ;exact hQ _ _ _ _ hq S
 |step st hr ih =>
  rename_i o r ft t t' h h' DQ
  intro i hok a w S hQ
  rw [List.length_cons,List.range'_succ,wpOpsIn_cons]
  obtain ⟨om,ho,ok⟩:=hok 0 o rfl
  obtain ⟨_,⟨d,ns,u,hs,e1,e2,_⟩,_⟩:=st
  obtain ⟨wy,L,My,M,ρ,rest,live,K,S,hJ,hK,hL,hM,hK0,hK0',hT,hM0,hfl⟩:=S
  refine step_run (hG.mono hM0) ⟨hF,sg_tb hTb hL hT⟩ hd ok ho S hs (fun M' ρ' a' w' S'=>?_)
  refine ih (i+1) (fun k dop hk=>?_) ⟨wy,L,My,M',ρ',rest,live,K,S'.congr e1 e2,hJ,hK,hL,hM,hK0,hK0',hT,hM0,hfl⟩ hQ
  obtain ⟨om',ho',ok'⟩:=hok (k+1) dop (by simpa using hk)
  exact ⟨om',by rw [show i+1+k=i+(k+1) by omega];exact ho',ok'⟩
 |yld hg he hn hr ih =>
  rename_i o r t h DQ l' x rest'
  intro i hok a w S hQ
  rw [List.length_cons,List.range'_succ,wpOpsIn_cons]
  obtain ⟨om,ho,ok⟩:=hok 0 o rfl
  obtain ⟨wy,L,My,M,ρ,rest,live,K,S,hJ,hK,hL,hM,hK0,hK0',hT,hM0,hfl⟩:=S
  obtain ⟨hnow,_⟩:=ghost_now S
  rw [hn] at hnow
  cases hnow
  obtain ⟨imm,hc⟩:∃ imm,cOp P imm om.op=some o.op:=by
   rcases ok.op with h|⟨kx,hc2⟩
   ·exact h
   ·obtain ⟨_,_,e2,_⟩:=evalOp_yield he
    exact absurd e2 ((cX_plain hc2).1 _ _)
  obtain ⟨args,hargs,hrun⟩:=yield_run (hG.mono hM0) S hc he hn
  have hx:flatBs x=true:=hfl x (List.mem_cons_self ..)
  have hrel:RelPs (fun _ _=>none) x args :=
   flatBs_relP hx (M:=M) ⟨hargs.1,fun i hi=>relV_flat (hargs.2 i hi) (flatBs_get hx i hi)⟩
  have hJw:J (x :: rest') true K w:=pr.stays _ _ _ _ _ hJ (stays_of_touch hK hL hT.size S.below)
  have hKw:∀ b,K b→b < w.heap.size:=fun b hb=>Nat.lt_of_lt_of_le (hK b hb) S.below.size
  obtain ⟨fn,tmps,assign,body,hy,hround⟩:=pr.round x rest' K w args (n - 1) hJw hKw hrel
  unfold wpOpIn
  rw [show ops[i]?=some om from ho]
  simp only
  obtain ⟨hw1,_⟩:=wanted_iff ok S
  rw [if_pos (hw1 (fun g want e=>by rw [hg] at e;cases e))]
  refine ⟨fun f _=>hF.fn f,?_⟩
  rw [Oper.semAt_eq _ _ _ (cOp_defer hc),hrun _ _ _ _ hy,Oper.uponIn_round]
  refine ⟨fun h=>by rw [hd] at h;simp at h,hround.mono (fun e W' hR=>?_)⟩
  obtain ⟨b,K',rfl,j1,j2,j3,j4,j5⟩:=hR
  have SG1:=SG.after S hK hL hM hK0 hK0' hT hM0 (fun y hy=>hfl y (List.mem_cons_of_mem _ hy)) j1 j2 j3 j4 j5
  obtain ⟨wy',L',My',M',ρ',rest2,live2,K2,S2,rr⟩:=SG1
  refine ih b (i+1) (fun k dop hk=>?_) ⟨wy',L',My',M',ρ',rest2,live2,K2,?_,rr⟩ hQ
  ·obtain ⟨om',ho',ok'⟩:=hok (k+1) dop (by simpa using hk)
   exact ⟨om',by rw [show i+1+k=i+(k+1) by omega];exact ho',ok'⟩
  ·rw [ok.dst]
   exact S2.put (fun k hk=>ok.lt k hk) (.pure (.bool b))
theorem kh0 {kh:List Nat} (hk:([0]:List Nat).all (memB · kh)=true) {wy:World} {L:Nat→Prop} {rest:List (List DV)} {live:Bool}:∀ n o,hlook (baseY wy L rest live l).h0 n=some o→n ∈ kh:=fun n o e=>by
 have e:hlook [(0,DObj.ghost rest live l)] n=some o:=e
 rw [hlook_cons] at e
 split at e
 ·rename_i e0;subst e0
  exact (memB_iff 0 kh).1 (by simpa using hk)
 ·cases e
theorem SG.keep {t:Tmps} {h:Heap} {a:Act} {w:World} (S:SG nt w00 l K0 C M00 J t h a w) (kh kt:List Nat) (hk:([0]:List Nat).all (memB · kh)=true) (hbx:boxesOk kh (hlook h) kh=true) :
  SG nt w00 l K0 C M00 J (keepT kh (hlook h) t kt) (keepH kh (hlook h) kh) a w:=by
 obtain ⟨wy,L,My,M,ρ,rest,live,K,S,rr⟩:=S
 obtain ⟨M',S'⟩:=S.keep kh kt (kh0 hk) hbx
 exact ⟨wy,L,My,M',ρ,rest,live,K,S',rr⟩
theorem SG.keepK {t:Tmps} {h:Heap} {a:Act} {w:World} {k:Option Keep} {N:SP} (S:SG nt w00 l K0 C M00 J t h a w) (hk:∀ k',k=some k'→([0]:List Nat).all (memB · k'.kh)=true) (hq:Sh.keepK k t h N) :
  ∃ t' h',SG nt w00 l K0 C M00 J t' h' a w∧N t' h':=by
 obtain ⟨wy,L,My,M,ρ,rest,live,K,S,rr⟩:=S
 obtain ⟨M',t',h',S',hn⟩:=S.keepK (fun k' e=>kh0 (hk k' e)) hq
 exact ⟨t',h',⟨wy,L,My,M',ρ,rest,live,K,S',rr⟩,hn⟩
theorem SG.enterK {t:Tmps} {h:Heap} {a:Act} {w:World} {ns:List (Nat×Nat)} {N:SP} (S:SG nt w00 l K0 C M00 J t h a w) (hq:Sh.enterK ns t h N):∃ t' h',SG nt w00 l K0 C M00 J t' h' a w∧N t' h':=by
 obtain ⟨wy,L,My,M,ρ,rest,live,K,S,rr⟩:=S
 obtain ⟨ρ',t',h',S',hn⟩:=S.enterK hq
 exact ⟨t',h',⟨wy,L,My,M,ρ',rest,live,K,S',rr⟩,hn⟩
theorem codeY_run (hG:GOk G M00) (hF:OpenF F) (hTb:Tb G w00 (fun b=>K0 b∨C b)) (hd:F.depth=none) (hmo:P.follows .mixedOrders=true) (pr:Proto F P w00.heap.size C l J) {ann:Ann} :
  ∀ (c:Code) (blk:Nat) (dc:DC),cCode P ann nt blk c=some dc→keepsAll [0] dc=true→∀ {DQ:DExit→SP} {t:Tmps} {h:Heap},dwpY P G dc DQ t h→∀ {a:Act} {w:World},SG nt w00 l K0 C M00 J t h a w →
   ∀ {Q:Exit→Act→World→Prop},(∀ e t h a w,DQ e t h→SG nt w00 l K0 C M00 J t h a w→Q e.toExit a w)→c.wpIn F n P Q a w:=by
 intro c
 induction c with
 |skip =>
  intro blk dc hc hka DQ t h hw a w S Q hQ
  simp only [cCode,Option.some.injEq] at hc;subst hc
  exact wpIn_skip (hQ .normal _ _ _ _ hw S)
 |region id ops draw =>
  intro blk dc hc hka DQ t h hw a w S Q hQ
  simp only [cCode] at hc
  split at hc
  ·rename_i l0 hl
   obtain ⟨c1,hc⟩:=cond_some hc
   simp only [Option.some.injEq] at hc;subst hc
   cases draw with
   |false =>
    have hw:opsY P G (l0.map clrB) [] (DQ .normal) t h:=hw
    rw [opsY_clr] at hw
    obtain ⟨hlen,hops⟩:=cOpers_spec ops.toList 0 [] l0 rfl hl
    refine wpIn_region ?_
    have:=tree_run (n:=n) (Q:=Q) (ops:=ops) (nt:=nt) (K0:=K0) hG hF hTb hd pr (opsY_tree hw) 0 (fun k dop hk=>?_) S (fun t' h' a' w' hq S'=>hQ .normal _ _ _ _ hq S')
    ·rw [List.range_eq_range']
     rw [hlen] at this;simp at this;exact this
    ·have hlt:k < l0.length:=(List.getElem?_eq_some_iff.1 hk).1
     rw [hlen] at hlt
     have hk2:ops.toList[k]?=some ops.toList[k]:=List.getElem?_eq_getElem hlt
     refine ⟨ops.toList[k],?_,(hops k _ dop hk2 hk).1⟩
     rw [Nat.zero_add];simp
   |true =>
    simp only [Bool.not_true,Bool.false_or] at c1
    have hw:drawR P G l0 [] [] (DQ .normal) t h:=hw
    rw [drawR_eq] at hw
    obtain ⟨fs,t2,h2,ch,hft,hq⟩:=drawWp_chain hw
    rw [List.reverse_nil,List.nil_append] at hft
    refine wpIn_region_any hmo ?_
    obtain ⟨wy,L,My,M,ρ,rest,live,K,S,hJ,hK,hL,hM,hK0,hK0',hT,hM0,hfl⟩:=S
    have hS:=S.world (w':={ w with drawn:=w.drawn+1 }) (fun _ _=>rfl) ⟨S.below.os,S.below.tape,S.below.output,S.below.size,S.below.block⟩
    exact draw_run (hG.mono hM0) ⟨hF,sg_tb hTb hL hT⟩ hd hl c1 ch hft hS (fun M' ρ' a' w' S'=>hQ .normal _ _ _ _ hq ⟨wy,L,My,M',ρ',rest,live,K,S',hJ,hK,hL,hM,hK0,hK0',hT,hM0,hfl⟩)
  ·cases hc
 |seq x y ihx ihy =>
  intro blk dc hc hka DQ t h hw a w S Q hQ
  simp only [cCode] at hc
  split at hc
  ·rename_i dx dy hx hy
   simp only [Option.some.injEq] at hc;subst hc
   simp only [keepsAll,Bool.and_eq_true] at hka
   have hw:dwpY P G dx (seqQ (dwpY P G dy DQ) DQ) t h:=hw
   refine wpIn_seq (ihx blk dx hx hka.1 hw S ?_)
   intro e t' h' a' w' hq S'
   cases e with
   |normal=>exact ihy blk dy hy hka.2 hq S' hQ
   |exit i=>exact hQ (.exit i) _ _ _ _ hq S'
   |ret=>exact hQ .ret _ _ _ _ hq S'
  ·cases hc
 |cond cnd x y ihx ihy =>
  intro blk dc hc hka DQ t h hw a w S Q hQ
  simp only [cCode] at hc
  split at hc
  ·rename_i dx dy hx hy
   simp only [Option.some.injEq] at hc;subst hc
   have hw:(match evalOpd G t cnd with
    |.bool v=>(v=true→dwpY P G dx DQ t h)∧(v=false→dwpY P G dy DQ t h)
    |.abool=>dwpY P G dx DQ t h∧dwpY P G dy DQ t h
    |_=>False):=hw
   split at hw
   ·rename_i v hv
    have S0:=S
    obtain ⟨wy,L,My,M,ρ,rest,live,K,S,hJ,hK,hL,hM,hK0,hK0',hT,hM0,hfl⟩:=S
    have hrel:=S.opd (hG.mono hM0) cnd
    rw [hv] at hrel
    simp only [keepsAll,Bool.and_eq_true] at hka
    exact wpIn_cond_split hrel.inv_bool (fun e=>ihx blk dx hx hka.1 (hw.1 e) S0 hQ) (fun e=>ihy blk dy hy hka.2 (hw.2 e) S0 hQ)
   ·rename_i hv
    have S0:=S
    obtain ⟨wy,L,My,M,ρ,rest,live,K,S,hJ,hK,hL,hM,hK0,hK0',hT,hM0,hfl⟩:=S
    have hrel:=S.opd (hG.mono hM0) cnd
    rw [hv] at hrel
    obtain ⟨b,hb⟩:=hrel.inv_abool
    simp only [keepsAll,Bool.and_eq_true] at hka
    exact wpIn_cond_split hb (fun e=>ihx blk dx hx hka.1 hw.1 S0 hQ) (fun e=>ihy blk dy hy hka.2 hw.2 S0 hQ)
   ·exact hw.elim
  ·cases hc
 |block id x ih =>
  intro blk dc hc hka DQ t h hw a w S Q hQ
  simp only [cCode] at hc
  split at hc
  ·rename_i dx hx
   simp only [Option.some.injEq] at hc;subst hc
   simp only [keepsAll,Bool.and_eq_true] at hka
   have hkk:∀ k',assoc ann.blocks id=some k'→([0]:List Nat).all (memB · k'.kh)=true:=fun k' e=>by
    have h1:=hka.1;rw [e] at h1;exact h1
   have hw:dwpY P G dx (blockQ id (assoc ann.blocks id) DQ) t h:=hw
   refine wpIn_block (ih id dx hx hka.2 hw S ?_)
   intro e t' h' a' w' hq S'
   cases e with
   |normal =>
    obtain ⟨t2,h2,S2,hq2⟩:=S'.keepK hkk hq
    exact hQ .normal _ _ _ _ hq2 S2
   |exit i =>
    simp only [blockQ] at hq
    show (if i=id then Q .normal a' w' else Q (.exit i) a' w')
    rw [natbeq] at hq
    by_cases e:i=id
    ·rw [if_pos e]
     simp only [e,decide_true,cond_true] at hq
     obtain ⟨t2,h2,S2,hq2⟩:=S'.keepK hkk hq
     exact hQ .normal _ _ _ _ hq2 S2
    ·rw [if_neg e]
     simp only [e,decide_false,cond_false] at hq
     exact hQ (.exit i) _ _ _ _ hq S'
   |ret=>exact hQ .ret _ _ _ _ hq S'
  ·cases hc
 |loop x ih =>
  intro blk dc hc hka DQ t h hw a w S Q hQ
  simp only [cCode] at hc
  split at hc
  ·rename_i dx hx
   simp only [Option.some.injEq] at hc;subst hc
   simp only [keepsAll,Bool.and_eq_true] at hka
   have hw:loopWp (dwpY P G dx) ((assoc ann.loops blk).getD default) DQ t h:=hw
   unfold loopWp at hw
   obtain ⟨t1,h1,S1,hbx,m,hw⟩:=S.enterK hw
   have S2:=S1.keep _ ((assoc ann.loops blk).getD default).kt hka.1 hbx
   refine wpIn_loop_rounds m ?_
   have key:∀ (m:Nat) (t:Tmps) (h:Heap) (a:Act) (w:World),loopN (dwpY P G dx) ((assoc ann.loops blk).getD default) DQ m t h→SG nt w00 l K0 C M00 J t h a w→x.roundsIn F n P Q m a w:=by
    intro m
    induction m with
    |zero=>intro t h a w hw _;exact hw.elim
    |succ m ihm =>
     intro t h a w hw S
     rw [roundsIn_succ]
     refine ih blk dx hx hka.2 hw S ?_
     intro e t' h' a' w' hq S'
     cases e with
     |normal=>exact ihm _ _ _ _ hq.2 (S'.keep _ ((assoc ann.loops blk).getD default).kt hka.1 hq.1)
     |exit i=>exact hQ (.exit i) _ _ _ _ hq S'
     |ret=>exact hQ .ret _ _ _ _ hq S'
   exact key m _ _ a w hw S2
  ·cases hc
 |exit id =>
  intro blk dc hc hka DQ t h hw a w S Q hQ
  simp only [cCode,Option.some.injEq] at hc;subst hc
  exact wpIn_exit (hQ (.exit id) _ _ _ _ hw S)
 |ret =>
  intro blk dc hc hka DQ t h hw a w S Q hQ
  simp only [cCode,Option.some.injEq] at hc;subst hc
  exact wpIn_ret (hQ .ret _ _ _ _ hw S)
 |rangeFunc f ps x y ihx ihy =>
  intro blk dc hc hka DQ t h hw
  simp only [cCode] at hc
  split at hc
  ·obtain ⟨_,hc⟩:=cond_some hc
   simp only [Option.some.injEq] at hc;subst hc
   exact hw.elim
  ·cases hc
 |scope x ih =>
  intro blk dc hc hka DQ t h hw a w S Q hQ
  simp only [cCode] at hc
  refine wpIn_scope_plain (ih blk dc hc hka hw S ?_)
  intro e t' h' a' w' hq S'
  cases e with
  |normal=>exact hQ .normal _ _ _ _ hq S'
  |exit i=>exact hQ (.exit i) _ _ _ _ hq S'
  |ret=>exact hQ .ret _ _ _ _ hq S'
 |label l =>
  intro blk dc hc hka DQ t h hw a w S Q hQ
  simp only [cCode,Option.some.injEq] at hc;subst hc
  exact wpIn_label (hQ .normal _ _ _ _ hw S)
 |_=>intro blk dc hc;simp [cCode] at hc
end
def retY:DExit→SP
 |.exit _,_,_=>False
 |_,_,h=>match hlook h 0 with
  |some (.ghost r v _)=>v=true→r=[]
  |_=>False
theorem iseqW_of {P:Program} {G:Nat→Option DV} {ann:Ann} {g:FuncId} {cs:List DV} {hc:Heap} {xs:List (List DV)} {df:DFunc} (hcp:cProg P ann g=some df) (hres:df.results=[]) (hn:cs.length+1=df.nargs) (hk:keepsAll [0] df.body=true) (h00:hlook hc 0=none)
  (hfl:∀ x ∈ xs,flatBs x=true) (hw:∀ l,dwpY P G df.body retY (params (.dict 0 :: cs) 0) ((0,.ghost xs true l) :: hc)):ISeqW P G g cs hc xs:=by
 obtain ⟨fn,c,hfn,hb,hrs,hdc,hmo,hen,hnt⟩:=cProg_spec hcp
 refine ⟨hen,hfl,fun F0 n hF hd M ρ w vs l K C J hG hTb hH hρ0 hrel hCl hCK hK hMK pr0 hJ=>calls_plain ?_⟩
 have pr:Proto F0.plain P w.heap.size C l J:=⟨pr0.stays,pr0.round⟩
 revert pr
 have hF:OpenF F0.plain:=⟨hF.fn,hF.quiet⟩
 have hd:F0.plain.depth=none:=hd
 have hro:F0.plain.round=none:=rfl
 generalize F0.plain=F at hF hd hro ⊢
 intro pr
 obtain ⟨r1,r2⟩:=hrel
 have hsz:vs.size+1≤fn.ntmps:=by omega
 have key:∀ (t:Tmps) (h:Heap) (a:Act) (w':World),(match hlook h 0 with
   |some (.ghost r v _)=>v=true→r=[]
   |_=>False)→SG fn.ntmps w l K C M J t h a w' →
   LeavesInM F n P fn a.tmps (fun e w'=>∃ v K',e=.returned v∧(J [] true K' w'∨∃ r,J r false K' w')∧(∀ b,K b→K' b)∧Turns (fun b=>K b∨C b) w w') a.defers .returning w':=by
  intro t h a w' hq SG0
  obtain ⟨wy,L,My,M',ρ,rest,live,K',S,hJ,hK',hL,hM',hK0,hK0',hT,hM0,hfl'⟩:=SG0
  obtain ⟨hnow,_⟩:=ghost_now S
  rw [hnow] at hq
  simp only at hq
  refine S.leave (fun a' w'' ha S'=>?_)
  obtain ⟨vs',hvs,hl1,hl2,hrel0⟩:=resultsOf_run (hG.mono hM0) S' fn.results.toList df.results hrs [] (by rw [hres];rfl)
  have hrun:(results fn a'.tmps).run P w''=.ok (if h:vs'.length=1 then vs'[0]'(by omega) else .tuple vs'.toArray) w'':=by
   rw [results_eq]
   have h2:(fn.results.mapM (resSem a'.tmps)).run P w''=.ok vs'.toArray w'':=by
    rw [Array.mapM_eq_mapM_toList]
    simp [hvs]
   rw [Sem.run_bind,h2]
   by_cases hl:vs'.length=1
   ·simp [hl]
   ·simp [hl]
  have hJ':=pr.stays _ _ _ _ _ hJ (stays_of_touch hK' hL hT.size S'.below)
  refine ⟨_,hrun,_,K',rfl,?_,hK0',turns_now hK' hL hT S'.below⟩
  cases live with
  |false=>exact .inr ⟨rest,hJ'⟩
  |true=>have:=hq rfl;subst this;exact .inl hJ'
 have hlk:∀ m o,hlook hc m=some o→m≠0∧hlook ((0,DObj.ghost xs true l) :: hc) m=some o:=fun m o e=>by
  have hne:m≠0:=fun e2=>by subst e2;rw [h00] at e;cases e
  exact ⟨hne,by rw [hlook_cons,if_neg (Ne.symm hne)];exact e⟩
 have hlk2:∀ m o,hlook ((0,DObj.ghost xs true l) :: hc) m=some o→(m=0∧o=.ghost xs true l)∨(m≠0∧hlook hc m=some o):=fun m o e=>by
  rw [hlook_cons] at e
  split at e
  ·rename_i e2;cases e;exact .inl ⟨e2.symm,rfl⟩
  ·rename_i e2;exact .inr ⟨Ne.symm e2,e⟩
 have hx:Ext M ρ hc M ρ ((0,.ghost xs true l) :: hc):=⟨M.le_refl,fun m sz es fr e=>⟨sz,es,fr,(hlk m _ e).2,Nat.le_refl _,fun _=>⟨.inl rfl,rfl⟩⟩,fun m o e hk=>⟨rfl,o,(hlk m o e).2,like_refl hk⟩,fun m sz c isz es pd e=>nrw_same (hlk m _ e).2 rfl rfl⟩
 refine callsIn_of_wp_marks hfn hb (hF.fn g) (codeY_run (K0:=K) (C:=C) (M00:=M) (w00:=w) (J:=J) (nt:=fn.ntmps) hG hF hTb hd hmo pr c 0 df.body hdc hk (hw l) ?_ ?_) hro
 ·refine ⟨w,fun b=>∃ m,Occ ρ hc m b,M,M,ρ,xs,true,K,?_,hJ,hK,fun b h=>?_,hMK,fun b hb=>.inl hb,fun b hb=>hb,Turns.refl _ w,M.le_refl,hfl⟩
  ·refine { le:=M.le_refl,tm:=fun i=>?_,mem:=hH.mem,obj:=fun m o e=>?_,dis:=fun m m' o p b c b' c' hne e1 e2 e3 e4=>?_,dsub:=hH.dsub.of (fun m i b hs=>(hs.cons rfl (fun _=>rfl)).1) (fun m o k b hm e=>?_),below:=Base.touch.refl _ _,hB:=rfl,new:=fun b o v e e0=>(by rw [e] at e0;cases e0),size:=(by simp;omega),marks:=⟨fun d hd=>(by simp at hd),.nil,fun _=>rfl⟩,ext:=?_ }
   ·rw [tget_params]
    cases i with
    |zero =>
     rw [if_pos ⟨Nat.zero_le _,by simp⟩]
     have h1:(#[Value.func (.yield l) #[] #[]]++vs++Array.replicate (fn.ntmps - (#[Value.func (.yield l) #[] #[]]++vs).size) undef).getD 0 Go.undef=Value.func (.yield l) #[] #[]:=by
      simp [Array.getD_eq_getD_getElem?,Array.getElem?_append]
     rw [h1]
     exact .yldv 0 l xs true (by rw [hlook_cons,if_pos rfl])
    |succ i =>
     by_cases hi:i < cs.length
     ·rw [if_pos ⟨Nat.zero_le _,by simpa using hi⟩]
      have h1:(#[Value.func (.yield l) #[] #[]]++vs++Array.replicate (fn.ntmps - (#[Value.func (.yield l) #[] #[]]++vs).size) undef).getD (i+1) Go.undef=vs.getD i Go.undef:=by
       simp [Array.getD_eq_getD_getElem?,Array.getElem?_append,show i < vs.size by omega,show i+1 < 1+vs.size by omega]
      rw [h1]
      exact (show RelV M ρ hc _ _ by simpa using r2 i hi).ext hx
     ·rw [if_neg (by simp;omega)];exact .pure (.undef _)
   ·rcases hlk2 m o e with ⟨rfl,rfl⟩|⟨hne,e⟩
    ·exact ⟨hρ0,rfl⟩
    ·exact ((hH.obj m o e).base (B':=baseY w (fun b=>∃ m,Occ ρ hc m b) xs true l) (fun b hb=>.inr ⟨m,o,e,hb⟩) (fun e=>Bool.noConfusion e)).ext hx rfl rfl
   ·rcases hlk2 m o e1 with ⟨rfl,rfl⟩|⟨_,q1⟩
    ·rw [hρ0] at e3;cases e3
    ·rcases hlk2 m' p e2 with ⟨rfl,rfl⟩|⟨_,q2⟩
     ·rw [hρ0] at e4;cases e4
     ·exact hH.dis m m' o p b c b' c' hne q1 q2 e3 e4
   ·rcases hlk2 m o hm with ⟨rfl,rfl⟩|⟨_,q1⟩
    ·rw [hρ0] at e;cases e
    ·exact .inl ⟨o,q1,e⟩
   ·refine ⟨M.le_refl,fun m sz es fr e=>?_,fun m o e hk=>?_,fun m sz c isz es pd e=>?_⟩
    rotate_left 2
    ·have e:hlook [(0,DObj.ghost xs true l)] m=some (.nrow sz c isz es pd):=e
     rw [hlook_cons] at e;split at e<;>cases e
    ·have e:hlook [(0,DObj.ghost xs true l)] m=some (.row sz es fr):=e
     rw [hlook_cons] at e;split at e<;>cases e
    ·have e:hlook [(0,DObj.ghost xs true l)] m=some o:=e
     rw [hlook_cons] at e
     split at e
     ·rename_i e0;subst e0;cases e
      exact ⟨hρ0,_,by rw [hlook_cons,if_pos rfl],like_refl rfl⟩
     ·cases e
  ·obtain ⟨m,e1⟩:=h
   have hc:C b:=by
    rcases e1.cases with ⟨o,c',q1,q2⟩|⟨i,q1⟩
    ·exact hCl.1 m o b c' q1 q2
    ·exact hCl.2 m i b q1
   exact ⟨hCK b hc,.inr hc⟩
 ·intro e t h a w' hq SG0
  cases e with
  |normal=>exact key t h a w' hq SG0
  |ret=>exact key t h a w' hq SG0
  |exit i=>exact hq.elim
theorem iseq_of {P:Program} {G:Nat→Option DV} {ann:Ann} {g:FuncId} {cs:List DV} {xs:List (List DV)} {df:DFunc} (hc:cProg P ann g=some df) (hres:df.results=[]) (hn:cs.length+1=df.nargs) (hk:keepsAll [0] df.body=true)
  (hfl:∀ x ∈ xs,flatBs x=true) (hw:∀ l,dwpY P G df.body retY (params (.dict 0 :: cs) 0) [(0,.ghost xs true l)]):ISeq P G g cs xs:=iseqW_of hc hres hn hk rfl hfl hw
end Sh

namespace Sh
open Go
variable {P:Program} {G:Nat→Option DV}
theorem opsY_mono {Q Q':SP} (h:∀ t s,Q t s→Q' t s):∀ {l:List DOper} {K:List Nat} {t:Tmps} {s:Heap},opsY P G l K Q t s→opsY P G l K Q' t s
 |[],_,_,_,hs=>h _ _ hs
 |o :: r,K,t,s,hs=>by
  have hs:(match o.guard with
   |none=>match evalOp (evalOpd G t) (hlook s) (o.dst.getD 0) o.op with
    |.yield 0 vs=>match hlook s 0 with
     |some (.ghost (x :: rest) true l)=>vs=x∧∀ b:Bool,putK o.dst (.bool b) t fun t'=>opsY P G r K Q t' ((0,.ghost rest b l) :: s)
     |_=>False
    |_=>stepWp P G o (opsY P G r K Q) t s
   |some (g,want)=>match tget t g with
    |.bool b=>onG (memB g K) b want (stepWp P G o (opsY P G r (g :: K) Q) ((g,.bool want) :: t) s) (putK o.dst (.tuple []) ((g,.bool (!want)) :: t) fun t'=>opsY P G r (g :: K) Q t' s)
    |.tuple []=>putK o.dst (.tuple []) t fun t'=>opsY P G r K Q t' s
    |_=>False):=hs
  show (match o.guard with
   |none=>match evalOp (evalOpd G t) (hlook s) (o.dst.getD 0) o.op with
    |.yield 0 vs=>match hlook s 0 with
     |some (.ghost (x :: rest) true l)=>vs=x∧∀ b:Bool,putK o.dst (.bool b) t fun t'=>opsY P G r K Q' t' ((0,.ghost rest b l) :: s)
     |_=>False
    |_=>stepWp P G o (opsY P G r K Q') t s
   |some (g,want)=>match tget t g with
    |.bool b=>onG (memB g K) b want (stepWp P G o (opsY P G r (g :: K) Q') ((g,.bool want) :: t) s) (putK o.dst (.tuple []) ((g,.bool (!want)) :: t) fun t'=>opsY P G r (g :: K) Q' t' s)
    |.tuple []=>putK o.dst (.tuple []) t fun t'=>opsY P G r K Q' t' s
    |_=>False)
  split
  ·rename_i hg;rw [hg] at hs;simp only at hs
   split
   ·rename_i vs he
    rw [he] at hs;simp only at hs
    split
    ·rename_i x rest l hn
     rw [hn] at hs
     exact ⟨hs.1,fun b=>putK_mono (fun _=>opsY_mono h) (hs.2 b)⟩
    ·rename_i hn;split at hs
     ·exact absurd ‹_› (hn _ _ _)
     ·exact hs
   ·rename_i he
    split at hs
    ·exact absurd ‹_› (he _)
    ·exact stepWp_mono (fun _ _=>opsY_mono h) hs
  ·rename_i g want hg;rw [hg] at hs;simp only at hs
   split
   ·rename_i hb;rw [hb] at hs;exact onG_mono (stepWp_mono (fun _ _=>opsY_mono h)) (putK_mono (fun _=>opsY_mono h)) hs
   ·rename_i hb;rw [hb] at hs;exact putK_mono (fun _=>opsY_mono h) hs
   ·rename_i h1 h2;split at hs
    ·exact absurd ‹_› (h1 _)
    ·exact absurd ‹_› h2
    ·exact hs
theorem drawR_mono {Q Q':SP} (h:∀ t s,Q t s→Q' t s) {l:List DOper} {K:List Nat} {fs:List Foot} {t:Tmps} {s:Heap} (hs:drawR P G l K fs Q t s):drawR P G l K fs Q' t s:=by
 rw [drawR_eq] at *;exact drawWp_mono h hs
theorem dwpY_mono:∀ {c:DC} {Q Q':DExit→SP} {t:Tmps} {s:Heap},(∀ e t s,Q e t s→Q' e t s)→dwpY P G c Q t s→dwpY P G c Q' t s
 |.skip,_,_,_,_,h,hs=>h _ _ _ hs
 |.ops false _,_,_,_,_,h,hs=>opsY_mono (h _) hs
 |.ops true _,_,_,_,_,h,hs=>drawR_mono (h _) hs
 |.seq a b,Q,Q',t,s,h,hs=>dwpY_mono (c:=a) (seqQ_mono (fun _ _ hh=>dwpY_mono (c:=b) h hh) h) hs
 |.cond c a b,Q,Q',t,s,h,hs=>by
  have hs:(match evalOpd G t c with
   |.bool v=>(v=true→dwpY P G a Q t s)∧(v=false→dwpY P G b Q t s)
   |.abool=>dwpY P G a Q t s∧dwpY P G b Q t s
   |_=>False):=hs
  show (match evalOpd G t c with
   |.bool v=>(v=true→dwpY P G a Q' t s)∧(v=false→dwpY P G b Q' t s)
   |.abool=>dwpY P G a Q' t s∧dwpY P G b Q' t s
   |_=>False)
  split
  ·rename_i hc;rw [hc] at hs;exact ⟨fun e=>dwpY_mono h (hs.1 e),fun e=>dwpY_mono h (hs.2 e)⟩
  ·rename_i hc;rw [hc] at hs;exact ⟨dwpY_mono h hs.1,dwpY_mono h hs.2⟩
  ·rename_i hc hc2;split at hs
   ·exact absurd ‹_› (hc _)
   ·exact absurd ‹_› hc2
   ·exact hs
 |.block id k a,Q,Q',t,s,h,hs=>by
  refine dwpY_mono (c:=a) (fun e t' s' hh=>?_) hs
  cases e with
  |normal=>exact keepK_mono (h _) hh
  |ret=>exact h _ _ _ hh
  |exit i =>
   simp only [blockQ] at *
   cases hb:Nat.beq i id
   ·simp only [hb,cond_false] at hh ⊢;exact h _ _ _ hh
   ·simp only [hb,cond_true] at hh ⊢;exact keepK_mono (h _) hh
 |.loop k b,Q,Q',t,s,h,hs=>by
  have hs:loopWp (dwpY P G b) k Q t s:=hs
  show loopWp (dwpY P G b) k Q' t s
  unfold loopWp at *
  exact enterK_mono (fun _ _ ⟨hb,n,hn⟩=>⟨hb,n,loopN_mono (b:=dwpY P G b) (b':=dwpY P G b) (fun R R' t s hr hb=>dwpY_mono hr hb) h n _ _ hn⟩) hs
 |.rangeF ..,_,_,_,_,_,hs=>hs.elim
 |.exit _,_,_,_,_,h,hs=>h _ _ _ hs
 |.ret,_,_,_,_,h,hs=>h _ _ _ hs
theorem dwp_loopY {α:Type} (T:α→Tmps) (H:α→Heap) (inv:α→Prop) (μ:α→Nat) {k:Keep} {b:DC} {Q:DExit→SP} {t:Tmps} {s:Heap} (a0:α)
  (h0:enterK k.cv t s fun t' h'=>boxesOk k.kh (hlook h') k.kh=true∧keepT k.kh (hlook h') t' k.kt=T a0∧keepH k.kh (hlook h') k.kh=H a0) (hi:inv a0)
  (step:∀ a,inv a→dwpY P G b (seqQ (fun t' h'=>∃ a',boxesOk k.kh (hlook h') k.kh=true∧keepT k.kh (hlook h') t' k.kt=T a'∧keepH k.kh (hlook h') k.kh=H a'∧inv a'∧μ a' < μ a) Q) (T a) (H a)) :
  loopWp (dwpY P G b) k Q t s:=by
 unfold loopWp
 have h2:∀ n a,inv a→μ a < n→loopN (dwpY P G b) k Q n (T a) (H a):=by
  intro n
  induction n with
  |zero=>intro a _ h;omega
  |succ n ihn =>
   intro a ha hn
   refine dwpY_mono (seqQ_mono (fun t' s' hs'=>?_) (fun _ _ _ h=>h)) (step a ha)
   obtain ⟨a',hbx,hk,hk',hi',hlt⟩:=hs'
   rw [hk,hk'];exact ⟨hbx,ihn a' hi' (by omega)⟩
 refine enterK_mono (fun t' h' hh=>?_) h0
 rw [hh.2.1,hh.2.2]
 exact ⟨hh.1,μ a0+1,h2 _ a0 hi (by omega)⟩
theorem rounds_inv {body:(DExit→SP)→SP} {kh ps:List Nat} {Q:DExit→SP} {t:Tmps} {xs:List (List DV)} (H:Nat→Heap)
  (mono:∀ (R R':DExit→SP) (t:Tmps) (s:Heap),(∀ e t s,R e t s→R' e t s)→body R t s→body R' t s)
  (step:∀ i x,xs[i]?=some x→body (fun e _ h'=>boxesOk kh (hlook h') kh=true∧match e with
    |.normal=>keepH kh (hlook h') kh=H (i+1)
    |e=>Q e t (keepH kh (hlook h') kh)) (setPs ps x t) (H i))
  (fin:Q .normal t (H xs.length)):roundsN body kh ps Q t xs (H 0):=by
 have key:∀ (r:List (List DV)) (i:Nat),i≤xs.length→xs.drop i=r→roundsN body kh ps Q t r (H i):=by
  intro r
  induction r with
  |nil =>
   intro i hl hi
   have hle:xs.length≤i:=List.drop_eq_nil_iff.1 hi
   have e:i=xs.length:=by omega
   subst e;exact fin
  |cons x r ih =>
   intro i hl hi
   have hx:xs[i]?=some x:=by
    have:=congrArg (fun l=>l[0]?) hi
    simpa using this
   unfold roundsN
   refine mono _ _ _ _ (fun e t' s' hh=>⟨hh.1,?_⟩) (step i x hx)
   have hh2:=hh.2
   cases e with
   |normal =>
    simp only at hh2 ⊢
    rw [hh2]
    refine ih (i+1) (List.getElem?_eq_some_iff.1 hx).1 ?_
    have:=congrArg (List.drop 1) hi
    simpa [List.drop_drop,Nat.add_comm] using this
   |ret=>exact hh2
   |exit j=>exact hh2
 exact key xs 0 (Nat.zero_le _) rfl
theorem range_R {g:FuncId} {caps cs:List DV} {k:Keep} {ps:List Nat} {Q:DExit→SP} {t:Tmps} {h:Heap} {x y:DC} (xs:List (List DV)) (H:Nat→Heap) (T:Tmps) (hi:ISeq P G g cs xs) (hp:purs (hlook h) caps=some (none,cs)) (hl:∀ z ∈ xs,z.length=ps.length)
  (hb:boxesOk k.kh (hlook (freeze (namess caps) h)) k.kh=true) (hv:livH (keepH k.kh (hlook (freeze (namess caps) h)) k.kh)=true) (hT:keepT k.kh (hlook (freeze (namess caps) h)) t k.kt=T) (hH:keepH k.kh (hlook (freeze (namess caps) h)) k.kh=H 0)
  (step:∀ i z,xs[i]?=some z→dwpR P G x (seqQ (dwpR P G y (fun e _ h'=>boxesOk k.kh (hlook h') k.kh=true∧match e with
    |.normal=>keepH k.kh (hlook h') k.kh=H (i+1)
    |e=>Q e T (keepH k.kh (hlook h') k.kh))) (fun _ _ _=>False)) (setPs ps z T) (H i))
  (fin:Q .normal T (H xs.length)):rangeWp P G (fun R=>dwpR P G x (seqQ (dwpR P G y R) (fun _ _ _=>False))) k ps Q (.func g caps) t h:=by
 unfold rangeWp
 simp only [hp]
 refine .inl ⟨xs,hi,hl,hb,hv,?_⟩
 rw [hT,hH]
 refine rounds_inv H (fun R R' t s hr hb=>?_) step fin
 rw [dwpR_eq,dwpR_eq] at *
 refine dwp_mono (fun e t s hh=>?_) hb
 cases e with
 |normal=>exact dwp_mono hr hh
 |ret=>exact hh
 |exit i=>exact hh
theorem rounds_inv2 {body:(DExit→SP)→SP} {kh ps:List Nat} {Q:DExit→SP} {t:Tmps} {xs:List (List DV)} (H:Nat→Heap) (inv:Nat→Prop) (h0:inv 0)
  (mono:∀ (R R':DExit→SP) (t:Tmps) (s:Heap),(∀ e t s,R e t s→R' e t s)→body R t s→body R' t s)
  (step:∀ i x,xs[i]?=some x→inv i→body (fun e _ h'=>boxesOk kh (hlook h') kh=true∧match e with
    |.normal=>keepH kh (hlook h') kh=H (i+1)∧inv (i+1)
    |e=>Q e t (keepH kh (hlook h') kh)) (setPs ps x t) (H i))
  (fin:inv xs.length→Q .normal t (H xs.length)):roundsN body kh ps Q t xs (H 0):=by
 have key:∀ (r:List (List DV)) (i:Nat),i≤xs.length→xs.drop i=r→inv i→roundsN body kh ps Q t r (H i):=by
  intro r
  induction r with
  |nil =>
   intro i hl hi hv
   have hle:xs.length≤i:=List.drop_eq_nil_iff.1 hi
   have e:i=xs.length:=by omega
   subst e;exact fin hv
  |cons x r ih =>
   intro i hl hi hv
   have hx:xs[i]?=some x:=by
    have:=congrArg (fun l=>l[0]?) hi
    simpa using this
   unfold roundsN
   refine mono _ _ _ _ (fun e t' s' hh=>⟨hh.1,?_⟩) (step i x hx hv)
   have hh2:=hh.2
   cases e with
   |normal =>
    simp only at hh2 ⊢
    rw [hh2.1]
    refine ih (i+1) (List.getElem?_eq_some_iff.1 hx).1 ?_ hh2.2
    have:=congrArg (List.drop 1) hi
    simpa [List.drop_drop,Nat.add_comm] using this
   |ret=>exact hh2
   |exit j=>exact hh2
 exact key xs 0 (Nat.zero_le _) rfl h0
theorem range_R2 {P:Program} {G:Nat→Option DV} {g:FuncId} {caps cs:List DV} {k:Keep} {ps:List Nat} {Q:DExit→SP} {t:Tmps} {h:Heap} {x y:DC} (xs:List (List DV)) (H:Nat→Heap) (T:Tmps) (inv:Nat→Prop) (h0:inv 0) (hi:ISeq P G g cs xs) (hp:purs (hlook h) caps=some (none,cs)) (hl:∀ z ∈ xs,z.length=ps.length)
  (hb:boxesOk k.kh (hlook (freeze (namess caps) h)) k.kh=true) (hv:livH (keepH k.kh (hlook (freeze (namess caps) h)) k.kh)=true) (hT:keepT k.kh (hlook (freeze (namess caps) h)) t k.kt=T) (hH:keepH k.kh (hlook (freeze (namess caps) h)) k.kh=H 0)
  (step:∀ i z,xs[i]?=some z→inv i→dwpR P G x (seqQ (dwpR P G y (fun e _ h'=>boxesOk k.kh (hlook h') k.kh=true∧match e with
    |.normal=>keepH k.kh (hlook h') k.kh=H (i+1)∧inv (i+1)
    |e=>Q e T (keepH k.kh (hlook h') k.kh))) (fun _ _ _=>False)) (setPs ps z T) (H i))
  (fin:inv xs.length→Q .normal T (H xs.length)):rangeWp P G (fun R=>dwpR P G x (seqQ (dwpR P G y R) (fun _ _ _=>False))) k ps Q (.func g caps) t h:=by
 unfold rangeWp
 simp only [hp]
 refine .inl ⟨xs,hi,hl,hb,hv,?_⟩
 rw [hT,hH]
 refine rounds_inv2 H inv h0 (fun R R' t s hr hb=>?_) step fin
 rw [dwpR_eq,dwpR_eq] at *
 refine dwp_mono (fun e t s hh=>?_) hb
 cases e with
 |normal=>exact dwp_mono hr hh
 |ret=>exact hh
 |exit i=>exact hh
end Sh

namespace Sh
open Go
def tfind:Tmps→Nat→Option DV
 |[],_=>none
 |(k,v) :: r,i=>bif Nat.beq k i then some v else tfind r i
def orD:Option DV→DV→DV
 |some x,_=>x
 |none,d=>d
def ovT (v:Tmps):Tmps→Tmps
 |[]=>[]
 |(i,d) :: r=>(i,orD (tfind v i) d) :: ovT v r
def ovTK (v:Tmps):Tmps→(Tmps→Prop)→Prop
 |[],k=>k []
 |(i,d) :: r,k=>match tfind v i with
  |some x=>ovTK v r fun l=>k ((i,x) :: l)
  |none=>ovTK v r fun l=>k ((i,d) :: l)
theorem ovTK_eq (v:Tmps):∀ (t:Tmps) (k:Tmps→Prop),ovTK v t k=k (ovT v t)
 |[],k=>rfl
 |(i,d) :: r,k=>by
  unfold ovTK ovT
  cases tfind v i with
  |some x=>exact ovTK_eq v r _
  |none=>exact ovTK_eq v r _
section
variable {P:Program} {G:Nat→Option DV}
theorem dwpR_mono {c:DC} {Q Q':DExit→SP} {t:Tmps} {s:Heap} (h:∀ e t s,Q e t s→Q' e t s) (hs:dwpR P G c Q t s):dwpR P G c Q' t s:=by
 rw [dwpR_eq] at *;exact dwp_mono h hs
theorem loopU_aux {α:Type} (T:α→Tmps) (H:α→Heap) (inv:α→Prop) (μ:α→Nat) {k:Keep} {b:DC} {Q:DExit→SP}
  (step:∀ a,inv a→dwpR P G b (seqQ (fun t' h'=>∃ a',boxesOk k.kh (hlook h') k.kh=true∧keepT k.kh (hlook h') t' k.kt=T a'∧keepH k.kh (hlook h') k.kh=H a'∧inv a'∧μ a' < μ a) Q) (T a) (H a)) :
  ∀ n a,inv a→μ a < n→loopN (dwpR P G b) k Q n (T a) (H a):=by
 intro n
 induction n with
 |zero=>intro a _ h;omega
 |succ n ihn =>
  intro a ha hn
  unfold loopN
  have:=step a ha
  refine dwpR_mono (seqQ_mono (fun t' s' hs'=>?_) (fun _ _ _ h=>h)) this
  obtain ⟨a',hbx,hk,hk',hi',hlt⟩:=hs'
  rw [hk,hk'];exact ⟨hbx,ihn a' hi' (by omega)⟩
theorem dwp_loopU {α:Type} (V:α→Tmps) (H:α→Heap) (inv:α→Prop) (μ:α→Nat) {k:Keep} {b:DC} {Q:DExit→SP} {t:Tmps} {s:Heap} (a0:α) (hi:inv a0)
  (h0:enterK k.cv t s fun t' h'=>boxesOk k.kh (hlook h') k.kh=true∧keepH k.kh (hlook h') k.kh=H a0∧keepTK k.kh (hlook h') t' k.kt [] fun T0=>ovT (V a0) T0=T0 ∧
    ∀ a,inv a→ovTK (V a) T0 fun T=>dwpR P G b (seqQ (fun t'' h''=>∃ a',boxesOk k.kh (hlook h'') k.kh=true∧keepT k.kh (hlook h'') t'' k.kt=ovT (V a') T0∧keepH k.kh (hlook h'') k.kh=H a'∧inv a'∧μ a' < μ a) Q) T (H a)) :
  loopWp (dwpR P G b) k Q t s:=by
 unfold loopWp
 refine enterK_mono (fun t' h' hh=>?_) h0
 obtain ⟨h1,h2,h3⟩:=hh
 rw [keepTK_eq,List.reverse_nil,List.nil_append] at h3
 refine ⟨h1,μ a0+1,?_⟩
 rw [h2,← h3.1]
 exact loopU_aux (fun a=>ovT (V a) (keepT k.kh (hlook h') t' k.kt)) H inv μ (fun a ha=>by have:=h3.2 a ha;rw [ovTK_eq] at this;exact this) _ a0 hi (by omega)
end
end Sh

namespace Sh
open Go
theorem fenced_open {P:Program} {F:Fence} (hF:OpenF F) (hd:F.depth=none):Machine.fenced P F=Machine.fenced P Fence.wide:=by
 funext m
 refine propext ⟨fun _=>fenced_wide P m,fun _ g _=>?_⟩
 refine ⟨fun h=>?_,Or.inl (hF.fn _),fun f _=>hF.fn f,fun d e=>?_⟩
 ·rw [hF.quiet] at h;cases h
 ·rw [hd] at e;cases e
theorem calls_open {P:Program} {F:Fence} {n:Nat} {f:FuncId} {args:Array Value} {w:World} {R:Ending→World→Prop} (hF:OpenF F) (hd:F.depth=none) (h:Calls P f args w R):CallsIn F n P f args w R:=by
 have h1:=(callsIn_wide (n:=n)).2 h
 refine ⟨hF.fn f,fun cs _=>?_⟩
 rw [fenced_open hF hd]
 exact h1.2 cs (room_wide _)
theorem pure_of_calls {P:Program} {G:Nat→Option DV} {f:FuncId} {ds:List DV} {d:DV} (hen:Enters P f) (h:∀ M w vs,GOk G M→Tabs G w→M.holds w→RelPs M ds vs→Calls P f vs w (After M w d)):PureCall P G f ds d :=
 ⟨hen,fun F n hF hd _ M w vs hG hT hM hr=>calls_open hF hd (h M w vs hG hT hM hr)⟩
theorem holds_below {M:Mem} {w w':World} (hM:M.holds w) (h:RowKit.Below w.heap.size w w'):M.holds w':=fun b o v e=>by
 have h1:=hM b o v e
 have h2:b < w.heap.size:=World.block_lt_of_cell? (a:=⟨b,o,none⟩) _ h1
 rw [World.cell?_of_block (w:=w) (w':=w') (a:=⟨b,o,none⟩) (h.block b h2)];exact h1
theorem after_flat {M:Mem} {w w':World} {d:DV} {v:Value} (hM:M.holds w) (h:RowKit.Below w.heap.size w w') (hv:RelP M d v):After M w d (.returned v) w' :=
 ⟨v,M,rfl,M.le_refl,holds_below hM h,hv,h,fun b o v e e0=>by rw [e] at e0;cases e0⟩
theorem tabIs_of {P:Program} {G:Nat→Option DV} {M:Mem} {w:World} {name:String} {g:Nat} {k:IntKind} {zs:List Int} (hn:P.globalNamed name=some g) (hg:G g=some (.agg (zs.map (DV.int k)))) (hz:zs≠[])
  (hG:GOk G M) (hT:Tabs G w) (hM:M.holds w):Lib.TabIs P w name k zs:=by
 have h1:=(hT g _ hg).1
 have h2:=hG g _ hg
 unfold Lib.TabIs World.var?
 rw [hn]
 simp only [Option.bind_some]
 unfold blockLen at h1
 split at h1
 ·rename_i cs ty fz e
  simp only [Option.some.injEq,DV.cells,List.length_map] at h1
  rw [e]
  simp only [Option.some.injEq]
  cases h2 with
  |ip d b o gv hMm hr =>
   apply Array.ext
   ·simp [h1]
   ·intro i i1 i2
    have hi:i < zs.length:=by omega
    have q1:=hM _ _ _ (hMm i (by simpa [DV.cells] using hi))
    have q2:=hr i (by simpa [DV.cells] using hi)
    have q3:w.cell? ⟨g,0+i,none⟩=cs[i]?:=by rw [Nat.zero_add];exact cell_of_heap e i
    rw [q3] at q1
    have q4:(DV.agg (zs.map (DV.int k))).cells.getD i .undef=.int k zs[i]:=by simp [DV.cells,List.getD_eq_getElem?_getD,hi]
    rw [q4] at q2
    have q5:cs[i]=gv i:=by rw [Array.getElem?_eq_getElem i1] at q1;exact Option.some.inj q1
    have q6:∀ v,RelP M (.int k zs[i]) v→v=.int k zs[i]:=fun v h=>by cases h;rfl
    rw [q5,q6 _ q2]
    simp
 ·cases h1
end Sh

namespace Sh
open Go
def memOf (W:World):Mem:=fun b o=>W.cell? ⟨b,o,none⟩
def RelL (M:Mem) (ds:List DV) (vs:List Value):Prop:=ds.length=vs.length∧∀ i,i < ds.length→RelP M (ds.getD i .undef) (vs.getD i Go.undef)
theorem getD_left {α:Type} {a b:List α} {i:Nat} {d:α} (h:i < a.length):(a++b).getD i d=a.getD i d:=by
 simp [List.getD_eq_getElem?_getD,List.getElem?_append_left h]
theorem getD_right {α:Type} {a b:List α} {i:Nat} {d:α} (h:a.length≤i):(a++b).getD i d=b.getD (i - a.length) d:=by
 simp [List.getD_eq_getElem?_getD,List.getElem?_append_right h]
theorem RelL.append {M:Mem} {a c:List DV} {b d:List Value} (h:RelL M a b) (k:RelL M c d):RelL M (a++c) (b++d):=by
 refine ⟨by simp [h.1,k.1],fun i hi=>?_⟩
 by_cases e:i < a.length
 ·rw [getD_left e,getD_left (h.1 ▸ e)];exact h.2 i e
 ·have h1:=h.1
  rw [getD_right (by omega),getD_right (by omega),← h.1]
  exact k.2 _ (by simp at hi;omega)
theorem RelL.one {M:Mem} {d:DV} {v:Value} (h:RelP M d v):RelL M [d] [v]:=⟨rfl,fun i hi=>by
 have:i=0:=by simp at hi;omega
 subst this;exact h⟩
theorem RelL.nil {M:Mem}:RelL M [] []:=⟨rfl,fun i hi=>absurd hi (Nat.not_lt_zero i)⟩
section
variable {H:Type} {enc:TypeId×Value→H} {P:Program} {W:World}
def Opens (enc:TypeId×Value→H) (P:Program) (W:World) (t:TypeId) {α:Type} (e:α→List DV) (B:α→Prop):Prop :=
 ∀ (base:Nat) (sp:Nat→Bool) (hd:Bool) (fuel:Nat) (cs:List Value) (x:DataW H×List MemPlace),DataW.trod enc P W base sp hd fuel t cs=some x→∃ a,RelL (memOf W) (e a) cs∧B a
theorem Opens.map {t:TypeId} {α β:Type} {e:α→List DV} {B:α→Prop} {e':β→List DV} {B':β→Prop} (h:Opens enc P W t e B) (f:α→β) (he:∀ a,e' (f a)=e a) (hB:∀ a,B a→B' (f a)):Opens enc P W t e' B':=by
 intro base sp hd fuel cs x hx
 obtain ⟨a,h1,h2⟩:=h base sp hd fuel cs x hx
 exact ⟨f a,by rw [he];exact h1,hB a h2⟩
theorem opens_int {t:TypeId} {k:IntKind} (ht:P.underlying t=some (.int k)):Opens enc P W t (fun n:Int=>[DV.int k n]) (fun n=>(Lit.int k n).wf=true):=by
 intro base sp hd fuel cs x hx
 obtain ⟨n,rfl,_,hw⟩:=DataW.trod_int ht hx
 exact ⟨n,.one (.int k n),hw⟩
theorem opens_string {t:TypeId} (ht:P.underlying t=some .string):Opens enc P W t (fun s:List UInt8=>[DV.str s]) (fun s=>s.length≤maxLen):=by
 intro base sp hd fuel cs x hx
 obtain ⟨s,rfl,_,hw⟩:=DataW.trod_string ht hx
 exact ⟨s.data.toList,.one (.str s.data.toList),by simpa using hw⟩
theorem build {α:Type} {F:Nat→α→Prop}:∀ n,(∀ i,i < n→∃ a,F i a)→∃ l:List α,l.length=n∧∀ i (hi:i < l.length),F i l[i]
 |0,_=>⟨[],rfl,fun i hi=>absurd hi (Nat.not_lt_zero i)⟩
 |n+1,h=>by
  obtain ⟨l,h1,h2⟩:=build n (fun i hi=>h i (by omega))
  obtain ⟨a,ha⟩:=h n (by omega)
  refine ⟨l++[a],by simp [h1],fun i hi=>?_⟩
  by_cases e:i < l.length
  ·rw [List.getElem_append_left e];exact h2 i e
  ·have:i=l.length:=by simp at hi;omega
   subst this
   rw [List.getElem_append_right (Nat.le_refl _)]
   simpa [h1] using ha
theorem cells?_parts {base:Nat} {a:Addr} {n:Nat} {cs:List Value} (h:W.cells? base a n=some cs):cs.length=n∧∀ j,j < n→W.cell? (a.add j)=cs[j]?:=by
 unfold World.cells? at h
 split at h
 ·refine ⟨by simpa using mapM_some_length h,fun j hj=>mapM_some_get h j j (by simp [hj])⟩
 ·cases h
theorem add_off {a:Addr} (h:a.spot=none) (k:Nat):a.add k=⟨a.block,a.off+k,none⟩:=by
 unfold Addr.add
 split
 ·rename_i e;subst e;cases a;simp_all
 ·rfl
theorem spot_none {a:Addr} {v:Value} (h:W.cell? a=some v):a.spot=none:=by
 unfold World.cell? at h
 split at h
 ·split at h
  ·cases h
  ·rename_i e;simpa using e
 ·cases h
theorem opens_slice {t e:TypeId} {α:Type} {f:α→DV} {B:α→Prop} (ht:P.underlying t=some (.slice e)) (n:Nat) (hn:P.cellsOf e=n) (h0:0 < n) (hE:Opens enc P W e (fun a=>(f a).cells) B) :
  Opens enc P W t (fun l:List α=>[DV.list (l.map f)]) (fun l=>l.length≤maxLen∧∀ a ∈ l,B a):=by
 intro base sp hd fuel cs x hx
 rcases DataW.trod_slice ht hx with ⟨rfl,_⟩|⟨a,len,cap,elems,rest,m,_,rfl,_,_,hlc,hcm,hlen,hel,_,_⟩
 ·exact ⟨[],.one (.list [] none 0 n 0 0 (fun _=>Go.undef) (Nat.le_refl _) (.inl rfl) (fun e he=>by simp at he) (fun i hi=>by simp [flat] at hi) (fun i hi=>by simp [flat] at hi)),Nat.zero_le _,fun a ha=>by simp at ha⟩
 ·rw [hn] at hel
  have hget:∀ i,i < len→∃ y:α,∃ cs:List Value,W.cells? base (a.add (i * n)) n=some cs∧RelL (memOf W) (f y).cells cs∧B y:=by
   intro i hi
   have h1:=hel i hi
   cases hc:W.cells? base (a.add (i * n)) n with
   |none=>rw [hc] at h1;rw [List.getElem?_eq_getElem (by omega)] at h1;cases h1
   |some cs =>
    rw [hc,Option.bind_some,List.getElem?_eq_getElem (by omega)] at h1
    obtain ⟨y,h2,h3⟩:=hE _ _ _ _ _ _ h1
    exact ⟨y,cs,rfl,h2,h3⟩
  obtain ⟨l,hl,hF⟩:=build len hget
  have hsp:l=[]∨a.spot=none:=by
   by_cases e0:len=0
   ·exact .inl (List.length_eq_zero_iff.1 (by omega))
   ·obtain ⟨cs,h1,_⟩:=hF 0 (by omega)
    have h2:=cells?_parts h1
    have h3:=h2.2 0 h0
    rw [Nat.zero_mul,List.getElem?_eq_getElem (by omega)] at h3
    exact .inr (spot_none (a:=a) (by simpa [Addr.add] using h3))
  have hsz:∀ e ∈ l.map f,e.cells.length=n:=fun e he=>by
   obtain ⟨y,hy,rfl⟩:=List.mem_map.1 he
   obtain ⟨i,hi,rfl⟩:=List.mem_iff_getElem.1 hy
   obtain ⟨cs,h1,h2,_⟩:=hF i hi
   rw [h2.1];exact (cells?_parts h1).1
  have hcell:∀ q r,q < l.length→r < n→∃ v,W.cell? ⟨a.block,a.off+(q * n+r),none⟩=some v∧RelP (memOf W) (((l.map f).getD q .undef).cells.getD r .undef) v:=by
   intro q r hq hr
   obtain ⟨cs,h1,h2,_⟩:=hF q hq
   have h3:=cells?_parts h1
   have h4:=h3.2 r hr
   have hs:a.spot=none:=hsp.resolve_left (fun e=>by rw [e] at hq;exact absurd hq (Nat.not_lt_zero _))
   rw [add_off hs,add_off rfl,List.getElem?_eq_getElem (by omega)] at h4
   refine ⟨cs[r]'(by omega),by rw [← Nat.add_assoc];exact h4,?_⟩
   have h5:=h2.2 r (by rw [h2.1];omega)
   have e1:(l.map f).getD q .undef=f l[q]:=by simp [List.getD_eq_getElem?_getD,hq]
   have e2:cs.getD r Go.undef=cs[r]'(by omega):=by simp [List.getD_eq_getElem?_getD,show r < cs.length by omega]
   rw [e1,← e2];exact h5
  have hall:∀ i,i < (flat (l.map f)).length→∃ v,W.cell? ⟨a.block,a.off+i,none⟩=some v∧RelP (memOf W) ((flat (l.map f)).getD i .undef) v:=by
   intro i hi
   rw [length_flat _ n hsz,List.length_map] at hi
   obtain ⟨q,r,hq,hr,rfl⟩:∃ q r,q < l.length∧r < n∧q * n+r=i :=
    ⟨i / n,i % n,(Nat.div_lt_iff_lt_mul h0).2 hi,Nat.mod_lt _ h0,by rw [Nat.mul_comm];exact Nat.div_add_mod i n⟩
   obtain ⟨v,h1,h2⟩:=hcell q r hq hr
   refine ⟨v,h1,?_⟩
   rw [getElem_flat _ n hsz q r (by simpa using hq) hr];exact h2
  refine ⟨l,.one ?_,⟨by omega,fun y hy=>?_⟩⟩
  ·have e1:len=(l.map f).length:=by simp [hl]
   rw [e1]
   refine .list (l.map f) (some a) cap n a.block a.off (fun i=>(W.cell? ⟨a.block,a.off+i,none⟩).getD Go.undef) (by omega) ?_ hsz ?_ ?_
   ·rcases hsp with h|h
    ·exact .inl (by rw [h];rfl)
    ·exact .inr (by rw [← h])
   ·intro i hi
    obtain ⟨v,h1,_⟩:=hall i hi
    show W.cell? _=_
    rw [h1];rfl
   ·intro i hi
    obtain ⟨v,h1,h2⟩:=hall i hi
    rw [h1];exact h2
  ·obtain ⟨i,hi,rfl⟩:=List.mem_iff_getElem.1 hy
   obtain ⟨_,_,_,h3⟩:=hF i hi
   exact h3
theorem split2 {α:Type} {cs:List α} {c0 c1:Nat} (h:cs.length=c0+c1):(cs.drop 0).take c0++(cs.drop c0).take c1=cs:=by
 rw [List.drop_zero,List.take_of_length_le (l:=cs.drop c0) (by simp;omega),List.take_append_drop]
theorem opens_struct2 {t:TypeId} {f0 f1:Field} {α β:Type} {e0:α→List DV} {B0:α→Prop} {e1:β→List DV} {B1:β→Prop} (ht:P.underlying t=some (.struct #[f0,f1])) (c0 c1:Nat)
  (h0:P.cellsOf f0.type=c0) (h1:P.cellsOf f1.type=c1) (hc:P.cellsOf t=c0+c1) (o0:f0.offset=0) (o1:f1.offset=c0) (k0:Opens enc P W f0.type e0 B0) (k1:Opens enc P W f1.type e1 B1) :
  Opens enc P W t (fun a:α×β=>e0 a.1++e1 a.2) (fun a=>B0 a.1∧B1 a.2):=by
 intro base sp hd fuel cs x hx
 obtain ⟨y0,y1,n,_,hl,r0,r1⟩:=ChangeShapes.trod_struct2 ht hx
 rw [h0,o0] at r0
 rw [h1,o1] at r1
 rw [hc] at hl
 obtain ⟨a,a1,a2⟩:=k0 _ _ _ _ _ _ r0
 obtain ⟨b,b1,b2⟩:=k1 _ _ _ _ _ _ r1
 exact ⟨(a,b),by have:=a1.append b1;rwa [split2 hl] at this,a2,b2⟩
theorem opens_struct3 {t:TypeId} {f0 f1 f2:Field} {α β γ:Type} {e0:α→List DV} {B0:α→Prop} {e1:β→List DV} {B1:β→Prop} {e2:γ→List DV} {B2:γ→Prop} (ht:P.underlying t=some (.struct #[f0,f1,f2])) (c0 c1 c2:Nat)
  (h0:P.cellsOf f0.type=c0) (h1:P.cellsOf f1.type=c1) (h2:P.cellsOf f2.type=c2) (hc:P.cellsOf t=c0+(c1+c2)) (o0:f0.offset=0) (o1:f1.offset=c0) (o2:f2.offset=c0+c1)
  (k0:Opens enc P W f0.type e0 B0) (k1:Opens enc P W f1.type e1 B1) (k2:Opens enc P W f2.type e2 B2) :
  Opens enc P W t (fun a:α×β×γ=>e0 a.1++(e1 a.2.1++e2 a.2.2)) (fun a=>B0 a.1∧B1 a.2.1∧B2 a.2.2):=by
 intro base sp hd fuel cs x hx
 obtain ⟨xs,n,_,_,hl,hlen,hf⟩:=DataW.trod_struct ht hx
 match xs,hlen with
 |[y0,y1,y2],_ =>
  have r0:=hf 0 f0 rfl
  have r1:=hf 1 f1 rfl
  have r2:=hf 2 f2 rfl
  rw [h0,o0] at r0
  rw [h1,o1] at r1
  rw [h2,o2] at r2
  rw [hc] at hl
  obtain ⟨a,a1,a2⟩:=k0 _ _ _ _ _ _ r0
  obtain ⟨b,b1,b2⟩:=k1 _ _ _ _ _ _ r1
  obtain ⟨c,d1,d2⟩:=k2 _ _ _ _ _ _ r2
  refine ⟨(a,b,c),?_,a2,b2,d2⟩
  have h3:=a1.append (b1.append d1)
  have e3:(cs.drop c0).take c1++(cs.drop (c0+c1)).take c2=cs.drop c0:=by
   have:=split2 (cs:=cs.drop c0) (c0:=c1) (c1:=c2) (by simp;omega)
   rwa [List.drop_drop,List.drop_drop,Nat.add_zero] at this
  rw [e3,List.drop_zero,List.take_append_drop] at h3
  exact h3
theorem RelL.cons {M:Mem} {d:DV} {v:Value} {ds:List DV} {vs:List Value} (h:RelP M d v) (k:RelL M ds vs):RelL M (d :: ds) (v :: vs):=(RelL.one h).append k
theorem gok_of {W:World} {g:Nat} {ds:List DV} {cs:Array Value} (hc:∀ i,W.cell? ⟨g,i,none⟩=cs[i]?) (h:RelL (memOf W) ds cs.toList):RelP (memOf W) (.ip (.agg ds)) (.pointer (some ⟨g,0,none⟩)):=by
 have hl:ds.length=cs.size:=by simpa using h.1
 refine .ip _ g 0 (fun i=>cs.getD i Go.undef) (fun i hi=>?_) (fun i hi=>?_)
 ·have hi:i < cs.size:=by rw [← hl];exact hi
  show W.cell? _=_
  rw [Nat.zero_add,hc,Array.getElem?_eq_getElem hi];simp [Array.getD_eq_getD_getElem?,hi]
 ·have h1:=h.2 i hi
  simpa [DV.cells,List.getD_eq_getElem?_getD,Array.getD_eq_getD_getElem?] using h1
theorem len_of {W:World} {n:String} {g:Nat} {cs:Array Value} (hg:P.globalNamed n=some g) (h:W.var? P n=some cs):blockLen W g=some cs.size:=by
 simp only [World.var?,hg,Option.bind_some] at h
 unfold blockLen
 split at h<;>simp_all
end
end Sh

namespace Sh
open Go Go.Proofs
section
variable {H:Type} {enc:TypeId×Value→H} {P:Program} {W:World}
theorem opens_array_aux {c:Nat}:∀ (dss:List (List DV)) (cs:List Value),cs.length=dss.length * c →
  (∀ (i:Nat) (ds:List DV),dss[i]?=some ds→RelL (memOf W) ds ((cs.drop (i * c)).take c))→RelL (memOf W) dss.flatten cs
 |[],cs,hl,_=>by
  have:cs=[]:=List.length_eq_zero_iff.1 (by simpa using hl)
  subst this;exact .nil
 |ds :: dss,cs,hl,h=>by
  rw [List.length_cons,Nat.add_mul,Nat.one_mul] at hl
  have h2:=opens_array_aux (c:=c) dss (cs.drop c) (by simp;omega) (fun i ds' e2=>by
   have:=h (i+1) ds' (by simpa using e2)
   rwa [Nat.add_mul,Nat.one_mul,Nat.add_comm (i * c) c,← List.drop_drop] at this)
  have h3:=h 0 ds rfl
  rw [Nat.zero_mul,List.drop_zero] at h3
  have:=h3.append h2
  rwa [List.take_append_drop] at this
theorem opens_array {t e:TypeId} {n c:Nat} {α:Type} {f:α→List DV} {B:α→Prop} (ht:P.underlying t=some (.array n e)) (hc:P.cellsOf e=c) (hct:P.cellsOf t=n * c) (hE:Opens enc P W e f B) :
  Opens enc P W t (fun l:List α=>l.flatMap f) (fun l=>l.length=n∧∀ a ∈ l,B a):=by
 intro base sp hd fuel cs x hx
 obtain ⟨ys,m,_,e,hlc,hn,hel⟩:=DataW.trod_array ht hx
 have hget:∀ i,i < n→∃ a:α,RelL (memOf W) (f a) ((cs.drop (i * c)).take c)∧B a:=by
  intro i hi
  have h1:=hel i hi
  rw [hc,List.getElem?_eq_getElem (by omega)] at h1
  exact hE _ _ _ _ _ _ h1
 obtain ⟨l,hl,hF⟩:=build n hget
 refine ⟨l,?_,hl,fun a ha=>?_⟩
 ·show RelL (memOf W) (l.flatMap f) cs
  rw [List.flatMap_def]
  refine opens_array_aux (c:=c) (l.map f) cs (by rw [List.length_map,hl,hlc,hct]) (fun i ds e2=>?_)
  rw [List.getElem?_map,Option.map_eq_some_iff] at e2
  obtain ⟨a,e3,rfl⟩:=e2
  obtain ⟨hi,rfl⟩:=List.getElem?_eq_some_iff.1 e3
  exact (hF i hi).1
 ·obtain ⟨i,hi,rfl⟩:=List.mem_iff_getElem.1 ha
  exact (hF i hi).2
theorem Opens.mapB {t:TypeId} {α β:Type} {e:α→List DV} {B:α→Prop} {e':β→List DV} {B':β→Prop} (h:Opens enc P W t e B) (f:α→β) (he:∀ a,B a→e' (f a)=e a) (hB:∀ a,B a→B' (f a)):Opens enc P W t e' B':=by
 intro base sp hd fuel cs x hx
 obtain ⟨a,h1,h2⟩:=h base sp hd fuel cs x hx
 exact ⟨f a,by rw [he a h2];exact h1,hB a h2⟩
theorem wf_in {k:IntKind} {n:Int} (h:(Lit.int k n).wf=true):k.min≤n∧n≤k.max:=by
 unfold Lit.wf at h
 rw [Bool.and_eq_true] at h
 exact ⟨of_decide_eq_true h.1,of_decide_eq_true h.2⟩
theorem wf_u8 {n:Int} (h:(Lit.int .u8 n).wf=true):0≤n∧n≤255:=wf_in h
theorem wf_u16 {n:Int} (h:(Lit.int .u16 n).wf=true):0≤n∧n≤65535:=wf_in h
theorem open_var {g:Nat} {t:TypeId} {zero:Array Value} (h:W.ShapedOpen P) (hg:g < P.globals.size)
  (h0:((begin P (fun _ _=>0) default).world.heap[g]?).bind Obj.row?=some (zero,t)) (hz:zero.size=1)
  (hb:P.buildable t=true) (hc:P.cellTypes P.depth t=some [t]) (hu:P.underlying t=some (.int .i64)) :
  (∃ m,W.cell? ⟨g,0,none⟩=some (.int .i64 m))∧blockLen W g=some 1:=by
 refine ⟨cell_of_shapedOpen_int h hg h0 hz hb hc hu,?_⟩
 obtain ⟨cs,hh,hs,_⟩:=h.1 g zero t hg h0
 unfold blockLen
 rw [hh]
 show some cs.size=some 1
 rw [hs,hz]
theorem gok_open {g:Nat} (h:∃ m,W.cell? ⟨g,0,none⟩=some (.int .i64 m)):RelP (memOf W) (.ip (.agg [.undef])) (.pointer (some ⟨g,0,none⟩)):=by
 obtain ⟨m,hm⟩:=h
 refine .ip _ g 0 (fun _=>.int .i64 m) (fun i hi=>?_) (fun i hi=>?_)
 ·have:i=0:=by simpa [DV.cells] using hi
  subst this;exact hm
 ·have:i=0:=by simpa [DV.cells] using hi
  subst this;exact .undef _
end
section
open Go.RowKit Go.WideShapes Go.ChangeShapes
variable {H:Type} {enc:TypeId×Value→H} {P:Program}
end
theorem relL_ints {M:Mem} {k:IntKind} (zs:List Int):RelL M (zs.map (DV.int k)) (zs.map fun z=>Value.int k z):=by
 refine ⟨by simp,fun i hi=>?_⟩
 rw [List.length_map] at hi
 have e1:(zs.map (DV.int k)).getD i .undef=.int k zs[i]:=by simp [List.getD_eq_getElem?_getD,hi]
 have e2:(zs.map fun z=>Value.int k z).getD i Go.undef=.int k zs[i]:=by simp [List.getD_eq_getElem?_getD,hi]
 rw [e1,e2]
 exact .int _ _
end Sh
