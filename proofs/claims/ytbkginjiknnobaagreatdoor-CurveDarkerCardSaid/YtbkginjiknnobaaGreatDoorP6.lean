/-
  Chapter 4's functions, walked over pure data: the library of the walk, the functions' code over data, and what each computes. (part 6)
-/
import Derived.Test.YtbkginjiknnobaaGreatDoorP5
import Derived.Shelf.LaysM
import Derived.Shelf.Strconv.Itoa3
import Derived.Shelf.Strings.OnBuilder
import Derived.Lib.ItoaLen
import Derived.Test.YtbkginjiknnobaaGreatDoorProg
set_option linter.unusedVariables false
set_option linter.unusedSimpArgs false
set_option maxRecDepth 100000
namespace Sh
open Go Go.Proofs
def misT (f:List (List Cel)) (i:Nat):Int:=sumI ((f.take i).map fun l=>(hiF [l]).2)
theorem misT_succ (f:List (List Cel)) (i:Nat) (h:i < f.length):misT f (i+1)=misT f i+(hiF [f.getD i []]).2:=by
 unfold misT;rw [take_map_succ _ f i [] h,sumI_append,sumI_one]
def misF (f:List (List Cel)):Int:=misT f f.length - (hiF f).2
theorem OkF.one {f:List (List Cel)} (h:OkF f) {l:List Cel} (hl:l ∈ f):OkF [l]:=⟨by simp,by simp,fun x hx=>by simp at hx;rw [hx];exact h.2.2 l hl⟩
theorem misT_bd {f:List (List Cel)} (h:OkF f) (i:Nat):0≤misT f i∧misT f i≤7200000:=by
 have h1:=sumI_bd (l:=(f.take i).map fun l=>(hiF [l]).2) (A:=0) (B:=1200000) (fun x hx=>by
  obtain ⟨l,hl,rfl⟩:=List.mem_map.1 hx
  have:=hiF_bd (h.one (List.mem_of_mem_take hl))
  exact ⟨this.1,this.2.1⟩)
 have h2:((f.take i).map fun l=>(hiF [l]).2).length≤6:=by have:=h.2.1;simp;omega
 unfold misT
 omega
theorem chkF_zero {f:List (List Cel)} (h:chkField f=0) {l:List Cel} (hl:l ∈ f):chkField [l]=0:=by
 have h1:=h
 unfold chkField at h1
 split at h1
 ·exact absurd h1 ‹_›
 ·have:=firstE_mem h1 _ (List.mem_map_of_mem hl)
  unfold chkField
  rw [show (([l].length:Nat):Int)=1 from rfl,if_neg (by decide:¬ countE 1 6≠0)]
  simp [firstE,this]
theorem highS_ok {f:List (List Cel)} (h:chkField f=0):highS f=((hiF f).1,(hiF f).2,0):=by unfold highS;rw [if_neg (by omega)]
theorem highS_e (f:List (List Cel)):(highS f).2.2=chkField f:=by
 unfold highS
 split
 ·rfl
 ·rename_i h;exact (Classical.not_not.1 h).symm
def misS (f:List (List Cel)):Int×Int:=if chkField f≠0 then (0,chkField f) else (misF f,0)
theorem LenF.one {f:List (List Cel)} (h:LenF f) {l:List Cel} (hl:l ∈ f):LenF [l]:=⟨by simp,fun x hx=>by simp at hx;rw [hx];exact h.2 l hl⟩
theorem c_Mismatch (f:List (List Cel)) (hl:LenF f):PC 44 [fld f] (encE2 (misS f)):=by
 have e0:((f.map chn).length:Int)=f.length:=by simp
 refine pureCall_ofR dh44 rfl ?_
 conv=>whnf
 repeat' (first
  |(refine ⟨fun hg=>?_,fun hg=>?_⟩<;>first|contradiction|(conv=>whnf))
  |(refine Or.inl ?_;conv=>whnf)
  |(refine ⟨_,c_Highest _ hl,?_⟩;conv=>whnf)
  |(refine And.intro ?_ ?_;kernel_rfl;conv=>whnf))
 ·have hg:=of_decide_eq_true hg
  rw [highS_e] at hg ⊢
  show DV.tuple [_,_]=_
  rw [misS,if_pos hg];rfl
 ·have hg:=of_decide_eq_false hg
  rw [highS_e] at hg
  have hz:=Classical.not_not.1 hg
  have hF:=chkField_zero hz
  have hm:=hiF_bd hF
  have hfl:=hF.2.1
  rw [show (highS f).2.1=(hiF f).2 by rw [highS_ok hz]]
  rw [show IntKind.i64.wrap (-(hiF f).2)=misT f 0 - (hiF f).2 by rw [wrap_W,W_in (by omega) (by omega)];show _=0 - _;omega]
  refine dwp_loopR (P:=Tryz.prog) (G:=GC) (k:=dk44_0) (b:=db44_0) (α:=Nat) (fun i=>[(0,fld f),(7,DV.int .i64 (misT f i - (hiF f).2)),(24,.int .i64 (f.map chn).length),(25,DV.int .i64 (i))]) (fun _=>[]) (fun i=>i≤f.length) (fun i=>f.length - i) 0 ⟨rfl,rfl,rfl⟩ (Nat.zero_le _) ?_
  intro i h1
  conv=>whnf
  refine ⟨fun hb=>?_,fun hb=>?_⟩
  ·have hi:i < f.length:=by simpa using hb
   have hmem:=getD_in [] hi
   have hb1:=misT_bd hF i
   have hb2:=hiF_bd (hF.one hmem)
   conv=>whnf
   rw [wrap_succ i (by omega)]
   have hwin:window (f.map chn) (Int.toNat (i:Int)) (Int.toNat (((i+1:Nat):Int) - (i:Int)))=[f.getD i []].map chn:=by
    rw [show Int.toNat (((i+1:Nat):Int) - (i:Int))=1 by omega,Int.toNat_natCast]
    unfold window
    rw [drop_getD (f.map chn) i (chn []) (by simpa using hi)]
    simp [List.getD_eq_getElem?_getD,hi]
   rw [hwin]
   refine ⟨⟨by omega,by omega,by rw [e0];omega,fun e he=>by obtain ⟨l,_,rfl⟩:=List.mem_map.1 he;rfl⟩,?_⟩
   conv=>whnf
   repeat' (first
    |(refine ⟨fun hg=>?_,fun hg=>?_⟩<;>first|contradiction|(conv=>whnf))
    |(refine Or.inl ?_;conv=>whnf)
    |(refine ⟨_,c_Highest _ (hl.one hmem),?_⟩;conv=>whnf)
    |(refine And.intro ?_ ?_;kernel_rfl;conv=>whnf))
   rw [wrap_succ i (by omega)]
   refine ⟨i+1,rfl,?_,rfl,hi,by omega⟩
   have ez:=highS_ok (chkF_zero hz hmem)
   rw [ez,misT_succ f i hi]
   show [(0,fld f),(7,DV.int .i64 (IntKind.i64.wrap (misT f i - (hiF f).2+(hiF [f.getD i []]).2))),_,_]=_
   rw [wrap_W,W_in (by omega) (by omega),show misT f i - (hiF f).2+(hiF [f.getD i []]).2=misT f i+(hiF [f.getD i []]).2 - (hiF f).2 by omega];rfl
  ·have hi:i=f.length:=by have:=of_decide_eq_false hb;rw [e0] at this;omega
   conv=>whnf
   show DV.tuple [_,_]=_
   rw [misS,if_neg hg,hi];rfl
def cutStep (n:Int) (f:Bool) (b c:Int):Int:=firstE [withE c 0 (n - 1),whenE ((f && !decide (c=0)) || decide (c≤b)) 11]
def cutsE (n:Int):Bool→Int→List Int→Int
 |_,_,[]=>0
 |f,b,c :: r=>if cutStep n f b c≠0 then cutStep n f b c else cutsE n false c r
def befI (cuts:List Int):Nat→Int
 |0 => -1
 |i+1=>cuts.getD i 0
def toI (l cuts:List Int) (i:Nat):Int:=if i+1 < cuts.length then cuts.getD (i+1) 0 - 1 else (l.length:Int) - 1
def provAt (l:List Int) (p:Int) (cuts:List Int) (i:Nat):Bool:=!decide (p < l.getD (cuts.getD i 0).toNat 0 * toI l cuts i)
def provB (l:List Int) (p:Int) (cuts:List Int):Bool:=(List.range cuts.length).all (provAt l p cuts)
def InR (l cuts:List Int):Prop:=∀ i,i < cuts.length→0≤cuts.getD i 0∧cuts.getD i 0 < l.length
theorem cutsE_in {n:Int}:∀ {f:Bool} {b:Int} {cuts:List Int},cutsE n f b cuts=0→∀ i,i < cuts.length→0≤cuts.getD i 0∧cuts.getD i 0 < n
 |_,_,[],_,i,hi=>absurd hi (Nat.not_lt_zero i)
 |f,b,c :: r,h,i,hi=>by
  unfold cutsE at h
  split at h
  ·exact absurd h ‹_›
  ·rename_i hc
   cases i with
   |zero =>
    have:=withE_zero (firstE_cons (Classical.not_not.1 hc)).1
    show 0≤c∧c < n
    omega
   |succ i=>exact cutsE_in h i (by simpa using hi)
theorem range_all (p:Nat→Bool) (i:Nat) (h:(List.range i).all p=true) (h2:p i=true):(List.range (i+1)).all p=true:=by
 rw [List.range_succ,List.all_append,h];simp [h2]
theorem range_not (p:Nat→Bool) (n i:Nat) (hi:i < n) (h:p i=false):(List.range n).all p=false:=by
 rw [List.all_eq_false];exact ⟨i,List.mem_range.2 hi,by simp [h]⟩
theorem toI_bd {l cuts:List Int} (h:InR l cuts) {i:Nat} (hl:l≠[]) : -1≤toI l cuts i∧toI l cuts i < l.length:=by
 have hpos:=List.length_pos_iff.2 hl
 unfold toI
 split
 ·rename_i hi
  have:=h (i+1) hi
  omega
 ·omega
def ccE (f:List (List Cel)) (p:Int) (cuts:List Int):Int :=
 if firstE [chkField f,withE p 0 960000,countE cuts.length 801]≠0 then firstE [chkField f,withE p 0 960000,countE cuts.length 801]
 else if cutsE (crv f).length true (-1) cuts≠0 then cutsE (crv f).length true (-1) cuts
 else if provB (crv f) p cuts then 0 else 19
theorem c_CheckCertificate (f:List (List Cel)) (p:Int) (cuts:List Int) (hl:LenF f) (hcl:cuts.length < 1073741824):PC 57 [fld f,DV.int .i64 (p),iL cuts] (DV.int .i64 (ccE f p cuts)):=by
 have e0:((cuts.map (DV.int .i64)).length:Int)=cuts.length:=by simp
 refine pureCall_ofR dh57 rfl ?_
 conv=>whnf
 repeat' (first
  |(refine ⟨fun hg=>?_,fun hg=>?_⟩<;>first|contradiction|(conv=>whnf))
  |(refine Or.inl ?_;conv=>whnf)
  |(refine ⟨_,c_Curve _ hl,?_⟩;conv=>whnf)
  |(refine ⟨_,c_within ..,?_⟩;conv=>whnf)
  |(refine ⟨_,c_counted ..,?_⟩;conv=>whnf)
  |(refine ⟨_,c_first [_,_,_] (by simp),?_⟩;conv=>whnf)
  |(refine And.intro ?_ ?_;kernel_rfl;conv=>whnf))
 ·have hg:=of_decide_eq_true hg
  rw [curveS_e,e0] at hg ⊢
  exact int_eq (by rw [ccE,if_pos hg])
 ·have hg:=of_decide_eq_false hg
  rw [curveS_e,e0] at hg
  have h3:=firstE_cons (Classical.not_not.1 hg)
  have h4:=firstE_cons h3.2
  have hp:=withE_zero h4.1
  have hz:=h3.1
  have hF:=chkField_zero hz
  have hok:=crv_ok hF
  rw [curveS_l hz]
  have ec:ccE f p cuts=if cutsE (crv f).length true (-1) cuts≠0 then cutsE (crv f).length true (-1) cuts else if provB (crv f) p cuts then 0 else 19:=by rw [ccE,if_neg hg]
  rw [ec]
  clear ec hg h3 h4
  generalize crv f=L at *
  have hlen:=hok.1.1
  have hpos:=List.length_pos_iff.2 hok.2
  have e1:((L.map (DV.int .i64)).length:Int)=L.length:=by simp
  refine dwp_loopR (P:=Tryz.prog) (G:=GC) (k:=dk57_0) (b:=db57_0) (α:=Nat) (fun i=>[(1,DV.int .i64 (p)),(2,iL cuts),(7,iL L),(9,DV.int .i64 (befI cuts i)),(32,iL cuts),(33,.int .i64 (cuts.map (DV.int .i64)).length),(34,DV.int .i64 (i))]) (fun _=>[]) (fun i=>i≤cuts.length∧cutsE L.length true (-1) cuts=cutsE L.length (decide (i=0)) (befI cuts i) (cuts.drop i)) (fun i=>cuts.length - i) 0 ⟨rfl,rfl,rfl⟩ ⟨Nat.zero_le _,rfl⟩ ?_
  intro i ⟨h1,h2⟩
  conv=>whnf
  refine ⟨fun hb=>?_,fun hb=>?_⟩
  ·have hi:i < cuts.length:=by simpa using hb
   have hs:cutsE L.length true (-1) cuts=if cutStep L.length (decide (i=0)) (befI cuts i) (cuts.getD i 0)≠0 then cutStep L.length (decide (i=0)) (befI cuts i) (cuts.getD i 0) else cutsE L.length false (cuts.getD i 0) (cuts.drop (i+1)):=by rw [h2,drop_getD cuts i 0 hi];rfl
   have w1:IntKind.i64.wrap (((L.map (DV.int .i64)).length:Int) - 1)=(L.length:Int) - 1:=by rw [e1,wrap_W,W_in (by omega) (by omega)]
   clear hb
   conv=>whnf
   rw [getD_enc _ _ (i) 0 hi]
   refine ⟨idxA hi rfl,?_⟩
   conv=>whnf
   rw [w1]
   repeat' (first
    |(refine ⟨fun hg=>?_,fun hg=>?_⟩<;>first|contradiction|(conv=>whnf))
    |(refine Or.inl ?_;conv=>whnf)
    |(refine ⟨_,c_within ..,?_⟩;conv=>whnf)
    |(refine ⟨_,c_when ..,?_⟩;conv=>whnf)
    |(refine ⟨_,c_first [_,_] (by simp),?_⟩;conv=>whnf)
    |(refine And.intro ?_ ?_;kernel_rfl;conv=>whnf))
   all_goals (try rw [wrap_succ i (by omega)])
   all_goals first
    |(refine ⟨i+1,rfl,rfl,rfl,⟨hi,?_⟩,Nat.sub_lt_sub_left hi (Nat.lt_succ_self i)⟩;rw [hs];clear hs h2 h1;simp only [Bool.cond_true,Bool.cond_false,Bool.not_false,Bool.not_true,decide_eq_true_eq,decide_eq_false_iff_not,Int.natCast_eq_zero] at *;grind [cutStep,befI])
    |(refine int_eq ?_;rw [hs];clear hs h2 h1;simp only [Bool.cond_true,Bool.cond_false,Bool.not_false,Bool.not_true,decide_eq_true_eq,decide_eq_false_iff_not,Int.natCast_eq_zero] at *;grind [cutStep])
    |skip
  ·have hi:i=cuts.length:=by have:=of_decide_eq_false hb;rw [e0] at this;omega
   rw [hi,List.drop_length] at h2
   have hz2:cutsE L.length true (-1) cuts=0:=h2
   have hin:InR L cuts:=cutsE_in hz2
   rw [hz2,if_neg (by decide)]
   clear h2 h1 hb hi
   conv=>whnf
   refine dwp_loopR (P:=Tryz.prog) (G:=GC) (k:=dk57_1) (b:=db57_1) (α:=Nat) (fun i=>[(1,DV.int .i64 (p)),(2,iL cuts),(7,iL L),(63,iL cuts),(64,.int .i64 (cuts.map (DV.int .i64)).length),(65,DV.int .i64 (i))]) (fun _=>[]) (fun i=>i≤cuts.length∧(List.range i).all (provAt L p cuts)=true) (fun i=>cuts.length - i) 0 ⟨rfl,rfl,rfl⟩ ⟨Nat.zero_le _,rfl⟩ ?_
   intro i ⟨h1,h2⟩
   conv=>whnf
   refine ⟨fun hb=>?_,fun hb=>?_⟩
   ·have hi:i < cuts.length:=by simpa using hb
    have hci:=hin i hi
    obtain ⟨u,hu⟩:∃ u:Nat,(u:Int)=cuts.getD i 0:=⟨(cuts.getD i 0).toNat,by omega⟩
    have hu2:u < L.length:=by omega
    have hLu:=hok.1.at hu2
    have w1:IntKind.i64.wrap (((L.map (DV.int .i64)).length:Int) - 1)=(L.length:Int) - 1:=by rw [e1,wrap_W,W_in (by omega) (by omega)]
    have w2:IntKind.i64.wrap ((i:Int)+1)=((i+1:Nat):Int):=wrap_succ i (by omega)
    have hpa:provAt L p cuts i=!decide (p < L.getD u 0 * toI L cuts i):=by unfold provAt;rw [← hu,Int.toNat_natCast]
    have ht:=toI_bd hin (i:=i) hok.2
    have hmul:=mul_bd (a:=L.getD u 0) (b:=toI L cuts i) (A:=1200) (B:=1000) (by omega) (by omega) (by omega) (by omega)
    have w3:IntKind.i64.wrap (L.getD u 0 * toI L cuts i)=L.getD u 0 * toI L cuts i:=W_in (by omega) (by omega)
    clear hb
    conv=>whnf
    rw [getD_enc _ _ (i) 0 hi]
    refine ⟨idxA hi rfl,?_⟩
    conv=>whnf
    rw [w1,w2]
    refine ⟨fun hg=>?_,fun hg=>?_⟩
    ·have hi2:i+1 < cuts.length:=by have:=of_decide_eq_true hg;rw [e0] at this;omega
     have et:toI L cuts i=cuts.getD (i+1) 0 - 1:=by unfold toI;rw [if_pos hi2]
     have hc2:=hin (i+1) hi2
     clear hg
     conv=>whnf
     rw [w2]
     rw [getD_enc _ _ (i+1) 0 hi2]
     refine ⟨idxA hi2 rfl,?_⟩
     conv=>whnf
     rw [show IntKind.i64.wrap (cuts.getD (i+1) 0 - 1)=toI L cuts i by rw [et,wrap_W,W_in (by omega) (by omega)],← hu]
     rw [getD_enc _ _ (u) 0 hu2]
     refine ⟨idxA hu2 rfl,?_⟩
     conv=>whnf
     rw [w3]
     repeat' (first
      |(refine ⟨fun hg=>?_,fun hg=>?_⟩<;>first|contradiction|(conv=>whnf))
      |(refine Or.inl ?_;conv=>whnf)
      |(refine And.intro ?_ ?_;kernel_rfl;conv=>whnf))
     ·have hg:=of_decide_eq_true hg
      exact int_eq (by rw [if_neg];unfold provB;rw [range_not _ _ i hi (by rw [hpa,decide_eq_true hg];rfl)];decide)
     ·have hg:=of_decide_eq_false hg
      rw [w2]
      exact ⟨i+1,rfl,rfl,rfl,⟨hi,range_all _ i h2 (by rw [hpa,decide_eq_false hg];rfl)⟩,by omega⟩
    ·have hi2:¬ i+1 < cuts.length:=by have:=of_decide_eq_false hg;rw [e0] at this;omega
     have et:toI L cuts i=(L.length:Int) - 1:=by unfold toI;rw [if_neg hi2]
     clear hg
     conv=>whnf
     rw [← et,← hu]
     rw [getD_enc _ _ (u) 0 hu2]
     refine ⟨idxA hu2 rfl,?_⟩
     conv=>whnf
     rw [w3]
     repeat' (first
      |(refine ⟨fun hg=>?_,fun hg=>?_⟩<;>first|contradiction|(conv=>whnf))
      |(refine Or.inl ?_;conv=>whnf)
      |(refine And.intro ?_ ?_;kernel_rfl;conv=>whnf))
     ·have hg:=of_decide_eq_true hg
      exact int_eq (by rw [if_neg];unfold provB;rw [range_not _ _ i hi (by rw [hpa,decide_eq_true hg];rfl)];decide)
     ·have hg:=of_decide_eq_false hg
      rw [w2]
      exact ⟨i+1,rfl,rfl,rfl,⟨hi,range_all _ i h2 (by rw [hpa,decide_eq_false hg];rfl)⟩,by omega⟩
   ·have hi:i=cuts.length:=by have:=of_decide_eq_false hb;rw [e0] at this;omega
    conv=>whnf
    rw [hi] at h2
    exact int_eq (by rw [if_pos];exact h2)
end Sh

namespace Sh
open Go Go.Proofs
def clampL (x:Int):Int:=if (if 0 < x then x else 0) < 1000 then (if 0 < x then x else 0) else 1000
def litC (by_:Int) (c:Cel):Cel:={ c with li:=clampL (W (c.li+by_)) }
def litR (l:List Cel) (b:Int) (i:Nat):List DV:=rng l.length fun k=>encC (if k < i then litC b (l.getD k C0) else l.getD k C0)
theorem litR_len (l:List Cel) (b:Int) (i:Nat):(litR l b i).length=l.length:=rng_len _ _
theorem litR_get {l:List Cel} {b:Int} {i:Nat} (h:i < l.length):(litR l b i).getD i .undef=encC (l.getD i C0):=by
 unfold litR;rw [rng_getD _ _ h,if_neg (by omega)]
theorem litR_set (l:List Cel) (b:Int) (i:Nat):(litR l b i).set i (encC (litC b (l.getD i C0)))=litR l b (i+1):=by
 unfold litR
 rw [rng_set]
 refine rng_congr (fun k hk=>?_)
 (try dsimp only)
 by_cases e:k=i
 ·subst e;simp
 ·rw [if_neg e]
  by_cases e2:k < i
  ·rw [if_pos e2,if_pos (by omega)]
  ·rw [if_neg e2,if_neg (by omega)]
theorem map_rng {α β:Type} (f:α→β) (l:List α) (d:α):l.map f=rng l.length fun k=>f (l.getD k d):=by
 apply List.ext_getElem
 ·simp [rng]
 ·intro i h1 h2
  simp [rng,List.getD_eq_getElem?_getD,(by simpa using h1:i < l.length)]
theorem litR_zero (l:List Cel) (b:Int):l.map encC=litR l b 0:=by
 rw [map_rng encC l C0];unfold litR
 exact rng_congr (fun k hk=>by (try dsimp only);rw [if_neg (by omega)])
theorem litR_all (l:List Cel) (b:Int):litR l b l.length=(l.map (litC b)).map encC:=by
 rw [List.map_map,map_rng _ l C0];unfold litR
 exact rng_congr (fun k hk=>by (try dsimp only);rw [if_pos hk];rfl)
theorem c_lit1 (l:List Cel) (b:Int) (hl:l.length≤1000):PC 123 [chn l,.ip (DV.int .i64 (b))] (chn (l.map (litC b))):=by
 have e0:((l.map encC).length:Int)=l.length:=by simp
 refine pureCall_ofR dh123 rfl ?_
 conv=>whnf
 rw [e0]
 refine ⟨⟨by omega,by omega,by omega,rfl,rfl⟩,?_⟩
 rw [Int.toNat_natCast]
 conv=>whnf
 refine ⟨⟨by simp,fun e he=>by obtain ⟨c,_,rfl⟩:=List.mem_map.1 he;rfl⟩,?_⟩
 conv=>whnf
 have hrow:List.take 0 (List.replicate l.length (DV.agg [.full [],DV.int .i64 (0),DV.int .i64 (0)]))++List.take l.length (List.map encC l)++List.drop (0+min (List.map encC l).length l.length) (List.replicate l.length (DV.agg [.full [],DV.int .i64 (0),DV.int .i64 (0)]))=litR l b 0:=by
  rw [litR_zero l b,List.take_zero,List.nil_append,List.take_of_length_le (by rw [litR_len];exact Nat.le_refl _),List.drop_of_length_le (by simp [litR_len]),List.append_nil]
 rw [hrow]
 refine ⟨(litR_len _ _ _).symm,?_⟩
 conv=>whnf
 refine dwp_loopR (P:=Tryz.prog) (G:=GC) (k:=dk123_0) (b:=db123_0) (α:=Nat) (fun i=>[(1,.ip (DV.int .i64 (b))),(4,.own 8 0 l.length l.length),(13,DV.int .i64 (l.length)),(14,DV.int .i64 (i))]) (fun i=>[(8,.row 3 (litR l b i) false)]) (fun i=>i≤l.length) (fun i=>l.length - i) 0 ⟨rfl,rfl,rfl⟩ (Nat.zero_le _) ?_
 intro i h1
 conv=>whnf
 refine ⟨fun hb=>?_,fun hb=>?_⟩
 ·have hi:i < l.length:=by simpa using hb
  conv=>whnf
  refine ⟨⟨(litR_len _ _ _).symm,by omega,by omega⟩,?_⟩
  conv=>whnf
  rw [Int.toNat_natCast,Nat.zero_add]
  refine ⟨(litR_len _ _ _).symm,?_⟩
  conv=>whnf
  rw [litR_get hi]
  refine ⟨⟨(litR_len _ _ _).symm,by decide⟩,?_⟩
  conv=>whnf
  refine ⟨⟨(litR_len _ _ _).symm,by omega,by omega⟩,?_⟩
  conv=>whnf
  rw [Int.toNat_natCast,Nat.zero_add]
  refine ⟨(litR_len _ _ _).symm,?_⟩
  conv=>whnf
  refine ⟨⟨(litR_len _ _ _).symm,by decide,rfl⟩,?_⟩
  conv=>whnf
  refine ⟨by kernel_rfl,?_⟩
  conv=>whnf
  rw [wrap_succ i (by omega)]
  refine ⟨i+1,rfl,rfl,?_,hi,by omega⟩
  (try rw [litR_get hi])
  have hv:litR l b (i+1)=(litR l b i).set i (.agg [tbl (l.getD i C0).tb,DV.int .i64 (minmaxI false 1000 (minmaxI true 0 (IntKind.i64.wrap ((l.getD i C0).li+b)))),DV.int .i64 ((l.getD i C0).dr)]):=by
   rw [← litR_set];rfl
  rw [hv]
  rfl
 ·have hi:i=l.length:=by have:=of_decide_eq_false hb;omega
  conv=>whnf
  refine ⟨(litR_len _ _ _).symm,?_⟩
  show DV.list (window (litR l b i) 0 l.length)=_
  have:=window_full (litR l b i)
  rw [litR_len] at this
  rw [this,hi,litR_all];rfl
def litF (f:List (List Cel)) (b:Int):List (List Cel):=f.map fun l=>l.map (litC b)
def oX {α:Type} (g:α→List Cel) (l:List α) (i:Nat):List DV:=(l.take i).map fun c=>chn (g c)
theorem oX_len {α:Type} (g:α→List Cel) (l:List α) (i:Nat) (h:i≤l.length):(oX g l i).length=i:=by simp [oX];omega
theorem oX_succ {α:Type} (g:α→List Cel) (l:List α) (i:Nat) (d:α) (h:i < l.length):oX g l (i+1)=oX g l i++[chn (g (l.getD i d))]:=take_map_succ _ l i d h
theorem oX_all {α:Type} (g:α→List Cel) (l:List α):oX g l l.length=(l.map g).map chn:=by simp [oX]
theorem c_mappedC (l:List (List Cel)) (f:FuncId) (b:Int) (g:List Cel→List Cel) (hl:l.length < 1073741824) (hf:∀ c ∈ l,PC f [chn c,.ip (DV.int .i64 (b))] (chn (g c))):PC 122 [fld l,.func f [.ip (DV.int .i64 (b))]] (fld (l.map g)):=by
 refine pureCall_ofR dh122 rfl ?_
 conv=>whnf
 refine dwp_loopR (P:=Tryz.prog) (G:=GC) (k:=dk122_0) (b:=db122_0) (α:=Nat) (fun i=>[(1,.func f [.ip (DV.int .i64 (b))]),(5,.own 5 0 (oX g l i).length (oX g l i).length),(8,fld l),(9,.int .i64 (l.map chn).length),(10,DV.int .i64 (i))]) (fun i=>[(5,.row 1 (oX g l i) false)]) (fun i=>i≤l.length) (fun i=>l.length - i) 0 ⟨rfl,rfl,rfl⟩ (Nat.zero_le _) ?_
 intro i h1
 conv=>whnf
 refine ⟨fun hb=>?_,fun hb=>?_⟩
 ·have hi:i < l.length:=by simpa using hb
  conv=>whnf
  rw [getD_enc _ _ (i) [] hi]
  refine ⟨idxA hi rfl,?_⟩
  conv=>whnf
  refine .inl ?_
  conv=>whnf
  refine ⟨_,hf _ (getD_in [] hi),?_⟩
  conv=>whnf
  refine ⟨⟨rfl,rfl,rfl,by rw [oX_len g l i h1];simp;omega,fun e he=>by simp at he;subst he;rfl⟩,?_⟩
  conv=>whnf
  rw [wrap_succ i (by omega)]
  refine ⟨i+1,rfl,?_,?_,hi,by omega⟩
  ·rw [oX_succ g l i [] hi];rfl
  ·rw [oX_succ g l i [] hi];rfl
 ·have hi:i=l.length:=by have:=of_decide_eq_false hb;simp at this;omega
  conv=>whnf
  exact ⟨rfl,by rw [window_full,hi,oX_all];rfl⟩
theorem c_lit (f:List (List Cel)) (b:Int) (hl:f.length < 1073741824) (hc:∀ l ∈ f,l.length≤1000):PC 99 [fld f,DV.int .i64 (b)] (fld (litF f b)):=by
 refine pureCall_ofR dh99 rfl ?_
 conv=>whnf
 repeat' (first
  |(refine ⟨fun hg=>?_,fun hg=>?_⟩<;>first|contradiction|(conv=>whnf))
  |(refine Or.inl ?_;conv=>whnf)
  |(refine ⟨_,c_mappedC f 123 b (fun l=>l.map (litC b)) hl (fun l h=>c_lit1 l b (hc l h)),?_⟩;conv=>whnf)
  |(refine And.intro ?_ ?_;kernel_rfl;conv=>whnf))
 rfl
theorem clampL_bd (x:Int):0≤clampL x∧clampL x≤1000:=by unfold clampL;split<;>split<;>omega
theorem OkF.lit {f:List (List Cel)} (h:OkF f) (b:Int):OkF (litF f b):=by
 refine ⟨by simpa [litF] using h.1,by simpa [litF] using h.2.1,fun l hl=>?_⟩
 obtain ⟨m,hm,rfl⟩:=List.mem_map.1 hl
 have:=h.2.2 m hm
 refine ⟨by simpa using this.1,by simpa using this.2.1,fun c hc=>?_⟩
 obtain ⟨d,hd,rfl⟩:=List.mem_map.1 hc
 have hd:=this.2.2 d hd
 exact ⟨hd.1,(clampL_bd _).1,(clampL_bd _).2,hd.2.2.2⟩
def bndS (f:List (List Cel)) (v e:Int):(Int×Int)×Int :=
 if firstE [chkField f,withE v 0 800,withE e 0 1000]≠0 then ((0,0),firstE [chkField f,withE v 0 800,withE e 0 1000]) else ((curF (litF f (-e)) v,curF (litF f e) v),0)
theorem c_Bounds (f:List (List Cel)) (v e:Int) (hl:LenF f):PC 51 [fld f,DV.int .i64 (v),DV.int .i64 (e)] (.tuple [.agg [DV.int .i64 ((bndS f v e).1.1),DV.int .i64 ((bndS f v e).1.2)],DV.int .i64 ((bndS f v e).2)]):=by
 refine pureCall_ofR dh51 rfl ?_
 conv=>whnf
 repeat' (first
  |(refine ⟨fun hg=>?_,fun hg=>?_⟩<;>first|contradiction|(conv=>whnf))
  |(refine Or.inl ?_;conv=>whnf)
  |(refine ⟨_,c_CheckField _ hl.1 hl.2,?_⟩;conv=>whnf)
  |(refine ⟨_,c_checkVolt ..,?_⟩;conv=>whnf)
  |(refine ⟨_,c_within ..,?_⟩;conv=>whnf)
  |(refine ⟨_,c_first [_,_,_] (by simp),?_⟩;conv=>whnf)
  |(refine And.intro ?_ ?_;kernel_rfl;conv=>whnf))
 ·have hg:=of_decide_eq_true hg
  show DV.tuple [_,_]=_
  rw [bndS,if_pos hg]
 ·have hg:=of_decide_eq_false hg
  have hz:=Classical.not_not.1 hg
  obtain ⟨z1,hz⟩:=firstE_cons hz
  obtain ⟨z2,hz⟩:=firstE_cons hz
  obtain ⟨z3,hz⟩:=firstE_cons hz
  have hv:=withE_zero z2
  have he:=withE_zero z3
  have hok:=chkField_zero z1
  obtain ⟨u,rfl⟩:=Int.eq_ofNat_of_zero_le hv.1
  have hcur:=fun b=>c_curve (litF f b) (hok.lit b) (u+1) (by omega) (by omega)
  simp only [show ((u+1:Nat):Int) - 1=(u:Int) by omega] at hcur
  rw [show IntKind.i64.wrap (-e) = -e by rw [wrap_W,W_in (by omega) (by omega)]]
  have h1000:∀ l ∈ f,l.length≤1000:=fun l h=>by have:=(hok.2.2 l h).2.1;omega
  repeat' (first
   |(refine ⟨fun hg=>?_,fun hg=>?_⟩<;>first|contradiction|(conv=>whnf))
   |(refine Or.inl ?_;conv=>whnf)
   |(refine ⟨_,c_lit _ _ hl.1 h1000,?_⟩;conv=>whnf)
   |(refine ⟨_,hcur _,?_⟩;conv=>whnf)
   |(refine And.intro ?_ ?_;kernel_rfl;conv=>whnf))
  have hu:∀ b,u < (rng (u+1) fun v=>curF (litF f b) v).length:=fun b=>by rw [rng_len];omega
  rw [getD_enc _ _ (u) 0 (hu _)]
  refine ⟨idxA (hu _) rfl,?_⟩
  conv=>whnf
  repeat' (first
   |(refine ⟨fun hg=>?_,fun hg=>?_⟩<;>first|contradiction|(conv=>whnf))
   |(refine Or.inl ?_;conv=>whnf)
   |(refine ⟨_,c_lit _ _ hl.1 h1000,?_⟩;conv=>whnf)
   |(refine ⟨_,hcur _,?_⟩;conv=>whnf)
   |(refine And.intro ?_ ?_;kernel_rfl;conv=>whnf))
  rw [getD_enc _ _ (u) 0 (hu _)]
  refine ⟨idxA (hu _) rfl,?_⟩
  conv=>whnf
  repeat' (first
   |(refine ⟨fun hg=>?_,fun hg=>?_⟩<;>first|contradiction|(conv=>whnf))
   |(refine Or.inl ?_;conv=>whnf)
   |(refine And.intro ?_ ?_;kernel_rfl;conv=>whnf))
  show DV.tuple [_,_]=_
  rw [bndS,if_neg hg,rng_getD _ _ (by omega:u < u+1),rng_getD _ _ (by omega:u < u+1)]
end Sh

namespace Sh
open Go Go.Proofs
theorem c_mappedI (l:List Int) (f:FuncId) (g:Int→Int) (hl:l.length < 1073741824) (hf:∀ c ∈ l,PC f [DV.int .i64 (c)] (DV.int .i64 (g c))):PC 136 [iL l,.func f []] (iL (l.map g)):=by
 refine pureCall_ofR dh136 rfl ?_
 conv=>whnf
 refine dwp_loopR (P:=Tryz.prog) (G:=GC) (k:=dk136_0) (b:=db136_0) (α:=Nat) (fun i=>[(1,.func f []),(5,.own 5 0 (oI g l i).length (oI g l i).length),(8,iL l),(9,.int .i64 (l.map (DV.int .i64)).length),(10,DV.int .i64 (i))]) (fun i=>[(5,.row 1 (oI g l i) false)]) (fun i=>i≤l.length) (fun i=>l.length - i) 0 ⟨rfl,rfl,rfl⟩ (Nat.zero_le _) ?_
 intro i h1
 conv=>whnf
 refine ⟨fun hb=>?_,fun hb=>?_⟩
 ·have hi:i < l.length:=by simpa using hb
  conv=>whnf
  rw [getD_enc _ _ (i) 0 hi]
  refine ⟨idxA hi rfl,?_⟩
  conv=>whnf
  refine .inl ?_
  conv=>whnf
  refine ⟨_,hf _ (getD_in 0 hi),?_⟩
  conv=>whnf
  refine ⟨⟨rfl,rfl,rfl,by rw [oI_len g l i h1];simp;omega,fun e he=>by simp at he;subst he;rfl⟩,?_⟩
  conv=>whnf
  rw [wrap_succ i (by omega)]
  refine ⟨i+1,rfl,?_,?_,hi,by omega⟩
  ·rw [oI_succ g l i 0 hi];rfl
  ·rw [oI_succ g l i 0 hi];rfl
 ·have hi:i=l.length:=by have:=of_decide_eq_false hb;simp at this;omega
  conv=>whnf
  exact ⟨rfl,by rw [window_full,hi,oI_all];rfl⟩
theorem c_checkCurrents1 (n:Int):PC 137 [DV.int .i64 (n)] (DV.int .i64 (withE n 0 1200)):=by
 refine pureCall_ofR dh137 rfl ?_
 conv=>whnf
 repeat' (first
  |(refine ⟨fun hg=>?_,fun hg=>?_⟩<;>first|contradiction|(conv=>whnf))
  |(refine Or.inl ?_;conv=>whnf)
  |(refine ⟨_,c_within ..,?_⟩;conv=>whnf)
  |(refine And.intro ?_ ?_;kernel_rfl;conv=>whnf))
 rfl
def chkCur (l:List Int):Int:=firstE (l.map fun n=>withE n 0 1200)
theorem c_checkCurrents (l:List Int) (hl:l.length < 1073741824):PC 113 [iL l] (DV.int .i64 (chkCur l)):=by
 refine pureCall_ofR dh113 rfl ?_
 conv=>whnf
 repeat' (first
  |(refine ⟨fun hg=>?_,fun hg=>?_⟩<;>first|contradiction|(conv=>whnf))
  |(refine Or.inl ?_;conv=>whnf)
  |(refine ⟨_,c_mappedI l 137 (fun n=>withE n 0 1200) hl (fun c _=>c_checkCurrents1 c),?_⟩;conv=>whnf)
  |(refine ⟨_,c_first _ (by simp;omega),?_⟩;conv=>whnf)
  |(refine And.intro ?_ ?_;kernel_rfl;conv=>whnf))
 rfl
theorem slices_Equal (a b:List Int) (hl:a.length < 4611686018427387904):PC 191 [iL a,iL b] (.bool (decide (a=b))):=by
 have e0:((a.map (DV.int .i64)).length:Int)=a.length:=by simp
 have e1:((b.map (DV.int .i64)).length:Int)=b.length:=by simp
 refine pureCall_ofR dh191 rfl ?_
 conv=>whnf
 refine ⟨fun hg=>?_,fun hg=>?_⟩
 ·have hg:=of_decide_eq_true hg
  rw [e0,e1] at hg
  exact bool_eq (by symm;rw [decide_eq_false_iff_not];intro e;rw [e] at hg;exact hg rfl)
 ·have hg:=of_decide_eq_false hg
  rw [e0,e1] at hg
  have hab:a.length=b.length:=by omega
  conv=>whnf
  refine dwp_loopR (P:=Tryz.prog) (G:=GC) (k:=dk191_0) (b:=db191_0) (α:=Nat) (fun i=>[(0,iL a),(1,iL b),(12,.int .i64 (a.map (DV.int .i64)).length),(13,DV.int .i64 (i))]) (fun _=>[]) (fun i=>i≤a.length∧a.take i=b.take i) (fun i=>a.length - i) 0 ⟨rfl,rfl,rfl⟩ ⟨Nat.zero_le _,rfl⟩ ?_
  intro i ⟨h1,h2⟩
  conv=>whnf
  refine ⟨fun hb=>?_,fun hb=>?_⟩
  ·have hi:i < a.length:=by simpa using hb
   conv=>whnf
   rw [getD_enc _ _ (i) 0 hi]
   refine ⟨idxA hi rfl,?_⟩
   conv=>whnf
   rw [getD_enc _ _ (i) 0 (by omega:i < b.length)]
   refine ⟨idxA (by omega:i < b.length) rfl,?_⟩
   conv=>whnf
   repeat' (first
    |(refine ⟨fun hg=>?_,fun hg=>?_⟩<;>first|contradiction|(conv=>whnf))
    |(refine Or.inl ?_;conv=>whnf)
    |(refine And.intro ?_ ?_;kernel_rfl;conv=>whnf))
   ·have hg:=of_decide_eq_true hg
    exact bool_eq (by symm;rw [decide_eq_false_iff_not];intro e;rw [e] at hg;exact hg rfl)
   ·have hg:=Classical.not_not.1 (of_decide_eq_false hg)
    rw [wrap_succ i (by omega)]
    exact ⟨i+1,rfl,rfl,rfl,⟨hi,by rw [take_snoc a i 0 hi,take_snoc b i 0 (by omega),h2,hg]⟩,by omega⟩
  ·have hi:i=a.length:=by have:=of_decide_eq_false hb;rw [e0] at this;omega
   conv=>whnf
   refine bool_eq ?_
   symm
   rw [decide_eq_true_eq]
   rw [hi,List.take_length,hab,List.take_length] at h2
   exact h2
def moreG (a b:List Int):Nat→Nat→Bool
 |0,_=>false
 |k+1,i=>if b.getD i 0 > a.getD i 0 then true else moreG a b k (i+1)
def moreB (a b:List Int):Bool:=moreG a b b.length 0
theorem c_words2 (a b:List Int) (hab:b.length=a.length) (hl:a.length < 1073741824):PC 192 [iL a,iL b] (.bool (moreB a b)):=by
 have e1:((b.map (DV.int .i64)).length:Int)=b.length:=by simp
 refine pureCall_ofR dh192 rfl ?_
 conv=>whnf
 refine dwp_loopR (P:=Tryz.prog) (G:=GC) (k:=dk192_0) (b:=db192_0) (α:=Nat) (fun i=>[(0,iL a),(7,iL b),(8,.int .i64 (b.map (DV.int .i64)).length),(9,DV.int .i64 (i))]) (fun _=>[]) (fun i=>i≤b.length∧moreB a b=moreG a b (b.length - i) i) (fun i=>b.length - i) 0 ⟨rfl,rfl,rfl⟩ ⟨Nat.zero_le _,rfl⟩ ?_
 intro i ⟨h1,h2⟩
 conv=>whnf
 refine ⟨fun hb=>?_,fun hb=>?_⟩
 ·have hi:i < b.length:=by simpa using hb
  rw [show b.length - i=(b.length - (i+1))+1 by omega,moreG] at h2
  conv=>whnf
  rw [getD_enc _ _ (i) 0 hi]
  refine ⟨idxA hi rfl,?_⟩
  conv=>whnf
  rw [getD_enc _ _ (i) 0 (by omega:i < a.length)]
  refine ⟨idxA (by omega:i < a.length) rfl,?_⟩
  conv=>whnf
  repeat' (first
   |(refine ⟨fun hg=>?_,fun hg=>?_⟩<;>first|contradiction|(conv=>whnf))
   |(refine Or.inl ?_;conv=>whnf)
   |(refine And.intro ?_ ?_;kernel_rfl;conv=>whnf))
  ·have hg:=of_decide_eq_true hg
   exact bool_eq (by rw [h2,if_pos hg])
  ·have hg:=of_decide_eq_false hg
   rw [wrap_succ i (by omega)]
   exact ⟨i+1,rfl,rfl,rfl,⟨hi,by rw [h2,if_neg hg]⟩,by omega⟩
 ·have hi:i=b.length:=by have:=of_decide_eq_false hb;rw [e1] at this;omega
  conv=>whnf
  refine bool_eq ?_
  rw [h2,hi,Nat.sub_self];rfl
theorem c_words1 (a b:List Int) (hl:a.length < 4611686018427387904):PC 190 [iL a,iL b] (.bool (decide (a=b))):=by
 refine pureCall_ofR dh190 rfl ?_
 conv=>whnf
 repeat' (first
  |(refine ⟨fun hg=>?_,fun hg=>?_⟩<;>first|contradiction|(conv=>whnf))
  |(refine Or.inl ?_;conv=>whnf)
  |(refine ⟨_,slices_Equal _ _ hl,?_⟩;conv=>whnf)
  |(refine And.intro ?_ ?_;kernel_rfl;conv=>whnf))
 rfl
theorem c_words3 (a b:List Int) (h0:b≠[]) (hp:0≤b.getD 0 0) (hl:b.length < 1073741824):PC 193 [iL a,iL b] (.bool (decide (mxL b=0))):=by
 refine pureCall_ofR dh193 rfl ?_
 conv=>whnf
 repeat' (first
  |(refine ⟨fun hg=>?_,fun hg=>?_⟩<;>first|contradiction|(conv=>whnf))
  |(refine Or.inl ?_;conv=>whnf)
  |(refine ⟨_,slices_Max b h0 hp hl,?_⟩;conv=>whnf)
  |(refine And.intro ?_ ?_;kernel_rfl;conv=>whnf))
 rfl
theorem c_words4 (a b:List Int) (ha:0 < a.length) (hb:0 < b.length):PC 194 [iL a,iL b] (.bool (decide (b.getD 0 0 < a.getD 0 0))):=by
 refine pureCall_ofR dh194 rfl ?_
 conv=>whnf
 rw [getD_enc' _ _ (0) 0 (by decide) (by omega:(0:Int) < b.length)]
 refine ⟨idxB (by decide) (by omega:(0:Int) < b.length) rfl,?_⟩
 conv=>whnf
 rw [getD_enc' _ _ (0) 0 (by decide) (by omega:(0:Int) < a.length)]
 refine ⟨idxB (by decide) (by omega:(0:Int) < a.length) rfl,?_⟩
 conv=>whnf
 repeat' (first
  |(refine ⟨fun hg=>?_,fun hg=>?_⟩<;>first|contradiction|(conv=>whnf))
  |(refine Or.inl ?_;conv=>whnf)
  |(refine And.intro ?_ ?_;kernel_rfl;conv=>whnf))
 rfl
theorem c_words5 (a b:List Int):PC 195 [iL a,iL b] (.bool true):=by
 refine pureCall_ofR dh195 rfl ?_
 conv=>whnf
 rfl
end Sh

namespace Sh
open Go Go.Proofs
def wdE (w:List UInt8×FuncId):DV:=.agg [.str w.1,.func w.2 []]
def W0:List UInt8×FuncId:=([],0)
def wds:List (List UInt8×FuncId):=[([115,97,109,101],190),([109,111,114,101],192),([111,112,101,110],193),([100,97,114,107],194),([98,121,112,97,115,115,101,100],195)]
def idxG {α:Type} (p:α→Bool):Int→List α→Int
 |_,[] => -1
 |i,x :: r=>if p x then i else idxG p (i+1) r
theorem c_Shape1 (a b:List Int) (w:List UInt8) (f:FuncId) (r:Bool) (h:PC f [iL a,iL b] (.bool r)):PC 115 [.agg [.str w,.func f []],.ip (iL a),.ip (iL b)] (.bool r):=by
 refine pureCall_ofR dh115 rfl ?_
 conv=>whnf
 repeat' (first
  |(refine ⟨fun hg=>?_,fun hg=>?_⟩<;>first|contradiction|(conv=>whnf))
  |(refine Or.inl ?_;conv=>whnf)
  |(refine ⟨_,h ..,?_⟩;conv=>whnf)
  |(refine And.intro ?_ ?_;kernel_rfl;conv=>whnf))
 rfl
theorem slices_IndexFunc (l:List (List UInt8×FuncId)) (f:FuncId) (a b:List Int) (p:List UInt8×FuncId→Bool) (hl:l.length < 1073741824) (hf:∀ w ∈ l,PC f [wdE w,.ip (iL a),.ip (iL b)] (.bool (p w))) :
  PC 114 [.list (l.map wdE),.func f [.ip (iL a),.ip (iL b)]] (DV.int .i64 (idxG p 0 l)):=by
 have e0:((l.map wdE).length:Int)=l.length:=by simp
 refine pureCall_ofR dh114 rfl ?_
 conv=>whnf
 refine dwp_loopR (P:=Tryz.prog) (G:=GC) (k:=dk114_0) (b:=db114_0) (α:=Nat) (fun i=>[(0,.list (l.map wdE)),(1,.func f [.ip (iL a),.ip (iL b)]),(7,.int .i64 (l.map wdE).length),(8,DV.int .i64 (i))]) (fun _=>[]) (fun i=>i≤l.length∧idxG p 0 l=idxG p i (l.drop i)) (fun i=>l.length - i) 0 ⟨rfl,rfl,rfl⟩ ⟨Nat.zero_le _,rfl⟩ ?_
 intro i ⟨h1,h2⟩
 conv=>whnf
 refine ⟨fun hb=>?_,fun hb=>?_⟩
 ·have hi:i < l.length:=by simpa using hb
  rw [drop_getD l i W0 hi,idxG] at h2
  conv=>whnf
  rw [getD_enc _ _ (i) W0 hi]
  refine ⟨idxA hi rfl,?_⟩
  conv=>whnf
  repeat' (first
   |(refine ⟨fun hg=>?_,fun hg=>?_⟩<;>first|contradiction|(conv=>whnf))
   |(refine Or.inl ?_;conv=>whnf)
   |(refine ⟨_,hf _ (getD_in W0 hi),?_⟩;conv=>whnf)
   |(refine And.intro ?_ ?_;kernel_rfl;conv=>whnf))
  ·rw [hg,if_pos rfl] at h2
   exact int_eq h2.symm
  ·rw [hg,if_neg (by decide)] at h2
   rw [wrap_succ i (by omega)]
   exact ⟨i+1,rfl,rfl,rfl,⟨hi,h2⟩,by omega⟩
 ·have hi:i=l.length:=by have:=of_decide_eq_false hb;rw [e0] at this;omega
  conv=>whnf
  refine int_eq ?_
  rw [h2,hi,List.drop_length];rfl
def wdP (a b:List Int) (w:List UInt8×FuncId):Bool :=
 if w.2=190 then decide (a=b) else if w.2=192 then moreB a b else if w.2=193 then decide (mxL b=0) else if w.2=194 then decide (b.getD 0 0 < a.getD 0 0) else true
def shE (a b:List Int):Int:=firstE [countE a.length 801,chkCur a,whenE (decide ((b.length:Int)≠a.length)) 2,chkCur b]
def shI (a b:List Int):Int:=idxG (wdP a b) 0 wds
def shpS (a b:List Int):List UInt8×Int:=if shE a b≠0 then ([],shE a b) else ((wds.getD (shI a b).toNat W0).1,0)
theorem idx5 {α:Type} (p:α→Bool) (a b c d e:α) (h:p e=true):0≤idxG p 0 [a,b,c,d,e]∧idxG p 0 [a,b,c,d,e] < 5:=by
 simp only [idxG,h,if_true]
 repeat' split
 all_goals (constructor<;>omega)
theorem shI_bd (a b:List Int):0≤shI a b∧shI a b < 5:=idx5 _ _ _ _ _ _ rfl
theorem shE_ok {a b:List Int} (h:shE a b=0):0 < a.length∧a.length≤801∧b.length=a.length∧∀ x ∈ b,0≤x:=by
 obtain ⟨h1,h⟩:=firstE_cons h
 obtain ⟨_,h⟩:=firstE_cons h
 obtain ⟨h3,h⟩:=firstE_cons h
 obtain ⟨h4,_⟩:=firstE_cons h
 have h1:=countE_zero h1
 refine ⟨by omega,by omega,?_,fun x hx=>?_⟩
 ·unfold whenE at h3
  split at h3
  ·exact absurd h3 (by decide)
  ·rename_i h;have:=Classical.not_not.1 (of_decide_eq_false (by simpa using h));omega
 ·have:=firstE_mem h4 (withE x 0 1200) (List.mem_map.2 ⟨x,hx,rfl⟩)
  exact (withE_zero this).1
theorem wds_ok (a b:List Int) (h:shE a b=0):∀ w ∈ wds,PC 115 [wdE w,.ip (iL a),.ip (iL b)] (.bool (wdP a b w)):=by
 obtain ⟨h1,h2,h3,h4⟩:=shE_ok h
 have hb0:b≠[]:=by intro e;rw [e] at h3;simp at h3;omega
 have hp:0≤b.getD 0 0:=h4 _ (getD_in 0 (by omega))
 intro w hw
 simp only [wds,List.mem_cons,List.not_mem_nil,or_false] at hw
 rcases hw with rfl|rfl|rfl|rfl|rfl
 ·exact c_Shape1 a b _ _ _ (c_words1 a b (by omega))
 ·exact c_Shape1 a b _ _ _ (c_words2 a b h3 (by omega))
 ·exact c_Shape1 a b _ _ _ (c_words3 a b hb0 hp (by omega))
 ·exact c_Shape1 a b _ _ _ (c_words4 a b h1 (by omega))
 ·exact c_Shape1 a b _ _ _ (c_words5 a b)
theorem c_Shape (a b:List Int) (ha:a.length < 1073741824) (hb:b.length < 1073741824):PC 77 [iL a,iL b] (.tuple [.str (shpS a b).1,DV.int .i64 ((shpS a b).2)]):=by
 have e0:((a.map (DV.int .i64)).length:Int)=a.length:=by simp
 have e1:((b.map (DV.int .i64)).length:Int)=b.length:=by simp
 refine pureCall_ofR dh77 rfl ?_
 conv=>whnf
 repeat' (first
  |(refine ⟨fun hg=>?_,fun hg=>?_⟩<;>first|contradiction|(conv=>whnf))
  |(refine Or.inl ?_;conv=>whnf)
  |(refine ⟨_,c_counted ..,?_⟩;conv=>whnf)
  |(refine ⟨_,c_checkCurrents _ ha,?_⟩;conv=>whnf)
  |(refine ⟨_,c_when ..,?_⟩;conv=>whnf)
  |(refine ⟨_,c_checkCurrents _ hb,?_⟩;conv=>whnf)
  |(refine ⟨_,c_first [_,_,_,_] (by simp),?_⟩;conv=>whnf)
  |(refine And.intro ?_ ?_;kernel_rfl;conv=>whnf))
 ·have hg:=of_decide_eq_true hg
  rw [e0,e1] at hg ⊢
  show DV.tuple [_,_]=_
  rw [shpS,shE,if_pos hg]
  (try rfl)
 ·have hg:=of_decide_eq_false hg
  rw [e0,e1] at hg
  have hz:shE a b=0:=Classical.not_not.1 hg
  refine ⟨⟨rfl,by kernel_rfl⟩,?_⟩
  conv=>whnf
  have hw:=slices_IndexFunc wds 115 a b (wdP a b) (by decide) (wds_ok a b hz)
  have hI:=shI_bd a b
  repeat' (first
   |(refine ⟨fun hg=>?_,fun hg=>?_⟩<;>first|contradiction|(conv=>whnf))
   |(refine Or.inl ?_;conv=>whnf)
   |(refine ⟨_,hw ..,?_⟩;conv=>whnf)
   |(refine And.intro ?_ ?_;kernel_rfl;conv=>whnf))
  have hS:shpS a b=((wds.getD (idxG (wdP a b) 0 wds).toNat W0).1,0):=by rw [shpS,if_neg (by rw [hz];decide)];rfl
  have h5:idxG (wdP a b) 0 wds=0∨idxG (wdP a b) 0 wds=1∨idxG (wdP a b) 0 wds=2∨idxG (wdP a b) 0 wds=3∨idxG (wdP a b) 0 wds=4:=by unfold shI at hI;omega
  clear hw hI
  rw [hS]
  generalize idxG (wdP a b) 0 wds=q at h5
  rcases h5 with rfl|rfl|rfl|rfl|rfl
  all_goals (refine ⟨⟨by decide,by decide,rfl,rfl⟩,?_⟩;conv=>whnf)
  all_goals rfl
end Sh

namespace Go.Proofs
open Go.Shelf
def Tryz.laysM171_ren:Go.Shelf.Ren:=⟨fun|171=>105|243=>130|246=>143|283=>152|284=>153|285=>154|286=>155|129=>162|317=>161|318=>163|319=>164|320=>165|337=>170|338=>171|n=>n,fun|3=>3|9=>9|2=>2|4=>4|171=>202|0=>0|53=>203|37=>179|5=>5|173=>206|212=>212|51=>213|20=>20|213=>214|46=>215|232=>224|233=>225|n=>n,fun|17=>2|18=>5|19=>6|n=>n⟩
theorem Tryz.laysM171:Go.Proofs.LaysM.n171 Tryz.prog Tryz.laysM171_ren:={
 mixed:=by kernel_rfl
 f129:=Tryz.func162.trans (congrArg some (by kernel_rfl))
 f171:=Tryz.func105.trans (congrArg some (by kernel_rfl))
 f243:=Tryz.func130.trans (congrArg some (by kernel_rfl))
 f246:=Tryz.func143.trans (congrArg some (by kernel_rfl))
 f283:=Tryz.func152.trans (congrArg some (by kernel_rfl))
 f284:=Tryz.func153.trans (congrArg some (by kernel_rfl))
 f285:=Tryz.func154.trans (congrArg some (by kernel_rfl))
 f286:=Tryz.func155.trans (congrArg some (by kernel_rfl))
 f317:=Tryz.func161.trans (congrArg some (by kernel_rfl))
 f318:=Tryz.func163.trans (congrArg some (by kernel_rfl))
 f319:=Tryz.func164.trans (congrArg some (by kernel_rfl))
 f320:=Tryz.func165.trans (congrArg some (by kernel_rfl))
 f337:=Tryz.func170.trans (congrArg some (by kernel_rfl))
 f338:=Tryz.func171.trans (congrArg some (by kernel_rfl))
 t0:=Tryz.underlying0
 a0:=Tryz.isAgg0
 z0:=Tryz.sizeOf0
 v0:=Tryz.zeroValue0
 t2:=Tryz.underlying2
 a2:=Tryz.isAgg2
 z2:=Tryz.sizeOf2
 v2:=Tryz.zeroValue2
 t3:=Tryz.underlying3
 a3:=Tryz.isAgg3
 z3:=Tryz.sizeOf3
 v3:=Tryz.zeroValue3
 t4:=Tryz.underlying4
 a4:=Tryz.isAgg4
 z4:=Tryz.sizeOf4
 v4:=Tryz.zeroValue4
 t5:=Tryz.underlying5
 a5:=Tryz.isAgg5
 z5:=Tryz.sizeOf5
 v5:=Tryz.zeroValue5
 t9:=Tryz.underlying9
 a9:=Tryz.isAgg9
 z9:=Tryz.sizeOf9
 v9:=Tryz.zeroValue9
 t20:=Tryz.underlying20
 a20:=Tryz.isAgg20
 z20:=Tryz.sizeOf20
 v20:=Tryz.zeroValue20
 t37:=Tryz.underlying179
 a37:=Tryz.isAgg179
 z37:=Tryz.sizeOf179
 v37:=Tryz.zeroValue179
 t46:=Tryz.underlying215
 a46:=Tryz.isAgg215
 z46:=Tryz.sizeOf215
 v46:=Tryz.zeroValue215
 t51:=Tryz.underlying213
 a51:=Tryz.isAgg213
 z51:=Tryz.sizeOf213
 v51:=Tryz.zeroValue213
 t53:=Tryz.underlying203
 a53:=Tryz.isAgg203
 z53:=Tryz.sizeOf203
 v53:=Tryz.zeroValue203
 t171:=Tryz.underlying202
 a171:=Tryz.isAgg202
 z171:=Tryz.sizeOf202
 v171:=Tryz.zeroValue202
 t173:=Tryz.underlying206
 a173:=Tryz.isAgg206
 z173:=Tryz.sizeOf206
 v173:=Tryz.zeroValue206
 t212:=Tryz.underlying212
 a212:=Tryz.isAgg212
 z212:=Tryz.sizeOf212
 v212:=Tryz.zeroValue212
 t213:=Tryz.underlying214
 a213:=Tryz.isAgg214
 z213:=Tryz.sizeOf214
 t232:=Tryz.underlying224
 a232:=Tryz.isAgg224
 z232:=Tryz.sizeOf224
 v232:=Tryz.zeroValue224
 t233:=Tryz.underlying225
 a233:=Tryz.isAgg225
 z233:=Tryz.sizeOf225
 v233:=Tryz.zeroValue225
 g17:=by kernel_rfl
 g18:=by kernel_rfl
 g19:=by kernel_rfl
 i0:=by kernel_rfl
 i2:=by kernel_rfl
 i3:=by kernel_rfl
 i4:=by kernel_rfl
 i5:=by kernel_rfl
 i9:=by kernel_rfl
 i20:=by kernel_rfl
 i37:=by kernel_rfl
 i46:=by kernel_rfl
 i51:=by kernel_rfl
 i53:=by kernel_rfl
 i171:=by kernel_rfl
 i173:=by kernel_rfl
 i212:=by kernel_rfl
 i232:=by kernel_rfl
 i233:=by kernel_rfl
 m17:=by kernel_rfl
 m18:=by kernel_rfl
 m19:=by kernel_rfl }
def Tryz.lays156_ren:Go.Shelf.Ren:=⟨fun|156=>103|165=>127|166=>128|169=>129|240=>141|241=>142|276=>150|277=>151|n=>n,fun|31=>109|9=>9|3=>3|4=>4|0=>0|20=>20|72=>181|76=>185|70=>178|37=>179|75=>184|127=>193|164=>199|5=>5|80=>187|n=>n,fun|n=>n⟩
theorem Tryz.lays156:Go.Proofs.Lays.n156 Tryz.prog Tryz.lays156_ren:={
 mixed:=by kernel_rfl
 f156:=Tryz.func103.trans (congrArg some (by kernel_rfl))
 f165:=Tryz.func127.trans (congrArg some (by kernel_rfl))
 f166:=Tryz.func128.trans (congrArg some (by kernel_rfl))
 f169:=Tryz.func129.trans (congrArg some (by kernel_rfl))
 f240:=Tryz.func141.trans (congrArg some (by kernel_rfl))
 f241:=Tryz.func142.trans (congrArg some (by kernel_rfl))
 f276:=Tryz.func150.trans (congrArg some (by kernel_rfl))
 f277:=Tryz.func151.trans (congrArg some (by kernel_rfl))
 t0:=Tryz.underlying0
 a0:=Tryz.isAgg0
 z0:=Tryz.sizeOf0
 v0:=Tryz.zeroValue0
 t3:=Tryz.underlying3
 a3:=Tryz.isAgg3
 z3:=Tryz.sizeOf3
 v3:=Tryz.zeroValue3
 t4:=Tryz.underlying4
 a4:=Tryz.isAgg4
 z4:=Tryz.sizeOf4
 v4:=Tryz.zeroValue4
 t9:=Tryz.underlying9
 a9:=Tryz.isAgg9
 z9:=Tryz.sizeOf9
 v9:=Tryz.zeroValue9
 t20:=Tryz.underlying20
 a20:=Tryz.isAgg20
 z20:=Tryz.sizeOf20
 v20:=Tryz.zeroValue20
 t31:=Tryz.underlying109
 a31:=Tryz.isAgg109
 z31:=Tryz.sizeOf109
 v31:=Tryz.zeroValue109
 t37:=Tryz.underlying179
 a37:=Tryz.isAgg179
 z37:=Tryz.sizeOf179
 v37:=Tryz.zeroValue179
 t70:=Tryz.underlying178
 a70:=Tryz.isAgg178
 z70:=Tryz.sizeOf178
 v70:=Tryz.zeroValue178
 t72:=Tryz.underlying181
 a72:=Tryz.isAgg181
 z72:=Tryz.sizeOf181
 v72:=Tryz.zeroValue181
 t75:=Tryz.underlying184
 a75:=Tryz.isAgg184
 z75:=Tryz.sizeOf184
 v75:=Tryz.zeroValue184
 t76:=Tryz.underlying185
 a76:=Tryz.isAgg185
 z76:=Tryz.sizeOf185
 v76:=Tryz.zeroValue185
 t127:=Tryz.underlying193
 a127:=Tryz.isAgg193
 z127:=Tryz.sizeOf193
 v127:=Tryz.zeroValue193
 t164:=Tryz.underlying199
 a164:=Tryz.isAgg199
 z164:=Tryz.sizeOf199
 v164:=Tryz.zeroValue199 }
theorem Tryz.calls_Itoa (n:Int) (h0 : -9223372036854775808≤n) (h1:n≤9223372036854775807) (w:World) (htab:Lib.TabIs Tryz.prog w "internal/strconv.uint64pow10" .u64 Lib.pow10Tab) :
  Calls Tryz.prog 105 #[.int .i64 n] w fun e w'=>e=.returned (.string ⟨(Lib.itoa n).toArray⟩)∧∃ k os,w'=Go.Sort.grow (w.drewN k) os:=Any.strconv_Itoa Tryz.laysM171 n h0 h1 w htab
theorem Tryz.enters_Itoa:Sh.Enters Tryz.prog 105:=enters_of Tryz.laysM171.f171 (by kernel_rfl) rfl
end Go.Proofs
namespace Sh
open Go Go.Proofs
theorem s_Itoa (n:Int) (h0 : -9223372036854775808≤n) (h1:n≤9223372036854775807):PC 105 [DV.int .i64 (n)] (.str (Lib.itoa n)):=by
 refine pure_of_calls Tryz.enters_Itoa (fun M w vs hG hT hM hr=>?_)
 have hv:vs=#[.int .i64 n]:=by
  obtain ⟨r1,r2⟩:=hr
  have r3:=r2 0 (by simp)
  apply Array.ext
  ·simpa using r1.symm
  ·intro i i1 i2
   have:i=0:=by simp at i2;omega
   subst this
   have e:vs.getD 0 Go.undef=vs[0]:=by simp [Array.getD_eq_getD_getElem?,i1]
   rw [e] at r3
   generalize vs[0]=x at r3
   cases r3
   rfl
 subst hv
 refine (Tryz.calls_Itoa n h0 h1 w (tabIs_of (g:=2) (by kernel_rfl) rfl (by decide) hG hT hM)).mono ?_
 rintro e w' ⟨rfl,k,os,rfl⟩
 exact after_flat hM (Lib.below_grow _ w (Nat.le_refl _) k os) (.str _)
end Sh

namespace Go.Proofs
open Go.Shelf Go.RowKit
theorem Tryz.extra:Builder.Extra Tryz.prog Tryz.lays156_ren:={
 sizeBuilder:=by kernel_rfl
 liesBuilder:=by kernel_rfl
 t5:=Tryz.underlying5
 a5:=Tryz.isAgg5
 z5:=Tryz.sizeOf5
 v5:=Tryz.zeroValue5
 infoByte:=by kernel_rfl
 cellsByte:=by kernel_rfl
 sizeByte:=by kernel_rfl
 neB5:=by decide }
theorem Tryz.enters_Join:Sh.Enters Tryz.prog 103:=enters_of Tryz.lays156.f156 (by kernel_rfl) rfl
theorem Tryz.calls_Join (bk o c:Nat) (xs:List ByteArray) (sep:ByteArray) (w:World) (hcells:∀ (j:Nat) x,xs[j]?=some x→w.cell? ⟨bk,o+j,none⟩=some (.string x))
  (hbk:bk < w.heap.size) (hN:xs.length≤140737488355328) (hcap:xs.length≤c) (hlen:(Lib.join (xs.map (·.data.toList)) sep.data.toList).length≤140737488355328) :
  Calls Tryz.prog 103 #[.slice (some ⟨bk,o,none⟩) xs.length c,.string sep] w fun e w'=>e=.returned (.string ⟨(Lib.join (xs.map (·.data.toList)) sep.data.toList).toArray⟩)∧Below w.heap.size w w' :=
 Any.strings_Join Tryz.lays156 Tryz.extra bk o c xs sep w hcells hbk hN hcap hlen
theorem Tryz.calls_Join0 (a:Option Addr) (c:Nat) (sep:ByteArray) (w:World):Calls Tryz.prog 103 #[.slice a 0 c,.string sep] w fun e w'=>e=.returned (.string ⟨#[]⟩)∧w'=w :=
 Any.strings_Join_none Tryz.lays156 Tryz.extra a c sep w
end Go.Proofs
namespace Sh
open Go Go.Proofs
theorem flat_strs (l:List (List UInt8)):flat (l.map DV.str)=l.map DV.str:=by
 induction l with
 |nil=>rfl
 |cons a r ih=>rw [List.map_cons,show DV.str a :: r.map DV.str=[DV.str a]++r.map DV.str from rfl,flat_append,ih];rfl
theorem s_Join (l:List (List UInt8)) (sep:List UInt8) (hl:l.length≤140737488355328) (hj:(Lib.join l sep).length≤140737488355328):PC 103 [.list (l.map DV.str),.str sep] (.str (Lib.join l sep)):=by
 refine pure_of_calls Tryz.enters_Join (fun M w vs hG hT hM hr=>?_)
 obtain ⟨r1,r2⟩:=hr
 obtain ⟨x,y,rfl⟩:∃ x y,vs=#[x,y]:=by
  refine ⟨vs[0]'(by simp at r1;omega),vs[1]'(by simp at r1;omega),?_⟩
  apply Array.ext
  ·simpa using r1.symm
  ·intro i i1 i2
   have:i=0∨i=1:=by simp at i2;omega
   rcases this with rfl|rfl<;>rfl
 have hx:RelP M (.list (l.map DV.str)) x:=r2 0 (by simp)
 have hy:RelP M (.str sep) y:=r2 1 (by simp)
 cases hy
 cases hx with
 |list _ a cap sz b o g hcap ha hsz hMm hrr =>
  rw [flat_strs] at hMm hrr
  rw [List.length_map] at hcap ⊢
  rcases ha with ha|rfl
  ·have:l=[]:=by simpa using ha
   subst this
   refine (Tryz.calls_Join0 a cap _ w).mono ?_
   rintro e w' ⟨rfl,rfl⟩
   exact after_flat hM (RowKit.Below.refl _ _) (.str _)
  ·by_cases h0:l=[]
   ·subst h0
    refine (Tryz.calls_Join0 _ cap _ w).mono ?_
    rintro e w' ⟨rfl,rfl⟩
    exact after_flat hM (RowKit.Below.refl _ _) (.str _)
   have hp:0 < l.length:=List.length_pos_iff.2 h0
   have hcell:∀ j,j < l.length→w.cell? ⟨b,o+j,none⟩=some (.string ⟨(l.getD j []).toArray⟩):=fun j hj=>by
    have q1:=hM _ _ _ (hMm j (by simpa using hj))
    have q2:=hrr j (by simpa using hj)
    have q3:(l.map DV.str).getD j .undef=.str (l.getD j []):=by simp [List.getD_eq_getElem?_getD,hj]
    rw [q3] at q2
    have q6:∀ s v,RelP M (.str s) v→v=.string ⟨s.toArray⟩:=fun s v h=>by cases h;rfl
    rw [q1,q6 _ _ q2]
   have hb:b < w.heap.size:=World.block_lt_of_cell? (a:=⟨b,o+0,none⟩) _ (hcell 0 hp)
   have e1:((l.map fun s=>(⟨s.toArray⟩:ByteArray)).map (·.data.toList))=l:=by simp [Function.comp_def]
   have h1:=Tryz.calls_Join b o cap (l.map fun s=>⟨s.toArray⟩) ⟨sep.toArray⟩ w (fun j x hx=>?_) hb (by simpa using hl) (by simpa using hcap) (by rw [e1];simpa using hj)
   ·rw [e1,List.length_map] at h1
    refine h1.mono ?_
    rintro e w' ⟨rfl,hw⟩
    exact after_flat hM hw (.str _)
   ·have hj2:j < l.length:=by have:=(List.getElem?_eq_some_iff.1 hx).1;simpa using this
    rw [hcell j hj2]
    simp [hj2] at hx
    rw [← hx];simp [List.getD_eq_getElem?_getD,hj2]
end Sh

namespace Sh
open Go Go.Proofs
def oS {α:Type} (g:α→List UInt8) (l:List α) (i:Nat):List DV:=(l.take i).map fun c=>.str (g c)
theorem oS_len {α:Type} (g:α→List UInt8) (l:List α) (i:Nat) (h:i≤l.length):(oS g l i).length=i:=by simp [oS];omega
theorem oS_succ {α:Type} (g:α→List UInt8) (l:List α) (i:Nat) (d:α) (h:i < l.length):oS g l (i+1)=oS g l i++[.str (g (l.getD i d))]:=take_map_succ _ l i d h
theorem oS_all {α:Type} (g:α→List UInt8) (l:List α):oS g l l.length=(l.map g).map DV.str:=by simp [oS]
theorem c_mappedS (l:List Int) (f:FuncId) (g:Int→List UInt8) (hl:l.length < 1073741824) (hf:∀ c ∈ l,PC f [DV.int .i64 (c)] (.str (g c))):PC 104 [iL l,.func f []] (.list ((l.map g).map DV.str)):=by
 refine pureCall_ofR dh104 rfl ?_
 conv=>whnf
 refine dwp_loopR (P:=Tryz.prog) (G:=GC) (k:=dk104_0) (b:=db104_0) (α:=Nat) (fun i=>[(1,.func f []),(5,.own 5 0 (oS g l i).length (oS g l i).length),(8,iL l),(9,.int .i64 (l.map (DV.int .i64)).length),(10,DV.int .i64 (i))]) (fun i=>[(5,.row 1 (oS g l i) false)]) (fun i=>i≤l.length) (fun i=>l.length - i) 0 ⟨rfl,rfl,rfl⟩ (Nat.zero_le _) ?_
 intro i h1
 conv=>whnf
 refine ⟨fun hb=>?_,fun hb=>?_⟩
 ·have hi:i < l.length:=by simpa using hb
  conv=>whnf
  rw [getD_enc _ _ (i) 0 hi]
  refine ⟨idxA hi rfl,?_⟩
  conv=>whnf
  refine .inl ?_
  conv=>whnf
  refine ⟨_,hf _ (getD_in 0 hi),?_⟩
  conv=>whnf
  refine ⟨⟨rfl,rfl,rfl,by rw [oS_len g l i h1];simp;omega,fun e he=>by simp at he;subst he;rfl⟩,?_⟩
  conv=>whnf
  rw [wrap_succ i (by omega)]
  refine ⟨i+1,rfl,?_,?_,hi,by omega⟩
  ·rw [oS_succ g l i 0 hi];rfl
  ·rw [oS_succ g l i 0 hi];rfl
 ·have hi:i=l.length:=by have:=of_decide_eq_false hb;simp at this;omega
  conv=>whnf
  exact ⟨rfl,by rw [window_full,hi,oS_all];rfl⟩
def numsC (c:Cel):List Int:=[c.li,c.dr]++c.tb.flatMap fun p=>[p.x,p.y]
def lineC (c:Cel):List UInt8:=Lib.join ([99,101,108,108] :: (numsC c).map Lib.itoa) [32]++[10]
def prtH (l:List Cel):List UInt8:=l.flatMap lineC
def prtS (l:List Cel):List UInt8×Int:=if chkChain l≠0 then ([],chkChain l) else (prtH l,0)
def nuS (c:Cel) (i:Nat):List DV:=([c.li,c.dr]++(c.tb.take i).flatMap fun p=>[p.x,p.y]).map (DV.int .i64)
theorem nuS_len (c:Cel) (i:Nat) (h:i≤c.tb.length):(nuS c i).length=2+2 * i:=by
 have:∀ (t:List Pt),(t.flatMap fun p=>[p.x,p.y]).length=2 * t.length:=fun t=>by induction t with
  |nil=>rfl
  |cons a r ih=>simp [List.flatMap_cons,ih];omega
 unfold nuS
 rw [List.length_map,List.length_append,this,List.length_take]
 simp;omega
theorem nuS_succ (c:Cel) (i:Nat) (h:i < c.tb.length):nuS c (i+1)=nuS c i++[DV.int .i64 ((c.tb.getD i ⟨0,0⟩).x),DV.int .i64 ((c.tb.getD i ⟨0,0⟩).y)]:=by
 unfold nuS
 rw [take_snoc c.tb i ⟨0,0⟩ h,List.flatMap_append,← List.append_assoc,List.map_append]
 rfl
theorem nuS_all (c:Cel):nuS c c.tb.length=(numsC c).map (DV.int .i64):=by simp [nuS,numsC]
theorem okL_mem:∀ {r:List Pt} {b:Pt},okL b r→∀ p ∈ r,0≤p.x∧p.x≤100∧0≤p.y∧p.y≤200
 |[],_,_,_,hp=>absurd hp List.not_mem_nil
 |q :: r,_,h,p,hp=>by
  rcases List.mem_cons.1 hp with rfl|hp
  ·exact h.1.1
  ·exact okL_mem h.2 p hp
theorem OkT.mem {t:List Pt} (h:OkT t):∀ p ∈ t,0≤p.x∧p.x≤100∧0≤p.y∧p.y≤200:=by
 obtain ⟨_,_,p,r,rfl,h1,h2,h3,h4⟩:=h
 intro q hq
 rcases List.mem_cons.1 hq with rfl|hq
 ·omega
 ·exact okL_mem h4 q hq
theorem OkC.nums {c:Cel} (h:OkC c):∀ n ∈ numsC c,0≤n∧n≤1000:=by
 obtain ⟨h1,h2,h3,h4,h5⟩:=h
 intro n hn
 unfold numsC at hn
 rcases List.mem_append.1 hn with hn|hn
 ·simp only [List.mem_cons,List.not_mem_nil,or_false] at hn
  rcases hn with rfl|rfl<;>omega
 ·obtain ⟨p,hp,hn⟩:=List.mem_flatMap.1 hn
  have:=h1.mem p hp
  simp only [List.mem_cons,List.not_mem_nil,or_false] at hn
  rcases hn with rfl|rfl<;>omega
theorem OkC.numsLen {c:Cel} (h:OkC c):(numsC c).length≤18:=by
 have:=nuS_len c c.tb.length (Nat.le_refl _)
 rw [nuS_all,List.length_map] at this
 have:=h.1.2.1
 omega
theorem joinTail_len (sep:List UInt8) (k:Nat):∀ (r:List (List UInt8)),(∀ x ∈ r,x.length≤k)→(Lib.joinTail sep r).length≤r.length * (sep.length+k)
 |[],_=>by simp [Lib.joinTail]
 |x :: r,h=>by
  have ih:=joinTail_len sep k r (fun y hy=>h y (List.mem_cons_of_mem _ hy))
  have h1:=h x (List.mem_cons_self ..)
  unfold Lib.joinTail at ih ⊢
  rw [List.map_cons,List.flatten_cons,List.length_append,List.length_append,List.length_cons,Nat.add_mul]
  omega
theorem OkC.lineLen {c:Cel} (h:OkC c):(Lib.join ([99,101,108,108] :: (numsC c).map Lib.itoa) [32]).length≤400:=by
 have h1:=joinTail_len [32] 21 ((numsC c).map Lib.itoa) (fun x hx=>by
  obtain ⟨n,hn,rfl⟩:=List.mem_map.1 hx
  have:=h.nums n hn
  exact Lib.itoa_length_le n (by omega) (by omega))
 have h2:=h.numsLen
 rw [List.length_map] at h1
 have h3:(numsC c).length * ([(32:UInt8)].length+21)≤18 * 22:=Nat.mul_le_mul h2 (Nat.le_refl _)
 have h4:Lib.join ([99,101,108,108] :: (numsC c).map Lib.itoa) [32]=[99,101,108,108]++Lib.joinTail [32] ((numsC c).map Lib.itoa):=Lib.join_cons ..
 rw [h4,List.length_append]
 have:([99,101,108,108]:List UInt8).length=4:=rfl
 omega
theorem prtH_len:∀ {l:List Cel},(∀ c ∈ l,OkC c)→(prtH l).length≤l.length * 401
 |[],_=>by simp [prtH]
 |c :: r,h=>by
  have ih:=prtH_len (l:=r) (fun x hx=>h x (List.mem_cons_of_mem _ hx))
  have h1:=(h c (List.mem_cons_self ..)).lineLen
  unfold prtH at ih ⊢
  rw [List.flatMap_cons,List.length_append,List.length_cons,Nat.add_mul]
  have:(lineC c).length≤401:=by unfold lineC;rw [List.length_append];simpa using h1
  omega
theorem c_Print (l:List Cel) (hl:l.length < 1073741824) (hc:∀ c ∈ l,c.tb.length < 1073741824):PC 67 [chn l] (.tuple [.str (prtS l).1,DV.int .i64 ((prtS l).2)]):=by
 have e0:((l.map encC).length:Int)=l.length:=by simp
 refine pureCall_ofR dh67 rfl ?_
 conv=>whnf
 repeat' (first
  |(refine ⟨fun hg=>?_,fun hg=>?_⟩<;>first|contradiction|(conv=>whnf))
  |(refine Or.inl ?_;conv=>whnf)
  |(refine ⟨_,c_CheckChain _ hl hc,?_⟩;conv=>whnf)
  |(refine And.intro ?_ ?_;kernel_rfl;conv=>whnf))
 ·have hg:=of_decide_eq_true hg
  show DV.tuple [_,_]=_
  rw [prtS,if_pos hg]
  (try rfl)
 ·have hg:=of_decide_eq_false hg
  have hok:=chkChain_zero (Classical.not_not.1 hg)
  refine dwp_loopR (P:=Tryz.prog) (G:=GC) (k:=dk67_1) (b:=db67_1) (α:=Nat) (fun i=>[(5,.str (prtH (l.take i))),(16,chn l),(17,.int .i64 (l.map encC).length),(18,DV.int .i64 (i))]) (fun _=>[]) (fun i=>i≤l.length) (fun i=>l.length - i) 0 ⟨rfl,rfl,rfl⟩ (Nat.zero_le _) ?_
  intro i h1
  conv=>whnf
  refine ⟨fun hb=>?_,fun hb=>?_⟩
  ·have hi:i < l.length:=by simpa using hb
   conv=>whnf
   rw [getD_enc _ _ (i) C0 hi]
   refine ⟨idxA hi rfl,?_⟩
   conv=>whnf
   have hC:=hok.2.2 _ (getD_in C0 hi)
   have e1:(((l.getD i C0).tb.map encPt).length:Int)=(l.getD i C0).tb.length:=by simp
   generalize hcc:l.getD i C0=c at hC e1
   have ht:=hC.1.2.1
   refine dwp_loopR (P:=Tryz.prog) (G:=GC) (k:=dk67_0) (b:=db67_0) (α:=Nat) (fun j=>[(5,.str (prtH (l.take i))),(8,.own 26 0 (nuS c j).length (nuS c j).length),(16,chn l),(17,.int .i64 (l.map encC).length),(18,DV.int .i64 (i)),(28,tbl c.tb),(29,.int .i64 (c.tb.map encPt).length),(30,DV.int .i64 (j))]) (fun j=>[(7,.box 3 (encC c)),(26,.row 1 (nuS c j) false)]) (fun j=>j≤c.tb.length) (fun j=>c.tb.length - j) 0 ⟨rfl,rfl,rfl⟩ (Nat.zero_le _) ?_
   intro j h2
   conv=>whnf
   refine ⟨fun hb=>?_,fun hb=>?_⟩
   ·have hj:j < c.tb.length:=by simpa using hb
    conv=>whnf
    rw [getD_enc _ _ (j) (⟨0,0⟩:Pt) hj]
    refine ⟨idxA hj rfl,?_⟩
    conv=>whnf
    conv=>whnf
    refine ⟨⟨rfl,rfl,rfl,by rw [nuS_len c j h2];show 2+2 * j+2≤_;omega,fun e he=>by
     have he:e ∈ [DV.int .i64 ((c.tb.getD j ⟨0,0⟩).x),DV.int .i64 ((c.tb.getD j ⟨0,0⟩).y)]:=he
     simp only [List.mem_cons,List.not_mem_nil,or_false] at he
     rcases he with rfl|rfl<;>rfl⟩,?_⟩
    conv=>whnf
    rw [wrap_succ j (by omega)]
    refine ⟨j+1,rfl,?_,?_,hj,by omega⟩
    ·rw [nuS_succ c j hj];rfl
    ·rw [nuS_succ c j hj];rfl
   ·have hj:j=c.tb.length:=by have:=of_decide_eq_false hb;rw [e1] at this;omega
    conv=>whnf
    subst hj
    rw [nuS_all c]
    refine Or.inl ?_
    conv=>whnf
    rw [window_full]
    have hnum:=hC.nums
    refine ⟨rfl,_,c_mappedS (numsC c) 105 Lib.itoa (by have:=hC.numsLen;omega) (fun n hn=>s_Itoa n (by have:=hnum n hn;omega) (by have:=hnum n hn;omega)),?_⟩
    conv=>whnf
    have hlen:(numsC c).length≤18:=by have:=nuS_len c c.tb.length (Nat.le_refl _);rw [nuS_all,List.length_map] at this;omega
    refine ⟨⟨by show 1+_≤_;simp;omega,fun e he=>by obtain ⟨x,_,rfl⟩:=List.mem_map.1 he;rfl,fun e he=>by
     have he:e ∈ [DV.str [99,101,108,108]]:=he
     simp at he;subst he;rfl⟩,?_⟩
    conv=>whnf
    refine Or.inl ?_
    conv=>whnf
    have hjl:(Lib.join ([99,101,108,108] :: (numsC c).map Lib.itoa) [32]).length≤100000:=by have:=hC.lineLen;omega
    have hpl:(prtH (l.take i)).length≤1000000000:=by
     have h1:=prtH_len (l:=l.take i) (fun c hc=>hok.2.2 c (List.mem_of_mem_take hc))
     have h2:=hok.2.1
     rw [List.length_take] at h1
     omega
    refine ⟨_,s_Join ([99,101,108,108] :: (numsC c).map Lib.itoa) [32] (by simp;omega) (by omega),?_⟩
    conv=>whnf
    refine ⟨by show _+1≤_;omega,?_⟩
    conv=>whnf
    refine ⟨by show _+(_++[_]).length≤_;simp;omega,?_⟩
    conv=>whnf
    rw [wrap_succ i (by omega)]
    refine ⟨i+1,rfl,?_,rfl,hi,by omega⟩
    have hp:prtH (l.take (i+1))=prtH (l.take i)++(Lib.join ([99,101,108,108] :: (numsC c).map Lib.itoa) [32]++[10]):=by
     unfold prtH
     rw [take_snoc l i C0 hi,List.flatMap_append,hcc]
     simp [lineC]
    rw [hp];rfl
  ·have hi:i=l.length:=by have:=of_decide_eq_false hb;rw [e0] at this;omega
   conv=>whnf
   show DV.tuple [_,_]=_
   rw [prtS,if_neg hg,hi,List.take_length]
   (try rfl)
end Sh

namespace Sh
open Go
def dc13 : DFunc := ⟨312,0,[.tmp 0],.seq (.ops false [⟨some 0,.mov (.const (.bool false)),none,[]⟩]) (.seq (.ops false [⟨some 46,.call (.func 74) [],none,[]⟩,⟨some 47,.call (.func 14) [.tmp 46,.const (.int .i64 1)],none,[]⟩,⟨some 45,.mov (.tmp 47),none,[]⟩,⟨some 48,.extract (.tmp 45) 0,none,[]⟩,⟨some 49,.extract (.tmp 45) 1,none,[]⟩,⟨some 1,.mov (.tmp 48),none,[]⟩,⟨some 2,.mov (.tmp 49),none,[]⟩]) (.seq (.ops false [⟨some 51,.call (.func 75) [],none,[]⟩,⟨some 52,.iaddr 3 (.tmp 51) (.const (.int .i64 1)),none,[]⟩,⟨some 53,.load (some 3) (.tmp 52),none,[]⟩,⟨some 54,.call (.func 14) [.tmp 53,.const (.int .i64 5)],none,[]⟩,⟨some 50,.mov (.tmp 54),none,[]⟩,⟨some 55,.extract (.tmp 50) 0,none,[]⟩,⟨some 56,.extract (.tmp 50) 1,none,[]⟩,⟨some 3,.mov (.tmp 55),none,[]⟩,⟨some 4,.mov (.tmp 56),none,[]⟩]) (.seq (.ops false [⟨some 58,.call (.func 74) [],none,[]⟩,⟨some 59,.call (.func 16) [.tmp 58,.const (.int .i64 9)],none,[]⟩,⟨some 57,.mov (.tmp 59),none,[]⟩,⟨some 60,.extract (.tmp 57) 0,none,[]⟩,⟨some 61,.extract (.tmp 57) 1,none,[]⟩,⟨some 62,.extract (.tmp 57) 2,none,[]⟩,⟨some 5,.mov (.tmp 60),none,[]⟩,⟨some 6,.mov (.tmp 61),none,[]⟩,⟨some 7,.mov (.tmp 62),none,[]⟩]) (.seq (.ops false [⟨some 64,.call (.func 74) [],none,[]⟩,⟨some 65,.call (.func 16) [.tmp 64,.const (.int .i64 11)],none,[]⟩,⟨some 63,.mov (.tmp 65),none,[]⟩,⟨some 66,.extract (.tmp 63) 0,none,[]⟩,⟨some 67,.extract (.tmp 63) 1,none,[]⟩,⟨some 68,.extract (.tmp 63) 2,none,[]⟩,⟨some 8,.mov (.tmp 66),none,[]⟩,⟨some 9,.mov (.tmp 67),none,[]⟩,⟨some 10,.mov (.tmp 68),none,[]⟩]) (.seq (.ops false [⟨some 70,.call (.func 75) [],none,[]⟩,⟨some 71,.call (.func 28) [.tmp 70,.const (.int .i64 6)],none,[]⟩,⟨some 69,.mov (.tmp 71),none,[]⟩,⟨some 72,.extract (.tmp 69) 0,none,[]⟩,⟨some 73,.extract (.tmp 69) 1,none,[]⟩,⟨some 11,.mov (.tmp 72),none,[]⟩,⟨some 12,.mov (.tmp 73),none,[]⟩]) (.seq (.ops false [⟨some 75,.call (.func 75) [],none,[]⟩,⟨some 76,.call (.func 28) [.tmp 75,.const (.int .i64 11)],none,[]⟩,⟨some 74,.mov (.tmp 76),none,[]⟩,⟨some 77,.extract (.tmp 74) 0,none,[]⟩,⟨some 78,.extract (.tmp 74) 1,none,[]⟩,⟨some 13,.mov (.tmp 77),none,[]⟩,⟨some 14,.mov (.tmp 78),none,[]⟩]) (.seq (.ops false [⟨some 80,.call (.func 75) [],none,[]⟩,⟨some 81,.call (.func 30) [.tmp 80,.const (.int .i64 4)],none,[]⟩,⟨some 79,.mov (.tmp 81),none,[]⟩,⟨some 82,.extract (.tmp 79) 0,none,[]⟩,⟨some 83,.extract (.tmp 79) 1,none,[]⟩,⟨some 15,.mov (.tmp 82),none,[]⟩,⟨some 16,.mov (.tmp 83),none,[]⟩]) (.seq (.ops false [⟨some 85,.call (.func 75) [],none,[]⟩,⟨some 86,.call (.func 31) [.tmp 85,.const (.int .i64 6)],none,[]⟩,⟨some 84,.mov (.tmp 86),none,[]⟩,⟨some 87,.extract (.tmp 84) 0,none,[]⟩,⟨some 88,.extract (.tmp 84) 1,none,[]⟩,⟨some 17,.mov (.tmp 87),none,[]⟩,⟨some 18,.mov (.tmp 88),none,[]⟩]) (.seq (.ops false [⟨some 89,.call (.func 75) [],none,[]⟩,⟨some 90,.lit true 1 1 (.full []) [(0,(.tmp 89))],none,[]⟩,⟨some 19,.mov (.tmp 90),none,[]⟩]) (.seq (.ops false [⟨some 92,.mov (.tmp 19),none,[]⟩,⟨some 93,.call (.func 39) [.tmp 92],none,[]⟩,⟨some 91,.mov (.tmp 93),none,[]⟩,⟨some 94,.extract (.tmp 91) 0,none,[]⟩,⟨some 95,.extract (.tmp 91) 1,none,[]⟩,⟨some 20,.mov (.tmp 94),none,[]⟩,⟨some 21,.mov (.tmp 95),none,[]⟩]) (.seq (.ops false [⟨some 97,.mov (.tmp 19),none,[]⟩,⟨some 98,.call (.func 43) [.tmp 97],none,[]⟩,⟨some 96,.mov (.tmp 98),none,[]⟩,⟨some 99,.extract (.tmp 96) 0,none,[]⟩,⟨some 100,.extract (.tmp 96) 1,none,[]⟩,⟨some 22,.mov (.tmp 99),none,[]⟩,⟨some 23,.mov (.tmp 100),none,[]⟩]) (.seq (.ops false [⟨some 102,.mov (.tmp 19),none,[]⟩,⟨some 103,.call (.func 54) [.tmp 102],none,[]⟩,⟨some 101,.mov (.tmp 103),none,[]⟩,⟨some 104,.extract (.tmp 101) 0,none,[]⟩,⟨some 105,.extract (.tmp 101) 1,none,[]⟩,⟨some 24,.mov (.tmp 104),none,[]⟩,⟨some 25,.mov (.tmp 105),none,[]⟩]) (.seq (.ops false [⟨some 107,.mov (.tmp 19),none,[]⟩,⟨some 108,.call (.func 55) [.tmp 107],none,[]⟩,⟨some 106,.mov (.tmp 108),none,[]⟩,⟨some 109,.extract (.tmp 106) 0,none,[]⟩,⟨some 110,.extract (.tmp 106) 1,none,[]⟩,⟨some 111,.extract (.tmp 106) 2,none,[]⟩,⟨some 26,.mov (.tmp 109),none,[]⟩,⟨some 27,.mov (.tmp 110),none,[]⟩,⟨some 28,.mov (.tmp 111),none,[]⟩]) (.seq (.seq (.ops false [⟨some 112,.mov (.tmp 2),none,[]⟩,⟨some 113,.mov (.tmp 4),none,[]⟩,⟨some 114,.bin .add (.tmp 112) (.tmp 113),none,[]⟩,⟨some 115,.mov (.tmp 7),none,[]⟩,⟨some 116,.bin .add (.tmp 114) (.tmp 115),none,[]⟩,⟨some 117,.mov (.tmp 10),none,[]⟩,⟨some 118,.bin .add (.tmp 116) (.tmp 117),none,[]⟩,⟨some 119,.mov (.tmp 12),none,[]⟩,⟨some 120,.bin .add (.tmp 118) (.tmp 119),none,[]⟩,⟨some 121,.mov (.tmp 14),none,[]⟩,⟨some 122,.bin .add (.tmp 120) (.tmp 121),none,[]⟩,⟨some 123,.mov (.tmp 16),none,[]⟩,⟨some 124,.bin .add (.tmp 122) (.tmp 123),none,[]⟩,⟨some 125,.mov (.tmp 18),none,[]⟩,⟨some 126,.bin .add (.tmp 124) (.tmp 125),none,[]⟩,⟨some 127,.mov (.tmp 21),none,[]⟩,⟨some 128,.bin .add (.tmp 126) (.tmp 127),none,[]⟩,⟨some 129,.mov (.tmp 23),none,[]⟩,⟨some 130,.bin .add (.tmp 128) (.tmp 129),none,[]⟩,⟨some 131,.mov (.tmp 25),none,[]⟩,⟨some 132,.bin .add (.tmp 130) (.tmp 131),none,[]⟩,⟨some 133,.mov (.tmp 28),none,[]⟩,⟨some 134,.bin .add (.tmp 132) (.tmp 133),none,[]⟩,⟨some 135,.bin .neq (.tmp 134) (.const (.int .i64 0)),none,[]⟩,⟨some 136,.mov (.tmp 135),none,[]⟩,⟨some 137,.mov (.tmp 1),some (136,false),[]⟩,⟨some 138,.bin .neq (.tmp 137) (.const (.int .i64 9)),some (136,false),[]⟩,⟨some 139,.pick (.tmp 136) (.const (.bool true)) (.tmp 138),none,[]⟩,⟨some 140,.mov (.tmp 139),none,[]⟩,⟨some 141,.mov (.tmp 3),some (140,false),[]⟩,⟨some 142,.bin .neq (.tmp 141) (.const (.int .i64 2)),some (140,false),[]⟩,⟨some 143,.pick (.tmp 140) (.const (.bool true)) (.tmp 142),none,[]⟩,⟨some 144,.mov (.tmp 143),none,[]⟩,⟨some 145,.mov (.tmp 5),some (144,false),[]⟩,⟨some 146,.bin .neq (.tmp 145) (.const (.int .i64 2)),some (144,false),[]⟩,⟨some 147,.pick (.tmp 144) (.const (.bool true)) (.tmp 146),none,[]⟩,⟨some 148,.mov (.tmp 147),none,[]⟩,⟨some 149,.mov (.tmp 6),some (148,false),[]⟩,⟨some 150,.un .not (.tmp 149),some (148,false),[]⟩,⟨some 151,.pick (.tmp 148) (.const (.bool true)) (.tmp 150),none,[]⟩,⟨some 152,.mov (.tmp 151),none,[]⟩,⟨some 153,.mov (.tmp 8),some (152,false),[]⟩,⟨some 154,.bin .neq (.tmp 153) (.const (.int .i64 (-1))),some (152,false),[]⟩,⟨some 155,.pick (.tmp 152) (.const (.bool true)) (.tmp 154),none,[]⟩,⟨some 156,.mov (.tmp 155),none,[]⟩,⟨some 157,.mov (.tmp 9),some (156,false),[]⟩,⟨some 158,.pick (.tmp 156) (.const (.bool true)) (.tmp 157),none,[]⟩,⟨some 159,.mov (.tmp 158),none,[]⟩,⟨some 160,.mov (.tmp 11),some (159,false),[]⟩,⟨some 161,.bin .neq (.tmp 160) (.const (.int .i64 3)),some (159,false),[]⟩,⟨some 162,.pick (.tmp 159) (.const (.bool true)) (.tmp 161),none,[]⟩,⟨some 163,.mov (.tmp 162),none,[]⟩,⟨some 164,.mov (.tmp 13),some (163,false),[]⟩,⟨some 165,.bin .neq (.tmp 164) (.const (.int .i64 (-2))),some (163,false),[]⟩,⟨some 166,.pick (.tmp 163) (.const (.bool true)) (.tmp 165),none,[]⟩,⟨some 167,.mov (.tmp 166),none,[]⟩,⟨some 168,.mov (.tmp 15),some (167,false),[]⟩,⟨some 169,.bin .neq (.tmp 168) (.const (.int .i64 5)),some (167,false),[]⟩,⟨some 170,.pick (.tmp 167) (.const (.bool true)) (.tmp 169),none,[]⟩,⟨some 171,.mov (.tmp 170),none,[]⟩,⟨some 172,.mov (.tmp 17),some (171,false),[]⟩,⟨some 173,.lit true 1 1 (.int .i64 0) [(0,(.const (.int .i64 1)))],some (171,false),[]⟩,⟨some 174,.call (.func 76) [.tmp 172,.tmp 173],some (171,false),[]⟩,⟨some 175,.un .not (.tmp 174),some (171,false),[]⟩,⟨some 176,.pick (.tmp 171) (.const (.bool true)) (.tmp 175),none,[]⟩,⟨some 177,.mov (.tmp 176),none,[]⟩,⟨some 178,.mov (.tmp 20),some (177,false),[]⟩,⟨some 179,.bin .neq (.tmp 178) (.const (.int .i64 12)),some (177,false),[]⟩,⟨some 180,.pick (.tmp 177) (.const (.bool true)) (.tmp 179),none,[]⟩,⟨some 181,.mov (.tmp 180),none,[]⟩,⟨some 182,.mov (.tmp 22),some (181,false),[]⟩,⟨some 183,.lit true 1 13 (.int .i64 0) [(0,(.const (.int .i64 9))),(1,(.const (.int .i64 9))),(2,(.const (.int .i64 8))),(3,(.const (.int .i64 8))),(4,(.const (.int .i64 5))),(5,(.const (.int .i64 4))),(6,(.const (.int .i64 4))),(7,(.const (.int .i64 4))),(8,(.const (.int .i64 4))),(9,(.const (.int .i64 4))),(10,(.const (.int .i64 2))),(11,(.const (.int .i64 0))),(12,(.const (.int .i64 0)))],some (181,false),[]⟩,⟨some 184,.call (.func 76) [.tmp 182,.tmp 183],some (181,false),[]⟩,⟨some 185,.un .not (.tmp 184),some (181,false),[]⟩,⟨some 186,.pick (.tmp 181) (.const (.bool true)) (.tmp 185),none,[]⟩,⟨some 187,.mov (.tmp 186),none,[]⟩,⟨some 188,.mov (.tmp 24),some (187,false),[]⟩,⟨some 189,.lit true 1 2 (.int .i64 0) [(0,(.const (.int .i64 3))),(1,(.const (.int .i64 9)))],some (187,false),[]⟩,⟨some 190,.call (.func 76) [.tmp 188,.tmp 189],some (187,false),[]⟩,⟨some 191,.un .not (.tmp 190),some (187,false),[]⟩,⟨some 192,.pick (.tmp 187) (.const (.bool true)) (.tmp 191),none,[]⟩,⟨some 193,.mov (.tmp 192),none,[]⟩,⟨some 194,.mov (.tmp 26),some (193,false),[]⟩,⟨some 195,.bin .neq (.tmp 194) (.const (.int .i64 9)),some (193,false),[]⟩,⟨some 196,.pick (.tmp 193) (.const (.bool true)) (.tmp 195),none,[]⟩,⟨some 197,.mov (.tmp 196),none,[]⟩,⟨some 198,.mov (.tmp 27),some (197,false),[]⟩,⟨some 199,.bin .neq (.tmp 198) (.const (.int .i64 36)),some (197,false),[]⟩,⟨some 200,.pick (.tmp 197) (.const (.bool true)) (.tmp 199),none,[]⟩]) (.cond (.tmp 200) (.seq (.ops false [⟨some 0,.mov (.const (.bool false)),none,[]⟩]) .ret) .skip)) (.seq (.ops false [⟨some 202,.mov (.tmp 19),none,[]⟩,⟨some 203,.call (.func 56) [.tmp 202],none,[]⟩,⟨some 201,.mov (.tmp 203),none,[]⟩,⟨some 204,.extract (.tmp 201) 0,none,[]⟩,⟨some 205,.extract (.tmp 201) 1,none,[]⟩,⟨some 29,.mov (.tmp 204),none,[]⟩,⟨some 30,.mov (.tmp 205),none,[]⟩]) (.seq (.ops false [⟨some 207,.call (.func 75) [],none,[]⟩,⟨some 208,.call (.func 74) [],none,[]⟩,⟨some 209,.lit true 3 1 (.agg [.full [],.int .i64 0,.int .i64 0]) [(0,(.tmp 208))],none,[]⟩,⟨some 210,.lit true 1 2 (.full []) [(0,(.tmp 207)),(1,(.tmp 209))],none,[]⟩,⟨some 211,.call (.func 41) [.tmp 210,.const (.int .i64 0)],none,[]⟩,⟨some 206,.mov (.tmp 211),none,[]⟩,⟨some 212,.extract (.tmp 206) 0,none,[]⟩,⟨some 213,.extract (.tmp 206) 1,none,[]⟩,⟨some 31,.mov (.tmp 212),none,[]⟩,⟨some 32,.mov (.tmp 213),none,[]⟩]) (.seq (.ops false [⟨some 215,.mov (.tmp 19),none,[]⟩,⟨some 216,.call (.func 42) [.tmp 215,.const (.int .i64 8)],none,[]⟩,⟨some 214,.mov (.tmp 216),none,[]⟩,⟨some 217,.extract (.tmp 214) 0,none,[]⟩,⟨some 218,.extract (.tmp 214) 1,none,[]⟩,⟨some 33,.mov (.tmp 217),none,[]⟩,⟨some 34,.mov (.tmp 218),none,[]⟩]) (.seq (.ops false [⟨some 220,.call (.func 75) [],none,[]⟩,⟨some 221,.call (.func 75) [],none,[]⟩,⟨some 222,.lit true 1 2 (.full []) [(0,(.tmp 220)),(1,(.tmp 221))],none,[]⟩,⟨some 223,.call (.func 44) [.tmp 222],none,[]⟩,⟨some 219,.mov (.tmp 223),none,[]⟩,⟨some 224,.extract (.tmp 219) 0,none,[]⟩,⟨some 225,.extract (.tmp 219) 1,none,[]⟩,⟨some 35,.mov (.tmp 224),none,[]⟩,⟨some 36,.mov (.tmp 225),none,[]⟩]) (.seq (.ops false [⟨some 227,.mov (.tmp 19),none,[]⟩,⟨some 228,.call (.func 51) [.tmp 227,.const (.int .i64 3),.const (.int .i64 100)],none,[]⟩,⟨some 226,.mov (.tmp 228),none,[]⟩,⟨some 229,.extract (.tmp 226) 0,none,[]⟩,⟨some 230,.extract (.tmp 226) 1,none,[]⟩,⟨some 37,.alloc (.agg [.int .i64 0,.int .i64 0]) 2,none,[]⟩,⟨none,.store 2 (.tmp 37) (.tmp 229),none,[]⟩,⟨some 38,.mov (.tmp 230),none,[]⟩]) (.seq (.ops false [⟨some 232,.lit true 1 3 (.int .i64 0) [(0,(.const (.int .i64 10))),(1,(.const (.int .i64 9))),(2,(.const (.int .i64 7)))],none,[]⟩,⟨some 233,.lit true 1 3 (.int .i64 0) [(0,(.const (.int .i64 9))),(1,(.const (.int .i64 8))),(2,(.const (.int .i64 7)))],none,[]⟩,⟨some 234,.call (.func 77) [.tmp 232,.tmp 233],none,[]⟩,⟨some 231,.mov (.tmp 234),none,[]⟩,⟨some 235,.extract (.tmp 231) 0,none,[]⟩,⟨some 236,.extract (.tmp 231) 1,none,[]⟩,⟨some 39,.mov (.tmp 235),none,[]⟩,⟨some 40,.mov (.tmp 236),none,[]⟩]) (.seq (.ops false [⟨some 238,.lit true 1 3 (.int .i64 0) [(0,(.const (.int .i64 10))),(1,(.const (.int .i64 9))),(2,(.const (.int .i64 7)))],none,[]⟩,⟨some 239,.lit true 1 3 (.int .i64 0) [(0,(.const (.int .i64 10))),(1,(.const (.int .i64 5))),(2,(.const (.int .i64 5)))],none,[]⟩,⟨some 240,.call (.func 77) [.tmp 238,.tmp 239],none,[]⟩,⟨some 237,.mov (.tmp 240),none,[]⟩,⟨some 241,.extract (.tmp 237) 0,none,[]⟩,⟨some 242,.extract (.tmp 237) 1,none,[]⟩,⟨some 41,.mov (.tmp 241),none,[]⟩,⟨some 42,.mov (.tmp 242),none,[]⟩]) (.seq (.ops false [⟨some 244,.call (.func 75) [],none,[]⟩,⟨some 245,.call (.func 67) [.tmp 244],none,[]⟩,⟨some 243,.mov (.tmp 245),none,[]⟩,⟨some 246,.extract (.tmp 243) 0,none,[]⟩,⟨some 247,.extract (.tmp 243) 1,none,[]⟩,⟨some 43,.mov (.tmp 246),none,[]⟩,⟨some 44,.mov (.tmp 247),none,[]⟩]) (.seq (.ops false [⟨some 248,.mov (.tmp 30),none,[]⟩,⟨some 249,.mov (.tmp 32),none,[]⟩,⟨some 250,.bin .add (.tmp 248) (.tmp 249),none,[]⟩,⟨some 251,.mov (.tmp 34),none,[]⟩,⟨some 252,.bin .add (.tmp 250) (.tmp 251),none,[]⟩,⟨some 253,.mov (.tmp 36),none,[]⟩,⟨some 254,.bin .add (.tmp 252) (.tmp 253),none,[]⟩,⟨some 255,.mov (.tmp 38),none,[]⟩,⟨some 256,.bin .add (.tmp 254) (.tmp 255),none,[]⟩,⟨some 257,.mov (.tmp 40),none,[]⟩,⟨some 258,.bin .add (.tmp 256) (.tmp 257),none,[]⟩,⟨some 259,.mov (.tmp 42),none,[]⟩,⟨some 260,.bin .add (.tmp 258) (.tmp 259),none,[]⟩,⟨some 261,.mov (.tmp 44),none,[]⟩,⟨some 262,.bin .add (.tmp 260) (.tmp 261),none,[]⟩,⟨some 263,.bin .eql (.tmp 262) (.const (.int .i64 0)),none,[]⟩,⟨some 264,.mov (.tmp 263),none,[]⟩,⟨some 265,.mov (.tmp 29),some (264,true),[]⟩,⟨some 266,.lit true 1 3 (.int .i64 0) [(0,(.const (.int .i64 0))),(1,(.const (.int .i64 5))),(2,(.const (.int .i64 10)))],some (264,true),[]⟩,⟨some 267,.call (.func 76) [.tmp 265,.tmp 266],some (264,true),[]⟩,⟨some 268,.pick (.tmp 264) (.tmp 267) (.const (.bool false)),none,[]⟩,⟨some 269,.mov (.tmp 268),none,[]⟩,⟨some 270,.mov (.tmp 31),some (269,true),[]⟩,⟨some 271,.bin .eql (.tmp 270) (.const (.int .i64 19)),some (269,true),[]⟩,⟨some 272,.pick (.tmp 269) (.tmp 271) (.const (.bool false)),none,[]⟩,⟨some 273,.mov (.tmp 272),none,[]⟩,⟨some 274,.mov (.tmp 33),some (273,true),[]⟩,⟨some 275,.bin .eql (.tmp 274) (.const (.int .i64 32)),some (273,true),[]⟩,⟨some 276,.pick (.tmp 273) (.tmp 275) (.const (.bool false)),none,[]⟩,⟨some 277,.mov (.tmp 276),none,[]⟩,⟨some 278,.mov (.tmp 35),some (277,true),[]⟩,⟨some 279,.bin .eql (.tmp 278) (.const (.int .i64 0)),some (277,true),[]⟩,⟨some 280,.pick (.tmp 277) (.tmp 279) (.const (.bool false)),none,[]⟩,⟨some 281,.mov (.tmp 280),none,[]⟩,⟨some 282,.load (some 2) (.tmp 37),some (281,true),[]⟩,⟨some 283,.build [.int .i64 0,.int .i64 0] [(0,(1,(.const (.int .i64 7)))),(1,(1,(.const (.int .i64 8))))],some (281,true),[]⟩,⟨some 284,.eqA false [1,1] (.tmp 282) (.tmp 283),some (281,true),[]⟩,⟨some 285,.pick (.tmp 281) (.tmp 284) (.const (.bool false)),none,[]⟩,⟨some 286,.mov (.tmp 285),none,[]⟩,⟨some 287,.mov (.tmp 39),some (286,true),[]⟩,⟨some 288,.bin .eql (.tmp 287) (.const (.string ⟨#[100,97,114,107]⟩)),some (286,true),[]⟩,⟨some 289,.pick (.tmp 286) (.tmp 288) (.const (.bool false)),none,[]⟩,⟨some 290,.mov (.tmp 289),none,[]⟩,⟨some 291,.mov (.tmp 41),some (290,true),[]⟩,⟨some 292,.bin .eql (.tmp 291) (.const (.string ⟨#[98,121,112,97,115,115,101,100]⟩)),some (290,true),[]⟩,⟨some 293,.pick (.tmp 290) (.tmp 292) (.const (.bool false)),none,[]⟩,⟨some 294,.mov (.tmp 293),none,[]⟩,⟨some 295,.call (.func 75) [],some (294,true),[]⟩,⟨some 296,.lit true 1 1 (.full []) [(0,(.tmp 295))],some (294,true),[]⟩,⟨some 297,.lit true 1 3 (.int .i64 0) [(0,(.const (.int .i64 0))),(1,(.const (.int .i64 5))),(2,(.const (.int .i64 10)))],some (294,true),[]⟩,⟨some 298,.call (.func 57) [.tmp 296,.const (.int .i64 36),.tmp 297],some (294,true),[]⟩,⟨some 299,.bin .eql (.tmp 298) (.const (.int .i64 0)),some (294,true),[]⟩,⟨some 300,.pick (.tmp 294) (.tmp 299) (.const (.bool false)),none,[]⟩,⟨some 301,.mov (.tmp 300),none,[]⟩,⟨some 302,.call (.func 75) [],some (301,true),[]⟩,⟨some 303,.lit true 1 1 (.full []) [(0,(.tmp 302))],some (301,true),[]⟩,⟨some 304,.lit true 1 3 (.int .i64 0) [(0,(.const (.int .i64 0))),(1,(.const (.int .i64 5))),(2,(.const (.int .i64 10)))],some (301,true),[]⟩,⟨some 305,.call (.func 57) [.tmp 303,.const (.int .i64 35),.tmp 304],some (301,true),[]⟩,⟨some 306,.bin .eql (.tmp 305) (.const (.int .i64 19)),some (301,true),[]⟩,⟨some 307,.pick (.tmp 301) (.tmp 306) (.const (.bool false)),none,[]⟩,⟨some 308,.mov (.tmp 307),none,[]⟩,⟨some 309,.mov (.tmp 43),some (308,true),[]⟩,⟨some 310,.bin .eql (.tmp 309) (.const (.string ⟨#[99,101,108,108,32,49,48,48,48,32,49,32,48,32,49,48,32,52,32,56,32,54,32,48,10,99,101,108,108,32,53,48,48,32,49,32,48,32,49,48,32,52,32,56,32,54,32,48,10]⟩)),some (308,true),[]⟩,⟨some 311,.pick (.tmp 308) (.tmp 310) (.const (.bool false)),none,[]⟩,⟨some 0,.mov (.tmp 311),none,[]⟩]) .ret)))))))))))))))))))))))⟩
theorem dh13:cProg Go.Proofs.Tryz.prog ⟨[],[],[90,173,183,189,209,210,222,232,233,238,239,266,296,297,303,304]⟩ 13=some dc13:=by kernel_rfl
end Sh

namespace Sh
open Go Go.Proofs
def tb0:List Pt:=[⟨0,10⟩,⟨4,8⟩,⟨6,0⟩]
def cel1:Cel:=⟨tb0,1000,1⟩
def cel2:Cel:=⟨tb0,500,1⟩
def chn0:List Cel:=[cel1,cel2]
theorem l_table:PC 112 [] (tbl tb0):=by
 refine pureCall_ofR dh112 rfl ?_
 conv=>whnf
 repeat' (first
  |(refine ⟨fun hg=>?_,fun hg=>?_⟩<;>first|contradiction|(conv=>whnf))
  |(refine Or.inl ?_;conv=>whnf)
  |(refine And.intro ?_ ?_;kernel_rfl;conv=>whnf))
 rfl
theorem l_bright:PC 74 [] (encC cel1):=by
 refine pureCall_ofR dh74 rfl ?_
 conv=>whnf
 repeat' (first
  |(refine ⟨fun hg=>?_,fun hg=>?_⟩<;>first|contradiction|(conv=>whnf))
  |(refine Or.inl ?_;conv=>whnf)
  |(refine ⟨_,l_table ..,?_⟩;conv=>whnf)
  |(refine And.intro ?_ ?_;kernel_rfl;conv=>whnf))
 rfl
theorem l_chain:PC 75 [] (chn chn0):=by
 refine pureCall_ofR dh75 rfl ?_
 conv=>whnf
 repeat' (first
  |(refine ⟨fun hg=>?_,fun hg=>?_⟩<;>first|contradiction|(conv=>whnf))
  |(refine Or.inl ?_;conv=>whnf)
  |(refine ⟨_,l_table ..,?_⟩;conv=>whnf)
  |(refine ⟨_,l_bright ..,?_⟩;conv=>whnf)
  |(refine And.intro ?_ ?_;kernel_rfl;conv=>whnf))
 rfl
end Sh

namespace Sh
open Go Go.Proofs
theorem ev13:certS [chn0]=([0,5,10],0):=by decide
theorem ev14:fcurS [chn0,[cel1]] 0=(19,0):=by decide
theorem ev15:powS [chn0] 8=(32,0):=by decide
theorem ev16:misS [chn0,chn0]=(0,0):=by decide
theorem ev17:bndS [chn0] 3 100=((7,8),0):=by decide
theorem ev18:shpS [10,9,7] [9,8,7]=([100,97,114,107],0):=by decide
theorem ev19:shpS [10,9,7] [10,5,5]=([98,121,112,97,115,115,101,100],0):=by decide
end Sh

namespace Sh
open Go Go.Proofs
theorem ev20:ccE [chn0] 36 [0,5,10]=0:=by decide
theorem ev22:prtS chn0=([99,101,108,108,32,49,48,48,48,32,49,32,48,32,49,48,32,52,32,56,32,54,32,48,10,99,101,108,108,32,53,48,48,32,49,32,48,32,49,48,32,52,32,56,32,54,32,48,10],0):=by kernel_rfl
end Sh

set_option maxHeartbeats 8000000
namespace Sh
open Go Go.Proofs
theorem ev23:ccE [chn0] 35 [0,5,10]=19:=by decide
theorem len0:LenF [chn0]:=⟨by decide,by decide⟩
theorem len1:LenF [chn0,[cel1]]:=⟨by decide,by decide⟩
theorem len2:LenF [chn0,chn0]:=⟨by decide,by decide⟩
theorem l_awake:PC 13 [] (.bool true):=by
 refine pureCall_ofR dh13 rfl ?_
 conv=>whnf
 repeat' (first
  |(refine ⟨fun hg=>?_,fun hg=>?_⟩<;>first|contradiction|(conv=>whnf))
  |(refine Or.inl ?_;conv=>whnf)
  |(refine ⟨_,l_chain ..,?_⟩;conv=>whnf)
  |(refine ⟨_,l_bright ..,?_⟩;conv=>whnf)
  |(refine ⟨_,c_Current _ _ (by decide),?_⟩;conv=>whnf)
  |(refine And.intro ?_ ?_;kernel_rfl;conv=>whnf))
 rw [getD_enc' _ _ (1) C0 (by decide) (by decide:(1:Int) < chn0.length)]
 refine ⟨idxB (by decide) (by decide:(1:Int) < chn0.length) rfl,?_⟩
 conv=>whnf
 repeat' (first
  |(refine ⟨fun hg=>?_,fun hg=>?_⟩<;>first|contradiction|(conv=>whnf))
  |(refine Or.inl ?_;conv=>whnf)
  |(refine ⟨_,l_chain ..,?_⟩;conv=>whnf)
  |(refine ⟨_,l_bright ..,?_⟩;conv=>whnf)
  |(refine ⟨_,c_Current _ _ (by decide),?_⟩;conv=>whnf)
  |(refine ⟨_,c_Volt _ _ (by decide),?_⟩;conv=>whnf)
  |(refine ⟨_,c_ChainVolt chn0 _ (by decide) (by decide),?_⟩;conv=>whnf)
  |(refine ⟨_,c_ChainCurrent chn0 _ (by decide) (by decide),?_⟩;conv=>whnf)
  |(refine ⟨_,c_Bypassed chn0 _ (by decide) (by decide),?_⟩;conv=>whnf)
  |(refine ⟨_,c_End [chn0] len0,?_⟩;conv=>whnf)
  |(refine ⟨_,c_Curve [chn0] len0,?_⟩;conv=>whnf)
  |(refine ⟨_,c_Peaks [chn0] len0,?_⟩;conv=>whnf)
  |(refine ⟨_,c_Highest [chn0] len0,?_⟩;conv=>whnf)
  |(refine ⟨_,q_SameInts (bypS chn0 6).1 [1] (by decide),?_⟩;conv=>whnf)
  |(refine ⟨_,q_SameInts (curveS [chn0]).1 [9,9,8,8,5,4,4,4,4,4,2,0,0] (by decide),?_⟩;conv=>whnf)
  |(refine ⟨_,q_SameInts (peaksS [chn0]).1 [3,9] (by decide),?_⟩;conv=>whnf)
  |(refine And.intro ?_ ?_;kernel_rfl;conv=>whnf))
 all_goals (first
  |(exfalso;revert hg;decide)
  |skip)
 have k1:=c_Certificate [chn0] len0
 have k2:=c_FieldCurrent [chn0,[cel1]] 0 len1
 have k3:=c_Power [chn0] 8 len0
 have k4:=c_Mismatch [chn0,chn0] len2
 have k5:=c_Bounds [chn0] 3 100 len0
 have k6:=c_Shape [10,9,7] [9,8,7] (by decide) (by decide)
 have k7:=c_Shape [10,9,7] [10,5,5] (by decide) (by decide)
 have k8:=c_Print chn0 (by decide) (by decide)
 rw [ev13] at k1
 rw [ev14] at k2
 rw [ev15] at k3
 rw [ev16] at k4
 rw [ev17] at k5
 rw [ev18] at k6
 rw [ev19] at k7
 rw [ev22] at k8
 clear hg
 have k9:=q_SameInts [0,5,10] [0,5,10] (by decide)
 have k10:=c_CheckCertificate [chn0] 36 [0,5,10] len0 (by decide)
 have k11:=c_CheckCertificate [chn0] 35 [0,5,10] len0 (by decide)
 rw [ev20] at k10
 rw [ev23] at k11
 repeat' (first
  |(refine ⟨fun hg=>?_,fun hg=>?_⟩<;>first|contradiction|(conv=>whnf))
  |(refine Or.inl ?_;conv=>whnf)
  |(refine ⟨_,l_chain ..,?_⟩;conv=>whnf)
  |(refine ⟨_,l_bright ..,?_⟩;conv=>whnf)
  |(refine ⟨_,k1,?_⟩;conv=>whnf)
  |(refine ⟨_,k2,?_⟩;conv=>whnf)
  |(refine ⟨_,k3,?_⟩;conv=>whnf)
  |(refine ⟨_,k4,?_⟩;conv=>whnf)
  |(refine ⟨_,k5,?_⟩;conv=>whnf)
  |(refine ⟨_,k6,?_⟩;conv=>whnf)
  |(refine ⟨_,k7,?_⟩;conv=>whnf)
  |(refine ⟨_,k8,?_⟩;conv=>whnf)
  |(refine ⟨_,k9,?_⟩;conv=>whnf)
  |(refine ⟨_,k10,?_⟩;conv=>whnf)
  |(refine ⟨_,k11,?_⟩;conv=>whnf)
  |(refine And.intro ?_ ?_;kernel_rfl;conv=>whnf))
 all_goals (first|rfl|(exfalso;revert hg;decide))
end Sh
