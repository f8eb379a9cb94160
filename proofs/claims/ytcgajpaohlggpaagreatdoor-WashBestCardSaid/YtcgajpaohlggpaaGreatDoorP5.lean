/-
  Chapter 8's functions, walked over pure data: the library of the walk, the functions' code over data, and what each computes. (part 5)
-/
import Derived.Test.YtcgajpaohlggpaaGreatDoorP4
import Derived.Test.YtcgajpaohlggpaaGreatDoorProg
import Derived.Shelf.LaysM
import Derived.Shelf.Strconv.Itoa3
import Derived.Shelf.Strings.OnBuilder
import Derived.Shelf.Small.Strs
import Derived.Shelf.Small.Wraps
import Derived.Shelf.Strings.Split
import Derived.Lib.ItoaLen
set_option linter.unusedVariables false
set_option linter.unusedSimpArgs false
set_option maxRecDepth 100000
namespace Sh
open Go Go.Proofs
theorem c_mappedI (l:List Int) (f:FuncId) (g:Int→Int) (hl:l.length < 1073741824) (hf:∀ c ∈ l,PC f [DV.int .i64 (c)] (DV.int .i64 (g c))):PC 115 [iL l,.func f []] (iL (l.map g)):=by
 have e0:((l.map (DV.int .i64)).length:Int)=l.length:=by simp
 refine pureCall_ofR dh115 rfl ?_
 conv=>whnf
 refine dwp_loopU (P:=Tryz.prog) (G:=GC) (k:=dk115_0) (b:=db115_0) (α:=Nat) (fun i=>[(5,.own 5 0 (oI g l i).length (oI g l i).length),(10,DV.int .i64 (i))]) (fun i=>[(5,.row 1 (oI g l i) false)]) (fun i=>i≤l.length) (fun i=>l.length - i) 0 (Nat.zero_le _) ?_
 conv=>whnf
 refine ⟨rfl,rfl,?_⟩
 conv=>whnf
 refine ⟨rfl,?_⟩
 intro i h1
 conv=>whnf
 refine ⟨fun hb=>?_,fun hb=>?_⟩
 ·have hi:i < l.length:=by simpa using hb
  clear hb
  conv=>whnf
  rw [getD_enc _ _ (i) 0 hi]
  refine ⟨idxA hi rfl,?_⟩
  conv=>whnf
  refine .inl ?_
  conv=>whnf
  refine ⟨_,hf _ (getD_in 0 hi),?_⟩
  conv=>whnf
  refine ⟨⟨rfl,rfl,rfl,by rw [oI_len g l i h1];simp;omega,fun e he=>by simp at he;subst he;rfl⟩,?_⟩
  conv=>whnf
  rw [wrap_succ i (by omega)]
  refine ⟨i+1,rfl,?_,?_,hi,by omega⟩
  ·rw [oI_succ g l i 0 hi];rfl
  ·rw [oI_succ g l i 0 hi];rfl
 ·have hi:i=l.length:=by have:=of_decide_eq_false hb;rw [e0] at this;omega
  clear hb
  conv=>whnf
  exact ⟨rfl,by rw [window_full,hi,oI_all];rfl⟩
theorem c_tbE (x:Int):PC 116 [DV.int .i64 (x)] (DV.int .i64 (tbE x)):=by
 refine pureCall_ofR dh116 rfl ?_
 conv=>whnf
 repeat' (first
  |(refine ⟨fun hg=>?_,fun hg=>?_⟩<;>first|contradiction|(conv=>whnf))
  |(refine Or.inl ?_;conv=>whnf)
  |(refine ⟨_,c_within ..,?_⟩;conv=>whnf)
  |(refine And.intro ?_ ?_;kernel_rfl;conv=>whnf))
 rfl
noncomputable def chkTV (s:Sn) (tb:List Int) (v:Int):Int:=if chkSn s≠0 then chkSn s else if chkTb s tb≠0 then chkTb s tb else if prvB s tb v=true then 0 else 19
theorem tb_first (s:Sn) (tb:List Int):firstE [whenE (decide (tb.length≠s.days.length+1)) 2,firstE (tb.map tbE)]=chkTb s tb:=by
 unfold chkTb
 by_cases h:tb.length≠s.days.length+1
 ·rw [if_pos h,decide_eq_true h];rfl
 ·rw [if_neg h,decide_eq_false h]
  generalize firstE (tb.map tbE)=q
  show (if (0:Int)≠0 then 0 else firstE [q])=q
  rw [if_neg (by simp),firstE_one]
def tbH (s:Sn) (tb:List Int) (v:Int) (f j:Nat):Heap:=[(3,.box 6 (encS s)),(4,.box 1 (iL tb)),(5,.box 1 (DV.int .i64 (v))),(6,.box 1 (DV.int .i64 (0))),(8,.box 1 (DV.int .i64 (s.days.length))),(10,.box 1 (DV.int .i64 (f))),(11,.box 1 (DV.int .i64 (sunS s 0 f j)))]
def tbI (s:Sn) (tb:List Int) (v:Int) (j:Nat):Heap:=[(3,.box 6 (encS s)),(4,.box 1 (iL tb)),(5,.box 1 (DV.int .i64 (v))),(6,.box 1 (DV.int .i64 (0))),(8,.box 1 (DV.int .i64 (s.days.length))),(14,.box 1 (DV.int .i64 (sunS s s.soil 0 j)))]
theorem c_CheckTable (s:Sn) (tb:List Int) (v:Int) (hl:s.days.length < 1073741824) (htl:tb.length < 1073741824):PC 43 [encS s,iL tb,DV.int .i64 (v)] (DV.int .i64 (chkTV s tb v)):=by
 have k1:=c_CheckSeason s hl
 by_cases hc:chkSn s≠0
 ·have hk:chkTV s tb v=chkSn s:=by unfold chkTV;rw [if_pos hc]
  rw [hk]
  generalize chkSn s=k at *
  refine pureCall_ofR dh43 rfl ?_
  conv=>whnf
  repeat' (first
   |(refine ⟨fun hg=>?_,fun hg=>?_⟩<;>first|contradiction|(exfalso;revert hg;simp;done)|(exfalso;exact absurd (of_decide_eq_true hg) (by assumption))|(exfalso;exact absurd (by assumption) (of_decide_eq_false hg))|(conv=>whnf))
   |(refine Or.inl ?_;conv=>whnf)
   |(refine ⟨_,k1,?_⟩;conv=>whnf)
   |(refine And.intro ?_ ?_;kernel_rfl;conv=>whnf))
  rfl
 have hs:OkSn s:=chkSn_zero (by omega)
 have hn:=hs.n1
 have hc0:=hs.c0
 have hc1:=hs.c1
 have e0:((tb.map (DV.int .i64)).length:Int)=tb.length:=by simp
 have e1:((s.days.map encD).length:Int)=s.days.length:=by simp
 have k2:=c_mappedI tb 116 tbE htl (fun c _=>c_tbE c)
 have k3:=c_first (tb.map tbE) (by simp;omega)
 have hfe:=tb_first s tb
 have hd1:decide ((tb.length:Int)≠((s.days.length+1:Nat):Int))=decide (tb.length≠s.days.length+1):=by rw [decide_eq_decide];omega
 have hk0:chkSn s=0:=by omega
 by_cases hc2:chkTb s tb≠0
 ·have hk:chkTV s tb v=chkTb s tb:=by unfold chkTV;rw [if_neg hc,if_pos hc2]
  rw [hk]
  rw [hk0] at k1
  refine pureCall_ofR dh43 rfl ?_
  conv=>whnf
  refine .inl ?_
  conv=>whnf
  refine ⟨_,k1 ..,?_⟩
  conv=>whnf
  refine ⟨fun hg=>absurd hg (by decide),fun _=>?_⟩
  conv=>whnf
  rw [e0,e1,wrap_succ _ (by omega),hd1]
  repeat' (first
   |(refine ⟨fun hg=>?_,fun hg=>?_⟩<;>first|contradiction|(exfalso;revert hg;simp;done)|(exfalso;exact absurd (of_decide_eq_true hg) (by assumption))|(exfalso;exact absurd (by assumption) (of_decide_eq_false hg))|(conv=>whnf))
   |(refine Or.inl ?_;conv=>whnf)
   |(refine ⟨_,k2,?_⟩;conv=>whnf)
   |(refine ⟨_,k3,?_⟩;conv=>whnf)
   |(refine ⟨_,c_when ..,?_⟩;conv=>whnf)
   |(refine ⟨_,c_first [_,_] (by simp),?_⟩;conv=>whnf)
   |(refine And.intro ?_ ?_;kernel_rfl;conv=>whnf))
  ·exact int_eq hfe
  ·exact absurd hc2 (by have:=of_decide_eq_false hg;rw [hfe] at this;exact this)
 ·have hk:chkTV s tb v=if prvB s tb v=true then 0 else 19:=by unfold chkTV;rw [if_neg hc,if_neg hc2]
  rw [hk]
  rw [hk0] at k1
  have hok:=chkTb_ok (s:=s) (tb:=tb) (by omega)
  have hfe0:firstE [whenE (decide (tb.length≠s.days.length+1)) 2,firstE (tb.map tbE)]=0:=by rw [hfe];omega
  have hx:∀ i,i≤s.days.length → -100000000000≤tb.getD i 0∧tb.getD i 0≤100000000000:=fun i hi=>hok.2 _ (getD_in 0 (by omega))
  have htl':=hok.1
  have hno:¬ Prv s tb v→(if prvB s tb v=true then (0:Int) else 19)=19:=fun h=>by rw [prvB_no h];rfl
  have hyes:Prv s tb v→(if prvB s tb v=true then (0:Int) else 19)=0:=fun h=>by rw [prvB_yes h];rfl
  generalize (if prvB s tb v=true then (0:Int) else 19)=r at *
  refine pureCall_ofR dh43 rfl ?_
  conv=>whnf
  refine .inl ?_
  conv=>whnf
  refine ⟨_,k1 ..,?_⟩
  conv=>whnf
  refine ⟨fun hg=>absurd hg (by decide),fun _=>?_⟩
  conv=>whnf
  rw [e0,e1,wrap_succ _ (by omega),hd1]
  repeat' (first
   |(rw [hfe0];conv=>whnf)
   |(refine ⟨fun hg=>?_,fun hg=>?_⟩<;>first|contradiction|(exfalso;revert hg;simp;done)|(exfalso;exact absurd (of_decide_eq_true hg) (by assumption))|(exfalso;exact absurd (by assumption) (of_decide_eq_false hg))|(conv=>whnf))
   |(refine Or.inl ?_;conv=>whnf)
   |(refine ⟨_,k2,?_⟩;conv=>whnf)
   |(refine ⟨_,k3,?_⟩;conv=>whnf)
   |(refine ⟨_,c_when ..,?_⟩;conv=>whnf)
   |(refine ⟨_,c_first [_,_] (by simp),?_⟩;conv=>whnf)
   |(refine And.intro ?_ ?_;kernel_rfl;conv=>whnf))
  rw [getD_enc _ _ (s.days.length) 0 (by omega:s.days.length < tb.length)]
  refine ⟨idxA (by omega:s.days.length < tb.length) rfl,?_⟩
  conv=>whnf
  refine ⟨fun hg=>?_,fun hg=>?_⟩
  ·have hg:=of_decide_eq_true hg
   conv=>whnf
   exact int_eq (hno (fun h=>by have:=h.1;omega)).symm
  ·have hg0:=of_decide_eq_false hg
   clear hg
   conv=>whnf
   refine dwp_loopU (P:=Tryz.prog) (G:=GC) (k:=dk43_1) (b:=db43_1) (α:=Nat) (fun f=>[(45,DV.int .i64 (f))]) (fun f=>[(3,.box 6 (encS s)),(4,.box 1 (iL tb)),(5,.box 1 (DV.int .i64 (v))),(6,.box 1 (DV.int .i64 (0))),(8,.box 1 (DV.int .i64 (s.days.length)))]) (fun f=>f≤s.days.length∧∀ d,d < f→∀ k,k < s.days.length - d→CP s tb d k) (fun f=>s.days.length - f) 0 ⟨Nat.zero_le _,fun d h=>by omega⟩ ?_
   conv=>whnf
   refine ⟨rfl,rfl,?_⟩
   conv=>whnf
   refine ⟨rfl,?_⟩
   intro f ⟨h1,h2⟩
   conv=>whnf
   refine ⟨fun hb=>?_,fun hb=>?_⟩
   ·have hf:f < s.days.length:=by have:=of_decide_eq_true hb;omega
    clear hb
    conv=>whnf
    refine .inr ⟨[(5,99)],_,_,_,_,h_from s f 0,⟨rfl,by kernel_rfl,?_,?_⟩,?_⟩
    ·exact trivial
    ·exact ⟨.inr rfl,trivial⟩
    conv=>whnf
    refine range_W2 (P:=Tryz.prog) (G:=GC) (x:=db43_0x) (y:=db43_0) (k:=dk43_0) (fromD s f 0) (tbH s tb v f) [(3,.bptr 3 0),(4,.bptr 4 0),(5,.bptr 5 0),(6,.bptr 6 0),(8,.bptr 8 0),(10,.bptr 10 0),(11,.bptr 11 0),(44,DV.int .i64 (s.days.length)),(45,DV.int .i64 (f))] (fun j=>∀ k,k < j→CP s tb f k) (fun k h=>by omega) (fromIt s f 0 hs (by omega) (by omega) (by omega)) rfl ⟨rfl,rfl⟩ (by decide) ⟨rfl,rfl⟩ (fun z hz=>(fromG_flat s _ _ _ z hz).2) rfl rfl rfl ?_ ?_ ?_
    ·unfold tbH;rw [sunS_zero];rfl
    ·intro j z hz hinv
     obtain ⟨hj,rfl⟩:=fromD_get s f 0 j z hz
     have hsb:=soil_bd hs 0 (by omega) (by omega) f j hj
     have hd:=hs.ds _ (getD_in D0 hj)
     have k4:=c_lightD (s.days.getD (f+j) D0) ((fromS s 0 (s.days.drop f)).getD j 0) hd hsb.1 hsb.2
     have hsu:=sunS_succ s 0 f j hj
     have b1:=sunS_bd hs 0 (by omega) (by omega) f j
     have b2:=sunS_bd hs 0 (by omega) (by omega) f (j+1)
     have hpr:=priced_bd hs b2.1 b2.2
     have hq:=hx (f+j+1) (by omega)
     have hcp:CP s tb f j ↔ s.price * sunS s 0 f (j+1) - s.cost+tb.getD (f+j+1) 0≤tb.getD f 0:=Iff.rfl
     unfold tbH
     generalize (fromS s 0 (s.days.drop f)).getD j 0=so at *
     generalize sunS s 0 f j=A at *
     generalize hA':sunS s 0 f (j+1)=A' at *
     conv=>whnf
     rw [getD_enc _ _ ((f+j)) D0 hj]
     refine ⟨idxA hj rfl,?_⟩
     conv=>whnf
     refine .inl ?_
     conv=>whnf
     refine ⟨_,k4 ..,?_⟩
     conv=>whnf
     rw [show IntKind.i64.wrap (A+lgtS (s.days.getD (f+j) D0) so)=A' from by rw [wrap_in (by omega) (by omega)];omega]
     refine ⟨by kernel_rfl,?_⟩
     conv=>whnf
     rw [getD_enc _ _ (f) 0 (by omega:f < tb.length)]
     refine ⟨idxA (by omega:f < tb.length) rfl,?_⟩
     conv=>whnf
     rw [wrap_succ (f+j) (by omega)]
     rw [getD_enc _ _ (f+j+1) 0 (by omega)]
     refine ⟨idxA (by omega) rfl,?_⟩
     conv=>whnf
     rw [wrap_in (n:=s.price * A') (by omega) (by omega),wrap_in (n:=s.price * A' - s.cost) (by omega) (by omega),wrap_in (n:=s.price * A' - s.cost+_) (by omega) (by omega)]
     refine ⟨by kernel_rfl,?_⟩
     conv=>whnf
     refine ⟨fun hg=>?_,fun hg=>?_⟩
     ·have hg:=of_decide_eq_true hg
      conv=>whnf
      refine ⟨rfl,rfl,fun k hk=>?_⟩
      by_cases h:k=j
      ·subst h;exact hcp.2 (by omega)
      ·exact hinv k (by omega)
     ·have hg:=of_decide_eq_false hg
      have hnp:¬ Prv s tb v:=fun h=>by have:=hcp.1 (h.2.1 f hf j (by omega));omega
      conv=>whnf
      refine ⟨rfl,?_⟩
      conv=>whnf
      refine ⟨fun _=>?_,fun hg=>absurd hg (by decide)⟩
      conv=>whnf
      exact int_eq (hno hnp).symm
    ·intro hinv
     rw [fromD_len] at hinv ⊢
     unfold tbH
     conv=>whnf
     rw [wrap_succ f (by omega)]
     refine ⟨f+1,rfl,rfl,rfl,⟨hf,fun d hd j hj=>?_⟩,by omega⟩
     by_cases h:d=f
     ·subst h;exact hinv j hj
     ·exact h2 d (by omega) j hj
   ·have hf:f=s.days.length:=by have:=of_decide_eq_false hb;omega
    subst hf
    clear hb
    conv=>whnf
    refine ⟨fun hg=>absurd (of_decide_eq_true hg) (by omega),fun hg=>?_⟩
    clear hg
    conv=>whnf
    refine .inr ⟨[(5,99)],_,_,_,_,h_from s 0 s.soil,⟨rfl,by kernel_rfl,?_,?_⟩,?_⟩
    ·exact trivial
    ·exact ⟨.inr rfl,trivial⟩
    conv=>whnf
    refine range_W2 (P:=Tryz.prog) (G:=GC) (x:=db43_2x) (y:=db43_2) (k:=dk43_2) (fromD s 0 s.soil) (tbI s tb v) [(3,.bptr 3 0),(4,.bptr 4 0),(5,.bptr 5 0),(6,.bptr 6 0),(8,.bptr 8 0),(14,.bptr 14 0)] (fun j=>∀ k,k < j→DP s tb v k) (fun k h=>by omega) (fromIt s 0 s.soil hs (by omega) hs.s0 hs.s1) rfl ⟨rfl,rfl⟩ (by decide) ⟨rfl,rfl⟩ (fun z hz=>(fromG_flat s _ _ _ z hz).2) rfl rfl rfl ?_ ?_ ?_
    ·unfold tbI;rw [sunS_zero];rfl
    ·intro j z hz hinv
     obtain ⟨hj,rfl⟩:=fromD_get s 0 s.soil j z hz
     rw [Nat.zero_add] at hj ⊢
     have hsb:=soil_bd hs s.soil hs.s0 hs.s1 0 j (by omega)
     have hd:=hs.ds _ (getD_in D0 hj)
     have k4:=c_lightD (s.days.getD j D0) ((fromS s s.soil (s.days.drop 0)).getD j 0) hd hsb.1 hsb.2
     have hsu:=sunS_succ s s.soil 0 j (by omega)
     rw [Nat.zero_add] at hsu
     have b1:=sunS_bd hs s.soil hs.s0 hs.s1 0 j
     have b2:=sunS_bd hs s.soil hs.s0 hs.s1 0 (j+1)
     have hpr:=priced_bd hs b1.1 b1.2
     have hq:=hx j (by omega)
     have hdp:DP s tb v j ↔ s.price * sunS s s.soil 0 j+tb.getD j 0≤v:=Iff.rfl
     unfold tbI
     generalize (fromS s s.soil (s.days.drop 0)).getD j 0=so at *
     generalize sunS s s.soil 0 j=A at *
     generalize hA':sunS s s.soil 0 (j+1)=A' at *
     conv=>whnf
     rw [getD_enc _ _ (j) 0 (by omega:j < tb.length)]
     refine ⟨idxA (by omega:j < tb.length) rfl,?_⟩
     conv=>whnf
     rw [wrap_in (n:=s.price * A) (by omega) (by omega),wrap_in (n:=s.price * A+_) (by omega) (by omega)]
     refine ⟨by kernel_rfl,?_⟩
     conv=>whnf
     refine ⟨fun hg=>?_,fun hg=>?_⟩
     ·have hg:=of_decide_eq_true hg
      have hnp:¬ Prv s tb v:=fun h=>by have:=hdp.1 (h.2.2 j (by omega));omega
      conv=>whnf
      refine ⟨rfl,?_⟩
      conv=>whnf
      exact int_eq (hno hnp).symm
     ·have hg:=of_decide_eq_false hg
      conv=>whnf
      rw [getD_enc _ _ (j) D0 hj]
      refine ⟨idxA hj rfl,?_⟩
      conv=>whnf
      refine .inl ?_
      conv=>whnf
      refine ⟨_,k4 ..,?_⟩
      conv=>whnf
      refine ⟨by kernel_rfl,?_⟩
      conv=>whnf
      rw [show IntKind.i64.wrap (A+lgtS (s.days.getD j D0) so)=A' from by rw [wrap_in (by omega) (by omega)];omega]
      refine ⟨rfl,rfl,fun k hk=>?_⟩
      by_cases h:k=j
      ·subst h;exact hdp.2 (by omega)
      ·exact hinv k (by omega)
    ·intro hinv
     rw [fromD_len,Nat.sub_zero] at hinv ⊢
     have b1:=sunS_bd hs s.soil hs.s0 hs.s1 0 s.days.length
     have hpr:=priced_bd hs b1.1 b1.2
     have hq:=hx s.days.length (Nat.le_refl _)
     have hdp:DP s tb v s.days.length ↔ s.price * sunS s s.soil 0 s.days.length+tb.getD s.days.length 0≤v:=Iff.rfl
     unfold tbI
     generalize sunS s s.soil 0 s.days.length=A at *
     conv=>whnf
     rw [getD_enc _ _ (s.days.length) 0 (by omega:s.days.length < tb.length)]
     refine ⟨idxA (by omega:s.days.length < tb.length) rfl,?_⟩
     conv=>whnf
     rw [wrap_in (n:=s.price * A) (by omega) (by omega),wrap_in (n:=s.price * A+_) (by omega) (by omega)]
     repeat' (first
      |(refine ⟨fun hg=>?_,fun hg=>?_⟩<;>first|contradiction|(conv=>whnf))
      |(refine Or.inl ?_;conv=>whnf)
      |(refine ⟨_,c_when ..,?_⟩;conv=>whnf)
      |(refine And.intro ?_ ?_;kernel_rfl;conv=>whnf))
     refine int_eq ?_
     by_cases hv:v < s.price * A+tb.getD s.days.length 0
     ·rw [decide_eq_true hv,hno (fun h=>by have:=hdp.1 (h.2.2 _ (Nat.le_refl _));omega)];rfl
     ·rw [decide_eq_false hv,hyes ⟨by omega,h2,fun t ht=>by
       by_cases h:t=s.days.length
       ·subst h;exact hdp.2 (by omega)
       ·exact hinv t (by omega)⟩];rfl
end Sh

namespace Sh
open Go Go.Proofs
end Sh

namespace Sh
open Go Go.Proofs
end Sh

namespace Sh
open Go
def db55_0 : DC := (.seq (.ops false [⟨some 14,.bin .lss (.tmp 13) (.tmp 12),none,[]⟩]) (.seq (.cond (.tmp 14) .skip (.exit 0)) (.seq (.block 1 none (.seq (.ops false [⟨some 15,.iaddr 5 (.tmp 11) (.tmp 13),none,[]⟩,⟨some 16,.load (some 5) (.tmp 15),none,[]⟩,⟨some 5,.alloc (.agg [.str [],.int .i64 0,.int .i64 0,.int .i64 0,.int .i64 0]) 5,none,[]⟩,⟨none,.store 5 (.tmp 5) (.tmp 16),none,[]⟩]) (.seq (.seq (.ops true [⟨some 17,.faddr 0 1 false (.tmp 5),none,[]⟩,⟨some 18,.load none (.tmp 17),none,[0]⟩,⟨some 19,.call (.func 124) [.tmp 18],none,[1,0]⟩,⟨some 20,.un .not (.tmp 19),none,[2,1,0]⟩,⟨some 21,.call (.func 99) [.tmp 20,.const (.int .i64 8)],none,[3,2,1,0]⟩,⟨some 22,.mov (.tmp 3),none,[]⟩,⟨some 23,.faddr 0 1 false (.tmp 5),none,[]⟩,⟨some 24,.load none (.tmp 23),none,[6]⟩,⟨some 25,.lookup 2 [] false (.bool false) (.tmp 22) (.tmp 24),none,[5,7,6]⟩,⟨some 26,.call (.func 99) [.tmp 25,.const (.int .i64 9)],none,[8,5,7,6,4,3,2,1,0]⟩,⟨some 27,.faddr 1 2 true (.tmp 5),none,[]⟩,⟨some 28,.load (some 2) (.tmp 27),none,[10]⟩,⟨some 29,.call (.func 125) [.tmp 28],none,[11,10,9,8,5,7,6,4,3,2,1,0]⟩,⟨some 30,.faddr 3 1 false (.tmp 5),none,[]⟩,⟨some 31,.load none (.tmp 30),none,[13]⟩,⟨some 32,.call (.func 102) [.tmp 31,.const (.int .i64 0),.const (.int .i64 1000000)],none,[14,13,12,11,10,9,8,5,7,6,4,3,2,1,0]⟩,⟨some 33,.faddr 4 1 false (.tmp 5),none,[]⟩,⟨some 34,.load none (.tmp 33),none,[16]⟩,⟨some 35,.call (.func 102) [.tmp 34,.const (.int .i64 0),.const (.int .i64 10000)],none,[17,16,15,14,13,12,11,10,9,8,5,7,6,4,3,2,1,0]⟩,⟨some 36,.lit true 1 5 (.int .i64 0) [(0,(.tmp 21)),(1,(.tmp 26)),(2,(.tmp 29)),(3,(.tmp 32)),(4,(.tmp 35))],none,[4,3,2,1,0,9,8,5,7,6,12,11,10,15,14,13,18,17,16]⟩,⟨some 37,.call (.func 98) [.tmp 36],none,[19,4,3,2,1,0,9,8,5,7,6,12,11,10,15,14,13,18,17,16]⟩,⟨some 6,.mov (.tmp 37),none,[20,19,4,3,2,1,0,9,8,5,7,6,12,11,10,15,14,13,18,17,16]⟩]) (.seq (.ops false [⟨some 38,.mov (.tmp 6),none,[]⟩,⟨some 39,.bin .neq (.tmp 38) (.const (.int .i64 0)),none,[]⟩]) (.cond (.tmp 39) (.seq (.ops false [⟨some 40,.mov (.tmp 6),none,[]⟩,⟨some 2,.mov (.tmp 40),none,[]⟩]) .ret) .skip))) (.ops false [⟨some 41,.mov (.tmp 3),none,[]⟩,⟨some 42,.faddr 0 1 false (.tmp 5),none,[]⟩,⟨some 43,.load none (.tmp 42),none,[]⟩,⟨none,.mapset 2 [] (.tmp 41) (.tmp 43) (.const (.bool true)),none,[]⟩])))) (.ops false [⟨some 44,.bin .add (.tmp 13) (.const (.int .i64 1)),none,[]⟩,⟨some 13,.mov (.tmp 44),none,[]⟩]))))
def dk55_0 : Keep := ⟨[],[3,11,12,13],[10]⟩
def dc55 : DFunc := ⟨45,1,[.tmp 2],.seq (.ops false [⟨some 2,.mov (.const (.int .i64 0)),none,[]⟩]) (.seq (.seq (.ops false [⟨some 7,.mov (.tmp 0),none,[]⟩,⟨some 8,.len (.tmp 7),none,[]⟩,⟨some 9,.bin .gtr (.tmp 8) (.const (.int .i64 8)),none,[]⟩]) (.cond (.tmp 9) (.seq (.ops false [⟨some 2,.mov (.const (.int .i64 5)),none,[]⟩]) .ret) .skip)) (.seq (.ops false [⟨some 10,.makemap,none,[]⟩,⟨some 3,.mov (.tmp 10),none,[]⟩]) (.seq (.seq (.ops false [⟨some 11,.mov (.tmp 0),none,[]⟩,⟨some 12,.len (.tmp 11),none,[]⟩,⟨some 13,.mov (.const (.int .i64 0)),none,[]⟩]) (.block 0 (some ⟨[],[],[10]⟩) (.loop dk55_0 db55_0))) (.seq (.ops false [⟨some 2,.mov (.const (.int .i64 0)),none,[]⟩]) .ret))))⟩
theorem dh55:cProg Go.Proofs.Tryz.prog ⟨[(0,⟨[],[3,11,12,13],[10]⟩)],[(0,⟨[],[],[10]⟩)],[36]⟩ 55=some dc55:=by kernel_rfl
def db62_0 : DC := (.seq (.seq (.ops false [⟨some 4,.mov (.tmp 3),none,[]⟩,⟨some 5,.mov (.tmp 0),none,[]⟩,⟨some 6,.len (.tmp 5),none,[]⟩,⟨some 7,.bin .lss (.tmp 4) (.tmp 6),none,[]⟩]) (.cond (.tmp 7) .skip (.exit 0))) (.seq (.block 1 none (.seq (.ops false [⟨some 10,.mov (.tmp 0),none,[]⟩,⟨some 11,.mov (.tmp 3),none,[]⟩,⟨some 12,.iaddr 3 (.tmp 10) (.tmp 11),none,[]⟩,⟨some 13,.faddr 0 1 false (.tmp 12),none,[]⟩,⟨some 14,.load none (.tmp 13),none,[]⟩,⟨some 15,.lenS (.tmp 14),none,[]⟩,⟨some 16,.bin .gtr (.tmp 15) (.const (.int .i64 40)),none,[]⟩]) (.cond (.tmp 16) (.seq (.ops false [⟨some 2,.mov (.const (.bool false)),none,[]⟩]) .ret) .skip))) (.ops false [⟨some 8,.mov (.tmp 3),none,[]⟩,⟨some 9,.bin .add (.tmp 8) (.const (.int .i64 1)),none,[]⟩,⟨some 3,.mov (.tmp 9),none,[]⟩])))
def dk62_0 : Keep := ⟨[],[0,3],[]⟩
def dc62 : DFunc := ⟨25,1,[.tmp 2],.seq (.ops false [⟨some 2,.mov (.const (.bool false)),none,[]⟩]) (.seq (.seq (.ops false [⟨some 3,.mov (.const (.int .i64 0)),none,[]⟩]) (.block 0 (some ⟨[],[0],[]⟩) (.loop dk62_0 db62_0))) (.seq (.ops false [⟨some 17,.mov (.tmp 0),none,[]⟩,⟨some 18,.len (.tmp 17),none,[]⟩,⟨some 19,.bin .leq (.tmp 18) (.const (.int .i64 6)),none,[]⟩,⟨some 20,.mov (.tmp 19),none,[]⟩,⟨some 21,.mov (.tmp 0),some (20,false),[]⟩,⟨some 22,.len (.tmp 21),some (20,false),[]⟩,⟨some 23,.bin .eql (.tmp 22) (.const (.int .i64 17)),some (20,false),[]⟩,⟨some 24,.pick (.tmp 20) (.const (.bool true)) (.tmp 23),none,[]⟩,⟨some 2,.mov (.tmp 24),none,[]⟩]) .ret))⟩
theorem dh62:cProg Go.Proofs.Tryz.prog ⟨[(0,⟨[],[0,3],[]⟩)],[(0,⟨[],[0],[]⟩)],[]⟩ 62=some dc62:=by kernel_rfl
def db63_0 : DC := (.seq (.seq (.ops false [⟨some 4,.mov (.tmp 3),none,[]⟩,⟨some 5,.mov (.tmp 0),none,[]⟩,⟨some 6,.len (.tmp 5),none,[]⟩,⟨some 7,.bin .lss (.tmp 4) (.tmp 6),none,[]⟩]) (.cond (.tmp 7) .skip (.exit 0))) (.seq (.block 1 none (.seq (.ops false [⟨some 10,.mov (.tmp 0),none,[]⟩,⟨some 11,.mov (.tmp 3),none,[]⟩,⟨some 12,.iaddr 2 (.tmp 10) (.tmp 11),none,[]⟩,⟨some 13,.faddr 0 1 false (.tmp 12),none,[]⟩,⟨some 14,.load none (.tmp 13),none,[]⟩,⟨some 15,.lenS (.tmp 14),none,[]⟩,⟨some 16,.bin .gtr (.tmp 15) (.const (.int .i64 40)),none,[]⟩]) (.cond (.tmp 16) (.seq (.ops false [⟨some 2,.mov (.const (.bool false)),none,[]⟩]) .ret) .skip))) (.ops false [⟨some 8,.mov (.tmp 3),none,[]⟩,⟨some 9,.bin .add (.tmp 8) (.const (.int .i64 1)),none,[]⟩,⟨some 3,.mov (.tmp 9),none,[]⟩])))
def dk63_0 : Keep := ⟨[],[0,3],[]⟩
def dc63 : DFunc := ⟨25,1,[.tmp 2],.seq (.ops false [⟨some 2,.mov (.const (.bool false)),none,[]⟩]) (.seq (.seq (.ops false [⟨some 3,.mov (.const (.int .i64 0)),none,[]⟩]) (.block 0 (some ⟨[],[0],[]⟩) (.loop dk63_0 db63_0))) (.seq (.ops false [⟨some 17,.mov (.tmp 0),none,[]⟩,⟨some 18,.len (.tmp 17),none,[]⟩,⟨some 19,.bin .leq (.tmp 18) (.const (.int .i64 6)),none,[]⟩,⟨some 20,.mov (.tmp 19),none,[]⟩,⟨some 21,.mov (.tmp 0),some (20,false),[]⟩,⟨some 22,.len (.tmp 21),some (20,false),[]⟩,⟨some 23,.bin .eql (.tmp 22) (.const (.int .i64 17)),some (20,false),[]⟩,⟨some 24,.pick (.tmp 20) (.const (.bool true)) (.tmp 23),none,[]⟩,⟨some 2,.mov (.tmp 24),none,[]⟩]) .ret))⟩
theorem dh63:cProg Go.Proofs.Tryz.prog ⟨[(0,⟨[],[0,3],[]⟩)],[(0,⟨[],[0],[]⟩)],[]⟩ 63=some dc63:=by kernel_rfl
def db64_0 : DC := (.seq (.ops false [⟨some 28,.bin .lss (.tmp 27) (.tmp 26),none,[]⟩]) (.seq (.cond (.tmp 28) .skip (.exit 0)) (.seq (.block 1 none (.seq (.ops false [⟨some 29,.iaddr 2 (.tmp 25) (.tmp 27),none,[]⟩,⟨some 30,.load (some 2) (.tmp 29),none,[]⟩,⟨some 9,.alloc (.agg [.str [],.int .i64 0]) 2,none,[]⟩,⟨none,.store 2 (.tmp 9) (.tmp 30),none,[]⟩]) (.seq (.ops false [⟨some 31,.mov (.tmp 7),none,[]⟩,⟨some 32,.mkfunc 133 [.tmp 9],none,[]⟩,⟨some 33,.call (.func 132) [.tmp 31,.tmp 32],none,[]⟩,⟨some 10,.mov (.tmp 33),none,[]⟩]) (.seq (.seq (.ops true [⟨some 34,.mov (.tmp 10),none,[]⟩,⟨some 35,.bin .lss (.tmp 34) (.const (.int .i64 0)),none,[0]⟩,⟨some 36,.call (.func 99) [.tmp 35,.const (.int .i64 10)],none,[1,0]⟩,⟨some 37,.faddr 1 1 false (.tmp 9),none,[]⟩,⟨some 38,.load none (.tmp 37),none,[3]⟩,⟨some 39,.call (.func 102) [.tmp 38,.const (.int .i64 1),.const (.int .i64 10000)],none,[4,3,2,1,0]⟩,⟨some 40,.lit true 1 2 (.int .i64 0) [(0,(.tmp 36)),(1,(.tmp 39))],none,[2,1,0,5,4,3]⟩,⟨some 41,.call (.func 98) [.tmp 40],none,[6,2,1,0,5,4,3]⟩,⟨some 11,.mov (.tmp 41),none,[7,6,2,1,0,5,4,3]⟩]) (.seq (.ops false [⟨some 42,.mov (.tmp 11),none,[]⟩,⟨some 43,.bin .neq (.tmp 42) (.const (.int .i64 0)),none,[]⟩]) (.cond (.tmp 43) (.seq (.ops false [⟨some 44,.mov (.tmp 11),none,[]⟩,⟨some 4,.mov (.const (.slice none 0 0)),none,[]⟩,⟨some 5,.mov (.tmp 44),none,[]⟩]) .ret) .skip))) (.seq (.seq (.ops true [⟨some 45,.mov (.tmp 7),none,[]⟩,⟨some 46,.mov (.tmp 10),none,[]⟩,⟨some 47,.iaddr 3 (.tmp 45) (.tmp 46),none,[0,1]⟩,⟨some 48,.faddr 1 1 false (.tmp 47),none,[2,0,1]⟩,⟨some 49,.load none (.tmp 48),none,[3,2,0,1]⟩,⟨some 50,.faddr 1 1 false (.tmp 9),none,[]⟩,⟨some 51,.load none (.tmp 50),none,[5]⟩,⟨some 52,.bin .lss (.tmp 49) (.tmp 51),none,[4,3,2,0,1,6,5]⟩]) (.cond (.tmp 52) (.seq (.ops false [⟨some 4,.mov (.const (.slice none 0 0)),none,[]⟩,⟨some 5,.mov (.const (.int .i64 16)),none,[]⟩]) .ret) .skip)) (.ops true [⟨some 53,.mov (.tmp 7),none,[]⟩,⟨some 54,.mov (.tmp 10),none,[]⟩,⟨some 55,.iaddr 3 (.tmp 53) (.tmp 54),none,[0,1]⟩,⟨some 56,.faddr 1 1 false (.tmp 55),none,[2,0,1]⟩,⟨some 57,.load none (.tmp 56),none,[3,2,0,1]⟩,⟨some 58,.faddr 1 1 false (.tmp 9),none,[]⟩,⟨some 59,.load none (.tmp 58),none,[5]⟩,⟨some 60,.bin .sub (.tmp 57) (.tmp 59),none,[4,3,2,0,1,6,5]⟩,⟨some 61,.iaddr 3 (.tmp 53) (.tmp 54),none,[0,1,2,3,4,5,6,7]⟩,⟨some 62,.faddr 1 1 false (.tmp 61),none,[8,0,1,2,3,4,5,6,7]⟩,⟨none,.store 1 (.tmp 62) (.tmp 60),none,[9,8,0,1,2,3,4,5,6,7]⟩])))))) (.ops false [⟨some 63,.bin .add (.tmp 27) (.const (.int .i64 1)),none,[]⟩,⟨some 27,.mov (.tmp 63),none,[]⟩]))))
def dk64_0 : Keep := ⟨[],[7,25,26,27],[18]⟩
def dc64 : DFunc := ⟨65,2,[.tmp 4,.tmp 5],.seq (.ops false [⟨some 4,.mov (.const (.slice none 0 0)),none,[]⟩,⟨some 5,.mov (.const (.int .i64 0)),none,[]⟩]) (.seq (.seq (.ops false [⟨some 12,.mov (.tmp 0),none,[]⟩,⟨some 13,.call (.func 71) [.tmp 12],none,[]⟩,⟨some 14,.mov (.tmp 1),none,[]⟩,⟨some 15,.len (.tmp 14),none,[]⟩,⟨some 16,.bin .gtr (.tmp 15) (.const (.int .i64 16)),none,[]⟩,⟨some 17,.call (.func 99) [.tmp 16,.const (.int .i64 5)],none,[]⟩,⟨some 18,.lit true 1 2 (.int .i64 0) [(0,(.tmp 13)),(1,(.tmp 17))],none,[]⟩,⟨some 19,.call (.func 98) [.tmp 18],none,[]⟩,⟨some 6,.mov (.tmp 19),none,[]⟩]) (.seq (.ops false [⟨some 20,.mov (.tmp 6),none,[]⟩,⟨some 21,.bin .neq (.tmp 20) (.const (.int .i64 0)),none,[]⟩]) (.cond (.tmp 21) (.seq (.ops false [⟨some 22,.mov (.tmp 6),none,[]⟩,⟨some 4,.mov (.const (.slice none 0 0)),none,[]⟩,⟨some 5,.mov (.tmp 22),none,[]⟩]) .ret) .skip))) (.seq (.ops false [⟨some 23,.mov (.tmp 0),none,[]⟩,⟨some 24,.call (.func 131) [.tmp 23],none,[]⟩,⟨some 7,.mov (.tmp 24),none,[]⟩]) (.seq (.seq (.ops false [⟨some 25,.mov (.tmp 1),none,[]⟩,⟨some 26,.len (.tmp 25),none,[]⟩,⟨some 27,.mov (.const (.int .i64 0)),none,[]⟩]) (.block 0 (some ⟨[],[7],[18]⟩) (.loop dk64_0 db64_0))) (.seq (.ops false [⟨some 64,.mov (.tmp 7),none,[]⟩,⟨some 4,.mov (.tmp 64),none,[]⟩,⟨some 5,.mov (.const (.int .i64 0)),none,[]⟩]) .ret))))⟩
theorem dh64:cProg Go.Proofs.Tryz.prog ⟨[(0,⟨[],[7,25,26,27],[18]⟩)],[(0,⟨[],[7],[18]⟩)],[18,40]⟩ 64=some dc64:=by kernel_rfl
def db67_0 : DC := (.seq (.ops false [⟨some 16,.bin .lss (.tmp 15) (.tmp 14),none,[]⟩]) (.seq (.cond (.tmp 16) .skip (.exit 0)) (.seq (.block 1 none (.seq (.ops false [⟨some 17,.iaddr 3 (.tmp 13) (.tmp 15),none,[]⟩,⟨some 18,.load (some 3) (.tmp 17),none,[]⟩,⟨some 7,.alloc (.agg [.str [],.int .i64 0,.int .i64 0]) 3,none,[]⟩,⟨none,.store 3 (.tmp 7) (.tmp 18),none,[]⟩]) (.seq (.ops false [⟨some 19,.faddr 1 1 false (.tmp 7),none,[]⟩,⟨some 20,.load none (.tmp 19),none,[]⟩,⟨some 21,.faddr 2 1 false (.tmp 7),none,[]⟩,⟨some 22,.load none (.tmp 21),none,[]⟩,⟨some 23,.bin .lss (.tmp 20) (.tmp 22),none,[]⟩]) (.cond (.tmp 23) (.ops false [⟨some 24,.mov (.tmp 5),none,[]⟩,⟨some 25,.faddr 0 1 false (.tmp 7),none,[]⟩,⟨some 26,.load none (.tmp 25),none,[]⟩,⟨some 27,.faddr 2 1 false (.tmp 7),none,[]⟩,⟨some 28,.load none (.tmp 27),none,[]⟩,⟨some 29,.faddr 1 1 false (.tmp 7),none,[]⟩,⟨some 30,.load none (.tmp 29),none,[]⟩,⟨some 31,.bin .sub (.tmp 28) (.tmp 30),none,[]⟩,⟨some 32,.build [.str [],.int .i64 0] [(0,(1,(.tmp 26))),(1,(1,(.tmp 31)))],none,[]⟩,⟨some 33,.lit true 2 1 (.agg [.str [],.int .i64 0]) [(0,(.tmp 32))],none,[]⟩,⟨some 34,.append false 2 (.tmp 24) (.tmp 33),none,[]⟩,⟨some 5,.mov (.tmp 34),none,[]⟩]) .skip)))) (.ops false [⟨some 35,.bin .add (.tmp 15) (.const (.int .i64 1)),none,[]⟩,⟨some 15,.mov (.tmp 35),none,[]⟩]))))
def dk67_0 : Keep := ⟨[(5,2)],[5,13,14,15],[5]⟩
def dc67 : DFunc := ⟨37,1,[.tmp 2,.tmp 3],.seq (.ops false [⟨some 2,.mov (.const (.slice none 0 0)),none,[]⟩,⟨some 3,.mov (.const (.int .i64 0)),none,[]⟩]) (.seq (.seq (.ops false [⟨some 8,.mov (.tmp 0),none,[]⟩,⟨some 9,.call (.func 71) [.tmp 8],none,[]⟩,⟨some 4,.mov (.tmp 9),none,[]⟩]) (.seq (.ops false [⟨some 10,.mov (.tmp 4),none,[]⟩,⟨some 11,.bin .neq (.tmp 10) (.const (.int .i64 0)),none,[]⟩]) (.cond (.tmp 11) (.seq (.ops false [⟨some 12,.mov (.tmp 4),none,[]⟩,⟨some 2,.mov (.const (.slice none 0 0)),none,[]⟩,⟨some 3,.mov (.tmp 12),none,[]⟩]) .ret) .skip))) (.seq (.ops false [⟨some 5,.mov (.const (.slice none 0 0)),none,[]⟩]) (.seq (.seq (.ops false [⟨some 13,.mov (.tmp 0),none,[]⟩,⟨some 14,.len (.tmp 13),none,[]⟩,⟨some 15,.mov (.const (.int .i64 0)),none,[]⟩]) (.block 0 (some ⟨[],[5],[5]⟩) (.loop dk67_0 db67_0))) (.seq (.ops false [⟨some 36,.mov (.tmp 5),none,[]⟩,⟨some 2,.mov (.tmp 36),none,[]⟩,⟨some 3,.mov (.const (.int .i64 0)),none,[]⟩]) .ret))))⟩
theorem dh67:cProg Go.Proofs.Tryz.prog ⟨[(0,⟨[(5,2)],[5,13,14,15],[5]⟩)],[(0,⟨[],[5],[5]⟩)],[33]⟩ 67=some dc67:=by kernel_rfl
def db117_0 : DC := (.seq (.ops false [⟨some 26,.bin .lss (.tmp 25) (.tmp 24),none,[]⟩]) (.seq (.cond (.tmp 26) .skip (.exit 0)) (.seq (.block 1 none (.seq (.ops false [⟨some 27,.mov (.tmp 25),none,[]⟩,⟨some 28,.iaddr 1 (.tmp 23) (.tmp 25),none,[]⟩,⟨some 29,.load none (.tmp 28),none,[]⟩,⟨some 10,.mov (.tmp 27),none,[]⟩,⟨some 11,.mov (.tmp 29),none,[]⟩]) (.seq (.ops false [⟨some 30,.mov (.tmp 2),none,[]⟩,⟨some 31,.mov (.tmp 10),none,[]⟩,⟨some 32,.slice 1 (.tmp 30) none (some (.tmp 31)) none,none,[]⟩,⟨some 33,.mov (.tmp 11),none,[]⟩,⟨some 34,.call (.func 145) [.tmp 32,.tmp 33],none,[]⟩,⟨some 35,.call (.func 99) [.tmp 34,.const (.int .i64 9)],none,[]⟩,⟨some 12,.mov (.tmp 35),none,[]⟩]) (.seq (.seq (.ops false [⟨some 36,.mov (.tmp 3),none,[]⟩]) (.cond (.tmp 36) (.ops false [⟨some 37,.mov (.tmp 10),none,[]⟩,⟨some 38,.bin .gtr (.tmp 37) (.const (.int .i64 0)),none,[]⟩,⟨some 39,.mov (.tmp 38),none,[]⟩,⟨some 40,.mov (.tmp 11),some (39,true),[]⟩,⟨some 41,.mov (.tmp 2),some (39,true),[]⟩,⟨some 42,.mov (.tmp 10),some (39,true),[]⟩,⟨some 43,.minmax true (.tmp 42) [.const (.int .i64 1)],some (39,true),[]⟩,⟨some 44,.bin .sub (.tmp 43) (.const (.int .i64 1)),some (39,true),[]⟩,⟨some 45,.iaddr 1 (.tmp 41) (.tmp 44),some (39,true),[]⟩,⟨some 46,.load none (.tmp 45),some (39,true),[]⟩,⟨some 47,.bin .leq (.tmp 40) (.tmp 46),some (39,true),[]⟩,⟨some 48,.pick (.tmp 39) (.tmp 47) (.const (.bool false)),none,[]⟩,⟨some 49,.call (.func 99) [.tmp 48,.const (.int .i64 11)],none,[]⟩,⟨some 12,.mov (.tmp 49),none,[]⟩]) .skip)) (.seq (.ops false [⟨some 50,.mov (.tmp 11),none,[]⟩,⟨some 51,.bin .lss (.tmp 50) (.const (.int .i64 0)),none,[]⟩,⟨some 52,.mov (.tmp 51),none,[]⟩,⟨some 53,.mov (.tmp 11),some (52,false),[]⟩,⟨some 54,.mov (.tmp 1),some (52,false),[]⟩,⟨some 55,.len (.tmp 54),some (52,false),[]⟩,⟨some 56,.bin .geq (.tmp 53) (.tmp 55),some (52,false),[]⟩,⟨some 57,.pick (.tmp 52) (.const (.bool true)) (.tmp 56),none,[]⟩,⟨some 58,.call (.func 99) [.tmp 57,.const (.int .i64 10)],none,[]⟩,⟨some 59,.mov (.tmp 12),none,[]⟩,⟨some 60,.lit true 1 2 (.int .i64 0) [(0,(.tmp 58)),(1,(.tmp 59))],none,[]⟩,⟨some 61,.call (.func 98) [.tmp 60],none,[]⟩,⟨some 13,.mov (.tmp 61),none,[]⟩]) (.seq (.ops false [⟨some 62,.mov (.tmp 13),none,[]⟩,⟨some 63,.bin .neq (.tmp 62) (.const (.int .i64 0)),none,[]⟩]) (.cond (.tmp 63) (.seq (.ops false [⟨some 64,.mov (.tmp 13),none,[]⟩,⟨some 8,.mov (.tmp 64),none,[]⟩]) .ret) .skip))))))) (.ops false [⟨some 65,.bin .add (.tmp 25) (.const (.int .i64 1)),none,[]⟩,⟨some 25,.mov (.tmp 65),none,[]⟩]))))
def dk117_0 : Keep := ⟨[],[1,2,3,23,24,25],[4,18]⟩
def dc117 : DFunc := ⟨66,4,[.tmp 8],.seq (.ops false [⟨some 4,.box 4 (.tmp 0),none,[]⟩,⟨some 8,.mov (.const (.int .i64 0)),none,[]⟩]) (.seq (.seq (.ops false [⟨some 14,.load (some 4) (.tmp 4),none,[]⟩,⟨some 15,.call (.func 56) [.tmp 14],none,[]⟩,⟨some 16,.mov (.tmp 1),none,[]⟩,⟨some 17,.call (.func 55) [.tmp 16],none,[]⟩,⟨some 18,.lit true 1 2 (.int .i64 0) [(0,(.tmp 15)),(1,(.tmp 17))],none,[]⟩,⟨some 19,.call (.func 98) [.tmp 18],none,[]⟩,⟨some 9,.mov (.tmp 19),none,[]⟩]) (.seq (.ops false [⟨some 20,.mov (.tmp 9),none,[]⟩,⟨some 21,.bin .neq (.tmp 20) (.const (.int .i64 0)),none,[]⟩]) (.cond (.tmp 21) (.seq (.ops false [⟨some 22,.mov (.tmp 9),none,[]⟩,⟨some 8,.mov (.tmp 22),none,[]⟩]) .ret) .skip))) (.seq (.seq (.ops false [⟨some 23,.mov (.tmp 2),none,[]⟩,⟨some 24,.len (.tmp 23),none,[]⟩,⟨some 25,.mov (.const (.int .i64 0)),none,[]⟩]) (.block 0 (some ⟨[],[],[4,18]⟩) (.loop dk117_0 db117_0))) (.seq (.ops false [⟨some 8,.mov (.const (.int .i64 0)),none,[]⟩]) .ret)))⟩
theorem dh117:cProg Go.Proofs.Tryz.prog ⟨[(0,⟨[],[1,2,3,23,24,25],[4,18]⟩)],[(0,⟨[],[],[4,18]⟩)],[18,60]⟩ 117=some dc117:=by kernel_rfl
def db118_0 : DC := (.seq (.ops false [⟨some 16,.bin .lss (.tmp 15) (.tmp 14),none,[]⟩]) (.seq (.cond (.tmp 16) .skip (.exit 0)) (.seq (.block 1 none (.seq (.ops false [⟨some 17,.iaddr 1 (.tmp 13) (.tmp 15),none,[]⟩,⟨some 18,.load none (.tmp 17),none,[]⟩,⟨some 10,.mov (.tmp 18),none,[]⟩]) (.seq (.ops true [⟨some 19,.mov (.tmp 8),none,[]⟩,⟨some 20,.load (some 2) (.tmp 7),none,[]⟩,⟨some 21,.mov (.tmp 1),none,[]⟩,⟨some 22,.mov (.tmp 10),none,[]⟩,⟨some 23,.iaddr 5 (.tmp 21) (.tmp 22),none,[2,3]⟩,⟨some 24,.faddr 1 2 true (.tmp 23),none,[4,2,3]⟩,⟨some 25,.load (some 2) (.tmp 24),none,[5,4,2,3]⟩,⟨some 26,.build [.int .i64 0,.int .i64 0,.int .i64 0,.int .i64 0] [(0,(2,(.tmp 20))),(2,(2,(.tmp 25)))],none,[1,6,5,4,2,3]⟩,⟨some 27,.call (.func 150) [.tmp 26],none,[7,1,6,5,4,2,3]⟩,⟨some 28,.bin .add (.tmp 19) (.tmp 27),none,[0,8,7,1,6,5,4,2,3]⟩,⟨some 8,.mov (.tmp 28),none,[9,0,8,7,1,6,5,4,2,3]⟩]) (.ops false [⟨some 29,.mov (.tmp 1),none,[]⟩,⟨some 30,.mov (.tmp 10),none,[]⟩,⟨some 31,.iaddr 5 (.tmp 29) (.tmp 30),none,[]⟩,⟨some 32,.faddr 1 2 true (.tmp 31),none,[]⟩,⟨some 33,.load (some 2) (.tmp 32),none,[]⟩,⟨none,.store 2 (.tmp 7) (.tmp 33),none,[]⟩])))) (.ops false [⟨some 34,.bin .add (.tmp 15) (.const (.int .i64 1)),none,[]⟩,⟨some 15,.mov (.tmp 34),none,[]⟩]))))
def dk118_0 : Keep := ⟨[],[1,3,7,8,13,14,15],[3,7]⟩
def dc118 : DFunc := ⟨42,3,[.tmp 6],.seq (.ops false [⟨some 3,.box 4 (.tmp 0),none,[]⟩,⟨some 6,.mov (.const (.int .i64 0)),none,[]⟩]) (.seq (.ops false [⟨some 11,.faddr 0 2 true (.tmp 3),none,[]⟩,⟨some 12,.load (some 2) (.tmp 11),none,[]⟩,⟨some 7,.alloc (.agg [.int .i64 0,.int .i64 0]) 2,none,[]⟩,⟨none,.store 2 (.tmp 7) (.tmp 12),none,[]⟩,⟨some 8,.mov (.const (.int .i64 0)),none,[]⟩]) (.seq (.seq (.ops false [⟨some 13,.mov (.tmp 2),none,[]⟩,⟨some 14,.len (.tmp 13),none,[]⟩,⟨some 15,.mov (.const (.int .i64 0)),none,[]⟩]) (.block 0 (some ⟨[],[3,7,8],[3,7]⟩) (.loop dk118_0 db118_0))) (.seq (.ops false [⟨some 35,.mov (.tmp 8),none,[]⟩,⟨some 36,.load (some 2) (.tmp 7),none,[]⟩,⟨some 37,.faddr 0 2 true (.tmp 3),none,[]⟩,⟨some 38,.load (some 2) (.tmp 37),none,[]⟩,⟨some 39,.build [.int .i64 0,.int .i64 0,.int .i64 0,.int .i64 0] [(0,(2,(.tmp 36))),(2,(2,(.tmp 38)))],none,[]⟩,⟨some 40,.call (.func 150) [.tmp 39],none,[]⟩,⟨some 41,.bin .add (.tmp 35) (.tmp 40),none,[]⟩,⟨some 6,.mov (.tmp 41),none,[]⟩]) .ret)))⟩
theorem dh118:cProg Go.Proofs.Tryz.prog ⟨[(0,⟨[],[1,3,7,8,13,14,15],[3,7]⟩)],[(0,⟨[],[3,7,8],[3,7]⟩)],[]⟩ 118=some dc118:=by kernel_rfl
def dc119 : DFunc := ⟨15,3,[.tmp 6,.tmp 7],.seq (.ops false [⟨some 3,.box 4 (.tmp 0),none,[]⟩,⟨some 4,.box 1 (.tmp 1),none,[]⟩,⟨some 6,.mov (.const (.slice none 0 0)),none,[]⟩,⟨some 7,.mov (.const (.int .i64 0)),none,[]⟩]) (.seq (.ops false [⟨some 8,.alloc (.full []) 1,none,[]⟩]) (.seq (.ops false [⟨some 9,.alloc (.int .i64 0) 1,none,[]⟩,⟨none,.store 1 (.tmp 9) (.const (.int .i64 (-1))),none,[]⟩]) (.seq (.ops false [⟨some 10,.mov (.tmp 2),none,[]⟩,⟨some 11,.mkfunc 152 [.tmp 3,.tmp 4,.tmp 9,.tmp 8],none,[]⟩,⟨some 12,.call (.func 151) [.const (.slice none 0 0),.tmp 10,.tmp 11],none,[]⟩]) (.seq (.ops true [⟨some 13,.load none (.tmp 8),none,[]⟩,⟨some 14,.load none (.tmp 9),none,[]⟩,⟨some 6,.mov (.tmp 13),none,[0]⟩,⟨some 7,.mov (.tmp 14),none,[1,2,0]⟩]) .ret))))⟩
theorem dh119:cProg Go.Proofs.Tryz.prog ⟨[],[],[]⟩ 119=some dc119:=by kernel_rfl
def db124_0 : DC := (.seq (.ops false [⟨some 8,.nextS (.tmp 7),none,[]⟩,⟨some 9,.extract (.tmp 8) 0,none,[]⟩]) (.seq (.cond (.tmp 9) .skip (.exit 0)) (.block 1 none (.seq (.ops false [⟨some 10,.extract (.tmp 8) 1,none,[]⟩,⟨some 11,.extract (.tmp 8) 2,none,[]⟩,⟨some 3,.mov (.tmp 10),none,[]⟩,⟨some 4,.mov (.tmp 11),none,[]⟩]) (.seq (.ops false [⟨some 12,.mov (.tmp 4),none,[]⟩,⟨some 13,.bin .geq (.tmp 12) (.const (.int .i32 97)),none,[]⟩,⟨some 14,.mov (.tmp 13),none,[]⟩,⟨some 15,.mov (.tmp 4),some (14,true),[]⟩,⟨some 16,.bin .leq (.tmp 15) (.const (.int .i32 122)),some (14,true),[]⟩,⟨some 17,.pick (.tmp 14) (.tmp 16) (.const (.bool false)),none,[]⟩,⟨some 18,.mov (.tmp 17),none,[]⟩,⟨some 19,.mov (.tmp 4),some (18,false),[]⟩,⟨some 20,.bin .geq (.tmp 19) (.const (.int .i32 65)),some (18,false),[]⟩,⟨some 21,.mov (.tmp 20),some (18,false),[]⟩,⟨some 22,.mov (.tmp 4),some (21,true),[]⟩,⟨some 23,.bin .leq (.tmp 22) (.const (.int .i32 90)),some (21,true),[]⟩,⟨some 24,.pick (.tmp 21) (.tmp 23) (.const (.bool false)),some (18,false),[]⟩,⟨some 25,.pick (.tmp 18) (.const (.bool true)) (.tmp 24),none,[]⟩,⟨some 5,.mov (.tmp 25),none,[]⟩]) (.seq (.ops false [⟨some 26,.mov (.tmp 5),none,[]⟩,⟨some 27,.un .not (.tmp 26),none,[]⟩,⟨some 28,.mov (.tmp 27),none,[]⟩,⟨some 29,.mov (.tmp 3),some (28,true),[]⟩,⟨some 30,.bin .eql (.tmp 29) (.const (.int .i64 0)),some (28,true),[]⟩,⟨some 31,.mov (.tmp 30),some (28,true),[]⟩,⟨some 32,.mov (.tmp 4),some (31,false),[]⟩,⟨some 33,.bin .neq (.tmp 32) (.const (.int .i32 95)),some (31,false),[]⟩,⟨some 34,.mov (.tmp 33),some (31,false),[]⟩,⟨some 35,.mov (.tmp 4),some (34,true),[]⟩,⟨some 36,.bin .lss (.tmp 35) (.const (.int .i32 48)),some (34,true),[]⟩,⟨some 37,.mov (.tmp 36),some (34,true),[]⟩,⟨some 38,.mov (.tmp 4),some (37,false),[]⟩,⟨some 39,.bin .gtr (.tmp 38) (.const (.int .i32 57)),some (37,false),[]⟩,⟨some 40,.pick (.tmp 37) (.const (.bool true)) (.tmp 39),some (34,true),[]⟩,⟨some 41,.pick (.tmp 34) (.tmp 40) (.const (.bool false)),some (31,false),[]⟩,⟨some 42,.pick (.tmp 31) (.const (.bool true)) (.tmp 41),some (28,true),[]⟩,⟨some 43,.pick (.tmp 28) (.tmp 42) (.const (.bool false)),none,[]⟩]) (.cond (.tmp 43) (.seq (.ops false [⟨some 2,.mov (.const (.bool false)),none,[]⟩]) .ret) .skip)))))))
def dk124_0 : Keep := ⟨[],[0,7],[7]⟩
def dc124 : DFunc := ⟨51,1,[.tmp 2],.seq (.ops false [⟨some 2,.mov (.const (.bool false)),none,[]⟩]) (.seq (.seq (.ops false [⟨some 6,.mov (.tmp 0),none,[]⟩,⟨some 7,.rangeS (.tmp 6),none,[]⟩]) (.block 0 (some ⟨[],[0],[7]⟩) (.loop dk124_0 db124_0))) (.seq (.ops false [⟨some 44,.mov (.tmp 0),none,[]⟩,⟨some 45,.bin .neq (.tmp 44) (.const (.string ⟨#[]⟩)),none,[]⟩,⟨some 46,.mov (.tmp 45),none,[]⟩,⟨some 47,.mov (.tmp 0),some (46,true),[]⟩,⟨some 48,.lenS (.tmp 47),some (46,true),[]⟩,⟨some 49,.bin .leq (.tmp 48) (.const (.int .i64 24)),some (46,true),[]⟩,⟨some 50,.pick (.tmp 46) (.tmp 49) (.const (.bool false)),none,[]⟩,⟨some 2,.mov (.tmp 50),none,[]⟩]) .ret))⟩
theorem dh124:cProg Go.Proofs.Tryz.prog ⟨[(0,⟨[],[0,7],[7]⟩)],[(0,⟨[],[0],[7]⟩)],[]⟩ 124=some dc124:=by kernel_rfl
def dc131 : DFunc := ⟨8,1,[.tmp 2],.seq (.ops false [⟨some 2,.mov (.const (.slice none 0 0)),none,[]⟩]) (.seq (.seq (.ops false [⟨some 3,.mov (.tmp 0),none,[]⟩,⟨some 4,.eqNil false (.tmp 3),none,[]⟩]) (.cond (.tmp 4) (.seq (.ops false [⟨some 2,.mov (.const (.slice none 0 0)),none,[]⟩]) .ret) .skip)) (.seq (.ops false [⟨some 5,.lit true 3 0 (.agg [.str [],.int .i64 0,.int .i64 0]) [],none,[]⟩,⟨some 6,.mov (.tmp 0),none,[]⟩,⟨some 7,.append true 3 (.tmp 5) (.tmp 6),none,[]⟩,⟨some 2,.mov (.tmp 7),none,[]⟩]) .ret))⟩
theorem dh131:cProg Go.Proofs.Tryz.prog ⟨[],[],[5,7]⟩ 131=some dc131:=by kernel_rfl
def db132_0 : DC := (.seq (.ops false [⟨some 9,.bin .lss (.tmp 8) (.tmp 7),none,[]⟩]) (.seq (.cond (.tmp 9) .skip (.exit 0)) (.seq (.block 1 none (.seq (.ops false [⟨some 10,.mov (.tmp 8),none,[]⟩,⟨some 5,.mov (.tmp 10),none,[]⟩]) (.seq (.ops false [⟨some 11,.mov (.tmp 1),none,[]⟩,⟨some 12,.mov (.tmp 0),none,[]⟩,⟨some 13,.mov (.tmp 5),none,[]⟩,⟨some 14,.iaddr 3 (.tmp 12) (.tmp 13),none,[]⟩,⟨some 15,.load (some 3) (.tmp 14),none,[]⟩,⟨some 16,.call (.tmp 11) [.tmp 15],none,[]⟩]) (.cond (.tmp 16) (.seq (.ops false [⟨some 17,.mov (.tmp 5),none,[]⟩,⟨some 4,.mov (.tmp 17),none,[]⟩]) .ret) .skip)))) (.ops false [⟨some 18,.bin .add (.tmp 8) (.const (.int .i64 1)),none,[]⟩,⟨some 8,.mov (.tmp 18),none,[]⟩]))))
def dk132_0 : Keep := ⟨[],[0,1,7,8],[]⟩
def dc132 : DFunc := ⟨19,2,[.tmp 4],.seq (.ops false [⟨some 4,.mov (.const (.int .i64 0)),none,[]⟩]) (.seq (.seq (.ops false [⟨some 6,.mov (.tmp 0),none,[]⟩,⟨some 7,.len (.tmp 6),none,[]⟩,⟨some 8,.mov (.const (.int .i64 0)),none,[]⟩]) (.block 0 (some ⟨[],[],[]⟩) (.loop dk132_0 db132_0))) (.seq (.ops false [⟨some 4,.mov (.const (.int .i64 (-1))),none,[]⟩]) .ret))⟩
theorem dh132:cProg Go.Proofs.Tryz.prog ⟨[(0,⟨[],[0,1,7,8],[]⟩)],[(0,⟨[],[],[]⟩)],[]⟩ 132=some dc132:=by kernel_rfl
def dc133 : DFunc := ⟨9,2,[.tmp 3],.seq (.ops false [⟨some 2,.box 3 (.tmp 0),none,[]⟩,⟨some 3,.mov (.const (.bool false)),none,[]⟩]) (.seq (.ops false [⟨some 4,.faddr 0 1 false (.tmp 2),none,[]⟩,⟨some 5,.load none (.tmp 4),none,[]⟩,⟨some 6,.faddr 0 1 false (.tmp 1),none,[]⟩,⟨some 7,.load none (.tmp 6),none,[]⟩,⟨some 8,.bin .eql (.tmp 5) (.tmp 7),none,[]⟩,⟨some 3,.mov (.tmp 8),none,[]⟩]) .ret)⟩
theorem dh133:cProg Go.Proofs.Tryz.prog ⟨[],[],[]⟩ 133=some dc133:=by kernel_rfl
def dc150 : DFunc := ⟨31,1,[.tmp 2],.seq (.ops false [⟨some 1,.box 4 (.tmp 0),none,[]⟩,⟨some 2,.mov (.const (.int .i64 0)),none,[]⟩]) (.seq (.seq (.ops false [⟨some 5,.load (some 4) (.tmp 1),none,[]⟩,⟨some 6,.build [.int .i64 0,.int .i64 0,.int .i64 0,.int .i64 0] [],none,[]⟩,⟨some 7,.eqA false [1,1,1,1] (.tmp 5) (.tmp 6),none,[]⟩]) (.cond (.tmp 7) (.seq (.ops false [⟨some 2,.mov (.const (.int .i64 0)),none,[]⟩]) .ret) .skip)) (.seq (.ops true [⟨some 8,.iaddrA 2 2 true (.tmp 1) (.const (.int .i64 0)),none,[]⟩,⟨some 9,.faddr 0 1 false (.tmp 8),none,[0]⟩,⟨some 10,.load none (.tmp 9),none,[1,0]⟩,⟨some 11,.iaddrA 2 2 true (.tmp 1) (.const (.int .i64 1)),none,[]⟩,⟨some 12,.faddr 0 1 false (.tmp 11),none,[3]⟩,⟨some 13,.load none (.tmp 12),none,[4,3]⟩,⟨some 14,.bin .sub (.tmp 10) (.tmp 13),none,[2,1,0,5,4,3]⟩,⟨some 15,.iaddrA 2 2 true (.tmp 1) (.const (.int .i64 0)),none,[]⟩,⟨some 16,.faddr 1 1 false (.tmp 15),none,[7]⟩,⟨some 17,.load none (.tmp 16),none,[8,7]⟩,⟨some 18,.iaddrA 2 2 true (.tmp 1) (.const (.int .i64 1)),none,[]⟩,⟨some 19,.faddr 1 1 false (.tmp 18),none,[10]⟩,⟨some 20,.load none (.tmp 19),none,[11,10]⟩,⟨some 21,.bin .sub (.tmp 17) (.tmp 20),none,[9,8,7,12,11,10]⟩,⟨some 3,.mov (.tmp 14),none,[6,2,1,0,5,4,3]⟩,⟨some 4,.mov (.tmp 21),none,[13,9,8,7,12,11,10,14,6,2,1,0,5,4,3]⟩]) (.seq (.ops false [⟨some 22,.mov (.tmp 3),none,[]⟩,⟨some 23,.mov (.tmp 3),none,[]⟩,⟨some 24,.un .neg (.tmp 23),none,[]⟩,⟨some 25,.minmax true (.tmp 22) [.tmp 24],none,[]⟩,⟨some 26,.mov (.tmp 4),none,[]⟩,⟨some 27,.mov (.tmp 4),none,[]⟩,⟨some 28,.un .neg (.tmp 27),none,[]⟩,⟨some 29,.minmax true (.tmp 26) [.tmp 28],none,[]⟩,⟨some 30,.bin .add (.tmp 25) (.tmp 29),none,[]⟩,⟨some 2,.mov (.tmp 30),none,[]⟩]) .ret)))⟩
theorem dh150:cProg Go.Proofs.Tryz.prog ⟨[],[],[]⟩ 150=some dc150:=by kernel_rfl
def db151_0 : DC := (.seq (.ops false [⟨some 19,.bin .lss (.tmp 18) (.tmp 17),none,[]⟩]) (.seq (.cond (.tmp 19) .skip (.exit 0)) (.seq (.block 1 none (.seq (.ops false [⟨some 20,.mov (.tmp 18),none,[]⟩,⟨some 21,.iaddr 1 (.tmp 16) (.tmp 18),none,[]⟩,⟨some 22,.load none (.tmp 21),none,[]⟩,⟨some 7,.mov (.tmp 20),none,[]⟩,⟨some 8,.mov (.tmp 22),none,[]⟩]) (.seq (.ops false [⟨some 23,.mov (.tmp 1),none,[]⟩,⟨some 24,.call (.func 104) [.tmp 23],none,[]⟩,⟨some 25,.mov (.tmp 7),none,[]⟩,⟨some 26,.mov (.tmp 7),none,[]⟩,⟨some 27,.bin .add (.tmp 26) (.const (.int .i64 1)),none,[]⟩,⟨some 28,.call (.func 103) [.tmp 24,.tmp 25,.tmp 27],none,[]⟩,⟨some 9,.mov (.tmp 28),none,[]⟩]) (.seq (.ops false [⟨some 29,.mov (.tmp 0),none,[]⟩,⟨some 30,.call (.func 104) [.tmp 29],none,[]⟩,⟨some 31,.mov (.tmp 8),none,[]⟩,⟨some 32,.lit true 1 1 (.int .i64 0) [(0,(.tmp 31))],none,[]⟩,⟨some 33,.append false 1 (.tmp 30) (.tmp 32),none,[]⟩,⟨some 34,.mov (.tmp 9),none,[]⟩,⟨some 35,.mov (.tmp 2),none,[]⟩,⟨some 36,.call (.func 151) [.tmp 33,.tmp 34,.tmp 35],none,[]⟩,⟨some 37,.un .not (.tmp 36),none,[]⟩]) (.cond (.tmp 37) (.seq (.ops false [⟨some 6,.mov (.const (.bool false)),none,[]⟩]) .ret) .skip))))) (.ops false [⟨some 38,.bin .add (.tmp 18) (.const (.int .i64 1)),none,[]⟩,⟨some 18,.mov (.tmp 38),none,[]⟩]))))
def dk151_0 : Keep := ⟨[],[0,1,2,16,17,18],[91,92,93,94]⟩
def dc151 : DFunc := ⟨39,3,[.tmp 6],.seq (.ops false [⟨some 6,.mov (.const (.bool false)),none,[]⟩]) (.seq (.seq (.ops false [⟨some 10,.mov (.tmp 1),none,[]⟩,⟨some 11,.len (.tmp 10),none,[]⟩,⟨some 12,.bin .eql (.tmp 11) (.const (.int .i64 0)),none,[]⟩]) (.cond (.tmp 12) (.seq (.ops false [⟨some 13,.mov (.tmp 2),none,[]⟩,⟨some 14,.mov (.tmp 0),none,[]⟩,⟨some 15,.call (.tmp 13) [.tmp 14],none,[]⟩,⟨some 6,.mov (.tmp 15),none,[]⟩]) .ret) .skip)) (.seq (.seq (.ops false [⟨some 16,.mov (.tmp 1),none,[]⟩,⟨some 17,.len (.tmp 16),none,[]⟩,⟨some 18,.mov (.const (.int .i64 0)),none,[]⟩]) (.block 0 (some ⟨[],[],[91,92,93,94]⟩) (.loop dk151_0 db151_0))) (.seq (.ops false [⟨some 6,.mov (.const (.bool true)),none,[]⟩]) .ret)))⟩
theorem dh151:cProg Go.Proofs.Tryz.prog ⟨[(0,⟨[],[0,1,2,16,17,18],[91,92,93,94]⟩)],[(0,⟨[],[],[91,92,93,94]⟩)],[32]⟩ 151=some dc151:=by kernel_rfl
def dc152 : DFunc := ⟨22,5,[.tmp 6],.seq (.ops false [⟨some 6,.mov (.const (.bool false)),none,[]⟩]) (.seq (.seq (.ops false [⟨some 8,.load (some 4) (.tmp 1),none,[]⟩,⟨some 9,.load none (.tmp 2),none,[]⟩,⟨some 10,.mov (.tmp 0),none,[]⟩,⟨some 11,.call (.func 118) [.tmp 8,.tmp 9,.tmp 10],none,[]⟩,⟨some 7,.mov (.tmp 11),none,[]⟩]) (.seq (.ops false [⟨some 12,.load none (.tmp 3),none,[]⟩,⟨some 13,.bin .lss (.tmp 12) (.const (.int .i64 0)),none,[]⟩,⟨some 14,.mov (.tmp 13),none,[]⟩,⟨some 15,.mov (.tmp 7),some (14,false),[]⟩,⟨some 16,.load none (.tmp 3),some (14,false),[]⟩,⟨some 17,.bin .lss (.tmp 15) (.tmp 16),some (14,false),[]⟩,⟨some 18,.pick (.tmp 14) (.const (.bool true)) (.tmp 17),none,[]⟩]) (.cond (.tmp 18) (.ops false [⟨some 19,.mov (.tmp 0),none,[]⟩,⟨some 20,.call (.func 104) [.tmp 19],none,[]⟩,⟨some 21,.mov (.tmp 7),none,[]⟩,⟨none,.store 1 (.tmp 4) (.tmp 20),none,[]⟩,⟨none,.store 1 (.tmp 3) (.tmp 21),none,[]⟩]) .skip))) (.seq (.ops false [⟨some 6,.mov (.const (.bool true)),none,[]⟩]) .ret))⟩
theorem dh152:cProg Go.Proofs.Tryz.prog ⟨[],[],[]⟩ 152=some dc152:=by kernel_rfl
end Sh

namespace Sh
open Go
end Sh

namespace Sh
open Go
def isLet (c:UInt8):Bool:=(decide (97≤c.toNat) && decide (c.toNat≤122)) || (decide (65≤c.toNat) && decide (c.toNat≤90))
def isOth (c:UInt8):Bool:=decide (c.toNat=95) || (decide (48≤c.toNat) && decide (c.toNat≤57))
def nmAt (s:List UInt8) (j:Nat):Bool:=isLet (s.getD j 0) || (decide (j≠0) && isOth (s.getD j 0))
def nameB (s:List UInt8):Bool:=decide (s≠[]) && decide (s.length≤24) && (List.range s.length).all (nmAt s)
theorem nameB_bad {s:List UInt8} {j:Nat} (hj:j < s.length) (h:nmAt s j=false):nameB s=false:=by
 unfold nameB
 have:(List.range s.length).all (nmAt s)=false:=by
  rw [List.all_eq_false]
  exact ⟨j,List.mem_range.2 hj,by rw [h];exact Bool.false_ne_true⟩
 rw [this,Bool.and_false]
theorem nameB_ok {s:List UInt8} (h:∀ j,j < s.length→nmAt s j=true):nameB s=(decide (s≠[]) && decide (s.length≤24)):=by
 unfold nameB
 have:(List.range s.length).all (nmAt s)=true:=by
  rw [List.all_eq_true]
  exact fun j hj=>h j (List.mem_range.1 hj)
 rw [this,Bool.and_true]
theorem isLet_iff (c:UInt8):isLet c=true ↔ (97≤c.toNat∧c.toNat≤122)∨(65≤c.toNat∧c.toNat≤90):=by
 unfold isLet;simp only [Bool.or_eq_true,Bool.and_eq_true,decide_eq_true_eq]
theorem isOth_iff (c:UInt8):isOth c=true ↔ c.toNat=95∨(48≤c.toNat∧c.toNat≤57):=by
 unfold isOth;simp only [Bool.or_eq_true,Bool.and_eq_true,decide_eq_true_eq]
theorem nmAt_iff (s:List UInt8) (j:Nat):nmAt s j=true ↔ isLet (s.getD j 0)=true∨(j≠0∧isOth (s.getD j 0)=true):=by
 unfold nmAt;simp only [Bool.or_eq_true,Bool.and_eq_true,decide_eq_true_eq]
theorem nmAt_hi {s:List UInt8} {j:Nat} (h:128≤(s.getD j 0).toNat):nmAt s j=false:=by
 cases e:nmAt s j with
 |false=>rfl
 |true =>
  rw [nmAt_iff,isLet_iff,isOth_iff] at e
  omega
end Sh

namespace Sh
open Go
structure Std where
 name:List UInt8
 at_:Pt
 worth:Int
 water:Int
def T0:Std:=⟨[],P0,0,0⟩
structure Crw where
 depot:Pt
 tank:Int
 price:Int
def chkPt (p:Pt):Int:=firstE [withE p.x (-1000) 1000,withE p.y (-1000) 1000]
def chkCr (c:Crw):Int:=firstE [chkPt c.depot,withE c.tank 0 10000,withE c.price 0 1000]
def chkTs:List (List UInt8)→List Std→Int
 |_,[]=>0
 |kn,s :: r=>if firstE [whenE (!nameB s.name) 8,whenE (decide (s.name ∈ kn)) 9,chkPt s.at_,withE s.worth 0 1000000,withE s.water 0 10000]≠0 then firstE [whenE (!nameB s.name) 8,whenE (decide (s.name ∈ kn)) 9,chkPt s.at_,withE s.worth 0 1000000,withE s.water 0 10000] else chkTs (kn++[s.name]) r
def chkStd (l:List Std):Int:=if 8 < l.length then 5 else chkTs [] l
structure OkPt (p:Pt):Prop where
 x0 : -1000≤p.x
 x1:p.x≤1000
 y0 : -1000≤p.y
 y1:p.y≤1000
structure OkStd (s:Std):Prop where
 nm:nameB s.name=true
 pt:OkPt s.at_
 w0:0≤s.worth
 w1:s.worth≤1000000
 v0:0≤s.water
 v1:s.water≤10000
structure OkCr (c:Crw):Prop where
 pt:OkPt c.depot
 t0:0≤c.tank
 t1:c.tank≤10000
 p0:0≤c.price
 p1:c.price≤1000
theorem chkPt_zero {p:Pt} (h:chkPt p=0):OkPt p:=by
 have h:=firstE_mem h
 have h1:=withE_zero (h _ (by simp:withE p.x (-1000) 1000 ∈ _))
 have h2:=withE_zero (h _ (by simp:withE p.y (-1000) 1000 ∈ _))
 exact ⟨h1.1,h1.2,h2.1,h2.2⟩
theorem chkCr_zero {c:Crw} (h:chkCr c=0):OkCr c:=by
 have h:=firstE_mem h
 have h1:=chkPt_zero (h _ (by simp:chkPt c.depot ∈ _))
 have h2:=withE_zero (h _ (by simp:withE c.tank 0 10000 ∈ _))
 have h3:=withE_zero (h _ (by simp:withE c.price 0 1000 ∈ _))
 exact ⟨h1,h2.1,h2.2,h3.1,h3.2⟩
theorem chkTs_zero:∀ {l:List Std} {kn:List (List UInt8)},chkTs kn l=0→(∀ s ∈ l,OkStd s∧s.name ∉ kn)∧(l.map (·.name)).Nodup
 |[],kn,_=>⟨fun s hs=>(by cases hs),by simp⟩
 |s :: r,kn,h=>by
  unfold chkTs at h
  split at h
  ·rename_i h1;exact absurd h h1
  ·rename_i h1
   have h1:=firstE_mem (Classical.not_not.1 h1)
   have a1:=whenE_zero (h1 _ (by simp:whenE (!nameB s.name) 8 ∈ _)) (by decide)
   have a2:=of_decide_eq_false (whenE_zero (h1 _ (by simp:whenE (decide (s.name ∈ kn)) 9 ∈ _)) (by decide))
   have a3:=chkPt_zero (h1 _ (by simp:chkPt s.at_ ∈ _))
   have a4:=withE_zero (h1 _ (by simp:withE s.worth 0 1000000 ∈ _))
   have a5:=withE_zero (h1 _ (by simp:withE s.water 0 10000 ∈ _))
   obtain ⟨h2,h3⟩:=chkTs_zero h
   refine ⟨fun t ht=>?_,?_⟩
   ·rcases List.mem_cons.1 ht with rfl|ht
    ·exact ⟨⟨by simpa using a1,a3,a4.1,a4.2,a5.1,a5.2⟩,a2⟩
    ·have:=h2 t ht
     exact ⟨this.1,fun e=>this.2 (List.mem_append_left _ e)⟩
   ·rw [List.map_cons,List.nodup_cons]
    refine ⟨fun e=>?_,h3⟩
    obtain ⟨t,ht,e⟩:=List.mem_map.1 e
    exact (h2 t ht).2 (by rw [e];simp)
theorem chkStd_zero {l:List Std} (h:chkStd l=0):l.length≤8∧∀ s ∈ l,OkStd s:=by
 unfold chkStd at h
 split at h
 ·cases h
 ·exact ⟨by omega,fun s hs=>((chkTs_zero h).1 s hs).1⟩
def absI (n:Int):Int:=if 0≤n then n else -n
def disP (p q:Pt):Int:=absI (p.x - q.x)+absI (p.y - q.y)
theorem disP_bd {p q:Pt} (hp:OkPt p) (hq:OkPt q):0≤disP p q∧disP p q≤4000:=by
 have:=hp.x0;have:=hp.x1;have:=hp.y0;have:=hp.y1
 have:=hq.x0;have:=hq.x1;have:=hq.y0;have:=hq.y1
 unfold disP absI;split<;>split<;>omega
def atS (l:List Std) (i:Int):Pt:=(l.getD i.toNat T0).at_
def wayF (l:List Std) (home:Pt):Pt→List Int→Int
 |at_,[]=>disP at_ home
 |at_,i :: r=>disP at_ (atS l i)+wayF l home (atS l i) r
def wayS (c:Crw) (l:List Std) (o:List Int):Int:=wayF l c.depot c.depot o
def wayTo (l:List Std):Pt→List Int→Pt×Int
 |p,[]=>(p,0)
 |p,i :: r=>((wayTo l (atS l i) r).1,disP p (atS l i)+(wayTo l (atS l i) r).2)
theorem wayTo_snoc (l:List Std) (x:Int):∀ (a:List Int) (p:Pt),wayTo l p (a++[x])=(atS l x,(wayTo l p a).2+disP (wayTo l p a).1 (atS l x))
 |[],p=>by show (atS l x,disP p (atS l x)+0)=(atS l x,0+disP p (atS l x));rw [Int.add_zero,Int.zero_add]
 |y :: a,p=>by
  show ((wayTo l (atS l y) (a++[x])).1,disP p (atS l y)+(wayTo l (atS l y) (a++[x])).2)=(_,disP p (atS l y)+(wayTo l (atS l y) a).2+disP (wayTo l (atS l y) a).1 (atS l x))
  rw [wayTo_snoc l x a]
  show (_,_+(_+_))=_
  rw [Int.add_assoc]
theorem wayF_to (l:List Std) (home:Pt):∀ (a:List Int) (p:Pt),wayF l home p a=(wayTo l p a).2+disP (wayTo l p a).1 home
 |[],p=>by show disP p home=0+disP p home;rw [Int.zero_add]
 |x :: a,p=>by
  show disP p (atS l x)+wayF l home (atS l x) a=disP p (atS l x)+(wayTo l (atS l x) a).2+_
  rw [wayF_to l home a]
  show _=_+_+disP (wayTo l (atS l x) a).1 home
  omega
theorem wayTo_bd {l:List Std} (hl:∀ s ∈ l,OkStd s):∀ (a:List Int) (p:Pt),OkPt p→(∀ i ∈ a,0≤i∧i < l.length)→OkPt (wayTo l p a).1∧0≤(wayTo l p a).2∧(wayTo l p a).2≤4000 * a.length
 |[],p,hp,_=>⟨hp,by show (0:Int)≤0;omega,by show (0:Int)≤4000 * (0:Nat);omega⟩
 |x :: a,p,hp,ha=>by
  have hx:=ha x (by simp)
  have ho:OkPt (atS l x):=(hl _ (getD_in T0 (by omega:x.toNat < l.length))).pt
  obtain ⟨h1,h2,h3⟩:=wayTo_bd hl a (atS l x) ho (fun i hi=>ha i (by simp [hi]))
  have hd:=disP_bd hp ho
  refine ⟨h1,?_,?_⟩
  ·show 0≤disP p (atS l x)+(wayTo l (atS l x) a).2;omega
  ·show disP p (atS l x)+(wayTo l (atS l x) a).2≤_
   rw [List.length_cons];omega
theorem wayS_bd {c:Crw} {l:List Std} (hc:OkCr c) (hl:∀ s ∈ l,OkStd s) {o:List Int} (ho:∀ i ∈ o,0≤i∧i < l.length):0≤wayS c l o∧wayS c l o≤4000 * (o.length+1):=by
 unfold wayS
 rw [wayF_to]
 obtain ⟨h1,h2,h3⟩:=wayTo_bd hl o c.depot hc.pt ho
 have:=disP_bd h1 hc.pt
 omega
theorem erase_perm:∀ (l:List Int) (k:Nat),k < l.length→(l.getD k 0 :: l.eraseIdx k).Perm l
 |[],k,h=>by simp at h
 |a :: r,0,_=>List.Perm.refl _
 |a :: r,k+1,h=>by
  have ih:=erase_perm r k (by simpa using h)
  show (r.getD k 0 :: a :: r.eraseIdx k).Perm (a :: r)
  exact (List.Perm.swap _ _ _).trans (ih.cons a)
def permsF:Nat→List Int→List (List Int)
 |0,_=>[[]]
 |n+1,l=>(List.range l.length).flatMap fun k=>(permsF n (l.eraseIdx k)).map fun o=>l.getD k 0 :: o
def permsS (l:List Int):List (List Int):=permsF l.length l
theorem perms_perm:∀ (n:Nat) (l:List Int),l.length=n→∀ o ∈ permsF n l,o.Perm l
 |0,l,hl,o,ho=>by
  have:l=[]:=List.eq_nil_of_length_eq_zero hl
  subst this
  unfold permsF at ho
  rw [List.mem_singleton] at ho;subst ho;exact List.Perm.refl _
 |n+1,l,hl,o,ho=>by
  unfold permsF at ho
  obtain ⟨k,hk,h⟩:=List.mem_flatMap.1 ho
  obtain ⟨o',ho',rfl⟩:=List.mem_map.1 h
  have hk:=List.mem_range.1 hk
  have h1:=perms_perm n (l.eraseIdx k) (by rw [List.length_eraseIdx_of_lt hk];omega) o' ho'
  have h2:=erase_perm l k hk
  exact (h1.cons _).trans h2
theorem perms_all:∀ (n:Nat) (l:List Int),l.length=n→∀ o:List Int,o.Perm l→o ∈ permsF n l
 |0,l,hl,o,ho=>by
  have:l=[]:=List.eq_nil_of_length_eq_zero hl
  subst this
  rw [List.Perm.eq_nil ho];unfold permsF;simp
 |n+1,l,hl,o,ho=>by
  cases o with
  |nil=>have:=ho.length_eq;simp at this;omega
  |cons x o =>
   have hx:x ∈ l:=ho.subset (by simp)
   obtain ⟨k,hk,rfl⟩:=List.mem_iff_getElem.1 hx
   have e:l.getD k 0=l[k]:=by simp [List.getD_eq_getElem?_getD,hk]
   have h0:=erase_perm l k hk
   rw [e] at h0
   have h1:o.Perm (l.eraseIdx k):=(List.perm_cons _).1 (ho.trans h0.symm)
   unfold permsF
   refine List.mem_flatMap.2 ⟨k,List.mem_range.2 hk,List.mem_map.2 ⟨o,perms_all n _ (by rw [List.length_eraseIdx_of_lt hk];omega) o h1,?_⟩⟩
   simp [List.getD_eq_getElem?_getD,hk]
theorem perms_ne:∀ (n:Nat) (l:List Int),l.length=n→permsF n l≠[]:=fun n l hl e=>by
 have:=perms_all n l hl l (List.Perm.refl _)
 rw [e] at this;cases this
def shortF (c:Crw) (l:List Std):List Int×Int→List (List Int)→List Int×Int
 |b,[]=>b
 |b,o :: r=>shortF c l (if b.2 < 0∨wayS c l o < b.2 then (o,wayS c l o) else b) r
def shortS (c:Crw) (l:List Std) (set:List Int):List Int×Int:=shortF c l ([],-1) (permsS set)
theorem shortF_append (c:Crw) (l:List Std):∀ (a b:List (List Int)) (x:List Int×Int),shortF c l x (a++b)=shortF c l (shortF c l x a) b
 |[],b,x=>rfl
 |o :: a,b,x=>shortF_append c l a b _
end Sh

namespace Sh
open Go Go.Proofs
def encPt (p:Pt):DV:=.agg [DV.int .i64 (p.x),DV.int .i64 (p.y)]
def encT (t:Std):DV:=.agg [.str t.name,DV.int .i64 (t.at_.x),DV.int .i64 (t.at_.y),DV.int .i64 (t.worth),DV.int .i64 (t.water)]
def tsV (l:List Std):DV:=.list (l.map encT)
def encC (c:Crw):DV:=.agg [DV.int .i64 (c.depot.x),DV.int .i64 (c.depot.y),DV.int .i64 (c.tank),DV.int .i64 (c.price)]
theorem c_checkPoint (p:Pt):PC 125 [encPt p] (DV.int .i64 (chkPt p)):=by
 refine pureCall_ofR dh125 rfl ?_
 conv=>whnf
 repeat' (first
  |(refine ⟨fun hg=>?_,fun hg=>?_⟩<;>first|contradiction|(conv=>whnf))
  |(refine Or.inl ?_;conv=>whnf)
  |(refine ⟨_,c_within ..,?_⟩;conv=>whnf)
  |(refine ⟨_,c_first [_,_] (by simp),?_⟩;conv=>whnf)
  |(refine And.intro ?_ ?_;kernel_rfl;conv=>whnf))
 rfl
theorem c_checkPrice (n:Int):PC 126 [DV.int .i64 (n)] (DV.int .i64 (withE n 0 1000)):=by
 refine pureCall_ofR dh126 rfl ?_
 conv=>whnf
 repeat' (first
  |(refine ⟨fun hg=>?_,fun hg=>?_⟩<;>first|contradiction|(conv=>whnf))
  |(refine Or.inl ?_;conv=>whnf)
  |(refine ⟨_,c_within ..,?_⟩;conv=>whnf)
  |(refine And.intro ?_ ?_;kernel_rfl;conv=>whnf))
 rfl
theorem c_CheckCrew (c:Crw):PC 56 [encC c] (DV.int .i64 (chkCr c)):=by
 have k1:=c_checkPoint c.depot
 refine pureCall_ofR dh56 rfl ?_
 conv=>whnf
 repeat' (first
  |(refine ⟨fun hg=>?_,fun hg=>?_⟩<;>first|contradiction|(conv=>whnf))
  |(refine Or.inl ?_;conv=>whnf)
  |(refine ⟨_,k1,?_⟩;conv=>whnf)
  |(refine ⟨_,c_checkPrice ..,?_⟩;conv=>whnf)
  |(refine ⟨_,c_within ..,?_⟩;conv=>whnf)
  |(refine ⟨_,c_first [_,_,_] (by simp),?_⟩;conv=>whnf)
  |(refine And.intro ?_ ?_;kernel_rfl;conv=>whnf))
 rfl
end Sh

namespace Sh
open Go Go.Proofs
theorem ev_next_yes {ev:Operand→DV} {lk:Nat→Option DObj} {o:Nat} {x:Operand} {q:Nat} {s:List UInt8} {pos:Nat} (hm:ev x=.dict q) (hl:lk q=some (.siter s pos)) (hp:pos < s.length):evalOp ev lk o (.nextS x)=.ok none (.tuple [.bool true,.int .i64 pos,.int .i32 (sdecode s pos).1]) [(q,.siter s (pos+(sdecode s pos).2))]:=by
 have hb:Nat.blt pos s.length=true:=Nat.ble_eq_true_of_le hp
 simp only [evalOp,hm,hl,hb]
theorem ev_next_no {ev:Operand→DV} {lk:Nat→Option DObj} {o:Nat} {x:Operand} {q:Nat} {s:List UInt8} {pos:Nat} (hm:ev x=.dict q) (hl:lk q=some (.siter s pos)) (hp:¬ pos < s.length):evalOp ev lk o (.nextS x)=.ok none (.tuple [.bool false]) []:=by
 have hb:Nat.blt pos s.length=false:=by
  cases h:Nat.blt pos s.length with
  |false=>rfl
  |true=>exact absurd (Nat.le_of_ble_eq_true h) hp
 simp only [evalOp,hm,hl,hb]
theorem c_IsName (s:List UInt8) (hs:s.length < 1073741824):PC 124 [.str s] (.bool (nameB s)):=by
 refine pureCall_ofR dh124 rfl ?_
 conv=>whnf
 refine dwp_loopU (P:=Tryz.prog) (G:=GC) (k:=dk124_0) (b:=db124_0) (α:=Nat) (fun i=>[]) (fun i=>[(7,.siter s i)]) (fun i=>i≤s.length∧∀ j,j < i→nmAt s j=true) (fun i=>s.length - i) 0 ⟨Nat.zero_le _,fun d h=>by omega⟩ ?_
 conv=>whnf
 refine ⟨rfl,rfl,?_⟩
 conv=>whnf
 refine ⟨rfl,?_⟩
 intro i ⟨h1,h2⟩
 conv=>whnf
 by_cases hi:i < s.length
 ·rw [ev_next_yes (s:=s) (pos:=i) rfl rfl hi]
  have hn:=nmAt_iff s i
  have hl:=isLet_iff (s.getD i 0)
  have ho:=isOth_iff (s.getD i 0)
  have hbad:=nameB_bad hi
  by_cases ha:(s.getD i 0).toNat < 128
  ·rw [sdecode_ascii s i ha]
   generalize isLet (s.getD i 0)=L at *
   generalize isOth (s.getD i 0)=O at *
   generalize (s.getD i 0).toNat=c at *
   have hn':nmAt s i=true ↔ ((97≤c∧c≤122)∨(65≤c∧c≤90))∨(i≠0∧(c=95∨(48≤c∧c≤57))):=by rw [hn,hl,ho]
   conv=>whnf
   repeat' (first
    |(refine ⟨fun hg=>?_,fun hg=>?_⟩<;>first|contradiction|(replace hg:=of_decide_eq_true hg;first|(exfalso;omega;done)|(conv=>whnf))|(replace hg:=of_decide_eq_false hg;first|(exfalso;omega;done)|(conv=>whnf))|(skip;conv=>whnf)|(conv=>whnf))
    |(refine Or.inl ?_;conv=>whnf)
    |(refine And.intro ?_ ?_;kernel_rfl;conv=>whnf))
   all_goals
    first
    |contradiction
    |(refine bool_eq (hbad ?_).symm
      cases hnm:nmAt s i with
      |false=>rfl
      |true =>
       exfalso
       have hq:=hn'.1 hnm
       clear hn' hn hl ho hbad h2
       simp only [cond_true,cond_false,Bool.not_true,Bool.not_false,decide_eq_true_eq,Bool.not_eq_true',decide_eq_false_iff_not,Bool.not_eq_false'] at *
       omega)
    |(refine ⟨i+1,rfl,rfl,rfl,⟨hi,fun j hj=>?_⟩,by omega⟩
      by_cases h:j=i
      ·subst h
       refine hn'.2 ?_
       clear hn' hn hl ho hbad h2
       simp only [cond_true,cond_false,Bool.not_true,Bool.not_false,decide_eq_true_eq,Bool.not_eq_true',decide_eq_false_iff_not,Bool.not_eq_false'] at *
       omega
      ·exact h2 j (by omega))
  ·have hr:=sdecode_other s i ha
   have hnm:=hbad (nmAt_hi (by omega))
   rw [hnm]
   clear hn hl ho hbad hnm
   generalize hsd:sdecode s i=rr at *
   obtain ⟨c,w⟩:=rr
   have hr:128≤c:=hr
   conv=>whnf
   repeat' (first
    |(refine ⟨fun hg=>?_,fun hg=>?_⟩<;>first|contradiction|(replace hg:=of_decide_eq_true hg;first|(exfalso;omega;done)|(conv=>whnf))|(replace hg:=of_decide_eq_false hg;first|(exfalso;omega;done)|(conv=>whnf))|(skip;conv=>whnf)|(conv=>whnf))
    |(refine Or.inl ?_;conv=>whnf)
    |(refine And.intro ?_ ?_;kernel_rfl;conv=>whnf))
   all_goals
    first
    |contradiction
    |rfl
    |(exfalso
      clear h2
      simp only [cond_true,cond_false,Bool.not_true,Bool.not_false,decide_eq_true_eq,Bool.not_eq_true',decide_eq_false_iff_not,Bool.not_eq_false'] at *
      omega)
 ·rw [ev_next_no (s:=s) (pos:=i) rfl rfl hi]
  have hi':i=s.length:=by omega
  subst hi'
  conv=>whnf
  have hok:=nameB_ok h2
  rw [hok]
  clear h2 hok
  repeat' (first
   |(refine ⟨fun hg=>?_,fun hg=>?_⟩<;>first|contradiction|(replace hg:=of_decide_eq_true hg;first|(exfalso;omega;done)|(conv=>whnf))|(replace hg:=of_decide_eq_false hg;first|(exfalso;omega;done)|(conv=>whnf))|(skip;conv=>whnf)|(conv=>whnf))
   |(refine Or.inl ?_;conv=>whnf)
   |(refine And.intro ?_ ?_;kernel_rfl;conv=>whnf))
  ·have hg:s≠[]:=hg
   refine bool_eq ?_
   rw [decide_eq_true hg,Bool.true_and]
   show decide ((s.length:Int)≤24)=_
   rw [decide_eq_decide];omega
  ·have hg:¬ s≠[]:=hg
   refine bool_eq ?_
   rw [decide_eq_false hg];rfl
end Sh

namespace Sh
open Go Go.Proofs
def kmD (kn:List (List UInt8)):List (DV×DV):=kn.map fun n=>(DV.str n,DV.bool true)
theorem dfind_km (k:List UInt8):∀ (kn:List (List UInt8)) (i:Nat),dfind (keyEq 2 []) (.str k) (kmD kn) i=if k ∈ kn then some (some (i+kn.idxOf k,.bool true)) else some none
 |[],i=>by rw [if_neg (by simp)];rfl
 |x :: r,i=>by
  show (match keyEq 2 [] (.str k) (.str x) with
   |some true=>some (some (i,DV.bool true))
   |some false=>dfind (keyEq 2 []) (.str k) (kmD r) (i+1)
   |none=>none)=_
  by_cases h:k=x
  ·subst h
   rw [show keyEq 2 [] (.str k) (.str k)=some true from by simp [keyEq],if_pos (by simp)]
   simp
  ·rw [show keyEq 2 [] (.str k) (.str x)=some false from by simp [keyEq,h]]
   show dfind (keyEq 2 []) (.str k) (kmD r) (i+1)=_
   rw [dfind_km k r (i+1)]
   by_cases h2:k ∈ r
   ·rw [if_pos h2,if_pos (by simp [h2])]
    have:(x == k)=false:=by simpa using fun e=>h e.symm
    rw [List.idxOf_cons,this]
    simp only [cond_false]
    congr 3;omega
   ·rw [if_neg h2,if_neg (by simp [h,h2])]
def tE (kn:List (List UInt8)) (s:Std):Int:=firstE [whenE (!nameB s.name) 8,whenE (decide (s.name ∈ kn)) 9,chkPt s.at_,withE s.worth 0 1000000,withE s.water 0 10000]
def knS (l:List Std) (i:Nat):List (List UInt8):=(l.take i).map (·.name)
theorem knS_succ (l:List Std) (i:Nat) (h:i < l.length):knS l (i+1)=knS l i++[(l.getD i T0).name]:=take_map_succ _ _ _ _ h
theorem chkTs_drop (l:List Std) (i:Nat) (h:i < l.length):chkTs (knS l i) (l.drop i)=if tE (knS l i) (l.getD i T0)≠0 then tE (knS l i) (l.getD i T0) else chkTs (knS l (i+1)) (l.drop (i+1)):=by
 rw [drop_getD l i T0 h,knS_succ l i h];rfl
theorem kmD_app (kn:List (List UInt8)) (n:List UInt8):kmD (kn++[n])=kmD kn++[(.str n,.bool true)]:=by unfold kmD;rw [List.map_append];rfl
theorem c_CheckStands (l:List Std) (hl:l.length < 1073741824) (hn:∀ s ∈ l,s.name.length < 1073741824):PC 55 [tsV l] (DV.int .i64 (chkStd l)):=by
 have e0:((l.map encT).length:Int)=l.length:=by simp
 refine pureCall_ofR dh55 rfl ?_
 conv=>whnf
 refine ⟨fun hg=>?_,fun hg=>?_⟩
 ·have hg:=of_decide_eq_true hg
  rw [e0] at hg
  conv=>whnf
  exact int_eq (by unfold chkStd;rw [if_pos (by omega)])
 ·have hg:=of_decide_eq_false hg
  rw [e0] at hg
  have hk:chkStd l=chkTs (knS l 0) (l.drop 0):=by unfold chkStd;rw [if_neg (by omega)];rfl
  rw [hk]
  clear hk
  conv=>whnf
  refine dwp_loopU (P:=Tryz.prog) (G:=GC) (k:=dk55_0) (b:=db55_0) (α:=Nat) (fun i=>[(13,DV.int .i64 (i))]) (fun i=>[(10,.dict (kmD (knS l i)))]) (fun i=>i≤l.length∧chkTs (knS l 0) (l.drop 0)=chkTs (knS l i) (l.drop i)) (fun i=>l.length - i) 0 ⟨Nat.zero_le _,rfl⟩ ?_
  conv=>whnf
  refine ⟨rfl,rfl,?_⟩
  conv=>whnf
  refine ⟨rfl,?_⟩
  intro i ⟨h1,h2⟩
  conv=>whnf
  refine ⟨fun hb=>?_,fun hb=>?_⟩
  ·have hi:i < l.length:=by simpa using hb
   clear hb
   have hd:=chkTs_drop l i hi
   have hks:=knS_succ l i hi
   have hnm:=hn _ (getD_in T0 hi)
   conv=>whnf
   rw [getD_enc _ _ (i) T0 hi]
   refine ⟨idxA hi rfl,?_⟩
   conv=>whnf
   generalize l.getD i T0=t at *
   have kN:=c_IsName t.name hnm
   have kP:=c_checkPoint t.at_
   have hte:tE (knS l i) t=firstE [whenE (!nameB t.name) 8,whenE (decide (t.name ∈ knS l i)) 9,chkPt t.at_,withE t.worth 0 1000000,withE t.water 0 10000]:=rfl
   by_cases hm:t.name ∈ knS l i
   ·repeat' (first
     |(refine ⟨fun hg=>?_,fun hg=>?_⟩<;>first|contradiction|(conv=>whnf))
     |(refine Or.inl ?_;conv=>whnf)
     |(refine ⟨_,kN ..,?_⟩;conv=>whnf)
     |(refine ⟨_,c_when ..,?_⟩;conv=>whnf)
     |(refine And.intro ?_ ?_;kernel_rfl;conv=>whnf))
    rw [ev_lookup_some (q:=10) (es:=kmD (knS l i)) (i:=0+(knS l i).idxOf t.name) (v:=.bool true) rfl rfl rfl (by show dfind (keyEq 2 []) (.str t.name) _ 0=_;rw [dfind_km,if_pos hm])]
    rw [decide_eq_true hm] at hte
    conv=>whnf
    repeat' (first
     |(refine ⟨fun hg=>?_,fun hg=>?_⟩<;>first|contradiction|(conv=>whnf))
     |(refine Or.inl ?_;conv=>whnf)
     |(refine ⟨_,kP ..,?_⟩;conv=>whnf)
     |(refine ⟨_,c_when ..,?_⟩;conv=>whnf)
     |(refine ⟨_,c_within ..,?_⟩;conv=>whnf)
     |(refine ⟨_,c_first [_,_,_,_,_] (by simp),?_⟩;conv=>whnf)
     |(refine And.intro ?_ ?_;kernel_rfl;conv=>whnf))
    ·have hg:=of_decide_eq_true hg
     rw [← hte] at hg
     rw [if_pos hg] at hd
     exact int_eq (by rw [h2,hd,hte])
    ·have hg:=of_decide_eq_false hg
     rw [← hte] at hg
     exfalso
     have h0:=firstE_mem (l:=[whenE (!nameB t.name) 8,whenE true 9,chkPt t.at_,withE t.worth 0 1000000,withE t.water 0 10000]) (by rw [← hte];omega)
     have:=h0 (whenE true 9) (by simp)
     revert this
     decide
   ·repeat' (first
     |(refine ⟨fun hg=>?_,fun hg=>?_⟩<;>first|contradiction|(conv=>whnf))
     |(refine Or.inl ?_;conv=>whnf)
     |(refine ⟨_,kN ..,?_⟩;conv=>whnf)
     |(refine ⟨_,c_when ..,?_⟩;conv=>whnf)
     |(refine And.intro ?_ ?_;kernel_rfl;conv=>whnf))
    rw [ev_lookup_none (q:=10) (es:=kmD (knS l i)) rfl rfl rfl (by show dfind (keyEq 2 []) (.str t.name) _ 0=_;rw [dfind_km,if_neg hm])]
    rw [decide_eq_false hm] at hte
    conv=>whnf
    repeat' (first
     |(refine ⟨fun hg=>?_,fun hg=>?_⟩<;>first|contradiction|(conv=>whnf))
     |(refine Or.inl ?_;conv=>whnf)
     |(refine ⟨_,kP ..,?_⟩;conv=>whnf)
     |(refine ⟨_,c_when ..,?_⟩;conv=>whnf)
     |(refine ⟨_,c_within ..,?_⟩;conv=>whnf)
     |(refine ⟨_,c_first [_,_,_,_,_] (by simp),?_⟩;conv=>whnf)
     |(refine And.intro ?_ ?_;kernel_rfl;conv=>whnf))
    ·have hg:=of_decide_eq_true hg
     rw [← hte] at hg
     rw [if_pos hg] at hd
     exact int_eq (by rw [h2,hd,hte])
    ·have hg:=of_decide_eq_false hg
     rw [← hte] at hg
     rw [if_neg hg] at hd
     rw [ev_mapset_none (q:=10) (es:=kmD (knS l i)) (kv:=.str t.name) (vv:=.bool true) rfl rfl rfl rfl rfl (by rw [dfind_km,if_neg hm])]
     conv=>whnf
     rw [wrap_succ i (by omega)]
     refine ⟨i+1,rfl,rfl,?_,⟨hi,by rw [h2,hd]⟩,by omega⟩
     rw [hks,kmD_app];rfl
  ·have hi:i=l.length:=by have:=of_decide_eq_false hb;rw [e0] at this;omega
   clear hb
   conv=>whnf
   exact int_eq (by rw [h2,hi,List.drop_of_length_le (Nat.le_refl _)];rfl)
end Sh

namespace Sh
open Go Go.Proofs
theorem firstE_z (r:List Int):firstE (0 :: r)=firstE r:=by simp [firstE]
end Sh

namespace Sh
open Go Go.Proofs
theorem c_length (a b:Pt) (ha:OkPt a) (hb:OkPt b):PC 150 [.agg [DV.int .i64 (a.x),DV.int .i64 (a.y),DV.int .i64 (b.x),DV.int .i64 (b.y)]] (DV.int .i64 (disP a b)):=by
 have:=ha.x0;have:=ha.x1;have:=ha.y0;have:=ha.y1
 have:=hb.x0;have:=hb.x1;have:=hb.y0;have:=hb.y1
 refine pureCall_ofR dh150 rfl ?_
 conv=>whnf
 refine ⟨fun hg=>?_,fun hg=>?_⟩
 ·simp only [cond_false,Bool.and_true,Bool.and_eq_true,decide_eq_true_eq] at hg
  conv=>whnf
  refine int_eq ?_
  unfold disP absI
  rw [hg.1,hg.2.1,hg.2.2.1,hg.2.2.2];rfl
 ·clear hg
  conv=>whnf
  repeat' (first
   |(refine ⟨fun hg=>?_,fun hg=>?_⟩<;>first|contradiction|(conv=>whnf))
   |(refine Or.inl ?_;conv=>whnf)
   |(refine ⟨⟨by decide,by decide⟩,?_⟩;conv=>whnf)
   |(refine And.intro ?_ ?_;kernel_rfl;conv=>whnf))
  refine int_eq ?_
  rw [max_max,max_max]
  rw [wrap_in (n:=a.x - b.x) (by omega) (by omega),wrap_in (n:=a.y - b.y) (by omega) (by omega),wrap_in (n := -(a.x - b.x)) (by omega) (by omega),wrap_in (n := -(a.y - b.y)) (by omega) (by omega),wrap_in (by omega) (by omega)]
  unfold disP absI
  split<;>split<;>omega
end Sh

namespace Sh
open Go Go.Proofs
theorem wayTo_take (l:List Std) (p:Pt) (o:List Int) (i:Nat) (h:i < o.length):wayTo l p (o.take (i+1))=(atS l (o.getD i 0),(wayTo l p (o.take i)).2+disP (wayTo l p (o.take i)).1 (atS l (o.getD i 0))):=by
 rw [take_snoc o i 0 h,wayTo_snoc]
theorem c_way (c:Crw) (l:List Std) (o:List Int) (hc:OkCr c) (hl:∀ s ∈ l,OkStd s) (ho:∀ i ∈ o,0≤i∧i < l.length) (hol:o.length < 1073741824) (hll:l.length < 1073741824):PC 118 [encC c,tsV l,iL o] (DV.int .i64 (wayS c l o)):=by
 have e0:((o.map (DV.int .i64)).length:Int)=o.length:=by simp
 have hw:wayS c l o=(wayTo l c.depot o).2+disP (wayTo l c.depot o).1 c.depot:=wayF_to l c.depot o c.depot
 rw [hw]
 refine pureCall_ofR dh118 rfl ?_
 conv=>whnf
 refine dwp_loopU (P:=Tryz.prog) (G:=GC) (k:=dk118_0) (b:=db118_0) (α:=Nat) (fun i=>[(8,DV.int .i64 ((wayTo l c.depot (o.take i)).2)),(15,DV.int .i64 (i))]) (fun i=>[(3,.box 4 (encC c)),(7,.box 2 (encPt (wayTo l c.depot (o.take i)).1))]) (fun i=>i≤o.length) (fun i=>o.length - i) 0 (Nat.zero_le _) ?_
 conv=>whnf
 refine ⟨rfl,rfl,?_⟩
 conv=>whnf
 refine ⟨rfl,?_⟩
 intro i h1
 conv=>whnf
 refine ⟨fun hb=>?_,fun hb=>?_⟩
 ·have hi:i < o.length:=by simpa using hb
  clear hb
  have hx:=ho _ (getD_in (i:=i) 0 hi)
  have hs:=wayTo_take l c.depot o i hi
  have hbd:=wayTo_bd hl (o.take i) c.depot hc.pt (fun j hj=>ho j (List.mem_of_mem_take hj))
  have hbd2:=wayTo_bd hl (o.take (i+1)) c.depot hc.pt (fun j hj=>ho j (List.mem_of_mem_take hj))
  have hat:atS l (o.getD i 0)=(l.getD (o.getD i 0).toNat T0).at_:=rfl
  have hok:=(hl _ (getD_in (i:=(o.getD i 0).toNat) T0 (by omega))).pt
  rw [List.length_take] at hbd hbd2
  generalize hP:(wayTo l c.depot (o.take i)).1=P at *
  generalize hN:(wayTo l c.depot (o.take i)).2=N at *
  generalize hX:wayTo l c.depot (o.take (i+1))=X at *
  conv=>whnf
  rw [getD_enc _ _ (i) 0 hi]
  refine ⟨idxA hi rfl,?_⟩
  conv=>whnf
  obtain ⟨n,hxn⟩:∃ n:Nat,o.getD i 0=n:=⟨_,(Int.toNat_of_nonneg hx.1).symm⟩
  rw [hxn] at hx hat hok hs
  rw [hxn]
  have hn:n < l.length:=by omega
  rw [hat,Int.toNat_natCast] at hs
  rw [Int.toNat_natCast] at hok
  have k1:=c_length P (l.getD n T0).at_ hbd.1 hok
  have hd:=disP_bd hbd.1 hok
  rw [getD_enc _ _ (n) T0 hn]
  refine ⟨idxA hn rfl,?_⟩
  conv=>whnf
  repeat' (first
   |(refine ⟨fun hg=>?_,fun hg=>?_⟩<;>first|contradiction|(conv=>whnf))
   |(refine Or.inl ?_;conv=>whnf)
   |(refine ⟨_,k1,?_⟩;conv=>whnf)
   |(refine And.intro ?_ ?_;kernel_rfl;conv=>whnf))
  rw [getD_enc _ _ (n) T0 hn]
  refine ⟨idxA hn rfl,?_⟩
  conv=>whnf
  rw [wrap_in (n:=N+disP P (l.getD n T0).at_) (by omega) (by omega),wrap_succ i (by omega)]
  refine ⟨i+1,rfl,?_,?_,hi,by omega⟩
  ·rw [hX,hs];rfl
  ·rw [hX,hs];rfl
 ·have hi:i=o.length:=by have:=of_decide_eq_false hb;rw [e0] at this;omega
  clear hb
  rw [hi,List.take_length]
  have hbd:=wayTo_bd hl o c.depot hc.pt ho
  have k1:=c_length (wayTo l c.depot o).1 c.depot hbd.1 hc.pt
  have hd:=disP_bd hbd.1 hc.pt
  conv=>whnf
  repeat' (first
   |(refine ⟨fun hg=>?_,fun hg=>?_⟩<;>first|contradiction|(conv=>whnf))
   |(refine Or.inl ?_;conv=>whnf)
   |(refine ⟨_,k1,?_⟩;conv=>whnf)
   |(refine And.intro ?_ ?_;kernel_rfl;conv=>whnf))
  exact int_eq (wrap_in (by omega) (by omega))
end Sh

namespace Sh
open Go Go.Proofs
end Sh

namespace Sh
open Go Go.Proofs
def oE (n:Nat) (x:Int) (seen:List Int):Int:=if x < 0∨(n:Int)≤x then 10 else if x ∈ seen then 9 else 0
def chkO (n:Nat):List Int→List Int→Int
 |_,[]=>0
 |seen,x :: r=>if oE n x seen≠0 then oE n x seen else chkO n (seen++[x]) r
theorem chkO_drop (n:Nat) (o:List Int) (i:Nat) (h:i < o.length):chkO n (o.take i) (o.drop i)=if oE n (o.getD i 0) (o.take i)≠0 then oE n (o.getD i 0) (o.take i) else chkO n (o.take (i+1)) (o.drop (i+1)):=by
 rw [drop_getD o i 0 h,take_snoc o i 0 h];rfl
theorem oE_first {n:Nat} {x:Int} {seen:List Int} {b c:Bool} (hb:b=decide (x < 0∨(n:Int)≤x)) (hc:c=decide (x ∈ seen)):firstE [whenE b 10,whenE c 9]=oE n x seen:=by
 subst hb;subst hc
 unfold oE
 by_cases h:x < 0∨(n:Int)≤x
 ·rw [if_pos h,decide_eq_true h];simp [firstE,whenE]
 ·rw [if_neg h,decide_eq_false h]
  by_cases h2:x ∈ seen
  ·rw [if_pos h2,decide_eq_true h2];simp [firstE,whenE]
  ·rw [if_neg h2,decide_eq_false h2];simp [firstE,whenE]
end Sh

namespace Sh
open Go Go.Proofs
def chkCT (c:Crw) (l:List Std):Int:=firstE [chkCr c,chkStd l]
def chkOO (c:Crw) (l:List Std) (o:List Int):Int:=if chkCT c l≠0 then chkCT c l else chkO l.length [] o
theorem c_checkOrder (c:Crw) (l:List Std) (o:List Int) (hl:l.length < 1073741824) (hn:∀ s ∈ l,s.name.length < 1073741824) (hw:o.length < 1073741824):PC 117 [encC c,tsV l,iL o,.bool false] (DV.int .i64 (chkOO c l o)):=by
 have e0:((o.map (DV.int .i64)).length:Int)=o.length:=by simp
 have e1:((l.map encT).length:Int)=l.length:=by simp
 have k1:=c_CheckCrew c
 have k2:=c_CheckStands l hl hn
 refine pureCall_ofR dh117 rfl ?_
 conv=>whnf
 repeat' (first
  |(refine ⟨fun hg=>?_,fun hg=>?_⟩<;>first|contradiction|(conv=>whnf))
  |(refine Or.inl ?_;conv=>whnf)
  |(refine ⟨_,k1,?_⟩;conv=>whnf)
  |(refine ⟨_,k2,?_⟩;conv=>whnf)
  |(refine ⟨_,c_first [_,_] (by simp),?_⟩;conv=>whnf)
  |(refine And.intro ?_ ?_;kernel_rfl;conv=>whnf))
 ·have hg:=of_decide_eq_true hg
  exact int_eq (by unfold chkOO chkCT;rw [if_pos hg])
 ·have hg:=of_decide_eq_false hg
  have hk:chkOO c l o=chkO l.length (o.take 0) (o.drop 0):=by unfold chkOO chkCT;rw [if_neg hg];rfl
  rw [hk]
  clear k1 k2
  refine dwp_loopU (P:=Tryz.prog) (G:=GC) (k:=dk117_0) (b:=db117_0) (α:=Nat) (fun i=>[(25,DV.int .i64 (i))]) (fun _=>[(4,.box 4 (encC c))]) (fun i=>i≤o.length∧chkO l.length (o.take 0) (o.drop 0)=chkO l.length (o.take i) (o.drop i)) (fun i=>o.length - i) 0 ⟨Nat.zero_le _,rfl⟩ ?_
  conv=>whnf
  refine ⟨rfl,rfl,?_⟩
  conv=>whnf
  refine ⟨rfl,?_⟩
  intro i ⟨h1,h2⟩
  conv=>whnf
  refine ⟨fun hb=>?_,fun hb=>?_⟩
  ·have hi:i < o.length:=by simpa using hb
   have hd:=chkO_drop l.length o i hi
   clear hb
   have kH:=c_Contains (o.take i) (o.getD i 0) (by rw [List.length_take];omega)
   have hwd:window (o.map (DV.int .i64)) 0 i=(o.take i).map (DV.int .i64):=by simp [window]
   have hdec:¬ o.getD i 0 < 0→decide (((l.map encT).length:Int)≤o.getD i 0)=decide (o.getD i 0 < 0∨(l.length:Int)≤o.getD i 0):=fun h=>by rw [e1,decide_eq_decide];omega
   have hyes:o.getD i 0 < 0→true=decide (o.getD i 0 < 0∨(l.length:Int)≤o.getD i 0):=fun h=>(decide_eq_true (.inl h)).symm
   by_cases hx:o.getD i 0 < 0
   all_goals
    conv=>whnf
    rw [getD_enc _ _ (i) 0 hi]
    refine ⟨idxA hi rfl,?_⟩
    conv=>whnf
    repeat' (first
     |(refine ⟨fun hg=>?_,fun hg=>?_⟩<;>first|contradiction|(exfalso;revert hg;simp;done)|(exfalso;exact absurd (of_decide_eq_true hg) (by assumption))|(exfalso;exact absurd (by assumption) (of_decide_eq_false hg))|(conv=>whnf))
     |(refine Or.inl ?_;conv=>whnf)
     |(refine ⟨_,c_when ..,?_⟩;conv=>whnf)
     |(refine ⟨_,c_first [_,_] (by simp),?_⟩;conv=>whnf)
     |(refine ⟨_,kH,?_⟩;conv=>whnf)
     |(rw [getD_enc _ _ i 0 hi];refine ⟨idxA hi rfl,?_⟩;conv=>whnf)
     |(refine ⟨⟨by omega,by omega,by rw [e0];omega,fun e he=>iD_ok o e he⟩,?_⟩;rw [show Int.toNat 0=0 from rfl,show ((i:Int) - 0).toNat=i by omega,hwd];conv=>whnf)
     |(refine And.intro ?_ ?_;kernel_rfl;conv=>whnf))
   all_goals
    first
    |contradiction
    |(have hg:firstE [whenE _ 10,whenE _ 9]≠0:=of_decide_eq_true hg
      rw [oE_first (n:=l.length) (x:=o.getD i 0) (seen:=o.take i) (by first|exact hyes hx|exact hdec hx) rfl] at hg ⊢
      rw [if_pos hg] at hd
      exact int_eq (by rw [h2,hd]))
    |(have hg:¬ firstE [whenE _ 10,whenE _ 9]≠0:=of_decide_eq_false hg
      rw [oE_first (n:=l.length) (x:=o.getD i 0) (seen:=o.take i) (by first|exact hyes hx|exact hdec hx) rfl] at hg
      rw [if_neg hg] at hd
      rw [wrap_succ i (by omega)]
      exact ⟨i+1,rfl,rfl,rfl,⟨hi,by rw [h2,hd]⟩,by omega⟩)
  ·have hi:i=o.length:=by have:=of_decide_eq_false hb;rw [e0] at this;omega
   clear hb
   conv=>whnf
   exact int_eq (by rw [h2,hi,List.drop_of_length_le (Nat.le_refl _)];rfl)
end Sh

namespace Sh
open Go Go.Proofs
def chkSO (c:Crw) (l:List Std) (o:List Int):Int:=if chkCT c l≠0 then chkCT c l else chkWs l.length (-1) o
theorem c_checkSet (c:Crw) (l:List Std) (o:List Int) (hl:l.length < 1073741824) (hn:∀ s ∈ l,s.name.length < 1073741824) (hw:o.length < 1073741824):PC 117 [encC c,tsV l,iL o,.bool true] (DV.int .i64 (chkSO c l o)):=by
 have e0:((o.map (DV.int .i64)).length:Int)=o.length:=by simp
 have e1:((l.map encT).length:Int)=l.length:=by simp
 have k1:=c_CheckCrew c
 have k2:=c_CheckStands l hl hn
 refine pureCall_ofR dh117 rfl ?_
 conv=>whnf
 repeat' (first
  |(refine ⟨fun hg=>?_,fun hg=>?_⟩<;>first|contradiction|(conv=>whnf))
  |(refine Or.inl ?_;conv=>whnf)
  |(refine ⟨_,k1,?_⟩;conv=>whnf)
  |(refine ⟨_,k2,?_⟩;conv=>whnf)
  |(refine ⟨_,c_first [_,_] (by simp),?_⟩;conv=>whnf)
  |(refine And.intro ?_ ?_;kernel_rfl;conv=>whnf))
 ·have hg:=of_decide_eq_true hg
  exact int_eq (by unfold chkSO chkCT;rw [if_pos hg])
 ·have hg:=of_decide_eq_false hg
  have hk:chkSO c l o=chkWs l.length (lastW o 0) (o.drop 0):=by unfold chkSO chkCT;rw [if_neg hg];rfl
  rw [hk]
  clear k1 k2
  refine dwp_loopU (P:=Tryz.prog) (G:=GC) (k:=dk117_0) (b:=db117_0) (α:=Nat) (fun i=>[(25,DV.int .i64 (i))]) (fun _=>[(4,.box 4 (encC c))]) (fun i=>i≤o.length∧chkWs l.length (lastW o 0) (o.drop 0)=chkWs l.length (lastW o i) (o.drop i)) (fun i=>o.length - i) 0 ⟨Nat.zero_le _,rfl⟩ ?_
  conv=>whnf
  refine ⟨rfl,rfl,?_⟩
  conv=>whnf
  refine ⟨rfl,?_⟩
  intro i ⟨h1,h2⟩
  conv=>whnf
  refine ⟨fun hb=>?_,fun hb=>?_⟩
  ·have hi:i < o.length:=by simpa using hb
   have hd:=chkWs_drop l.length o i hi
   clear hb
   have kH:=c_Contains (o.take i) (o.getD i 0) (by rw [List.length_take];omega)
   have hwd:window (o.map (DV.int .i64)) 0 i=(o.take i).map (DV.int .i64):=by simp [window]
   have hdec:¬ o.getD i 0 < 0→decide (((l.map encT).length:Int)≤o.getD i 0)=decide (o.getD i 0 < 0∨(l.length:Int)≤o.getD i 0):=fun h=>by rw [e1,decide_eq_decide];omega
   have hyes:o.getD i 0 < 0→true=decide (o.getD i 0 < 0∨(l.length:Int)≤o.getD i 0):=fun h=>(decide_eq_true (.inl h)).symm
   have hp:0 < i→lastW o i=o.getD (i - 1) 0:=fun h=>by unfold lastW;rw [if_neg (by omega)]
   have hz:i=0→lastW o i = -1:=fun h=>by unfold lastW;rw [if_pos h]
   have hmx:0 < i→IntKind.i64.wrap (minmaxI true (i:Int) 1 - 1)=((i - 1:Nat):Int):=fun h=>by
    rw [max_max,wrap_in (by omega) (by omega)];omega
   by_cases i0:(0:Int) < (i:Int)
   all_goals by_cases hx:o.getD i 0 < 0
   all_goals
    conv=>whnf
    rw [getD_enc _ _ (i) 0 hi]
    refine ⟨idxA hi rfl,?_⟩
    conv=>whnf
    repeat' (first
     |(refine ⟨fun hg=>?_,fun hg=>?_⟩<;>first|contradiction|(exfalso;revert hg;simp;done)|(exfalso;exact absurd (of_decide_eq_true hg) (by assumption))|(exfalso;exact absurd (by assumption) (of_decide_eq_false hg))|(conv=>whnf))
     |(refine Or.inl ?_;conv=>whnf)
     |(refine ⟨_,c_when ..,?_⟩;conv=>whnf)
     |(refine ⟨_,c_first [_,_] (by simp),?_⟩;conv=>whnf)
     |(refine ⟨_,kH,?_⟩;conv=>whnf)
     |(rw [getD_enc _ _ i 0 hi];refine ⟨idxA hi rfl,?_⟩;conv=>whnf)
     |(refine ⟨⟨by omega,by omega,by rw [e0];omega,fun e he=>iD_ok o e he⟩,?_⟩;rw [show Int.toNat 0=0 from rfl,show ((i:Int) - 0).toNat=i by omega,hwd];conv=>whnf)
     |(rw [hmx (by omega),getD_enc _ _ (i - 1) 0 (by omega)];refine ⟨idxA (by omega) rfl,?_⟩;conv=>whnf)
     |(refine And.intro ?_ ?_;kernel_rfl;conv=>whnf))
   all_goals
    first
    |contradiction
    |(have hg:firstE [whenE _ 10,whenE _ 11]≠0:=of_decide_eq_true hg
      rw [wE_first (n:=l.length) (x:=o.getD i 0) (last:=lastW o i) (by first|exact hyes hx|exact hdec hx) (fun hx'=>by first|exact absurd hx hx'|(rw [hp (by omega)];rfl)|(rw [hz (by omega)];symm;exact decide_eq_false (by omega)))] at hg ⊢
      rw [if_pos hg] at hd
      exact int_eq (by rw [h2,hd]))
    |(have hg:¬ firstE [whenE _ 10,whenE _ 11]≠0:=of_decide_eq_false hg
      rw [wE_first (n:=l.length) (x:=o.getD i 0) (last:=lastW o i) (by first|exact hyes hx|exact hdec hx) (fun hx'=>by first|exact absurd hx hx'|(rw [hp (by omega)];rfl)|(rw [hz (by omega)];symm;exact decide_eq_false (by omega)))] at hg
      rw [if_neg hg] at hd
      rw [wrap_succ i (by omega)]
      exact ⟨i+1,rfl,rfl,rfl,⟨hi,by rw [h2,hd]⟩,by omega⟩)
  ·have hi:i=o.length:=by have:=of_decide_eq_false hb;rw [e0] at this;omega
   clear hb
   conv=>whnf
   exact int_eq (by rw [h2,hi,List.drop_of_length_le (Nat.le_refl _)];rfl)
end Sh

namespace Sh
open Go
def db44_0 : DC := (.seq (.seq (.ops false [⟨some 4,.mov (.tmp 3),none,[]⟩,⟨some 5,.mov (.tmp 0),none,[]⟩,⟨some 6,.len (.tmp 5),none,[]⟩,⟨some 7,.bin .lss (.tmp 4) (.tmp 6),none,[]⟩]) (.cond (.tmp 7) .skip (.exit 0))) (.seq (.block 1 none (.seq (.ops false [⟨some 10,.mov (.tmp 0),none,[]⟩,⟨some 11,.mov (.tmp 3),none,[]⟩,⟨some 12,.iaddr 5 (.tmp 10) (.tmp 11),none,[]⟩,⟨some 13,.faddr 0 1 false (.tmp 12),none,[]⟩,⟨some 14,.load none (.tmp 13),none,[]⟩,⟨some 15,.lenS (.tmp 14),none,[]⟩,⟨some 16,.bin .gtr (.tmp 15) (.const (.int .i64 40)),none,[]⟩]) (.cond (.tmp 16) (.seq (.ops false [⟨some 2,.mov (.const (.bool false)),none,[]⟩]) .ret) .skip))) (.ops false [⟨some 8,.mov (.tmp 3),none,[]⟩,⟨some 9,.bin .add (.tmp 8) (.const (.int .i64 1)),none,[]⟩,⟨some 3,.mov (.tmp 9),none,[]⟩])))
def dk44_0 : Keep := ⟨[],[0,3],[]⟩
def dc44 : DFunc := ⟨25,1,[.tmp 2],.seq (.ops false [⟨some 2,.mov (.const (.bool false)),none,[]⟩]) (.seq (.seq (.ops false [⟨some 3,.mov (.const (.int .i64 0)),none,[]⟩]) (.block 0 (some ⟨[],[0],[]⟩) (.loop dk44_0 db44_0))) (.seq (.ops false [⟨some 17,.mov (.tmp 0),none,[]⟩,⟨some 18,.len (.tmp 17),none,[]⟩,⟨some 19,.bin .leq (.tmp 18) (.const (.int .i64 5)),none,[]⟩,⟨some 20,.mov (.tmp 19),none,[]⟩,⟨some 21,.mov (.tmp 0),some (20,false),[]⟩,⟨some 22,.len (.tmp 21),some (20,false),[]⟩,⟨some 23,.bin .eql (.tmp 22) (.const (.int .i64 9)),some (20,false),[]⟩,⟨some 24,.pick (.tmp 20) (.const (.bool true)) (.tmp 23),none,[]⟩,⟨some 2,.mov (.tmp 24),none,[]⟩]) .ret))⟩
theorem dh44:cProg Go.Proofs.Tryz.prog ⟨[(0,⟨[],[0,3],[]⟩)],[(0,⟨[],[0],[]⟩)],[]⟩ 44=some dc44:=by kernel_rfl
def dc45 : DFunc := ⟨20,3,[.tmp 6,.tmp 7],.seq (.ops false [⟨some 3,.box 4 (.tmp 0),none,[]⟩,⟨some 6,.mov (.const (.int .i64 0)),none,[]⟩,⟨some 7,.mov (.const (.int .i64 0)),none,[]⟩]) (.seq (.seq (.ops false [⟨some 9,.load (some 4) (.tmp 3),none,[]⟩,⟨some 10,.mov (.tmp 1),none,[]⟩,⟨some 11,.mov (.tmp 2),none,[]⟩,⟨some 12,.call (.func 117) [.tmp 9,.tmp 10,.tmp 11,.const (.bool false)],none,[]⟩,⟨some 8,.mov (.tmp 12),none,[]⟩]) (.seq (.ops false [⟨some 13,.mov (.tmp 8),none,[]⟩,⟨some 14,.bin .neq (.tmp 13) (.const (.int .i64 0)),none,[]⟩]) (.cond (.tmp 14) (.seq (.ops false [⟨some 15,.mov (.tmp 8),none,[]⟩,⟨some 6,.mov (.const (.int .i64 0)),none,[]⟩,⟨some 7,.mov (.tmp 15),none,[]⟩]) .ret) .skip))) (.seq (.ops false [⟨some 16,.load (some 4) (.tmp 3),none,[]⟩,⟨some 17,.mov (.tmp 1),none,[]⟩,⟨some 18,.mov (.tmp 2),none,[]⟩,⟨some 19,.call (.func 118) [.tmp 16,.tmp 17,.tmp 18],none,[]⟩,⟨some 6,.mov (.tmp 19),none,[]⟩,⟨some 7,.mov (.const (.int .i64 0)),none,[]⟩]) .ret))⟩
theorem dh45:cProg Go.Proofs.Tryz.prog ⟨[],[],[]⟩ 45=some dc45:=by kernel_rfl
def dc47 : DFunc := ⟨28,3,[.tmp 6,.tmp 7,.tmp 8],.seq (.ops false [⟨some 3,.box 4 (.tmp 0),none,[]⟩,⟨some 6,.mov (.const (.slice none 0 0)),none,[]⟩,⟨some 7,.mov (.const (.int .i64 0)),none,[]⟩,⟨some 8,.mov (.const (.int .i64 0)),none,[]⟩]) (.seq (.seq (.ops false [⟨some 12,.load (some 4) (.tmp 3),none,[]⟩,⟨some 13,.mov (.tmp 1),none,[]⟩,⟨some 14,.mov (.tmp 2),none,[]⟩,⟨some 15,.call (.func 117) [.tmp 12,.tmp 13,.tmp 14,.const (.bool true)],none,[]⟩,⟨some 9,.mov (.tmp 15),none,[]⟩]) (.seq (.ops false [⟨some 16,.mov (.tmp 9),none,[]⟩,⟨some 17,.bin .neq (.tmp 16) (.const (.int .i64 0)),none,[]⟩]) (.cond (.tmp 17) (.seq (.ops false [⟨some 18,.mov (.tmp 9),none,[]⟩,⟨some 6,.mov (.const (.slice none 0 0)),none,[]⟩,⟨some 7,.mov (.const (.int .i64 0)),none,[]⟩,⟨some 8,.mov (.tmp 18),none,[]⟩]) .ret) .skip))) (.seq (.ops false [⟨some 20,.load (some 4) (.tmp 3),none,[]⟩,⟨some 21,.mov (.tmp 1),none,[]⟩,⟨some 22,.mov (.tmp 2),none,[]⟩,⟨some 23,.call (.func 119) [.tmp 20,.tmp 21,.tmp 22],none,[]⟩,⟨some 19,.mov (.tmp 23),none,[]⟩,⟨some 24,.extract (.tmp 19) 0,none,[]⟩,⟨some 25,.extract (.tmp 19) 1,none,[]⟩,⟨some 10,.mov (.tmp 24),none,[]⟩,⟨some 11,.mov (.tmp 25),none,[]⟩]) (.seq (.ops false [⟨some 26,.mov (.tmp 10),none,[]⟩,⟨some 27,.mov (.tmp 11),none,[]⟩,⟨some 6,.mov (.tmp 26),none,[]⟩,⟨some 7,.mov (.tmp 27),none,[]⟩,⟨some 8,.mov (.const (.int .i64 0)),none,[]⟩]) .ret)))⟩
theorem dh47:cProg Go.Proofs.Tryz.prog ⟨[],[],[]⟩ 47=some dc47:=by kernel_rfl
end Sh

namespace Sh
open Go Go.Proofs
theorem chkO_zero {n:Nat}:∀ {o seen:List Int},chkO n seen o=0→∀ i ∈ o,0≤i∧i < n
 |[],_,_,i,hi=>by cases hi
 |x :: r,seen,h,i,hi=>by
  unfold chkO at h
  by_cases he:oE n x seen≠0
  ·rw [if_pos he] at h;exact absurd h he
  ·rw [if_neg he] at h
   rcases List.mem_cons.1 hi with rfl|hi
   ·by_cases hx:i < 0∨(n:Int)≤i
    ·exfalso;apply he;unfold oE;rw [if_pos hx];decide
    ·omega
   ·exact chkO_zero h i hi
theorem chkCT_ok {c:Crw} {l:List Std} (h:chkCT c l=0):OkCr c∧l.length≤8∧∀ s ∈ l,OkStd s:=by
 have h:=firstE_mem h
 have h2:=chkStd_zero (h _ (by simp:chkStd l ∈ _))
 exact ⟨chkCr_zero (h _ (by simp:chkCr c ∈ _)),h2.1,h2.2⟩
theorem c_Way (c:Crw) (l:List Std) (o:List Int) (hl:l.length < 1073741824) (hn:∀ s ∈ l,s.name.length < 1073741824) (hw:o.length < 1073741824):PC 45 [encC c,tsV l,iL o] (optI (chkOO c l o) (wayS c l o)):=by
 have k1:=c_checkOrder c l o hl hn hw
 by_cases hc:chkOO c l o≠0
 ·rw [optI_no hc]
  generalize chkOO c l o=k at *
  refine pureCall_ofR dh45 rfl ?_
  conv=>whnf
  repeat' (first
   |(refine ⟨fun hg=>?_,fun hg=>?_⟩<;>first|contradiction|(exfalso;revert hg;simp;done)|(exfalso;exact absurd (of_decide_eq_true hg) (by assumption))|(exfalso;exact absurd (by assumption) (of_decide_eq_false hg))|(conv=>whnf))
   |(refine Or.inl ?_;conv=>whnf)
   |(refine ⟨_,k1,?_⟩;conv=>whnf)
   |(refine And.intro ?_ ?_;kernel_rfl;conv=>whnf))
  rfl
 ·rw [optI_yes hc]
  have hz:chkCT c l=0∧chkO l.length [] o=0:=by
   unfold chkOO at hc
   by_cases h:chkCT c l≠0
   ·rw [if_pos h] at hc;exact absurd h hc
   ·rw [if_neg h] at hc;exact ⟨by omega,by omega⟩
  have hok:=chkCT_ok hz.1
  have k2:=c_way c l o hok.1 hok.2.2 (chkO_zero hz.2) hw hl
  generalize chkOO c l o=k at *
  refine pureCall_ofR dh45 rfl ?_
  conv=>whnf
  repeat' (first
   |(refine ⟨fun hg=>?_,fun hg=>?_⟩<;>first|contradiction|(exfalso;revert hg;simp;done)|(exfalso;exact absurd (of_decide_eq_true hg) (by assumption))|(exfalso;exact absurd (by assumption) (of_decide_eq_false hg))|(conv=>whnf))
   |(refine Or.inl ?_;conv=>whnf)
   |(refine ⟨_,k1,?_⟩;conv=>whnf)
   |(refine ⟨_,k2,?_⟩;conv=>whnf)
   |(refine And.intro ?_ ?_;kernel_rfl;conv=>whnf))
  rfl
end Sh

namespace Sh
open Go
theorem shortF_spec {c:Crw} {l:List Std}:∀ (os:List (List Int)) (b:List Int×Int),(∀ o ∈ os,0≤wayS c l o)→(0≤b.2→wayS c l b.1=b.2) →
  (os≠[]∨0≤b.2→0≤(shortF c l b os).2∧wayS c l (shortF c l b os).1=(shortF c l b os).2)∧(0≤b.2→(shortF c l b os).2≤b.2)∧(∀ o ∈ os,(shortF c l b os).2≤wayS c l o)∧((shortF c l b os).1 ∈ os∨shortF c l b os=b)
 |[],b,_,hb=>⟨fun h=>by
   rcases h with h|h
   ·exact absurd rfl h
   ·exact ⟨h,hb h⟩,fun _=>Int.le_refl _,fun o ho=>(by cases ho),.inr rfl⟩
 |o :: os,b,hos,hb=>by
  have h0:=hos o (by simp)
  unfold shortF
  by_cases h:b.2 < 0∨wayS c l o < b.2
  ·rw [if_pos h]
   obtain ⟨i1,i2,i3,i4⟩:=shortF_spec os (o,wayS c l o) (fun x hx=>hos x (by simp [hx])) (fun _=>rfl)
   have i1:=i1 (.inr h0)
   have i2:=i2 h0
   refine ⟨fun _=>i1,fun hb0=>?_,fun x hx=>?_,?_⟩
   ·have:wayS c l o < b.2:=by omega
    have i2:_≤wayS c l o:=i2
    omega
   ·rcases List.mem_cons.1 hx with rfl|hx
    ·exact i2
    ·exact i3 x hx
   ·rcases i4 with i4|i4
    ·exact .inl (by simp [i4])
    ·rw [i4];exact .inl (by simp)
  ·rw [if_neg h]
   have hb0:0≤b.2:=by omega
   obtain ⟨i1,i2,i3,i4⟩:=shortF_spec os b (fun x hx=>hos x (by simp [hx])) hb
   refine ⟨fun _=>i1 (.inr hb0),i2,fun x hx=>?_,?_⟩
   ·rcases List.mem_cons.1 hx with rfl|hx
    ·have:=i2 hb0;omega
    ·exact i3 x hx
   ·rcases i4 with i4|i4
    ·exact .inl (by simp [i4])
    ·exact .inr i4
structure Shortest (c:Crw) (l:List Std) (set:List Int) (b:List Int×Int):Prop where
 perm:b.1.Perm set
 way:wayS c l b.1=b.2
 nn:0≤b.2
 least:∀ o:List Int,o.Perm set→b.2≤wayS c l o
theorem shortS_spec {c:Crw} {l:List Std} {set:List Int} (hc:OkCr c) (hl:∀ s ∈ l,OkStd s) (hs:∀ i ∈ set,0≤i∧i < l.length):Shortest c l set (shortS c l set):=by
 have hp:=perms_perm set.length set rfl
 have hne:=perms_ne set.length set rfl
 have hnn:∀ o ∈ permsS set,0≤wayS c l o:=fun o ho=>(wayS_bd hc hl (fun i hi=>hs i ((hp o ho).subset hi))).1
 obtain ⟨i1,_,i3,i4⟩:=shortF_spec (c:=c) (l:=l) (permsS set) ([],-1) hnn (fun h=>by have h:(0:Int) ≤ -1:=h;omega)
 have i1:=i1 (.inl hne)
 refine ⟨?_,i1.2,i1.1,fun o ho=>i3 o (perms_all set.length set rfl o ho)⟩
 rcases i4 with i4|i4
 ·exact hp _ i4
 ·have:=i1.1
  unfold shortS at *
  rw [i4] at this
  have h:(0:Int) ≤ -1:=this
  omega
def sumW (l:List Std) (set:List Int):Int:=sumI (set.map fun i=>(l.getD i.toNat T0).worth)
def sumV (l:List Std) (set:List Int):Int:=sumI (set.map fun i=>(l.getD i.toNat T0).water)
def rndS (c:Crw) (l:List Std) (set:List Int):Pl:=⟨set,sumW l set - c.price * (shortS c l set).2⟩
def rnds (c:Crw) (l:List Std):List Pl:=((setsS l.length).filter fun set=>decide (sumV l set≤c.tank)).map (rndS c l)
def chosenS (c:Crw) (l:List Std):Pl:=bestP (rnds c l)
def boundS (c:Crw) (l:List Std) (p:Int):Int:=p * c.tank+sumI (l.map fun s=>max 0 (s.worth - p * s.water))
theorem inc_in {n:Nat} {set:List Int} (h:Inc n (-1) set):∀ i ∈ set,0≤i∧i < n:=fun i hi=>by
 have:=inc_gt h i hi;omega
theorem short_nil (c:Crw) (l:List Std):shortS c l []=([],0):=by
 have:wayS c l []=0:=by
  show disP c.depot c.depot=0
  unfold disP absI;split<;>split<;>omega
 show (if (-1:Int) < 0∨wayS c l [] < -1 then (([],wayS c l []):List Int×Int) else ([],-1))=_
 rw [this]
 exact if_pos (.inl (by decide))
theorem rnd_nil (c:Crw) (l:List Std):rndS c l []=P00:=by
 unfold rndS
 rw [short_nil]
 show (⟨[],0 - c.price * 0⟩:Pl)=⟨[],0⟩
 simp
theorem rnds_nil {c:Crw} (hc:OkCr c) (l:List Std):P00 ∈ rnds c l:=by
 unfold rnds
 refine List.mem_map.2 ⟨[],List.mem_filter.2 ⟨(mem_sets _ _).2 trivial,?_⟩,rnd_nil c l⟩
 have:sumV l []=0:=rfl
 have:=hc.t0
 exact decide_eq_true (by omega)
theorem mem_rnds {c:Crw} {l:List Std} {p:Pl}:p ∈ rnds c l ↔ ∃ set,Inc l.length (-1) set∧sumV l set≤c.tank∧p=rndS c l set:=by
 unfold rnds
 rw [List.mem_map]
 constructor
 ·rintro ⟨set,h,rfl⟩
  obtain ⟨h1,h2⟩:=List.mem_filter.1 h
  exact ⟨set,(mem_sets _ _).1 h1,of_decide_eq_true h2,rfl⟩
 ·rintro ⟨set,h1,h2,rfl⟩
  exact ⟨set,List.mem_filter.2 ⟨(mem_sets _ _).2 h1,decide_eq_true h2⟩,rfl⟩
end Sh

namespace Sh
open Go Go.Proofs
def bgV:List Int→DV
 |[]=>.full []
 |a :: r=>.list (iD (a :: r))
def dcEmpC:DFunc:=⟨8,1,[(.tmp 2)],(.seq (.ops false [⟨(some 2),(.mov (.const (.slice none 0 0))),none,[]⟩]) (.seq (.seq (.ops false [⟨(some 3),(.mov (.tmp 0)),none,[]⟩,⟨(some 4),(.eqNil false (.tmp 3)),none,[]⟩]) (.cond (.tmp 4) (.seq (.ops false [⟨(some 2),(.mov (.const (.slice none 0 0))),none,[]⟩]) .ret) .skip)) (.seq (.ops false [⟨(some 5),(.lit true 1 0 (.int .i64 0) []),none,[]⟩,⟨(some 6),(.mov (.tmp 0)),none,[]⟩,⟨(some 7),(.appendE 1 (.tmp 5) (.tmp 6)),none,[]⟩,⟨(some 2),(.mov (.tmp 7)),none,[]⟩]) .ret)))⟩
theorem dhEmpC:cProg Go.Proofs.Tryz.prog ⟨[],[],[5,1000007]⟩ 104=some dcEmpC:=by kernel_rfl
theorem h_CloneE:HCall Tryz.prog GC 104 [.full []] [] (.full []) []:=by
 refine hCall_ofR dhEmpC rfl (by kernel_rfl) (by kernel_rfl) ?_
 conv=>whnf
 refine ⟨?_,?_⟩
 ·conv=>whnf
  exact ⟨rfl,rfl⟩
 ·conv=>whnf
  refine ⟨rfl,?_⟩
  conv=>whnf
  exact ⟨rfl,rfl⟩
def stepO (c:Crw) (l:List Std) (b:List Int×Int) (o:List Int):List Int×Int:=if b.2 < 0∨wayS c l o < b.2 then (o,wayS c l o) else b
theorem shortF_cons (c:Crw) (l:List Std) (b:List Int×Int) (o:List Int) (r:List (List Int)):shortF c l b (o :: r)=shortF c l (stepO c l b o) r:=rfl
def ordK (n:Nat) (rest:List Int) (k:Nat):List (List Int):=(List.range k).flatMap fun j=>(permsF n (rest.eraseIdx j)).map fun o=>rest.getD j 0 :: o
theorem ordK_all (n:Nat) (rest:List Int):permsF (n+1) rest=ordK n rest rest.length:=rfl
theorem ordK_succ (n:Nat) (rest bg:List Int) (k:Nat):(ordK n rest (k+1)).map (bg++·)=(ordK n rest k).map (bg++·)++(permsF n (rest.eraseIdx k)).map ((bg++[rest.getD k 0])++·):=by
 unfold ordK
 rw [List.range_succ,List.flatMap_append,List.map_append]
 simp [List.map_map,Function.comp_def]
def crwF:DV:=.func 152 [.bptr 93 0,.bptr 94 0,.bptr 91 0,.bptr 92 0]
def stO (c:Crw) (l:List Std) (b:List Int×Int):Heap:=[(92,.box 1 (iL b.1)),(91,.box 1 (DV.int .i64 (b.2))),(93,.box 4 (encC c)),(94,.box 1 (tsV l))]
theorem h_short (c:Crw) (l:List Std) (o:List Int) (b:List Int×Int) (hc:OkCr c) (hl:∀ s ∈ l,OkStd s) (ho:∀ i ∈ o,0≤i∧i < l.length) (hol:o.length < 1073741824) (hll:l.length < 1073741824) :
  HCall Tryz.prog GC 152 [bgV o,.bptr 93 0,.bptr 94 0,.bptr 91 0,.bptr 92 0] (stO c l b) (.bool true) (stO c l (stepO c l b o)):=by
 have k1:=c_way c l o hc hl ho hol hll
 have k2:=c_CloneI o hol
 by_cases h:b.2 < 0∨wayS c l o < b.2
 ·have hs:stepO c l b o=(o,wayS c l o):=by unfold stepO;rw [if_pos h]
  rw [hs]
  cases o
  all_goals
   refine hCall_ofR dh152 rfl (by kernel_rfl) (by kernel_rfl) ?_
   conv=>whnf
   repeat' (first
    |(refine ⟨fun hg=>?_,fun hg=>?_⟩<;>first|contradiction|(replace hg:=of_decide_eq_true hg;first|(exfalso;omega;done)|(conv=>whnf))|(replace hg:=of_decide_eq_false hg;first|(exfalso;omega;done)|(conv=>whnf))|(skip;conv=>whnf)|(conv=>whnf))
    |(refine Or.inl ?_;conv=>whnf)
    |(refine ⟨_,k1,?_⟩;conv=>whnf)
    |(refine ⟨_,k2,?_⟩;conv=>whnf)
    |(refine And.intro ?_ ?_;kernel_rfl;conv=>whnf))
   all_goals first|rfl|trace_state
 ·have hs:stepO c l b o=b:=by unfold stepO;rw [if_neg h]
  rw [hs]
  cases o
  all_goals
   refine hCall_ofR dh152 rfl (by kernel_rfl) (by kernel_rfl) ?_
   conv=>whnf
   repeat' (first
    |(refine ⟨fun hg=>?_,fun hg=>?_⟩<;>first|contradiction|(replace hg:=of_decide_eq_true hg;first|(exfalso;omega;done)|(conv=>whnf))|(replace hg:=of_decide_eq_false hg;first|(exfalso;omega;done)|(conv=>whnf))|(skip;conv=>whnf)|(conv=>whnf))
    |(refine Or.inl ?_;conv=>whnf)
    |(refine ⟨_,k1,?_⟩;conv=>whnf)
    |(refine ⟨_,k2,?_⟩;conv=>whnf)
    |(refine And.intro ?_ ?_;kernel_rfl;conv=>whnf))
   all_goals first|rfl|trace_state
theorem permsF_zero (l:List Int):permsF 0 l=[[]]:=rfl
theorem h_ordO {c:Crw} {l:List Std} {bg rest:List Int} {b b':List Int×Int} {E:List DV} {m t:Nat} (hE:window E 0 m=iD rest) (ht:t=E.length) (k:HCall Tryz.prog GC 151 [.list (iD bg),iL rest,crwF] (stO c l b) (.bool true) (stO c l b')) :
  HCall Tryz.prog GC 151 [.own 71 0 (iD bg).length (iD bg).length,.own 70 0 m t,crwF] ((71,.row 1 (iD bg) false) :: (70,.row 1 E false) :: stO c l b) (.bool true) ((71,.row 1 (iD bg) true) :: (70,.row 1 E true) :: stO c l b'):=by
 have k1:=hCall_own (n:=70) (off:=0) (len:=m) (tot:=t) (sz:=1) (fr:=false) (es:=E) (A:=[.list (iD bg)]) (Bs:=[crwF]) (by rw [hE];exact k) ht (by kernel_rfl) (by simp [stO])
 exact hCall_own (n:=71) (off:=0) (len:=(iD bg).length) (tot:=(iD bg).length) (sz:=1) (fr:=false) (es:=iD bg) (A:=[]) (Bs:=[.own 70 0 m t,crwF]) (by rw [window_full];exact k1) rfl (by kernel_rfl) (by simp [stO])
theorem del_win (l:List Int) (i:Nat) (hi:i < l.length):window (iD (l.eraseIdx i++[0])) 0 ((iD l).length - 1)=iD (l.eraseIdx i):=by
 have hel:(l.eraseIdx i).length=l.length - 1:=by rw [List.length_eraseIdx,if_pos hi]
 rw [show ∀ (l:List DV) k,window l 0 k=l.take k from fun l k=>by simp [window],iD_app,List.take_append_of_le_length (by rw [iD_len,iD_len,hel];omega),List.take_of_length_le (by rw [iD_len,iD_len,hel];omega)]
theorem del_len (l:List Int) (i:Nat) (hi:i < l.length):(iD l).length=(iD (l.eraseIdx i++[0])).length:=by
 rw [iD_len,iD_len,List.length_append,List.length_eraseIdx,if_pos hi];simp;omega
theorem h_orders (c:Crw) (l:List Std) (hc:OkCr c) (hl:∀ s ∈ l,OkStd s) (hll:l.length < 1073741824):∀ (n:Nat) (bg rest:List Int) (b:List Int×Int),rest.length=n→(∀ i ∈ bg++rest,0≤i∧i < l.length)→bg.length+rest.length < 1000000 →
  HCall Tryz.prog GC 151 [bgV bg,iL rest,crwF] (stO c l b) (.bool true) (stO c l (shortF c l b ((permsF n rest).map (bg++·)))):=by
 intro n
 induction n with
 |zero =>
  intro bg rest b hn hi hsz
  have hr:rest=[]:=List.eq_nil_of_length_eq_zero hn
  subst hr
  rw [permsF_zero,List.map_singleton,List.append_nil,shortF_cons]
  have k1:=h_short c l bg b hc hl (by simpa using hi) (by omega) hll
  show HCall _ _ _ _ _ _ (stO c l (stepO c l b bg))
  generalize stepO c l b bg=b' at *
  cases bg
  all_goals
   refine hCall_ofR dh151 rfl (by kernel_rfl) (by kernel_rfl) ?_
   conv=>whnf
   refine ⟨fun _=>?_,fun hg=>absurd hg (by decide)⟩
   conv=>whnf
   refine .inr ⟨[(91,91)],_,_,_,_,k1,⟨rfl,by kernel_rfl,?_,?_⟩,?_⟩
   ·exact ⟨rfl,rfl,rfl,rfl,trivial⟩
   ·exact ⟨.inl rfl,.inl rfl,.inl rfl,.inl rfl,trivial⟩
   conv=>whnf
   exact ⟨rfl,rfl⟩
 |succ n ih =>
  intro bg rest b hn hin hsz
  have e0:((rest.map (DV.int .i64)).length:Int)=rest.length:=by simp
  rw [ordK_all]
  cases hbg:bg with
  |nil =>
   subst hbg
   refine hCall_ofR dh151 rfl (by kernel_rfl) (by kernel_rfl) ?_
   conv=>whnf
   refine ⟨fun hg=>by have:=of_decide_eq_true hg;rw [e0] at this;omega,fun _=>?_⟩
   conv=>whnf
   refine dwp_loopU (P:=Tryz.prog) (G:=GC) (k:=dk151_0) (b:=db151_0) (α:=Nat) (fun i=>[(18,DV.int .i64 (i))]) (fun i=>[(91,.box 1 (DV.int .i64 ((shortF c l b ((ordK n rest i).map ([]++·))).2))),(92,.box 1 (iL (shortF c l b ((ordK n rest i).map ([]++·))).1)),(93,.box 4 (encC c)),(94,.box 1 (tsV l))]) (fun i=>i≤rest.length) (fun i=>rest.length - i) 0 (Nat.zero_le _) ?_
   conv=>whnf
   refine ⟨rfl,rfl,?_⟩
   conv=>whnf
   refine ⟨rfl,?_⟩
   intro i h1
   conv=>whnf
   refine ⟨fun hb=>?_,fun hb=>?_⟩
   ·have hi:i < rest.length:=by have:=of_decide_eq_true hb;rw [e0] at this;omega
    clear hb
    have hel:(rest.eraseIdx i).length=n:=by rw [List.length_eraseIdx,if_pos hi];omega
    have hsucc:=ordK_succ n rest ([]:List Int) i
    have hst:shortF c l b ((ordK n rest (i+1)).map (([]:List Int)++·))=shortF c l (shortF c l b ((ordK n rest i).map (([]:List Int)++·))) ((permsF n (rest.eraseIdx i)).map ((([]:List Int)++[rest.getD i 0])++·)):=by rw [hsucc,shortF_append]
    have kI:=ih (([]:List Int)++[rest.getD i 0]) (rest.eraseIdx i) (shortF c l b ((ordK n rest i).map (([]:List Int)++·))) hel (fun j hj=>by
     rcases List.mem_append.1 hj with hj|hj
     ·rcases List.mem_append.1 hj with hj|hj
      ·exact hin j (List.mem_append.2 (.inl hj))
      ·rw [List.mem_singleton.1 hj];exact hin _ (List.mem_append.2 (.inr (getD_in 0 hi)))
     ·exact hin j (List.mem_append.2 (.inr (List.eraseIdx_subset hj)))) (by rw [hel,List.length_append];simp at hsz ⊢;omega)
    rw [← hst] at kI
    have kO:=h_ordO (del_win rest i hi) (del_len rest i hi) kI
    have hst':=hst
    generalize hX':shortF c l b ((ordK n rest (i+1)).map (([]:List Int)++·))=X' at *
    generalize shortF c l b ((ordK n rest i).map (([]:List Int)++·))=X at *
    have hne:rest≠[]:=by intro e;rw [e] at hi;simp at hi
    have hrl:rest.length < 1073741824:=by omega
    conv=>whnf
    rw [getD_enc _ _ (i) 0 hi]
    refine ⟨idxA hi rfl,?_⟩
    conv=>whnf
    refine .inr ⟨[(7,24)],_,_,_,_,h_CloneI rest hrl hne,⟨rfl,by kernel_rfl,?_,?_⟩,?_⟩
    ·exact trivial
    ·exact ⟨.inr rfl,trivial⟩
    conv=>whnf
    rw [wrap_succ i (by omega)]
    conv=>whnf
    refine .inr ⟨[(7,24)],_,_,_,_,h_DeleteI rest i hrl hi,⟨rfl,by kernel_rfl,?_,?_⟩,?_⟩
    ·exact ⟨rfl,trivial⟩
    ·exact ⟨.inl rfl,trivial⟩
    conv=>whnf
    refine .inr ⟨[(7,25)],_,_,_,_,h_CloneE,⟨rfl,by kernel_rfl,?_,?_⟩,?_⟩
    ·exact trivial
    ·exact trivial
    conv=>whnf
    refine ⟨⟨by simp,fun e he=>by simp at he;subst he;rfl,fun e he=>by simp at he,.inl rfl⟩,?_⟩
    conv=>whnf
    refine .inr ⟨[(71,33),(70,24)],_,_,_,_,kO,⟨rfl,by kernel_rfl,?_,?_⟩,?_⟩
    ·exact ⟨rfl,rfl,rfl,rfl,rfl,rfl,trivial⟩
    ·exact ⟨.inl rfl,.inl rfl,.inl rfl,.inl rfl,.inl rfl,.inl rfl,trivial⟩
    conv=>whnf
    refine ⟨fun hg=>absurd hg (by decide),fun _=>?_⟩
    conv=>whnf
    rw [wrap_succ i (by omega)]
    exact ⟨i+1,rfl,rfl,by rw [hX'];rfl,hi,by omega⟩
   ·have hi:i=rest.length:=by have:=of_decide_eq_false hb;rw [e0] at this;omega
    clear hb
    rw [hi]
    generalize shortF c l b ((ordK n rest rest.length).map ([]++·))=X at *
    conv=>whnf
    exact ⟨rfl,rfl⟩
  |cons a0 bg =>
   subst hbg
   refine hCall_ofR dh151 rfl (by kernel_rfl) (by kernel_rfl) ?_
   conv=>whnf
   refine ⟨fun hg=>by have:=of_decide_eq_true hg;rw [e0] at this;omega,fun _=>?_⟩
   conv=>whnf
   refine dwp_loopU (P:=Tryz.prog) (G:=GC) (k:=dk151_0) (b:=db151_0) (α:=Nat) (fun i=>[(18,DV.int .i64 (i))]) (fun i=>[(91,.box 1 (DV.int .i64 ((shortF c l b ((ordK n rest i).map ((a0 :: bg)++·))).2))),(92,.box 1 (iL (shortF c l b ((ordK n rest i).map ((a0 :: bg)++·))).1)),(93,.box 4 (encC c)),(94,.box 1 (tsV l))]) (fun i=>i≤rest.length) (fun i=>rest.length - i) 0 (Nat.zero_le _) ?_
   conv=>whnf
   refine ⟨rfl,rfl,?_⟩
   conv=>whnf
   refine ⟨rfl,?_⟩
   intro i h1
   conv=>whnf
   refine ⟨fun hb=>?_,fun hb=>?_⟩
   ·have hi:i < rest.length:=by have:=of_decide_eq_true hb;rw [e0] at this;omega
    clear hb
    have hel:(rest.eraseIdx i).length=n:=by rw [List.length_eraseIdx,if_pos hi];omega
    have hsucc:=ordK_succ n rest (a0 :: bg) i
    have hst:shortF c l b ((ordK n rest (i+1)).map ((a0 :: bg)++·))=shortF c l (shortF c l b ((ordK n rest i).map ((a0 :: bg)++·))) ((permsF n (rest.eraseIdx i)).map (((a0 :: bg)++[rest.getD i 0])++·)):=by rw [hsucc,shortF_append]
    have kI:=ih ((a0 :: bg)++[rest.getD i 0]) (rest.eraseIdx i) (shortF c l b ((ordK n rest i).map ((a0 :: bg)++·))) hel (fun j hj=>by
     rcases List.mem_append.1 hj with hj|hj
     ·rcases List.mem_append.1 hj with hj|hj
      ·exact hin j (List.mem_append.2 (.inl hj))
      ·rw [List.mem_singleton.1 hj];exact hin _ (List.mem_append.2 (.inr (getD_in 0 hi)))
     ·exact hin j (List.mem_append.2 (.inr (List.eraseIdx_subset hj)))) (by rw [hel,List.length_append];simp at hsz ⊢;omega)
    rw [← hst] at kI
    have kO:=h_ordO (del_win rest i hi) (del_len rest i hi) kI
    have hst':=hst
    generalize hX':shortF c l b ((ordK n rest (i+1)).map ((a0 :: bg)++·))=X' at *
    generalize shortF c l b ((ordK n rest i).map ((a0 :: bg)++·))=X at *
    have hne:rest≠[]:=by intro e;rw [e] at hi;simp at hi
    have hrl:rest.length < 1073741824:=by omega
    conv=>whnf
    rw [getD_enc _ _ (i) 0 hi]
    refine ⟨idxA hi rfl,?_⟩
    conv=>whnf
    refine .inr ⟨[(7,24)],_,_,_,_,h_CloneI rest hrl hne,⟨rfl,by kernel_rfl,?_,?_⟩,?_⟩
    ·exact trivial
    ·exact ⟨.inr rfl,trivial⟩
    conv=>whnf
    rw [wrap_succ i (by omega)]
    conv=>whnf
    refine .inr ⟨[(7,24)],_,_,_,_,h_DeleteI rest i hrl hi,⟨rfl,by kernel_rfl,?_,?_⟩,?_⟩
    ·exact ⟨rfl,trivial⟩
    ·exact ⟨.inl rfl,trivial⟩
    conv=>whnf
    refine .inr ⟨[(7,30)],_,_,_,_,h_CloneI (a0 :: bg) (by simp at hsz ⊢;omega) (by simp),⟨rfl,by kernel_rfl,?_,?_⟩,?_⟩
    ·exact trivial
    ·exact ⟨.inr rfl,trivial⟩
    conv=>whnf
    refine ⟨⟨rfl,rfl,rfl,by rw [iD_len];simp at hsz ⊢;omega,fun e he=>by simp at he;subst he;rfl⟩,?_⟩
    rw [show iD (a0 :: bg)++[DV.int .i64 (rest.getD i 0)].reverse=iD ((a0 :: bg)++[rest.getD i 0]) from (iD_app (a0 :: bg) (rest.getD i 0)).symm]
    conv=>whnf
    refine .inr ⟨[(71,30),(70,24)],_,_,_,_,kO,⟨rfl,by kernel_rfl,?_,?_⟩,?_⟩
    ·exact ⟨rfl,rfl,rfl,rfl,rfl,rfl,trivial⟩
    ·exact ⟨.inl rfl,.inl rfl,.inl rfl,.inl rfl,.inl rfl,.inl rfl,trivial⟩
    conv=>whnf
    refine ⟨fun hg=>absurd hg (by decide),fun _=>?_⟩
    conv=>whnf
    rw [wrap_succ i (by omega)]
    exact ⟨i+1,rfl,rfl,by rw [hX'];rfl,hi,by omega⟩
   ·have hi:i=rest.length:=by have:=of_decide_eq_false hb;rw [e0] at this;omega
    clear hb
    rw [hi]
    generalize shortF c l b ((ordK n rest rest.length).map ((a0 :: bg)++·))=X at *
    conv=>whnf
    exact ⟨rfl,rfl⟩
end Sh

namespace Sh
open Go
end Sh

namespace Sh
open Go
theorem gd_l {α:Type} (a b:List α) (d:α) (i:Nat) (h:i < a.length):(a++b).getD i d=a.getD i d:=by simp [List.getD_eq_getElem?_getD,List.getElem?_append,h]
theorem gd_r {α:Type} (a b:List α) (d:α) (i:Nat) (h:a.length≤i):(a++b).getD i d=b.getD (i - a.length) d:=by simp [List.getD_eq_getElem?_getD,List.getElem?_append,Nat.not_lt.2 h]
def bitsF (b i:Nat):List Int:=((List.range i).filter fun j=>decide (b / 2 ^ j % 2=1)).map fun (j:Nat)=>(j:Int)
theorem bitsF_succ (b i:Nat):bitsF b (i+1)=if b / 2 ^ i % 2=1 then bitsF b i++[(i:Int)] else bitsF b i:=by
 unfold bitsF
 rw [List.range_succ,List.filter_append]
 by_cases h:b / 2 ^ i % 2=1
 ·rw [if_pos h,List.filter_cons_of_pos (by simp [h])];simp
 ·rw [if_neg h,List.filter_cons_of_neg (by simp [h])];simp
theorem bitsF_len (b i:Nat):(bitsF b i).length≤i:=by
 unfold bitsF;rw [List.length_map];exact Nat.le_trans (List.length_filter_le _ _) (by simp)
theorem bitsF_in (b i:Nat):∀ x ∈ bitsF b i,0≤x∧x < i:=fun x hx=>by
 unfold bitsF at hx
 obtain ⟨j,hj,rfl⟩:=List.mem_map.1 hx
 have:=List.mem_range.1 (List.mem_filter.1 hj).1
 omega
theorem setsS_length:∀ n:Nat,(setsS n).length=2 ^ n
 |0=>rfl
 |n+1=>by show (setsS n++(setsS n).map _).length=_;rw [List.length_append,List.length_map,setsS_length n,Nat.pow_succ];omega
theorem bit_high (m j n:Nat) (h:j < n):(2 ^ n+m) / 2 ^ j % 2=m / 2 ^ j % 2:=by
 obtain ⟨k,rfl⟩:∃ k,n=j+(k+1):=⟨n - j - 1,by omega⟩
 have e:2 ^ (j+(k+1))=2 ^ j * (2 * 2 ^ k):=by rw [Nat.pow_add,Nat.pow_succ,Nat.mul_comm (2 ^ k) 2]
 rw [e,Nat.add_comm,Nat.add_mul_div_left _ _ (Nat.pow_pos (by decide)),Nat.add_mul_mod_self_left]
theorem bitsF_high (m n:Nat):∀ i,i≤n→bitsF (2 ^ n+m) i=bitsF m i
 |0,_=>rfl
 |i+1,h=>by rw [bitsF_succ,bitsF_succ,bit_high m i n h,bitsF_high m n i (by omega)]
theorem setsS_bits:∀ (n b:Nat),b < 2 ^ n→(setsS n).getD b []=bitsF b n
 |0,b,h=>by
  have:b=0:=by simp at h;exact h
  subst this;rfl
 |n+1,b,h=>by
  show (setsS n++(setsS n).map _).getD b []=_
  rw [bitsF_succ]
  by_cases hb:b < 2 ^ n
  ·rw [gd_l _ _ _ _ (by rw [setsS_length];exact hb),setsS_bits n b hb,if_neg (by rw [Nat.div_eq_of_lt hb];decide)]
  ·obtain ⟨m,rfl⟩:∃ m,b=2 ^ n+m:=⟨b - 2 ^ n,by omega⟩
   have hm:m < 2 ^ n:=by rw [Nat.pow_succ] at h;omega
   have h1:(2 ^ n+m) / 2 ^ n % 2=1:=by
    rw [Nat.add_div_left _ (Nat.pow_pos (by decide)),Nat.div_eq_of_lt hm]
   have hml:m < (setsS n).length:=by rw [setsS_length];exact hm
   rw [if_pos h1,bitsF_high m n n (Nat.le_refl _),← setsS_bits n m hm,gd_r _ _ _ _ (by rw [setsS_length];omega),setsS_length,show 2 ^ n+m - 2 ^ n=m by omega]
   simp [List.getD_eq_getElem?_getD,hml]
theorem sumW_snoc (l:List Std) (a:List Int) (i:Nat):sumW l (a++[(i:Int)])=sumW l a+(l.getD i T0).worth:=by
 unfold sumW;rw [List.map_append,sumI_append,List.map_singleton,sumI_one,Int.toNat_natCast]
theorem sumV_snoc (l:List Std) (a:List Int) (i:Nat):sumV l (a++[(i:Int)])=sumV l a+(l.getD i T0).water:=by
 unfold sumV;rw [List.map_append,sumI_append,List.map_singleton,sumI_one,Int.toNat_natCast]
theorem sumW_bd {l:List Std} (hl:∀ s ∈ l,OkStd s) {a:List Int} (ha:∀ i ∈ a,0≤i∧i < l.length):0≤sumW l a∧sumW l a≤a.length * 1000000∧0≤sumV l a∧sumV l a≤a.length * 10000:=by
 have h1:∀ i ∈ a,OkStd (l.getD i.toNat T0):=fun i hi=>hl _ (getD_in T0 (by have:=ha i hi;omega))
 have hw:=sumI_bd (l:=a.map fun i=>(l.getD i.toNat T0).worth) (A:=0) (B:=1000000) (fun x hx=>by
  obtain ⟨i,hi,rfl⟩:=List.mem_map.1 hx
  have:=h1 i hi
  exact ⟨this.w0,this.w1⟩)
 have hv:=sumI_bd (l:=a.map fun i=>(l.getD i.toNat T0).water) (A:=0) (B:=10000) (fun x hx=>by
  obtain ⟨i,hi,rfl⟩:=List.mem_map.1 hx
  have:=h1 i hi
  exact ⟨this.v0,this.v1⟩)
 rw [List.length_map] at hw hv
 unfold sumW sumV
 omega
def rndK (c:Crw) (l:List Std) (k:Nat):List Pl:=(((setsS l.length).take k).filter fun set=>decide (sumV l set≤c.tank)).map (rndS c l)
theorem rndK_succ (c:Crw) (l:List Std) (k:Nat) (h:k < 2 ^ l.length):rndK c l (k+1)=if sumV l (bitsF k l.length)≤c.tank then rndK c l k++[rndS c l (bitsF k l.length)] else rndK c l k:=by
 unfold rndK
 rw [take_snoc _ k [] (by rw [setsS_length];exact h),setsS_bits _ _ h,List.filter_append]
 by_cases hv:sumV l (bitsF k l.length)≤c.tank
 ·rw [if_pos hv,List.filter_cons_of_pos (by simp [hv])];simp
 ·rw [if_neg hv,List.filter_cons_of_neg (by simp [hv])];simp
theorem rndK_all (c:Crw) (l:List Std):rndK c l (2 ^ l.length)=rnds c l:=by
 unfold rndK rnds;rw [List.take_of_length_le (by rw [setsS_length];exact Nat.le_refl _)]
theorem rndK_len (c:Crw) (l:List Std) (k:Nat):(rndK c l k).length≤k:=by
 unfold rndK;rw [List.length_map]
 exact Nat.le_trans (List.length_filter_le _ _) (by rw [List.length_take];omega)
theorem inc_of_chk {n:Nat}:∀ {l:List Int} {lo:Int},chkWs n lo l=0→Inc n lo l
 |[],_,_=>trivial
 |x :: r,lo,h=>by
  unfold chkWs at h
  by_cases h1:x < 0∨(n:Int)≤x
  ·rw [if_pos h1] at h;cases h
  ·rw [if_neg h1] at h
   by_cases h2:x≤lo
   ·rw [if_pos h2] at h;cases h
   ·rw [if_neg h2] at h
    exact ⟨by omega,by omega,inc_of_chk h⟩
theorem inc_len {n:Nat}:∀ {l:List Int} {lo:Int},Inc n lo l→lo < n→(l.length:Int)≤n - (lo+1)
 |[],lo,_,h=>by simp;omega
 |x :: r,lo,h,_=>by
  have:=inc_len h.2.2 h.2.1
  have:=h.1
  simp only [List.length_cons];omega
theorem inc_nodup {n:Nat}:∀ {l:List Int} {lo:Int},Inc n lo l→l.Nodup
 |[],_,_=>List.nodup_nil
 |x :: r,lo,h=>List.nodup_cons.2 ⟨fun hm=>by have:=inc_gt h.2.2 x hm;omega,inc_nodup h.2.2⟩
structure SetOk (n:Nat) (set:List Int):Prop where
 inr:∀ i ∈ set,0≤i∧i < n
 nd:set.Nodup
 len:set.length≤n
theorem setOk_of {n:Nat} {set:List Int} (h:Inc n (-1) set):SetOk n set :=
 ⟨inc_in h,inc_nodup h,by have:=inc_len h (by omega);omega⟩
end Sh

namespace Sh
open Go Go.Proofs
end Sh

namespace Sh
open Go Go.Proofs
end Sh

namespace Sh
open Go Go.Proofs
theorem c_shortest (c:Crw) (l:List Std) (set:List Int) (hc:OkCr c) (hl:∀ s ∈ l,OkStd s) (hs:∀ i ∈ set,0≤i∧i < l.length) (h8:set.length≤8) (hll:l.length≤8):PC 119 [encC c,tsV l,iL set] (.tuple [iL (shortS c l set).1,DV.int .i64 ((shortS c l set).2)]):=by
 have kO:=hCall_full (h_orders c l hc hl (by omega) set.length [] set ([],-1) rfl (by simpa using hs) (by simp;omega))
 have hX:shortF c l ([],-1) ((permsF set.length set).map ([]++·))=shortS c l set:=by
  unfold shortS permsS;simp
 rw [hX] at kO
 refine pureCall_ofR dh119 rfl ?_
 conv=>whnf
 refine .inr ⟨[(92,8),(91,9),(93,3),(94,4)],_,_,_,_,kO,⟨rfl,by kernel_rfl,?_,?_⟩,?_⟩
 ·exact ⟨rfl,rfl,rfl,rfl,trivial⟩
 ·exact ⟨.inl rfl,.inl rfl,.inl rfl,.inl rfl,trivial⟩
 conv=>whnf
 refine ⟨by kernel_rfl,?_⟩
 conv=>whnf
 rfl
theorem chkSO_ok {c:Crw} {l:List Std} {set:List Int} (h:¬ chkSO c l set≠0):chkCT c l=0∧OkCr c∧l.length≤8∧(∀ s ∈ l,OkStd s)∧chkWs l.length (-1) set=0∧SetOk l.length set:=by
 have hz:chkCT c l=0∧chkWs l.length (-1) set=0:=by
  unfold chkSO at h
  by_cases h1:chkCT c l≠0
  ·rw [if_pos h1] at h;exact absurd h1 h
  ·rw [if_neg h1] at h;exact ⟨by omega,by omega⟩
 obtain ⟨h1,h2,h3⟩:=chkCT_ok hz.1
 exact ⟨hz.1,h1,h2,h3,hz.2,setOk_of (inc_of_chk hz.2)⟩
def plS (b:List Int×Int):Pl:=⟨b.1,b.2⟩
theorem c_Shortest (c:Crw) (l:List Std) (set:List Int) (hl:l.length < 1073741824) (hn:∀ s ∈ l,s.name.length < 1073741824) (hw:set.length < 1073741824):PC 47 [encC c,tsV l,iL set] (optLW (chkSO c l set) (plS (shortS c l set))):=by
 have k1:=c_checkSet c l set hl hn hw
 by_cases hc:chkSO c l set≠0
 ·unfold optLW
  rw [if_pos hc,if_pos hc]
  generalize chkSO c l set=k at *
  refine pureCall_ofR dh47 rfl ?_
  conv=>whnf
  repeat' (first
   |(refine ⟨fun hg=>?_,fun hg=>?_⟩<;>first|contradiction|(exfalso;revert hg;simp;done)|(exfalso;exact absurd (of_decide_eq_true hg) (by assumption))|(exfalso;exact absurd (by assumption) (of_decide_eq_false hg))|(conv=>whnf))
   |(refine Or.inl ?_;conv=>whnf)
   |(refine ⟨_,k1,?_⟩;conv=>whnf)
   |(refine And.intro ?_ ?_;kernel_rfl;conv=>whnf))
  rfl
 ·unfold optLW
  rw [if_neg hc,if_neg hc]
  obtain ⟨_,h1,h2,h3,_,h5⟩:=chkSO_ok hc
  have k2:=c_shortest c l set h1 h3 h5.inr (by have:=h5.len;omega) h2
  generalize shortS c l set=b at *
  have hk0:chkSO c l set=0:=by omega
  rw [hk0] at k1 ⊢
  refine pureCall_ofR dh47 rfl ?_
  conv=>whnf
  repeat' (first
   |(refine ⟨fun hg=>?_,fun hg=>?_⟩<;>first|contradiction|(exfalso;revert hg;simp;done)|(exfalso;exact absurd (of_decide_eq_true hg) (by assumption))|(exfalso;exact absurd (by assumption) (of_decide_eq_false hg))|(conv=>whnf))
   |(refine Or.inl ?_;conv=>whnf)
   |(refine ⟨_,k1,?_⟩;conv=>whnf)
   |(refine ⟨_,k2,?_⟩;conv=>whnf)
   |(refine And.intro ?_ ?_;kernel_rfl;conv=>whnf))
  rfl
end Sh

namespace Sh
open Go Go.Proofs
theorem short_bd {c:Crw} {l:List Std} {set:List Int} (hc:OkCr c) (hl:∀ s ∈ l,OkStd s) (hs:SetOk l.length set) (hll:l.length≤8):0≤(shortS c l set).2∧(shortS c l set).2≤36000:=by
 have h:=shortS_spec hc hl hs.inr
 have hp:∀ i ∈ (shortS c l set).1,0≤i∧i < l.length:=fun i hi=>hs.inr i (h.perm.subset hi)
 have hb:=wayS_bd hc hl hp
 rw [h.way] at hb
 have h8:(shortS c l set).1.length≤8:=by rw [h.perm.length_eq];have:=hs.len;omega
 omega
theorem price_bd {c:Crw} (hc:OkCr c) {w:Int} (h0:0≤w) (h1:w≤36000):0≤c.price * w∧c.price * w≤36000000:=by
 have hp0:=hc.p0
 have hp1:=hc.p1
 constructor
 ·exact Int.mul_nonneg hp0 h0
 ·calc c.price * w≤1000 * w:=Int.mul_le_mul_of_nonneg_right hp1 h0
   _≤36000000:=by omega
theorem sets_ok {n:Nat} {set:List Int} (h:set ∈ setsS n):SetOk n set:=setOk_of ((mem_sets n set).1 h)
end Sh

namespace Sh
open Go
def db57_0 : DC := (.seq (.ops false [⟨some 35,.bin .lss (.tmp 34) (.tmp 33),none,[]⟩]) (.seq (.cond (.tmp 35) .skip (.exit 2)) (.seq (.block 3 none (.seq (.ops false [⟨some 36,.mov (.tmp 34),none,[]⟩,⟨some 37,.iaddr 5 (.tmp 32) (.tmp 34),none,[]⟩,⟨some 38,.load (some 5) (.tmp 37),none,[]⟩,⟨some 13,.alloc (.agg [.str [],.int .i64 0,.int .i64 0,.int .i64 0,.int .i64 0]) 5,none,[]⟩,⟨some 12,.mov (.tmp 36),none,[]⟩,⟨none,.store 5 (.tmp 13) (.tmp 38),none,[]⟩]) (.seq (.ops false [⟨some 39,.mov (.tmp 9),none,[]⟩,⟨some 40,.mov (.tmp 12),none,[]⟩,⟨some 41,.bin .shr (.tmp 39) (.tmp 40),none,[]⟩,⟨some 42,.bin .and (.tmp 41) (.const (.int .i64 1)),none,[]⟩,⟨some 43,.bin .eql (.tmp 42) (.const (.int .i64 1)),none,[]⟩]) (.cond (.tmp 43) (.seq (.ops false [⟨some 44,.faddr 0 1 true (.tmp 10),none,[]⟩,⟨some 45,.faddr 0 1 false (.tmp 44),none,[]⟩,⟨some 46,.load none (.tmp 45),none,[]⟩,⟨some 47,.mov (.tmp 12),none,[]⟩,⟨some 48,.lit true 1 1 (.int .i64 0) [(0,(.tmp 47))],none,[]⟩,⟨some 49,.append false 1 (.tmp 46) (.tmp 48),none,[]⟩,⟨some 50,.faddr 0 1 true (.tmp 10),none,[]⟩,⟨some 51,.faddr 0 1 false (.tmp 50),none,[]⟩,⟨none,.store 1 (.tmp 51) (.tmp 49),none,[]⟩]) (.seq (.ops false [⟨some 52,.faddr 1 1 false (.tmp 10),none,[]⟩,⟨some 53,.load none (.tmp 52),none,[]⟩,⟨some 54,.faddr 3 1 false (.tmp 13),none,[]⟩,⟨some 55,.load none (.tmp 54),none,[]⟩,⟨some 56,.bin .add (.tmp 53) (.tmp 55),none,[]⟩,⟨some 57,.faddr 1 1 false (.tmp 10),none,[]⟩,⟨none,.store 1 (.tmp 57) (.tmp 56),none,[]⟩]) (.ops false [⟨some 58,.mov (.tmp 11),none,[]⟩,⟨some 59,.faddr 4 1 false (.tmp 13),none,[]⟩,⟨some 60,.load none (.tmp 59),none,[]⟩,⟨some 61,.bin .add (.tmp 58) (.tmp 60),none,[]⟩,⟨some 11,.mov (.tmp 61),none,[]⟩]))) .skip)))) (.ops false [⟨some 62,.bin .add (.tmp 34) (.const (.int .i64 1)),none,[]⟩,⟨some 34,.mov (.tmp 62),none,[]⟩]))))
def dk57_0 : Keep := ⟨[],[1,2,8,9,10,11,28,29,32,33,34],[2,8,10,16,21,49,86,87,500100]⟩
def db57_1 : DC := (.seq (.ops false [⟨some 30,.bin .lss (.tmp 29) (.tmp 28),none,[]⟩]) (.seq (.cond (.tmp 30) .skip (.exit 0)) (.seq (.block 1 (some ⟨[],[1,2,8,28,29],[2,8,16,21]⟩) (.seq (.ops false [⟨some 31,.mov (.tmp 29),none,[]⟩,⟨some 9,.mov (.tmp 31),none,[]⟩]) (.seq (.ops false [⟨some 10,.allocO (.agg [.full [],.int .i64 0]) 2 [(0,1)],none,[]⟩]) (.seq (.ops false [⟨some 11,.mov (.const (.int .i64 0)),none,[]⟩]) (.seq (.seq (.ops false [⟨some 32,.mov (.tmp 1),none,[]⟩,⟨some 33,.len (.tmp 32),none,[]⟩,⟨some 34,.mov (.const (.int .i64 0)),none,[]⟩]) (.block 2 (some ⟨[],[1,2,8,10,11,28,29],[2,8,10,16,21,49,86,87,500100]⟩) (.loop dk57_0 db57_0))) (.seq (.seq (.ops false [⟨some 63,.mov (.tmp 11),none,[]⟩,⟨some 64,.faddr 2 1 false (.tmp 2),none,[]⟩,⟨some 65,.load none (.tmp 64),none,[]⟩,⟨some 66,.bin .gtr (.tmp 63) (.tmp 65),none,[]⟩]) (.cond (.tmp 66) (.exit 1) .skip)) (.seq (.ops false [⟨some 68,.load (some 4) (.tmp 2),none,[]⟩,⟨some 69,.mov (.tmp 1),none,[]⟩,⟨some 70,.faddr 0 1 true (.tmp 10),none,[]⟩,⟨some 71,.faddr 0 1 false (.tmp 70),none,[]⟩,⟨some 72,.load none (.tmp 71),none,[]⟩,⟨some 73,.call (.func 119) [.tmp 68,.tmp 69,.tmp 72],none,[]⟩,⟨some 67,.mov (.tmp 73),none,[]⟩,⟨some 74,.extract (.tmp 67) 0,none,[]⟩,⟨some 75,.extract (.tmp 67) 1,none,[]⟩,⟨some 14,.mov (.tmp 74),none,[]⟩,⟨some 15,.mov (.tmp 75),none,[]⟩]) (.seq (.ops false [⟨some 76,.faddr 1 1 false (.tmp 10),none,[]⟩,⟨some 77,.load none (.tmp 76),none,[]⟩,⟨some 78,.faddr 3 1 false (.tmp 2),none,[]⟩,⟨some 79,.load none (.tmp 78),none,[]⟩,⟨some 80,.mov (.tmp 15),none,[]⟩,⟨some 81,.bin .mul (.tmp 79) (.tmp 80),none,[]⟩,⟨some 82,.bin .sub (.tmp 77) (.tmp 81),none,[]⟩,⟨some 83,.faddr 1 1 false (.tmp 10),none,[]⟩,⟨none,.store 1 (.tmp 83) (.tmp 82),none,[]⟩]) (.ops false [⟨some 84,.mov (.tmp 8),none,[]⟩,⟨some 85,.load (some 2) (.tmp 10),none,[]⟩,⟨some 86,.lit true 2 1 (.agg [.full [],.int .i64 0]) [(0,(.tmp 85))],none,[]⟩,⟨some 87,.append false 2 (.tmp 84) (.tmp 86),none,[]⟩,⟨some 8,.mov (.tmp 87),none,[]⟩]))))))))) (.ops false [⟨some 88,.bin .add (.tmp 29) (.const (.int .i64 1)),none,[]⟩,⟨some 29,.mov (.tmp 88),none,[]⟩]))))
def dk57_1 : Keep := ⟨[(8,2)],[1,2,8,28,29],[2,8,16,21]⟩
def dc57 : DFunc := ⟨96,2,[.tmp 4,.tmp 5,.tmp 6],.seq (.ops false [⟨some 2,.box 4 (.tmp 0),none,[]⟩,⟨some 4,.mov (.const (.slice none 0 0)),none,[]⟩,⟨some 5,.mov (.const (.int .i64 0)),none,[]⟩,⟨some 6,.mov (.const (.int .i64 0)),none,[]⟩]) (.seq (.seq (.ops false [⟨some 17,.load (some 4) (.tmp 2),none,[]⟩,⟨some 18,.call (.func 56) [.tmp 17],none,[]⟩,⟨some 19,.mov (.tmp 1),none,[]⟩,⟨some 20,.call (.func 55) [.tmp 19],none,[]⟩,⟨some 21,.lit true 1 2 (.int .i64 0) [(0,(.tmp 18)),(1,(.tmp 20))],none,[]⟩,⟨some 22,.call (.func 98) [.tmp 21],none,[]⟩,⟨some 7,.mov (.tmp 22),none,[]⟩]) (.seq (.ops false [⟨some 23,.mov (.tmp 7),none,[]⟩,⟨some 24,.bin .neq (.tmp 23) (.const (.int .i64 0)),none,[]⟩]) (.cond (.tmp 24) (.seq (.ops false [⟨some 25,.mov (.tmp 7),none,[]⟩,⟨some 4,.mov (.const (.slice none 0 0)),none,[]⟩,⟨some 5,.mov (.const (.int .i64 0)),none,[]⟩,⟨some 6,.mov (.tmp 25),none,[]⟩]) .ret) .skip))) (.seq (.ops false [⟨some 8,.mov (.const (.slice none 0 0)),none,[]⟩]) (.seq (.seq (.ops false [⟨some 26,.mov (.tmp 1),none,[]⟩,⟨some 27,.len (.tmp 26),none,[]⟩,⟨some 28,.bin .shl (.const (.int .i64 1)) (.tmp 27),none,[]⟩,⟨some 29,.mov (.const (.int .i64 0)),none,[]⟩]) (.block 0 (some ⟨[],[8],[2,8,16,21]⟩) (.loop dk57_1 db57_1))) (.seq (.ops false [⟨some 89,.mov (.tmp 8),none,[]⟩,⟨some 90,.call (.func 109) [.tmp 89],none,[]⟩,⟨some 16,.alloc (.agg [.full [],.int .i64 0]) 2,none,[]⟩,⟨none,.store 2 (.tmp 16) (.tmp 90),none,[]⟩]) (.seq (.ops true [⟨some 91,.faddr 0 1 true (.tmp 16),none,[]⟩,⟨some 92,.faddr 0 1 false (.tmp 91),none,[0]⟩,⟨some 93,.load none (.tmp 92),none,[1,0]⟩,⟨some 94,.faddr 1 1 false (.tmp 16),none,[]⟩,⟨some 95,.load none (.tmp 94),none,[3]⟩,⟨some 4,.mov (.tmp 93),none,[2,1,0]⟩,⟨some 5,.mov (.tmp 95),none,[4,3,5,2,1,0]⟩,⟨some 6,.mov (.const (.int .i64 0)),none,[6,4,3,5,2,1,0]⟩]) .ret)))))⟩
theorem dh57:cProg Go.Proofs.Tryz.prog ⟨[(0,⟨[(8,2)],[1,2,8,28,29],[2,8,16,21]⟩),(2,⟨[],[1,2,8,9,10,11,28,29,32,33,34],[2,8,10,16,21,49,86,87,500100]⟩)],[(2,⟨[],[1,2,8,10,11,28,29],[2,8,10,16,21,49,86,87,500100]⟩),(1,⟨[],[1,2,8,28,29],[2,8,16,21]⟩),(0,⟨[],[8],[2,8,16,21]⟩)],[10,21,48,86]⟩ 57=some dc57:=by kernel_rfl
def db73_0 : DC := (.seq (.ops false [⟨some 9,.bin .lss (.tmp 8) (.tmp 7),none,[]⟩]) (.seq (.cond (.tmp 9) .skip (.exit 0)) (.seq (.block 1 none (.seq (.ops false [⟨some 10,.iaddr 3 (.tmp 6) (.tmp 8),none,[]⟩,⟨some 11,.load (some 3) (.tmp 10),none,[]⟩,⟨some 5,.alloc (.agg [.str [],.int .i64 0,.int .i64 0]) 3,none,[]⟩,⟨none,.store 3 (.tmp 5) (.tmp 11),none,[]⟩]) (.ops false [⟨some 12,.mov (.tmp 3),none,[]⟩,⟨some 13,.load (some 3) (.tmp 5),none,[]⟩,⟨some 14,.lit true 3 1 (.agg [.str [],.int .i64 0,.int .i64 0]) [(0,(.tmp 13))],none,[]⟩,⟨some 15,.append false 3 (.tmp 12) (.tmp 14),none,[]⟩,⟨some 3,.mov (.tmp 15),none,[]⟩]))) (.ops false [⟨some 16,.bin .add (.tmp 8) (.const (.int .i64 1)),none,[]⟩,⟨some 8,.mov (.tmp 16),none,[]⟩]))))
def dk73_0 : Keep := ⟨[(3,3)],[3,6,7,8],[3]⟩
def dc73 : DFunc := ⟨18,1,[.tmp 2],.seq (.ops false [⟨some 2,.mov (.const (.slice none 0 0)),none,[]⟩]) (.seq (.ops false [⟨some 3,.mov (.const (.slice none 0 0)),none,[]⟩]) (.seq (.seq (.ops false [⟨some 6,.mov (.tmp 0),none,[]⟩,⟨some 7,.len (.tmp 6),none,[]⟩,⟨some 8,.mov (.const (.int .i64 0)),none,[]⟩]) (.block 0 (some ⟨[],[3],[3]⟩) (.loop dk73_0 db73_0))) (.seq (.ops false [⟨some 17,.mov (.tmp 3),none,[]⟩,⟨some 2,.mov (.tmp 17),none,[]⟩]) .ret)))⟩
theorem dh73:cProg Go.Proofs.Tryz.prog ⟨[(0,⟨[(3,3)],[3,6,7,8],[3]⟩)],[(0,⟨[],[3],[3]⟩)],[14]⟩ 73=some dc73:=by kernel_rfl
def db74_0 : DC := (.seq (.seq (.ops false [⟨some 11,.mov (.tmp 5),none,[]⟩,⟨some 12,.mov (.tmp 0),none,[]⟩,⟨some 13,.len (.tmp 12),none,[]⟩,⟨some 14,.bin .lss (.tmp 11) (.tmp 13),none,[]⟩]) (.cond (.tmp 14) .skip (.exit 0))) (.seq (.block 1 none (.seq (.ops true [⟨some 17,.mov (.tmp 0),none,[]⟩,⟨some 18,.mov (.tmp 5),none,[]⟩,⟨some 19,.iaddr 2 (.tmp 17) (.tmp 18),none,[0,1]⟩,⟨some 20,.load (some 2) (.tmp 19),none,[2,0,1]⟩,⟨some 21,.mov (.tmp 1),none,[]⟩,⟨some 22,.mov (.tmp 5),none,[]⟩,⟨some 23,.iaddr 2 (.tmp 21) (.tmp 22),none,[4,5]⟩,⟨some 24,.load (some 2) (.tmp 23),none,[6,4,5]⟩,⟨some 25,.eqA true [2,1] (.tmp 20) (.tmp 24),none,[3,2,0,1,7,6,4,5]⟩]) (.cond (.tmp 25) (.seq (.ops false [⟨some 4,.mov (.const (.bool false)),none,[]⟩]) .ret) .skip))) (.ops false [⟨some 15,.mov (.tmp 5),none,[]⟩,⟨some 16,.bin .add (.tmp 15) (.const (.int .i64 1)),none,[]⟩,⟨some 5,.mov (.tmp 16),none,[]⟩])))
def dk74_0 : Keep := ⟨[],[0,1,5],[]⟩
def dc74 : DFunc := ⟨26,2,[.tmp 4],.seq (.ops false [⟨some 4,.mov (.const (.bool false)),none,[]⟩]) (.seq (.seq (.ops false [⟨some 6,.mov (.tmp 0),none,[]⟩,⟨some 7,.len (.tmp 6),none,[]⟩,⟨some 8,.mov (.tmp 1),none,[]⟩,⟨some 9,.len (.tmp 8),none,[]⟩,⟨some 10,.bin .neq (.tmp 7) (.tmp 9),none,[]⟩]) (.cond (.tmp 10) (.seq (.ops false [⟨some 4,.mov (.const (.bool false)),none,[]⟩]) .ret) .skip)) (.seq (.seq (.ops false [⟨some 5,.mov (.const (.int .i64 0)),none,[]⟩]) (.block 0 (some ⟨[],[],[]⟩) (.loop dk74_0 db74_0))) (.seq (.ops false [⟨some 4,.mov (.const (.bool true)),none,[]⟩]) .ret)))⟩
theorem dh74:cProg Go.Proofs.Tryz.prog ⟨[(0,⟨[],[0,1,5],[]⟩)],[(0,⟨[],[],[]⟩)],[]⟩ 74=some dc74:=by kernel_rfl
def db75_0 : DC := (.seq (.ops false [⟨some 9,.bin .lss (.tmp 8) (.tmp 7),none,[]⟩]) (.seq (.cond (.tmp 9) .skip (.exit 0)) (.seq (.block 1 none (.seq (.ops false [⟨some 10,.iaddr 2 (.tmp 6) (.tmp 8),none,[]⟩,⟨some 11,.load (some 2) (.tmp 10),none,[]⟩,⟨some 5,.alloc (.agg [.str [],.int .i64 0]) 2,none,[]⟩,⟨none,.store 2 (.tmp 5) (.tmp 11),none,[]⟩]) (.ops false [⟨some 12,.mov (.tmp 3),none,[]⟩,⟨some 13,.load (some 2) (.tmp 5),none,[]⟩,⟨some 14,.lit true 2 1 (.agg [.str [],.int .i64 0]) [(0,(.tmp 13))],none,[]⟩,⟨some 15,.append false 2 (.tmp 12) (.tmp 14),none,[]⟩,⟨some 3,.mov (.tmp 15),none,[]⟩]))) (.ops false [⟨some 16,.bin .add (.tmp 8) (.const (.int .i64 1)),none,[]⟩,⟨some 8,.mov (.tmp 16),none,[]⟩]))))
def dk75_0 : Keep := ⟨[(3,2)],[3,6,7,8],[3]⟩
def dc75 : DFunc := ⟨18,1,[.tmp 2],.seq (.ops false [⟨some 2,.mov (.const (.slice none 0 0)),none,[]⟩]) (.seq (.ops false [⟨some 3,.mov (.const (.slice none 0 0)),none,[]⟩]) (.seq (.seq (.ops false [⟨some 6,.mov (.tmp 0),none,[]⟩,⟨some 7,.len (.tmp 6),none,[]⟩,⟨some 8,.mov (.const (.int .i64 0)),none,[]⟩]) (.block 0 (some ⟨[],[3],[3]⟩) (.loop dk75_0 db75_0))) (.seq (.ops false [⟨some 17,.mov (.tmp 3),none,[]⟩,⟨some 2,.mov (.tmp 17),none,[]⟩]) .ret)))⟩
theorem dh75:cProg Go.Proofs.Tryz.prog ⟨[(0,⟨[(3,2)],[3,6,7,8],[3]⟩)],[(0,⟨[],[3],[3]⟩)],[14]⟩ 75=some dc75:=by kernel_rfl
def dc76 : DFunc := ⟨13,1,[.tmp 2,.tmp 3],.seq (.ops false [⟨some 2,.mov (.const (.string ⟨#[]⟩)),none,[]⟩,⟨some 3,.mov (.const (.int .i64 0)),none,[]⟩]) (.seq (.seq (.ops false [⟨some 5,.mov (.tmp 0),none,[]⟩,⟨some 6,.call (.func 28) [.tmp 5],none,[]⟩,⟨some 4,.mov (.tmp 6),none,[]⟩]) (.seq (.ops false [⟨some 7,.mov (.tmp 4),none,[]⟩,⟨some 8,.bin .neq (.tmp 7) (.const (.int .i64 0)),none,[]⟩]) (.cond (.tmp 8) (.seq (.ops false [⟨some 9,.mov (.tmp 4),none,[]⟩,⟨some 2,.mov (.const (.string ⟨#[]⟩)),none,[]⟩,⟨some 3,.mov (.tmp 9),none,[]⟩]) .ret) .skip))) (.seq (.ops false [⟨some 10,.mov (.tmp 0),none,[]⟩,⟨some 11,.call (.func 136) [.tmp 10,.func 137],none,[]⟩,⟨some 12,.call (.func 135) [.tmp 11,.const (.string ⟨#[]⟩)],none,[]⟩,⟨some 2,.mov (.tmp 12),none,[]⟩,⟨some 3,.mov (.const (.int .i64 0)),none,[]⟩]) .ret))⟩
theorem dh76:cProg Go.Proofs.Tryz.prog ⟨[],[],[]⟩ 76=some dc76:=by kernel_rfl
def db77_0x : DC := (.ops false [⟨some 6,.mov (.tmp 20),none,[]⟩])
def db77_0 : DC := (.block 1 none (.seq (.ops false [⟨some 22,.mov (.tmp 6),none,[]⟩,⟨some 23,.call (.func 139) [.tmp 22,.const (.string ⟨#[10]⟩)],none,[]⟩,⟨some 21,.mov (.tmp 23),none,[]⟩,⟨some 24,.extract (.tmp 21) 0,none,[]⟩,⟨some 25,.extract (.tmp 21) 1,none,[]⟩,⟨some 7,.mov (.tmp 24),none,[]⟩,⟨some 8,.mov (.tmp 25),none,[]⟩]) (.seq (.ops false [⟨some 26,.mov (.tmp 7),none,[]⟩,⟨some 27,.call (.func 140) [.tmp 26,.const (.string ⟨#[32]⟩)],none,[]⟩,⟨some 28,.build [.full [],.bool false] [(0,(1,(.tmp 27)))],none,[]⟩,⟨some 29,.box 2 (.tmp 28),none,[]⟩,⟨some 9,.mov (.tmp 29),none,[]⟩]) (.seq (.ops false [⟨some 30,.mov (.tmp 9),none,[]⟩,⟨some 31,.mkmeth 141 [.tmp 30],none,[]⟩,⟨some 32,.mov (.tmp 9),none,[]⟩,⟨some 33,.mkmeth 142 [.tmp 32],none,[]⟩,⟨some 10,.mov (.tmp 31),none,[]⟩,⟨some 11,.mov (.tmp 33),none,[]⟩]) (.seq (.ops false [⟨some 34,.mov (.tmp 10),none,[]⟩,⟨some 35,.call (.tmp 34) [],none,[]⟩,⟨some 36,.bin .eql (.tmp 35) (.const (.string ⟨#[100,97,121]⟩)),none,[]⟩,⟨some 12,.mov (.tmp 36),none,[]⟩]) (.seq (.ops false [⟨some 37,.mov (.tmp 11),none,[]⟩,⟨some 38,.call (.tmp 37) [],none,[]⟩,⟨some 39,.build [.int .i64 0,.int .i64 0,.int .i64 0] [(0,(1,(.tmp 38)))],none,[]⟩,⟨some 13,.alloc (.agg [.int .i64 0,.int .i64 0,.int .i64 0]) 3,none,[]⟩,⟨none,.store 3 (.tmp 13) (.tmp 39),none,[]⟩]) (.seq (.ops false [⟨some 40,.mov (.tmp 11),none,[]⟩,⟨some 41,.call (.tmp 40) [],none,[]⟩,⟨some 42,.faddr 1 1 false (.tmp 13),none,[]⟩,⟨none,.store 1 (.tmp 42) (.tmp 41),none,[]⟩]) (.seq (.ops false [⟨some 43,.mov (.tmp 11),none,[]⟩,⟨some 44,.call (.tmp 43) [],none,[]⟩,⟨some 45,.faddr 2 1 false (.tmp 13),none,[]⟩,⟨none,.store 1 (.tmp 45) (.tmp 44),none,[]⟩]) (.seq (.seq (.ops false [⟨some 46,.mov (.tmp 8),none,[]⟩,⟨some 47,.un .not (.tmp 46),none,[]⟩,⟨some 48,.mov (.tmp 47),none,[]⟩,⟨some 49,.mov (.tmp 12),some (48,false),[]⟩,⟨some 50,.un .not (.tmp 49),some (48,false),[]⟩,⟨some 51,.pick (.tmp 48) (.const (.bool true)) (.tmp 50),none,[]⟩,⟨some 52,.mov (.tmp 51),none,[]⟩,⟨some 53,.mov (.tmp 9),some (52,false),[]⟩,⟨some 54,.nilCheck (.tmp 53),some (52,false),[]⟩,⟨some 55,.faddr 1 1 false (.tmp 54),some (52,false),[]⟩,⟨some 56,.load none (.tmp 55),some (52,false),[]⟩,⟨some 57,.pick (.tmp 52) (.const (.bool true)) (.tmp 56),none,[]⟩,⟨some 58,.mov (.tmp 57),none,[]⟩,⟨some 59,.mov (.tmp 9),some (58,false),[]⟩,⟨some 60,.nilCheck (.tmp 59),some (58,false),[]⟩,⟨some 61,.faddr 0 1 false (.tmp 60),some (58,false),[]⟩,⟨some 62,.load none (.tmp 61),some (58,false),[]⟩,⟨some 63,.len (.tmp 62),some (58,false),[]⟩,⟨some 64,.bin .gtr (.tmp 63) (.const (.int .i64 0)),some (58,false),[]⟩,⟨some 65,.pick (.tmp 58) (.const (.bool true)) (.tmp 64),none,[]⟩]) (.cond (.tmp 65) (.seq (.ops true [⟨some 66,.load none (.tmp 5),none,[]⟩,⟨some 67,.len (.tmp 66),none,[0]⟩,⟨none,.store 1 (.tmp 2) (.const (.slice none 0 0)),none,[]⟩,⟨none,.store 1 (.tmp 3) (.tmp 67),none,[1,0,2]⟩,⟨none,.store 1 (.tmp 4) (.const (.int .i64 25)),none,[3,1,0,2]⟩]) .ret) .skip)) (.ops false [⟨some 68,.load none (.tmp 5),none,[]⟩,⟨some 69,.load (some 3) (.tmp 13),none,[]⟩,⟨some 70,.lit true 3 1 (.agg [.int .i64 0,.int .i64 0,.int .i64 0]) [(0,(.tmp 69))],none,[]⟩,⟨some 71,.append false 3 (.tmp 68) (.tmp 70),none,[]⟩,⟨none,.store 1 (.tmp 5) (.tmp 71),none,[]⟩]))))))))))
def dk77_0 : Keep := ⟨[],[2,3,4,5],[2,3,4,5,71]⟩
def dc77 : DFunc := ⟨80,1,[.cell 2 none,.cell 3 none,.cell 4 none],.seq (.ops false [⟨some 2,.alloc (.full []) 1,none,[]⟩,⟨some 3,.alloc (.int .i64 0) 1,none,[]⟩,⟨some 4,.alloc (.int .i64 0) 1,none,[]⟩]) (.seq (.seq (.ops false [⟨some 15,.mov (.tmp 0),none,[]⟩,⟨some 16,.lenS (.tmp 15),none,[]⟩,⟨some 17,.bin .gtr (.tmp 16) (.const (.int .i64 4096)),none,[]⟩]) (.cond (.tmp 17) (.seq (.ops false [⟨none,.store 1 (.tmp 2) (.const (.slice none 0 0)),none,[]⟩,⟨none,.store 1 (.tmp 3) (.const (.int .i64 0)),none,[]⟩,⟨none,.store 1 (.tmp 4) (.const (.int .i64 26)),none,[]⟩]) .ret) .skip)) (.seq (.ops false [⟨some 5,.alloc (.full []) 1,none,[]⟩]) (.seq (.seq (.ops false [⟨some 18,.mov (.tmp 0),none,[]⟩,⟨some 19,.call (.func 138) [.tmp 18],none,[]⟩]) (.block 0 (some ⟨[],[2,3,4,5],[2,3,4,5,71]⟩) (.rangeF dk77_0 (.tmp 19) [20] db77_0x db77_0))) (.seq (.seq (.ops false [⟨some 72,.load none (.tmp 5),none,[]⟩,⟨some 73,.call (.func 28) [.tmp 72],none,[]⟩,⟨some 14,.mov (.tmp 73),none,[]⟩]) (.seq (.ops false [⟨some 74,.mov (.tmp 14),none,[]⟩,⟨some 75,.bin .neq (.tmp 74) (.const (.int .i64 0)),none,[]⟩]) (.cond (.tmp 75) (.seq (.ops true [⟨some 76,.load none (.tmp 5),none,[]⟩,⟨some 77,.len (.tmp 76),none,[0]⟩,⟨some 78,.mov (.tmp 14),none,[]⟩,⟨none,.store 1 (.tmp 2) (.const (.slice none 0 0)),none,[]⟩,⟨none,.store 1 (.tmp 3) (.tmp 77),none,[1,0,3]⟩,⟨none,.store 1 (.tmp 4) (.tmp 78),none,[2,4,1,0,3]⟩]) .ret) .skip))) (.seq (.ops false [⟨some 79,.load none (.tmp 5),none,[]⟩,⟨none,.store 1 (.tmp 2) (.tmp 79),none,[]⟩,⟨none,.store 1 (.tmp 3) (.const (.int .i64 0)),none,[]⟩,⟨none,.store 1 (.tmp 4) (.const (.int .i64 0)),none,[]⟩]) .ret)))))⟩
theorem dh77:cProg Go.Proofs.Tryz.prog ⟨[(0,⟨[],[2,3,4,5],[2,3,4,5,71]⟩)],[(0,⟨[],[2,3,4,5],[2,3,4,5,71]⟩)],[70]⟩ 77=some dc77:=by kernel_rfl
def dc86 : DFunc := ⟨6,0,[.cell 0 (some 6)],.seq (.ops false [⟨some 0,.alloc (.agg [.int .i64 0,.int .i64 0,.int .i64 0,.full [],.int .i64 0,.int .i64 0]) 6,none,[]⟩]) (.seq (.ops false [⟨some 1,.build [.int .i64 0,.int .i64 0,.int .i64 0] [(0,(1,(.const (.int .i64 50)))),(2,(1,(.const (.int .i64 1000))))],none,[]⟩,⟨some 2,.build [.int .i64 0,.int .i64 0,.int .i64 0] [(0,(1,(.const (.int .i64 50)))),(1,(1,(.const (.int .i64 20)))),(2,(1,(.const (.int .i64 1000))))],none,[]⟩,⟨some 3,.build [.int .i64 0,.int .i64 0,.int .i64 0] [(0,(1,(.const (.int .i64 100)))),(2,(1,(.const (.int .i64 2000))))],none,[]⟩,⟨some 4,.lit true 3 3 (.agg [.int .i64 0,.int .i64 0,.int .i64 0]) [(0,(.tmp 1)),(1,(.tmp 2)),(2,(.tmp 3))],none,[]⟩,⟨some 5,.build [.int .i64 0,.int .i64 0,.int .i64 0,.full [],.int .i64 0,.int .i64 0] [(0,(1,(.const (.int .i64 10)))),(1,(1,(.const (.int .i64 200)))),(2,(1,(.const (.int .i64 100)))),(3,(1,(.tmp 4))),(4,(1,(.const (.int .i64 1)))),(5,(1,(.const (.int .i64 100))))],none,[]⟩,⟨none,.store 6 (.tmp 0) (.tmp 5),none,[]⟩]) .ret)⟩
theorem dh86:cProg Go.Proofs.Tryz.prog ⟨[],[],[4]⟩ 86=some dc86:=by kernel_rfl
def dc87 : DFunc := ⟨2,0,[.cell 0 (some 4)],.seq (.ops false [⟨some 0,.alloc (.agg [.int .i64 0,.int .i64 0,.int .i64 0,.int .i64 0]) 4,none,[]⟩]) (.seq (.ops false [⟨some 1,.build [.int .i64 0,.int .i64 0,.int .i64 0,.int .i64 0] [(2,(1,(.const (.int .i64 10)))),(3,(1,(.const (.int .i64 2))))],none,[]⟩,⟨none,.store 4 (.tmp 0) (.tmp 1),none,[]⟩]) .ret)⟩
theorem dh87:cProg Go.Proofs.Tryz.prog ⟨[],[],[]⟩ 87=some dc87:=by kernel_rfl
def dc88 : DFunc := ⟨8,0,[.tmp 0],.seq (.ops false [⟨some 0,.mov (.const (.slice none 0 0)),none,[]⟩]) (.seq (.ops false [⟨some 1,.build [.int .i64 0,.int .i64 0] [(0,(1,(.const (.int .i64 3))))],none,[]⟩,⟨some 2,.build [.str [],.int .i64 0,.int .i64 0,.int .i64 0,.int .i64 0] [(0,(1,(.const (.string ⟨#[112]⟩)))),(1,(2,(.tmp 1))),(3,(1,(.const (.int .i64 40)))),(4,(1,(.const (.int .i64 4))))],none,[]⟩,⟨some 3,.build [.int .i64 0,.int .i64 0] [(0,(1,(.const (.int .i64 3)))),(1,(1,(.const (.int .i64 4))))],none,[]⟩,⟨some 4,.build [.str [],.int .i64 0,.int .i64 0,.int .i64 0,.int .i64 0] [(0,(1,(.const (.string ⟨#[113]⟩)))),(1,(2,(.tmp 3))),(3,(1,(.const (.int .i64 30)))),(4,(1,(.const (.int .i64 5))))],none,[]⟩,⟨some 5,.build [.int .i64 0,.int .i64 0] [(1,(1,(.const (.int .i64 6))))],none,[]⟩,⟨some 6,.build [.str [],.int .i64 0,.int .i64 0,.int .i64 0,.int .i64 0] [(0,(1,(.const (.string ⟨#[114]⟩)))),(1,(2,(.tmp 5))),(3,(1,(.const (.int .i64 9)))),(4,(1,(.const (.int .i64 3))))],none,[]⟩,⟨some 7,.lit true 5 3 (.agg [.str [],.int .i64 0,.int .i64 0,.int .i64 0,.int .i64 0]) [(0,(.tmp 2)),(1,(.tmp 4)),(2,(.tmp 6))],none,[]⟩,⟨some 0,.mov (.tmp 7),none,[]⟩]) .ret)⟩
theorem dh88:cProg Go.Proofs.Tryz.prog ⟨[],[],[7]⟩ 88=some dc88:=by kernel_rfl
def dc89 : DFunc := ⟨4,0,[.tmp 0],.seq (.ops false [⟨some 0,.mov (.const (.slice none 0 0)),none,[]⟩]) (.seq (.ops false [⟨some 1,.build [.str [],.int .i64 0,.int .i64 0] [(0,(1,(.const (.string ⟨#[102,117,115,101]⟩)))),(1,(1,(.const (.int .i64 3)))),(2,(1,(.const (.int .i64 2))))],none,[]⟩,⟨some 2,.build [.str [],.int .i64 0,.int .i64 0] [(0,(1,(.const (.string ⟨#[112,108,117,103]⟩)))),(1,(1,(.const (.int .i64 5)))),(2,(1,(.const (.int .i64 1))))],none,[]⟩,⟨some 3,.lit true 3 2 (.agg [.str [],.int .i64 0,.int .i64 0]) [(0,(.tmp 1)),(1,(.tmp 2))],none,[]⟩,⟨some 0,.mov (.tmp 3),none,[]⟩]) .ret)⟩
theorem dh89:cProg Go.Proofs.Tryz.prog ⟨[],[],[3]⟩ 89=some dc89:=by kernel_rfl
def db136_0 : DC := (.seq (.ops false [⟨some 11,.bin .lss (.tmp 10) (.tmp 9),none,[]⟩]) (.seq (.cond (.tmp 11) .skip (.exit 0)) (.seq (.block 1 none (.seq (.ops false [⟨some 12,.iaddr 3 (.tmp 8) (.tmp 10),none,[]⟩,⟨some 13,.load (some 3) (.tmp 12),none,[]⟩,⟨some 7,.alloc (.agg [.int .i64 0,.int .i64 0,.int .i64 0]) 3,none,[]⟩,⟨none,.store 3 (.tmp 7) (.tmp 13),none,[]⟩]) (.ops false [⟨some 14,.mov (.tmp 5),none,[]⟩,⟨some 15,.mov (.tmp 1),none,[]⟩,⟨some 16,.load (some 3) (.tmp 7),none,[]⟩,⟨some 17,.call (.tmp 15) [.tmp 16],none,[]⟩,⟨some 18,.lit true 1 1 (.str []) [(0,(.tmp 17))],none,[]⟩,⟨some 19,.append false 1 (.tmp 14) (.tmp 18),none,[]⟩,⟨some 5,.mov (.tmp 19),none,[]⟩]))) (.ops false [⟨some 20,.bin .add (.tmp 10) (.const (.int .i64 1)),none,[]⟩,⟨some 10,.mov (.tmp 20),none,[]⟩]))))
def dk136_0 : Keep := ⟨[(5,1)],[1,5,8,9,10],[5]⟩
def dc136 : DFunc := ⟨22,2,[.tmp 4],.seq (.ops false [⟨some 4,.mov (.const (.slice none 0 0)),none,[]⟩]) (.seq (.ops false [⟨some 5,.mov (.const (.slice none 0 0)),none,[]⟩]) (.seq (.seq (.ops false [⟨some 8,.mov (.tmp 0),none,[]⟩,⟨some 9,.len (.tmp 8),none,[]⟩,⟨some 10,.mov (.const (.int .i64 0)),none,[]⟩]) (.block 0 (some ⟨[],[5],[5]⟩) (.loop dk136_0 db136_0))) (.seq (.ops false [⟨some 21,.mov (.tmp 5),none,[]⟩,⟨some 4,.mov (.tmp 21),none,[]⟩]) .ret)))⟩
theorem dh136:cProg Go.Proofs.Tryz.prog ⟨[(0,⟨[(5,1)],[1,5,8,9,10],[5]⟩)],[(0,⟨[],[5],[5]⟩)],[18]⟩ 136=some dc136:=by kernel_rfl
def dc137 : DFunc := ⟨15,1,[.tmp 2],.seq (.ops false [⟨some 1,.box 3 (.tmp 0),none,[]⟩,⟨some 2,.mov (.const (.string ⟨#[]⟩)),none,[]⟩]) (.seq (.ops false [⟨some 3,.lit true 1 1 (.str []) [(0,(.const (.string ⟨#[100,97,121]⟩)))],none,[]⟩,⟨some 4,.faddr 0 1 false (.tmp 1),none,[]⟩,⟨some 5,.load none (.tmp 4),none,[]⟩,⟨some 6,.faddr 1 1 false (.tmp 1),none,[]⟩,⟨some 7,.load none (.tmp 6),none,[]⟩,⟨some 8,.faddr 2 1 false (.tmp 1),none,[]⟩,⟨some 9,.load none (.tmp 8),none,[]⟩,⟨some 10,.lit true 1 3 (.int .i64 0) [(0,(.tmp 5)),(1,(.tmp 7)),(2,(.tmp 9))],none,[]⟩,⟨some 11,.call (.func 157) [.tmp 10,.func 158],none,[]⟩,⟨some 12,.append true 1 (.tmp 3) (.tmp 11),none,[]⟩,⟨some 13,.call (.func 135) [.tmp 12,.const (.string ⟨#[32]⟩)],none,[]⟩,⟨some 14,.bin .add (.tmp 13) (.const (.string ⟨#[10]⟩)),none,[]⟩,⟨some 2,.mov (.tmp 14),none,[]⟩]) .ret)⟩
theorem dh137:cProg Go.Proofs.Tryz.prog ⟨[],[],[3,10,12]⟩ 137=some dc137:=by kernel_rfl
def dc138 : DFunc := ⟨4,1,[.tmp 2],.seq (.ops false [⟨some 1,.box 1 (.tmp 0),none,[]⟩,⟨some 2,.mov (.const .nilFunc),none,[]⟩]) (.seq (.ops false [⟨some 3,.mkfunc 159 [.tmp 1],none,[]⟩,⟨some 2,.mov (.tmp 3),none,[]⟩]) .ret)⟩
theorem dh138:cProg Go.Proofs.Tryz.prog ⟨[],[],[]⟩ 138=some dc138:=by kernel_rfl
def dc141 : DFunc := ⟨28,1,[.tmp 2],.seq (.ops false [⟨some 2,.mov (.const (.string ⟨#[]⟩)),none,[]⟩]) (.seq (.seq (.ops false [⟨some 4,.mov (.tmp 0),none,[]⟩,⟨some 5,.nilCheck (.tmp 4),none,[]⟩,⟨some 6,.faddr 0 1 false (.tmp 5),none,[]⟩,⟨some 7,.load none (.tmp 6),none,[]⟩,⟨some 8,.len (.tmp 7),none,[]⟩,⟨some 9,.bin .eql (.tmp 8) (.const (.int .i64 0)),none,[]⟩]) (.cond (.tmp 9) (.seq (.ops false [⟨some 10,.mov (.tmp 0),none,[]⟩,⟨some 11,.nilCheck (.tmp 10),none,[]⟩,⟨some 12,.faddr 1 1 false (.tmp 11),none,[]⟩,⟨none,.store 1 (.tmp 12) (.const (.bool true)),none,[]⟩]) (.seq (.ops false [⟨some 2,.mov (.const (.string ⟨#[]⟩)),none,[]⟩]) .ret)) .skip)) (.seq (.ops false [⟨some 13,.mov (.tmp 0),none,[]⟩,⟨some 14,.nilCheck (.tmp 13),none,[]⟩,⟨some 15,.faddr 0 1 false (.tmp 14),none,[]⟩,⟨some 16,.load none (.tmp 15),none,[]⟩,⟨some 17,.iaddr 1 (.tmp 16) (.const (.int .i64 0)),none,[]⟩,⟨some 18,.load none (.tmp 17),none,[]⟩,⟨some 3,.mov (.tmp 18),none,[]⟩]) (.seq (.ops false [⟨some 19,.mov (.tmp 0),none,[]⟩,⟨some 20,.mov (.tmp 0),none,[]⟩,⟨some 21,.nilCheck (.tmp 20),none,[]⟩,⟨some 22,.faddr 0 1 false (.tmp 21),none,[]⟩,⟨some 23,.load none (.tmp 22),none,[]⟩,⟨some 24,.slice 1 (.tmp 23) (some (.const (.int .i64 1))) none none,none,[]⟩,⟨some 25,.nilCheck (.tmp 19),none,[]⟩,⟨some 26,.faddr 0 1 false (.tmp 25),none,[]⟩,⟨none,.store 1 (.tmp 26) (.tmp 24),none,[]⟩]) (.seq (.ops false [⟨some 27,.mov (.tmp 3),none,[]⟩,⟨some 2,.mov (.tmp 27),none,[]⟩]) .ret))))⟩
theorem dh141:cProg Go.Proofs.Tryz.prog ⟨[],[],[]⟩ 141=some dc141:=by kernel_rfl
def db157_0 : DC := (.seq (.ops false [⟨some 11,.bin .lss (.tmp 10) (.tmp 9),none,[]⟩]) (.seq (.cond (.tmp 11) .skip (.exit 0)) (.seq (.block 1 none (.seq (.ops false [⟨some 12,.iaddr 1 (.tmp 8) (.tmp 10),none,[]⟩,⟨some 13,.load none (.tmp 12),none,[]⟩,⟨some 7,.mov (.tmp 13),none,[]⟩]) (.ops false [⟨some 14,.mov (.tmp 5),none,[]⟩,⟨some 15,.mov (.tmp 1),none,[]⟩,⟨some 16,.mov (.tmp 7),none,[]⟩,⟨some 17,.call (.tmp 15) [.tmp 16],none,[]⟩,⟨some 18,.lit true 1 1 (.str []) [(0,(.tmp 17))],none,[]⟩,⟨some 19,.append false 1 (.tmp 14) (.tmp 18),none,[]⟩,⟨some 5,.mov (.tmp 19),none,[]⟩]))) (.ops false [⟨some 20,.bin .add (.tmp 10) (.const (.int .i64 1)),none,[]⟩,⟨some 10,.mov (.tmp 20),none,[]⟩]))))
def dk157_0 : Keep := ⟨[(5,1)],[1,5,8,9,10],[5]⟩
def dc157 : DFunc := ⟨22,2,[.tmp 4],.seq (.ops false [⟨some 4,.mov (.const (.slice none 0 0)),none,[]⟩]) (.seq (.ops false [⟨some 5,.mov (.const (.slice none 0 0)),none,[]⟩]) (.seq (.seq (.ops false [⟨some 8,.mov (.tmp 0),none,[]⟩,⟨some 9,.len (.tmp 8),none,[]⟩,⟨some 10,.mov (.const (.int .i64 0)),none,[]⟩]) (.block 0 (some ⟨[],[5],[5]⟩) (.loop dk157_0 db157_0))) (.seq (.ops false [⟨some 21,.mov (.tmp 5),none,[]⟩,⟨some 4,.mov (.tmp 21),none,[]⟩]) .ret)))⟩
theorem dh157:cProg Go.Proofs.Tryz.prog ⟨[(0,⟨[(5,1)],[1,5,8,9,10],[5]⟩)],[(0,⟨[],[5],[5]⟩)],[18]⟩ 157=some dc157:=by kernel_rfl
def db159_0 : DC := (.seq (.seq (.ops false [⟨some 5,.load none (.tmp 1),none,[]⟩,⟨some 6,.lenS (.tmp 5),none,[]⟩,⟨some 7,.bin .gtr (.tmp 6) (.const (.int .i64 0)),none,[]⟩]) (.cond (.tmp 7) .skip (.exit 0))) (.block 1 none (.seq (.ops false [⟨some 3,.mov (.const (.string ⟨#[]⟩)),none,[]⟩]) (.seq (.seq (.ops false [⟨some 8,.load none (.tmp 1),none,[]⟩,⟨some 9,.call (.func 160) [.tmp 8,.const (.int .u8 10)],none,[]⟩,⟨some 4,.mov (.tmp 9),none,[]⟩]) (.seq (.ops false [⟨some 10,.mov (.tmp 4),none,[]⟩,⟨some 11,.bin .geq (.tmp 10) (.const (.int .i64 0)),none,[]⟩]) (.cond (.tmp 11) (.ops true [⟨some 12,.load none (.tmp 1),none,[]⟩,⟨some 13,.mov (.tmp 4),none,[]⟩,⟨some 14,.bin .add (.tmp 13) (.const (.int .i64 1)),none,[1]⟩,⟨some 15,.sliceS (.tmp 12) none (some (.tmp 14)),none,[0,2,1]⟩,⟨some 16,.load none (.tmp 1),none,[]⟩,⟨some 17,.mov (.tmp 4),none,[]⟩,⟨some 18,.bin .add (.tmp 17) (.const (.int .i64 1)),none,[5]⟩,⟨some 19,.sliceS (.tmp 16) (some (.tmp 18)) none,none,[4,6,5]⟩,⟨some 3,.mov (.tmp 15),none,[3,0,2,1]⟩,⟨none,.store 1 (.tmp 1) (.tmp 19),none,[7,4,6,5,8,3,0,2,1]⟩]) (.ops false [⟨some 20,.load none (.tmp 1),none,[]⟩,⟨some 3,.mov (.tmp 20),none,[]⟩,⟨none,.store 1 (.tmp 1) (.const (.string ⟨#[]⟩)),none,[]⟩])))) (.seq (.ops false [⟨some 21,.mov (.tmp 0),none,[]⟩,⟨some 22,.mov (.tmp 3),none,[]⟩,⟨some 23,.call (.tmp 21) [.tmp 22],none,[]⟩,⟨some 24,.un .not (.tmp 23),none,[]⟩]) (.cond (.tmp 24) .ret .skip))))))
def dk159_0 : Keep := ⟨[],[0,1],[0,19]⟩
def dc159 : DFunc := ⟨25,2,[],.block 0 (some ⟨[],[],[0,19]⟩) (.loop dk159_0 db159_0)⟩
theorem dh159:cProg Go.Proofs.Tryz.prog ⟨[(0,⟨[],[0,1],[0,19]⟩)],[(0,⟨[],[],[0,19]⟩)],[]⟩ 159=some dc159:=by kernel_rfl
end Sh

namespace Sh
open Go Go.Proofs
def plD (l:List Pl):List DV:=l.map encP
theorem plD_len (l:List Pl):(plD l).length=l.length:=List.length_map _
theorem shl_one (n:Nat) (h:n≤8):shlI .i64 1 (n:Int)=((2 ^ n:Nat):Int):=by
 rcases (by omega:n=0∨n=1∨n=2∨n=3∨n=4∨n=5∨n=6∨n=7∨n=8) with rfl|rfl|rfl|rfl|rfl|rfl|rfl|rfl|rfl<;>rfl
theorem shr_nat (b i:Nat) (h:i≤12):shrI .i64 (b:Int) (i:Int)=((b / 2 ^ i:Nat):Int):=by
 unfold shrI
 rw [Int.toNat_natCast,show min i IntKind.i64.bits=i from Nat.min_eq_left (by show i≤64;omega),Int.fdiv_eq_ediv_of_nonneg _ (Int.pow_nonneg (by decide)),Int.natCast_ediv,Int.natCast_pow]
 rfl
theorem and_one (x:Nat):andI .i64 (x:Int) 1=((x % 2:Nat):Int):=by
 unfold andI
 have h1:(BitVec.ofInt IntKind.i64.bits (x:Int) &&& BitVec.ofInt IntKind.i64.bits 1).toNat=x % 2:=by
  show (BitVec.ofInt 64 (x:Int) &&& BitVec.ofInt 64 1).toNat=x % 2
  rw [BitVec.ofInt_natCast,BitVec.toNat_and,show (BitVec.ofInt 64 1).toNat=1 from by decide,Nat.and_one_is_mod,BitVec.toNat_ofNat]
  omega
 rw [h1]
 exact wrap_in (by omega) (by omega)
theorem c_Chosen (c:Crw) (l:List Std) (hl:l.length < 1073741824) (hn:∀ s ∈ l,s.name.length < 1073741824):PC 57 [encC c,tsV l] (optLW (chkCT c l) (chosenS c l)):=by
 have k1:=c_CheckCrew c
 have k2:=c_CheckStands l hl hn
 have e1:((l.map encT).length:Int)=l.length:=by simp
 by_cases hc:chkCT c l≠0
 ·unfold optLW
  rw [if_pos hc,if_pos hc]
  have kF:=c_first [chkCr c,chkStd l] (by simp)
  rw [show firstE [chkCr c,chkStd l]=chkCT c l from rfl] at kF
  generalize chkCT c l=k at *
  refine pureCall_ofR dh57 rfl ?_
  conv=>whnf
  repeat' (first
   |(refine ⟨fun hg=>?_,fun hg=>?_⟩<;>first|contradiction|(exfalso;revert hg;simp;done)|(exfalso;exact absurd (of_decide_eq_true hg) (by assumption))|(exfalso;exact absurd (by assumption) (of_decide_eq_false hg))|(conv=>whnf))
   |(refine Or.inl ?_;conv=>whnf)
   |(refine ⟨_,k1,?_⟩;conv=>whnf)
   |(refine ⟨_,k2,?_⟩;conv=>whnf)
   |(refine ⟨_,kF,?_⟩;conv=>whnf)
   |(refine And.intro ?_ ?_;kernel_rfl;conv=>whnf))
  rfl
 ·unfold optLW
  rw [if_neg hc,if_neg hc]
  have hk0:chkCT c l=0:=by omega
  obtain ⟨hc1,hll,hls⟩:=chkCT_ok hk0
  have kF:=c_first [chkCr c,chkStd l] (by simp)
  rw [show firstE [chkCr c,chkStd l]=chkCT c l from rfl,hk0] at kF
  rw [hk0]
  refine pureCall_ofR dh57 rfl ?_
  conv=>whnf
  refine .inl ?_
  conv=>whnf
  refine ⟨_,k1 ..,?_⟩
  conv=>whnf
  refine .inl ?_
  conv=>whnf
  refine ⟨_,k2 ..,?_⟩
  conv=>whnf
  refine .inl ?_
  conv=>whnf
  refine ⟨_,kF ..,?_⟩
  conv=>whnf
  refine ⟨fun hg=>absurd hg (by decide),fun _=>?_⟩
  conv=>whnf
  rw [e1]
  refine ⟨by omega,?_⟩
  rw [shl_one _ hll]
  have hpow:2 ^ l.length≤256:=Nat.le_trans (Nat.pow_le_pow_right (by decide) hll) (by decide)
  have hpow0:0 < 2 ^ l.length:=Nat.pow_pos (by decide)
  have hset:∀ b,b < 2 ^ l.length→SetOk l.length (bitsF b l.length):=fun b hb=>by
   rw [← setsS_bits _ _ hb]
   exact sets_ok (getD_in [] (by rw [setsS_length];exact hb))
  have hrs:=rndK_succ c l
  have hre:=rndK_all c l
  have hrl:=rndK_len c l
  have hr0:rndK c l 0=[]:=rfl
  rw [← show bestP (rndK c l (2 ^ l.length))=chosenS c l from by rw [hre];rfl]
  have hne0:rndK c l (2 ^ l.length)≠[]:=by rw [hre];exact List.ne_nil_of_mem (rnds_nil hc1 l)
  have hidx:∀ p ∈ rndK c l (2 ^ l.length),p.idx.length < 1073741824:=fun p hp=>by
   rw [hre] at hp
   obtain ⟨set,h1,_,rfl⟩:=mem_rnds.1 hp
   have:=(setOk_of h1).len
   show set.length < _
   omega
  clear hre
  generalize 2 ^ l.length=N at *
  conv=>whnf
  refine dwp_loopU (P:=Tryz.prog) (G:=GC) (k:=dk57_1) (b:=db57_1) (α:=Nat) (fun b=>[(8,.own 8 0 (plD (rndK c l b)).length (plD (rndK c l b)).length),(29,DV.int .i64 (b))]) (fun b=>[(2,.box 4 (encC c)),(8,.row 2 (plD (rndK c l b)) false)]) (fun b=>b≤N) (fun b=>N - b) 0 (Nat.zero_le _) ?_
  conv=>whnf
  refine ⟨rfl,rfl,?_⟩
  conv=>whnf
  refine ⟨rfl,?_⟩
  intro b h1
  conv=>whnf
  refine ⟨fun hb=>?_,fun hb=>?_⟩
  ·have hbN:b < N:=by have:=of_decide_eq_true hb;omega
   clear hb
   have hrs:=hrs b hbN
   have hrlb:=hrl b
   generalize hR:rndK c l b=R at *
   generalize hR':rndK c l (b+1)=R' at *
   conv=>whnf
   rw [e1]
   refine dwp_loopU (P:=Tryz.prog) (G:=GC) (k:=dk57_0) (b:=db57_0) (α:=Nat) (fun i=>[(11,DV.int .i64 (sumV l (bitsF b i))),(34,DV.int .i64 (i))]) (fun i=>[(2,.box 4 (encC c)),(8,.row 2 (plD R) false),(10,.box 2 (.agg [.own 500100 0 (iD (bitsF b i)).length (iD (bitsF b i)).length,DV.int .i64 (sumW l (bitsF b i))])),(500100,.row 1 (iD (bitsF b i)) false)]) (fun i=>i≤l.length) (fun i=>l.length - i) 0 (Nat.zero_le _) ?_
   conv=>whnf
   refine ⟨rfl,rfl,?_⟩
   conv=>whnf
   refine ⟨rfl,?_⟩
   intro i h2
   conv=>whnf
   refine ⟨fun hb=>?_,fun hb=>?_⟩
   ·have hi:i < l.length:=by have:=of_decide_eq_true hb;omega
    clear hb
    have hok:=hls _ (getD_in T0 hi)
    have hv0:=hok.v0
    have hv1:=hok.v1
    have hw0:=hok.w0
    have hw1:=hok.w1
    have hbd:=sumW_bd hls (a:=bitsF b i) (fun x hx=>by have:=bitsF_in b i x hx;omega)
    have hbl:=bitsF_len b i
    have hsu:=bitsF_succ b i
    have hsw:=sumW_snoc l (bitsF b i) i
    have hsv:=sumV_snoc l (bitsF b i) i
    generalize hB':bitsF b (i+1)=B' at *
    generalize hB:bitsF b i=B at *
    conv=>whnf
    rw [getD_enc _ _ (i) T0 hi]
    refine ⟨idxA hi rfl,?_⟩
    conv=>whnf
    refine ⟨by omega,?_⟩
    rw [shr_nat b i (by omega)]
    conv=>whnf
    rw [and_one]
    conv=>whnf
    refine ⟨fun hg=>?_,fun hg=>?_⟩
    ·have hg:((b / 2 ^ i % 2:Nat):Int)=1:=of_decide_eq_true hg
     rw [if_pos (by omega)] at hsu
     conv=>whnf
     refine ⟨⟨rfl,rfl,rfl,by rw [iD_len];simp;omega,fun e he=>by simp at he;subst he;rfl⟩,?_⟩
     rw [show iD B++[DV.int .i64 (i)].reverse=iD B' by rw [hsu,iD_app];rfl]
     conv=>whnf
     rw [wrap_in (n:=sumW l B+(l.getD i T0).worth) (by omega) (by omega),wrap_in (n:=sumV l B+(l.getD i T0).water) (by omega) (by omega),wrap_succ i (by omega),← hsw,← hsv,← hsu]
     conv=>whnf
     refine ⟨i+1,rfl,?_,?_,hi,by omega⟩
     ·rw [hB'];rfl
     ·rw [hB'];rfl
    ·have hg:¬ ((b / 2 ^ i % 2:Nat):Int)=1:=of_decide_eq_false hg
     rw [if_neg (by omega)] at hsu
     conv=>whnf
     rw [wrap_succ i (by omega)]
     refine ⟨i+1,rfl,?_,?_,hi,by omega⟩
     ·rw [hB',hsu];rfl
     ·rw [hB',hsu];rfl
   ·have hi:i=l.length:=by have:=of_decide_eq_false hb;omega
    clear hb
    rw [hi]
    have hS:=hset b hbN
    have k4:=c_shortest c l (bitsF b l.length) hc1 hls hS.inr (by have:=hS.len;omega) hll
    have hsb:=short_bd hc1 hls hS hll
    have hpr:=price_bd hc1 hsb.1 hsb.2
    have hbd:=sumW_bd hls (a:=bitsF b l.length) hS.inr
    have hSl:=hS.len
    have henc:encP (rndS c l (bitsF b l.length))=.agg [.list (iD (bitsF b l.length)),DV.int .i64 (sumW l (bitsF b l.length) - c.price * (shortS c l (bitsF b l.length)).2)]:=rfl
    generalize bitsF b l.length=S at *
    generalize (shortS c l S).2=W at *
    conv=>whnf
    refine ⟨fun hg=>?_,fun hg=>?_⟩
    ·have hg:c.tank < sumV l S:=of_decide_eq_true hg
     rw [if_neg (by omega)] at hrs
     conv=>whnf
     rw [wrap_succ b (by omega)]
     refine ⟨b+1,rfl,?_,?_,hbN,by omega⟩
     ·rw [hR',hrs];rfl
     ·rw [hR',hrs];rfl
    ·have hg:¬ c.tank < sumV l S:=of_decide_eq_false hg
     rw [if_pos (by omega)] at hrs
     conv=>whnf
     refine .inl ?_
     conv=>whnf
     rw [window_full]
     refine ⟨rfl,_,k4,?_⟩
     conv=>whnf
     rw [wrap_in (n:=c.price * W) (by omega) (by omega),wrap_in (n:=sumW l S - c.price * W) (by omega) (by omega)]
     conv=>whnf
     rw [window_full]
     refine ⟨rfl,?_⟩
     conv=>whnf
     refine ⟨⟨rfl,rfl,rfl,by rw [plD_len];simp;omega,fun e he=>by simp at he;subst he;rfl⟩,?_⟩
     have hfin:plD R'=plD R++[.agg [.list (iD S),DV.int .i64 (sumW l S - c.price * W)]]:=by rw [hrs,← henc];unfold plD;rw [List.map_append];rfl
     conv=>whnf
     rw [wrap_succ b (by omega)]
     refine ⟨b+1,rfl,?_,?_,hbN,by omega⟩
     ·rw [hR',hfin];rfl
     ·rw [hR',hfin];rfl
  ·have hbN:b=N:=by have:=of_decide_eq_false hb;omega
   clear hb
   rw [hbN]
   have hne:rndK c l N≠[]:=hne0
   have kB:=c_best (rndK c l N) hne (by have:=hrl N;omega) hidx
   generalize rndK c l N=R at *
   conv=>whnf
   refine .inl ?_
   conv=>whnf
   rw [window_full]
   refine ⟨rfl,_,kB,?_⟩
   conv=>whnf
   refine ⟨by kernel_rfl,?_⟩
   conv=>whnf
   rfl
end Sh

namespace Sh
open Go
def dc58 : DFunc := ⟨29,3,[.tmp 6,.tmp 7],.seq (.ops false [⟨some 3,.box 4 (.tmp 0),none,[]⟩,⟨some 5,.boxI 1 (.tmp 2),none,[]⟩,⟨some 6,.mov (.const (.int .i64 0)),none,[]⟩,⟨some 7,.mov (.const (.int .i64 0)),none,[]⟩]) (.seq (.seq (.ops true [⟨some 9,.load (some 4) (.tmp 3),none,[]⟩,⟨some 10,.call (.func 56) [.tmp 9],none,[0]⟩,⟨some 11,.mov (.tmp 1),none,[]⟩,⟨some 12,.call (.func 55) [.tmp 11],none,[2,1,0]⟩,⟨some 13,.load none (.tmp 5),none,[]⟩,⟨some 14,.call (.func 126) [.tmp 13],none,[4,3,2,1,0]⟩,⟨some 15,.lit true 1 3 (.int .i64 0) [(0,(.tmp 10)),(1,(.tmp 12)),(2,(.tmp 14))],none,[1,0,3,2,5,4]⟩,⟨some 16,.call (.func 98) [.tmp 15],none,[6,1,0,3,2,5,4]⟩,⟨some 8,.mov (.tmp 16),none,[7,6,1,0,3,2,5,4]⟩]) (.seq (.ops false [⟨some 17,.mov (.tmp 8),none,[]⟩,⟨some 18,.bin .neq (.tmp 17) (.const (.int .i64 0)),none,[]⟩]) (.cond (.tmp 18) (.seq (.ops false [⟨some 19,.mov (.tmp 8),none,[]⟩,⟨some 6,.mov (.const (.int .i64 0)),none,[]⟩,⟨some 7,.mov (.tmp 19),none,[]⟩]) .ret) .skip))) (.seq (.ops true [⟨some 20,.load none (.tmp 5),none,[]⟩,⟨some 21,.faddr 2 1 false (.tmp 3),none,[]⟩,⟨some 22,.load none (.tmp 21),none,[1]⟩,⟨some 23,.bin .mul (.tmp 20) (.tmp 22),none,[0,2,1]⟩,⟨some 24,.mov (.tmp 1),none,[]⟩,⟨some 25,.mkfunc 128 [.tmp 5],none,[]⟩,⟨some 26,.call (.func 127) [.tmp 24,.tmp 25],none,[4,5]⟩,⟨some 27,.call (.func 93) [.tmp 26],none,[6,4,5]⟩,⟨some 28,.bin .add (.tmp 23) (.tmp 27),none,[3,0,2,1,7,6,4,5]⟩,⟨some 6,.mov (.tmp 28),none,[8,3,0,2,1,7,6,4,5]⟩,⟨some 7,.mov (.const (.int .i64 0)),none,[9,8,3,0,2,1,7,6,4,5]⟩]) .ret))⟩
theorem dh58:cProg Go.Proofs.Tryz.prog ⟨[],[],[5,15]⟩ 58=some dc58:=by kernel_rfl
def db142_0 : DC := (.seq (.ops false [⟨some 37,.nextS (.tmp 36),none,[]⟩,⟨some 38,.extract (.tmp 37) 0,none,[]⟩]) (.seq (.cond (.tmp 38) .skip (.exit 0)) (.block 1 none (.seq (.ops false [⟨some 39,.extract (.tmp 37) 2,none,[]⟩,⟨some 6,.mov (.tmp 39),none,[]⟩]) (.seq (.seq (.ops false [⟨some 40,.mov (.tmp 0),none,[]⟩,⟨some 41,.nilCheck (.tmp 40),none,[]⟩,⟨some 42,.faddr 1 1 false (.tmp 41),none,[]⟩,⟨some 43,.load none (.tmp 42),none,[]⟩,⟨some 44,.mov (.tmp 43),none,[]⟩,⟨some 45,.mov (.tmp 6),some (44,false),[]⟩,⟨some 46,.bin .lss (.tmp 45) (.const (.int .i32 48)),some (44,false),[]⟩,⟨some 47,.pick (.tmp 44) (.const (.bool true)) (.tmp 46),none,[]⟩,⟨some 48,.mov (.tmp 47),none,[]⟩,⟨some 49,.mov (.tmp 6),some (48,false),[]⟩,⟨some 50,.bin .gtr (.tmp 49) (.const (.int .i32 57)),some (48,false),[]⟩,⟨some 51,.pick (.tmp 48) (.const (.bool true)) (.tmp 50),none,[]⟩]) (.cond (.tmp 51) (.seq (.ops false [⟨some 52,.mov (.tmp 0),none,[]⟩,⟨some 53,.nilCheck (.tmp 52),none,[]⟩,⟨some 54,.faddr 1 1 false (.tmp 53),none,[]⟩,⟨none,.store 1 (.tmp 54) (.const (.bool true)),none,[]⟩]) (.seq (.ops false [⟨some 2,.mov (.const (.int .i64 0)),none,[]⟩]) .ret)) .skip)) (.ops false [⟨some 55,.mov (.tmp 4),none,[]⟩,⟨some 56,.bin .mul (.const (.int .i64 10)) (.tmp 55),none,[]⟩,⟨some 57,.mov (.tmp 6),none,[]⟩,⟨some 58,.bin .sub (.tmp 57) (.const (.int .i32 48)),none,[]⟩,⟨some 59,.conv .i64 (.tmp 58),none,[]⟩,⟨some 60,.bin .add (.tmp 56) (.tmp 59),none,[]⟩,⟨some 4,.mov (.tmp 60),none,[]⟩]))))))
def dk142_0 : Keep := ⟨[],[0,4,36],[1,36]⟩
def dc142 : DFunc := ⟨62,1,[.tmp 2],.seq (.ops false [⟨some 2,.mov (.const (.int .i64 0)),none,[]⟩]) (.seq (.ops false [⟨some 7,.mov (.tmp 0),none,[]⟩,⟨some 8,.call (.func 141) [.tmp 7],none,[]⟩,⟨some 3,.mov (.tmp 8),none,[]⟩]) (.seq (.ops false [⟨some 9,.mov (.tmp 0),none,[]⟩,⟨some 10,.mov (.tmp 0),none,[]⟩,⟨some 11,.nilCheck (.tmp 10),none,[]⟩,⟨some 12,.faddr 1 1 false (.tmp 11),none,[]⟩,⟨some 13,.load none (.tmp 12),none,[]⟩,⟨some 14,.mov (.tmp 13),none,[]⟩,⟨some 15,.mov (.tmp 3),some (14,false),[]⟩,⟨some 16,.bin .eql (.tmp 15) (.const (.string ⟨#[]⟩)),some (14,false),[]⟩,⟨some 17,.pick (.tmp 14) (.const (.bool true)) (.tmp 16),none,[]⟩,⟨some 18,.mov (.tmp 17),none,[]⟩,⟨some 19,.mov (.tmp 3),some (18,false),[]⟩,⟨some 20,.lenS (.tmp 19),some (18,false),[]⟩,⟨some 21,.bin .gtr (.tmp 20) (.const (.int .i64 9)),some (18,false),[]⟩,⟨some 22,.pick (.tmp 18) (.const (.bool true)) (.tmp 21),none,[]⟩,⟨some 23,.mov (.tmp 22),none,[]⟩,⟨some 24,.mov (.tmp 3),some (23,false),[]⟩,⟨some 25,.lenS (.tmp 24),some (23,false),[]⟩,⟨some 26,.bin .gtr (.tmp 25) (.const (.int .i64 1)),some (23,false),[]⟩,⟨some 27,.mov (.tmp 26),some (23,false),[]⟩,⟨some 28,.mov (.tmp 3),some (27,true),[]⟩,⟨some 29,.indexS (.tmp 28) (.const (.int .i64 0)),some (27,true),[]⟩,⟨some 30,.bin .eql (.tmp 29) (.const (.int .u8 48)),some (27,true),[]⟩,⟨some 31,.pick (.tmp 27) (.tmp 30) (.const (.bool false)),some (23,false),[]⟩,⟨some 32,.pick (.tmp 23) (.const (.bool true)) (.tmp 31),none,[]⟩,⟨some 33,.nilCheck (.tmp 9),none,[]⟩,⟨some 34,.faddr 1 1 false (.tmp 33),none,[]⟩,⟨none,.store 1 (.tmp 34) (.tmp 32),none,[]⟩]) (.seq (.ops false [⟨some 4,.mov (.const (.int .i64 0)),none,[]⟩]) (.seq (.seq (.ops false [⟨some 35,.mov (.tmp 3),none,[]⟩,⟨some 36,.rangeS (.tmp 35),none,[]⟩]) (.block 0 (some ⟨[],[4],[1,36]⟩) (.loop dk142_0 db142_0))) (.seq (.ops false [⟨some 61,.mov (.tmp 4),none,[]⟩,⟨some 2,.mov (.tmp 61),none,[]⟩]) .ret)))))⟩
theorem dh142:cProg Go.Proofs.Tryz.prog ⟨[(0,⟨[],[0,4,36],[1,36]⟩)],[(0,⟨[],[4],[1,36]⟩)],[]⟩ 142=some dc142:=by kernel_rfl
end Sh

namespace Sh
open Go Go.Proofs
def bndV (p:Int) (s:Std):Int:=max 0 (s.worth - p * s.water)
theorem pw_bd {p:Int} (h0:0≤p) (h1:p≤1000) {w:Int} (w0:0≤w) (w1:w≤10000):0≤p * w∧p * w≤10000000:=by
 constructor
 ·exact Int.mul_nonneg h0 w0
 ·calc p * w≤1000 * w:=Int.mul_le_mul_of_nonneg_right h1 w0
   _≤10000000:=by omega
theorem bndV_bd {p:Int} (h0:0≤p) (h1:p≤1000) {s:Std} (hs:OkStd s):0≤bndV p s∧bndV p s≤1000000:=by
 have:=pw_bd h0 h1 hs.v0 hs.v1
 have:=hs.w0
 have:=hs.w1
 unfold bndV;omega
theorem mm_max (x:Int):minmaxI true 0 x=max 0 x:=by unfold minmaxI;simp;omega
theorem c_Bound1 (p:Int) (s:Std) (h0:0≤p) (h1:p≤1000) (hs:OkStd s):PC 128 [encT s,.ip (DV.int .i64 (p))] (DV.int .i64 (bndV p s)):=by
 have h2:=pw_bd h0 h1 hs.v0 hs.v1
 have h3:=hs.w0
 have h4:=hs.w1
 unfold bndV
 refine pureCall_ofR dh128 rfl ?_
 conv=>whnf
 rw [wrap_in (n:=p * s.water) (by omega) (by omega),wrap_in (n:=s.worth - p * s.water) (by omega) (by omega)]
 exact int_eq (mm_max _)
def mapI {α:Type} (g:α→Int) (l:List α) (i:Nat):List Int:=(l.take i).map g
theorem mapI_len {α:Type} (g:α→Int) (l:List α) (i:Nat):(mapI g l i).length≤i:=by unfold mapI;rw [List.length_map,List.length_take];omega
theorem mapI_succ {α:Type} (g:α→Int) (l:List α) (i:Nat) (d:α) (h:i < l.length):mapI g l (i+1)=mapI g l i++[g (l.getD i d)]:=by
 unfold mapI;rw [take_snoc l i d h,List.map_append];rfl
theorem c_mappedT (p:Int) (l:List Std) (h0:0≤p) (h1:p≤1000) (hs:∀ s ∈ l,OkStd s) (hl:l.length < 1073741824):PC 127 [tsV l,.func 128 [.ip (DV.int .i64 (p))]] (iL (l.map (bndV p))):=by
 have e0:((l.map encT).length:Int)=l.length:=by simp
 refine pureCall_ofR dh127 rfl ?_
 conv=>whnf
 refine dwp_loopU (P:=Tryz.prog) (G:=GC) (k:=dk127_0) (b:=db127_0) (α:=Nat) (fun i=>[(5,.own 5 0 (iD (mapI (bndV p) l i)).length (iD (mapI (bndV p) l i)).length),(10,DV.int .i64 (i))]) (fun i=>[(5,.row 1 (iD (mapI (bndV p) l i)) false)]) (fun i=>i≤l.length) (fun i=>l.length - i) 0 (Nat.zero_le _) ?_
 conv=>whnf
 refine ⟨rfl,rfl,?_⟩
 conv=>whnf
 refine ⟨rfl,?_⟩
 intro i hi0
 conv=>whnf
 refine ⟨fun hb=>?_,fun hb=>?_⟩
 ·have hi:i < l.length:=by simpa using hb
  clear hb
  have k1:=c_Bound1 p (l.getD i T0) h0 h1 (hs _ (getD_in T0 hi))
  have hsu:=mapI_succ (bndV p) l i T0 hi
  have hln:=mapI_len (bndV p) l i
  generalize hR':mapI (bndV p) l (i+1)=R' at *
  generalize hR:mapI (bndV p) l i=R at *
  generalize bndV p (l.getD i T0)=v at *
  conv=>whnf
  rw [getD_enc _ _ (i) T0 hi]
  refine ⟨idxA hi rfl,?_⟩
  conv=>whnf
  refine .inl ?_
  conv=>whnf
  refine ⟨_,k1 ..,?_⟩
  conv=>whnf
  refine ⟨⟨rfl,rfl,rfl,by rw [iD_len];simp;omega,fun e he=>by simp at he;subst he;rfl⟩,?_⟩
  have hfin:iD R'=iD R++[DV.int .i64 (v)]:=by rw [hsu,iD_app]
  conv=>whnf
  rw [wrap_succ i (by omega)]
  refine ⟨i+1,rfl,?_,?_,hi,by omega⟩
  ·rw [hR',hfin];rfl
  ·rw [hR',hfin];rfl
 ·have hi:i=l.length:=by have:=of_decide_eq_false hb;rw [e0] at this;omega
  clear hb
  rw [hi,show mapI (bndV p) l l.length=l.map (bndV p) from by unfold mapI;rw [List.take_length]]
  conv=>whnf
  refine ⟨rfl,?_⟩
  rw [window_full];rfl
def chkBo (c:Crw) (l:List Std) (p:Int):Int:=firstE [chkCr c,chkStd l,withE p 0 1000]
theorem chkBo_ok {c:Crw} {l:List Std} {p:Int} (h:chkBo c l p=0):OkCr c∧l.length≤8∧(∀ s ∈ l,OkStd s)∧0≤p∧p≤1000:=by
 have h:=firstE_mem h
 have h2:=chkStd_zero (h _ (by simp:chkStd l ∈ _))
 have h3:=withE_zero (h _ (by simp:withE p 0 1000 ∈ _))
 exact ⟨chkCr_zero (h _ (by simp:chkCr c ∈ _)),h2.1,h2.2,h3.1,h3.2⟩
theorem sumB_bd {l:List Std} {p:Int} (h0:0≤p) (h1:p≤1000) (hs:∀ s ∈ l,OkStd s):0≤sumI (l.map (bndV p))∧sumI (l.map (bndV p))≤l.length * 1000000:=by
 have:=sumI_bd (l:=l.map (bndV p)) (A:=0) (B:=1000000) (fun x hx=>by
  obtain ⟨s,h,rfl⟩:=List.mem_map.1 hx
  exact bndV_bd h0 h1 (hs s h))
 rw [List.length_map] at this
 omega
theorem c_Bound (c:Crw) (l:List Std) (p:Int) (hl:l.length < 1073741824) (hn:∀ s ∈ l,s.name.length < 1073741824):PC 58 [encC c,tsV l,DV.int .i64 (p)] (optI (chkBo c l p) (boundS c l p)):=by
 have k1:=c_CheckCrew c
 have k2:=c_CheckStands l hl hn
 have k3:=c_checkPrice p
 have kF:=c_first [chkCr c,chkStd l,withE p 0 1000] (by simp)
 rw [show firstE [chkCr c,chkStd l,withE p 0 1000]=chkBo c l p from rfl] at kF
 by_cases hc:chkBo c l p≠0
 ·rw [optI_no hc]
  generalize chkBo c l p=k at *
  refine pureCall_ofR dh58 rfl ?_
  conv=>whnf
  repeat' (first
   |(refine ⟨fun hg=>?_,fun hg=>?_⟩<;>first|contradiction|(exfalso;revert hg;simp;done)|(exfalso;exact absurd (of_decide_eq_true hg) (by assumption))|(exfalso;exact absurd (by assumption) (of_decide_eq_false hg))|(conv=>whnf))
   |(refine Or.inl ?_;conv=>whnf)
   |(refine ⟨_,k1,?_⟩;conv=>whnf)
   |(refine ⟨_,k2,?_⟩;conv=>whnf)
   |(refine ⟨_,k3,?_⟩;conv=>whnf)
   |(refine ⟨_,kF,?_⟩;conv=>whnf)
   |(refine And.intro ?_ ?_;kernel_rfl;conv=>whnf))
  rfl
 ·rw [optI_yes hc]
  have hk0:chkBo c l p=0:=by omega
  obtain ⟨hc1,hll,hls,h0,h1⟩:=chkBo_ok hk0
  rw [hk0] at kF
  have k4:=c_mappedT p l h0 h1 hls (by omega)
  have hb:=sumB_bd h0 h1 hls
  have k5:=c_sum (l.map (bndV p)) 1000000 (by simp;omega) (fun x hx=>by
   obtain ⟨s,h,rfl⟩:=List.mem_map.1 hx
   exact bndV_bd h0 h1 (hls s h)) (by simp;omega)
  have hpt:=pw_bd h0 h1 hc1.t0 hc1.t1
  have he:boundS c l p=p * c.tank+sumI (l.map (bndV p)):=rfl
  rw [he]
  generalize sumI (l.map (bndV p))=S at *
  refine pureCall_ofR dh58 rfl ?_
  conv=>whnf
  repeat' (first
   |(refine ⟨fun hg=>?_,fun hg=>?_⟩<;>first|contradiction|(exfalso;revert hg;simp;done)|(exfalso;exact absurd (of_decide_eq_true hg) (by assumption))|(exfalso;exact absurd (by assumption) (of_decide_eq_false hg))|(conv=>whnf))
   |(refine Or.inl ?_;conv=>whnf)
   |(refine ⟨_,k1,?_⟩;conv=>whnf)
   |(refine ⟨_,k2,?_⟩;conv=>whnf)
   |(refine ⟨_,k3,?_⟩;conv=>whnf)
   |(refine ⟨_,kF,?_⟩;conv=>whnf)
   |(refine ⟨_,k4,?_⟩;conv=>whnf)
   |(refine ⟨_,k5,?_⟩;conv=>whnf)
   |(refine And.intro ?_ ?_;kernel_rfl;conv=>whnf))
  rw [wrap_in (n:=p * c.tank) (by omega) (by omega),wrap_in (n:=p * c.tank+S) (by omega) (by omega)]
  rfl
end Sh

namespace Sh
open Go
structure Prt where
 name:List UInt8
 count:Int
 least:Int
def Q0:Prt:=⟨[],0,0⟩
structure Tke where
 name:List UInt8
 count:Int
def K0:Tke:=⟨[],0⟩
def chkPrt (kn:List (List UInt8)) (s:Prt):Int:=firstE [whenE (!nameB s.name) 8,whenE (decide (s.name ∈ kn)) 9,withE s.count 0 10000,withE s.least 0 10000]
def chkPs:List (List UInt8)→List Prt→Int
 |_,[]=>0
 |kn,s :: r=>if chkPrt kn s≠0 then chkPrt kn s else chkPs (kn++[s.name]) r
def chkStk (l:List Prt):Int:=if 16 < l.length then 5 else chkPs [] l
structure OkPrt (s:Prt):Prop where
 nm:nameB s.name=true
 c0:0≤s.count
 c1:s.count≤10000
 l0:0≤s.least
 l1:s.least≤10000
theorem chkPs_zero:∀ {l:List Prt} {kn:List (List UInt8)},chkPs kn l=0→(∀ s ∈ l,OkPrt s∧s.name ∉ kn)∧(l.map (·.name)).Nodup
 |[],kn,_=>⟨fun s hs=>(by cases hs),by simp⟩
 |s :: r,kn,h=>by
  unfold chkPs at h
  split at h
  ·rename_i h1;exact absurd h h1
  ·rename_i h1
   have h1:=firstE_mem (Classical.not_not.1 h1)
   have a1:=whenE_zero (h1 _ (by simp:whenE (!nameB s.name) 8 ∈ _)) (by decide)
   have a2:=of_decide_eq_false (whenE_zero (h1 _ (by simp:whenE (decide (s.name ∈ kn)) 9 ∈ _)) (by decide))
   have a3:=withE_zero (h1 _ (by simp:withE s.count 0 10000 ∈ _))
   have a4:=withE_zero (h1 _ (by simp:withE s.least 0 10000 ∈ _))
   obtain ⟨h2,h3⟩:=chkPs_zero h
   refine ⟨fun t ht=>?_,?_⟩
   ·rcases List.mem_cons.1 ht with rfl|ht
    ·exact ⟨⟨by simpa using a1,a3.1,a3.2,a4.1,a4.2⟩,a2⟩
    ·have:=h2 t ht
     exact ⟨this.1,fun e=>this.2 (List.mem_append_left _ e)⟩
   ·rw [List.map_cons,List.nodup_cons]
    refine ⟨fun e=>?_,h3⟩
    obtain ⟨t,ht,e⟩:=List.mem_map.1 e
    exact (h2 t ht).2 (by rw [e];simp)
theorem chkStk_zero {l:List Prt} (h:chkStk l=0):l.length≤16∧∀ s ∈ l,OkPrt s:=by
 unfold chkStk at h
 split at h
 ·cases h
 ·exact ⟨by omega,fun s hs=>((chkPs_zero h).1 s hs).1⟩
def idxP (nm:List UInt8):List Prt→Nat
 |[]=>0
 |s :: r=>if s.name=nm then 0 else idxP nm r+1
theorem idxP_le (nm:List UInt8):∀ l:List Prt,idxP nm l≤l.length
 |[]=>Nat.le_refl _
 |s :: r=>by unfold idxP;have:=idxP_le nm r;split<;>simp<;>omega
theorem idxP_at {nm:List UInt8}:∀ {l:List Prt} {k:Nat},k < l.length→(∀ j,j < k→(l.getD j Q0).name≠nm)→(l.getD k Q0).name=nm→idxP nm l=k
 |[],k,h,_,_=>by simp at h
 |s :: r,0,_,_,h=>by unfold idxP;exact if_pos h
 |s :: r,k+1,h1,h2,h3=>by
  unfold idxP
  rw [if_neg (by have:=h2 0 (by omega);exact this),idxP_at (k:=k) (by simpa using h1) (fun j hj=>by have:=h2 (j+1) (by omega);simpa using this) (by simpa using h3)]
theorem idxP_none {nm:List UInt8}:∀ {l:List Prt},(∀ j,j < l.length→(l.getD j Q0).name≠nm)→idxP nm l=l.length
 |[],_=>rfl
 |s :: r,h=>by
  unfold idxP
  rw [if_neg (by have:=h 0 (by simp);exact this),idxP_none (fun j hj=>by have:=h (j+1) (by simpa using hj);simpa using this)];rfl
def lessP (p:Prt) (n:Int):Prt:=⟨p.name,p.count - n,p.least⟩
def takeE (out:List Prt) (t:Tke):Int:=firstE [whenE (decide (idxP t.name out=out.length)) 10,withE t.count 1 10000,whenE (decide ((out.getD (idxP t.name out) Q0).count < t.count)) 16]
def takenF:List Prt→List Tke→List Prt×Int
 |out,[]=>(out,0)
 |out,t :: r=>if takeE out t≠0 then ([],takeE out t) else takenF (out.set (idxP t.name out) (lessP (out.getD (idxP t.name out) Q0) t.count)) r
def reS (l:List Prt):List Tke:=(l.filter fun p=>decide (p.count < p.least)).map fun p=>⟨p.name,p.least - p.count⟩
theorem reS_succ (l:List Prt) (i:Nat) (h:i < l.length):reS (l.take (i+1))=if (l.getD i Q0).count < (l.getD i Q0).least then reS (l.take i)++[⟨(l.getD i Q0).name,(l.getD i Q0).least - (l.getD i Q0).count⟩] else reS (l.take i):=by
 unfold reS
 rw [take_snoc l i Q0 h,List.filter_append,List.map_append]
 generalize l.getD i Q0=q
 split
 ·rename_i h;simp [h]
 ·rename_i h;simp [h]
theorem reS_len (l:List Prt):(reS l).length≤l.length:=by unfold reS;rw [List.length_map];exact List.length_filter_le _ _
end Sh

namespace Sh
open Go Go.Proofs
def encQ (t:Prt):DV:=.agg [.str t.name,DV.int .i64 (t.count),DV.int .i64 (t.least)]
def qsV (l:List Prt):DV:=.list (l.map encQ)
theorem c_checkCount (n:Int):PC 134 [DV.int .i64 (n)] (DV.int .i64 (withE n 0 10000)):=by
 refine pureCall_ofR dh134 rfl ?_
 conv=>whnf
 repeat' (first
  |(refine ⟨fun hg=>?_,fun hg=>?_⟩<;>first|contradiction|(conv=>whnf))
  |(refine Or.inl ?_;conv=>whnf)
  |(refine ⟨_,c_within ..,?_⟩;conv=>whnf)
  |(refine And.intro ?_ ?_;kernel_rfl;conv=>whnf))
 rfl
def knQ (l:List Prt) (i:Nat):List (List UInt8):=(l.take i).map (·.name)
theorem knQ_succ (l:List Prt) (i:Nat) (h:i < l.length):knQ l (i+1)=knQ l i++[(l.getD i Q0).name]:=take_map_succ _ _ _ _ h
theorem chkPs_drop (l:List Prt) (i:Nat) (h:i < l.length):chkPs (knQ l i) (l.drop i)=if chkPrt (knQ l i) (l.getD i Q0)≠0 then chkPrt (knQ l i) (l.getD i Q0) else chkPs (knQ l (i+1)) (l.drop (i+1)):=by
 rw [drop_getD l i Q0 h,knQ_succ l i h];rfl
theorem c_CheckStock (l:List Prt) (hl:l.length < 1073741824) (hn:∀ s ∈ l,s.name.length < 1073741824):PC 71 [qsV l] (DV.int .i64 (chkStk l)):=by
 have e0:((l.map encQ).length:Int)=l.length:=by simp
 refine pureCall_ofR dh71 rfl ?_
 conv=>whnf
 refine ⟨fun hg=>?_,fun hg=>?_⟩
 ·have hg:=of_decide_eq_true hg
  rw [e0] at hg
  conv=>whnf
  exact int_eq (by unfold chkStk;rw [if_pos (by omega)])
 ·have hg:=of_decide_eq_false hg
  rw [e0] at hg
  have hk:chkStk l=chkPs (knQ l 0) (l.drop 0):=by unfold chkStk;rw [if_neg (by omega)];rfl
  rw [hk]
  clear hk
  conv=>whnf
  refine dwp_loopU (P:=Tryz.prog) (G:=GC) (k:=dk71_0) (b:=db71_0) (α:=Nat) (fun i=>[(13,DV.int .i64 (i))]) (fun i=>[(10,.dict (kmD (knQ l i)))]) (fun i=>i≤l.length∧chkPs (knQ l 0) (l.drop 0)=chkPs (knQ l i) (l.drop i)) (fun i=>l.length - i) 0 ⟨Nat.zero_le _,rfl⟩ ?_
  conv=>whnf
  refine ⟨rfl,rfl,?_⟩
  conv=>whnf
  refine ⟨rfl,?_⟩
  intro i ⟨h1,h2⟩
  conv=>whnf
  refine ⟨fun hb=>?_,fun hb=>?_⟩
  ·have hi:i < l.length:=by simpa using hb
   clear hb
   have hd:=chkPs_drop l i hi
   have hks:=knQ_succ l i hi
   have hnm:=hn _ (getD_in Q0 hi)
   conv=>whnf
   rw [getD_enc _ _ (i) Q0 hi]
   refine ⟨idxA hi rfl,?_⟩
   conv=>whnf
   generalize l.getD i Q0=t at *
   have kN:=c_IsName t.name hnm
   have hte:chkPrt (knQ l i) t=firstE [whenE (!nameB t.name) 8,whenE (decide (t.name ∈ knQ l i)) 9,withE t.count 0 10000,withE t.least 0 10000]:=rfl
   by_cases hm:t.name ∈ knQ l i
   ·repeat' (first
     |(refine ⟨fun hg=>?_,fun hg=>?_⟩<;>first|contradiction|(conv=>whnf))
     |(refine Or.inl ?_;conv=>whnf)
     |(refine ⟨_,kN ..,?_⟩;conv=>whnf)
     |(refine ⟨_,c_when ..,?_⟩;conv=>whnf)
     |(refine And.intro ?_ ?_;kernel_rfl;conv=>whnf))
    rw [ev_lookup_some (q:=10) (es:=kmD (knQ l i)) (i:=0+(knQ l i).idxOf t.name) (v:=.bool true) rfl rfl rfl (by show dfind (keyEq 2 []) (.str t.name) _ 0=_;rw [dfind_km,if_pos hm])]
    rw [decide_eq_true hm] at hte
    conv=>whnf
    repeat' (first
     |(refine ⟨fun hg=>?_,fun hg=>?_⟩<;>first|contradiction|(conv=>whnf))
     |(refine Or.inl ?_;conv=>whnf)
     |(refine ⟨_,c_checkCount ..,?_⟩;conv=>whnf)
     |(refine ⟨_,c_when ..,?_⟩;conv=>whnf)
     |(refine ⟨_,c_within ..,?_⟩;conv=>whnf)
     |(refine ⟨_,c_first [_,_,_,_] (by simp),?_⟩;conv=>whnf)
     |(refine And.intro ?_ ?_;kernel_rfl;conv=>whnf))
    ·have hg:=of_decide_eq_true hg
     rw [← hte] at hg
     rw [if_pos hg] at hd
     exact int_eq (by rw [h2,hd,hte])
    ·have hg:=of_decide_eq_false hg
     rw [← hte] at hg
     exfalso
     have h0:=firstE_mem (l:=[whenE (!nameB t.name) 8,whenE true 9,withE t.count 0 10000,withE t.least 0 10000]) (by rw [← hte];omega)
     have:=h0 (whenE true 9) (by simp)
     revert this
     decide
   ·repeat' (first
     |(refine ⟨fun hg=>?_,fun hg=>?_⟩<;>first|contradiction|(conv=>whnf))
     |(refine Or.inl ?_;conv=>whnf)
     |(refine ⟨_,kN ..,?_⟩;conv=>whnf)
     |(refine ⟨_,c_when ..,?_⟩;conv=>whnf)
     |(refine And.intro ?_ ?_;kernel_rfl;conv=>whnf))
    rw [ev_lookup_none (q:=10) (es:=kmD (knQ l i)) rfl rfl rfl (by show dfind (keyEq 2 []) (.str t.name) _ 0=_;rw [dfind_km,if_neg hm])]
    rw [decide_eq_false hm] at hte
    conv=>whnf
    repeat' (first
     |(refine ⟨fun hg=>?_,fun hg=>?_⟩<;>first|contradiction|(conv=>whnf))
     |(refine Or.inl ?_;conv=>whnf)
     |(refine ⟨_,c_checkCount ..,?_⟩;conv=>whnf)
     |(refine ⟨_,c_when ..,?_⟩;conv=>whnf)
     |(refine ⟨_,c_within ..,?_⟩;conv=>whnf)
     |(refine ⟨_,c_first [_,_,_,_] (by simp),?_⟩;conv=>whnf)
     |(refine And.intro ?_ ?_;kernel_rfl;conv=>whnf))
    ·have hg:=of_decide_eq_true hg
     rw [← hte] at hg
     rw [if_pos hg] at hd
     exact int_eq (by rw [h2,hd,hte])
    ·have hg:=of_decide_eq_false hg
     rw [← hte] at hg
     rw [if_neg hg] at hd
     rw [ev_mapset_none (q:=10) (es:=kmD (knQ l i)) (kv:=.str t.name) (vv:=.bool true) rfl rfl rfl rfl rfl (by rw [dfind_km,if_neg hm])]
     conv=>whnf
     rw [wrap_succ i (by omega)]
     refine ⟨i+1,rfl,rfl,?_,⟨hi,by rw [h2,hd]⟩,by omega⟩
     rw [hks,kmD_app];rfl
  ·have hi:i=l.length:=by have:=of_decide_eq_false hb;rw [e0] at this;omega
   clear hb
   conv=>whnf
   exact int_eq (by rw [h2,hi,List.drop_of_length_le (Nat.le_refl _)];rfl)
end Sh

namespace Sh
open Go Go.Proofs
end Sh

namespace Sh
open Go Go.Proofs
def encK (t:Tke):DV:=.agg [.str t.name,DV.int .i64 (t.count)]
def ksV (l:List Tke):DV:=.list (l.map encK)
def qD (l:List Prt):List DV:=l.map encQ
theorem qD_len (l:List Prt):(qD l).length=l.length:=List.length_map _
theorem qD_ok (l:List Prt):∀ e ∈ qD l,okE 3 e=true:=fun e he=>by obtain ⟨x,_,rfl⟩:=List.mem_map.1 he;rfl
theorem qD_get (l:List Prt) (i:Nat) (h:i < l.length):(qD l).getD i .undef=encQ (l.getD i Q0):=by unfold qD;simp [List.getD_eq_getElem?_getD,h]
theorem qD_set (l:List Prt) (i:Nat) (q:Prt):(qD l).set i (encQ q)=qD (l.set i q):=by unfold qD;rw [List.map_set]
def dcOwnQ:DFunc:=⟨8,1,[(.tmp 2)],(.seq (.ops false [⟨(some 2),(.mov (.const (.slice none 0 0))),none,[]⟩]) (.seq (.seq (.ops false [⟨(some 3),(.mov (.tmp 0)),none,[]⟩,⟨(some 4),(.eqNil false (.tmp 3)),none,[]⟩]) (.cond (.tmp 4) (.seq (.ops false [⟨(some 2),(.mov (.const (.slice none 0 0))),none,[]⟩]) .ret) .skip)) (.seq (.ops false [⟨(some 5),(.lit true 3 0 (.agg [(.str []),(.int .i64 0),(.int .i64 0)]) []),none,[]⟩,⟨(some 6),(.mov (.tmp 0)),none,[]⟩,⟨(some 7),(.append false 3 (.tmp 5) (.tmp 6)),none,[]⟩,⟨(some 2),(.mov (.tmp 7)),none,[]⟩]) .ret)))⟩
theorem dhOwnQ:cProg Go.Proofs.Tryz.prog ⟨[],[],[5]⟩ 131=some dcOwnQ:=by kernel_rfl
theorem h_CloneQ (l:List Prt) (hl:l.length < 1073741824) (h0:l≠[]):HCall Tryz.prog GC 131 [qsV l] [] (.own 7 0 (qD l).length (qD l).length) [(7,.row 3 (qD l) false)]:=by
 obtain ⟨a,r,rfl⟩:=List.exists_cons_of_ne_nil h0
 refine hCall_ofR dhOwnQ rfl (by kernel_rfl) (by kernel_rfl) ?_
 conv=>whnf
 refine ⟨fun hg=>absurd hg (by decide),fun _=>?_⟩
 conv=>whnf
 refine ⟨⟨by simp only [List.length_map,List.reverse_nil,List.length_nil];omega,fun e he=>qD_ok (a :: r) e he,fun e he=>absurd he List.not_mem_nil,.inl rfl⟩,?_⟩
 conv=>whnf
 exact ⟨rfl,rfl⟩
theorem c_CloneQ0:PC 131 [.list []] (.list []):=by
 refine pureCall_ofR dh131 rfl ?_
 conv=>whnf
 refine ⟨?_,?_⟩
 ·conv=>whnf
  rfl
 ·conv=>whnf
  refine ⟨⟨by simp,fun e he=>by simp at he,fun e he=>by simp at he⟩,?_⟩
  conv=>whnf
  rfl
theorem c_Taken1 (p:Prt) (t:Tke):PC 133 [encQ p,.ip (encK t)] (.bool (decide (p.name=t.name))):=by
 refine pureCall_ofR dh133 rfl ?_
 conv=>whnf
 rfl
def idxR (nm:List UInt8) (l:List Prt):Int:=if idxP nm l=l.length then -1 else idxP nm l
theorem c_IndexQ (l:List Prt) (t:Tke) (hl:l.length < 1073741824):PC 132 [qsV l,.func 133 [.ip (encK t)]] (DV.int .i64 (idxR t.name l)):=by
 have e0:((l.map encQ).length:Int)=l.length:=by simp
 refine pureCall_ofR dh132 rfl ?_
 conv=>whnf
 refine dwp_loopU (P:=Tryz.prog) (G:=GC) (k:=dk132_0) (b:=db132_0) (α:=Nat) (fun k=>[(8,DV.int .i64 (k))]) (fun _=>[]) (fun k=>k≤l.length∧∀ j,j < k→(l.getD j Q0).name≠t.name) (fun k=>l.length - k) 0 ⟨Nat.zero_le _,fun j h=>by omega⟩ ?_
 conv=>whnf
 refine ⟨rfl,rfl,?_⟩
 conv=>whnf
 refine ⟨rfl,?_⟩
 intro k ⟨h1,h2⟩
 conv=>whnf
 refine ⟨fun hb=>?_,fun hb=>?_⟩
 ·have hk:k < l.length:=by simpa using hb
  clear hb
  have k1:=c_Taken1 (l.getD k Q0) t
  conv=>whnf
  rw [getD_enc _ _ (k) Q0 hk]
  refine ⟨idxA hk rfl,?_⟩
  conv=>whnf
  refine .inl ?_
  conv=>whnf
  refine ⟨_,k1 ..,?_⟩
  conv=>whnf
  refine ⟨fun hg=>?_,fun hg=>?_⟩
  ·have hg:=of_decide_eq_true hg
   conv=>whnf
   have:=idxP_at hk h2 hg
   exact int_eq (by unfold idxR;rw [this,if_neg (by omega)])
  ·have hg:=of_decide_eq_false hg
   conv=>whnf
   rw [wrap_succ k (by omega)]
   refine ⟨k+1,rfl,rfl,rfl,⟨hk,fun j hj=>?_⟩,by omega⟩
   by_cases h:j=k
   ·subst h;exact hg
   ·exact h2 j (by omega)
 ·have hk:k=l.length:=by have:=of_decide_eq_false hb;rw [e0] at this;omega
  clear hb
  subst hk
  conv=>whnf
  exact int_eq (by unfold idxR;rw [idxP_none h2,if_pos rfl])
end Sh

namespace Sh
open Go Go.Proofs
def tkE (l:List Prt) (ts:List Tke):Int:=firstE [chkStk l,whenE (decide (16 < ts.length)) 5]
def tknP (l:List Prt) (ts:List Tke):List Prt×Int:=if tkE l ts≠0 then ([],tkE l ts) else takenF l ts
theorem tkE_ok {l:List Prt} {ts:List Tke} (h:tkE l ts=0):chkStk l=0∧ts.length≤16:=by
 have h:=firstE_mem h
 have h1:=h _ (by simp:chkStk l ∈ _)
 have h2:=of_decide_eq_false (whenE_zero (h _ (by simp:whenE (decide (16 < ts.length)) 5 ∈ _)) (by decide))
 exact ⟨h1,by omega⟩
def CntOk (out:List Prt):Prop:=∀ p ∈ out,0≤p.count∧p.count≤10000
theorem taken_step (out:List Prt) (ts:List Tke) (i:Nat) (h:i < ts.length):takenF out (ts.drop i)=if takeE out (ts.getD i K0)≠0 then ([],takeE out (ts.getD i K0)) else takenF (out.set (idxP (ts.getD i K0).name out) (lessP (out.getD (idxP (ts.getD i K0).name out) Q0) (ts.getD i K0).count)) (ts.drop (i+1)):=by
 rw [drop_getD ts i K0 h];rfl
theorem cnt_set_ok {out:List Prt} (h:CntOk out) {k:Nat} (hk:k < out.length) {n:Int} (h1:1≤n) (h2:n≤(out.getD k Q0).count):CntOk (out.set k (lessP (out.getD k Q0) n)):=fun p hp=>by
 rcases List.mem_or_eq_of_mem_set hp with hp|rfl
 ·exact h p hp
 ·have:=h _ (getD_in Q0 hk)
  show 0≤(out.getD k Q0).count - n∧(out.getD k Q0).count - n≤10000
  omega
theorem firstE_ten (r:List Int):firstE (10 :: r)=10:=by simp [firstE]
theorem c_Taken (l:List Prt) (ts:List Tke) (hl:l.length < 1073741824) (hn:∀ s ∈ l,s.name.length < 1073741824) (ht:ts.length < 1073741824):PC 64 [qsV l,ksV ts] (.tuple [qsV (tknP l ts).1,DV.int .i64 ((tknP l ts).2)]):=by
 have k1:=c_CheckStock l hl hn
 have hw:decide ((16:Int) < ((ts.map encK).length:Int))=decide (16 < ts.length):=by rw [List.length_map,decide_eq_decide];omega
 have kW:=c_when (decide ((16:Int) < ((ts.map encK).length:Int))) 5
 rw [hw] at kW
 have kF:=c_first [chkStk l,whenE (decide (16 < ts.length)) 5] (by simp)
 rw [show firstE [chkStk l,whenE (decide (16 < ts.length)) 5]=tkE l ts from rfl] at kF
 by_cases hc:tkE l ts≠0
 ·rw [show tknP l ts=([],tkE l ts) from if_pos hc]
  generalize tkE l ts=k at *
  refine pureCall_ofR dh64 rfl ?_
  conv=>whnf
  repeat' (first
   |(rw [hw];conv=>whnf)
   |(refine ⟨fun hg=>?_,fun hg=>?_⟩<;>first|contradiction|(exfalso;revert hg;simp;done)|(exfalso;exact absurd (of_decide_eq_true hg) (by assumption))|(exfalso;exact absurd (by assumption) (of_decide_eq_false hg))|(conv=>whnf))
   |(refine Or.inl ?_;conv=>whnf)
   |(refine ⟨_,k1,?_⟩;conv=>whnf)
   |(refine ⟨_,kW,?_⟩;conv=>whnf)
   |(refine ⟨_,kF,?_⟩;conv=>whnf)
   |(refine And.intro ?_ ?_;kernel_rfl;conv=>whnf))
  rfl
 ·rw [show tknP l ts=takenF l ts from if_neg hc]
  have hk0:tkE l ts=0:=by omega
  obtain ⟨hck,h16⟩:=tkE_ok hk0
  obtain ⟨hl16,hok⟩:=chkStk_zero hck
  rw [hk0] at kF
  have e1:((ts.map encK).length:Int)=ts.length:=by simp
  cases l with
  |nil =>
   refine pureCall_ofR dh64 rfl ?_
   conv=>whnf
   repeat' (first
    |(rw [hw];conv=>whnf)
    |(refine ⟨fun hg=>?_,fun hg=>?_⟩<;>first|contradiction|(exfalso;revert hg;simp;done)|(exfalso;exact absurd (of_decide_eq_true hg) (by assumption))|(exfalso;exact absurd (by assumption) (of_decide_eq_false hg))|(conv=>whnf))
    |(refine Or.inl ?_;conv=>whnf)
    |(refine ⟨_,k1,?_⟩;conv=>whnf)
    |(refine ⟨_,kW,?_⟩;conv=>whnf)
    |(refine ⟨_,kF,?_⟩;conv=>whnf)
    |(refine ⟨_,c_CloneQ0 ..,?_⟩;conv=>whnf)
    |(refine And.intro ?_ ?_;kernel_rfl;conv=>whnf))
   refine dwp_loopU (P:=Tryz.prog) (G:=GC) (k:=dk64_0) (b:=db64_0) (α:=Nat) (fun i=>[(27,DV.int .i64 (i))]) (fun _=>[]) (fun i=>i=0) (fun i=>1 - i) 0 rfl ?_
   conv=>whnf
   refine ⟨rfl,rfl,?_⟩
   conv=>whnf
   refine ⟨rfl,?_⟩
   intro i h0
   subst h0
   conv=>whnf
   refine ⟨fun hb=>?_,fun hb=>?_⟩
   ·have hi:0 < ts.length:=by have:=of_decide_eq_true hb;rw [e1] at this;omega
    clear hb
    have kI:=c_IndexQ [] (ts.getD 0 K0) (by simp)
    rw [show idxR (ts.getD 0 K0).name [] = -1 from rfl] at kI
    have hT:takenF [] ts=([],10):=by
     have:=taken_step [] ts 0 hi
     rw [List.drop_zero] at this
     rw [this]
     have he:takeE [] (ts.getD 0 K0)=10:=by unfold takeE;simp [idxP,whenE,firstE]
     rw [he];rfl
    rw [hT]
    conv=>whnf
    rw [getD_enc _ _ (0) K0 hi]
    refine ⟨idxA hi rfl,?_⟩
    conv=>whnf
    refine .inl ?_
    conv=>whnf
    refine ⟨_,kI ..,?_⟩
    conv=>whnf
    repeat' (first
     |(refine ⟨fun hg=>?_,fun hg=>?_⟩<;>first|contradiction|(conv=>whnf))
     |(refine Or.inl ?_;conv=>whnf)
     |(refine ⟨_,c_when ..,?_⟩;conv=>whnf)
     |(refine ⟨_,c_within ..,?_⟩;conv=>whnf)
     |(refine ⟨_,c_first [_,_] (by simp),?_⟩;conv=>whnf)
     |(refine And.intro ?_ ?_;kernel_rfl;conv=>whnf))
    rfl
   ·have hi:ts.length=0:=by have:=of_decide_eq_false hb;rw [e1] at this;omega
    clear hb
    have:ts=[]:=List.eq_nil_of_length_eq_zero hi
    subst this
    conv=>whnf
    rfl
  |cons a r =>
   generalize hL:a :: r=l at *
   refine pureCall_ofR dh64 rfl ?_
   conv=>whnf
   refine .inl ?_
   conv=>whnf
   refine ⟨_,k1 ..,?_⟩
   conv=>whnf
   rw [hw]
   refine .inl ?_
   conv=>whnf
   refine ⟨_,kW ..,?_⟩
   conv=>whnf
   refine .inl ?_
   conv=>whnf
   refine ⟨_,kF ..,?_⟩
   conv=>whnf
   refine ⟨fun hg=>absurd hg (by decide),fun _=>?_⟩
   conv=>whnf
   refine .inr ⟨[(7,18)],_,_,_,_,h_CloneQ l hl (by rw [← hL];simp),⟨rfl,by kernel_rfl,?_,?_⟩,?_⟩
   ·exact trivial
   ·exact ⟨.inr rfl,trivial⟩
   conv=>whnf
   refine dwp_loopU (P:=Tryz.prog) (G:=GC) (k:=dk64_0) (b:=db64_0) (α:=Nat×List Prt) (fun a=>[(27,DV.int .i64 (a.1))]) (fun a=>[(18,.row 3 (qD a.2) false)]) (fun a=>a.1≤ts.length∧a.2.length=l.length∧CntOk a.2∧takenF l ts=takenF a.2 (ts.drop a.1)) (fun a=>ts.length - a.1) (0,l) ⟨Nat.zero_le _,rfl,fun p hp=>⟨(hok p hp).c0,(hok p hp).c1⟩,rfl⟩ ?_
   conv=>whnf
   refine ⟨rfl,rfl,?_⟩
   conv=>whnf
   refine ⟨rfl,?_⟩
   intro ⟨i,out⟩ ⟨h1,h2,h3,h4⟩
   have h1:i≤ts.length:=h1
   have h2:out.length=l.length:=h2
   have h3:CntOk out:=h3
   have h4:takenF l ts=takenF out (ts.drop i):=h4
   have hlq:(qD l).length=(qD out).length:=by rw [qD_len,qD_len,h2]
   have hwin:window (qD out) 0 (qD l).length=qD out:=by rw [hlq];exact window_full _
   conv=>whnf
   refine ⟨fun hb=>?_,fun hb=>?_⟩
   ·have hi:i < ts.length:=by have:=of_decide_eq_true hb;rw [e1] at this;omega
    clear hb
    have kI:=c_IndexQ out (ts.getD i K0) (by omega)
    have hst:=taken_step out ts i hi
    have hix:=idxP_le (ts.getD i K0).name out
    generalize hX:idxP (ts.getD i K0).name out=X at *
    have hR:idxR (ts.getD i K0).name out=(if X=out.length then (-1:Int) else (X:Int)):=by unfold idxR;rw [hX]
    have hte:takeE out (ts.getD i K0)=firstE [whenE (decide (X=out.length)) 10,withE (ts.getD i K0).count 1 10000,whenE (decide ((out.getD X Q0).count < (ts.getD i K0).count)) 16]:=by unfold takeE;rw [hX]
    rw [hR] at kI
    by_cases hXl:X=out.length
    ·rw [if_pos hXl] at kI
     rw [decide_eq_true hXl] at hte
     have hte:takeE out (ts.getD i K0)=10:=by rw [hte];exact firstE_ten _
     rw [hte,if_pos (by decide)] at hst
     rw [h4,hst]
     conv=>whnf
     rw [getD_enc _ _ (i) K0 hi]
     refine ⟨idxA hi rfl,?_⟩
     conv=>whnf
     refine .inl ?_
     conv=>whnf
     rw [hwin]
     refine ⟨hlq,_,kI,?_⟩
     conv=>whnf
     repeat' (first
      |(refine ⟨fun hg=>?_,fun hg=>?_⟩<;>first|contradiction|(conv=>whnf))
      |(refine Or.inl ?_;conv=>whnf)
      |(refine ⟨_,c_when ..,?_⟩;conv=>whnf)
      |(refine ⟨_,c_within ..,?_⟩;conv=>whnf)
      |(refine ⟨_,c_first [_,_] (by simp),?_⟩;conv=>whnf)
      |(refine And.intro ?_ ?_;kernel_rfl;conv=>whnf))
     show _=DV.tuple [.list [],DV.int .i64 (10)]
     rw [← firstE_ten [withE (ts.getD i K0).count 1 10000]]
     rfl
    ·have hXlt:X < out.length:=by omega
     rw [if_neg hXl] at kI
     rw [decide_eq_false hXl] at hte
     have hte:takeE out (ts.getD i K0)=firstE [withE (ts.getD i K0).count 1 10000,whenE (decide ((out.getD X Q0).count < (ts.getD i K0).count)) 16]:=by rw [hte];exact firstE_z _
     have hXd:decide ((X:Int) < 0)=false:=decide_eq_false (by omega)
     have hgx:=qD_get out X hXlt
     have hXc:=h3 _ (getD_in Q0 hXlt)
     have kW1:=c_when (decide ((X:Int) < 0)) 10
     rw [hXd] at kW1
     have kW2:=c_within (ts.getD i K0).count 1 10000
     have kF2:=c_first [whenE false 10,withE (ts.getD i K0).count 1 10000] (by simp)
     rw [show firstE [whenE false 10,withE (ts.getD i K0).count 1 10000]=withE (ts.getD i K0).count 1 10000 from by rw [show whenE false 10=0 from rfl,firstE_z,firstE_one]] at kF2
     conv=>whnf
     rw [getD_enc _ _ (i) K0 hi]
     refine ⟨idxA hi rfl,?_⟩
     conv=>whnf
     refine .inl ?_
     conv=>whnf
     rw [hwin]
     refine ⟨hlq,_,kI,?_⟩
     conv=>whnf
     rw [hXd]
     repeat' (first
      |(refine ⟨fun hg=>?_,fun hg=>?_⟩<;>first|contradiction|(conv=>whnf))
      |(refine Or.inl ?_;conv=>whnf)
      |(refine ⟨_,kW1 ..,?_⟩;conv=>whnf)
      |(refine ⟨_,kW2 ..,?_⟩;conv=>whnf)
      |(refine ⟨_,kF2 ..,?_⟩;conv=>whnf)
      |(refine And.intro ?_ ?_;kernel_rfl;conv=>whnf))
     ·have hg:withE (ts.getD i K0).count 1 10000≠0:=of_decide_eq_true hg
      have hte:takeE out (ts.getD i K0)=withE (ts.getD i K0).count 1 10000:=by rw [hte];simp only [firstE];rw [if_pos hg]
      rw [hte,if_pos hg] at hst
      rw [h4,hst]
      rfl
     ·have hg:¬ withE (ts.getD i K0).count 1 10000≠0:=of_decide_eq_false hg
      have hwz:=withE_zero (Classical.not_not.1 hg)
      have hte:takeE out (ts.getD i K0)=whenE (decide ((out.getD X Q0).count < (ts.getD i K0).count)) 16:=by rw [hte];simp only [firstE];rw [if_neg hg];split<;>simp_all
      refine ⟨⟨hlq,by omega,by rw [qD_len];omega⟩,?_⟩
      rw [Int.toNat_natCast,Nat.zero_add]
      conv=>whnf
      refine ⟨hlq,?_⟩
      conv=>whnf
      rw [show (qD (i,out).snd).getD (0+X) .undef=encQ (out.getD X Q0) by rw [Nat.zero_add];exact hgx]
      refine ⟨⟨hlq,by decide⟩,?_⟩
      conv=>whnf
      refine ⟨by kernel_rfl,?_⟩
      conv=>whnf
      refine ⟨fun g2=>?_,fun g2=>?_⟩
      ·have g2:(out.getD X Q0).count < (ts.getD i K0).count:=of_decide_eq_true g2
       rw [hte,decide_eq_true g2,if_pos (by decide)] at hst
       rw [h4,hst]
       conv=>whnf
       rfl
      ·have g2:¬ (out.getD X Q0).count < (ts.getD i K0).count:=of_decide_eq_false g2
       rw [hte,decide_eq_false g2,if_neg (by decide)] at hst
       conv=>whnf
       refine ⟨⟨hlq,by omega,by rw [qD_len];omega⟩,?_⟩
       rw [Int.toNat_natCast,Nat.zero_add]
       conv=>whnf
       refine ⟨hlq,?_⟩
       conv=>whnf
       rw [show (qD (i,out).snd).getD (0+X) .undef=encQ (out.getD X Q0) by rw [Nat.zero_add];exact hgx]
       refine ⟨⟨hlq,by decide⟩,?_⟩
       conv=>whnf
       rw [wrap_in (n:=(out.getD X Q0).count - (ts.getD i K0).count) (by omega) (by omega)]
       refine ⟨⟨hlq,by omega,by rw [qD_len];omega⟩,?_⟩
       rw [Int.toNat_natCast,Nat.zero_add]
       conv=>whnf
       refine ⟨hlq,?_⟩
       conv=>whnf
       refine ⟨⟨hlq,by decide,rfl⟩,?_⟩
       conv=>whnf
       refine ⟨by kernel_rfl,?_⟩
       conv=>whnf
       have hset:(qD out).set X (.agg (setCells ((qD out).getD X .undef).cells 1 [DV.int .i64 ((out.getD X Q0).count - (ts.getD i K0).count)]))=qD (out.set X (lessP (out.getD X Q0) (ts.getD i K0).count)):=by
        rw [hgx,← qD_set];rfl
       rw [wrap_succ i (by omega)]
       refine ⟨(i+1,out.set X (lessP (out.getD X Q0) (ts.getD i K0).count)),rfl,rfl,?_,⟨hi,by rw [List.length_set];exact h2,cnt_set_ok h3 hXlt (by omega) (by omega),by rw [h4,hst]⟩,by show ts.length - (i+1) < ts.length - i;omega⟩
       show _=[(18,DObj.row 3 (qD (out.set X (lessP (out.getD X Q0) (ts.getD i K0).count))) false)]
       rw [← hset]
       show [(18,DObj.row 3 ((qD out).set (0+X) _) false)]=_
       rw [Nat.zero_add]
       rfl
   ·have hi:i=ts.length:=by have:=of_decide_eq_false hb;rw [e1] at this;omega
    clear hb
    have hT:takenF l ts=(out,0):=by rw [h4,hi,List.drop_of_length_le (Nat.le_refl _)];rfl
    rw [hT]
    conv=>whnf
    rw [hwin]
    refine ⟨hlq,?_⟩
    rfl
end Sh

namespace Sh
open Go Go.Proofs
end Sh

namespace Sh
open Go Go.Proofs
def kD (l:List Tke):List DV:=l.map encK
theorem kD_len (l:List Tke):(kD l).length=l.length:=List.length_map _
theorem kD_app (l:List Tke) (t:Tke):kD (l++[t])=kD l++[encK t]:=by unfold kD;rw [List.map_append];rfl
theorem c_Reordered (l:List Prt) (hl:l.length < 1073741824) (hn:∀ s ∈ l,s.name.length < 1073741824):PC 67 [qsV l] (.tuple [ksV (if chkStk l≠0 then [] else reS l),DV.int .i64 (chkStk l)]):=by
 have k1:=c_CheckStock l hl hn
 have e0:((l.map encQ).length:Int)=l.length:=by simp
 by_cases hc:chkStk l≠0
 ·rw [if_pos hc]
  generalize chkStk l=k at *
  refine pureCall_ofR dh67 rfl ?_
  conv=>whnf
  repeat' (first
   |(refine ⟨fun hg=>?_,fun hg=>?_⟩<;>first|contradiction|(exfalso;revert hg;simp;done)|(exfalso;exact absurd (of_decide_eq_true hg) (by assumption))|(exfalso;exact absurd (by assumption) (of_decide_eq_false hg))|(conv=>whnf))
   |(refine Or.inl ?_;conv=>whnf)
   |(refine ⟨_,k1,?_⟩;conv=>whnf)
   |(refine And.intro ?_ ?_;kernel_rfl;conv=>whnf))
  rfl
 ·rw [if_neg hc]
  have hk0:chkStk l=0:=by omega
  obtain ⟨hl16,hok⟩:=chkStk_zero hk0
  rw [hk0] at k1 ⊢
  refine pureCall_ofR dh67 rfl ?_
  conv=>whnf
  refine .inl ?_
  conv=>whnf
  refine ⟨_,k1 ..,?_⟩
  conv=>whnf
  refine ⟨fun hg=>absurd hg (by decide),fun _=>?_⟩
  conv=>whnf
  refine dwp_loopU (P:=Tryz.prog) (G:=GC) (k:=dk67_0) (b:=db67_0) (α:=Nat) (fun i=>[(5,.own 5 0 (kD (reS (l.take i))).length (kD (reS (l.take i))).length),(15,DV.int .i64 (i))]) (fun i=>[(5,.row 2 (kD (reS (l.take i))) false)]) (fun i=>i≤l.length) (fun i=>l.length - i) 0 (Nat.zero_le _) ?_
  conv=>whnf
  refine ⟨rfl,rfl,?_⟩
  conv=>whnf
  refine ⟨rfl,?_⟩
  intro i h1
  conv=>whnf
  refine ⟨fun hb=>?_,fun hb=>?_⟩
  ·have hi:i < l.length:=by simpa using hb
   clear hb
   have hs:=reS_succ l i hi
   have hln:=reS_len (l.take i)
   rw [List.length_take] at hln
   have hq:=hok _ (getD_in Q0 hi)
   have hc0:=hq.c0
   have hc1:=hq.c1
   have hl0:=hq.l0
   have hl1:=hq.l1
   generalize hR':reS (l.take (i+1))=R' at *
   generalize hR:reS (l.take i)=R at *
   conv=>whnf
   rw [getD_enc _ _ (i) Q0 hi]
   refine ⟨idxA hi rfl,?_⟩
   conv=>whnf
   refine ⟨fun hg=>?_,fun hg=>?_⟩
   ·have hg:(l.getD i Q0).count < (l.getD i Q0).least:=of_decide_eq_true hg
    rw [if_pos hg] at hs
    conv=>whnf
    rw [wrap_in (n:=(l.getD i Q0).least - (l.getD i Q0).count) (by omega) (by omega)]
    conv=>whnf
    refine ⟨⟨rfl,rfl,rfl,by rw [kD_len];simp;omega,fun e he=>by simp at he;subst he;rfl⟩,?_⟩
    have hfin:kD R'=kD R++[.agg [.str (l.getD i Q0).name,DV.int .i64 ((l.getD i Q0).least - (l.getD i Q0).count)]]:=by rw [hs,kD_app];rfl
    conv=>whnf
    rw [wrap_succ i (by omega)]
    refine ⟨i+1,rfl,?_,?_,hi,by omega⟩
    ·rw [hR',hfin];rfl
    ·rw [hR',hfin];rfl
   ·have hg:¬ (l.getD i Q0).count < (l.getD i Q0).least:=of_decide_eq_false hg
    rw [if_neg hg] at hs
    conv=>whnf
    rw [wrap_succ i (by omega)]
    refine ⟨i+1,rfl,?_,?_,hi,by omega⟩
    ·rw [hR',hs];rfl
    ·rw [hR',hs];rfl
  ·have hi:i=l.length:=by have:=of_decide_eq_false hb;rw [e0] at this;omega
   clear hb
   rw [hi,List.take_length]
   conv=>whnf
   refine ⟨rfl,?_⟩
   rw [window_full];rfl
end Sh

namespace Sh
open Go Go.Proofs
theorem r_SameParts (l:List (Prt)) (hl:l.length < 1073741824):PC 72 [.list (l.map encQ),.list (l.map encQ)] (.bool true):=by
 have e0:((l.map encQ).length:Int)=l.length:=by simp
 refine pureCall_ofR dh72 rfl ?_
 conv=>whnf
 refine ⟨fun hg=>absurd rfl (of_decide_eq_true hg),fun hg=>?_⟩
 clear hg
 conv=>whnf
 refine dwp_loopU (P:=Tryz.prog) (G:=GC) (k:=dk72_0) (b:=db72_0) (α:=Nat) (fun i=>[(5,DV.int .i64 (i))]) (fun _=>[]) (fun i=>i≤l.length) (fun i=>l.length - i) 0 (Nat.zero_le _) ?_
 conv=>whnf
 refine ⟨rfl,rfl,?_⟩
 conv=>whnf
 refine ⟨rfl,?_⟩
 intro i h1
 conv=>whnf
 refine ⟨fun hb=>?_,fun hb=>?_⟩
 ·have hi:i < l.length:=by simpa using hb
  clear hb
  conv=>whnf
  rw [getD_enc _ _ (i) Q0 hi]
  refine ⟨idxA hi rfl,?_⟩
  conv=>whnf
  repeat' (first
   |(refine ⟨fun hg=>?_,fun hg=>?_⟩<;>first|contradiction|(conv=>whnf))
   |(refine Or.inl ?_;conv=>whnf)
   |(rw [getD_enc _ _ i Q0 hi];refine ⟨idxA hi rfl,?_⟩;conv=>whnf)
   |(refine And.intro ?_ ?_;kernel_rfl;conv=>whnf))
  ·exfalso
   revert hg
   simp
  ·rw [wrap_succ i (by omega)]
   exact ⟨i+1,rfl,rfl,rfl,hi,by omega⟩
 ·clear hb
  conv=>whnf
  rfl
theorem r_SameTakes (l:List (Tke)) (hl:l.length < 1073741824):PC 74 [.list (l.map encK),.list (l.map encK)] (.bool true):=by
 have e0:((l.map encK).length:Int)=l.length:=by simp
 refine pureCall_ofR dh74 rfl ?_
 conv=>whnf
 refine ⟨fun hg=>absurd rfl (of_decide_eq_true hg),fun hg=>?_⟩
 clear hg
 conv=>whnf
 refine dwp_loopU (P:=Tryz.prog) (G:=GC) (k:=dk74_0) (b:=db74_0) (α:=Nat) (fun i=>[(5,DV.int .i64 (i))]) (fun _=>[]) (fun i=>i≤l.length) (fun i=>l.length - i) 0 (Nat.zero_le _) ?_
 conv=>whnf
 refine ⟨rfl,rfl,?_⟩
 conv=>whnf
 refine ⟨rfl,?_⟩
 intro i h1
 conv=>whnf
 refine ⟨fun hb=>?_,fun hb=>?_⟩
 ·have hi:i < l.length:=by simpa using hb
  clear hb
  conv=>whnf
  rw [getD_enc _ _ (i) K0 hi]
  refine ⟨idxA hi rfl,?_⟩
  conv=>whnf
  repeat' (first
   |(refine ⟨fun hg=>?_,fun hg=>?_⟩<;>first|contradiction|(conv=>whnf))
   |(refine Or.inl ?_;conv=>whnf)
   |(rw [getD_enc _ _ i K0 hi];refine ⟨idxA hi rfl,?_⟩;conv=>whnf)
   |(refine And.intro ?_ ?_;kernel_rfl;conv=>whnf))
  ·exfalso
   revert hg
   simp
  ·rw [wrap_succ i (by omega)]
   exact ⟨i+1,rfl,rfl,rfl,hi,by omega⟩
 ·clear hb
  conv=>whnf
  rfl
end Sh

namespace Go.Proofs
open Go.Shelf Go.RowKit
def Tryz.laysM171_ren:Go.Shelf.Ren:=⟨fun|171=>158|243=>166|246=>174|283=>180|284=>181|285=>182|286=>183|129=>189|317=>188|318=>190|319=>191|320=>192|337=>194|338=>195|n=>n,fun|3=>3|9=>9|2=>2|4=>4|171=>246|0=>0|53=>247|37=>221|5=>5|173=>250|212=>254|51=>255|20=>20|213=>256|46=>252|232=>266|233=>267|n=>n,fun|17=>2|18=>5|19=>6|n=>n⟩
theorem Tryz.laysM171:Go.Proofs.LaysM.n171 Tryz.prog Tryz.laysM171_ren:={
 mixed:=by kernel_rfl
 f129:=Tryz.func189.trans (congrArg some (by kernel_rfl))
 f171:=Tryz.func158.trans (congrArg some (by kernel_rfl))
 f243:=Tryz.func166.trans (congrArg some (by kernel_rfl))
 f246:=Tryz.func174.trans (congrArg some (by kernel_rfl))
 f283:=Tryz.func180.trans (congrArg some (by kernel_rfl))
 f284:=Tryz.func181.trans (congrArg some (by kernel_rfl))
 f285:=Tryz.func182.trans (congrArg some (by kernel_rfl))
 f286:=Tryz.func183.trans (congrArg some (by kernel_rfl))
 f317:=Tryz.func188.trans (congrArg some (by kernel_rfl))
 f318:=Tryz.func190.trans (congrArg some (by kernel_rfl))
 f319:=Tryz.func191.trans (congrArg some (by kernel_rfl))
 f320:=Tryz.func192.trans (congrArg some (by kernel_rfl))
 f337:=Tryz.func194.trans (congrArg some (by kernel_rfl))
 f338:=Tryz.func195.trans (congrArg some (by kernel_rfl))
 t0:=Tryz.underlying0
 a0:=Tryz.isAgg0
 z0:=Tryz.sizeOf0
 v0:=Tryz.zeroValue0
 t2:=Tryz.underlying2
 a2:=Tryz.isAgg2
 z2:=Tryz.sizeOf2
 v2:=Tryz.zeroValue2
 t3:=Tryz.underlying3
 a3:=Tryz.isAgg3
 z3:=Tryz.sizeOf3
 v3:=Tryz.zeroValue3
 t4:=Tryz.underlying4
 a4:=Tryz.isAgg4
 z4:=Tryz.sizeOf4
 v4:=Tryz.zeroValue4
 t5:=Tryz.underlying5
 a5:=Tryz.isAgg5
 z5:=Tryz.sizeOf5
 v5:=Tryz.zeroValue5
 t9:=Tryz.underlying9
 a9:=Tryz.isAgg9
 z9:=Tryz.sizeOf9
 v9:=Tryz.zeroValue9
 t20:=Tryz.underlying20
 a20:=Tryz.isAgg20
 z20:=Tryz.sizeOf20
 v20:=Tryz.zeroValue20
 t37:=Tryz.underlying221
 a37:=Tryz.isAgg221
 z37:=Tryz.sizeOf221
 v37:=Tryz.zeroValue221
 t46:=Tryz.underlying252
 a46:=Tryz.isAgg252
 z46:=Tryz.sizeOf252
 v46:=Tryz.zeroValue252
 t51:=Tryz.underlying255
 a51:=Tryz.isAgg255
 z51:=Tryz.sizeOf255
 v51:=Tryz.zeroValue255
 t53:=Tryz.underlying247
 a53:=Tryz.isAgg247
 z53:=Tryz.sizeOf247
 v53:=Tryz.zeroValue247
 t171:=Tryz.underlying246
 a171:=Tryz.isAgg246
 z171:=Tryz.sizeOf246
 v171:=Tryz.zeroValue246
 t173:=Tryz.underlying250
 a173:=Tryz.isAgg250
 z173:=Tryz.sizeOf250
 v173:=Tryz.zeroValue250
 t212:=Tryz.underlying254
 a212:=Tryz.isAgg254
 z212:=Tryz.sizeOf254
 v212:=Tryz.zeroValue254
 t213:=Tryz.underlying256
 a213:=Tryz.isAgg256
 z213:=Tryz.sizeOf256
 t232:=Tryz.underlying266
 a232:=Tryz.isAgg266
 z232:=Tryz.sizeOf266
 v232:=Tryz.zeroValue266
 t233:=Tryz.underlying267
 a233:=Tryz.isAgg267
 z233:=Tryz.sizeOf267
 v233:=Tryz.zeroValue267
 g17:=by kernel_rfl
 g18:=by kernel_rfl
 g19:=by kernel_rfl
 i0:=by kernel_rfl
 i2:=by kernel_rfl
 i3:=by kernel_rfl
 i4:=by kernel_rfl
 i5:=by kernel_rfl
 i9:=by kernel_rfl
 i20:=by kernel_rfl
 i37:=by kernel_rfl
 i46:=by kernel_rfl
 i51:=by kernel_rfl
 i53:=by kernel_rfl
 i171:=by kernel_rfl
 i173:=by kernel_rfl
 i212:=by kernel_rfl
 i232:=by kernel_rfl
 i233:=by kernel_rfl
 m17:=by kernel_rfl
 m18:=by kernel_rfl
 m19:=by kernel_rfl }
def Tryz.lays156_ren:Go.Shelf.Ren:=⟨fun|156=>135|165=>154|166=>155|169=>156|240=>164|241=>165|276=>172|277=>173|n=>n,fun|31=>141|9=>9|3=>3|4=>4|0=>0|20=>20|72=>223|76=>227|70=>220|37=>221|75=>226|127=>236|164=>240|5=>5|80=>199|n=>n,fun|n=>n⟩
theorem Tryz.lays156:Go.Proofs.Lays.n156 Tryz.prog Tryz.lays156_ren:={
 mixed:=by kernel_rfl
 f156:=Tryz.func135.trans (congrArg some (by kernel_rfl))
 f165:=Tryz.func154.trans (congrArg some (by kernel_rfl))
 f166:=Tryz.func155.trans (congrArg some (by kernel_rfl))
 f169:=Tryz.func156.trans (congrArg some (by kernel_rfl))
 f240:=Tryz.func164.trans (congrArg some (by kernel_rfl))
 f241:=Tryz.func165.trans (congrArg some (by kernel_rfl))
 f276:=Tryz.func172.trans (congrArg some (by kernel_rfl))
 f277:=Tryz.func173.trans (congrArg some (by kernel_rfl))
 t0:=Tryz.underlying0
 a0:=Tryz.isAgg0
 z0:=Tryz.sizeOf0
 v0:=Tryz.zeroValue0
 t3:=Tryz.underlying3
 a3:=Tryz.isAgg3
 z3:=Tryz.sizeOf3
 v3:=Tryz.zeroValue3
 t4:=Tryz.underlying4
 a4:=Tryz.isAgg4
 z4:=Tryz.sizeOf4
 v4:=Tryz.zeroValue4
 t9:=Tryz.underlying9
 a9:=Tryz.isAgg9
 z9:=Tryz.sizeOf9
 v9:=Tryz.zeroValue9
 t20:=Tryz.underlying20
 a20:=Tryz.isAgg20
 z20:=Tryz.sizeOf20
 v20:=Tryz.zeroValue20
 t31:=Tryz.underlying141
 a31:=Tryz.isAgg141
 z31:=Tryz.sizeOf141
 v31:=Tryz.zeroValue141
 t37:=Tryz.underlying221
 a37:=Tryz.isAgg221
 z37:=Tryz.sizeOf221
 v37:=Tryz.zeroValue221
 t70:=Tryz.underlying220
 a70:=Tryz.isAgg220
 z70:=Tryz.sizeOf220
 v70:=Tryz.zeroValue220
 t72:=Tryz.underlying223
 a72:=Tryz.isAgg223
 z72:=Tryz.sizeOf223
 v72:=Tryz.zeroValue223
 t75:=Tryz.underlying226
 a75:=Tryz.isAgg226
 z75:=Tryz.sizeOf226
 v75:=Tryz.zeroValue226
 t76:=Tryz.underlying227
 a76:=Tryz.isAgg227
 z76:=Tryz.sizeOf227
 v76:=Tryz.zeroValue227
 t127:=Tryz.underlying236
 a127:=Tryz.isAgg236
 z127:=Tryz.sizeOf236
 v127:=Tryz.zeroValue236
 t164:=Tryz.underlying240
 a164:=Tryz.isAgg240
 z164:=Tryz.sizeOf240
 v164:=Tryz.zeroValue240 }
def Tryz.lays104_ren:Go.Shelf.Ren:=⟨fun|104=>139|211=>161|207=>168|n=>n,fun|9=>9|4=>4|24=>203|3=>3|n=>n,fun|n=>n⟩
theorem Tryz.lays104:Go.Proofs.Lays.n104 Tryz.prog Tryz.lays104_ren:={
 mixed:=by kernel_rfl
 f104:=Tryz.func139.trans (congrArg some (by kernel_rfl))
 f207:=Tryz.func168.trans (congrArg some (by kernel_rfl))
 f211:=Tryz.func161.trans (congrArg some (by kernel_rfl))
 t3:=Tryz.underlying3
 a3:=Tryz.isAgg3
 z3:=Tryz.sizeOf3
 v3:=Tryz.zeroValue3
 t4:=Tryz.underlying4
 a4:=Tryz.isAgg4
 z4:=Tryz.sizeOf4
 v4:=Tryz.zeroValue4
 t9:=Tryz.underlying9
 a9:=Tryz.isAgg9
 z9:=Tryz.sizeOf9
 v9:=Tryz.zeroValue9
 t24:=Tryz.underlying203
 a24:=Tryz.isAgg203
 z24:=Tryz.sizeOf203
 v24:=Tryz.zeroValue203 }
def Tryz.lays137_ren:Go.Shelf.Ren:=⟨fun|137=>160|217=>167|266=>175|n=>n,fun|9=>9|5=>5|3=>3|n=>n,fun|n=>n⟩
theorem Tryz.lays137:Go.Proofs.Lays.n137 Tryz.prog Tryz.lays137_ren:={
 mixed:=by kernel_rfl
 f137:=Tryz.func160.trans (congrArg some (by kernel_rfl))
 f217:=Tryz.func167.trans (congrArg some (by kernel_rfl))
 f266:=Tryz.func175.trans (congrArg some (by kernel_rfl))
 t3:=Tryz.underlying3
 a3:=Tryz.isAgg3
 z3:=Tryz.sizeOf3
 v3:=Tryz.zeroValue3
 t5:=Tryz.underlying5
 a5:=Tryz.isAgg5
 z5:=Tryz.sizeOf5
 v5:=Tryz.zeroValue5
 t9:=Tryz.underlying9
 a9:=Tryz.isAgg9
 z9:=Tryz.sizeOf9
 v9:=Tryz.zeroValue9 }
def Tryz.lays146_ren:Go.Shelf.Ren:=⟨fun|146=>140|221=>162|268=>169|138=>170|143=>171|195=>176|197=>177|218=>178|219=>179|260=>184|217=>167|225=>185|224=>186|267=>187|266=>175|314=>193|n=>n,fun|9=>9|31=>141|3=>3|4=>4|0=>0|105=>244|21=>21|5=>5|46=>252|119=>259|139=>262|138=>261|146=>263|51=>255|n=>n,fun|1=>1|3=>3|4=>4|n=>n⟩
theorem Tryz.lays146:Go.Proofs.Lays.n146 Tryz.prog Tryz.lays146_ren:={
 mixed:=by kernel_rfl
 f138:=Tryz.func170.trans (congrArg some (by kernel_rfl))
 f143:=Tryz.func171.trans (congrArg some (by kernel_rfl))
 f146:=Tryz.func140.trans (congrArg some (by kernel_rfl))
 f195:=Tryz.func176.trans (congrArg some (by kernel_rfl))
 f197:=Tryz.func177.trans (congrArg some (by kernel_rfl))
 f217:=Tryz.func167.trans (congrArg some (by kernel_rfl))
 f218:=Tryz.func178.trans (congrArg some (by kernel_rfl))
 f219:=Tryz.func179.trans (congrArg some (by kernel_rfl))
 f221:=Tryz.func162.trans (congrArg some (by kernel_rfl))
 f224:=Tryz.func186.trans (congrArg some (by kernel_rfl))
 f225:=Tryz.func185.trans (congrArg some (by kernel_rfl))
 f260:=Tryz.func184.trans (congrArg some (by kernel_rfl))
 f266:=Tryz.func175.trans (congrArg some (by kernel_rfl))
 f267:=Tryz.func187.trans (congrArg some (by kernel_rfl))
 f268:=Tryz.func169.trans (congrArg some (by kernel_rfl))
 f314:=Tryz.func193.trans (congrArg some (by kernel_rfl))
 t0:=Tryz.underlying0
 a0:=Tryz.isAgg0
 z0:=Tryz.sizeOf0
 v0:=Tryz.zeroValue0
 t3:=Tryz.underlying3
 a3:=Tryz.isAgg3
 z3:=Tryz.sizeOf3
 v3:=Tryz.zeroValue3
 t4:=Tryz.underlying4
 a4:=Tryz.isAgg4
 z4:=Tryz.sizeOf4
 v4:=Tryz.zeroValue4
 t5:=Tryz.underlying5
 a5:=Tryz.isAgg5
 z5:=Tryz.sizeOf5
 v5:=Tryz.zeroValue5
 t9:=Tryz.underlying9
 a9:=Tryz.isAgg9
 z9:=Tryz.sizeOf9
 v9:=Tryz.zeroValue9
 t21:=Tryz.underlying21
 a21:=Tryz.isAgg21
 z21:=Tryz.sizeOf21
 v21:=Tryz.zeroValue21
 t31:=Tryz.underlying141
 a31:=Tryz.isAgg141
 z31:=Tryz.sizeOf141
 v31:=Tryz.zeroValue141
 t46:=Tryz.underlying252
 a46:=Tryz.isAgg252
 z46:=Tryz.sizeOf252
 v46:=Tryz.zeroValue252
 t51:=Tryz.underlying255
 a51:=Tryz.isAgg255
 z51:=Tryz.sizeOf255
 v51:=Tryz.zeroValue255
 t105:=Tryz.underlying244
 a105:=Tryz.isAgg244
 z105:=Tryz.sizeOf244
 v105:=Tryz.zeroValue244
 t119:=Tryz.underlying259
 a119:=Tryz.isAgg259
 z119:=Tryz.sizeOf259
 t138:=Tryz.underlying261
 a138:=Tryz.isAgg261
 z138:=Tryz.sizeOf261
 v138:=Tryz.zeroValue261
 t139:=Tryz.underlying262
 a139:=Tryz.isAgg262
 z139:=Tryz.sizeOf262
 v139:=Tryz.zeroValue262
 t146:=Tryz.underlying263
 a146:=Tryz.isAgg263
 z146:=Tryz.sizeOf263
 v146:=Tryz.zeroValue263
 g1:=by kernel_rfl
 g3:=by kernel_rfl
 g4:=by kernel_rfl }
theorem Tryz.calls_Itoa (n:Int) (h0 : -9223372036854775808≤n) (h1:n≤9223372036854775807) (w:World) (htab:Lib.TabIs Tryz.prog w "internal/strconv.uint64pow10" .u64 Lib.pow10Tab) :
  Calls Tryz.prog 158 #[.int .i64 n] w fun e w'=>e=.returned (.string ⟨(Lib.itoa n).toArray⟩)∧∃ k os,w'=Go.Sort.grow (w.drewN k) os:=Any.strconv_Itoa Tryz.laysM171 n h0 h1 w htab
theorem Tryz.enters_Itoa:Sh.Enters Tryz.prog 158:=enters_of Tryz.laysM171.f171 (by kernel_rfl) rfl
theorem Tryz.extra:Builder.Extra Tryz.prog Tryz.lays156_ren:={
 sizeBuilder:=by kernel_rfl
 liesBuilder:=by kernel_rfl
 t5:=Tryz.underlying5
 a5:=Tryz.isAgg5
 z5:=Tryz.sizeOf5
 v5:=Tryz.zeroValue5
 infoByte:=by kernel_rfl
 cellsByte:=by kernel_rfl
 sizeByte:=by kernel_rfl
 neB5:=by decide }
theorem Tryz.enters_Join:Sh.Enters Tryz.prog 135:=enters_of Tryz.lays156.f156 (by kernel_rfl) rfl
theorem Tryz.calls_Join (bk o c:Nat) (xs:List ByteArray) (sep:ByteArray) (w:World) (hcells:∀ (j:Nat) x,xs[j]?=some x→w.cell? ⟨bk,o+j,none⟩=some (.string x))
  (hbk:bk < w.heap.size) (hN:xs.length≤140737488355328) (hcap:xs.length≤c) (hlen:(Lib.join (xs.map (·.data.toList)) sep.data.toList).length≤140737488355328) :
  Calls Tryz.prog 135 #[.slice (some ⟨bk,o,none⟩) xs.length c,.string sep] w fun e w'=>e=.returned (.string ⟨(Lib.join (xs.map (·.data.toList)) sep.data.toList).toArray⟩)∧Below w.heap.size w w' :=
 Any.strings_Join Tryz.lays156 Tryz.extra bk o c xs sep w hcells hbk hN hcap hlen
theorem Tryz.calls_Join0 (a:Option Addr) (c:Nat) (sep:ByteArray) (w:World):Calls Tryz.prog 135 #[.slice a 0 c,.string sep] w fun e w'=>e=.returned (.string ⟨#[]⟩)∧w'=w :=
 Any.strings_Join_none Tryz.lays156 Tryz.extra a c sep w
theorem Tryz.enters_CutSuffix:Sh.Enters Tryz.prog 139:=enters_of Tryz.lays104.f104 (by kernel_rfl) rfl
theorem Tryz.enters_IndexByte:Sh.Enters Tryz.prog 160:=enters_of Tryz.lays137.f137 (by kernel_rfl) rfl
theorem Tryz.enters_Split:Sh.Enters Tryz.prog 140:=enters_of Tryz.lays146.f146 (by kernel_rfl) rfl
end Go.Proofs
namespace Sh
open Go Go.Proofs
def strs (l:List (List UInt8)):DV:=.list (l.map DV.str)
theorem s_Itoa (n:Int) (h0 : -9223372036854775808≤n) (h1:n≤9223372036854775807):PC 158 [DV.int .i64 (n)] (.str (Lib.itoa n)):=by
 refine pure_of_calls Tryz.enters_Itoa (fun M w vs hG hT hM hr=>?_)
 have hv:vs=#[.int .i64 n]:=by
  obtain ⟨r1,r2⟩:=hr
  have r3:=r2 0 (by simp)
  apply Array.ext
  ·simpa using r1.symm
  ·intro i i1 i2
   have:i=0:=by simp at i2;omega
   subst this
   have e:vs.getD 0 Go.undef=vs[0]:=by simp [Array.getD_eq_getD_getElem?,i1]
   rw [e] at r3
   generalize vs[0]=x at r3
   cases r3
   rfl
 subst hv
 refine (Tryz.calls_Itoa n h0 h1 w (tabIs_of (g:=2) (by kernel_rfl) rfl (by decide) hG hT hM)).mono ?_
 rintro e w' ⟨rfl,k,os,rfl⟩
 exact after_flat hM (Lib.below_grow _ w (Nat.le_refl _) k os) (.str _)
theorem flat_strs (l:List (List UInt8)):flat (l.map DV.str)=l.map DV.str:=by
 induction l with
 |nil=>rfl
 |cons a r ih=>rw [List.map_cons,show DV.str a :: r.map DV.str=[DV.str a]++r.map DV.str from rfl,flat_append,ih];rfl
theorem s_Join (l:List (List UInt8)) (sep:List UInt8) (hl:l.length≤140737488355328) (hj:(Lib.join l sep).length≤140737488355328):PC 135 [.list (l.map DV.str),.str sep] (.str (Lib.join l sep)):=by
 refine pure_of_calls Tryz.enters_Join (fun M w vs hG hT hM hr=>?_)
 obtain ⟨r1,r2⟩:=hr
 obtain ⟨x,y,rfl⟩:∃ x y,vs=#[x,y]:=by
  refine ⟨vs[0]'(by simp at r1;omega),vs[1]'(by simp at r1;omega),?_⟩
  apply Array.ext
  ·simpa using r1.symm
  ·intro i i1 i2
   have:i=0∨i=1:=by simp at i2;omega
   rcases this with rfl|rfl<;>rfl
 have hx:RelP M (.list (l.map DV.str)) x:=r2 0 (by simp)
 have hy:RelP M (.str sep) y:=r2 1 (by simp)
 cases hy
 cases hx with
 |list _ a cap sz b o g hcap ha hsz hMm hrr =>
  rw [flat_strs] at hMm hrr
  rw [List.length_map] at hcap ⊢
  rcases ha with ha|rfl
  ·have:l=[]:=by simpa using ha
   subst this
   refine (Tryz.calls_Join0 a cap _ w).mono ?_
   rintro e w' ⟨rfl,rfl⟩
   exact after_flat hM (RowKit.Below.refl _ _) (.str _)
  ·by_cases h0:l=[]
   ·subst h0
    refine (Tryz.calls_Join0 _ cap _ w).mono ?_
    rintro e w' ⟨rfl,rfl⟩
    exact after_flat hM (RowKit.Below.refl _ _) (.str _)
   have hp:0 < l.length:=List.length_pos_iff.2 h0
   have hcell:∀ j,j < l.length→w.cell? ⟨b,o+j,none⟩=some (.string ⟨(l.getD j []).toArray⟩):=fun j hj=>by
    have q1:=hM _ _ _ (hMm j (by simpa using hj))
    have q2:=hrr j (by simpa using hj)
    have q3:(l.map DV.str).getD j .undef=.str (l.getD j []):=by simp [List.getD_eq_getElem?_getD,hj]
    rw [q3] at q2
    have q6:∀ s v,RelP M (.str s) v→v=.string ⟨s.toArray⟩:=fun s v h=>by cases h;rfl
    rw [q1,q6 _ _ q2]
   have hb:b < w.heap.size:=World.block_lt_of_cell? (a:=⟨b,o+0,none⟩) _ (hcell 0 hp)
   have e1:((l.map fun s=>(⟨s.toArray⟩:ByteArray)).map (·.data.toList))=l:=by simp [Function.comp_def]
   have h1:=Tryz.calls_Join b o cap (l.map fun s=>⟨s.toArray⟩) ⟨sep.toArray⟩ w (fun j x hx=>?_) hb (by simpa using hl) (by simpa using hcap) (by rw [e1];simpa using hj)
   ·rw [e1,List.length_map] at h1
    refine h1.mono ?_
    rintro e w' ⟨rfl,hw⟩
    exact after_flat hM hw (.str _)
   ·have hj2:j < l.length:=by have:=(List.getElem?_eq_some_iff.1 hx).1;simpa using this
    rw [hcell j hj2]
    simp [hj2] at hx
    rw [← hx];simp [List.getD_eq_getElem?_getD,hj2]
theorem relPs_two {M:Mem} {a b:DV} {vs:Array Value} (h:RelPs M [a,b] vs):∃ x y,vs=#[x,y]∧RelP M a x∧RelP M b y:=by
 obtain ⟨r1,r2⟩:=h
 simp only [List.length_cons,List.length_nil] at r1
 refine ⟨vs.getD 0 Go.undef,vs.getD 1 Go.undef,?_,r2 0 (by simp),r2 1 (by simp)⟩
 apply Array.ext
 ·simpa using r1.symm
 ·intro i i1 i2
  have:i=0∨i=1:=by simp at i2;omega
  rcases this with rfl|rfl<;>simp [Array.getD_eq_getD_getElem?,i1]
theorem relP_str {M:Mem} {s:List UInt8} {v:Value} (h:RelP M (.str s) v):v=.string ⟨s.toArray⟩:=by cases h;rfl
theorem relP_int {M:Mem} {k:IntKind} {n:Int} {v:Value} (h:RelP M (.int k n) v):v=.int k n:=by cases h;rfl
theorem s_CutSuffix (s p:List UInt8) (hs:s.length≤1073741824):PC 139 [.str s,.str p] (.tuple [.str (Lib.trimSuffix s p),.bool (Lib.hasSuffix s p)]):=by
 refine pure_of_calls Tryz.enters_CutSuffix (fun M w vs hG hT hM hr=>?_)
 obtain ⟨x,y,rfl,h1,h2⟩:=relPs_two hr
 rw [relP_str h1,relP_str h2]
 refine Calls.mono (Any.strings_CutSuffix Tryz.lays104 ⟨s.toArray⟩ ⟨p.toArray⟩ w (by show s.toArray.size≤_;simp;omega)) ?_
 rintro e w' ⟨rfl,rfl⟩
 refine after_flat hM (RowKit.Below.refl _ _) (.tuple _ _ rfl (fun i hi=>?_))
 have hi:i < 2:=hi
 have:i=0∨i=1:=by omega
 rcases this with rfl|rfl
 ·exact .str _
 ·exact .bool _
theorem s_IndexByte (s:List UInt8) (c:UInt8):PC 160 [.str s,.int .u8 (c.toNat)] (DV.int .i64 (Lib.indexByte s c)):=by
 refine pure_of_calls Tryz.enters_IndexByte (fun M w vs hG hT hM hr=>?_)
 obtain ⟨x,y,rfl,h1,h2⟩:=relPs_two hr
 rw [relP_str h1,relP_int h2]
 refine Calls.mono (Any.strings_IndexByte Tryz.lays137 ⟨s.toArray⟩ (c.toNat:Int) w) ?_
 rintro e w' ⟨rfl,rfl⟩
 have ec:((c.toNat:Int)).toNat.toUInt8=c:=by simp
 rw [ec]
 exact after_flat hM (RowKit.Below.refl _ _) (.int _ _)
theorem splitK_C (c:UInt8):∀ s:List UInt8,Lib.splitK [c] 0 (Lib.count s [c]) s=splitC c s
 |[]=>by rw [Lib.count_one];rfl
 |b :: l=>by
  have ih:=splitK_C c l
  have hp:∀ k (s:List UInt8),Lib.splitK [c] 0 (k+1) s=if Lib.index s [c] == -1 then [s] else s.take ((Lib.index s [c]).toNat+0) :: Lib.splitK [c] 0 k (s.drop ((Lib.index s [c]).toNat+[c].length)):=fun k s=>rfl
  by_cases h:b=c
  ·subst h
   rw [Lib.count_cons_eq,Nat.add_comm,hp]
   have hix:Lib.index (b :: l) [b]=0:=by rw [Lib.index];simp [List.isPrefixOf]
   rw [hix,splitC,if_pos rfl,← ih]
   rfl
  ·rw [Lib.count_cons_ne b c l h,splitC,if_neg h,← ih]
   have hpre:([c]:List UInt8).isPrefixOf (b :: l)=false:=by simp [List.isPrefixOf,Ne.symm h]
   have hix:Lib.index (b :: l) [c]=if Lib.index l [c] == -1 then -1 else Lib.index l [c]+1:=by rw [Lib.index,hpre];simp
   by_cases hm:Lib.index l [c] = -1
   ·rw [Lib.count_miss hm];rfl
   ·have hge:=Lib.index_ge l [c]
    obtain ⟨i,hi⟩:∃ i:Nat,Lib.index l [c]=i:=⟨(Lib.index l [c]).toNat,by omega⟩
    rw [Lib.count_hit (by simp) hi,Nat.add_comm,hp,hp,hix,hi]
    have hn1:((i:Int) == -1)=false:=beq_eq_false_iff_ne.2 (by omega)
    have hn2:((i:Int)+1 == -1)=false:=beq_eq_false_iff_ne.2 (by omega)
    simp only [hn1,hn2,Bool.false_eq_true,if_false,Int.toNat_natCast,show ((i:Int)+1).toNat=i+1 by omega,Nat.add_zero,List.take_succ_cons,glue,List.singleton_append,List.length_cons,List.length_nil]
    rfl
theorem s_Split (s:List UInt8) (c:UInt8) (hs:s.length≤1073741824):PC 140 [.str s,.str [c]] (strs (splitC c s)):=by
 refine pure_of_calls Tryz.enters_Split (fun M w vs hG hT hM hr=>?_)
 obtain ⟨x,y,rfl,h1,h2⟩:=relPs_two hr
 rw [relP_str h1,relP_str h2]
 obtain ⟨m,hm⟩:=(hT 1 _ rfl).2 rfl
 refine Calls.mono (Any.strings_Split Tryz.lays146 (by kernel_rfl) ⟨s.toArray⟩ ⟨#[c]⟩ m w (by show s.toArray.size < _;simp;omega) hm (Nat.le_refl 1)) ?_
 have hd:=Lib.splitB_data ⟨#[c]⟩ 0 (Lib.countB ⟨s.toArray⟩ ⟨#[c]⟩) ⟨s.toArray⟩
 have hd:(Lib.splitB ⟨#[c]⟩ 0 (Lib.countB ⟨s.toArray⟩ ⟨#[c]⟩) ⟨s.toArray⟩).map (·.data.toList)=splitC c s:=by
  rw [hd];exact splitK_C c s
 have hl:=Lib.splitB_all ⟨#[c]⟩ (Nat.le_refl 1) 0 _ ⟨s.toArray⟩ rfl
 generalize Lib.splitB ⟨#[c]⟩ 0 (Lib.countB ⟨s.toArray⟩ ⟨#[c]⟩) ⟨s.toArray⟩=L at *
 rw [← hl,← hd]
 clear hd hl
 rintro e w' ⟨rfl,rfl⟩
 have hold:∀ b o v,M b o=some v→b≠w.heap.size:=fun b o v e e2=>by
  have h1:b < w.heap.size:=World.block_lt_of_cell? (a:=⟨b,o,none⟩) _ (hM b o v e)
  omega
 have hnew:(w.alloc (.cells (L.map Value.string).toArray (Tryz.lays146_ren.t 9))).heap[w.heap.size]?=some (.cells (L.map Value.string).toArray (Tryz.lays146_ren.t 9)):=World.alloc_heap_new w _
 refine ⟨_,fun b o=>if b=w.heap.size then (L.map Value.string).toArray[o]? else M b o,rfl,fun b o v e=>?_,fun b o v e=>?_,?_,(RowKit.Below.refl _ _).alloc (Nat.le_refl _) _,fun b o v e e0=>?_⟩
 ·show (if b=w.heap.size then _ else _)=_
  rw [if_neg (hold b o v e)];exact e
 ·by_cases hb:b=w.heap.size
  ·subst hb
   have e:(if w.heap.size=w.heap.size then (L.map Value.string).toArray[o]? else M w.heap.size o)=some v:=e
   rw [if_pos rfl] at e
   rw [cell_of_heap hnew];exact e
  ·have e:(if b=w.heap.size then (L.map Value.string).toArray[o]? else M b o)=some v:=e
   rw [if_neg hb] at e
   have h1:=hM b o v e
   rw [World.cell?_alloc_old _ _ _ hb];exact h1
 ·have hlen:((L.map (·.data.toList)).map DV.str).length=L.length:=by simp
  have hfl:flat ((L.map (·.data.toList)).map DV.str)=(L.map (·.data.toList)).map DV.str:=by
   exact flat_strs _
  have hget:∀ i,i < L.length→((L.map (·.data.toList)).map DV.str).getD i .undef=.str (L.getD i ByteArray.empty).data.toList:=fun i hi=>by simp [List.getD_eq_getElem?_getD,hi]
  have:=RelP.list (M:=fun b o=>if b=w.heap.size then (L.map Value.string).toArray[o]? else M b o) ((L.map (·.data.toList)).map DV.str) (some ⟨w.heap.size,0,none⟩) L.length 1 w.heap.size 0 (fun i=>.string (L.getD i ByteArray.empty)) (by rw [hlen];exact Nat.le_refl _) (.inr rfl) (fun e he=>by
    obtain ⟨x,_,rfl⟩:=List.mem_map.1 he;rfl) (fun i hi=>by
    rw [hfl,hlen] at hi
    show (if w.heap.size=w.heap.size then _ else _)=_
    rw [if_pos rfl];simp [List.getD_eq_getElem?_getD,hi]) (fun i hi=>by
    rw [hfl,hlen] at hi
    rw [hfl,hget i hi]
    have e:=RelP.str (M:=fun b o=>if b=w.heap.size then (L.map Value.string).toArray[o]? else M b o) (L.getD i ByteArray.empty).data.toList
    simpa using e)
  rw [hlen] at this
  exact this
 ·by_cases hb:b=w.heap.size
  ·omega
  ·have e:(if b=w.heap.size then (L.map Value.string).toArray[o]? else M b o)=some v:=e
   rw [if_neg hb,e0] at e;cases e
end Sh

namespace Sh
open Go
section
variable {α:Type}
def parEG (wr:List (List UInt8)→Bool) (rows:List (List UInt8)):Nat→Nat→Option Nat
 |0,_=>none
 |n+1,i=>if wr (splitC 32 (rows.getD i [])) then some i else parEG wr rows n (i+1)
def outG (rd:List (List UInt8)→α) (rows:List (List UInt8)) (m:Nat):List α:=(rows.take m).map fun r=>rd (splitC 32 r)
def parG (wr:List (List UInt8)→Bool) (rd:List (List UInt8)→α) (chk:List α→Int) (s:List UInt8):List α×Int×Int :=
 if 4096 < s.length then ([],0,26) else
 match parEG wr (splitC 10 s) ((splitC 10 s).length - 1) 0 with
 |some i=>([],(i:Int),25)
 |none=>if (splitC 10 s).getD ((splitC 10 s).length - 1) []≠[] then ([],((splitC 10 s).length - 1:Nat),25)
  else if chk (outG rd (splitC 10 s) ((splitC 10 s).length - 1))≠0 then ([],((splitC 10 s).length - 1:Nat),chk (outG rd (splitC 10 s) ((splitC 10 s).length - 1)))
  else (outG rd (splitC 10 s) ((splitC 10 s).length - 1),0,0)
def prtG (ln:α→List UInt8) (l:List α):List UInt8:=l.flatMap fun a=>ln a++[10]
theorem parEG_step {wr:List (List UInt8)→Bool} (rows:List (List UInt8)) (n i:Nat) (hi:i < n) (h:wr (splitC 32 (rows.getD i []))=false):parEG wr rows (n - i) i=parEG wr rows (n - (i+1)) (i+1):=by
 rw [show n - i=(n - (i+1))+1 by omega,parEG,h];rfl
theorem parEG_at {wr:List (List UInt8)→Bool} (rows:List (List UInt8)) (n i:Nat) (hi:i < n) (h:wr (splitC 32 (rows.getD i []))=true):parEG wr rows (n - i) i=some i:=by
 rw [show n - i=(n - (i+1))+1 by omega,parEG,h];rfl
theorem outG_succ (rd:List (List UInt8)→α) (rows:List (List UInt8)) (i:Nat) (h:i < rows.length):outG rd rows (i+1)=outG rd rows i++[rd (splitC 32 (rows.getD i []))]:=take_map_succ _ _ _ _ h
theorem outG_len (rd:List (List UInt8)→α) (rows:List (List UInt8)) (i:Nat) (h:i≤rows.length):(outG rd rows i).length=i:=by unfold outG;simp;omega
theorem parG_bad {wr:List (List UInt8)→Bool} {rd:List (List UInt8)→α} {chk:List α→Int} {s:List UInt8} {rows:List (List UInt8)} {m i:Nat} (h:¬ 4096 < s.length) (hr:splitC 10 s=rows) (hm:rows.length=m+1) (he:parEG wr rows m 0=some i):parG wr rd chk s=([],(i:Int),25):=by
 unfold parG
 rw [if_neg h,hr,hm,Nat.add_sub_cancel,he]
theorem parG_ok {wr:List (List UInt8)→Bool} {rd:List (List UInt8)→α} {chk:List α→Int} {s:List UInt8} {rows:List (List UInt8)} {m:Nat} (h:¬ 4096 < s.length) (hr:splitC 10 s=rows) (hm:rows.length=m+1) (he:parEG wr rows m 0=none) :
  parG wr rd chk s=if rows.getD m []≠[] then ([],(m:Int),25) else if chk (outG rd rows m)≠0 then ([],(m:Int),chk (outG rd rows m)) else (outG rd rows m,0,0):=by
 unfold parG
 rw [if_neg h,hr,hm,Nat.add_sub_cancel,he]
end
end Sh

namespace Sh
open Go
def dayB:List UInt8:=[100,97,121]
def numsD (d:Dy):List Int:=[d.dust,d.rain,d.light]
def linD (d:Dy):List UInt8:=dayB++wn (numsD d)
def wrongD (w:List (List UInt8)):Bool:=!(decide (w.length=4) && decide (w.getD 0 []=dayB) && (w.drop 1).all fun x=>(digS x).2)
def dayW (w:List (List UInt8)):Dy:=⟨(digS (w.getD 1 [])).1,(digS (w.getD 2 [])).1,(digS (w.getD 3 [])).1⟩
def parDs (s:List UInt8):List Dy×Int×Int:=parG wrongD dayW chkDs s
def prtDs (l:List Dy):List UInt8×Int:=if chkDs l≠0 then ([],chkDs l) else (prtG linD l,0)
theorem linD_len {d:Dy} (h:OkDy d):(linD d).length≤69:=by
 have t1:=Lib.itoa_length_le d.dust (by have:=h.d0;omega) (by have:=h.d1;omega)
 have t2:=Lib.itoa_length_le d.rain (by have:=h.r0;omega) (by have:=h.r1;omega)
 have t3:=Lib.itoa_length_le d.light (by have:=h.l0;omega) (by have:=h.l1;omega)
 unfold linD numsD
 rw [wn_cons,wn_cons,wn_cons,wn_nil,show dayB=[100,97,121] from rfl]
 simp only [List.length_append,List.length_cons,List.length_nil]
 omega
theorem prtD_len {l:List Dy} (h:∀ d ∈ l,OkDy d):(prtG linD l).length≤70 * l.length:=by
 induction l with
 |nil=>exact Nat.le_refl _
 |cons s r ih =>
  have i1:=ih (fun t ht=>h t (List.mem_cons_of_mem _ ht))
  have i2:=linD_len (h s (List.mem_cons_self ..))
  unfold prtG at *
  rw [List.flatMap_cons,List.length_append,List.length_append,List.length_cons]
  simp only [List.length_cons,List.length_nil]
  omega
def hdW (ws:List (List UInt8)):List UInt8:=ws.headD []
def numT (wr:Bool) (ws:List (List UInt8)):Int:=bif wr then 0 else (digS (hdW ws)).1
def wrT (wr:Bool) (ws:List (List UInt8)):Bool:=wr || !(digS (hdW ws)).2
def wrK (D:List (List UInt8)):Nat→Bool
 |0=>false
 |k+1=>wrT (wrK D k) (D.drop k)
def numK (D:List (List UInt8)) (k:Nat):Int:=numT (wrK D k) (D.drop k)
theorem hdW_drop (D:List (List UInt8)) (k:Nat):hdW (D.drop k)=D.getD k []:=by
 unfold hdW
 rw [List.headD_eq_head?_getD,List.head?_drop,List.getD_eq_getElem?_getD]
theorem wrongD_read (w0:List UInt8) (D:List (List UInt8)):wrongD (w0 :: D)=(!decide (w0=dayB) || wrK D 3 || decide (0 < D.length - 3))∧(wrK D 3=false→dayW (w0 :: D)=⟨numK D 0,numK D 1,numK D 2⟩):=by
 have hn:(digS ([]:List UInt8)).2=false:=rfl
 have k1:wrK D 1=!(digS (D.getD 0 [])).2:=by
  show (false || !(digS (hdW (D.drop 0))).2)=_
  rw [hdW_drop,Bool.false_or]
 have k2:wrK D 2=(!(digS (D.getD 0 [])).2 || !(digS (D.getD 1 [])).2):=by
  show (wrK D 1 || !(digS (hdW (D.drop 1))).2)=_
  rw [hdW_drop,k1]
 have k3:wrK D 3=(!(digS (D.getD 0 [])).2 || !(digS (D.getD 1 [])).2 || !(digS (D.getD 2 [])).2):=by
  show (wrK D 2 || !(digS (hdW (D.drop 2))).2)=_
  rw [hdW_drop,k2]
 refine ⟨?_,fun h=>?_⟩
 ·rw [k3]
  unfold wrongD
  match D with
  |[]=>simp [hn]
  |[a]=>simp [hn]
  |[a,b]=>simp [hn]
  |[a,b,c] =>
   simp
   cases decide (w0=dayB)<;>cases (digS a).2<;>cases (digS b).2<;>cases (digS c).2<;>rfl
  |a :: b :: c :: d :: r=>simp
 ·rw [k3] at h
  simp only [Bool.or_eq_false_iff,Bool.not_eq_false'] at h
  have e1:wrK D 1=false:=by rw [k1,h.1.1];rfl
  have e2:wrK D 2=false:=by rw [k2,h.1.1,h.1.2];rfl
  have e0:wrK D 0=false:=rfl
  unfold dayW numK numT
  rw [e0,e1,e2,hdW_drop,hdW_drop,hdW_drop]
  rfl
end Sh

namespace Sh
open Go Go.Proofs
def oS {α:Type} (g:α→List UInt8) (l:List α) (i:Nat):List DV:=(l.take i).map fun c=>.str (g c)
theorem oS_len {α:Type} (g:α→List UInt8) (l:List α) (i:Nat) (h:i≤l.length):(oS g l i).length=i:=by simp [oS];omega
theorem oS_succ {α:Type} (g:α→List UInt8) (l:List α) (i:Nat) (d:α) (h:i < l.length):oS g l (i+1)=oS g l i++[.str (g (l.getD i d))]:=take_map_succ _ l i d h
theorem oS_all {α:Type} (g:α→List UInt8) (l:List α):oS g l l.length=(l.map g).map DV.str:=by simp [oS]
theorem c_mappedS (l:List Int) (f:FuncId) (g:Int→List UInt8) (hl:l.length < 1073741824) (hf:∀ c ∈ l,PC f [DV.int .i64 (c)] (.str (g c))):PC 157 [iL l,.func f []] (.list ((l.map g).map DV.str)):=by
 refine pureCall_ofR dh157 rfl ?_
 conv=>whnf
 refine dwp_loopR (P:=Tryz.prog) (G:=GC) (k:=dk157_0) (b:=db157_0) (α:=Nat) (fun i=>[(1,.func f []),(5,.own 5 0 (oS g l i).length (oS g l i).length),(8,iL l),(9,.int .i64 (l.map (DV.int .i64)).length),(10,DV.int .i64 (i))]) (fun i=>[(5,.row 1 (oS g l i) false)]) (fun i=>i≤l.length) (fun i=>l.length - i) 0 ⟨rfl,rfl,rfl⟩ (Nat.zero_le _) ?_
 intro i h1
 conv=>whnf
 refine ⟨fun hb=>?_,fun hb=>?_⟩
 ·have hi:i < l.length:=by simpa using hb
  conv=>whnf
  rw [getD_enc _ _ (i) 0 hi]
  refine ⟨idxA hi rfl,?_⟩
  conv=>whnf
  refine .inl ?_
  conv=>whnf
  refine ⟨_,hf _ (getD_in 0 hi),?_⟩
  conv=>whnf
  refine ⟨⟨rfl,rfl,rfl,by rw [oS_len g l i h1];simp;omega,fun e he=>by simp at he;subst he;rfl⟩,?_⟩
  conv=>whnf
  rw [wrap_succ i (by omega)]
  refine ⟨i+1,rfl,?_,?_,hi,by omega⟩
  ·rw [oS_succ g l i 0 hi];rfl
  ·rw [oS_succ g l i 0 hi];rfl
 ·have hi:i=l.length:=by have:=of_decide_eq_false hb;simp at this;omega
  conv=>whnf
  exact ⟨rfl,by rw [window_full,hi,oS_all];rfl⟩
theorem c_mappedL (l:List Dy) (f:FuncId) (g:Dy→List UInt8) (hl:l.length < 1073741824) (hf:∀ c ∈ l,PC f [encD c] (.str (g c))):PC 136 [dysV l,.func f []] (.list ((l.map g).map DV.str)):=by
 refine pureCall_ofR dh136 rfl ?_
 conv=>whnf
 refine dwp_loopR (P:=Tryz.prog) (G:=GC) (k:=dk136_0) (b:=db136_0) (α:=Nat) (fun i=>[(1,.func f []),(5,.own 5 0 (oS g l i).length (oS g l i).length),(8,dysV l),(9,.int .i64 (l.map encD).length),(10,DV.int .i64 (i))]) (fun i=>[(5,.row 1 (oS g l i) false)]) (fun i=>i≤l.length) (fun i=>l.length - i) 0 ⟨rfl,rfl,rfl⟩ (Nat.zero_le _) ?_
 intro i h1
 conv=>whnf
 refine ⟨fun hb=>?_,fun hb=>?_⟩
 ·have hi:i < l.length:=by simpa using hb
  conv=>whnf
  rw [getD_enc _ _ (i) D0 hi]
  refine ⟨idxA hi rfl,?_⟩
  conv=>whnf
  refine .inl ?_
  conv=>whnf
  refine ⟨_,hf _ (getD_in D0 hi),?_⟩
  conv=>whnf
  refine ⟨⟨rfl,rfl,rfl,by rw [oS_len g l i h1];simp;omega,fun e he=>by simp at he;subst he;rfl⟩,?_⟩
  conv=>whnf
  rw [wrap_succ i (by omega)]
  refine ⟨i+1,rfl,?_,?_,hi,by omega⟩
  ·rw [oS_succ g l i D0 hi];rfl
  ·rw [oS_succ g l i D0 hi];rfl
 ·have hi:i=l.length:=by have:=of_decide_eq_false hb;simp at this;omega
  conv=>whnf
  exact ⟨rfl,by rw [window_full,hi,oS_all];rfl⟩
theorem c_line (d:Dy) (hd:OkDy d):PC 137 [encD d] (.str (linD d++[10])):=by
 have h0:=hd.d0
 have h1:=hd.d1
 have h2:=hd.r0
 have h3:=hd.r1
 have h4:=hd.l0
 have h5:=hd.l1
 have hln:=linD_len hd
 have k1:=c_mappedS (numsD d) 158 Lib.itoa (by unfold numsD;simp) (fun n hn=>by
  have hn:n=d.dust∨n=d.rain∨n=d.light:=by unfold numsD at hn;simpa using hn
  rcases hn with rfl|rfl|rfl
  ·exact s_Itoa _ (by omega) (by omega)
  ·exact s_Itoa _ (by omega) (by omega)
  ·exact s_Itoa _ (by omega) (by omega))
 have hj:Lib.join (dayB :: (numsD d).map Lib.itoa) [32]=linD d:=rfl
 have k2:=s_Join (dayB :: (numsD d).map Lib.itoa) [32] (by unfold numsD;simp) (by rw [hj];omega)
 rw [hj] at k2
 generalize hL:linD d=L at *
 refine pureCall_ofR dh137 rfl ?_
 conv=>whnf
 refine .inl ?_
 conv=>whnf
 refine ⟨_,k1 ..,?_⟩
 conv=>whnf
 refine ⟨⟨by simp [numsD],fun e he=>by obtain ⟨x,_,rfl⟩:=List.mem_map.1 he;rfl,fun e he=>by
  have he:e ∈ [DV.str dayB]:=he
  simp at he;subst he;rfl⟩,?_⟩
 conv=>whnf
 refine .inl ?_
 conv=>whnf
 refine ⟨_,k2 ..,?_⟩
 conv=>whnf
 refine ⟨by show _+(_:Nat)≤_;simp;omega,?_⟩
 conv=>whnf
 rfl
theorem join_nil:∀ ls:List (List UInt8),Lib.join ls []=ls.flatMap id
 |[]=>rfl
 |x :: r=>by
  rw [Lib.join_cons]
  have:∀ r:List (List UInt8),Lib.joinTail [] r=r.flatMap id:=fun r=>by
   induction r with
   |nil=>rfl
   |cons a t ih=>show []++(a++Lib.joinTail [] t)=_;rw [ih];rfl
  rw [this];rfl
theorem c_Print (l:List Dy) (hl:l.length < 1073741824):PC 76 [dysV l] (.tuple [.str (prtDs l).1,DV.int .i64 ((prtDs l).2)]):=by
 have k1:=c_CheckDays l hl
 by_cases hc:chkDs l≠0
 ·rw [show prtDs l=([],chkDs l) from if_pos hc]
  generalize chkDs l=k at *
  refine pureCall_ofR dh76 rfl ?_
  conv=>whnf
  repeat' (first
   |(refine ⟨fun hg=>?_,fun hg=>?_⟩<;>first|contradiction|(exfalso;revert hg;simp;done)|(exfalso;exact absurd (of_decide_eq_true hg) (by assumption))|(exfalso;exact absurd (by assumption) (of_decide_eq_false hg))|(conv=>whnf))
   |(refine Or.inl ?_;conv=>whnf)
   |(refine ⟨_,k1,?_⟩;conv=>whnf)
   |(refine And.intro ?_ ?_;kernel_rfl;conv=>whnf))
  rfl
 ·rw [show prtDs l=(prtG linD l,0) from if_neg hc]
  have hk0:chkDs l=0:=by omega
  obtain ⟨_,h64,hok⟩:=chkDs_zero hk0
  rw [hk0] at k1
  have hpl:=prtD_len hok
  have k2:=c_mappedL l 137 (fun d=>linD d++[10]) (by omega) (fun d hd=>c_line d (hok d hd))
  have hj:Lib.join (l.map fun d=>linD d++[10]) []=prtG linD l:=by
   rw [join_nil];unfold prtG;rw [List.flatMap_map];rfl
  have k3:=s_Join (l.map fun d=>linD d++[10]) [] (by simp;omega) (by rw [hj];omega)
  rw [hj] at k3
  refine pureCall_ofR dh76 rfl ?_
  conv=>whnf
  repeat' (first
   |(refine ⟨fun hg=>?_,fun hg=>?_⟩<;>first|contradiction|(exfalso;revert hg;simp;done)|(exfalso;exact absurd (of_decide_eq_true hg) (by assumption))|(exfalso;exact absurd (by assumption) (of_decide_eq_false hg))|(conv=>whnf))
   |(refine Or.inl ?_;conv=>whnf)
   |(refine ⟨_,k1,?_⟩;conv=>whnf)
   |(refine ⟨_,k2,?_⟩;conv=>whnf)
   |(refine ⟨_,k3,?_⟩;conv=>whnf)
   |(refine And.intro ?_ ?_;kernel_rfl;conv=>whnf))
  rfl
end Sh
