/-
  Chapter 8's functions, walked over pure data: the library of the walk, the functions' code over data, and what each computes. (part 6)
-/
import Derived.Test.YtcgajpaohlggpaaGreatDoorP5
import Derived.Lib.MapLaws
import Derived.Test.YtcgajpaohlggpaaGreatDoorProg
import Derived.Lay
import Derived.Test.YtcgajpaohlggpaaGreatDoorRows
import Derived.Test.YtcgajpaohlggpaaGreatDoorCards
import Derived.Test.YtcgajpaohlggpaaGreatDoorTie
set_option linter.unusedVariables false
set_option linter.unusedSimpArgs false
set_option maxRecDepth 100000
namespace Sh
open Go Go.Proofs
def takO (ws:List (List UInt8)) (wr:Bool):DObj:=.box 2 (.agg [strs ws,.bool wr])
theorem window_tail {α β:Type} (f:α→β) (a:α) (l:List α):window ((a :: l).map f) (Int.toNat 1) (Int.toNat ((((a :: l).map f).length:Int) - 1))=l.map f:=by
 unfold window
 rw [show Int.toNat 1=1 from rfl,List.map_cons,List.drop_succ_cons,List.drop_zero,List.take_of_length_le (by simp)]
theorem h_word (ws:List (List UInt8)) (wr:Bool) (h:∀ w ∈ ws,w.length < 1073741824):HCall Tryz.prog GC 141 [.bptr 1 0] [(1,takO ws wr)] (.str (hdW ws)) [(1,takO (ws.drop 1) (wr || ws.isEmpty))]:=by
 cases ws with
 |nil =>
  rw [show (wr || ([]:List (List UInt8)).isEmpty)=true by simp]
  refine hCall_ofR dh141 rfl (by kernel_rfl) (by kernel_rfl) ?_
  conv=>whnf
  refine ⟨fun _=>?_,fun hg=>absurd hg (by decide)⟩
  conv=>whnf
  exact ⟨rfl,rfl⟩
 |cons w r =>
  rw [show (wr || (w :: r).isEmpty)=wr by simp]
  refine hCall_ofR dh141 rfl (by kernel_rfl) (by kernel_rfl) ?_
  conv=>whnf
  refine ⟨fun hg=>?_,fun hg=>?_⟩
  ·exfalso
   have:=of_decide_eq_true hg
   simp only [List.map_cons,List.length_cons] at this
   omega
  ·conv=>whnf
   refine ⟨⟨by decide,by simp,rfl⟩,?_⟩
   conv=>whnf
   refine ⟨⟨by decide,by simp;omega,by omega,fun e he=>by obtain ⟨x,_,rfl⟩:=List.mem_map.1 he;rfl⟩,?_⟩
   rw [window_tail]
   conv=>whnf
   exact ⟨rfl,rfl⟩
theorem all_noD (s:List UInt8) (k:Nat) (hk:k < s.length) (hd:isD (s.getD k 0)=false):s.all isD=false:=by
 rw [List.all_eq_false]
 exact ⟨_,getD_in 0 hk,by rw [hd];decide⟩
theorem digS_no {s:List UInt8} (h:s.all isD=false):digS s=(0,false):=by unfold digS;rw [h];simp
theorem digS_bad {s:List UInt8} (h:badD s=true):digS s=(0,false):=by unfold digS;rw [h];simp
theorem c_number (ws:List (List UInt8)) (wr:Bool) (h:∀ w ∈ ws,w.length < 1073741824):HCall Tryz.prog GC 142 [.bptr 1 0] [(1,takO ws wr)] (DV.int .i64 (numT wr ws)) [(1,takO (ws.drop 1) (wrT wr ws))]:=by
 have kW:=h_word ws wr h
 have hs:(hdW ws).length < 1073741824:=by
  cases ws with
  |nil=>show 0 < _;decide
  |cons a r=>exact h a (by simp)
 have hE:ws.isEmpty=true→hdW ws=[]:=fun e=>by
  cases ws with
  |nil=>rfl
  |cons a r=>cases e
 generalize hB:(wr || ws.isEmpty)=B at *
 -- what follows a wrong word
 have hbadT:B=true∨badD (hdW ws)=true→numT wr ws=0∧wrT wr ws=true:=fun hh=>by
  unfold numT wrT
  rcases hh with hh|hh
  ·rw [hh] at hB
   cases wr with
   |true=>exact ⟨rfl,rfl⟩
   |false =>
    have:=hE (by simpa using hB)
    rw [this];exact ⟨rfl,rfl⟩
  ·rw [digS_bad hh]
   cases wr<;>exact ⟨rfl,rfl⟩
 have hgood:B=false→badD (hdW ws)=false→numT wr ws=(digS (hdW ws)).1∧wrT wr ws=!(digS (hdW ws)).2:=fun h1 h2=>by
  rw [h1] at hB
  have hw:wr=false:=by cases wr with
   |false=>rfl
   |true=>cases hB
  unfold numT wrT;rw [hw];exact ⟨rfl,rfl⟩
 generalize numT wr ws=N at *
 generalize wrT wr ws=W at *
 generalize ws.drop 1=D at *
 generalize hdW ws=s at *
 clear hE hB
 refine hCall_ofR dh142 rfl (by kernel_rfl) (by kernel_rfl) ?_
 conv=>whnf
 refine .inr ⟨[(1,1)],_,_,_,_,kW,⟨rfl,by kernel_rfl,?_,?_⟩,?_⟩
 ·exact ⟨rfl,trivial⟩
 ·exact ⟨.inl rfl,trivial⟩
 conv=>whnf
 refine ⟨fun g1=>?_,fun g1=>?_⟩
 ·have g1:B=false:=g1
  conv=>whnf
  refine ⟨fun g2=>?_,fun g2=>?_⟩
  ·have g2:¬ s=[]:=of_decide_eq_false g2
   conv=>whnf
   refine ⟨fun g3=>?_,fun g3=>?_⟩
   ·have g3:¬ (9:Int) < (s.length:Int):=of_decide_eq_false g3
    conv=>whnf
    refine ⟨fun g4=>?_,fun g4=>?_⟩
    ·have g4:(1:Int) < (s.length:Int):=of_decide_eq_true g4
     conv=>whnf
     refine ⟨⟨by omega,by omega⟩,?_⟩
     by_cases hz:s.getD 0 0=48
     ·rw [show s.getD (Int.toNat 0) 0=48 from hz]
      conv=>whnf
      repeat (first|(refine ⟨fun hg=>absurd hg (by decide),fun _=>?_⟩;conv=>whnf)|(refine ⟨fun _=>?_,fun hg=>absurd hg (by decide)⟩;conv=>whnf))
      obtain ⟨hN,hW⟩:=hbadT (.inr (by unfold badD;rw [decide_eq_true hz,decide_eq_true (show 1 < s.length by omega)];simp))
      subst hN;subst hW
      refine dwp_loopU (P:=Tryz.prog) (G:=GC) (k:=dk142_0) (b:=db142_0) (α:=Nat) (fun k=>[(4,DV.int .i64 (0))]) (fun k=>[(1,takO D true),(36,.siter s 0)]) (fun k=>k=0) (fun k=>1 - k) 0 rfl ?_
      conv=>whnf
      refine ⟨rfl,rfl,?_⟩
      conv=>whnf
      refine ⟨rfl,?_⟩
      intro k hk
      cases s with
      |nil =>
       conv=>whnf
       repeat (first|(refine ⟨fun hg=>absurd hg (by decide),fun _=>?_⟩;conv=>whnf)|(refine ⟨fun _=>?_,fun hg=>absurd hg (by decide)⟩;conv=>whnf))
       exact ⟨rfl,rfl⟩
      |cons c r =>
       conv=>whnf
       repeat (first|(refine ⟨fun hg=>absurd hg (by decide),fun _=>?_⟩;conv=>whnf)|(refine ⟨fun _=>?_,fun hg=>absurd hg (by decide)⟩;conv=>whnf))
       exact ⟨rfl,rfl⟩
     ·have hz2:decide ((((s.getD (Int.toNat 0) 0).toNat:Nat):Int)=48)=false:=by
       rw [decide_eq_false_iff_not]
       intro e
       apply hz
       apply UInt8.toNat_inj.1
       have e:(((s.getD 0 0).toNat:Nat):Int)=48:=e
       show _=48
       omega
      have hok:badD s=false:=by unfold badD;rw [decide_eq_false g2,decide_eq_false hz,decide_eq_false (show ¬ 9 < s.length by omega)];simp
      conv=>whnf
      rw [hz2]
      conv=>whnf
      repeat (first|(refine ⟨fun hg=>absurd hg (by decide),fun _=>?_⟩;conv=>whnf)|(refine ⟨fun _=>?_,fun hg=>absurd hg (by decide)⟩;conv=>whnf))
      obtain ⟨hN,hW⟩:=hgood g1 hok
      refine dwp_loopU (P:=Tryz.prog) (G:=GC) (k:=dk142_0) (b:=db142_0) (α:=Nat) (fun k=>[(4,DV.int .i64 (valD (s.take k) 0))]) (fun k=>[(1,takO D false),(36,.siter s k)]) (fun k=>k≤s.length∧(s.take k).all isD=true) (fun k=>s.length - k) 0 ⟨Nat.zero_le _,rfl⟩ ?_
      conv=>whnf
      refine ⟨rfl,rfl,?_⟩
      conv=>whnf
      refine ⟨rfl,?_⟩
      intro k ⟨h1,h2⟩
      by_cases hk:k < s.length
      ·have hb:Nat.blt k s.length=true:=Nat.ble_eq_true_of_le hk
       conv=>whnf
       generalize hE:evalOp _ _ _ _=E
       have:E=.ok none (.tuple [.bool true,DV.int .i64 ((k:Nat)),.int .i32 ((sdecode s k).1:Nat)]) [(36,.siter s (k+(sdecode s k).2))]:=by
        rw [← hE]
        show (match Nat.blt k s.length with
         |true=>Ev.ok none (.tuple [.bool true,DV.int .i64 ((k:Nat)),.int .i32 ((sdecode s k).1:Nat)]) [(36,.siter s (k+(sdecode s k).2))]
         |false=>Ev.ok none (.tuple [.bool false]) [])=_
        rw [hb]
       subst this
       clear hE
       cases hd:isD (s.getD k 0) with
       |true =>
        rw [rune_yes s k hd]
        dsimp only
        have hd2:=(isD_iff _).1 hd
        have hst:valD (s.take (k+1)) 0=10 * valD (s.take k) 0+(((s.getD k 0).toNat:Int) - 48):=by
         rw [take_snoc s k 0 hk,valD_append];rfl
        have hall:(s.take (k+1)).all isD=true:=by
         rw [take_snoc s k 0 hk,List.all_append,h2,List.all_cons,hd];rfl
        have hv:=valD_bd (s.take k) 0 0 h2 (Int.le_refl _) (by decide)
        have hp:(10:Int) ^ (0+(s.take k).length)≤10 ^ 9:=by
         have:(10:Nat) ^ (0+(s.take k).length)≤10 ^ 9:=Nat.pow_le_pow_right (by decide) (by simp;omega)
         exact_mod_cast this
        have hp9:(10:Int) ^ 9=1000000000:=by decide
        generalize hcc:(s.getD k 0).toNat=c at *
        generalize hV':valD (s.take (k+1)) 0=V' at *
        generalize hV:valD (s.take k) 0=V at *
        conv=>whnf
        repeat' (first
         |(refine ⟨fun hg=>?_,fun hg=>?_⟩<;>first|contradiction|(replace hg:=of_decide_eq_true hg;first|(exfalso;omega;done)|(conv=>whnf))|(replace hg:=of_decide_eq_false hg;first|(exfalso;omega;done)|(conv=>whnf))|(skip;conv=>whnf)|(conv=>whnf))
         |(refine Or.inl ?_;conv=>whnf)
         |(refine And.intro ?_ ?_;kernel_rfl;conv=>whnf))
        have ew:IntKind.i64.wrap (IntKind.i64.wrap (10 * V)+IntKind.i64.wrap (IntKind.i32.wrap ((c:Int) - 48)))=V':=by
         rw [hst,wrap_i32 (by omega) (by omega),wrap_in (n:=(c:Int) - 48) (by omega) (by omega),wrap_in (n:=10 * V) (by omega) (by omega),wrap_in (by omega) (by omega)]
        rw [ew]
        exact ⟨k+1,rfl,by rw [hV'];rfl,rfl,⟨hk,hall⟩,by omega⟩
       |false =>
        have hr:=rune_no s k hd
        have hno:s.all isD=false:=all_noD s k hk hd
        rw [digS_no hno] at hN hW
        subst hN;subst hW
        generalize (sdecode s k).1=r at *
        generalize (sdecode s k).2=q at *
        generalize hV:valD (s.take k) 0=V at *
        conv=>whnf
        repeat' (first
         |(refine ⟨fun hg=>?_,fun hg=>?_⟩<;>first|contradiction|(replace hg:=of_decide_eq_true hg;first|(exfalso;omega;done)|(conv=>whnf))|(replace hg:=of_decide_eq_false hg;first|(exfalso;omega;done)|(conv=>whnf))|(skip;conv=>whnf)|(conv=>whnf))
         |(refine Or.inl ?_;conv=>whnf)
         |(refine And.intro ?_ ?_;kernel_rfl;conv=>whnf))
        all_goals first|exact ⟨rfl,rfl⟩|rfl
      ·have hks:k=s.length:=by omega
       have hb:Nat.blt k s.length=false:=by
        cases h:Nat.blt k s.length with
        |false=>rfl
        |true=>exact absurd (Nat.le_of_ble_eq_true h) hk
       have hds:digS s=(valD s 0,true):=by
        rw [hks,List.take_length] at h2
        unfold digS;rw [hok,h2];rfl
       rw [hds] at hN hW
       subst hN;subst hW
       conv=>whnf
       generalize hE:evalOp _ _ _ _=E
       have:E=.ok none (.tuple [.bool false]) []:=by
        rw [← hE]
        show (match Nat.blt k s.length with
         |true=>Ev.ok none (.tuple [.bool true,DV.int .i64 ((k:Nat)),.int .i32 ((sdecode s k).1:Nat)]) [(36,.siter s (k+(sdecode s k).2))]
         |false=>Ev.ok none (.tuple [.bool false]) [])=_
        rw [hb]
       subst this
       clear hE
       rw [hks,List.take_length]
       conv=>whnf
       repeat (first|(refine ⟨fun hg=>absurd hg (by decide),fun _=>?_⟩;conv=>whnf)|(refine ⟨fun _=>?_,fun hg=>absurd hg (by decide)⟩;conv=>whnf))
       exact ⟨rfl,rfl⟩
    ·have g4:¬ (1:Int) < (s.length:Int):=of_decide_eq_false g4
     have hok:badD s=false:=by unfold badD;rw [decide_eq_false g2,decide_eq_false (show ¬ 1 < s.length by omega),decide_eq_false (show ¬ 9 < s.length by omega)];simp
     conv=>whnf
     repeat (first|(refine ⟨fun hg=>absurd hg (by decide),fun _=>?_⟩;conv=>whnf)|(refine ⟨fun _=>?_,fun hg=>absurd hg (by decide)⟩;conv=>whnf))
     obtain ⟨hN,hW⟩:=hgood g1 hok
     refine dwp_loopU (P:=Tryz.prog) (G:=GC) (k:=dk142_0) (b:=db142_0) (α:=Nat) (fun k=>[(4,DV.int .i64 (valD (s.take k) 0))]) (fun k=>[(1,takO D false),(36,.siter s k)]) (fun k=>k≤s.length∧(s.take k).all isD=true) (fun k=>s.length - k) 0 ⟨Nat.zero_le _,rfl⟩ ?_
     conv=>whnf
     refine ⟨rfl,rfl,?_⟩
     conv=>whnf
     refine ⟨rfl,?_⟩
     intro k ⟨h1,h2⟩
     by_cases hk:k < s.length
     ·have hb:Nat.blt k s.length=true:=Nat.ble_eq_true_of_le hk
      conv=>whnf
      generalize hE:evalOp _ _ _ _=E
      have:E=.ok none (.tuple [.bool true,DV.int .i64 ((k:Nat)),.int .i32 ((sdecode s k).1:Nat)]) [(36,.siter s (k+(sdecode s k).2))]:=by
       rw [← hE]
       show (match Nat.blt k s.length with
        |true=>Ev.ok none (.tuple [.bool true,DV.int .i64 ((k:Nat)),.int .i32 ((sdecode s k).1:Nat)]) [(36,.siter s (k+(sdecode s k).2))]
        |false=>Ev.ok none (.tuple [.bool false]) [])=_
       rw [hb]
      subst this
      clear hE
      cases hd:isD (s.getD k 0) with
      |true =>
       rw [rune_yes s k hd]
       dsimp only
       have hd2:=(isD_iff _).1 hd
       have hst:valD (s.take (k+1)) 0=10 * valD (s.take k) 0+(((s.getD k 0).toNat:Int) - 48):=by
        rw [take_snoc s k 0 hk,valD_append];rfl
       have hall:(s.take (k+1)).all isD=true:=by
        rw [take_snoc s k 0 hk,List.all_append,h2,List.all_cons,hd];rfl
       have hv:=valD_bd (s.take k) 0 0 h2 (Int.le_refl _) (by decide)
       have hp:(10:Int) ^ (0+(s.take k).length)≤10 ^ 9:=by
        have:(10:Nat) ^ (0+(s.take k).length)≤10 ^ 9:=Nat.pow_le_pow_right (by decide) (by simp;omega)
        exact_mod_cast this
       have hp9:(10:Int) ^ 9=1000000000:=by decide
       generalize hcc:(s.getD k 0).toNat=c at *
       generalize hV':valD (s.take (k+1)) 0=V' at *
       generalize hV:valD (s.take k) 0=V at *
       conv=>whnf
       repeat' (first
        |(refine ⟨fun hg=>?_,fun hg=>?_⟩<;>first|contradiction|(replace hg:=of_decide_eq_true hg;first|(exfalso;omega;done)|(conv=>whnf))|(replace hg:=of_decide_eq_false hg;first|(exfalso;omega;done)|(conv=>whnf))|(skip;conv=>whnf)|(conv=>whnf))
        |(refine Or.inl ?_;conv=>whnf)
        |(refine And.intro ?_ ?_;kernel_rfl;conv=>whnf))
       have ew:IntKind.i64.wrap (IntKind.i64.wrap (10 * V)+IntKind.i64.wrap (IntKind.i32.wrap ((c:Int) - 48)))=V':=by
        rw [hst,wrap_i32 (by omega) (by omega),wrap_in (n:=(c:Int) - 48) (by omega) (by omega),wrap_in (n:=10 * V) (by omega) (by omega),wrap_in (by omega) (by omega)]
       rw [ew]
       exact ⟨k+1,rfl,by rw [hV'];rfl,rfl,⟨hk,hall⟩,by omega⟩
      |false =>
       have hr:=rune_no s k hd
       have hno:s.all isD=false:=all_noD s k hk hd
       rw [digS_no hno] at hN hW
       subst hN;subst hW
       generalize (sdecode s k).1=r at *
       generalize (sdecode s k).2=q at *
       generalize hV:valD (s.take k) 0=V at *
       conv=>whnf
       repeat' (first
        |(refine ⟨fun hg=>?_,fun hg=>?_⟩<;>first|contradiction|(replace hg:=of_decide_eq_true hg;first|(exfalso;omega;done)|(conv=>whnf))|(replace hg:=of_decide_eq_false hg;first|(exfalso;omega;done)|(conv=>whnf))|(skip;conv=>whnf)|(conv=>whnf))
        |(refine Or.inl ?_;conv=>whnf)
        |(refine And.intro ?_ ?_;kernel_rfl;conv=>whnf))
       all_goals first|exact ⟨rfl,rfl⟩|rfl
     ·have hks:k=s.length:=by omega
      have hb:Nat.blt k s.length=false:=by
       cases h:Nat.blt k s.length with
       |false=>rfl
       |true=>exact absurd (Nat.le_of_ble_eq_true h) hk
      have hds:digS s=(valD s 0,true):=by
       rw [hks,List.take_length] at h2
       unfold digS;rw [hok,h2];rfl
      rw [hds] at hN hW
      subst hN;subst hW
      conv=>whnf
      generalize hE:evalOp _ _ _ _=E
      have:E=.ok none (.tuple [.bool false]) []:=by
       rw [← hE]
       show (match Nat.blt k s.length with
        |true=>Ev.ok none (.tuple [.bool true,DV.int .i64 ((k:Nat)),.int .i32 ((sdecode s k).1:Nat)]) [(36,.siter s (k+(sdecode s k).2))]
        |false=>Ev.ok none (.tuple [.bool false]) [])=_
       rw [hb]
      subst this
      clear hE
      rw [hks,List.take_length]
      conv=>whnf
      repeat (first|(refine ⟨fun hg=>absurd hg (by decide),fun _=>?_⟩;conv=>whnf)|(refine ⟨fun _=>?_,fun hg=>absurd hg (by decide)⟩;conv=>whnf))
      exact ⟨rfl,rfl⟩
   ·have g3:(9:Int) < (s.length:Int):=of_decide_eq_true g3
    conv=>whnf
    repeat (first|(refine ⟨fun hg=>absurd hg (by decide),fun _=>?_⟩;conv=>whnf)|(refine ⟨fun _=>?_,fun hg=>absurd hg (by decide)⟩;conv=>whnf))
    obtain ⟨hN,hW⟩:=hbadT (.inr (by unfold badD;rw [decide_eq_true (show 9 < s.length by omega)];simp))
    subst hN;subst hW
    refine dwp_loopU (P:=Tryz.prog) (G:=GC) (k:=dk142_0) (b:=db142_0) (α:=Nat) (fun k=>[(4,DV.int .i64 (0))]) (fun k=>[(1,takO D true),(36,.siter s 0)]) (fun k=>k=0) (fun k=>1 - k) 0 rfl ?_
    conv=>whnf
    refine ⟨rfl,rfl,?_⟩
    conv=>whnf
    refine ⟨rfl,?_⟩
    intro k hk
    cases s with
    |nil =>
     conv=>whnf
     repeat (first|(refine ⟨fun hg=>absurd hg (by decide),fun _=>?_⟩;conv=>whnf)|(refine ⟨fun _=>?_,fun hg=>absurd hg (by decide)⟩;conv=>whnf))
     exact ⟨rfl,rfl⟩
    |cons c r =>
     conv=>whnf
     repeat (first|(refine ⟨fun hg=>absurd hg (by decide),fun _=>?_⟩;conv=>whnf)|(refine ⟨fun _=>?_,fun hg=>absurd hg (by decide)⟩;conv=>whnf))
     exact ⟨rfl,rfl⟩
  ·have g2:s=[]:=of_decide_eq_true g2
   conv=>whnf
   repeat (first|(refine ⟨fun hg=>absurd hg (by decide),fun _=>?_⟩;conv=>whnf)|(refine ⟨fun _=>?_,fun hg=>absurd hg (by decide)⟩;conv=>whnf))
   obtain ⟨hN,hW⟩:=hbadT (.inr (by unfold badD;rw [decide_eq_true g2];simp))
   subst hN;subst hW
   refine dwp_loopU (P:=Tryz.prog) (G:=GC) (k:=dk142_0) (b:=db142_0) (α:=Nat) (fun k=>[(4,DV.int .i64 (0))]) (fun k=>[(1,takO D true),(36,.siter s 0)]) (fun k=>k=0) (fun k=>1 - k) 0 rfl ?_
   conv=>whnf
   refine ⟨rfl,rfl,?_⟩
   conv=>whnf
   refine ⟨rfl,?_⟩
   intro k hk
   cases s with
   |nil =>
    conv=>whnf
    repeat (first|(refine ⟨fun hg=>absurd hg (by decide),fun _=>?_⟩;conv=>whnf)|(refine ⟨fun _=>?_,fun hg=>absurd hg (by decide)⟩;conv=>whnf))
    exact ⟨rfl,rfl⟩
   |cons c r =>
    conv=>whnf
    repeat (first|(refine ⟨fun hg=>absurd hg (by decide),fun _=>?_⟩;conv=>whnf)|(refine ⟨fun _=>?_,fun hg=>absurd hg (by decide)⟩;conv=>whnf))
    exact ⟨rfl,rfl⟩
 ·have g1:B=true:=g1
  conv=>whnf
  repeat (first|(refine ⟨fun hg=>absurd hg (by decide),fun _=>?_⟩;conv=>whnf)|(refine ⟨fun _=>?_,fun hg=>absurd hg (by decide)⟩;conv=>whnf))
  obtain ⟨hN,hW⟩:=hbadT (.inl g1)
  subst hN;subst hW
  refine dwp_loopU (P:=Tryz.prog) (G:=GC) (k:=dk142_0) (b:=db142_0) (α:=Nat) (fun k=>[(4,DV.int .i64 (0))]) (fun k=>[(1,takO D true),(36,.siter s 0)]) (fun k=>k=0) (fun k=>1 - k) 0 rfl ?_
  conv=>whnf
  refine ⟨rfl,rfl,?_⟩
  conv=>whnf
  refine ⟨rfl,?_⟩
  intro k hk
  cases s with
  |nil =>
   conv=>whnf
   repeat (first|(refine ⟨fun hg=>absurd hg (by decide),fun _=>?_⟩;conv=>whnf)|(refine ⟨fun _=>?_,fun hg=>absurd hg (by decide)⟩;conv=>whnf))
   exact ⟨rfl,rfl⟩
  |cons c r =>
   conv=>whnf
   repeat (first|(refine ⟨fun hg=>absurd hg (by decide),fun _=>?_⟩;conv=>whnf)|(refine ⟨fun _=>?_,fun hg=>absurd hg (by decide)⟩;conv=>whnf))
   exact ⟨rfl,rfl⟩
end Sh

namespace Sh
open Go Go.Proofs
def lns (s:List UInt8):List (List DV):=(linesC s).map fun l=>[DV.str l]
theorem linesIt (s:List UInt8) (hs:s.length < 1073741824):ISeqW Tryz.prog GC 159 [.bptr 19 0] [(19,.box 1 (.str s))] (lns s):=by
 refine iseqW_of dh159 rfl rfl (by kernel_rfl) rfl (fun x hx=>by obtain ⟨v,_,rfl⟩:=List.mem_map.1 hx;rfl) (fun gl=>?_)
 conv=>whnf
 refine dwp_loopY (P:=Tryz.prog) (G:=GC) (k:=dk159_0) (b:=db159_0) (α:=List UInt8) (fun r=>[(0,.dict 0),(1,.bptr 19 0)]) (fun r=>[(0,.ghost (lns r) true gl),(19,.box 1 (.str r))]) (fun r=>r.length < 1073741824) (fun r=>r.length) s ⟨rfl,rfl,rfl⟩ hs ?_
 intro r hr
 conv=>whnf
 refine ⟨fun hb=>?_,fun hb=>?_⟩
 ·have hl:0 < r.length:=by have:(0:Int) < r.length:=of_decide_eq_true hb;omega
  clear hb
  have hix:=lines_idx r (List.length_pos_iff.1 hl)
  conv=>whnf
  repeat' (first
   |(refine ⟨fun hg=>?_,fun hg=>?_⟩<;>first|contradiction|(conv=>whnf))
   |(refine Or.inl ?_;conv=>whnf)
   |(refine ⟨_,s_IndexByte r 10,?_⟩;conv=>whnf)
   |(refine And.intro ?_ ?_;kernel_rfl;conv=>whnf))
  ·have hg:0≤Lib.indexByte r 10:=of_decide_eq_true hg
   obtain ⟨i,h1,h2,h3⟩:∃ i:Nat,Lib.indexByte r 10=i∧i < r.length∧linesC r=r.take (i+1) :: linesC (r.drop (i+1)):=by
    rcases hix with ⟨h1,_⟩|h
    ·omega
    ·exact h
   have hL:lns r=[DV.str (r.take (i+1))] :: lns (r.drop (i+1)):=by unfold lns;rw [h3];rfl
   have hdl:(r.drop (i+1)).length < r.length:=by simp;omega
   rw [hL,h1,wrap_succ i (by omega)]
   refine ⟨⟨by decide,by omega,by omega⟩,?_⟩
   rw [show (((i+1:Nat):Int) - 0).toNat=i+1 by omega,show Int.toNat 0=0 from rfl,window_take r (i+1) (by omega)]
   conv=>whnf
   rw [wrap_succ i (by omega)]
   refine ⟨⟨by omega,by omega,by omega⟩,?_⟩
   rw [show ((r.length:Int) - ((i+1:Nat):Int)).toNat=r.length - (i+1) by omega,Int.toNat_natCast,window_drop]
   conv=>whnf
   generalize r.take (i+1)=u at *
   generalize r.drop (i+1)=q at *
   refine ⟨?_,?_⟩
   ·kernel_rfl
   conv=>whnf
   refine ⟨rfl,fun b=>?_⟩
   conv=>whnf
   refine ⟨fun hg=>?_,fun hg=>?_⟩
   ·have hg:b=false:=by simpa using hg
    subst hg
    conv=>whnf
    intro e;cases e
   ·have hg:b=true:=by simpa using hg
    subst hg
    conv=>whnf
    exact ⟨q,rfl,rfl,rfl,by omega,hdl⟩
  ·have hg:¬ 0≤Lib.indexByte r 10:=of_decide_eq_false hg
   have h3:linesC r=[r]:=by
    rcases hix with ⟨_,h⟩|⟨i,h1,_⟩
    ·exact h
    ·omega
   have hL:lns r=[DV.str r] :: lns []:=by unfold lns;rw [h3];rfl
   rw [hL]
   refine ⟨rfl,fun b=>?_⟩
   conv=>whnf
   refine ⟨fun hg=>?_,fun hg=>?_⟩
   ·have hg:b=false:=by simpa using hg
    subst hg
    conv=>whnf
    intro e;cases e
   ·have hg:b=true:=by simpa using hg
    subst hg
    conv=>whnf
    exact ⟨[],rfl,rfl,rfl,by simp,hl⟩
 ·have hl:r=[]:=by have:¬ (0:Int) < r.length:=of_decide_eq_false hb;exact List.eq_nil_of_length_eq_zero (by omega)
  subst hl
  conv=>whnf
  intro _
  rfl
theorem s_Lines (s:List UInt8):HCall Tryz.prog GC 138 [.str s] [] (.func 159 [.bptr 1 0]) [(1,.box 1 (.str s))]:=by
 refine hCall_ofR dh138 rfl (by kernel_rfl) (by kernel_rfl) ?_
 conv=>whnf
 exact ⟨rfl,rfl⟩
theorem rounds_invI {body:(DExit→SP)→SP} {kh ps:List Nat} {Q:DExit→SP} {t:Tmps} {xs:List (List DV)} (H:Nat→Heap) (inv:Nat→Prop) (h0:inv 0)
  (mono:∀ (R R':DExit→SP) (t:Tmps) (s:Heap),(∀ e t s,R e t s→R' e t s)→body R t s→body R' t s)
  (step:∀ i x,xs[i]?=some x→inv i→body (fun e _ h'=>boxesOk kh (hlook h') kh=true∧match e with
    |.normal=>keepH kh (hlook h') kh=H (i+1)∧inv (i+1)
    |e=>Q e t (keepH kh (hlook h') kh)) (setPs ps x t) (H i))
  (fin:inv xs.length→Q .normal t (H xs.length)):roundsN body kh ps Q t xs (H 0):=by
 have key:∀ (r:List (List DV)) (i:Nat),i≤xs.length→xs.drop i=r→inv i→roundsN body kh ps Q t r (H i):=by
  intro r
  induction r with
  |nil =>
   intro i hl hi hv
   have hle:xs.length≤i:=List.drop_eq_nil_iff.1 hi
   have e:i=xs.length:=by omega
   subst e;exact fin hv
  |cons x r ih =>
   intro i hl hi hv
   have hx:xs[i]?=some x:=by
    have:=congrArg (fun l=>l[0]?) hi
    simpa using this
   unfold roundsN
   refine mono _ _ _ _ (fun e t' s' hh=>⟨hh.1,?_⟩) (step i x hx hv)
   have hh2:=hh.2
   cases e with
   |normal =>
    simp only at hh2 ⊢
    rw [hh2.1]
    refine ih (i+1) (List.getElem?_eq_some_iff.1 hx).1 ?_ hh2.2
    have:=congrArg (List.drop 1) hi
    simpa [List.drop_drop,Nat.add_comm] using this
   |ret=>exact hh2
   |exit j=>exact hh2
 exact key xs 0 (Nat.zero_le _) rfl h0
theorem range_WI {P:Program} {G:Nat→Option DV} {g:FuncId} {n sz:Nat} {d:DV} {k:Keep} {ps:List Nat} {Q:DExit→SP} {t:Tmps} {h:Heap} {x y:DC} (xs:List (List DV)) (H:Nat→Heap) (T:Tmps) (inv:Nat→Prop) (h0:inv 0) (hi:ISeqW P G g [.bptr n 0] [(n,.box sz d)] xs)
  (hp:hlook h n=some (.box sz d)∧pureB d=true) (hn:n≠0) (hk:memB n k.kh=false∧freeOf n h=true) (hl:∀ z ∈ xs,z.length=ps.length)
  (hb:boxesOk k.kh (hlook (cutH n h)) k.kh=true) (hv:livH (keepH k.kh (hlook (cutH n h)) k.kh)=true) (hT:keepT k.kh (hlook (cutH n h)) (cutT n t) k.kt=T) (hH:keepH k.kh (hlook (cutH n h)) k.kh=H 0)
  (step:∀ i z,xs[i]?=some z→inv i→dwpR P G x (seqQ (dwpR P G y (fun e _ h'=>boxesOk k.kh (hlook h') k.kh=true∧match e with
    |.normal=>keepH k.kh (hlook h') k.kh=H (i+1)∧inv (i+1)
    |e=>Q e T (keepH k.kh (hlook h') k.kh))) (fun _ _ _=>False)) (setPs ps z T) (H i))
  (fin:inv xs.length→Q .normal T (H xs.length)):rangeWp P G (fun R=>dwpR P G x (seqQ (dwpR P G y R) (fun _ _ _=>False))) k ps Q (.func g [.bptr n 0]) t h:=by
 unfold rangeWp
 refine .inr ⟨n,sz,d,xs,⟨by simp [capsB],hp.1,hp.2,hn,hk.1,hk.2⟩,hi,hl,hb,hv,?_⟩
 rw [hT,hH]
 refine rounds_invI H inv h0 (fun R R' t s hr hb=>?_) step fin
 rw [dwpR_eq,dwpR_eq] at *
 refine dwp_mono (fun e t s hh=>?_) hb
 cases e with
 |normal=>exact dwp_mono hr hh
 |ret=>exact hh
 |exit i=>exact hh
end Sh

namespace Sh
open Go Go.Proofs
def encPar (r:List Dy×Int×Int):DV:=.tuple [dysV r.1,DV.int .i64 (r.2.1),DV.int .i64 (r.2.2)]
theorem c_numK (D:List (List UInt8)) (k:Nat) (h:∀ w ∈ D,w.length < 1073741824):HCall Tryz.prog GC 142 [.bptr 1 0] [(1,takO (D.drop k) (wrK D k))] (DV.int .i64 (numK D k)) [(1,takO (D.drop (k+1)) (wrK D (k+1)))]:=by
 have:=c_number (D.drop k) (wrK D k) (fun w hw=>h w (List.mem_of_mem_drop hw))
 rw [List.drop_drop] at this
 exact this
def oSW (rows:List (List UInt8)) (i:Nat):List DV:=(outG dayW rows i).map encD
def paH (rows:List (List UInt8)):Nat→Heap
 |0=>[(2,.box 1 (.full [])),(3,.box 1 (DV.int .i64 (0))),(4,.box 1 (DV.int .i64 (0))),(5,.box 1 (.full []))]
 |i+1=>[(2,.box 1 (.full [])),(3,.box 1 (DV.int .i64 (0))),(4,.box 1 (DV.int .i64 (0))),(5,.box 1 (.own 71 0 (oSW rows (i+1)).length (oSW rows (i+1)).length)),(71,.row 3 (oSW rows (i+1)) false)]
set_option maxHeartbeats 1000000 in
theorem c_Parse (s:List UInt8) (hs:s.length≤4097):PC 77 [.str s] (encPar (parDs s)):=by
 refine pureCall_ofR dh77 rfl ?_
 conv=>whnf
 refine ⟨fun hg=>?_,fun hg=>?_⟩
 ·have hg:(4096:Int) < s.length:=of_decide_eq_true hg
  conv=>whnf
  unfold parDs parG
  rw [if_pos (by omega)];rfl
 ·have hg:¬ (4096:Int) < s.length:=of_decide_eq_false hg
  have hl:=splitC_len 10 s
  have hn:=splitC_ne 10 s
  have hno:=splitC_not 10 s
  have hls:=lines_split s
  conv=>whnf
  refine .inr ⟨[(1,19)],_,_,_,_,s_Lines s,⟨rfl,by kernel_rfl,?_,?_⟩,?_⟩
  ·exact trivial
  ·exact ⟨.inr rfl,trivial⟩
  conv=>whnf
  generalize hr:splitC 10 s=rows at *
  obtain ⟨m,hm⟩:∃ m,rows.length=m+1:=⟨rows.length - 1,by have:=List.length_pos_iff.2 hn;omega⟩
  have hbad:∀ i,parEG wrongD rows m 0=some i→parDs s=([],(i:Int),25):=fun i he=>parG_bad (by omega) hr hm he
  have hok:parEG wrongD rows m 0=none→_:=fun he=>parG_ok (rd:=dayW) (chk:=chkDs) (by omega) hr hm he
  have hll:=linesOf_len rows m hm
  rw [show parG wrongD dayW chkDs s=parDs s from rfl] at hok
  generalize parDs s=R at *
  refine range_WI (P:=Tryz.prog) (G:=GC) (x:=db77_0x) (y:=db77_0) (k:=dk77_0) (lns s) (paH rows) [(2,.bptr 2 0),(3,.bptr 3 0),(4,.bptr 4 0),(5,.bptr 5 0)] (fun i=>i≤m∧parEG wrongD rows m 0=parEG wrongD rows (m - i) i) ⟨Nat.zero_le _,rfl⟩ (linesIt s (by omega)) ⟨rfl,rfl⟩ (by decide) ⟨rfl,rfl⟩ (fun z hz=>by obtain ⟨v,_,rfl⟩:=List.mem_map.1 hz;rfl) rfl rfl rfl rfl ?_ ?_
  ·intro i z hz ⟨h1,h2⟩
   obtain ⟨L,hz0,rfl,hc1,hc2,hL4⟩:∃ L,(linesOf rows)[i]?=some L∧z=[DV.str L]∧Lib.trimSuffix L [10]=rows.getD i []∧Lib.hasSuffix L [10]=decide (i < m)∧L.length≤1073741824:=by
    unfold lns at hz
    rw [hls,List.getElem?_map,Option.map_eq_some_iff] at hz
    obtain ⟨L,hz1,rfl⟩:=hz
    have hgd:(linesOf rows).getD i []=L:=by rw [List.getD_eq_getElem?_getD,hz1];rfl
    have hil:=(List.getElem?_eq_some_iff.1 hz1).1
    have hrl:(rows.getD i []).length≤s.length:=hl.2 _ (getD_in [] (by omega))
    refine ⟨L,hz1,rfl,?_⟩
    by_cases hi:i < m
    ·rw [linesOf_get rows m i hm hi] at hgd
     subst hgd
     rw [decide_eq_true hi]
     exact ⟨(cut_yes _).1,(cut_yes _).2,by rw [List.length_append];show _+1≤_;omega⟩
    ·have hi:i=m:=by omega
     subst hi
     have hne:rows.getD i []≠[]:=fun e=>by rw [if_pos e] at hll;omega
     rw [linesOf_last rows i hm hne] at hgd
     subst hgd
     have:=cut_no _ (hno _ (getD_in [] (show i < rows.length by omega)))
     rw [decide_eq_false hi]
     exact ⟨this.1,this.2,by omega⟩
   clear hz
   have hrl:(rows.getD i []).length≤s.length:=hl.2 _ (getD_in [] (by omega))
   rcases i with _|i
   ·obtain ⟨w0,D,hw⟩:∃ w0 D,splitC 32 (rows.getD 0 [])=w0 :: D:=by
     cases h:splitC 32 (rows.getD 0 []) with
     |nil=>exact absurd h (splitC_ne _ _)
     |cons a r=>exact ⟨a,r,rfl⟩
    have hwl:=splitC_len 32 (rows.getD 0 [])
    rw [hw] at hwl
    have hWw:∀ x ∈ w0 :: D,x.length < 1073741824:=fun x hx=>by have:=hwl.2 x hx;omega
    have hDw:∀ x ∈ D,x.length < 1073741824:=fun x hx=>hWw x (List.mem_cons_of_mem _ hx)
    have hwr:=wrongD_read w0 D
    have hO:wrK D 3=false→oSW rows (0+1)=oSW rows 0++[encD ⟨numK D 0,numK D 1,numK D 2⟩]:=fun h=>by
     unfold oSW
     rw [outG_succ dayW rows 0 (by omega),hw,hwr.2 h,List.map_append];rfl
    have hgo:0 < m→wrongD (w0 :: D)=false→0+1≤m∧parEG wrongD rows m 0=parEG wrongD rows (m - (0+1)) (0+1):=fun h e=>⟨h,h2.trans (parEG_step rows m _ h (by rw [hw];exact e))⟩
    have hRw:0 < m→wrongD (w0 :: D)=true→R=([],((0:Nat):Int),25):=fun h e=>hbad _ (h2.trans (parEG_at rows m _ h (by rw [hw];exact e)))
    have hRn:¬ 0 < m→R=([],((0:Nat):Int),25):=fun h=>by
     have e:0=m:=by omega
     have h3:parEG wrongD rows m 0=none:=by rw [h2,← e,Nat.sub_self];rfl
     have h4:=(List.getElem?_eq_some_iff.1 hz0).1
     have h5:rows.getD m []≠[]:=fun h6=>by rw [if_pos h6] at hll;omega
     have h6:=hok h3
     rw [if_pos h5] at h6
     rw [h6,e]
    have hol:(oSW rows 0).length=0:=by unfold oSW;rw [List.length_map,outG_len dayW rows 0 (by omega)]
    have hwr2:=hwr.1
    have hdl:((D.drop 3).map DV.str).length=D.length - 3:=by simp
    conv=>whnf
    refine .inl ?_
    conv=>whnf
    refine ⟨_,s_CutSuffix L [10] hL4,?_⟩
    conv=>whnf
    rw [hc1,hc2]
    conv=>whnf
    refine .inl ?_
    conv=>whnf
    refine ⟨_,s_Split (rows.getD 0 []) 32 (by omega),?_⟩
    conv=>whnf
    rw [hw]
    conv=>whnf
    refine .inr ⟨[(1,29)],_,_,_,_,h_word (w0 :: D) false hWw,⟨rfl,by kernel_rfl,?_,?_⟩,?_⟩
    ·exact ⟨rfl,trivial⟩
    ·exact ⟨.inl rfl,trivial⟩
    conv=>whnf
    refine .inr ⟨[(1,29)],_,_,_,_,c_numK D 0 hDw,⟨rfl,by kernel_rfl,?_,?_⟩,?_⟩
    ·exact ⟨rfl,trivial⟩
    ·exact ⟨.inl rfl,trivial⟩
    conv=>whnf
    refine .inr ⟨[(1,29)],_,_,_,_,c_numK D 1 hDw,⟨rfl,by kernel_rfl,?_,?_⟩,?_⟩
    ·exact ⟨rfl,trivial⟩
    ·exact ⟨.inl rfl,trivial⟩
    conv=>whnf
    refine .inr ⟨[(1,29)],_,_,_,_,c_numK D 2 hDw,⟨rfl,by kernel_rfl,?_,?_⟩,?_⟩
    ·exact ⟨rfl,trivial⟩
    ·exact ⟨.inl rfl,trivial⟩
    conv=>whnf
    generalize numK D 0=n0 at *
    generalize numK D 1=n1 at *
    generalize numK D 2=n2 at *
    generalize hwk:wrK D 3=W at *
    refine ⟨fun g1=>?_,fun g1=>?_⟩
    ·have g1:0 < m:=by
      have g1:(!decide (0 < m))=false:=g1
      rw [Bool.not_eq_false'] at g1
      exact of_decide_eq_true g1
     conv=>whnf
     refine ⟨fun g2=>?_,fun g2=>?_⟩
     ·have g2:w0=dayB:=by
       have g2:(!decide (w0=dayB))=false:=g2
       rw [Bool.not_eq_false'] at g2
       exact of_decide_eq_true g2
      conv=>whnf
      refine ⟨fun g3=>?_,fun g3=>?_⟩
      ·have g3:W=false:=g3
       conv=>whnf
       refine ⟨fun g4=>?_,fun g4=>?_⟩
       ·have g4:(0:Int) < (((D.drop 3).map DV.str).length:Nat):=of_decide_eq_true g4
        rw [hRw g1 (by rw [hwr2,decide_eq_true (show 0 < D.length - 3 by omega),Bool.or_true])]
        conv=>whnf
        repeat (first|(refine ⟨fun hg=>absurd hg (by decide),fun _=>?_⟩;conv=>whnf)|(refine ⟨fun _=>?_,fun hg=>absurd hg (by decide)⟩;conv=>whnf))
        repeat' (first
         |(refine ⟨fun hg=>?_,fun hg=>?_⟩<;>first|contradiction|(conv=>whnf))
         |(refine Or.inl ?_;conv=>whnf)
         |(refine ⟨rfl,?_⟩;conv=>whnf)
         |(refine And.intro ?_ ?_;kernel_rfl;conv=>whnf))
        first|rfl|(rw [hol];rfl)
       ·have g4:¬ (0:Int) < (((D.drop 3).map DV.str).length:Nat):=of_decide_eq_false g4
        have hgood:=hgo g1 (by rw [hwr2,g3,g2,decide_eq_false (show ¬ 0 < D.length - 3 by omega)];rfl)
        have hO:=hO g3
        conv=>whnf
        refine ⟨⟨by simp,fun e he=>by simp at he;subst he;rfl,fun e he=>by simp at he,.inl rfl⟩,?_⟩
        conv=>whnf
        refine ⟨rfl,?_,hgood⟩
        show _=[(2,_),(3,_),(4,_),(5,DObj.box 1 (.own 71 0 (oSW rows (0+1)).length (oSW rows (0+1)).length)),(71,.row 3 (oSW rows (0+1)) false)]
        rw [hO]
        rfl
      ·have g3:W=true:=by
        have g3:W=!false:=g3
        exact g3
       rw [hRw g1 (by rw [hwr2,g3];simp)]
       conv=>whnf
       repeat (first|(refine ⟨fun hg=>absurd hg (by decide),fun _=>?_⟩;conv=>whnf)|(refine ⟨fun _=>?_,fun hg=>absurd hg (by decide)⟩;conv=>whnf))
       repeat' (first
        |(refine ⟨fun hg=>?_,fun hg=>?_⟩<;>first|contradiction|(conv=>whnf))
        |(refine Or.inl ?_;conv=>whnf)
        |(refine ⟨rfl,?_⟩;conv=>whnf)
        |(refine And.intro ?_ ?_;kernel_rfl;conv=>whnf))
       first|rfl|(rw [hol];rfl)
     ·have g2:¬ w0=dayB:=by
       have g2:(!decide (w0=dayB))=!false:=g2
       have g2:=(Bool.not_eq_true' _).mp (by rw [g2];rfl)
       exact of_decide_eq_false g2
      rw [hRw g1 (by rw [hwr2,decide_eq_false g2];rfl)]
      conv=>whnf
      repeat (first|(refine ⟨fun hg=>absurd hg (by decide),fun _=>?_⟩;conv=>whnf)|(refine ⟨fun _=>?_,fun hg=>absurd hg (by decide)⟩;conv=>whnf))
      repeat' (first
       |(refine ⟨fun hg=>?_,fun hg=>?_⟩<;>first|contradiction|(conv=>whnf))
       |(refine Or.inl ?_;conv=>whnf)
       |(refine ⟨rfl,?_⟩;conv=>whnf)
       |(refine And.intro ?_ ?_;kernel_rfl;conv=>whnf))
      first|rfl|(rw [hol];rfl)
    ·have g1:¬ 0 < m:=by
      have g1:(!decide (0 < m))=!false:=g1
      have g1:=(Bool.not_eq_true' _).mp (by rw [g1];rfl)
      exact of_decide_eq_false g1
     rw [hRn g1]
     conv=>whnf
     repeat (first|(refine ⟨fun hg=>absurd hg (by decide),fun _=>?_⟩;conv=>whnf)|(refine ⟨fun _=>?_,fun hg=>absurd hg (by decide)⟩;conv=>whnf))
     repeat' (first
      |(refine ⟨fun hg=>?_,fun hg=>?_⟩<;>first|contradiction|(conv=>whnf))
      |(refine Or.inl ?_;conv=>whnf)
      |(refine ⟨rfl,?_⟩;conv=>whnf)
      |(refine And.intro ?_ ?_;kernel_rfl;conv=>whnf))
     first|rfl|(rw [hol];rfl)
   ·obtain ⟨w0,D,hw⟩:∃ w0 D,splitC 32 (rows.getD (i+1) [])=w0 :: D:=by
     cases h:splitC 32 (rows.getD (i+1) []) with
     |nil=>exact absurd h (splitC_ne _ _)
     |cons a r=>exact ⟨a,r,rfl⟩
    have hwl:=splitC_len 32 (rows.getD (i+1) [])
    rw [hw] at hwl
    have hWw:∀ x ∈ w0 :: D,x.length < 1073741824:=fun x hx=>by have:=hwl.2 x hx;omega
    have hDw:∀ x ∈ D,x.length < 1073741824:=fun x hx=>hWw x (List.mem_cons_of_mem _ hx)
    have hwr:=wrongD_read w0 D
    have hO:wrK D 3=false→oSW rows ((i+1)+1)=oSW rows (i+1)++[encD ⟨numK D 0,numK D 1,numK D 2⟩]:=fun h=>by
     unfold oSW
     rw [outG_succ dayW rows (i+1) (by omega),hw,hwr.2 h,List.map_append];rfl
    have hgo:(i+1) < m→wrongD (w0 :: D)=false→(i+1)+1≤m∧parEG wrongD rows m 0=parEG wrongD rows (m - ((i+1)+1)) ((i+1)+1):=fun h e=>⟨h,h2.trans (parEG_step rows m _ h (by rw [hw];exact e))⟩
    have hRw:(i+1) < m→wrongD (w0 :: D)=true→R=([],(((i+1):Nat):Int),25):=fun h e=>hbad _ (h2.trans (parEG_at rows m _ h (by rw [hw];exact e)))
    have hRn:¬ (i+1) < m→R=([],(((i+1):Nat):Int),25):=fun h=>by
     have e:(i+1)=m:=by omega
     have h3:parEG wrongD rows m 0=none:=by rw [h2,← e,Nat.sub_self];rfl
     have h4:=(List.getElem?_eq_some_iff.1 hz0).1
     have h5:rows.getD m []≠[]:=fun h6=>by rw [if_pos h6] at hll;omega
     have h6:=hok h3
     rw [if_pos h5] at h6
     rw [h6,e]
    have hol:(oSW rows (i+1)).length=(i+1):=by unfold oSW;rw [List.length_map,outG_len dayW rows (i+1) (by omega)]
    have hwr2:=hwr.1
    have hdl:((D.drop 3).map DV.str).length=D.length - 3:=by simp
    conv=>whnf
    refine .inl ?_
    conv=>whnf
    refine ⟨_,s_CutSuffix L [10] hL4,?_⟩
    conv=>whnf
    rw [hc1,hc2]
    conv=>whnf
    refine .inl ?_
    conv=>whnf
    refine ⟨_,s_Split (rows.getD (i+1) []) 32 (by omega),?_⟩
    conv=>whnf
    rw [hw]
    conv=>whnf
    refine .inr ⟨[(1,29)],_,_,_,_,h_word (w0 :: D) false hWw,⟨rfl,by kernel_rfl,?_,?_⟩,?_⟩
    ·exact ⟨rfl,trivial⟩
    ·exact ⟨.inl rfl,trivial⟩
    conv=>whnf
    refine .inr ⟨[(1,29)],_,_,_,_,c_numK D 0 hDw,⟨rfl,by kernel_rfl,?_,?_⟩,?_⟩
    ·exact ⟨rfl,trivial⟩
    ·exact ⟨.inl rfl,trivial⟩
    conv=>whnf
    refine .inr ⟨[(1,29)],_,_,_,_,c_numK D 1 hDw,⟨rfl,by kernel_rfl,?_,?_⟩,?_⟩
    ·exact ⟨rfl,trivial⟩
    ·exact ⟨.inl rfl,trivial⟩
    conv=>whnf
    refine .inr ⟨[(1,29)],_,_,_,_,c_numK D 2 hDw,⟨rfl,by kernel_rfl,?_,?_⟩,?_⟩
    ·exact ⟨rfl,trivial⟩
    ·exact ⟨.inl rfl,trivial⟩
    conv=>whnf
    generalize numK D 0=n0 at *
    generalize numK D 1=n1 at *
    generalize numK D 2=n2 at *
    generalize hwk:wrK D 3=W at *
    refine ⟨fun g1=>?_,fun g1=>?_⟩
    ·have g1:(i+1) < m:=by
      have g1:(!decide ((i+1) < m))=false:=g1
      rw [Bool.not_eq_false'] at g1
      exact of_decide_eq_true g1
     conv=>whnf
     refine ⟨fun g2=>?_,fun g2=>?_⟩
     ·have g2:w0=dayB:=by
       have g2:(!decide (w0=dayB))=false:=g2
       rw [Bool.not_eq_false'] at g2
       exact of_decide_eq_true g2
      conv=>whnf
      refine ⟨fun g3=>?_,fun g3=>?_⟩
      ·have g3:W=false:=g3
       conv=>whnf
       refine ⟨fun g4=>?_,fun g4=>?_⟩
       ·have g4:(0:Int) < (((D.drop 3).map DV.str).length:Nat):=of_decide_eq_true g4
        rw [hRw g1 (by rw [hwr2,decide_eq_true (show 0 < D.length - 3 by omega),Bool.or_true])]
        conv=>whnf
        repeat (first|(refine ⟨fun hg=>absurd hg (by decide),fun _=>?_⟩;conv=>whnf)|(refine ⟨fun _=>?_,fun hg=>absurd hg (by decide)⟩;conv=>whnf))
        repeat' (first
         |(refine ⟨fun hg=>?_,fun hg=>?_⟩<;>first|contradiction|(conv=>whnf))
         |(refine Or.inl ?_;conv=>whnf)
         |(refine ⟨rfl,?_⟩;conv=>whnf)
         |(refine And.intro ?_ ?_;kernel_rfl;conv=>whnf))
        first|rfl|(rw [hol];rfl)
       ·have g4:¬ (0:Int) < (((D.drop 3).map DV.str).length:Nat):=of_decide_eq_false g4
        have hgood:=hgo g1 (by rw [hwr2,g3,g2,decide_eq_false (show ¬ 0 < D.length - 3 by omega)];rfl)
        have hO:=hO g3
        conv=>whnf
        refine ⟨⟨rfl,rfl,rfl,by rw [hol];simp;omega,fun e he=>by simp at he;subst he;rfl⟩,?_⟩
        conv=>whnf
        refine ⟨rfl,?_,hgood⟩
        show _=[(2,_),(3,_),(4,_),(5,DObj.box 1 (.own 71 0 (oSW rows ((i+1)+1)).length (oSW rows ((i+1)+1)).length)),(71,.row 3 (oSW rows ((i+1)+1)) false)]
        rw [hO]
        rfl
      ·have g3:W=true:=by
        have g3:W=!false:=g3
        exact g3
       rw [hRw g1 (by rw [hwr2,g3];simp)]
       conv=>whnf
       repeat (first|(refine ⟨fun hg=>absurd hg (by decide),fun _=>?_⟩;conv=>whnf)|(refine ⟨fun _=>?_,fun hg=>absurd hg (by decide)⟩;conv=>whnf))
       repeat' (first
        |(refine ⟨fun hg=>?_,fun hg=>?_⟩<;>first|contradiction|(conv=>whnf))
        |(refine Or.inl ?_;conv=>whnf)
        |(refine ⟨rfl,?_⟩;conv=>whnf)
        |(refine And.intro ?_ ?_;kernel_rfl;conv=>whnf))
       first|rfl|(rw [hol];rfl)
     ·have g2:¬ w0=dayB:=by
       have g2:(!decide (w0=dayB))=!false:=g2
       have g2:=(Bool.not_eq_true' _).mp (by rw [g2];rfl)
       exact of_decide_eq_false g2
      rw [hRw g1 (by rw [hwr2,decide_eq_false g2];rfl)]
      conv=>whnf
      repeat (first|(refine ⟨fun hg=>absurd hg (by decide),fun _=>?_⟩;conv=>whnf)|(refine ⟨fun _=>?_,fun hg=>absurd hg (by decide)⟩;conv=>whnf))
      repeat' (first
       |(refine ⟨fun hg=>?_,fun hg=>?_⟩<;>first|contradiction|(conv=>whnf))
       |(refine Or.inl ?_;conv=>whnf)
       |(refine ⟨rfl,?_⟩;conv=>whnf)
       |(refine And.intro ?_ ?_;kernel_rfl;conv=>whnf))
      first|rfl|(rw [hol];rfl)
    ·have g1:¬ (i+1) < m:=by
      have g1:(!decide ((i+1) < m))=!false:=g1
      have g1:=(Bool.not_eq_true' _).mp (by rw [g1];rfl)
      exact of_decide_eq_false g1
     rw [hRn g1]
     conv=>whnf
     repeat (first|(refine ⟨fun hg=>absurd hg (by decide),fun _=>?_⟩;conv=>whnf)|(refine ⟨fun _=>?_,fun hg=>absurd hg (by decide)⟩;conv=>whnf))
     repeat' (first
      |(refine ⟨fun hg=>?_,fun hg=>?_⟩<;>first|contradiction|(conv=>whnf))
      |(refine Or.inl ?_;conv=>whnf)
      |(refine ⟨rfl,?_⟩;conv=>whnf)
      |(refine And.intro ?_ ?_;kernel_rfl;conv=>whnf))
     first|rfl|(rw [hol];rfl)
  ·intro ⟨h1,h2⟩
   have hlen:(lns s).length=(linesOf rows).length:=by unfold lns;rw [List.length_map,hls]
   have hz:rows.getD m []=[]:=by
    by_cases hz:rows.getD m []=[]
    ·exact hz
    ·rw [if_neg hz] at hll;omega
   rw [if_pos hz,Nat.add_zero] at hll
   rw [hlen,hll] at h2
   rw [hlen,hll]
   have hR:=hok (h2.trans (by rw [Nat.sub_self];rfl))
   rw [if_neg (fun h=>h hz)] at hR
   have hol:=outG_len dayW rows m (by omega)
   clear hok h2 h1 hlen hbad hll hls
   rcases m with _|m
   ·conv=>whnf
    repeat' (first
     |(refine ⟨fun hg=>?_,fun hg=>?_⟩<;>first|contradiction|(conv=>whnf))
     |(refine Or.inl ?_;conv=>whnf)
     |(refine ⟨_,c_CheckDays (outG dayW rows 0) (by omega),?_⟩;conv=>whnf)
     |(refine And.intro ?_ ?_;kernel_rfl;conv=>whnf))
    all_goals
     first
     |(have hg:chkDs (outG dayW rows 0)≠0:=of_decide_eq_true hg
       rw [if_pos hg] at hR
       rw [hR];rfl)
     |(have hg:¬ chkDs (outG dayW rows 0)≠0:=of_decide_eq_false hg
       rw [if_neg hg] at hR
       rw [hR];rfl)
     |(have hg:¬ chkDs (outG dayW rows 0)≠0:=of_decide_eq_false ‹decide (chkDs (outG dayW rows 0)≠0)=false›
       rw [if_neg hg] at hR
       rw [hR];rfl)
   ·have hol2:(oSW rows (m+1)).length=m+1:=by unfold oSW;rw [List.length_map,hol]
    have hcc:PC 28 [DV.list (oSW rows (m+1))] (DV.int .i64 (chkDs (outG dayW rows (m+1)))):=c_CheckDays (outG dayW rows (m+1)) (by omega)
    conv=>whnf
    refine .inl ?_
    conv=>whnf
    refine ⟨rfl,?_⟩
    rw [window_full]
    refine ⟨_,hcc,?_⟩
    conv=>whnf
    repeat' (first
     |(refine ⟨fun hg=>?_,fun hg=>?_⟩<;>first|contradiction|(conv=>whnf))
     |(refine Or.inl ?_;conv=>whnf)
     |(refine And.intro ?_ ?_;kernel_rfl;conv=>whnf))
    ·have hg:chkDs (outG dayW rows (m+1))≠0:=of_decide_eq_true hg
     rw [if_pos hg] at hR
     rw [hR,hol2];rfl
    all_goals
     have hg:¬ chkDs (outG dayW rows (m+1))≠0:=of_decide_eq_false hg
     rw [if_neg hg] at hR
     rw [hR,window_full];rfl
end Sh

namespace Sh
open Go Go.Proofs
end Sh

namespace Sh
open Go Go.Proofs
end Sh

namespace Sh
open Go Go.Proofs
theorem q_SameInts (a b:List Int) (hl:a.length < 4611686018427387904):PC 32 [iL a,iL b] (.bool (decide (a=b))):=by
 have e0:((a.map (DV.int .i64)).length:Int)=a.length:=by simp
 have e1:((b.map (DV.int .i64)).length:Int)=b.length:=by simp
 refine pureCall_ofR dh32 rfl ?_
 conv=>whnf
 repeat' (first
  |(refine ⟨fun hg=>?_,fun hg=>?_⟩<;>first|contradiction|(conv=>whnf))
  |(refine Or.inl ?_;conv=>whnf)
  |(refine And.intro ?_ ?_;kernel_rfl;conv=>whnf))
 ·have hg:=of_decide_eq_true hg
  rw [e0,e1] at hg
  exact bool_eq (by symm;rw [decide_eq_false_iff_not];intro e;rw [e] at hg;exact hg rfl)
 ·have hg:=of_decide_eq_false hg
  rw [e0,e1] at hg
  have hab:a.length=b.length:=by omega
  refine dwp_loopR (P:=Tryz.prog) (G:=GC) (k:=dk32_0) (b:=db32_0) (α:=Nat) (fun i=>[(0,iL a),(1,iL b),(5,DV.int .i64 (i))]) (fun _=>[]) (fun i=>i≤a.length∧a.take i=b.take i) (fun i=>a.length - i) 0 ⟨rfl,rfl,rfl⟩ ⟨Nat.zero_le _,rfl⟩ ?_
  intro i ⟨h1,h2⟩
  conv=>whnf
  refine ⟨fun hb=>?_,fun hb=>?_⟩
  ·have hi:i < a.length:=by simpa using hb
   conv=>whnf
   rw [getD_enc _ _ (i) 0 hi]
   refine ⟨idxA hi rfl,?_⟩
   conv=>whnf
   rw [getD_enc _ _ (i) 0 (by omega:i < b.length)]
   refine ⟨idxA (by omega:i < b.length) rfl,?_⟩
   conv=>whnf
   repeat' (first
    |(refine ⟨fun hg=>?_,fun hg=>?_⟩<;>first|contradiction|(conv=>whnf))
    |(refine Or.inl ?_;conv=>whnf)
    |(refine And.intro ?_ ?_;kernel_rfl;conv=>whnf))
   ·have hg:=of_decide_eq_true hg
    exact bool_eq (by symm;rw [decide_eq_false_iff_not];intro e;rw [e] at hg;exact hg rfl)
   ·have hg:=Classical.not_not.1 (of_decide_eq_false hg)
    rw [wrap_succ i (by omega)]
    exact ⟨i+1,rfl,rfl,rfl,⟨hi,by rw [take_snoc a i 0 hi,take_snoc b i 0 (by omega),h2,hg]⟩,by omega⟩
  ·have hi:i=a.length:=by have:=of_decide_eq_false hb;rw [e0] at this;omega
   conv=>whnf
   refine bool_eq ?_
   symm
   rw [decide_eq_true_eq]
   rw [hi,List.take_length,hab,List.take_length] at h2
   exact h2
end Sh

namespace Sh
open Go Go.Proofs
theorem l_parts (l:List Prt) (hl:l.length < 1073741824):PC 73 [.list (l.map encQ)] (.list (l.map encQ)):=by
 have e0:((l.map encQ).length:Int)=l.length:=by simp
 refine pureCall_ofR dh73 rfl ?_
 conv=>whnf
 refine dwp_loopU (P:=Tryz.prog) (G:=GC) (k:=dk73_0) (b:=db73_0) (α:=Nat) (fun i=>[(3,.own 3 0 ((l.take i).map encQ).length ((l.take i).map encQ).length),(8,DV.int .i64 (i))]) (fun i=>[(3,.row 3 ((l.take i).map encQ) false)]) (fun i=>i≤l.length) (fun i=>l.length - i) 0 (Nat.zero_le _) ?_
 conv=>whnf
 refine ⟨rfl,rfl,?_⟩
 conv=>whnf
 refine ⟨rfl,?_⟩
 intro i h1
 conv=>whnf
 refine ⟨fun hb=>?_,fun hb=>?_⟩
 ·have hi:i < l.length:=by simpa using hb
  clear hb
  have hs:(l.take (i+1)).map encQ=(l.take i).map encQ++[encQ (l.getD i Q0)]:=by rw [take_snoc l i Q0 hi,List.map_append];rfl
  have hln:((l.take i).map encQ).length=i:=by simp;omega
  generalize hR':(l.take (i+1)).map encQ=R' at *
  generalize hR:(l.take i).map encQ=R at *
  conv=>whnf
  rw [getD_enc _ _ (i) Q0 hi]
  refine ⟨idxA hi rfl,?_⟩
  conv=>whnf
  refine ⟨⟨rfl,rfl,rfl,by rw [hln];simp;omega,fun e he=>by simp at he;subst he;rfl⟩,?_⟩
  conv=>whnf
  rw [wrap_succ i (by omega)]
  refine ⟨i+1,rfl,?_,?_,hi,by omega⟩
  ·rw [hR',hs];rfl
  ·rw [hR',hs];rfl
 ·have hi:i=l.length:=by have:=of_decide_eq_false hb;rw [e0] at this;omega
  clear hb
  rw [hi,List.take_length]
  conv=>whnf
  refine ⟨rfl,?_⟩
  rw [window_full]
  first|rfl|(show DV.list _=_;rfl)
theorem l_takes (l:List Tke) (hl:l.length < 1073741824):PC 75 [.list (l.map encK)] (.list (l.map encK)):=by
 have e0:((l.map encK).length:Int)=l.length:=by simp
 refine pureCall_ofR dh75 rfl ?_
 conv=>whnf
 refine dwp_loopU (P:=Tryz.prog) (G:=GC) (k:=dk75_0) (b:=db75_0) (α:=Nat) (fun i=>[(3,.own 3 0 ((l.take i).map encK).length ((l.take i).map encK).length),(8,DV.int .i64 (i))]) (fun i=>[(3,.row 2 ((l.take i).map encK) false)]) (fun i=>i≤l.length) (fun i=>l.length - i) 0 (Nat.zero_le _) ?_
 conv=>whnf
 refine ⟨rfl,rfl,?_⟩
 conv=>whnf
 refine ⟨rfl,?_⟩
 intro i h1
 conv=>whnf
 refine ⟨fun hb=>?_,fun hb=>?_⟩
 ·have hi:i < l.length:=by simpa using hb
  clear hb
  have hs:(l.take (i+1)).map encK=(l.take i).map encK++[encK (l.getD i K0)]:=by rw [take_snoc l i K0 hi,List.map_append];rfl
  have hln:((l.take i).map encK).length=i:=by simp;omega
  generalize hR':(l.take (i+1)).map encK=R' at *
  generalize hR:(l.take i).map encK=R at *
  conv=>whnf
  rw [getD_enc _ _ (i) K0 hi]
  refine ⟨idxA hi rfl,?_⟩
  conv=>whnf
  refine ⟨⟨rfl,rfl,rfl,by rw [hln];simp;omega,fun e he=>by simp at he;subst he;rfl⟩,?_⟩
  conv=>whnf
  rw [wrap_succ i (by omega)]
  refine ⟨i+1,rfl,?_,?_,hi,by omega⟩
  ·rw [hR',hs];rfl
  ·rw [hR',hs];rfl
 ·have hi:i=l.length:=by have:=of_decide_eq_false hb;rw [e0] at this;omega
  clear hb
  rw [hi,List.take_length]
  conv=>whnf
  refine ⟨rfl,?_⟩
  rw [window_full]
  first|rfl|(show DV.list _=_;rfl)
def sSn:Sn:=⟨10,200,100,[⟨50,0,1000⟩,⟨50,20,1000⟩,⟨100,0,2000⟩],1,100⟩
def sCr:Crw:=⟨⟨0,0⟩,10,2⟩
def sSt:List Std:=[⟨[112],⟨3,0⟩,40,4⟩,⟨[113],⟨3,4⟩,30,5⟩,⟨[114],⟨0,6⟩,9,3⟩]
def sSk:List Prt:=[⟨[102,117,115,101],3,2⟩,⟨[112,108,117,103],5,1⟩]
theorem l_season:PC 86 [] (encS sSn):=by
 refine pureCall_ofR dh86 rfl ?_
 conv=>whnf
 rfl
theorem l_crew:PC 87 [] (encC sCr):=by
 refine pureCall_ofR dh87 rfl ?_
 conv=>whnf
 rfl
theorem l_stands:PC 88 [] (tsV sSt):=by
 refine pureCall_ofR dh88 rfl ?_
 conv=>whnf
 rfl
theorem l_stock:PC 89 [] (qsV sSk):=by
 refine pureCall_ofR dh89 rfl ?_
 conv=>whnf
 rfl
end Sh

namespace Sh
open Go
def dc17 : DFunc := ⟨362,0,[.tmp 0],.seq (.ops false [⟨some 0,.mov (.const (.bool false)),none,[]⟩]) (.seq (.ops false [⟨some 51,.call (.func 86) [],none,[]⟩,⟨some 52,.call (.func 18) [.tmp 51,.const (.slice none 0 0)],none,[]⟩,⟨some 50,.mov (.tmp 52),none,[]⟩,⟨some 53,.extract (.tmp 50) 0,none,[]⟩,⟨some 54,.extract (.tmp 50) 1,none,[]⟩,⟨some 1,.mov (.tmp 53),none,[]⟩,⟨some 2,.mov (.tmp 54),none,[]⟩]) (.seq (.ops false [⟨some 56,.call (.func 86) [],none,[]⟩,⟨some 57,.call (.func 21) [.tmp 56,.const (.slice none 0 0)],none,[]⟩,⟨some 55,.mov (.tmp 57),none,[]⟩,⟨some 58,.extract (.tmp 55) 0,none,[]⟩,⟨some 59,.extract (.tmp 55) 1,none,[]⟩,⟨some 3,.mov (.tmp 58),none,[]⟩,⟨some 4,.mov (.tmp 59),none,[]⟩]) (.seq (.ops false [⟨some 61,.call (.func 86) [],none,[]⟩,⟨some 62,.lit true 1 1 (.int .i64 0) [(0,(.const (.int .i64 1)))],none,[]⟩,⟨some 63,.call (.func 18) [.tmp 61,.tmp 62],none,[]⟩,⟨some 60,.mov (.tmp 63),none,[]⟩,⟨some 64,.extract (.tmp 60) 0,none,[]⟩,⟨some 65,.extract (.tmp 60) 1,none,[]⟩,⟨some 5,.mov (.tmp 64),none,[]⟩,⟨some 6,.mov (.tmp 65),none,[]⟩]) (.seq (.ops false [⟨some 67,.call (.func 86) [],none,[]⟩,⟨some 68,.lit true 1 1 (.int .i64 0) [(0,(.const (.int .i64 1)))],none,[]⟩,⟨some 69,.call (.func 21) [.tmp 67,.tmp 68],none,[]⟩,⟨some 66,.mov (.tmp 69),none,[]⟩,⟨some 70,.extract (.tmp 66) 0,none,[]⟩,⟨some 71,.extract (.tmp 66) 1,none,[]⟩,⟨some 7,.mov (.tmp 70),none,[]⟩,⟨some 8,.mov (.tmp 71),none,[]⟩]) (.seq (.ops false [⟨some 73,.call (.func 86) [],none,[]⟩,⟨some 74,.call (.func 33) [.tmp 73,.const (.int .i64 0)],none,[]⟩,⟨some 72,.mov (.tmp 74),none,[]⟩,⟨some 75,.extract (.tmp 72) 0,none,[]⟩,⟨some 76,.extract (.tmp 72) 1,none,[]⟩,⟨some 9,.mov (.tmp 75),none,[]⟩,⟨some 10,.mov (.tmp 76),none,[]⟩]) (.seq (.ops false [⟨some 78,.call (.func 86) [],none,[]⟩,⟨some 79,.call (.func 33) [.tmp 78,.const (.int .i64 2)],none,[]⟩,⟨some 77,.mov (.tmp 79),none,[]⟩,⟨some 80,.extract (.tmp 77) 0,none,[]⟩,⟨some 81,.extract (.tmp 77) 1,none,[]⟩,⟨some 11,.mov (.tmp 80),none,[]⟩,⟨some 12,.mov (.tmp 81),none,[]⟩]) (.seq (.ops false [⟨some 83,.call (.func 86) [],none,[]⟩,⟨some 84,.call (.func 22) [.tmp 83,.const (.slice none 0 0)],none,[]⟩,⟨some 82,.mov (.tmp 84),none,[]⟩,⟨some 85,.extract (.tmp 82) 0,none,[]⟩,⟨some 86,.extract (.tmp 82) 1,none,[]⟩,⟨some 13,.mov (.tmp 85),none,[]⟩,⟨some 14,.mov (.tmp 86),none,[]⟩]) (.seq (.ops false [⟨some 88,.call (.func 86) [],none,[]⟩,⟨some 89,.lit true 1 2 (.int .i64 0) [(0,(.const (.int .i64 0))),(1,(.const (.int .i64 2)))],none,[]⟩,⟨some 90,.call (.func 22) [.tmp 88,.tmp 89],none,[]⟩,⟨some 87,.mov (.tmp 90),none,[]⟩,⟨some 91,.extract (.tmp 87) 0,none,[]⟩,⟨some 92,.extract (.tmp 87) 1,none,[]⟩,⟨some 15,.mov (.tmp 91),none,[]⟩,⟨some 16,.mov (.tmp 92),none,[]⟩]) (.seq (.ops false [⟨some 94,.call (.func 86) [],none,[]⟩,⟨some 95,.call (.func 37) [.tmp 94],none,[]⟩,⟨some 93,.mov (.tmp 95),none,[]⟩,⟨some 96,.extract (.tmp 93) 0,none,[]⟩,⟨some 97,.extract (.tmp 93) 1,none,[]⟩,⟨some 98,.extract (.tmp 93) 2,none,[]⟩,⟨some 17,.mov (.tmp 96),none,[]⟩,⟨some 18,.mov (.tmp 97),none,[]⟩,⟨some 19,.mov (.tmp 98),none,[]⟩]) (.seq (.ops false [⟨some 100,.call (.func 86) [],none,[]⟩,⟨some 101,.call (.func 39) [.tmp 100],none,[]⟩,⟨some 99,.mov (.tmp 101),none,[]⟩,⟨some 102,.extract (.tmp 99) 0,none,[]⟩,⟨some 103,.extract (.tmp 99) 1,none,[]⟩,⟨some 20,.mov (.tmp 102),none,[]⟩,⟨some 21,.mov (.tmp 103),none,[]⟩]) (.seq (.ops false [⟨some 104,.call (.func 86) [],none,[]⟩,⟨some 105,.lit true 1 4 (.int .i64 0) [(0,(.const (.int .i64 3750))),(1,(.const (.int .i64 2800))),(2,(.const (.int .i64 1900))),(3,(.const (.int .i64 0)))],none,[]⟩,⟨some 106,.call (.func 43) [.tmp 104,.tmp 105,.const (.int .i64 3750)],none,[]⟩,⟨some 22,.mov (.tmp 106),none,[]⟩]) (.seq (.ops false [⟨some 107,.call (.func 86) [],none,[]⟩,⟨some 108,.lit true 1 4 (.int .i64 0) [(0,(.const (.int .i64 3750))),(1,(.const (.int .i64 2800))),(2,(.const (.int .i64 1900))),(3,(.const (.int .i64 0)))],none,[]⟩,⟨some 109,.call (.func 43) [.tmp 107,.tmp 108,.const (.int .i64 3749)],none,[]⟩,⟨some 23,.mov (.tmp 109),none,[]⟩]) (.seq (.ops false [⟨some 110,.call (.func 86) [],none,[]⟩,⟨some 111,.lit true 1 4 (.int .i64 0) [(0,(.const (.int .i64 3750))),(1,(.const (.int .i64 2799))),(2,(.const (.int .i64 1900))),(3,(.const (.int .i64 0)))],none,[]⟩,⟨some 112,.call (.func 43) [.tmp 110,.tmp 111,.const (.int .i64 3750)],none,[]⟩,⟨some 24,.mov (.tmp 112),none,[]⟩]) (.seq (.ops false [⟨some 114,.call (.func 86) [],none,[]⟩,⟨some 115,.lit true 1 2 (.int .i64 0) [(0,(.const (.int .i64 0))),(1,(.const (.int .i64 2)))],none,[]⟩,⟨some 116,.call (.func 34) [.tmp 114,.tmp 115],none,[]⟩,⟨some 113,.mov (.tmp 116),none,[]⟩,⟨some 117,.extract (.tmp 113) 0,none,[]⟩,⟨some 118,.extract (.tmp 113) 1,none,[]⟩,⟨some 25,.mov (.tmp 117),none,[]⟩,⟨some 26,.mov (.tmp 118),none,[]⟩]) (.seq (.seq (.ops false [⟨some 119,.mov (.tmp 2),none,[]⟩,⟨some 120,.mov (.tmp 4),none,[]⟩,⟨some 121,.bin .add (.tmp 119) (.tmp 120),none,[]⟩,⟨some 122,.mov (.tmp 6),none,[]⟩,⟨some 123,.bin .add (.tmp 121) (.tmp 122),none,[]⟩,⟨some 124,.mov (.tmp 8),none,[]⟩,⟨some 125,.bin .add (.tmp 123) (.tmp 124),none,[]⟩,⟨some 126,.mov (.tmp 10),none,[]⟩,⟨some 127,.bin .add (.tmp 125) (.tmp 126),none,[]⟩,⟨some 128,.mov (.tmp 12),none,[]⟩,⟨some 129,.bin .add (.tmp 127) (.tmp 128),none,[]⟩,⟨some 130,.mov (.tmp 14),none,[]⟩,⟨some 131,.bin .add (.tmp 129) (.tmp 130),none,[]⟩,⟨some 132,.mov (.tmp 16),none,[]⟩,⟨some 133,.bin .add (.tmp 131) (.tmp 132),none,[]⟩,⟨some 134,.mov (.tmp 19),none,[]⟩,⟨some 135,.bin .add (.tmp 133) (.tmp 134),none,[]⟩,⟨some 136,.mov (.tmp 21),none,[]⟩,⟨some 137,.bin .add (.tmp 135) (.tmp 136),none,[]⟩,⟨some 138,.mov (.tmp 22),none,[]⟩,⟨some 139,.bin .add (.tmp 137) (.tmp 138),none,[]⟩,⟨some 140,.mov (.tmp 26),none,[]⟩,⟨some 141,.bin .add (.tmp 139) (.tmp 140),none,[]⟩,⟨some 142,.bin .neq (.tmp 141) (.const (.int .i64 0)),none,[]⟩,⟨some 143,.mov (.tmp 142),none,[]⟩,⟨some 144,.mov (.tmp 23),some (143,false),[]⟩,⟨some 145,.bin .neq (.tmp 144) (.const (.int .i64 19)),some (143,false),[]⟩,⟨some 146,.pick (.tmp 143) (.const (.bool true)) (.tmp 145),none,[]⟩,⟨some 147,.mov (.tmp 146),none,[]⟩,⟨some 148,.mov (.tmp 24),some (147,false),[]⟩,⟨some 149,.bin .neq (.tmp 148) (.const (.int .i64 19)),some (147,false),[]⟩,⟨some 150,.pick (.tmp 147) (.const (.bool true)) (.tmp 149),none,[]⟩,⟨some 151,.mov (.tmp 150),none,[]⟩,⟨some 152,.mov (.tmp 1),some (151,false),[]⟩,⟨some 153,.lit true 1 4 (.int .i64 0) [(0,(.const (.int .i64 100))),(1,(.const (.int .i64 150))),(2,(.const (.int .i64 80))),(3,(.const (.int .i64 180)))],some (151,false),[]⟩,⟨some 154,.call (.func 32) [.tmp 152,.tmp 153],some (151,false),[]⟩,⟨some 155,.un .not (.tmp 154),some (151,false),[]⟩,⟨some 156,.pick (.tmp 151) (.const (.bool true)) (.tmp 155),none,[]⟩,⟨some 157,.mov (.tmp 156),none,[]⟩,⟨some 158,.mov (.tmp 3),some (157,false),[]⟩,⟨some 159,.lit true 1 3 (.int .i64 0) [(0,(.const (.int .i64 900))),(1,(.const (.int .i64 850))),(2,(.const (.int .i64 1840)))],some (157,false),[]⟩,⟨some 160,.call (.func 32) [.tmp 158,.tmp 159],some (157,false),[]⟩,⟨some 161,.un .not (.tmp 160),some (157,false),[]⟩,⟨some 162,.pick (.tmp 157) (.const (.bool true)) (.tmp 161),none,[]⟩,⟨some 163,.mov (.tmp 162),none,[]⟩,⟨some 164,.mov (.tmp 5),some (163,false),[]⟩,⟨some 165,.lit true 1 4 (.int .i64 0) [(0,(.const (.int .i64 100))),(1,(.const (.int .i64 0))),(2,(.const (.int .i64 50))),(3,(.const (.int .i64 150)))],some (163,false),[]⟩,⟨some 166,.call (.func 32) [.tmp 164,.tmp 165],some (163,false),[]⟩,⟨some 167,.un .not (.tmp 166),some (163,false),[]⟩,⟨some 168,.pick (.tmp 163) (.const (.bool true)) (.tmp 167),none,[]⟩,⟨some 169,.mov (.tmp 168),none,[]⟩,⟨some 170,.mov (.tmp 7),some (169,false),[]⟩,⟨some 171,.lit true 1 3 (.int .i64 0) [(0,(.const (.int .i64 900))),(1,(.const (.int .i64 1000))),(2,(.const (.int .i64 1900)))],some (169,false),[]⟩,⟨some 172,.call (.func 32) [.tmp 170,.tmp 171],some (169,false),[]⟩,⟨some 173,.un .not (.tmp 172),some (169,false),[]⟩,⟨some 174,.pick (.tmp 169) (.const (.bool true)) (.tmp 173),none,[]⟩,⟨some 175,.mov (.tmp 174),none,[]⟩,⟨some 176,.mov (.tmp 9),some (175,false),[]⟩,⟨some 177,.bin .neq (.tmp 176) (.const (.int .i64 240)),some (175,false),[]⟩,⟨some 178,.pick (.tmp 175) (.const (.bool true)) (.tmp 177),none,[]⟩,⟨some 179,.mov (.tmp 178),none,[]⟩,⟨some 180,.mov (.tmp 11),some (179,false),[]⟩,⟨some 181,.bin .neq (.tmp 180) (.const (.int .i64 160)),some (179,false),[]⟩,⟨some 182,.pick (.tmp 179) (.const (.bool true)) (.tmp 181),none,[]⟩,⟨some 183,.mov (.tmp 182),none,[]⟩,⟨some 184,.mov (.tmp 13),some (183,false),[]⟩,⟨some 185,.bin .neq (.tmp 184) (.const (.int .i64 3590)),some (183,false),[]⟩,⟨some 186,.pick (.tmp 183) (.const (.bool true)) (.tmp 185),none,[]⟩,⟨some 187,.mov (.tmp 186),none,[]⟩,⟨some 188,.mov (.tmp 15),some (187,false),[]⟩,⟨some 189,.bin .neq (.tmp 188) (.const (.int .i64 3750)),some (187,false),[]⟩,⟨some 190,.pick (.tmp 187) (.const (.bool true)) (.tmp 189),none,[]⟩,⟨some 191,.mov (.tmp 190),none,[]⟩,⟨some 192,.mov (.tmp 17),some (191,false),[]⟩,⟨some 193,.lit true 1 2 (.int .i64 0) [(0,(.const (.int .i64 0))),(1,(.const (.int .i64 2)))],some (191,false),[]⟩,⟨some 194,.call (.func 32) [.tmp 192,.tmp 193],some (191,false),[]⟩,⟨some 195,.un .not (.tmp 194),some (191,false),[]⟩,⟨some 196,.pick (.tmp 191) (.const (.bool true)) (.tmp 195),none,[]⟩,⟨some 197,.mov (.tmp 196),none,[]⟩,⟨some 198,.mov (.tmp 18),some (197,false),[]⟩,⟨some 199,.bin .neq (.tmp 198) (.const (.int .i64 3750)),some (197,false),[]⟩,⟨some 200,.pick (.tmp 197) (.const (.bool true)) (.tmp 199),none,[]⟩,⟨some 201,.mov (.tmp 200),none,[]⟩,⟨some 202,.mov (.tmp 20),some (201,false),[]⟩,⟨some 203,.lit true 1 4 (.int .i64 0) [(0,(.const (.int .i64 3750))),(1,(.const (.int .i64 2800))),(2,(.const (.int .i64 1900))),(3,(.const (.int .i64 0)))],some (201,false),[]⟩,⟨some 204,.call (.func 32) [.tmp 202,.tmp 203],some (201,false),[]⟩,⟨some 205,.un .not (.tmp 204),some (201,false),[]⟩,⟨some 206,.pick (.tmp 201) (.const (.bool true)) (.tmp 205),none,[]⟩,⟨some 207,.mov (.tmp 206),none,[]⟩,⟨some 208,.mov (.tmp 25),some (207,false),[]⟩,⟨some 209,.len (.tmp 208),some (207,false),[]⟩,⟨some 210,.bin .gtr (.tmp 209) (.const (.int .i64 0)),some (207,false),[]⟩,⟨some 211,.pick (.tmp 207) (.const (.bool true)) (.tmp 210),none,[]⟩]) (.cond (.tmp 211) (.seq (.ops false [⟨some 0,.mov (.const (.bool false)),none,[]⟩]) .ret) .skip)) (.seq (.ops false [⟨some 213,.call (.func 87) [],none,[]⟩,⟨some 214,.call (.func 88) [],none,[]⟩,⟨some 215,.lit true 1 3 (.int .i64 0) [(0,(.const (.int .i64 0))),(1,(.const (.int .i64 1))),(2,(.const (.int .i64 2)))],none,[]⟩,⟨some 216,.call (.func 45) [.tmp 213,.tmp 214,.tmp 215],none,[]⟩,⟨some 212,.mov (.tmp 216),none,[]⟩,⟨some 217,.extract (.tmp 212) 0,none,[]⟩,⟨some 218,.extract (.tmp 212) 1,none,[]⟩,⟨some 27,.mov (.tmp 217),none,[]⟩,⟨some 28,.mov (.tmp 218),none,[]⟩]) (.seq (.ops false [⟨some 220,.call (.func 87) [],none,[]⟩,⟨some 221,.call (.func 88) [],none,[]⟩,⟨some 222,.lit true 1 3 (.int .i64 0) [(0,(.const (.int .i64 1))),(1,(.const (.int .i64 0))),(2,(.const (.int .i64 2)))],none,[]⟩,⟨some 223,.call (.func 45) [.tmp 220,.tmp 221,.tmp 222],none,[]⟩,⟨some 219,.mov (.tmp 223),none,[]⟩,⟨some 224,.extract (.tmp 219) 0,none,[]⟩,⟨some 225,.extract (.tmp 219) 1,none,[]⟩,⟨some 29,.mov (.tmp 224),none,[]⟩,⟨some 30,.mov (.tmp 225),none,[]⟩]) (.seq (.ops false [⟨some 227,.call (.func 87) [],none,[]⟩,⟨some 228,.call (.func 88) [],none,[]⟩,⟨some 229,.lit true 1 3 (.int .i64 0) [(0,(.const (.int .i64 0))),(1,(.const (.int .i64 1))),(2,(.const (.int .i64 2)))],none,[]⟩,⟨some 230,.call (.func 47) [.tmp 227,.tmp 228,.tmp 229],none,[]⟩,⟨some 226,.mov (.tmp 230),none,[]⟩,⟨some 231,.extract (.tmp 226) 0,none,[]⟩,⟨some 232,.extract (.tmp 226) 1,none,[]⟩,⟨some 233,.extract (.tmp 226) 2,none,[]⟩,⟨some 31,.mov (.tmp 231),none,[]⟩,⟨some 32,.mov (.tmp 232),none,[]⟩,⟨some 33,.mov (.tmp 233),none,[]⟩]) (.seq (.ops false [⟨some 235,.call (.func 87) [],none,[]⟩,⟨some 236,.call (.func 88) [],none,[]⟩,⟨some 237,.call (.func 57) [.tmp 235,.tmp 236],none,[]⟩,⟨some 234,.mov (.tmp 237),none,[]⟩,⟨some 238,.extract (.tmp 234) 0,none,[]⟩,⟨some 239,.extract (.tmp 234) 1,none,[]⟩,⟨some 240,.extract (.tmp 234) 2,none,[]⟩,⟨some 34,.mov (.tmp 238),none,[]⟩,⟨some 35,.mov (.tmp 239),none,[]⟩,⟨some 36,.mov (.tmp 240),none,[]⟩]) (.seq (.ops false [⟨some 242,.call (.func 87) [],none,[]⟩,⟨some 243,.call (.func 88) [],none,[]⟩,⟨some 244,.call (.func 58) [.tmp 242,.tmp 243,.const (.int .i64 5)],none,[]⟩,⟨some 241,.mov (.tmp 244),none,[]⟩,⟨some 245,.extract (.tmp 241) 0,none,[]⟩,⟨some 246,.extract (.tmp 241) 1,none,[]⟩,⟨some 37,.mov (.tmp 245),none,[]⟩,⟨some 38,.mov (.tmp 246),none,[]⟩]) (.seq (.ops false [⟨some 248,.call (.func 89) [],none,[]⟩,⟨some 249,.build [.str [],.int .i64 0] [(0,(1,(.const (.string ⟨#[102,117,115,101]⟩)))),(1,(1,(.const (.int .i64 2))))],none,[]⟩,⟨some 250,.lit true 2 1 (.agg [.str [],.int .i64 0]) [(0,(.tmp 249))],none,[]⟩,⟨some 251,.call (.func 64) [.tmp 248,.tmp 250],none,[]⟩,⟨some 247,.mov (.tmp 251),none,[]⟩,⟨some 252,.extract (.tmp 247) 0,none,[]⟩,⟨some 253,.extract (.tmp 247) 1,none,[]⟩,⟨some 39,.mov (.tmp 252),none,[]⟩,⟨some 40,.mov (.tmp 253),none,[]⟩]) (.seq (.ops false [⟨some 255,.call (.func 89) [],none,[]⟩,⟨some 256,.build [.str [],.int .i64 0] [(0,(1,(.const (.string ⟨#[102,117,115,101]⟩)))),(1,(1,(.const (.int .i64 2))))],none,[]⟩,⟨some 257,.build [.str [],.int .i64 0] [(0,(1,(.const (.string ⟨#[102,117,115,101]⟩)))),(1,(1,(.const (.int .i64 2))))],none,[]⟩,⟨some 258,.lit true 2 2 (.agg [.str [],.int .i64 0]) [(0,(.tmp 256)),(1,(.tmp 257))],none,[]⟩,⟨some 259,.call (.func 64) [.tmp 255,.tmp 258],none,[]⟩,⟨some 254,.mov (.tmp 259),none,[]⟩,⟨some 260,.extract (.tmp 254) 0,none,[]⟩,⟨some 261,.extract (.tmp 254) 1,none,[]⟩,⟨some 41,.mov (.tmp 260),none,[]⟩,⟨some 42,.mov (.tmp 261),none,[]⟩]) (.seq (.ops false [⟨some 263,.build [.str [],.int .i64 0,.int .i64 0] [(0,(1,(.const (.string ⟨#[102,117,115,101]⟩)))),(1,(1,(.const (.int .i64 1)))),(2,(1,(.const (.int .i64 2))))],none,[]⟩,⟨some 264,.build [.str [],.int .i64 0,.int .i64 0] [(0,(1,(.const (.string ⟨#[112,108,117,103]⟩)))),(1,(1,(.const (.int .i64 5)))),(2,(1,(.const (.int .i64 1))))],none,[]⟩,⟨some 265,.lit true 3 2 (.agg [.str [],.int .i64 0,.int .i64 0]) [(0,(.tmp 263)),(1,(.tmp 264))],none,[]⟩,⟨some 266,.call (.func 67) [.tmp 265],none,[]⟩,⟨some 262,.mov (.tmp 266),none,[]⟩,⟨some 267,.extract (.tmp 262) 0,none,[]⟩,⟨some 268,.extract (.tmp 262) 1,none,[]⟩,⟨some 43,.mov (.tmp 267),none,[]⟩,⟨some 44,.mov (.tmp 268),none,[]⟩]) (.seq (.ops false [⟨some 270,.call (.func 86) [],none,[]⟩,⟨some 271,.field 3 1 false (.tmp 270),none,[]⟩,⟨some 272,.slice 3 (.tmp 271) none (some (.const (.int .i64 1))) none,none,[]⟩,⟨some 273,.call (.func 76) [.tmp 272],none,[]⟩,⟨some 269,.mov (.tmp 273),none,[]⟩,⟨some 274,.extract (.tmp 269) 0,none,[]⟩,⟨some 275,.extract (.tmp 269) 1,none,[]⟩,⟨some 45,.mov (.tmp 274),none,[]⟩,⟨some 46,.mov (.tmp 275),none,[]⟩]) (.seq (.ops false [⟨some 277,.mov (.tmp 45),none,[]⟩,⟨some 278,.call (.func 77) [.tmp 277],none,[]⟩,⟨some 276,.mov (.tmp 278),none,[]⟩,⟨some 279,.extract (.tmp 276) 0,none,[]⟩,⟨some 280,.extract (.tmp 276) 1,none,[]⟩,⟨some 281,.extract (.tmp 276) 2,none,[]⟩,⟨some 47,.mov (.tmp 279),none,[]⟩,⟨some 48,.mov (.tmp 280),none,[]⟩,⟨some 49,.mov (.tmp 281),none,[]⟩]) (.seq (.ops false [⟨some 282,.mov (.tmp 28),none,[]⟩,⟨some 283,.mov (.tmp 30),none,[]⟩,⟨some 284,.bin .add (.tmp 282) (.tmp 283),none,[]⟩,⟨some 285,.mov (.tmp 33),none,[]⟩,⟨some 286,.bin .add (.tmp 284) (.tmp 285),none,[]⟩,⟨some 287,.mov (.tmp 36),none,[]⟩,⟨some 288,.bin .add (.tmp 286) (.tmp 287),none,[]⟩,⟨some 289,.mov (.tmp 38),none,[]⟩,⟨some 290,.bin .add (.tmp 288) (.tmp 289),none,[]⟩,⟨some 291,.mov (.tmp 40),none,[]⟩,⟨some 292,.bin .add (.tmp 290) (.tmp 291),none,[]⟩,⟨some 293,.mov (.tmp 44),none,[]⟩,⟨some 294,.bin .add (.tmp 292) (.tmp 293),none,[]⟩,⟨some 295,.mov (.tmp 46),none,[]⟩,⟨some 296,.bin .add (.tmp 294) (.tmp 295),none,[]⟩,⟨some 297,.mov (.tmp 49),none,[]⟩,⟨some 298,.bin .add (.tmp 296) (.tmp 297),none,[]⟩,⟨some 299,.bin .eql (.tmp 298) (.const (.int .i64 0)),none,[]⟩,⟨some 300,.mov (.tmp 299),none,[]⟩,⟨some 301,.mov (.tmp 42),some (300,true),[]⟩,⟨some 302,.bin .eql (.tmp 301) (.const (.int .i64 16)),some (300,true),[]⟩,⟨some 303,.pick (.tmp 300) (.tmp 302) (.const (.bool false)),none,[]⟩,⟨some 304,.mov (.tmp 303),none,[]⟩,⟨some 305,.mov (.tmp 27),some (304,true),[]⟩,⟨some 306,.bin .eql (.tmp 305) (.const (.int .i64 18)),some (304,true),[]⟩,⟨some 307,.pick (.tmp 304) (.tmp 306) (.const (.bool false)),none,[]⟩,⟨some 308,.mov (.tmp 307),none,[]⟩,⟨some 309,.mov (.tmp 29),some (308,true),[]⟩,⟨some 310,.bin .eql (.tmp 309) (.const (.int .i64 26)),some (308,true),[]⟩,⟨some 311,.pick (.tmp 308) (.tmp 310) (.const (.bool false)),none,[]⟩,⟨some 312,.mov (.tmp 311),none,[]⟩,⟨some 313,.mov (.tmp 31),some (312,true),[]⟩,⟨some 314,.lit true 1 3 (.int .i64 0) [(0,(.const (.int .i64 0))),(1,(.const (.int .i64 1))),(2,(.const (.int .i64 2)))],some (312,true),[]⟩,⟨some 315,.call (.func 32) [.tmp 313,.tmp 314],some (312,true),[]⟩,⟨some 316,.pick (.tmp 312) (.tmp 315) (.const (.bool false)),none,[]⟩,⟨some 317,.mov (.tmp 316),none,[]⟩,⟨some 318,.mov (.tmp 32),some (317,true),[]⟩,⟨some 319,.bin .eql (.tmp 318) (.const (.int .i64 18)),some (317,true),[]⟩,⟨some 320,.pick (.tmp 317) (.tmp 319) (.const (.bool false)),none,[]⟩,⟨some 321,.mov (.tmp 320),none,[]⟩,⟨some 322,.mov (.tmp 34),some (321,true),[]⟩,⟨some 323,.lit true 1 2 (.int .i64 0) [(0,(.const (.int .i64 0))),(1,(.const (.int .i64 1)))],some (321,true),[]⟩,⟨some 324,.call (.func 32) [.tmp 322,.tmp 323],some (321,true),[]⟩,⟨some 325,.pick (.tmp 321) (.tmp 324) (.const (.bool false)),none,[]⟩,⟨some 326,.mov (.tmp 325),none,[]⟩,⟨some 327,.mov (.tmp 35),some (326,true),[]⟩,⟨some 328,.bin .eql (.tmp 327) (.const (.int .i64 42)),some (326,true),[]⟩,⟨some 329,.pick (.tmp 326) (.tmp 328) (.const (.bool false)),none,[]⟩,⟨some 330,.mov (.tmp 329),none,[]⟩,⟨some 331,.mov (.tmp 37),some (330,true),[]⟩,⟨some 332,.bin .eql (.tmp 331) (.const (.int .i64 75)),some (330,true),[]⟩,⟨some 333,.pick (.tmp 330) (.tmp 332) (.const (.bool false)),none,[]⟩,⟨some 334,.mov (.tmp 333),none,[]⟩,⟨some 335,.mov (.tmp 39),some (334,true),[]⟩,⟨some 336,.call (.func 73) [.tmp 335],some (334,true),[]⟩,⟨some 337,.build [.str [],.int .i64 0,.int .i64 0] [(0,(1,(.const (.string ⟨#[102,117,115,101]⟩)))),(1,(1,(.const (.int .i64 1)))),(2,(1,(.const (.int .i64 2))))],some (334,true),[]⟩,⟨some 338,.build [.str [],.int .i64 0,.int .i64 0] [(0,(1,(.const (.string ⟨#[112,108,117,103]⟩)))),(1,(1,(.const (.int .i64 5)))),(2,(1,(.const (.int .i64 1))))],some (334,true),[]⟩,⟨some 339,.lit true 3 2 (.agg [.str [],.int .i64 0,.int .i64 0]) [(0,(.tmp 337)),(1,(.tmp 338))],some (334,true),[]⟩,⟨some 340,.call (.func 72) [.tmp 336,.tmp 339],some (334,true),[]⟩,⟨some 341,.pick (.tmp 334) (.tmp 340) (.const (.bool false)),none,[]⟩,⟨some 342,.mov (.tmp 341),none,[]⟩,⟨some 343,.mov (.tmp 43),some (342,true),[]⟩,⟨some 344,.call (.func 75) [.tmp 343],some (342,true),[]⟩,⟨some 345,.build [.str [],.int .i64 0] [(0,(1,(.const (.string ⟨#[102,117,115,101]⟩)))),(1,(1,(.const (.int .i64 1))))],some (342,true),[]⟩,⟨some 346,.lit true 2 1 (.agg [.str [],.int .i64 0]) [(0,(.tmp 345))],some (342,true),[]⟩,⟨some 347,.call (.func 74) [.tmp 344,.tmp 346],some (342,true),[]⟩,⟨some 348,.pick (.tmp 342) (.tmp 347) (.const (.bool false)),none,[]⟩,⟨some 349,.mov (.tmp 348),none,[]⟩,⟨some 350,.mov (.tmp 45),some (349,true),[]⟩,⟨some 351,.bin .eql (.tmp 350) (.const (.string ⟨#[100,97,121,32,53,48,32,48,32,49,48,48,48,10]⟩)),some (349,true),[]⟩,⟨some 352,.pick (.tmp 349) (.tmp 351) (.const (.bool false)),none,[]⟩,⟨some 353,.mov (.tmp 352),none,[]⟩,⟨some 354,.mov (.tmp 48),some (353,true),[]⟩,⟨some 355,.bin .eql (.tmp 354) (.const (.int .i64 0)),some (353,true),[]⟩,⟨some 356,.pick (.tmp 353) (.tmp 355) (.const (.bool false)),none,[]⟩,⟨some 357,.mov (.tmp 356),none,[]⟩,⟨some 358,.mov (.tmp 47),some (357,true),[]⟩,⟨some 359,.len (.tmp 358),some (357,true),[]⟩,⟨some 360,.bin .eql (.tmp 359) (.const (.int .i64 1)),some (357,true),[]⟩,⟨some 361,.pick (.tmp 357) (.tmp 360) (.const (.bool false)),none,[]⟩,⟨some 0,.mov (.tmp 361),none,[]⟩]) .ret))))))))))))))))))))))))))⟩
theorem dh17:cProg Go.Proofs.Tryz.prog ⟨[],[],[62,68,89,105,108,111,115,153,159,165,171,193,203,215,222,229,250,258,265,314,323,339,346]⟩ 17=some dc17:=by kernel_rfl
end Sh

set_option maxHeartbeats 8000000
namespace Sh
open Go Go.Proofs
def txD:List UInt8:=[100,97,121,32,53,48,32,48,32,49,48,48,48,10]
def tkF:Tke:=⟨[102,117,115,101],2⟩
def lowS:List Prt:=[⟨[102,117,115,101],1,2⟩,⟨[112,108,117,103],5,1⟩]
theorem aw1:PC 18 [encS sSn,iL []] (DV.tuple [iL [100,150,80,180],DV.int .i64 (0)]):=by
 have h:=c_Soils sSn [] (by decide) (by decide)
 rw [show optL (chkSW sSn []) (soilsS sSn [])=DV.tuple [iL [100,150,80,180],DV.int .i64 (0)] from by kernel_rfl] at h
 exact h
theorem aw2:PC 21 [encS sSn,iL []] (DV.tuple [iL [900,850,1840],DV.int .i64 (0)]):=by
 have h:=c_Yields sSn [] (by decide) (by decide)
 rw [show optL (chkSW sSn []) (yldS sSn [])=DV.tuple [iL [900,850,1840],DV.int .i64 (0)] from by kernel_rfl] at h
 exact h
theorem aw3:PC 18 [encS sSn,iL [1]] (DV.tuple [iL [100,0,50,150],DV.int .i64 (0)]):=by
 have h:=c_Soils sSn [1] (by decide) (by decide)
 rw [show optL (chkSW sSn [1]) (soilsS sSn [1])=DV.tuple [iL [100,0,50,150],DV.int .i64 (0)] from by kernel_rfl] at h
 exact h
theorem aw4:PC 21 [encS sSn,iL [1]] (DV.tuple [iL [900,1000,1900],DV.int .i64 (0)]):=by
 have h:=c_Yields sSn [1] (by decide) (by decide)
 rw [show optL (chkSW sSn [1]) (yldS sSn [1])=DV.tuple [iL [900,1000,1900],DV.int .i64 (0)] from by kernel_rfl] at h
 exact h
theorem aw5:PC 33 [encS sSn,DV.int .i64 (0)] (DV.tuple [DV.int .i64 (240),DV.int .i64 (0)]):=by
 have h:=c_Gain sSn 0 (by decide)
 rw [show optI (chkSW sSn [0]) (gainS sSn 0)=DV.tuple [DV.int .i64 (240),DV.int .i64 (0)] from by kernel_rfl] at h
 exact h
theorem aw6:PC 33 [encS sSn,DV.int .i64 (2)] (DV.tuple [DV.int .i64 (160),DV.int .i64 (0)]):=by
 have h:=c_Gain sSn 2 (by decide)
 rw [show optI (chkSW sSn [2]) (gainS sSn 2)=DV.tuple [DV.int .i64 (160),DV.int .i64 (0)] from by kernel_rfl] at h
 exact h
theorem aw7:PC 22 [encS sSn,iL []] (DV.tuple [DV.int .i64 (3590),DV.int .i64 (0)]):=by
 have h:=c_Worth sSn [] (by decide) (by decide)
 rw [show optI (chkSW sSn []) (worthS sSn [])=DV.tuple [DV.int .i64 (3590),DV.int .i64 (0)] from by kernel_rfl] at h
 exact h
theorem aw8:PC 22 [encS sSn,iL [0,2]] (DV.tuple [DV.int .i64 (3750),DV.int .i64 (0)]):=by
 have h:=c_Worth sSn [0,2] (by decide) (by decide)
 rw [show optI (chkSW sSn [0,2]) (worthS sSn [0,2])=DV.tuple [DV.int .i64 (3750),DV.int .i64 (0)] from by kernel_rfl] at h
 exact h
theorem aw9:PC 37 [encS sSn] (DV.tuple [iL [0,2],DV.int .i64 (3750),DV.int .i64 (0)]):=by
 have h:=c_Planned sSn (by decide)
 rw [show optLW (chkSn sSn) (plannedS sSn)=DV.tuple [iL [0,2],DV.int .i64 (3750),DV.int .i64 (0)] from by kernel_rfl] at h
 exact h
theorem aw10:PC 39 [encS sSn] (DV.tuple [iL [3750,2800,1900,0],DV.int .i64 (0)]):=by
 have h:=c_Table sSn (by decide)
 rw [show optL (chkSn sSn) (tableS sSn)=DV.tuple [iL [3750,2800,1900,0],DV.int .i64 (0)] from by kernel_rfl] at h
 exact h
theorem prv1:prvB sSn [3750,2800,1900,0] 3750=true:=prvB_yes (by unfold Prv CP DP;exact of_decide_eq_true (by kernel_rfl))
theorem prv2:prvB sSn [3750,2800,1900,0] 3749=false:=prvB_no (by unfold Prv CP DP;exact of_decide_eq_false (by kernel_rfl))
theorem prv3:prvB sSn [3750,2799,1900,0] 3750=false:=prvB_no (by unfold Prv CP DP;exact of_decide_eq_false (by kernel_rfl))
theorem aw11:PC 43 [encS sSn,iL [3750,2800,1900,0],DV.int .i64 (3750)] (DV.int .i64 (0)):=by
 have h:=c_CheckTable sSn [3750,2800,1900,0] 3750 (by decide) (by decide)
 rw [show chkTV sSn [3750,2800,1900,0] 3750=0 from by unfold chkTV;rw [prv1];kernel_rfl] at h
 exact h
theorem aw12:PC 43 [encS sSn,iL [3750,2800,1900,0],DV.int .i64 (3749)] (DV.int .i64 (19)):=by
 have h:=c_CheckTable sSn [3750,2800,1900,0] 3749 (by decide) (by decide)
 rw [show chkTV sSn [3750,2800,1900,0] 3749=19 from by unfold chkTV;rw [prv2];kernel_rfl] at h
 exact h
theorem aw13:PC 43 [encS sSn,iL [3750,2799,1900,0],DV.int .i64 (3750)] (DV.int .i64 (19)):=by
 have h:=c_CheckTable sSn [3750,2799,1900,0] 3750 (by decide) (by decide)
 rw [show chkTV sSn [3750,2799,1900,0] 3750=19 from by unfold chkTV;rw [prv3];kernel_rfl] at h
 exact h
theorem aw14:PC 34 [encS sSn,iL [0,2]] (DV.tuple [iL [],DV.int .i64 (0)]):=by
 have h:=c_Idle sSn [0,2] (by decide) (by decide)
 rw [show optL (chkSW sSn [0,2]) (idleS sSn [0,2] ([0,2]:List Int).length)=DV.tuple [iL [],DV.int .i64 (0)] from by kernel_rfl] at h
 exact h
theorem aw15:PC 45 [encC sCr,tsV sSt,iL [0,1,2]] (DV.tuple [DV.int .i64 (18),DV.int .i64 (0)]):=by
 have h:=c_Way sCr sSt [0,1,2] (by decide) (by intro s hs;simp only [sSt,sSk,lowS,List.mem_cons,List.not_mem_nil,or_false] at hs;rcases hs with rfl|rfl|rfl<;>decide) (by decide)
 rw [show optI (chkOO sCr sSt [0,1,2]) (wayS sCr sSt [0,1,2])=DV.tuple [DV.int .i64 (18),DV.int .i64 (0)] from by kernel_rfl] at h
 exact h
theorem aw16:PC 45 [encC sCr,tsV sSt,iL [1,0,2]] (DV.tuple [DV.int .i64 (26),DV.int .i64 (0)]):=by
 have h:=c_Way sCr sSt [1,0,2] (by decide) (by intro s hs;simp only [sSt,sSk,lowS,List.mem_cons,List.not_mem_nil,or_false] at hs;rcases hs with rfl|rfl|rfl<;>decide) (by decide)
 rw [show optI (chkOO sCr sSt [1,0,2]) (wayS sCr sSt [1,0,2])=DV.tuple [DV.int .i64 (26),DV.int .i64 (0)] from by kernel_rfl] at h
 exact h
theorem aw17:PC 47 [encC sCr,tsV sSt,iL [0,1,2]] (DV.tuple [iL [0,1,2],DV.int .i64 (18),DV.int .i64 (0)]):=by
 have h:=c_Shortest sCr sSt [0,1,2] (by decide) (by intro s hs;simp only [sSt,sSk,lowS,List.mem_cons,List.not_mem_nil,or_false] at hs;rcases hs with rfl|rfl|rfl<;>decide) (by decide)
 rw [show optLW (chkSO sCr sSt [0,1,2]) (plS (shortS sCr sSt [0,1,2]))=DV.tuple [iL [0,1,2],DV.int .i64 (18),DV.int .i64 (0)] from by kernel_rfl] at h
 exact h
theorem aw18:PC 57 [encC sCr,tsV sSt] (DV.tuple [iL [0,1],DV.int .i64 (42),DV.int .i64 (0)]):=by
 have h:=c_Chosen sCr sSt (by decide) (by intro s hs;simp only [sSt,sSk,lowS,List.mem_cons,List.not_mem_nil,or_false] at hs;rcases hs with rfl|rfl|rfl<;>decide)
 rw [show optLW (chkCT sCr sSt) (chosenS sCr sSt)=DV.tuple [iL [0,1],DV.int .i64 (42),DV.int .i64 (0)] from by kernel_rfl] at h
 exact h
theorem aw19:PC 58 [encC sCr,tsV sSt,DV.int .i64 (5)] (DV.tuple [DV.int .i64 (75),DV.int .i64 (0)]):=by
 have h:=c_Bound sCr sSt 5 (by decide) (by intro s hs;simp only [sSt,sSk,lowS,List.mem_cons,List.not_mem_nil,or_false] at hs;rcases hs with rfl|rfl|rfl<;>decide)
 rw [show optI (chkBo sCr sSt 5) (boundS sCr sSt 5)=DV.tuple [DV.int .i64 (75),DV.int .i64 (0)] from by kernel_rfl] at h
 exact h
theorem aw20:PC 64 [qsV sSk,ksV [tkF]] (DV.tuple [qsV lowS,DV.int .i64 (0)]):=by
 have h:=c_Taken sSk [tkF] (by decide) (by intro s hs;simp only [sSt,sSk,lowS,List.mem_cons,List.not_mem_nil,or_false] at hs;rcases hs with rfl|rfl<;>decide) (by decide)
 rw [show DV.tuple [qsV (tknP sSk [tkF]).1,DV.int .i64 ((tknP sSk [tkF]).2)]=DV.tuple [qsV lowS,DV.int .i64 (0)] from by kernel_rfl] at h
 exact h
theorem aw21:PC 64 [qsV sSk,ksV [tkF,tkF]] (DV.tuple [qsV [],DV.int .i64 (16)]):=by
 have h:=c_Taken sSk [tkF,tkF] (by decide) (by intro s hs;simp only [sSt,sSk,lowS,List.mem_cons,List.not_mem_nil,or_false] at hs;rcases hs with rfl|rfl<;>decide) (by decide)
 rw [show DV.tuple [qsV (tknP sSk [tkF,tkF]).1,DV.int .i64 ((tknP sSk [tkF,tkF]).2)]=DV.tuple [qsV [],DV.int .i64 (16)] from by kernel_rfl] at h
 exact h
theorem aw22:PC 67 [qsV lowS] (DV.tuple [ksV [⟨[102,117,115,101],1⟩],DV.int .i64 (0)]):=by
 have h:=c_Reordered lowS (by decide) (by intro s hs;simp only [sSt,sSk,lowS,List.mem_cons,List.not_mem_nil,or_false] at hs;rcases hs with rfl|rfl<;>decide)
 rw [show DV.tuple [ksV (if chkStk lowS≠0 then [] else reS lowS),DV.int .i64 (chkStk lowS)]=DV.tuple [ksV [⟨[102,117,115,101],1⟩],DV.int .i64 (0)] from by kernel_rfl] at h
 exact h
theorem aw23:PC 76 [dysV [⟨50,0,1000⟩]] (DV.tuple [.str txD,DV.int .i64 (0)]):=by
 have h:=c_Print [⟨50,0,1000⟩] (by decide)
 rw [show DV.tuple [.str (prtDs [⟨50,0,1000⟩]).1,DV.int .i64 ((prtDs [⟨50,0,1000⟩]).2)]=DV.tuple [.str txD,DV.int .i64 (0)] from by kernel_rfl] at h
 exact h
theorem aw24:PC 77 [.str txD] (DV.tuple [dysV [⟨50,0,1000⟩],DV.int .i64 (0),DV.int .i64 (0)]):=by
 have h:=c_Parse txD (by decide)
 rw [show encPar (parDs txD)=DV.tuple [dysV [⟨50,0,1000⟩],DV.int .i64 (0),DV.int .i64 (0)] from by kernel_rfl] at h
 exact h
theorem as1:PC 32 [iL [100,150,80,180],iL [100,150,80,180]] (.bool true):=by have:=q_SameInts [100,150,80,180] [100,150,80,180] (by decide);rwa [decide_eq_true rfl] at this
theorem as2:PC 32 [iL [900,850,1840],iL [900,850,1840]] (.bool true):=by have:=q_SameInts [900,850,1840] [900,850,1840] (by decide);rwa [decide_eq_true rfl] at this
theorem as3:PC 32 [iL [100,0,50,150],iL [100,0,50,150]] (.bool true):=by have:=q_SameInts [100,0,50,150] [100,0,50,150] (by decide);rwa [decide_eq_true rfl] at this
theorem as4:PC 32 [iL [900,1000,1900],iL [900,1000,1900]] (.bool true):=by have:=q_SameInts [900,1000,1900] [900,1000,1900] (by decide);rwa [decide_eq_true rfl] at this
theorem as5:PC 32 [iL [0,2],iL [0,2]] (.bool true):=by have:=q_SameInts [0,2] [0,2] (by decide);rwa [decide_eq_true rfl] at this
theorem as6:PC 32 [iL [3750,2800,1900,0],iL [3750,2800,1900,0]] (.bool true):=by have:=q_SameInts [3750,2800,1900,0] [3750,2800,1900,0] (by decide);rwa [decide_eq_true rfl] at this
theorem as7:PC 32 [iL [0,1,2],iL [0,1,2]] (.bool true):=by have:=q_SameInts [0,1,2] [0,1,2] (by decide);rwa [decide_eq_true rfl] at this
theorem as8:PC 32 [iL [0,1],iL [0,1]] (.bool true):=by have:=q_SameInts [0,1] [0,1] (by decide);rwa [decide_eq_true rfl] at this
theorem at1:PC 73 [qsV lowS] (qsV lowS):=l_parts lowS (by decide)
theorem at2:PC 75 [ksV [⟨[102,117,115,101],1⟩]] (ksV [⟨[102,117,115,101],1⟩]):=l_takes _ (by decide)
theorem at3:PC 72 [qsV lowS,qsV lowS] (.bool true):=r_SameParts lowS (by decide)
theorem at4:PC 74 [ksV [⟨[102,117,115,101],1⟩],ksV [⟨[102,117,115,101],1⟩]] (.bool true):=r_SameTakes _ (by decide)
theorem l_awake:PC 17 [] (.bool true):=by
 refine pureCall_ofR dh17 rfl ?_
 conv=>whnf
 repeat' (first
 |(refine ⟨fun hg=>?_,fun hg=>?_⟩<;>first|contradiction|(exfalso;revert hg;decide)|(clear hg;conv=>whnf))
 |(refine Or.inl ?_;conv=>whnf)
 |(refine ⟨_,l_season,?_⟩;conv=>whnf)
 |(refine ⟨_,l_crew,?_⟩;conv=>whnf)
 |(refine ⟨_,l_stands,?_⟩;conv=>whnf)
 |(refine ⟨_,l_stock,?_⟩;conv=>whnf)
 |(refine ⟨_,aw1,?_⟩;conv=>whnf)
 |(refine ⟨_,aw2,?_⟩;conv=>whnf)
 |(refine ⟨_,aw3,?_⟩;conv=>whnf)
 |(refine ⟨_,aw4,?_⟩;conv=>whnf)
 |(refine ⟨_,aw5,?_⟩;conv=>whnf)
 |(refine ⟨_,aw6,?_⟩;conv=>whnf)
 |(refine ⟨_,aw7,?_⟩;conv=>whnf)
 |(refine ⟨_,aw8,?_⟩;conv=>whnf)
 |(refine ⟨_,aw9,?_⟩;conv=>whnf)
 |(refine ⟨_,aw10,?_⟩;conv=>whnf)
 |(refine ⟨_,aw11,?_⟩;conv=>whnf)
 |(refine ⟨_,aw12,?_⟩;conv=>whnf)
 |(refine ⟨_,aw13,?_⟩;conv=>whnf)
 |(refine ⟨_,aw14,?_⟩;conv=>whnf)
 |(refine ⟨_,aw15,?_⟩;conv=>whnf)
 |(refine ⟨_,aw16,?_⟩;conv=>whnf)
 |(refine ⟨_,aw17,?_⟩;conv=>whnf)
 |(refine ⟨_,aw18,?_⟩;conv=>whnf)
 |(refine ⟨_,aw19,?_⟩;conv=>whnf)
 |(refine ⟨_,aw20,?_⟩;conv=>whnf)
 |(refine ⟨_,aw21,?_⟩;conv=>whnf)
 |(refine ⟨_,aw22,?_⟩;conv=>whnf)
 |(refine ⟨_,aw23,?_⟩;conv=>whnf)
 |(refine ⟨_,aw24,?_⟩;conv=>whnf)
 |(refine ⟨_,as1,?_⟩;conv=>whnf)
 |(refine ⟨_,as2,?_⟩;conv=>whnf)
 |(refine ⟨_,as3,?_⟩;conv=>whnf)
 |(refine ⟨_,as4,?_⟩;conv=>whnf)
 |(refine ⟨_,as5,?_⟩;conv=>whnf)
 |(refine ⟨_,as6,?_⟩;conv=>whnf)
 |(refine ⟨_,as7,?_⟩;conv=>whnf)
 |(refine ⟨_,as8,?_⟩;conv=>whnf)
 |(refine ⟨_,at1,?_⟩;conv=>whnf)
 |(refine ⟨_,at2,?_⟩;conv=>whnf)
 |(refine ⟨_,at3,?_⟩;conv=>whnf)
 |(refine ⟨_,at4,?_⟩;conv=>whnf)
 |(refine ⟨⟨by decide,by decide,by decide,fun e he=>by obtain ⟨x,_,rfl⟩:=List.mem_map.1 he;rfl⟩,?_⟩;conv=>whnf)
 |(refine And.intro ?_ ?_;kernel_rfl;conv=>whnf))
 all_goals rfl
end Sh

set_option maxHeartbeats 2000000
namespace Sh
open Go Go.Proofs
def shB (n:Nat):Bool:=decide ((n:Int)≤12) || decide ((n:Int)=65)
theorem r_Short (s:Sn):PC 15 [encS s] (.bool (shB s.days.length)):=by
 have e0:((s.days.map encD).length:Int)=s.days.length:=by simp
 unfold shB
 refine pureCall_ofR dh15 rfl ?_
 conv=>whnf
 rw [e0]
 refine ⟨fun hg=>?_,fun hg=>?_⟩
 ·conv=>whnf
  exact bool_eq (by rw [show decide ((s.days.length:Int)≤12)=false from hg,e0];rfl)
 ·conv=>whnf
  exact bool_eq (by rw [show decide ((s.days.length:Int)≤12)=true from hg];rfl)
theorem shB_spec {n:Nat} (h:shB n=true):n≤65:=by
 unfold shB at h
 rw [Bool.or_eq_true,decide_eq_true_eq,decide_eq_true_eq] at h
 omega
theorem r_ShortIx (l:List Int):PC 16 [iL l] (.bool (decide ((l.length:Int)≤12))):=by
 have e0:((l.map (DV.int .i64)).length:Int)=l.length:=by simp
 rw [← e0]
 refine pureCall_ofR dh16 rfl ?_
 conv=>whnf
 rfl
theorem optL_z (l:List Int):optL 0 l=.tuple [iL l,DV.int .i64 (0)]:=rfl
theorem optI_z (n:Int):optI 0 n=.tuple [DV.int .i64 (n),DV.int .i64 (0)]:=rfl
theorem optW_z (p:Pl):optLW 0 p=.tuple [iL p.idx,DV.int .i64 (p.worth),DV.int .i64 (0)]:=rfl
theorem optL_n {k:Int} (h:k≠0) (l:List Int):optL k l=.tuple [iL [],DV.int .i64 (k)]:=by unfold optL;rw [if_pos h]
theorem optI_n {k:Int} (h:k≠0) (n:Int):optI k n=.tuple [DV.int .i64 (0),DV.int .i64 (k)]:=by unfold optI;rw [if_pos h]
theorem optW_n {k:Int} (h:k≠0) (p:Pl):optLW k p=.tuple [iL [],DV.int .i64 (0),DV.int .i64 (k)]:=by unfold optLW;rw [if_pos h,if_pos h]
theorem dec_same {α:Type} [DecidableEq α] (a:α):decide (a=a)=true:=decide_eq_true rfl
def ShortStandsB (l:List Std):Bool:=(decide ((l.length:Int)≤5) || decide ((l.length:Int)=9)) && l.all fun s=>!decide (40 < (s.name.length:Int))
theorem r_ShortStandsU (l:List Std) (hl:l.length≤9223372036854775807):PC 44 [.list (l.map encT)] (.bool (ShortStandsB l)):=by
 unfold ShortStandsB
 have e0:((l.map encT).length:Int)=l.length:=by simp
 refine pureCall_ofR dh44 rfl ?_
 conv=>whnf
 refine dwp_loopU (P:=Tryz.prog) (G:=GC) (k:=dk44_0) (b:=db44_0) (α:=Nat) (fun i=>[(3,DV.int .i64 (i))]) (fun _=>[]) (fun i=>i≤l.length∧((l.take i).all fun s=>!decide (40 < (s.name.length:Int)))=true) (fun i=>l.length - i) 0 ⟨Nat.zero_le _,rfl⟩ ?_
 conv=>whnf
 refine ⟨rfl,rfl,?_⟩
 conv=>whnf
 refine ⟨rfl,?_⟩
 intro i ⟨h1,h2⟩
 conv=>whnf
 refine ⟨fun hb=>?_,fun hb=>?_⟩
 ·have hi:i < l.length:=by simpa using hb
  clear hb
  conv=>whnf
  rw [getD_enc _ _ (i) T0 hi]
  refine ⟨idxA hi rfl,?_⟩
  conv=>whnf
  refine ⟨fun hg=>?_,fun hg=>?_⟩
  ·have hg:=of_decide_eq_true hg
   conv=>whnf
   have:(l.all fun s=>!decide (40 < (s.name.length:Int)))=false:=by
    rw [List.all_eq_false]
    exact ⟨_,getD_in T0 hi,by rw [decide_eq_true hg];simp⟩
   exact bool_eq (by rw [this,Bool.and_false])
  ·have hg:=of_decide_eq_false hg
   conv=>whnf
   rw [show IntKind.i64.wrap ((i:Int)+1)=((i+1:Nat):Int) from by rw [wrap_in (by omega) (by omega)];omega]
   refine ⟨i+1,rfl,rfl,rfl,⟨hi,?_⟩,by omega⟩
   rw [take_snoc l i T0 hi,List.all_append,h2]
   simp only [List.all_cons,List.all_nil,decide_eq_false hg];rfl
 ·have hi:i=l.length:=by have:=of_decide_eq_false hb;rw [e0] at this;omega
  rw [hi,List.take_length] at h2
  clear hb
  conv=>whnf
  rw [e0]
  repeat' (first
   |(refine ⟨fun hg=>?_,fun hg=>?_⟩<;>first|contradiction|(conv=>whnf))
   |(refine Or.inl ?_;conv=>whnf)
   |(refine And.intro ?_ ?_;kernel_rfl;conv=>whnf))
  all_goals
   refine bool_eq ?_
   rw [h2,Bool.and_true]
   first
    |(rw [show decide ((l.length:Int)≤5)=true from hg];rfl)
    |(rw [show decide ((l.length:Int)≤5)=false from hg,e0];rfl)
theorem ShortStandsB_spec {l:List Std} (h:ShortStandsB l=true):l.length≤9∧∀ s ∈ l,s.name.length≤40:=by
 unfold ShortStandsB at h
 rw [Bool.and_eq_true,Bool.or_eq_true,decide_eq_true_eq,decide_eq_true_eq,List.all_eq_true] at h
 refine ⟨by omega,fun s hs=>?_⟩
 have:=h.2 s hs
 rw [Bool.not_eq_true',decide_eq_false_iff_not] at this
 omega
def ShortStockB (l:List Prt):Bool:=(decide ((l.length:Int)≤6) || decide ((l.length:Int)=17)) && l.all fun s=>!decide (40 < (s.name.length:Int))
theorem r_ShortStockU (l:List Prt) (hl:l.length≤9223372036854775807):PC 62 [.list (l.map encQ)] (.bool (ShortStockB l)):=by
 unfold ShortStockB
 have e0:((l.map encQ).length:Int)=l.length:=by simp
 refine pureCall_ofR dh62 rfl ?_
 conv=>whnf
 refine dwp_loopU (P:=Tryz.prog) (G:=GC) (k:=dk62_0) (b:=db62_0) (α:=Nat) (fun i=>[(3,DV.int .i64 (i))]) (fun _=>[]) (fun i=>i≤l.length∧((l.take i).all fun s=>!decide (40 < (s.name.length:Int)))=true) (fun i=>l.length - i) 0 ⟨Nat.zero_le _,rfl⟩ ?_
 conv=>whnf
 refine ⟨rfl,rfl,?_⟩
 conv=>whnf
 refine ⟨rfl,?_⟩
 intro i ⟨h1,h2⟩
 conv=>whnf
 refine ⟨fun hb=>?_,fun hb=>?_⟩
 ·have hi:i < l.length:=by simpa using hb
  clear hb
  conv=>whnf
  rw [getD_enc _ _ (i) Q0 hi]
  refine ⟨idxA hi rfl,?_⟩
  conv=>whnf
  refine ⟨fun hg=>?_,fun hg=>?_⟩
  ·have hg:=of_decide_eq_true hg
   conv=>whnf
   have:(l.all fun s=>!decide (40 < (s.name.length:Int)))=false:=by
    rw [List.all_eq_false]
    exact ⟨_,getD_in Q0 hi,by rw [decide_eq_true hg];simp⟩
   exact bool_eq (by rw [this,Bool.and_false])
  ·have hg:=of_decide_eq_false hg
   conv=>whnf
   rw [show IntKind.i64.wrap ((i:Int)+1)=((i+1:Nat):Int) from by rw [wrap_in (by omega) (by omega)];omega]
   refine ⟨i+1,rfl,rfl,rfl,⟨hi,?_⟩,by omega⟩
   rw [take_snoc l i Q0 hi,List.all_append,h2]
   simp only [List.all_cons,List.all_nil,decide_eq_false hg];rfl
 ·have hi:i=l.length:=by have:=of_decide_eq_false hb;rw [e0] at this;omega
  rw [hi,List.take_length] at h2
  clear hb
  conv=>whnf
  rw [e0]
  repeat' (first
   |(refine ⟨fun hg=>?_,fun hg=>?_⟩<;>first|contradiction|(conv=>whnf))
   |(refine Or.inl ?_;conv=>whnf)
   |(refine And.intro ?_ ?_;kernel_rfl;conv=>whnf))
  all_goals
   refine bool_eq ?_
   rw [h2,Bool.and_true]
   first
    |(rw [show decide ((l.length:Int)≤6)=true from hg];rfl)
    |(rw [show decide ((l.length:Int)≤6)=false from hg,e0];rfl)
theorem ShortStockB_spec {l:List Prt} (h:ShortStockB l=true):l.length≤17∧∀ s ∈ l,s.name.length≤40:=by
 unfold ShortStockB at h
 rw [Bool.and_eq_true,Bool.or_eq_true,decide_eq_true_eq,decide_eq_true_eq,List.all_eq_true] at h
 refine ⟨by omega,fun s hs=>?_⟩
 have:=h.2 s hs
 rw [Bool.not_eq_true',decide_eq_false_iff_not] at this
 omega
def ShortTakesB (l:List Tke):Bool:=(decide ((l.length:Int)≤6) || decide ((l.length:Int)=17)) && l.all fun s=>!decide (40 < (s.name.length:Int))
theorem r_ShortTakesU (l:List Tke) (hl:l.length≤9223372036854775807):PC 63 [.list (l.map encK)] (.bool (ShortTakesB l)):=by
 unfold ShortTakesB
 have e0:((l.map encK).length:Int)=l.length:=by simp
 refine pureCall_ofR dh63 rfl ?_
 conv=>whnf
 refine dwp_loopU (P:=Tryz.prog) (G:=GC) (k:=dk63_0) (b:=db63_0) (α:=Nat) (fun i=>[(3,DV.int .i64 (i))]) (fun _=>[]) (fun i=>i≤l.length∧((l.take i).all fun s=>!decide (40 < (s.name.length:Int)))=true) (fun i=>l.length - i) 0 ⟨Nat.zero_le _,rfl⟩ ?_
 conv=>whnf
 refine ⟨rfl,rfl,?_⟩
 conv=>whnf
 refine ⟨rfl,?_⟩
 intro i ⟨h1,h2⟩
 conv=>whnf
 refine ⟨fun hb=>?_,fun hb=>?_⟩
 ·have hi:i < l.length:=by simpa using hb
  clear hb
  conv=>whnf
  rw [getD_enc _ _ (i) K0 hi]
  refine ⟨idxA hi rfl,?_⟩
  conv=>whnf
  refine ⟨fun hg=>?_,fun hg=>?_⟩
  ·have hg:=of_decide_eq_true hg
   conv=>whnf
   have:(l.all fun s=>!decide (40 < (s.name.length:Int)))=false:=by
    rw [List.all_eq_false]
    exact ⟨_,getD_in K0 hi,by rw [decide_eq_true hg];simp⟩
   exact bool_eq (by rw [this,Bool.and_false])
  ·have hg:=of_decide_eq_false hg
   conv=>whnf
   rw [show IntKind.i64.wrap ((i:Int)+1)=((i+1:Nat):Int) from by rw [wrap_in (by omega) (by omega)];omega]
   refine ⟨i+1,rfl,rfl,rfl,⟨hi,?_⟩,by omega⟩
   rw [take_snoc l i K0 hi,List.all_append,h2]
   simp only [List.all_cons,List.all_nil,decide_eq_false hg];rfl
 ·have hi:i=l.length:=by have:=of_decide_eq_false hb;rw [e0] at this;omega
  rw [hi,List.take_length] at h2
  clear hb
  conv=>whnf
  rw [e0]
  repeat' (first
   |(refine ⟨fun hg=>?_,fun hg=>?_⟩<;>first|contradiction|(conv=>whnf))
   |(refine Or.inl ?_;conv=>whnf)
   |(refine And.intro ?_ ?_;kernel_rfl;conv=>whnf))
  all_goals
   refine bool_eq ?_
   rw [h2,Bool.and_true]
   first
    |(rw [show decide ((l.length:Int)≤6)=true from hg];rfl)
    |(rw [show decide ((l.length:Int)≤6)=false from hg,e0];rfl)
theorem ShortTakesB_spec {l:List Tke} (h:ShortTakesB l=true):l.length≤17∧∀ s ∈ l,s.name.length≤40:=by
 unfold ShortTakesB at h
 rw [Bool.and_eq_true,Bool.or_eq_true,decide_eq_true_eq,decide_eq_true_eq,List.all_eq_true] at h
 refine ⟨by omega,fun s hs=>?_⟩
 have:=h.2 s hs
 rw [Bool.not_eq_true',decide_eq_false_iff_not] at this
 omega
end Sh

namespace Sh
open Go Go.Proofs Go.Proofs.YtcgajpaohlggpaaGreatDoor
def i64P (n:Int):Prop := -9223372036854775808≤n∧n≤9223372036854775807
theorem i64_of {n:Int} (h:(Lit.int .i64 n).wf=true):i64P n:=by
 unfold Lit.wf at h
 unfold i64P
 simpa [IntKind.min,IntKind.max,IntKind.signed,IntKind.bits] using h
section
variable {P:Program} {H:Type} {enc:TypeId×Value→H} {W:World}
theorem opens_struct4 {t:TypeId} {f0 f1 f2 f3:Field} {α β γ δ:Type} {e0:α→List DV} {B0:α→Prop} {e1:β→List DV} {B1:β→Prop} {e2:γ→List DV} {B2:γ→Prop} {e3:δ→List DV} {B3:δ→Prop} (ht:P.underlying t=some (.struct #[f0,f1,f2,f3])) (c0 c1 c2 c3:Nat)
  (h0:P.cellsOf f0.type=c0) (h1:P.cellsOf f1.type=c1) (h2:P.cellsOf f2.type=c2) (h3:P.cellsOf f3.type=c3) (hc:P.cellsOf t=c0+(c1+(c2+c3))) (o0:f0.offset=0) (o1:f1.offset=c0) (o2:f2.offset=c0+c1) (o3:f3.offset=c0+c1+c2)
  (k0:Opens enc P W f0.type e0 B0) (k1:Opens enc P W f1.type e1 B1) (k2:Opens enc P W f2.type e2 B2) (k3:Opens enc P W f3.type e3 B3) :
  Opens enc P W t (fun a:α×β×γ×δ=>e0 a.1++(e1 a.2.1++(e2 a.2.2.1++e3 a.2.2.2))) (fun a=>B0 a.1∧B1 a.2.1∧B2 a.2.2.1∧B3 a.2.2.2):=by
 intro base sp hd fuel cs x hx
 obtain ⟨xs,n,_,_,hl,hlen,hf⟩:=DataW.trod_struct ht hx
 match xs,hlen with
 |[y0,y1,y2,y3],_ =>
  have r0:=hf 0 f0 rfl
  have r1:=hf 1 f1 rfl
  have r2:=hf 2 f2 rfl
  have r3:=hf 3 f3 rfl
  rw [h0,o0] at r0
  rw [h1,o1] at r1
  rw [h2,o2] at r2
  rw [h3,o3] at r3
  rw [hc] at hl
  obtain ⟨a,a1,a2⟩:=k0 _ _ _ _ _ _ r0
  obtain ⟨b,b1,b2⟩:=k1 _ _ _ _ _ _ r1
  obtain ⟨c,d1,d2⟩:=k2 _ _ _ _ _ _ r2
  obtain ⟨d,f1,f2⟩:=k3 _ _ _ _ _ _ r3
  refine ⟨(a,b,c,d),?_,a2,b2,d2,f2⟩
  have h4:=a1.append (b1.append (d1.append f1))
  have e4:(cs.drop (c0+c1)).take c2++(cs.drop (c0+c1+c2)).take c3=cs.drop (c0+c1):=by
   have:=split2 (cs:=cs.drop (c0+c1)) (c0:=c2) (c1:=c3) (by simp;omega)
   rwa [List.drop_drop,List.drop_drop,Nat.add_zero] at this
  have e3:(cs.drop c0).take c1++cs.drop (c0+c1)=cs.drop c0:=by
   rw [← List.drop_drop,List.take_append_drop]
  rw [e4,e3,List.drop_zero,List.take_append_drop] at h4
  exact h4
theorem opens_struct6 {t:TypeId} {f0 f1 f2 f3 f4 f5:Field} {α β γ δ ε ζ:Type} {e0:α→List DV} {B0:α→Prop} {e1:β→List DV} {B1:β→Prop} {e2:γ→List DV} {B2:γ→Prop} {e3:δ→List DV} {B3:δ→Prop} {e4:ε→List DV} {B4:ε→Prop} {e5:ζ→List DV} {B5:ζ→Prop}
  (ht:P.underlying t=some (.struct #[f0,f1,f2,f3,f4,f5])) (h0:P.cellsOf f0.type=1) (h1:P.cellsOf f1.type=1) (h2:P.cellsOf f2.type=1) (h3:P.cellsOf f3.type=1) (h4:P.cellsOf f4.type=1) (h5:P.cellsOf f5.type=1) (hc:P.cellsOf t=6)
  (o0:f0.offset=0) (o1:f1.offset=1) (o2:f2.offset=2) (o3:f3.offset=3) (o4:f4.offset=4) (o5:f5.offset=5)
  (k0:Opens enc P W f0.type e0 B0) (k1:Opens enc P W f1.type e1 B1) (k2:Opens enc P W f2.type e2 B2) (k3:Opens enc P W f3.type e3 B3) (k4:Opens enc P W f4.type e4 B4) (k5:Opens enc P W f5.type e5 B5) :
  Opens enc P W t (fun a:α×β×γ×δ×ε×ζ=>e0 a.1++(e1 a.2.1++(e2 a.2.2.1++(e3 a.2.2.2.1++(e4 a.2.2.2.2.1++e5 a.2.2.2.2.2))))) (fun a=>B0 a.1∧B1 a.2.1∧B2 a.2.2.1∧B3 a.2.2.2.1∧B4 a.2.2.2.2.1∧B5 a.2.2.2.2.2):=by
 intro base sp hd fuel cs x hx
 obtain ⟨xs,n,_,_,hl,hlen,hf⟩:=DataW.trod_struct ht hx
 match xs,hlen with
 |[y0,y1,y2,y3,y4,y5],_ =>
  have r0:=hf 0 f0 rfl
  have r1:=hf 1 f1 rfl
  have r2:=hf 2 f2 rfl
  have r3:=hf 3 f3 rfl
  have r4:=hf 4 f4 rfl
  have r5:=hf 5 f5 rfl
  rw [h0,o0] at r0
  rw [h1,o1] at r1
  rw [h2,o2] at r2
  rw [h3,o3] at r3
  rw [h4,o4] at r4
  rw [h5,o5] at r5
  rw [hc] at hl
  obtain ⟨a,a1,a2⟩:=k0 _ _ _ _ _ _ r0
  obtain ⟨b,b1,b2⟩:=k1 _ _ _ _ _ _ r1
  obtain ⟨c,c1,c2⟩:=k2 _ _ _ _ _ _ r2
  obtain ⟨d,d1,d2⟩:=k3 _ _ _ _ _ _ r3
  obtain ⟨e,e1,e2⟩:=k4 _ _ _ _ _ _ r4
  obtain ⟨f,f1,f2⟩:=k5 _ _ _ _ _ _ r5
  refine ⟨(a,b,c,d,e,f),?_,a2,b2,c2,d2,e2,f2⟩
  have hh:=a1.append (b1.append (c1.append (d1.append (e1.append f1))))
  match cs,hl with
  |[z0,z1,z2,z3,z4,z5],_=>exact hh
end
theorem A_laid:laidOutB Tryz.prog=true:=by kernel_rfl
theorem own:ownKnob Tryz.prog.godebug=none:=by kernel_rfl
theorem cl3:Tryz.prog.cellsOf 3=1:=by kernel_rfl
theorem cl9:Tryz.prog.cellsOf 9=1:=by kernel_rfl
theorem cl25:Tryz.prog.cellsOf 25=1:=by kernel_rfl
theorem cl123:Tryz.prog.cellsOf 123=3:=by kernel_rfl
theorem cl22:Tryz.prog.cellsOf 22=1:=by kernel_rfl
theorem cl24:Tryz.prog.cellsOf 24=6:=by kernel_rfl
theorem cl60:Tryz.prog.cellsOf 60=2:=by kernel_rfl
theorem cl62:Tryz.prog.cellsOf 62=4:=by kernel_rfl
theorem cl131:Tryz.prog.cellsOf 131=5:=by kernel_rfl
theorem cl63:Tryz.prog.cellsOf 63=1:=by kernel_rfl
theorem cl65:Tryz.prog.cellsOf 65=2:=by kernel_rfl
theorem cl139:Tryz.prog.cellsOf 139=3:=by kernel_rfl
theorem cl87:Tryz.prog.cellsOf 87=1:=by kernel_rfl
theorem cl138:Tryz.prog.cellsOf 138=2:=by kernel_rfl
theorem cl88:Tryz.prog.cellsOf 88=1:=by kernel_rfl
theorem cl134:Tryz.prog.cellsOf 134=2:=by kernel_rfl
theorem cl119:Tryz.prog.cellsOf 119=1:=by kernel_rfl
theorem cl120:Tryz.prog.cellsOf 120=4:=by kernel_rfl
theorem cl126:Tryz.prog.cellsOf 126=3:=by kernel_rfl
theorem cl234:Tryz.prog.cellsOf 234=2:=by kernel_rfl
theorem cl235:Tryz.prog.cellsOf 235=6:=by kernel_rfl
theorem cl216:Tryz.prog.cellsOf 216=1:=by kernel_rfl
section
variable {H:Type} {enc:TypeId×Value→H} {W:World}
theorem opInts:Opens enc Tryz.prog W 25 (fun l:List Int=>[iL l]) (fun l=>l.length≤9223372036854775807) :=
 (opens_slice Tryz.underlying25 1 cl3 (by decide) (f:=DV.int .i64) (opens_int Tryz.underlying3)).map id (fun _=>rfl) (fun _ h=>h.1)
theorem opDy:Opens enc Tryz.prog W 123 (fun d:Dy=>(encD d).cells) (fun _=>True) :=
 (opens_struct3 Tryz.underlying123 1 1 1 cl3 cl3 cl3 cl123 rfl rfl rfl (opens_int Tryz.underlying3) (opens_int Tryz.underlying3) (opens_int Tryz.underlying3)).map (fun a=>Dy.mk a.1 a.2.1 a.2.2) (fun _=>rfl) (fun _ _=>trivial)
theorem opDys:Opens enc Tryz.prog W 22 (fun l:List Dy=>[dysV l]) (fun l=>l.length≤9223372036854775807) :=
 (opens_slice Tryz.underlying22 3 cl123 (by decide) (f:=encD) opDy).map id (fun _=>rfl) (fun _ h=>h.1)
theorem opSn:Opens enc Tryz.prog W 24 (fun s:Sn=>(encS s).cells) (fun s=>s.days.length≤9223372036854775807) :=
 (opens_struct6 Tryz.underlying24 cl3 cl3 cl3 cl22 cl3 cl3 cl24 rfl rfl rfl rfl rfl rfl (opens_int Tryz.underlying3) (opens_int Tryz.underlying3) (opens_int Tryz.underlying3) opDys (opens_int Tryz.underlying3) (opens_int Tryz.underlying3)).map (fun a=>(⟨a.1,a.2.1,a.2.2.1,a.2.2.2.1,a.2.2.2.2.1,a.2.2.2.2.2⟩:Sn)) (fun _=>rfl) (fun _ h=>h.2.2.2.1)
theorem opPt:Opens enc Tryz.prog W 60 (fun p:Pt=>(encPt p).cells) (fun _=>True) :=
 (opens_struct2 Tryz.underlying60 1 1 cl3 cl3 cl60 rfl rfl (opens_int Tryz.underlying3) (opens_int Tryz.underlying3)).map (fun a=>Pt.mk a.1 a.2) (fun _=>rfl) (fun _ _=>trivial)
theorem opCr:Opens enc Tryz.prog W 62 (fun c:Crw=>(encC c).cells) (fun c=>i64P c.tank∧i64P c.price) :=
 (opens_struct3 Tryz.underlying62 2 1 1 cl60 cl3 cl3 cl62 rfl rfl rfl opPt (opens_int Tryz.underlying3) (opens_int Tryz.underlying3)).map (fun a=>Crw.mk a.1 a.2.1 a.2.2) (fun _=>rfl) (fun _ h=>⟨i64_of h.2.1,i64_of h.2.2⟩)
theorem opSt:Opens enc Tryz.prog W 131 (fun s:Std=>(encT s).cells) (fun _=>True) :=
 (opens_struct4 Tryz.underlying131 1 2 1 1 cl9 cl60 cl3 cl3 cl131 rfl rfl rfl rfl (opens_string Tryz.underlying9) opPt (opens_int Tryz.underlying3) (opens_int Tryz.underlying3)).map (fun a=>Std.mk a.1 a.2.1 a.2.2.1 a.2.2.2) (fun _=>rfl) (fun _ _=>trivial)
theorem opSts:Opens enc Tryz.prog W 63 (fun l:List Std=>[tsV l]) (fun l=>l.length≤9223372036854775807) :=
 (opens_slice Tryz.underlying63 5 cl131 (by decide) (f:=encT) opSt).map id (fun _=>rfl) (fun _ h=>h.1)
theorem opPr:Opens enc Tryz.prog W 139 (fun s:Prt=>(encQ s).cells) (fun _=>True) :=
 (opens_struct3 Tryz.underlying139 1 1 1 cl9 cl3 cl3 cl139 rfl rfl rfl (opens_string Tryz.underlying9) (opens_int Tryz.underlying3) (opens_int Tryz.underlying3)).map (fun a=>Prt.mk a.1 a.2.1 a.2.2) (fun _=>rfl) (fun _ _=>trivial)
theorem opPrs:Opens enc Tryz.prog W 87 (fun l:List Prt=>[qsV l]) (fun l=>l.length≤9223372036854775807) :=
 (opens_slice Tryz.underlying87 3 cl139 (by decide) (f:=encQ) opPr).map id (fun _=>rfl) (fun _ h=>h.1)
theorem opTk:Opens enc Tryz.prog W 138 (fun s:Tke=>(encK s).cells) (fun _=>True) :=
 (opens_struct2 Tryz.underlying138 1 1 cl9 cl3 cl138 rfl rfl (opens_string Tryz.underlying9) (opens_int Tryz.underlying3)).map (fun a=>Tke.mk a.1 a.2) (fun _=>rfl) (fun _ _=>trivial)
theorem opTks:Opens enc Tryz.prog W 88 (fun l:List Tke=>[ksV l]) (fun l=>l.length≤9223372036854775807) :=
 (opens_slice Tryz.underlying88 2 cl138 (by decide) (f:=encK) opTk).map id (fun _=>rfl) (fun _ h=>h.1)
def encX (x:List Int×List Int):DV:=.agg [iL x.1,iL x.2]
theorem opX:Opens enc Tryz.prog W 65 (fun x:List Int×List Int=>(encX x).cells) (fun _=>True) :=
 (opens_struct2 Tryz.underlying65 1 1 cl25 cl25 cl65 rfl rfl opInts opInts).map id (fun _=>rfl) (fun _ _=>trivial)
def encY (y:List Dy×List UInt8):DV:=.agg [dysV y.1,.str y.2]
theorem opY:Opens enc Tryz.prog W 134 (fun y:List Dy×List UInt8=>(encY y).cells) (fun y=>y.1.length≤9223372036854775807) :=
 (opens_struct2 Tryz.underlying134 1 1 cl22 cl9 cl134 rfl rfl opDys (opens_string Tryz.underlying9)).map id (fun _=>rfl) (fun _ h=>h.1)
end
theorem known_crit {W:World} (s:List UInt8) {b:UInt8} {r:List UInt8} {f0:FuncId} (hone:((List.range Tryz.prog.funcs.size).filter fun f=>(Tryz.prog.funcs[f]?).any (·.name.toUTF8.data.toList == b :: r))=[f0]) :
  Known (funcToken Tryz.prog) Tryz.prog W 234 (.agg [.lit (.string s),.held (b :: r)]) [.str s,.func f0 []] :=
 known_struct2 (d0:=[.str s]) (d1:=[.func f0 []]) Tryz.underlying234 1 1 cl9 cl216 cl234 rfl rfl (known_string Tryz.underlying9 s) (known_func Tryz.underlying216 hone)
def cName (k:UInt8):List UInt8:=[111,109,98,105,110,101,114,47,119,97,115,104,46,99,114,105,116,101,114,105,97,36,k]
def critX:List (DataW (List UInt8)):=[.agg [.lit (.string [119,111,114,116,104]),.held (99 :: cName 49)],.agg [.lit (.string [110,117,109,98,101,114]),.held (99 :: cName 50)],.agg [.lit (.string [102,105,114,115,116]),.held (99 :: cName 51)]]
def critD:List (List DV):=[[.str [119,111,114,116,104],.func 213 []],[.str [110,117,109,98,101,114],.func 215 []],[.str [102,105,114,115,116],.func 216 []]]
theorem known_crits {W:World}:Known (funcToken Tryz.prog) Tryz.prog W 235 (.agg critX) critD.flatten:=by
 refine known_array (c:=2) Tryz.underlying235 cl234 cl235 rfl ?_
 intro i x ds e1 e2
 match i,e1,e2 with
 |0,e1,e2=>cases Option.some.inj e1;cases Option.some.inj e2;exact known_crit _ (by kernel_rfl)
 |1,e1,e2=>cases Option.some.inj e1;cases Option.some.inj e2;exact known_crit _ (by kernel_rfl)
 |2,e1,e2=>cases Option.some.inj e1;cases Option.some.inj e2;exact known_crit _ (by kernel_rfl)
section
variable {L:List (String×DataW Unit)}
theorem crit_at (hm:("combiner/wash.criteria",Rows.laid_combiner_wash_criteria) ∈ L) {W:World} (h:laidMetH Tryz.prog L W):∃ cs:Array Value,W.var? Tryz.prog "combiner/wash.criteria"=some cs∧RelL (memOf W) critD.flatten cs.toList:=by
 obtain ⟨g,t,cs,fuel,p,hg,ht,hv,hd⟩:=h.funcs (n := "combiner/wash.criteria") hm
 obtain rfl:=Option.some.inj ((show Tryz.prog.globalNamed "combiner/wash.criteria"=some 0 by kernel_rfl).symm.trans hg)
 obtain rfl:=Option.some.inj ((show (Tryz.prog.globals[0]?).map (·.type)=some 235 by kernel_rfl).symm.trans ht)
 have hd':DataW.trod (funcToken Tryz.prog) Tryz.prog W 0 (fun _=>true) true fuel 235 cs.toList=some (.agg critX,p):=hd
 exact ⟨cs,hv,known_crits _ _ _ _ _ hd'⟩
theorem pow_at (e:(L.filter fun x=>x.1 == "internal/strconv.uint64pow10")=[("internal/strconv.uint64pow10",Lib.tabData .u64 Lib.pow10Tab)]) {W:World} (h:laidMetH Tryz.prog L W):Lib.TabIs Tryz.prog W "internal/strconv.uint64pow10" .u64 Lib.pow10Tab:=by
 have h1:=h.filter fun x=>x.1 == "internal/strconv.uint64pow10"
 rw [e,MakeChecks.laidMetH_plain _ _ _ (by kernel_rfl)] at h1
 exact Lib.tabIs_of_head (g:=2) (t:=254) (e:=247) (n:=20) (by kernel_rfl) (by kernel_rfl) Tryz.underlying254 Tryz.underlying247 (by kernel_rfl) (by kernel_rfl) h1
theorem len_at {W:World} (hsh:W.ShapedOpen Tryz.prog):(∃ m,W.cell? ⟨1,0,none⟩=some (.int .i64 m))∧blockLen W 1=some 1 :=
 open_var (t:=3) (zero:=#[.int .i64 0]) hsh (of_decide_eq_true (by kernel_rfl)) (by kernel_rfl) rfl (by kernel_rfl) (by kernel_rfl) Tryz.underlying3
theorem gokC (hm:("combiner/wash.criteria",Rows.laid_combiner_wash_criteria) ∈ L) (e:(L.filter fun x=>x.1 == "internal/strconv.uint64pow10")=[("internal/strconv.uint64pow10",Lib.tabData .u64 Lib.pow10Tab)]) {W:World} (h:laidMetH Tryz.prog L W) (hsh:W.ShapedOpen Tryz.prog):GOk GC (memOf W)∧Tabs GC W:=by
 obtain ⟨cs,hv,hr⟩:=crit_at hm h
 have hp:=pow_at e h
 have hm:=len_at hsh
 unfold Lib.TabIs at hp
 have g0:Tryz.prog.globalNamed "combiner/wash.criteria"=some 0:=by kernel_rfl
 have g2:Tryz.prog.globalNamed "internal/strconv.uint64pow10"=some 2:=by kernel_rfl
 refine ⟨fun g d hg=>?_,fun g d hg=>?_⟩
 all_goals unfold GC at hg
 all_goals split at hg
 ·next e =>
  subst e
  obtain rfl:=Option.some.inj hg
  exact gok_of (cs:=cs) (fun i=>World.var?_cell g0 hv i) hr
 ·split at hg
  ·next e =>
   subst e
   obtain rfl:=Option.some.inj hg
   exact gok_of (fun i=>World.var?_cell g2 hp i) (by simpa using relL_ints Lib.pow10Tab)
  ·split at hg
   ·next e =>
    subst e
    obtain rfl:=Option.some.inj hg
    exact gok_open hm.1
   ·cases hg
 ·next e =>
  subst e
  obtain rfl:=Option.some.inj hg
  refine ⟨?_,fun ho=>by cases ho⟩
  rw [len_of g0 hv,← Array.length_toList,← hr.1]
  rfl
 ·split at hg
  ·next e =>
   subst e
   obtain rfl:=Option.some.inj hg
   refine ⟨?_,fun ho=>by cases ho⟩
   rw [len_of g2 hp]
   rfl
  ·split at hg
   ·next e =>
    subst e
    obtain rfl:=Option.some.inj hg
    exact ⟨hm.2,fun _=>hm.1⟩
   ·cases hg
end
noncomputable def startW (os:Os):World:=(World.doorLaid Tryz.prog 600 os).layVars Tryz.prog [("unicode/utf8.first",Go.Pinned.utf8First)]
theorem ajI {a b:Bool} (h:a=true) (k:b=true):(a && b)=true:=by rw [h,k];rfl
theorem J_maps:(mapsRowed Tryz.prog)=true:=by kernel_rfl
theorem J_keys:((Rows.washSeasonsRow.plainKeys == Tryz.prog.plainKeys))=true:=by kernel_rfl
theorem J_heard:(Tryz.prog.stopsHeard)=true:=by kernel_rfl
theorem J_enter:(Tryz.prog.mayEnter)=true:=by kernel_rfl
theorem J_lift:((Rows.washSeasonsRow.lifted == Tryz.prog.liftsFinal))=true:=by kernel_rfl
theorem J_make:((Tryz.prog.make == some Rows.washSeasonsRow.make))=true:=by kernel_rfl
end Sh
