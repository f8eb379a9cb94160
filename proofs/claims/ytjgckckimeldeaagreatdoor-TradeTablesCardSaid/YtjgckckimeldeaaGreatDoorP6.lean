/-
  Chapter 9's functions, walked over pure data: the library of the walk, the functions' code over data, and what each computes. (part 6)
-/
import Derived.Test.YtjgckckimeldeaaGreatDoorP5
import Derived.Lib.MapLaws
import Derived.Lib.ItoaLen
import Derived.Test.YtjgckckimeldeaaGreatDoorProg
import Derived.Lay
import Derived.Test.YtjgckckimeldeaaGreatDoorRows
import Derived.Test.YtjgckckimeldeaaGreatDoorCards
import Derived.Test.YtjgckckimeldeaaGreatDoorTie
set_option linter.unusedVariables false
set_option linter.unusedSimpArgs false
set_option maxRecDepth 100000
namespace Sh
open Go Go.Proofs
theorem all_no {α:Type} {f:α→Bool} {l:List α} {j:Nat} (d:α) (h:j < l.length) (hf:f (l.getD j d)=false):l.all f=false:=by
 rw [List.all_eq_false]
 exact ⟨_,getD_in d h,by rw [hf];exact Bool.false_ne_true⟩
theorem bad_nm {b:List UInt8} {m:Bool} (h:(b.all isD && decide (b.length≤9))=false):nmS b m=(0,false):=by
 unfold nmS;rw [h];rfl
theorem c_integer (s:List UInt8) (hs:s.length < 1073741824):PC 157 [.str s] (.tuple [DV.int .i64 ((sgnS s).1),.bool (sgnS s).2]):=by
 have hb:=trimP_len s [45]
 have k1:=s_CutPrefix s [45] (by omega)
 rw [sgn_nm s]
 generalize Lib.trimPrefix s [45]=b at *
 generalize Lib.hasPrefix s [45]=m at *
 refine pureCall_ofR dh157 rfl ?_
 conv=>whnf
 repeat' (first
  |(refine ⟨fun hg=>?_,fun hg=>?_⟩<;>first|contradiction|(conv=>whnf))
  |(refine Or.inl ?_;conv=>whnf)
  |(refine ⟨_,k1,?_⟩;conv=>whnf)
  |(refine And.intro ?_ ?_;kernel_rfl;conv=>whnf))
 refine dwp_loopU (P:=Tryz.prog) (G:=GC) (k:=dk157_0) (b:=db157_0) (α:=Nat) (fun k=>[(6,DV.int .i64 (valD (b.take k) 0))]) (fun k=>[(15,.siter b k)]) (fun k=>k≤b.length∧(b.take k).all isD=true∧(0 < k→b.length≤9)) (fun k=>b.length - k) 0 ⟨Nat.zero_le _,rfl,fun h=>absurd h (by omega)⟩ ?_
 conv=>whnf
 refine ⟨rfl,rfl,?_⟩
 conv=>whnf
 refine ⟨rfl,?_⟩
 intro k ⟨h1,h2,h3⟩
 by_cases hk:k < b.length
 ·have hb:Nat.blt k b.length=true:=Nat.ble_eq_true_of_le hk
  dsimp only
  conv=>whnf
  generalize hE:evalOp _ _ _ _=E
  have:E=.ok none (.tuple [.bool true,DV.int .i64 ((k:Nat)),.int .i32 ((sdecode b k).1:Nat)]) [(15,.siter b (k+(sdecode b k).2))]:=by
   rw [← hE]
   show (match Nat.blt k b.length with
    |true=>Ev.ok none (.tuple [.bool true,DV.int .i64 ((k:Nat)),.int .i32 ((sdecode b k).1:Nat)]) [(15,.siter b (k+(sdecode b k).2))]
    |false=>Ev.ok none (.tuple [.bool false]) [])=_
   rw [hb]
  subst this
  clear hE
  cases hd:isD (b.getD k 0) with
  |true =>
   rw [rune_yes b k hd]
   dsimp only
   have hd2:=(isD_iff _).1 hd
   have hst:valD (b.take (k+1)) 0=10 * valD (b.take k) 0+(((b.getD k 0).toNat:Int) - 48):=by
    rw [take_snoc b k 0 hk,valD_append];rfl
   have hall:(b.take (k+1)).all isD=true:=all_take isD b k 0 hk h2 hd
   generalize hcc:(b.getD k 0).toNat=c at *
   conv=>whnf
   repeat' (first
    |(refine ⟨fun hg=>?_,fun hg=>?_⟩<;>first|contradiction|(conv=>whnf))
    |(refine Or.inl ?_;conv=>whnf)
    |(refine And.intro ?_ ?_;kernel_rfl;conv=>whnf))
   any_goals
    rw [show nmS b m=(0,false) from by
     refine bad_nm ?_
     cases hq:(b.all isD && decide (b.length≤9)) with
     |false=>rfl
     |true =>
     exfalso
     have h:=hq
     rw [Bool.and_eq_true,decide_eq_true_eq] at h
     first
     |(have:=of_decide_eq_true (show decide ((9:Int) < (b.length:Int))=true from ‹(bif false then true else decide ((9:Int) < (b.length:Int)))=true›);omega)
     |(have:=of_decide_eq_true (show decide ((57:Int) < (c:Int))=true from ‹(bif false then true else decide ((57:Int) < (c:Int)))=!false›);omega)
     |(have:=of_decide_eq_true (show decide ((c:Int) < 48)=true from ‹decide ((c:Int) < 48)=!false›);omega)]
    rfl
   have h9:=of_decide_eq_false (show decide ((9:Int) < (b.length:Int))=false from hg)
   have hv:=valD_bd (b.take k) 0 0 h2 (Int.le_refl _) (by decide)
   have hp:(10:Int) ^ (0+(b.take k).length)≤10 ^ 9:=by
    have:(10:Nat) ^ (0+(b.take k).length)≤10 ^ 9:=Nat.pow_le_pow_right (by decide) (by simp;omega)
    exact_mod_cast this
   have hp9:(10:Int) ^ 9=1000000000:=by decide
   have ew:IntKind.i64.wrap (IntKind.i64.wrap (10 * valD (b.take k) 0)+IntKind.i64.wrap (IntKind.i32.wrap ((c:Int) - 48)))=valD (b.take (k+1)) 0:=by
    rw [hst,wrap_i32 (by omega) (by omega),wrap_in (n:=(c:Int) - 48) (by omega) (by omega),wrap_in (n:=10 * valD (b.take k) 0) (by omega) (by omega),wrap_in (by omega) (by omega)]
   rw [ew]
   exact ⟨k+1,rfl,rfl,rfl,⟨hk,hall,fun _=>by omega⟩,by omega⟩
  |false =>
   have hr:=rune_no b k hd
   generalize (sdecode b k).1=r at *
   generalize (sdecode b k).2=q at *
   have hno:b.all isD=false:=all_no 0 hk hd
   conv=>whnf
   repeat' (first
    |(refine ⟨fun hg=>?_,fun hg=>?_⟩<;>first|contradiction|(conv=>whnf))
    |(refine Or.inl ?_;conv=>whnf)
    |(refine And.intro ?_ ?_;kernel_rfl;conv=>whnf))
   any_goals
    rw [show nmS b m=(0,false) from bad_nm (by rw [hno];rfl)]
    rfl
   exfalso
   have h57:=of_decide_eq_false (show decide ((57:Int) < (r:Int))=false from ‹(bif false then true else decide ((57:Int) < (r:Int)))=false›)
   have h48:=of_decide_eq_false ‹decide ((r:Int) < 48)=false›
   omega
 ·have hb:Nat.blt k b.length=false:=by
   cases h:Nat.blt k b.length with
   |false=>rfl
   |true=>exact absurd (Nat.le_of_ble_eq_true h) hk
  have hks:k=b.length:=by omega
  subst hks
  dsimp only
  conv=>whnf
  generalize hE:evalOp _ _ _ _=E
  have:E=.ok none (.tuple [.bool false]) []:=by
   rw [← hE]
   show (match Nat.blt b.length b.length with
    |true=>Ev.ok none (.tuple [.bool true,DV.int .i64 ((b.length:Nat)),.int .i32 ((sdecode b b.length).1:Nat)]) [(15,.siter b (b.length+(sdecode b b.length).2))]
    |false=>Ev.ok none (.tuple [.bool false]) [])=_
   rw [hb]
  subst this
  clear hE
  rw [List.take_length] at h2
  have hl9:b.length≤9:=by
   by_cases h0:0 < b.length
   ·exact h3 h0
   ·omega
  have hcond:(b.all isD && decide (b.length≤9))=true:=by rw [h2,decide_eq_true hl9];rfl
  have hv:=valD_bd b 0 0 h2 (Int.le_refl _) (by decide)
  have hp:(10:Int) ^ (0+b.length)≤10 ^ 9:=by
   have:(10:Nat) ^ (0+b.length)≤10 ^ 9:=Nat.pow_le_pow_right (by decide) (by omega)
   exact_mod_cast this
  have hp9:(10:Int) ^ 9=1000000000:=by decide
  have hneg:IntKind.i64.wrap (-(valD b 0)) = -(valD b 0):=wrap_in (by omega) (by omega)
  rw [List.take_length]
  by_cases h0:b=[]
  ·have hnm:nmS b m=(0,false):=by unfold nmS;rw [hcond,decide_eq_false (show ¬ b≠[] from fun h=>h h0)];rfl
   rw [hnm]
   clear hnm hneg hv hp hcond
   subst h0
   conv=>whnf
   repeat' (first
    |(refine ⟨fun hg=>?_,fun hg=>?_⟩<;>first|contradiction|(conv=>whnf))
    |(refine Or.inl ?_;conv=>whnf)
    |(refine And.intro ?_ ?_;kernel_rfl;conv=>whnf))
   all_goals rfl
  ·have hl0:=List.length_pos_iff.2 h0
   have hnm:nmS b m=if (decide (b.getD 0 0=48) && (decide (1 < b.length) || m)) then (0,false) else (if m then -(valD b 0) else valD b 0,true):=by
    unfold nmS;rw [hcond,decide_eq_true h0]
    cases (decide (b.getD 0 0=48) && (decide (1 < b.length) || m))<;>rfl
   have h48:decide (((b.getD 0 0).toNat:Int)=48)=decide (b.getD 0 0=48):=by
    have h48:(48:UInt8).toNat=48:=rfl
    congr 1;apply propext
    exact ⟨fun h=>UInt8.toNat_inj.1 (by omega),fun h=>by rw [h];rfl⟩
   have h1l:decide ((1:Int) < (b.length:Int))=decide (1 < b.length):=by congr 1;apply propext;omega
   have hbe:decide (b=(⟨#[]⟩:ByteArray).data.toList)=false:=decide_eq_false h0
   clear hcond hv hp hp9 hbe
   cases m
   all_goals
    conv=>whnf
    repeat' (first
     |(refine ⟨fun hg=>?_,fun hg=>?_⟩<;>first|contradiction|(conv=>whnf))
     |(refine Or.inl ?_;conv=>whnf)
     |(refine ⟨⟨by decide,by omega⟩,?_⟩;conv=>whnf)
     |(refine And.intro ?_ ?_;kernel_rfl;conv=>whnf))
    all_goals
     first
     |(exfalso;exact h0 (of_decide_eq_true (show decide (b=[])=true from ‹decide (b=(⟨#[]⟩:ByteArray).data.toList)=!false›)))
     |(exfalso;exact h0 (of_decide_eq_true (show decide (b=[])=true from ‹decide (b=(⟨#[]⟩:ByteArray).data.toList)=true›)))
     |(rw [hnm]
       first
       |(have hX:decide (b.getD 0 0=48)=false:=by (rw [← h48];(first|exact ‹decide (((b.getD (Int.toNat 0) 0).toNat:Int)=48)=false›|exact ‹decide (((b.getD (Int.toNat 0) 0).toNat:Int)=48)=!true›))
         rw [hX]
         first|rfl|(rw [hneg];rfl))
       |(have hX:decide (b.getD 0 0=48)=true:=by (rw [← h48];(first|exact ‹decide (((b.getD (Int.toNat 0) 0).toNat:Int)=48)=true›|exact ‹decide (((b.getD (Int.toNat 0) 0).toNat:Int)=48)=!false›))
         rw [hX]
         first
         |rfl
         |(have hY:decide (1 < b.length)=true:=by (rw [← h1l];(first|exact ‹decide ((1:Int) < (b.length:Int))=true›|exact ‹decide ((1:Int) < (b.length:Int))=!false›))
           rw [hY];rfl)
         |(have hY:decide (1 < b.length)=false:=by (rw [← h1l];(first|exact ‹decide ((1:Int) < (b.length:Int))=false›|exact ‹decide ((1:Int) < (b.length:Int))=!true›))
           rw [hY]
           first|rfl|(rw [hneg];rfl))))
end Sh

namespace Sh
open Go
def offB:List UInt8:=[111,102,102,101,114]
def numsO (o:Of):List Int:=[o.sl,o.un,o.pr]
def linO (o:Of):List UInt8:=offB++32 :: (o.nm++wn (numsO o))
def wrongO (w:List (List UInt8)):Bool:=!(decide (w.length=5) && decide (w.getD 0 []=offB) && !decide (w.getD 1 []=[]) && (w.drop 2).all fun x=>(sgnS x).2)
def ofW (w:List (List UInt8)):Of:=⟨w.getD 1 [],(sgnS (w.getD 2 [])).1,(sgnS (w.getD 3 [])).1,(sgnS (w.getD 4 [])).1⟩
def chkO (l:List Of):Int:=chkOf l 24
def parOs (s:List UInt8):List Of×Int×Int:=parG wrongO ofW chkO s
def prtOs (l:List Of):List UInt8×Int:=if chkO l≠0 then ([],chkO l) else (prtG linO l,0)
theorem linO_join (o:Of):Lib.join (offB :: o.nm :: (numsO o).map Lib.itoa) [32]=linO o:=rfl
theorem linO_len {o:Of} (h:OkO 24 o):(linO o).length≤100:=by
 obtain ⟨h0,h1,h2,h3,h4,h5,h6⟩:=h
 have t0:=(nameB_len h0).2
 have t1:=Lib.itoa_length_le o.sl (by omega) (by omega)
 have t2:=Lib.itoa_length_le o.un (by omega) (by omega)
 have t3:=Lib.itoa_length_le o.pr (by omega) (by omega)
 unfold linO numsO
 rw [wn_cons,wn_cons,wn_cons,wn_nil,show offB=[111,102,102,101,114] from rfl]
 simp only [List.length_append,List.length_cons,List.length_nil]
 omega
theorem prtO_len {l:List Of} (h:∀ d ∈ l,OkO 24 d):(prtG linO l).length≤101 * l.length:=by
 induction l with
 |nil=>exact Nat.le_refl _
 |cons s r ih =>
  have i1:=ih (fun t ht=>h t (List.mem_cons_of_mem _ ht))
  have i2:=linO_len (h s (List.mem_cons_self ..))
  unfold prtG at *
  rw [List.flatMap_cons,List.length_append,List.length_append,List.length_cons]
  simp only [List.length_cons,List.length_nil]
  omega
def hdW (ws:List (List UInt8)):List UInt8:=ws.headD []
def numT (ws:List (List UInt8)):Int:=(sgnS (hdW ws)).1
def wrT (wr:Bool) (ws:List (List UInt8)):Bool:=wr || !(sgnS (hdW ws)).2
def wrK (D:List (List UInt8)):Nat→Bool
 |0=>D.isEmpty
 |k+1=>wrT (wrK D k) (D.drop (k+1))
def numK (D:List (List UInt8)) (k:Nat):Int:=numT (D.drop (k+1))
theorem hdW_drop (D:List (List UInt8)) (k:Nat):hdW (D.drop k)=D.getD k []:=by
 unfold hdW
 rw [List.headD_eq_head?_getD,List.head?_drop,List.getD_eq_getElem?_getD]
theorem wrT_empty (wr:Bool) (ws:List (List UInt8)):((wr || ws.isEmpty) || !(sgnS (hdW ws)).2)=wrT wr ws:=by
 unfold wrT
 cases ws with
 |nil=>cases wr<;>rfl
 |cons a r=>simp
theorem wrongO_read (w0:List UInt8) (D:List (List UInt8)):wrongO (w0 :: D)=(!decide (w0=offB) || decide (hdW D=[]) || wrK D 3 || decide (0 < D.length - 4))∧(ofW (w0 :: D)=⟨hdW D,numK D 0,numK D 1,numK D 2⟩):=by
 have hn:(sgnS ([]:List UInt8)).2=false:=rfl
 have k3:wrK D 3=(D.isEmpty || !(sgnS (D.getD 1 [])).2 || !(sgnS (D.getD 2 [])).2 || !(sgnS (D.getD 3 [])).2):=by
  show (((D.isEmpty || !(sgnS (hdW (D.drop 1))).2) || !(sgnS (hdW (D.drop 2))).2) || !(sgnS (hdW (D.drop 3))).2)=_
  rw [hdW_drop,hdW_drop,hdW_drop]
 refine ⟨?_,?_⟩
 ·rw [k3]
  unfold wrongO
  match D with
  |[]=>simp [hn]
  |[a]=>simp [hn]
  |[a,b]=>simp [hn]
  |[a,b,c]=>simp [hn]
  |[n,a,b,c] =>
   simp [hdW]
   cases decide (w0=offB)<;>cases decide (n=[])<;>cases (sgnS a).2<;>cases (sgnS b).2<;>cases (sgnS c).2<;>rfl
  |n :: a :: b :: c :: d :: r=>simp
 ·unfold ofW numK numT
  rw [hdW_drop,hdW_drop,hdW_drop]
  show Of.mk (D.getD 0 []) _ _ _=_
  rw [← hdW_drop D 0];rfl
end Sh

namespace Sh
open Go Go.Proofs
def oS {α:Type} (g:α→List UInt8) (l:List α) (i:Nat):List DV:=(l.take i).map fun c=>.str (g c)
theorem oS_len {α:Type} (g:α→List UInt8) (l:List α) (i:Nat) (h:i≤l.length):(oS g l i).length=i:=by simp [oS];omega
theorem oS_succ {α:Type} (g:α→List UInt8) (l:List α) (i:Nat) (d:α) (h:i < l.length):oS g l (i+1)=oS g l i++[.str (g (l.getD i d))]:=take_map_succ _ l i d h
theorem oS_all {α:Type} (g:α→List UInt8) (l:List α):oS g l l.length=(l.map g).map DV.str:=by simp [oS]
theorem c_mappedS (l:List Int) (f:FuncId) (g:Int→List UInt8) (hl:l.length < 1073741824) (hf:∀ c ∈ l,PC f [DV.int .i64 (c)] (.str (g c))):PC 151 [iL l,.func f []] (.list ((l.map g).map DV.str)):=by
 refine pureCall_ofR dh151 rfl ?_
 conv=>whnf
 refine dwp_loopR (P:=Tryz.prog) (G:=GC) (k:=dk151_0) (b:=db151_0) (α:=Nat) (fun i=>[(1,.func f []),(5,.own 5 0 (oS g l i).length (oS g l i).length),(8,iL l),(9,.int .i64 (l.map (DV.int .i64)).length),(10,DV.int .i64 (i))]) (fun i=>[(5,.row 1 (oS g l i) false)]) (fun i=>i≤l.length) (fun i=>l.length - i) 0 ⟨rfl,rfl,rfl⟩ (Nat.zero_le _) ?_
 intro i h1
 conv=>whnf
 refine ⟨fun hb=>?_,fun hb=>?_⟩
 ·have hi:i < l.length:=by simpa using hb
  conv=>whnf
  rw [getD_enc _ _ (i) 0 hi]
  refine ⟨idxA hi rfl,?_⟩
  conv=>whnf
  refine .inl ?_
  conv=>whnf
  refine ⟨_,hf _ (getD_in 0 hi),?_⟩
  conv=>whnf
  refine ⟨⟨rfl,rfl,rfl,by rw [oS_len g l i h1];simp;omega,fun e he=>by simp at he;subst he;rfl⟩,?_⟩
  conv=>whnf
  rw [wrap_succ i (by omega)]
  refine ⟨i+1,rfl,?_,?_,hi,by omega⟩
  ·rw [oS_succ g l i 0 hi];rfl
  ·rw [oS_succ g l i 0 hi];rfl
 ·have hi:i=l.length:=by have:=of_decide_eq_false hb;simp at this;omega
  conv=>whnf
  exact ⟨rfl,by rw [window_full,hi,oS_all];rfl⟩
theorem c_mappedL (l:List Of) (f:FuncId) (g:Of→List UInt8) (hl:l.length < 1073741824) (hf:∀ c ∈ l,PC f [encO c] (.str (g c))):PC 126 [ofsV l,.func f []] (.list ((l.map g).map DV.str)):=by
 refine pureCall_ofR dh126 rfl ?_
 conv=>whnf
 refine dwp_loopR (P:=Tryz.prog) (G:=GC) (k:=dk126_0) (b:=db126_0) (α:=Nat) (fun i=>[(1,.func f []),(5,.own 5 0 (oS g l i).length (oS g l i).length),(8,ofsV l),(9,.int .i64 (l.map encO).length),(10,DV.int .i64 (i))]) (fun i=>[(5,.row 1 (oS g l i) false)]) (fun i=>i≤l.length) (fun i=>l.length - i) 0 ⟨rfl,rfl,rfl⟩ (Nat.zero_le _) ?_
 intro i h1
 conv=>whnf
 refine ⟨fun hb=>?_,fun hb=>?_⟩
 ·have hi:i < l.length:=by simpa using hb
  conv=>whnf
  rw [getD_enc _ _ (i) O0 hi]
  refine ⟨idxA hi rfl,?_⟩
  conv=>whnf
  refine .inl ?_
  conv=>whnf
  refine ⟨_,hf _ (getD_in O0 hi),?_⟩
  conv=>whnf
  refine ⟨⟨rfl,rfl,rfl,by rw [oS_len g l i h1];simp;omega,fun e he=>by simp at he;subst he;rfl⟩,?_⟩
  conv=>whnf
  rw [wrap_succ i (by omega)]
  refine ⟨i+1,rfl,?_,?_,hi,by omega⟩
  ·rw [oS_succ g l i O0 hi];rfl
  ·rw [oS_succ g l i O0 hi];rfl
 ·have hi:i=l.length:=by have:=of_decide_eq_false hb;simp at this;omega
  conv=>whnf
  exact ⟨rfl,by rw [window_full,hi,oS_all];rfl⟩
theorem c_line (o:Of) (h:OkO 24 o):PC 127 [encO o] (.str (linO o++[10])):=by
 have hln:=linO_len h
 have k1:=c_mappedS (numsO o) 152 Lib.itoa (by unfold numsO;simp) (fun n hn=>by
  obtain ⟨h0,h1,h2,h3,h4,h5,h6⟩:=h
  have hn:n=o.sl∨n=o.un∨n=o.pr:=by unfold numsO at hn;simpa using hn
  rcases hn with rfl|rfl|rfl
  ·exact s_Itoa _ (by omega) (by omega)
  ·exact s_Itoa _ (by omega) (by omega)
  ·exact s_Itoa _ (by omega) (by omega))
 have hj:=linO_join o
 have k2:=s_Join (offB :: o.nm :: (numsO o).map Lib.itoa) [32] (by unfold numsO;simp) (by rw [hj];omega)
 rw [hj] at k2
 generalize hL:linO o=L at *
 refine pureCall_ofR dh127 rfl ?_
 conv=>whnf
 refine ⟨⟨by decide,by decide,rfl,rfl⟩,?_⟩
 conv=>whnf
 refine .inl ?_
 conv=>whnf
 refine ⟨_,k1 ..,?_⟩
 conv=>whnf
 refine ⟨⟨by simp [numsO],fun e he=>by obtain ⟨x,_,rfl⟩:=List.mem_map.1 he;rfl,fun e he=>by
  have he:e ∈ [DV.str offB,DV.str o.nm]:=he
  simp at he;rcases he with rfl|rfl<;>rfl⟩,?_⟩
 conv=>whnf
 refine .inl ?_
 conv=>whnf
 refine ⟨_,k2 ..,?_⟩
 conv=>whnf
 refine ⟨by show _+(_:Nat)≤_;simp;omega,?_⟩
 conv=>whnf
 refine ⟨by kernel_rfl,?_⟩
 conv=>whnf
 rfl
theorem join_nil:∀ ls:List (List UInt8),Lib.join ls []=ls.flatMap id
 |[]=>rfl
 |x :: r=>by
  rw [Lib.join_cons]
  have:∀ r:List (List UInt8),Lib.joinTail [] r=r.flatMap id:=fun r=>by
   induction r with
   |nil=>rfl
   |cons a t ih=>show []++(a++Lib.joinTail [] t)=_;rw [ih];rfl
  rw [this];rfl
theorem c_Print (l:List Of) (hl:l.length < 1073741824) (hn:∀ o ∈ l,o.nm.length < 1073741824):PC 71 [ofsV l] (.tuple [.str (prtOs l).1,DV.int .i64 ((prtOs l).2)]):=by
 have k1:PC 27 [ofsV l,DV.int .i64 (24)] (DV.int .i64 (chkO l)):=c_CheckOffers l 24 hl hn
 by_cases hc:chkO l≠0
 ·rw [show prtOs l=([],chkO l) from if_pos hc]
  generalize chkO l=k at *
  refine pureCall_ofR dh71 rfl ?_
  conv=>whnf
  repeat' (first
   |(refine ⟨fun hg=>?_,fun hg=>?_⟩<;>first|contradiction|(exfalso;revert hg;simp;done)|(exfalso;exact absurd (of_decide_eq_true hg) (by assumption))|(exfalso;exact absurd (by assumption) (of_decide_eq_false hg))|(conv=>whnf))
   |(refine Or.inl ?_;conv=>whnf)
   |(refine ⟨_,k1,?_⟩;conv=>whnf)
   |(refine And.intro ?_ ?_;kernel_rfl;conv=>whnf))
  rfl
 ·rw [show prtOs l=(prtG linO l,0) from if_neg hc]
  have hk0:chkO l=0:=by omega
  obtain ⟨_,_,h64,hok,_⟩:=chkOf_ok hk0
  rw [hk0] at k1
  have hpl:=prtO_len hok
  have k2:=c_mappedL l 127 (fun d=>linO d++[10]) (by omega) (fun d hd=>c_line d (hok d hd))
  have hj:Lib.join (l.map fun d=>linO d++[10]) []=prtG linO l:=by
   rw [join_nil];unfold prtG;rw [List.flatMap_map];rfl
  have k3:=s_Join (l.map fun d=>linO d++[10]) [] (by simp;omega) (by rw [hj];omega)
  rw [hj] at k3
  refine pureCall_ofR dh71 rfl ?_
  conv=>whnf
  repeat' (first
   |(refine ⟨fun hg=>?_,fun hg=>?_⟩<;>first|contradiction|(exfalso;revert hg;simp;done)|(exfalso;exact absurd (of_decide_eq_true hg) (by assumption))|(exfalso;exact absurd (by assumption) (of_decide_eq_false hg))|(conv=>whnf))
   |(refine Or.inl ?_;conv=>whnf)
   |(refine ⟨_,k1,?_⟩;conv=>whnf)
   |(refine ⟨_,k2,?_⟩;conv=>whnf)
   |(refine ⟨_,k3,?_⟩;conv=>whnf)
   |(refine And.intro ?_ ?_;kernel_rfl;conv=>whnf))
  rfl
end Sh

namespace Sh
open Go
def db153_0 : DC := (.seq (sq [oq 5 (.load none (.tmp 1)),oq 6 (.lenS (.tmp 5)),oq 7 (.bin .gtr (.tmp 6) (iq 0))] (.cond (.tmp 7) .skip (.exit 0))) (.block 1 none (sq [oq 3 (.mov (.const (.string ⟨#[]⟩)))] (.seq (sq [oq 8 (.load none (.tmp 1)),oq 9 (.call (.func 154) [.tmp 8,.const (.int .u8 10)]),mq 4 9] (sq [mq 10 4,oq 11 (.bin .geq (.tmp 10) (iq 0))] (.cond (.tmp 11) (.ops true [oq 12 (.load none (.tmp 1)),mq 13 4,⟨some 14,.bin .add (.tmp 13) (iq 1),none,[1]⟩,⟨some 15,.sliceS (.tmp 12) none (some (.tmp 14)),none,[0,2,1]⟩,oq 16 (.load none (.tmp 1)),mq 17 4,⟨some 18,.bin .add (.tmp 17) (iq 1),none,[5]⟩,⟨some 19,.sliceS (.tmp 16) (some (.tmp 18)) none,none,[4,6,5]⟩,⟨some 3,.mov (.tmp 15),none,[3,0,2,1]⟩,⟨none,.store 1 (.tmp 1) (.tmp 19),none,[7,4,6,5,8,3,0,2,1]⟩]) (pq [oq 20 (.load none (.tmp 1)),mq 3 20,nq (.store 1 (.tmp 1) (.const (.string ⟨#[]⟩)))])))) (sq [mq 21 0,mq 22 3,oq 23 (.call (.tmp 21) [.tmp 22]),oq 24 (.un .not (.tmp 23))] (.cond (.tmp 24) .ret .skip))))))
def dk153_0 : Keep := ⟨[],[0,1],[0,19]⟩
def dc153 : DFunc := ⟨25,2,[],.block 0 (some ⟨[],[],[0,19]⟩) (.loop dk153_0 db153_0)⟩
theorem dh153:cProg Go.Proofs.Tryz.prog ⟨[(0,⟨[],[0,1],[0,19]⟩)],[(0,⟨[],[],[0,19]⟩)],[]⟩ 153=some dc153:=by kernel_rfl
end Sh

namespace Sh
open Go Go.Proofs
def takO (ws:List (List UInt8)) (wr:Bool):DObj:=.box 2 (.agg [strs ws,.bool wr])
theorem window_tail {α β:Type} (f:α→β) (a:α) (l:List α):window ((a :: l).map f) (Int.toNat 1) (Int.toNat ((((a :: l).map f).length:Int) - 1))=l.map f:=by
 unfold window
 rw [show Int.toNat 1=1 from rfl,List.map_cons,List.drop_succ_cons,List.drop_zero,List.take_of_length_le (by simp)]
theorem h_word (ws:List (List UInt8)) (wr:Bool) (h:∀ w ∈ ws,w.length < 1073741824):HCall Tryz.prog GC 132 [.bptr 1 0] [(1,takO ws wr)] (.str (hdW ws)) [(1,takO (ws.drop 1) (wr || ws.isEmpty))]:=by
 cases ws with
 |nil =>
  rw [show (wr || ([]:List (List UInt8)).isEmpty)=true by simp]
  refine hCall_ofR dh132 rfl (by kernel_rfl) (by kernel_rfl) ?_
  conv=>whnf
  refine ⟨fun _=>?_,fun hg=>absurd hg (by decide)⟩
  conv=>whnf
  exact ⟨rfl,rfl⟩
 |cons w r =>
  rw [show (wr || (w :: r).isEmpty)=wr by simp]
  refine hCall_ofR dh132 rfl (by kernel_rfl) (by kernel_rfl) ?_
  conv=>whnf
  refine ⟨fun hg=>?_,fun hg=>?_⟩
  ·exfalso
   have:=of_decide_eq_true hg
   simp only [List.map_cons,List.length_cons] at this
   omega
  ·conv=>whnf
   refine ⟨⟨by decide,by simp,rfl⟩,?_⟩
   conv=>whnf
   refine ⟨⟨by decide,by simp;omega,by omega,fun e he=>by obtain ⟨x,_,rfl⟩:=List.mem_map.1 he;rfl⟩,?_⟩
   rw [window_tail]
   conv=>whnf
   exact ⟨rfl,rfl⟩
theorem h_number (ws:List (List UInt8)) (wr:Bool) (h:∀ w ∈ ws,w.length < 1073741824):HCall Tryz.prog GC 131 [.bptr 1 0] [(1,takO ws wr)] (DV.int .i64 (numT ws)) [(1,takO (ws.drop 1) (wrT wr ws))]:=by
 have kW:=h_word ws wr h
 have hs:(hdW ws).length < 1073741824:=by
  cases ws with
  |nil=>show 0 < _;decide
  |cons a r=>exact h a (by simp)
 have kI:=c_integer (hdW ws) hs
 have hE:=wrT_empty wr ws
 have hT:numT ws=(sgnS (hdW ws)).1:=rfl
 rw [hT]
 generalize wrT wr ws=W at *
 generalize ws.drop 1=D at *
 generalize sgnS (hdW ws)=S at *
 generalize hdW ws=s at *
 generalize (wr || ws.isEmpty)=B at *
 refine hCall_ofR dh131 rfl (by kernel_rfl) (by kernel_rfl) ?_
 conv=>whnf
 refine .inr ⟨[(1,1)],_,_,_,_,kW,⟨rfl,by kernel_rfl,?_,?_⟩,?_⟩
 ·exact ⟨rfl,trivial⟩
 ·exact ⟨.inl rfl,trivial⟩
 conv=>whnf
 refine .inl ?_
 conv=>whnf
 refine ⟨_,kI ..,?_⟩
 conv=>whnf
 refine ⟨fun g1=>?_,fun g1=>?_⟩
 ·have g1:B=false:=g1
  subst g1
  conv=>whnf
  refine ⟨?_,rfl⟩
  rw [← hE];rfl
 ·have g1:B=true:=by simpa using g1
  subst g1
  conv=>whnf
  refine ⟨?_,rfl⟩
  rw [← hE];rfl
theorem h_numK (D:List (List UInt8)) (k:Nat) (h:∀ w ∈ D,w.length < 1073741824):HCall Tryz.prog GC 131 [.bptr 1 0] [(1,takO (D.drop (k+1)) (wrK D k))] (DV.int .i64 (numK D k)) [(1,takO (D.drop (k+2)) (wrK D (k+1)))]:=by
 have:=h_number (D.drop (k+1)) (wrK D k) (fun w hw=>h w (List.mem_of_mem_drop hw))
 rw [List.drop_drop] at this
 exact this
end Sh

namespace Sh
open Go Go.Proofs
def lns (s:List UInt8):List (List DV):=(linesC s).map fun l=>[DV.str l]
theorem linesIt (s:List UInt8) (hs:s.length < 1073741824):ISeqW Tryz.prog GC 153 [.bptr 19 0] [(19,.box 1 (.str s))] (lns s):=by
 refine iseqW_of dh153 rfl rfl (by kernel_rfl) rfl (fun x hx=>by obtain ⟨v,_,rfl⟩:=List.mem_map.1 hx;rfl) (fun gl=>?_)
 conv=>whnf
 refine dwp_loopY (P:=Tryz.prog) (G:=GC) (k:=dk153_0) (b:=db153_0) (α:=List UInt8) (fun r=>[(0,.dict 0),(1,.bptr 19 0)]) (fun r=>[(0,.ghost (lns r) true gl),(19,.box 1 (.str r))]) (fun r=>r.length < 1073741824) (fun r=>r.length) s ⟨rfl,rfl,rfl⟩ hs ?_
 intro r hr
 conv=>whnf
 refine ⟨fun hb=>?_,fun hb=>?_⟩
 ·have hl:0 < r.length:=by have:(0:Int) < r.length:=of_decide_eq_true hb;omega
  clear hb
  have hix:=lines_idx r (List.length_pos_iff.1 hl)
  conv=>whnf
  repeat' (first
   |(refine ⟨fun hg=>?_,fun hg=>?_⟩<;>first|contradiction|(conv=>whnf))
   |(refine Or.inl ?_;conv=>whnf)
   |(refine ⟨_,s_IndexByte r 10,?_⟩;conv=>whnf)
   |(refine And.intro ?_ ?_;kernel_rfl;conv=>whnf))
  ·have hg:0≤Lib.indexByte r 10:=of_decide_eq_true hg
   obtain ⟨i,h1,h2,h3⟩:∃ i:Nat,Lib.indexByte r 10=i∧i < r.length∧linesC r=r.take (i+1) :: linesC (r.drop (i+1)):=by
    rcases hix with ⟨h1,_⟩|h
    ·omega
    ·exact h
   have hL:lns r=[DV.str (r.take (i+1))] :: lns (r.drop (i+1)):=by unfold lns;rw [h3];rfl
   have hdl:(r.drop (i+1)).length < r.length:=by simp;omega
   rw [hL,h1,wrap_succ i (by omega)]
   refine ⟨⟨by decide,by omega,by omega⟩,?_⟩
   rw [show (((i+1:Nat):Int) - 0).toNat=i+1 by omega,show Int.toNat 0=0 from rfl,window_take r (i+1) (by omega)]
   conv=>whnf
   rw [wrap_succ i (by omega)]
   refine ⟨⟨by omega,by omega,by omega⟩,?_⟩
   rw [show ((r.length:Int) - ((i+1:Nat):Int)).toNat=r.length - (i+1) by omega,Int.toNat_natCast,window_drop]
   conv=>whnf
   generalize r.take (i+1)=u at *
   generalize r.drop (i+1)=q at *
   refine ⟨?_,?_⟩
   ·kernel_rfl
   conv=>whnf
   refine ⟨rfl,fun b=>?_⟩
   conv=>whnf
   refine ⟨fun hg=>?_,fun hg=>?_⟩
   ·have hg:b=false:=by simpa using hg
    subst hg
    conv=>whnf
    intro e;cases e
   ·have hg:b=true:=by simpa using hg
    subst hg
    conv=>whnf
    exact ⟨q,rfl,rfl,rfl,by omega,hdl⟩
  ·have hg:¬ 0≤Lib.indexByte r 10:=of_decide_eq_false hg
   have h3:linesC r=[r]:=by
    rcases hix with ⟨_,h⟩|⟨i,h1,_⟩
    ·exact h
    ·omega
   have hL:lns r=[DV.str r] :: lns []:=by unfold lns;rw [h3];rfl
   rw [hL]
   refine ⟨rfl,fun b=>?_⟩
   conv=>whnf
   refine ⟨fun hg=>?_,fun hg=>?_⟩
   ·have hg:b=false:=by simpa using hg
    subst hg
    conv=>whnf
    intro e;cases e
   ·have hg:b=true:=by simpa using hg
    subst hg
    conv=>whnf
    exact ⟨[],rfl,rfl,rfl,by simp,hl⟩
 ·have hl:r=[]:=by have:¬ (0:Int) < r.length:=of_decide_eq_false hb;exact List.eq_nil_of_length_eq_zero (by omega)
  subst hl
  conv=>whnf
  intro _
  rfl
theorem s_Lines (s:List UInt8):HCall Tryz.prog GC 128 [.str s] [] (.func 153 [.bptr 1 0]) [(1,.box 1 (.str s))]:=by
 refine hCall_ofR dh128 rfl (by kernel_rfl) (by kernel_rfl) ?_
 conv=>whnf
 exact ⟨rfl,rfl⟩
theorem rounds_invI {body:(DExit→SP)→SP} {kh ps:List Nat} {Q:DExit→SP} {t:Tmps} {xs:List (List DV)} (H:Nat→Heap) (inv:Nat→Prop) (h0:inv 0)
  (mono:∀ (R R':DExit→SP) (t:Tmps) (s:Heap),(∀ e t s,R e t s→R' e t s)→body R t s→body R' t s)
  (step:∀ i x,xs[i]?=some x→inv i→body (fun e _ h'=>boxesOk kh (hlook h') kh=true∧match e with
    |.normal=>keepH kh (hlook h') kh=H (i+1)∧inv (i+1)
    |e=>Q e t (keepH kh (hlook h') kh)) (setPs ps x t) (H i))
  (fin:inv xs.length→Q .normal t (H xs.length)):roundsN body kh ps Q t xs (H 0):=by
 have key:∀ (r:List (List DV)) (i:Nat),i≤xs.length→xs.drop i=r→inv i→roundsN body kh ps Q t r (H i):=by
  intro r
  induction r with
  |nil =>
   intro i hl hi hv
   have hle:xs.length≤i:=List.drop_eq_nil_iff.1 hi
   have e:i=xs.length:=by omega
   subst e;exact fin hv
  |cons x r ih =>
   intro i hl hi hv
   have hx:xs[i]?=some x:=by
    have:=congrArg (fun l=>l[0]?) hi
    simpa using this
   unfold roundsN
   refine mono _ _ _ _ (fun e t' s' hh=>⟨hh.1,?_⟩) (step i x hx hv)
   have hh2:=hh.2
   cases e with
   |normal =>
    simp only at hh2 ⊢
    rw [hh2.1]
    refine ih (i+1) (List.getElem?_eq_some_iff.1 hx).1 ?_ hh2.2
    have:=congrArg (List.drop 1) hi
    simpa [List.drop_drop,Nat.add_comm] using this
   |ret=>exact hh2
   |exit j=>exact hh2
 exact key xs 0 (Nat.zero_le _) rfl h0
theorem range_WI {P:Program} {G:Nat→Option DV} {g:FuncId} {n sz:Nat} {d:DV} {k:Keep} {ps:List Nat} {Q:DExit→SP} {t:Tmps} {h:Heap} {x y:DC} (xs:List (List DV)) (H:Nat→Heap) (T:Tmps) (inv:Nat→Prop) (h0:inv 0) (hi:ISeqW P G g [.bptr n 0] [(n,.box sz d)] xs)
  (hp:hlook h n=some (.box sz d)∧pureB d=true) (hn:n≠0) (hk:memB n k.kh=false∧freeOf n h=true) (hl:∀ z ∈ xs,z.length=ps.length)
  (hb:boxesOk k.kh (hlook (cutH n h)) k.kh=true) (hv:livH (keepH k.kh (hlook (cutH n h)) k.kh)=true) (hT:keepT k.kh (hlook (cutH n h)) (cutT n t) k.kt=T) (hH:keepH k.kh (hlook (cutH n h)) k.kh=H 0)
  (step:∀ i z,xs[i]?=some z→inv i→dwpR P G x (seqQ (dwpR P G y (fun e _ h'=>boxesOk k.kh (hlook h') k.kh=true∧match e with
    |.normal=>keepH k.kh (hlook h') k.kh=H (i+1)∧inv (i+1)
    |e=>Q e T (keepH k.kh (hlook h') k.kh))) (fun _ _ _=>False)) (setPs ps z T) (H i))
  (fin:inv xs.length→Q .normal T (H xs.length)):rangeWp P G (fun R=>dwpR P G x (seqQ (dwpR P G y R) (fun _ _ _=>False))) k ps Q (.func g [.bptr n 0]) t h:=by
 unfold rangeWp
 refine .inr ⟨n,sz,d,xs,⟨by simp [capsB],hp.1,hp.2,hn,hk.1,hk.2⟩,hi,hl,hb,hv,?_⟩
 rw [hT,hH]
 refine rounds_invI H inv h0 (fun R R' t s hr hb=>?_) step fin
 rw [dwpR_eq,dwpR_eq] at *
 refine dwp_mono (fun e t s hh=>?_) hb
 cases e with
 |normal=>exact dwp_mono hr hh
 |ret=>exact hh
 |exit i=>exact hh
end Sh

namespace Sh
open Go Go.Proofs
def encPar (r:List Of×Int×Int):DV:=.tuple [ofsV r.1,DV.int .i64 (r.2.1),DV.int .i64 (r.2.2)]
def oSW (rows:List (List UInt8)) (i:Nat):List DV:=(outG ofW rows i).map encO
def paH (rows:List (List UInt8)):Nat→Heap
 |0=>[(2,.box 1 (.full [])),(3,.box 1 (DV.int .i64 (0))),(4,.box 1 (DV.int .i64 (0))),(5,.box 1 (.full []))]
 |i+1=>[(2,.box 1 (.full [])),(3,.box 1 (DV.int .i64 (0))),(4,.box 1 (DV.int .i64 (0))),(5,.box 1 (.own 77 0 (oSW rows (i+1)).length (oSW rows (i+1)).length)),(77,.row 4 (oSW rows (i+1)) false)]
theorem c_CheckO (l:List Of) (hl:l.length < 1073741824) (hn:∀ o ∈ l,o.nm.length < 1073741824):PC 27 [.list (l.map encO),DV.int .i64 (24)] (DV.int .i64 (chkO l)):=c_CheckOffers l 24 hl hn
set_option maxHeartbeats 1000000 in
theorem c_Parse (s:List UInt8) (hs:s.length≤4097):PC 72 [.str s] (encPar (parOs s)):=by
 refine pureCall_ofR dh72 rfl ?_
 conv=>whnf
 refine ⟨fun hg=>?_,fun hg=>?_⟩
 ·have hg:(4096:Int) < s.length:=of_decide_eq_true hg
  conv=>whnf
  unfold parOs parG
  rw [if_pos (by omega)];rfl
 ·have hg:¬ (4096:Int) < s.length:=of_decide_eq_false hg
  have hl:=splitC_len 10 s
  have hn:=splitC_ne 10 s
  have hno:=splitC_not 10 s
  have hls:=lines_split s
  conv=>whnf
  refine .inr ⟨[(1,19)],_,_,_,_,s_Lines s,⟨rfl,by kernel_rfl,?_,?_⟩,?_⟩
  ·exact trivial
  ·exact ⟨.inr rfl,trivial⟩
  conv=>whnf
  generalize hr:splitC 10 s=rows at *
  obtain ⟨m,hm⟩:∃ m,rows.length=m+1:=⟨rows.length - 1,by have:=List.length_pos_iff.2 hn;omega⟩
  have hbad:∀ i,parEG wrongO rows m 0=some i→parOs s=([],(i:Int),25):=fun i he=>parG_bad (by omega) hr hm he
  have hok:parEG wrongO rows m 0=none→_:=fun he=>parG_ok (rd:=ofW) (chk:=chkO) (by omega) hr hm he
  have hll:=linesOf_len rows m hm
  rw [show parG wrongO ofW chkO s=parOs s from rfl] at hok
  generalize parOs s=R at *
  refine range_WI (P:=Tryz.prog) (G:=GC) (x:=db72_0x) (y:=db72_0) (k:=dk72_0) (lns s) (paH rows) [(2,.bptr 2 0),(3,.bptr 3 0),(4,.bptr 4 0),(5,.bptr 5 0)] (fun i=>i≤m∧parEG wrongO rows m 0=parEG wrongO rows (m - i) i) ⟨Nat.zero_le _,rfl⟩ (linesIt s (by omega)) ⟨rfl,rfl⟩ (by decide) ⟨rfl,rfl⟩ (fun z hz=>by obtain ⟨v,_,rfl⟩:=List.mem_map.1 hz;rfl) rfl rfl rfl rfl ?_ ?_
  ·intro i z hz ⟨h1,h2⟩
   obtain ⟨L,hz0,rfl,hc1,hc2,hL4⟩:∃ L,(linesOf rows)[i]?=some L∧z=[DV.str L]∧Lib.trimSuffix L [10]=rows.getD i []∧Lib.hasSuffix L [10]=decide (i < m)∧L.length≤1073741824:=by
    unfold lns at hz
    rw [hls,List.getElem?_map,Option.map_eq_some_iff] at hz
    obtain ⟨L,hz1,rfl⟩:=hz
    have hgd:(linesOf rows).getD i []=L:=by rw [List.getD_eq_getElem?_getD,hz1];rfl
    have hil:=(List.getElem?_eq_some_iff.1 hz1).1
    have hrl:(rows.getD i []).length≤s.length:=hl.2 _ (getD_in [] (by omega))
    refine ⟨L,hz1,rfl,?_⟩
    by_cases hi:i < m
    ·rw [linesOf_get rows m i hm hi] at hgd
     subst hgd
     rw [decide_eq_true hi]
     exact ⟨(cut_yes _).1,(cut_yes _).2,by rw [List.length_append];show _+1≤_;omega⟩
    ·have hi:i=m:=by omega
     subst hi
     have hne:rows.getD i []≠[]:=fun e=>by rw [if_pos e] at hll;omega
     rw [linesOf_last rows i hm hne] at hgd
     subst hgd
     have:=cut_no _ (hno _ (getD_in [] (show i < rows.length by omega)))
     rw [decide_eq_false hi]
     exact ⟨this.1,this.2,by omega⟩
   clear hz
   have hrl:(rows.getD i []).length≤s.length:=hl.2 _ (getD_in [] (by omega))
   rcases i with _|i
   ·obtain ⟨w0,D,hw⟩:∃ w0 D,splitC 32 (rows.getD 0 [])=w0 :: D:=by
     cases h:splitC 32 (rows.getD 0 []) with
     |nil=>exact absurd h (splitC_ne _ _)
     |cons a r=>exact ⟨a,r,rfl⟩
    have hwl:=splitC_len 32 (rows.getD 0 [])
    rw [hw] at hwl
    have hWw:∀ x ∈ w0 :: D,x.length < 1073741824:=fun x hx=>by have:=hwl.2 x hx;omega
    have hDw:∀ x ∈ D,x.length < 1073741824:=fun x hx=>hWw x (List.mem_cons_of_mem _ hx)
    have hwr:=wrongO_read w0 D
    have hO:oSW rows (0+1)=oSW rows 0++[encO ⟨hdW D,numK D 0,numK D 1,numK D 2⟩]:=by
     unfold oSW
     rw [outG_succ ofW rows 0 (by omega),hw,hwr.2,List.map_append];rfl
    have hgo:0 < m→wrongO (w0 :: D)=false→0+1≤m∧parEG wrongO rows m 0=parEG wrongO rows (m - (0+1)) (0+1):=fun h e=>⟨h,h2.trans (parEG_step rows m _ h (by rw [hw];exact e))⟩
    have hRw:0 < m→wrongO (w0 :: D)=true→R=([],((0:Nat):Int),25):=fun h e=>hbad _ (h2.trans (parEG_at rows m _ h (by rw [hw];exact e)))
    have hRn:¬ 0 < m→R=([],((0:Nat):Int),25):=fun h=>by
     have e:0=m:=by omega
     have h3:parEG wrongO rows m 0=none:=by rw [h2,← e,Nat.sub_self];rfl
     have h4:=(List.getElem?_eq_some_iff.1 hz0).1
     have h5:rows.getD m []≠[]:=fun h6=>by rw [if_pos h6] at hll;omega
     have h6:=hok h3
     rw [if_pos h5] at h6
     rw [h6,e]
    have hol:(oSW rows 0).length=0:=by unfold oSW;rw [List.length_map,outG_len ofW rows 0 (by omega)]
    have hwr2:=hwr.1
    have hdl:((D.drop 4).map DV.str).length=D.length - 4:=by simp
    conv=>whnf
    refine .inl ?_
    conv=>whnf
    refine ⟨_,s_CutSuffix L [10] hL4,?_⟩
    conv=>whnf
    rw [hc1,hc2]
    conv=>whnf
    refine .inl ?_
    conv=>whnf
    refine ⟨_,s_Split (rows.getD 0 []) 32 (by omega),?_⟩
    conv=>whnf
    rw [hw]
    conv=>whnf
    refine .inr ⟨[(1,28)],_,_,_,_,h_word (w0 :: D) false hWw,⟨rfl,by kernel_rfl,?_,?_⟩,?_⟩
    ·exact ⟨rfl,trivial⟩
    ·exact ⟨.inl rfl,trivial⟩
    conv=>whnf
    refine .inr ⟨[(1,28)],_,_,_,_,h_word D false hDw,⟨rfl,by kernel_rfl,?_,?_⟩,?_⟩
    ·exact ⟨rfl,trivial⟩
    ·exact ⟨.inl rfl,trivial⟩
    conv=>whnf
    refine .inr ⟨[(1,28)],_,_,_,_,h_numK D 0 hDw,⟨rfl,by kernel_rfl,?_,?_⟩,?_⟩
    ·exact ⟨rfl,trivial⟩
    ·exact ⟨.inl rfl,trivial⟩
    conv=>whnf
    refine .inr ⟨[(1,28)],_,_,_,_,h_numK D 1 hDw,⟨rfl,by kernel_rfl,?_,?_⟩,?_⟩
    ·exact ⟨rfl,trivial⟩
    ·exact ⟨.inl rfl,trivial⟩
    conv=>whnf
    refine .inr ⟨[(1,28)],_,_,_,_,h_numK D 2 hDw,⟨rfl,by kernel_rfl,?_,?_⟩,?_⟩
    ·exact ⟨rfl,trivial⟩
    ·exact ⟨.inl rfl,trivial⟩
    rw [show D.drop (2+2)=D.drop 4 from rfl]
    generalize numK D 0=n0 at *
    generalize numK D 1=n1 at *
    generalize numK D 2=n2 at *
    generalize hnm:hdW D=N at *
    rw [show wrK D (2+1)=wrK D 3 from rfl]
    generalize hwk:wrK D 3=W at *
    conv=>whnf
    refine ⟨fun g1=>?_,fun g1=>?_⟩
    ·have g1:0 < m:=by
      have g1:(!decide (0 < m))=false:=g1
      rw [Bool.not_eq_false'] at g1
      exact of_decide_eq_true g1
     conv=>whnf
     refine ⟨⟨by decide,by decide,rfl,rfl⟩,?_⟩
     conv=>whnf
     refine ⟨fun g2=>?_,fun g2=>?_⟩
     ·have g2:w0=offB:=by
       have g2:decide (w0≠offB)=false:=g2
       exact Classical.not_not.1 (of_decide_eq_false g2)
      conv=>whnf
      refine ⟨fun g5=>?_,fun g5=>?_⟩
      ·have g5:¬ N=[]:=of_decide_eq_false (show decide (N=[])=false from g5)
       conv=>whnf
       refine ⟨fun g3=>?_,fun g3=>?_⟩
       ·have g3:W=false:=g3
        conv=>whnf
        refine ⟨fun g4=>?_,fun g4=>?_⟩
        ·have g4:(0:Int) < (((D.drop 4).map DV.str).length:Nat):=of_decide_eq_true g4
         rw [hRw g1 (by rw [hwr2,decide_eq_true (show 0 < D.length - 4 by omega),Bool.or_true])]
         conv=>whnf
         repeat (first|(refine ⟨fun hg=>absurd hg (by decide),fun _=>?_⟩;conv=>whnf)|(refine ⟨fun _=>?_,fun hg=>absurd hg (by decide)⟩;conv=>whnf))
         repeat' (first
          |(refine ⟨fun hg=>?_,fun hg=>?_⟩<;>first|contradiction|(conv=>whnf))
          |(refine Or.inl ?_;conv=>whnf)
          |(refine ⟨rfl,?_⟩;conv=>whnf)
          |(refine And.intro ?_ ?_;kernel_rfl;conv=>whnf))
         first|rfl|(rw [hol];rfl)
        ·have g4:¬ (0:Int) < (((D.drop 4).map DV.str).length:Nat):=of_decide_eq_false g4
         have hgood:=hgo g1 (by rw [hwr2,g3,g2,decide_eq_false g5,decide_eq_false (show ¬ 0 < D.length - 4 by omega)];rfl)
         conv=>whnf
         refine ⟨⟨by simp,fun e he=>by simp at he;subst he;rfl,fun e he=>by simp at he,.inl rfl⟩,?_⟩
         conv=>whnf
         refine ⟨rfl,?_,hgood⟩
         show _=[(2,_),(3,_),(4,_),(5,DObj.box 1 (.own 77 0 (oSW rows (0+1)).length (oSW rows (0+1)).length)),(77,.row 4 (oSW rows (0+1)) false)]
         rw [hO]
         rfl
       ·have g3:W=true:=by
         have g3:W=!false:=g3
         exact g3
        rw [hRw g1 (by rw [hwr2,g3];simp)]
        conv=>whnf
        repeat (first|(refine ⟨fun hg=>absurd hg (by decide),fun _=>?_⟩;conv=>whnf)|(refine ⟨fun _=>?_,fun hg=>absurd hg (by decide)⟩;conv=>whnf))
        repeat' (first
         |(refine ⟨fun hg=>?_,fun hg=>?_⟩<;>first|contradiction|(conv=>whnf))
         |(refine Or.inl ?_;conv=>whnf)
         |(refine ⟨rfl,?_⟩;conv=>whnf)
         |(refine And.intro ?_ ?_;kernel_rfl;conv=>whnf))
        first|rfl|(rw [hol];rfl)
      ·have g5:N=[]:=of_decide_eq_true (show decide (N=[])=true from g5)
       rw [hRw g1 (by rw [hwr2,decide_eq_true g5];simp)]
       conv=>whnf
       repeat (first|(refine ⟨fun hg=>absurd hg (by decide),fun _=>?_⟩;conv=>whnf)|(refine ⟨fun _=>?_,fun hg=>absurd hg (by decide)⟩;conv=>whnf))
       repeat' (first
        |(refine ⟨fun hg=>?_,fun hg=>?_⟩<;>first|contradiction|(conv=>whnf))
        |(refine Or.inl ?_;conv=>whnf)
        |(refine ⟨rfl,?_⟩;conv=>whnf)
        |(refine And.intro ?_ ?_;kernel_rfl;conv=>whnf))
       first|rfl|(rw [hol];rfl)
     ·have g2:¬ w0=offB:=by
       have g2:decide (w0≠offB)=true:=g2
       exact of_decide_eq_true g2
      rw [hRw g1 (by rw [hwr2,decide_eq_false g2];rfl)]
      conv=>whnf
      repeat (first|(refine ⟨fun hg=>absurd hg (by decide),fun _=>?_⟩;conv=>whnf)|(refine ⟨fun _=>?_,fun hg=>absurd hg (by decide)⟩;conv=>whnf))
      repeat' (first
       |(refine ⟨fun hg=>?_,fun hg=>?_⟩<;>first|contradiction|(conv=>whnf))
       |(refine Or.inl ?_;conv=>whnf)
       |(refine ⟨rfl,?_⟩;conv=>whnf)
       |(refine And.intro ?_ ?_;kernel_rfl;conv=>whnf))
      first|rfl|(rw [hol];rfl)
    ·have g1:¬ 0 < m:=by
      have g1:(!decide (0 < m))=!false:=g1
      have g1:=(Bool.not_eq_true' _).mp (by rw [g1];rfl)
      exact of_decide_eq_false g1
     rw [hRn g1]
     conv=>whnf
     repeat (first|(refine ⟨fun hg=>absurd hg (by decide),fun _=>?_⟩;conv=>whnf)|(refine ⟨fun _=>?_,fun hg=>absurd hg (by decide)⟩;conv=>whnf))
     repeat' (first
      |(refine ⟨fun hg=>?_,fun hg=>?_⟩<;>first|contradiction|(conv=>whnf))
      |(refine Or.inl ?_;conv=>whnf)
      |(refine ⟨rfl,?_⟩;conv=>whnf)
      |(refine And.intro ?_ ?_;kernel_rfl;conv=>whnf))
     first|rfl|(rw [hol];rfl)
   ·obtain ⟨w0,D,hw⟩:∃ w0 D,splitC 32 (rows.getD (i+1) [])=w0 :: D:=by
     cases h:splitC 32 (rows.getD (i+1) []) with
     |nil=>exact absurd h (splitC_ne _ _)
     |cons a r=>exact ⟨a,r,rfl⟩
    have hwl:=splitC_len 32 (rows.getD (i+1) [])
    rw [hw] at hwl
    have hWw:∀ x ∈ w0 :: D,x.length < 1073741824:=fun x hx=>by have:=hwl.2 x hx;omega
    have hDw:∀ x ∈ D,x.length < 1073741824:=fun x hx=>hWw x (List.mem_cons_of_mem _ hx)
    have hwr:=wrongO_read w0 D
    have hO:oSW rows ((i+1)+1)=oSW rows (i+1)++[encO ⟨hdW D,numK D 0,numK D 1,numK D 2⟩]:=by
     unfold oSW
     rw [outG_succ ofW rows (i+1) (by omega),hw,hwr.2,List.map_append];rfl
    have hgo:(i+1) < m→wrongO (w0 :: D)=false→(i+1)+1≤m∧parEG wrongO rows m 0=parEG wrongO rows (m - ((i+1)+1)) ((i+1)+1):=fun h e=>⟨h,h2.trans (parEG_step rows m _ h (by rw [hw];exact e))⟩
    have hRw:(i+1) < m→wrongO (w0 :: D)=true→R=([],(((i+1):Nat):Int),25):=fun h e=>hbad _ (h2.trans (parEG_at rows m _ h (by rw [hw];exact e)))
    have hRn:¬ (i+1) < m→R=([],(((i+1):Nat):Int),25):=fun h=>by
     have e:(i+1)=m:=by omega
     have h3:parEG wrongO rows m 0=none:=by rw [h2,← e,Nat.sub_self];rfl
     have h4:=(List.getElem?_eq_some_iff.1 hz0).1
     have h5:rows.getD m []≠[]:=fun h6=>by rw [if_pos h6] at hll;omega
     have h6:=hok h3
     rw [if_pos h5] at h6
     rw [h6,e]
    have hol:(oSW rows (i+1)).length=(i+1):=by unfold oSW;rw [List.length_map,outG_len ofW rows (i+1) (by omega)]
    have hwr2:=hwr.1
    have hdl:((D.drop 4).map DV.str).length=D.length - 4:=by simp
    conv=>whnf
    refine .inl ?_
    conv=>whnf
    refine ⟨_,s_CutSuffix L [10] hL4,?_⟩
    conv=>whnf
    rw [hc1,hc2]
    conv=>whnf
    refine .inl ?_
    conv=>whnf
    refine ⟨_,s_Split (rows.getD (i+1) []) 32 (by omega),?_⟩
    conv=>whnf
    rw [hw]
    conv=>whnf
    refine .inr ⟨[(1,28)],_,_,_,_,h_word (w0 :: D) false hWw,⟨rfl,by kernel_rfl,?_,?_⟩,?_⟩
    ·exact ⟨rfl,trivial⟩
    ·exact ⟨.inl rfl,trivial⟩
    conv=>whnf
    refine .inr ⟨[(1,28)],_,_,_,_,h_word D false hDw,⟨rfl,by kernel_rfl,?_,?_⟩,?_⟩
    ·exact ⟨rfl,trivial⟩
    ·exact ⟨.inl rfl,trivial⟩
    conv=>whnf
    refine .inr ⟨[(1,28)],_,_,_,_,h_numK D 0 hDw,⟨rfl,by kernel_rfl,?_,?_⟩,?_⟩
    ·exact ⟨rfl,trivial⟩
    ·exact ⟨.inl rfl,trivial⟩
    conv=>whnf
    refine .inr ⟨[(1,28)],_,_,_,_,h_numK D 1 hDw,⟨rfl,by kernel_rfl,?_,?_⟩,?_⟩
    ·exact ⟨rfl,trivial⟩
    ·exact ⟨.inl rfl,trivial⟩
    conv=>whnf
    refine .inr ⟨[(1,28)],_,_,_,_,h_numK D 2 hDw,⟨rfl,by kernel_rfl,?_,?_⟩,?_⟩
    ·exact ⟨rfl,trivial⟩
    ·exact ⟨.inl rfl,trivial⟩
    rw [show D.drop (2+2)=D.drop 4 from rfl]
    generalize numK D 0=n0 at *
    generalize numK D 1=n1 at *
    generalize numK D 2=n2 at *
    generalize hnm:hdW D=N at *
    rw [show wrK D (2+1)=wrK D 3 from rfl]
    generalize hwk:wrK D 3=W at *
    conv=>whnf
    refine ⟨fun g1=>?_,fun g1=>?_⟩
    ·have g1:(i+1) < m:=by
      have g1:(!decide ((i+1) < m))=false:=g1
      rw [Bool.not_eq_false'] at g1
      exact of_decide_eq_true g1
     conv=>whnf
     refine ⟨⟨by decide,by decide,rfl,rfl⟩,?_⟩
     conv=>whnf
     refine ⟨fun g2=>?_,fun g2=>?_⟩
     ·have g2:w0=offB:=by
       have g2:decide (w0≠offB)=false:=g2
       exact Classical.not_not.1 (of_decide_eq_false g2)
      conv=>whnf
      refine ⟨fun g5=>?_,fun g5=>?_⟩
      ·have g5:¬ N=[]:=of_decide_eq_false (show decide (N=[])=false from g5)
       conv=>whnf
       refine ⟨fun g3=>?_,fun g3=>?_⟩
       ·have g3:W=false:=g3
        conv=>whnf
        refine ⟨fun g4=>?_,fun g4=>?_⟩
        ·have g4:(0:Int) < (((D.drop 4).map DV.str).length:Nat):=of_decide_eq_true g4
         rw [hRw g1 (by rw [hwr2,decide_eq_true (show 0 < D.length - 4 by omega),Bool.or_true])]
         conv=>whnf
         repeat (first|(refine ⟨fun hg=>absurd hg (by decide),fun _=>?_⟩;conv=>whnf)|(refine ⟨fun _=>?_,fun hg=>absurd hg (by decide)⟩;conv=>whnf))
         repeat' (first
          |(refine ⟨fun hg=>?_,fun hg=>?_⟩<;>first|contradiction|(conv=>whnf))
          |(refine Or.inl ?_;conv=>whnf)
          |(refine ⟨rfl,?_⟩;conv=>whnf)
          |(refine And.intro ?_ ?_;kernel_rfl;conv=>whnf))
         first|rfl|(rw [hol];rfl)
        ·have g4:¬ (0:Int) < (((D.drop 4).map DV.str).length:Nat):=of_decide_eq_false g4
         have hgood:=hgo g1 (by rw [hwr2,g3,g2,decide_eq_false g5,decide_eq_false (show ¬ 0 < D.length - 4 by omega)];rfl)
         conv=>whnf
         refine ⟨⟨rfl,rfl,rfl,by rw [hol];simp;omega,fun e he=>by simp at he;subst he;rfl⟩,?_⟩
         conv=>whnf
         refine ⟨rfl,?_,hgood⟩
         show _=[(2,_),(3,_),(4,_),(5,DObj.box 1 (.own 77 0 (oSW rows ((i+1)+1)).length (oSW rows ((i+1)+1)).length)),(77,.row 4 (oSW rows ((i+1)+1)) false)]
         rw [hO]
         rfl
       ·have g3:W=true:=by
         have g3:W=!false:=g3
         exact g3
        rw [hRw g1 (by rw [hwr2,g3];simp)]
        conv=>whnf
        repeat (first|(refine ⟨fun hg=>absurd hg (by decide),fun _=>?_⟩;conv=>whnf)|(refine ⟨fun _=>?_,fun hg=>absurd hg (by decide)⟩;conv=>whnf))
        repeat' (first
         |(refine ⟨fun hg=>?_,fun hg=>?_⟩<;>first|contradiction|(conv=>whnf))
         |(refine Or.inl ?_;conv=>whnf)
         |(refine ⟨rfl,?_⟩;conv=>whnf)
         |(refine And.intro ?_ ?_;kernel_rfl;conv=>whnf))
        first|rfl|(rw [hol];rfl)
      ·have g5:N=[]:=of_decide_eq_true (show decide (N=[])=true from g5)
       rw [hRw g1 (by rw [hwr2,decide_eq_true g5];simp)]
       conv=>whnf
       repeat (first|(refine ⟨fun hg=>absurd hg (by decide),fun _=>?_⟩;conv=>whnf)|(refine ⟨fun _=>?_,fun hg=>absurd hg (by decide)⟩;conv=>whnf))
       repeat' (first
        |(refine ⟨fun hg=>?_,fun hg=>?_⟩<;>first|contradiction|(conv=>whnf))
        |(refine Or.inl ?_;conv=>whnf)
        |(refine ⟨rfl,?_⟩;conv=>whnf)
        |(refine And.intro ?_ ?_;kernel_rfl;conv=>whnf))
       first|rfl|(rw [hol];rfl)
     ·have g2:¬ w0=offB:=by
       have g2:decide (w0≠offB)=true:=g2
       exact of_decide_eq_true g2
      rw [hRw g1 (by rw [hwr2,decide_eq_false g2];rfl)]
      conv=>whnf
      repeat (first|(refine ⟨fun hg=>absurd hg (by decide),fun _=>?_⟩;conv=>whnf)|(refine ⟨fun _=>?_,fun hg=>absurd hg (by decide)⟩;conv=>whnf))
      repeat' (first
       |(refine ⟨fun hg=>?_,fun hg=>?_⟩<;>first|contradiction|(conv=>whnf))
       |(refine Or.inl ?_;conv=>whnf)
       |(refine ⟨rfl,?_⟩;conv=>whnf)
       |(refine And.intro ?_ ?_;kernel_rfl;conv=>whnf))
      first|rfl|(rw [hol];rfl)
    ·have g1:¬ (i+1) < m:=by
      have g1:(!decide ((i+1) < m))=!false:=g1
      have g1:=(Bool.not_eq_true' _).mp (by rw [g1];rfl)
      exact of_decide_eq_false g1
     rw [hRn g1]
     conv=>whnf
     repeat (first|(refine ⟨fun hg=>absurd hg (by decide),fun _=>?_⟩;conv=>whnf)|(refine ⟨fun _=>?_,fun hg=>absurd hg (by decide)⟩;conv=>whnf))
     repeat' (first
      |(refine ⟨fun hg=>?_,fun hg=>?_⟩<;>first|contradiction|(conv=>whnf))
      |(refine Or.inl ?_;conv=>whnf)
      |(refine ⟨rfl,?_⟩;conv=>whnf)
      |(refine And.intro ?_ ?_;kernel_rfl;conv=>whnf))
     first|rfl|(rw [hol];rfl)
  ·intro ⟨h1,h2⟩
   have hnb:∀ k,∀ o ∈ outG ofW rows k,o.nm.length < 1073741824:=fun k o ho=>by
    unfold outG at ho
    obtain ⟨r,hr1,rfl⟩:=List.mem_map.1 ho
    have h4:=hl.2 r (List.mem_of_mem_take hr1)
    have h5:=splitC_len 32 r
    show ((splitC 32 r).getD 1 []).length < _
    by_cases h:1 < (splitC 32 r).length
    ·have:=h5.2 _ (getD_in [] h);omega
    ·rw [List.getD_eq_getElem?_getD,List.getElem?_eq_none (by omega)];show 0 < _;decide
   have hlen:(lns s).length=(linesOf rows).length:=by unfold lns;rw [List.length_map,hls]
   have hz:rows.getD m []=[]:=by
    by_cases hz:rows.getD m []=[]
    ·exact hz
    ·rw [if_neg hz] at hll;omega
   rw [if_pos hz,Nat.add_zero] at hll
   rw [hlen,hll] at h2
   rw [hlen,hll]
   have hR:=hok (h2.trans (by rw [Nat.sub_self];rfl))
   rw [if_neg (fun h=>h hz)] at hR
   have hol:=outG_len ofW rows m (by omega)
   clear hok h2 h1 hlen hbad hll hls
   rcases m with _|m
   ·conv=>whnf
    repeat' (first
     |(refine ⟨fun hg=>?_,fun hg=>?_⟩<;>first|contradiction|(conv=>whnf))
     |(refine Or.inl ?_;conv=>whnf)
     |(refine ⟨_,c_CheckO (outG ofW rows 0) (by omega) (hnb _),?_⟩;conv=>whnf)
     |(refine And.intro ?_ ?_;kernel_rfl;conv=>whnf))
    all_goals
     first
     |(have hg:chkO (outG ofW rows 0)≠0:=of_decide_eq_true hg
       rw [if_pos hg] at hR
       rw [hR];rfl)
     |(have hg:¬ chkO (outG ofW rows 0)≠0:=of_decide_eq_false hg
       rw [if_neg hg] at hR
       rw [hR];rfl)
     |(have hg:¬ chkO (outG ofW rows 0)≠0:=of_decide_eq_false ‹decide (chkO (outG ofW rows 0)≠0)=false›
       rw [if_neg hg] at hR
       rw [hR];rfl)
   ·have hol2:(oSW rows (m+1)).length=m+1:=by unfold oSW;rw [List.length_map,hol]
    have hcc:PC 27 [DV.list (oSW rows (m+1)),DV.int .i64 (24)] (DV.int .i64 (chkO (outG ofW rows (m+1)))):=c_CheckO (outG ofW rows (m+1)) (by omega) (hnb _)
    conv=>whnf
    refine .inl ?_
    conv=>whnf
    refine ⟨rfl,?_⟩
    rw [window_full]
    refine ⟨_,hcc,?_⟩
    conv=>whnf
    repeat' (first
     |(refine ⟨fun hg=>?_,fun hg=>?_⟩<;>first|contradiction|(conv=>whnf))
     |(refine Or.inl ?_;conv=>whnf)
     |(refine And.intro ?_ ?_;kernel_rfl;conv=>whnf))
    ·have hg:chkO (outG ofW rows (m+1))≠0:=of_decide_eq_true hg
     rw [if_pos hg] at hR
     rw [hR,hol2];rfl
    all_goals
     have hg:¬ chkO (outG ofW rows (m+1))≠0:=of_decide_eq_false hg
     rw [if_neg hg] at hR
     rw [hR,window_full];rfl
end Sh

namespace Sh
open Go Go.Proofs
def stepsL (b:Ba) (ls:List Int):List (List DV):=rng ls.length fun k=>[DV.int .i64 (prvN b ls k),DV.int .i64 (ls.getD k 0)]
theorem rng_drop {α:Type} {m i:Nat} (f:Nat→α) (h:i < m):(rng m f).drop i=f i :: (rng m f).drop (i+1):=by
 have hl:i < (rng m f).length:=by rw [rng_len];exact h
 rw [List.drop_eq_getElem_cons hl];simp [rng]
theorem stepsL_flat (b:Ba) (ls:List Int):∀ x ∈ stepsL b ls,flatBs x=true∧x.length=2:=fun x hx=>by obtain ⟨v,_,rfl⟩:=List.mem_map.1 hx;exact ⟨rfl,rfl⟩
theorem stepsL_get {b:Ba} {ls:List Int} {i:Nat} {z:List DV} (hz:(stepsL b ls)[i]?=some z):i < ls.length∧z=[DV.int .i64 (prvN b ls i),DV.int .i64 (ls.getD i 0)]:=by
 have hi:i < ls.length:=by
  have:=(List.getElem?_eq_some_iff.1 hz).1
  unfold stepsL at this;rwa [rng_len] at this
 have:=rng_drop (fun k=>[DV.int .i64 (prvN b ls k),DV.int .i64 (ls.getD k 0)]) hi
 have h3:=congrArg (fun l=>l[0]?) this
 simp only [List.getElem?_drop,Nat.add_zero,List.getElem?_cons_zero] at h3
 have h4:(rng ls.length fun k=>[DV.int .i64 (prvN b ls k),DV.int .i64 (ls.getD k 0)])[i]?=some z:=hz
 rw [h3] at h4
 exact ⟨hi,(Option.some.inj h4).symm⟩
theorem stepsIt (b:Ba) (ls:List Int) (hl:ls.length < 1073741824):ISeq Tryz.prog GC 139 [.ip (encB b),.ip (iL ls)] (stepsL b ls):=by
 have e0:((ls.map (DV.int .i64)).length:Int)=ls.length:=by simp
 refine iseq_of dh139 rfl rfl (by kernel_rfl) (fun x hx=>(stepsL_flat b ls x hx).1) (fun gl=>?_)
 conv=>whnf
 refine dwp_loopY (P:=Tryz.prog) (G:=GC) (k:=dk139_0) (b:=db139_0) (α:=Nat) (fun i=>[(0,.dict 0),(4,DV.int .i64 (prvN b ls i)),(9,iL ls),(10,.int .i64 (ls.map (DV.int .i64)).length),(11,DV.int .i64 (i))]) (fun i=>[(0,.ghost ((stepsL b ls).drop i) true gl)]) (fun i=>i≤ls.length) (fun i=>ls.length - i) 0 ⟨rfl,rfl,rfl⟩ (Nat.zero_le _) ?_
 intro i h1
 conv=>whnf
 refine ⟨fun hb=>?_,fun hb=>?_⟩
 ·have hi:i < ls.length:=by simpa using hb
  rw [show (stepsL b ls).drop i=[DV.int .i64 (prvN b ls i),DV.int .i64 (ls.getD i 0)] :: (stepsL b ls).drop (i+1) from rng_drop _ hi]
  generalize hF:(stepsL b ls).drop (i+1)=F
  conv=>whnf
  rw [getD_enc _ _ (i) 0 hi]
  refine ⟨idxA hi rfl,?_⟩
  conv=>whnf
  refine ⟨rfl,fun b=>?_⟩
  ·conv=>whnf
   refine ⟨fun hg=>?_,fun hg=>?_⟩
   ·have hg:b=false:=by simpa using hg
    subst hg
    conv=>whnf
    intro e;cases e
   ·have hg:b=true:=by simpa using hg
    subst hg
    conv=>whnf
    rw [wrap_succ i (by omega),← hF]
    exact ⟨i+1,rfl,rfl,rfl,hi,by omega⟩
 ·have hi:i=ls.length:=by have:=of_decide_eq_false hb;rw [e0] at this;omega
  conv=>whnf
  intro _
  rw [hi]
  exact List.drop_of_length_le (by unfold stepsL;rw [rng_len];exact Nat.le_refl _)
theorem c_steps (b:Ba) (ls:List Int):PC 109 [encB b,iL ls] (.func 139 [.ip (encB b),.ip (iL ls)]):=by
 refine pureCall_ofR dh109 rfl ?_
 conv=>whnf
 rfl
theorem c_value (b:Ba) (hb:OkB b) (ps ls:List Int) (hp:∀ p ∈ ps,OkP p) (hps:ps.length≤24) (hl:ls.length=ps.length) (hok:OkLs b ls):PC 108 [encB b,iL ps,iL ls] (DV.int .i64 (valI b ps ls ls.length)):=by
 refine pureCall_ofR dh108 rfl ?_
 conv=>whnf
 repeat' (first
  |(refine ⟨fun hg=>?_,fun hg=>?_⟩<;>first|contradiction|(conv=>whnf))
  |(refine Or.inl ?_;conv=>whnf)
  |(refine ⟨_,c_steps ..,?_⟩;conv=>whnf)
  |(refine And.intro ?_ ?_;kernel_rfl;conv=>whnf))
 refine range_R (P:=Tryz.prog) (G:=GC) (x:=db108_0x) (y:=db108_0) (k:=dk108_0) (stepsL b ls) (fun i=>[(3,.box 5 (encB b)),(4,.box 1 (iL ps)),(7,.box 1 (DV.int .i64 (valI b ps ls i))),(8,.box 1 (DV.int .i64 (i)))]) [(3,.bptr 3 0),(4,.bptr 4 0),(6,DV.int .i64 (0)),(7,.bptr 7 0),(8,.bptr 8 0)] (stepsIt b ls (by omega)) rfl (fun z hz=>(stepsL_flat b ls z hz).2) rfl rfl rfl ?_ ?_ ?_
 ·rfl
 ·intro i z hz
  obtain ⟨hi,rfl⟩:=stepsL_get hz
  have hi2:i < ps.length:=by omega
  conv=>whnf
  rw [getD_enc _ _ (i) 0 hi2]
  refine ⟨idxA hi2 rfl,?_⟩
  conv=>whnf
  repeat' (first
   |(refine ⟨fun hg=>?_,fun hg=>?_⟩<;>first|contradiction|(conv=>whnf))
   |(refine Or.inl ?_;conv=>whnf)
   |(refine ⟨_,c_worth b hb _ _ _ (hp _ (getD_in 0 hi2)) (prv_ok hb hok (by omega)) (lev_ok hb hok hi),?_⟩;conv=>whnf)
   |(refine And.intro ?_ ?_;kernel_rfl;conv=>whnf))
  have hv:=valI_bd hb hp hok (i:=i) (by omega) (by omega)
  have hv2:=valI_bd hb hp hok (i:=i+1) (by omega) (by omega)
  rw [valI_succ] at hv2
  have e1:IntKind.i64.wrap (valI b ps ls i+wthI b (ps.getD i 0) (prvN b ls i) (ls.getD i 0))=valI b ps ls (i+1):=by rw [valI_succ];exact wrap_in (by unfold valN at hv2;omega) (by unfold valN at hv2;omega)
  have e2:IntKind.i64.wrap ((i:Int)+1)=((i+1:Nat):Int):=wrap_succ i (by omega)
  rw [← e1,← e2];rfl
 ·rw [show (stepsL b ls).length=ls.length from rng_len _ _]
  conv=>whnf
  rfl
def valS (b:Ba) (ps ls:List Int):Int×Int:=if planE b ps ls≠0 then (0,planE b ps ls) else (valI b ps ls ls.length,0)
def ageS (b:Ba) (ps ls:List Int):Int×Int:=if planE b ps ls≠0 then (0,planE b ps ls) else (ageI b ls ls.length,0)
theorem c_Value (b:Ba) (ps ls:List Int) (hl:ps.length < 1073741824) (hl2:ls.length < 1073741824):PC 39 [encB b,iL ps,iL ls] (.tuple [DV.int .i64 ((valS b ps ls).1),DV.int .i64 ((valS b ps ls).2)]):=by
 refine pureCall_ofR dh39 rfl ?_
 conv=>whnf
 repeat' (first
  |(refine ⟨fun hg=>?_,fun hg=>?_⟩<;>first|contradiction|(conv=>whnf))
  |(refine Or.inl ?_;conv=>whnf)
  |(refine ⟨_,c_CheckPlan b ps ls hl hl2,?_⟩;conv=>whnf)
  |(refine And.intro ?_ ?_;kernel_rfl;conv=>whnf))
 ·have hg:planE b ps ls≠0:=of_decide_eq_true hg
  rw [valS,if_pos hg];rfl
 ·have hg:¬ planE b ps ls≠0:=of_decide_eq_false hg
  obtain ⟨hb,h0,h1,hp,h2,h3⟩:=planE_ok (Classical.not_not.1 hg)
  repeat' (first
   |(refine ⟨fun hg=>?_,fun hg=>?_⟩<;>first|contradiction|(conv=>whnf))
   |(refine Or.inl ?_;conv=>whnf)
   |(refine ⟨_,c_value b hb ps ls hp h1 h2 h3,?_⟩;conv=>whnf)
   |(refine And.intro ?_ ?_;kernel_rfl;conv=>whnf))
  rw [valS,if_neg hg];rfl
theorem c_Age (b:Ba) (ps ls:List Int) (hl:ps.length < 1073741824) (hl2:ls.length < 1073741824):PC 40 [encB b,iL ps,iL ls] (.tuple [DV.int .i64 ((ageS b ps ls).1),DV.int .i64 ((ageS b ps ls).2)]):=by
 refine pureCall_ofR dh40 rfl ?_
 conv=>whnf
 repeat' (first
  |(refine ⟨fun hg=>?_,fun hg=>?_⟩<;>first|contradiction|(conv=>whnf))
  |(refine Or.inl ?_;conv=>whnf)
  |(refine ⟨_,c_CheckPlan b ps ls hl hl2,?_⟩;conv=>whnf)
  |(refine And.intro ?_ ?_;kernel_rfl;conv=>whnf))
 ·have hg:planE b ps ls≠0:=of_decide_eq_true hg
  rw [ageS,if_pos hg];rfl
 ·have hg:¬ planE b ps ls≠0:=of_decide_eq_false hg
  obtain ⟨hb,h0,h1,hp,h2,hok⟩:=planE_ok (Classical.not_not.1 hg)
  have hv:ageS b ps ls=(ageI b ls ls.length,0):=by rw [ageS,if_neg hg]
  rw [hv]
  clear hg hv
  repeat' (first
   |(refine ⟨fun hg=>?_,fun hg=>?_⟩<;>first|contradiction|(conv=>whnf))
   |(refine Or.inl ?_;conv=>whnf)
   |(refine ⟨_,c_steps ..,?_⟩;conv=>whnf)
   |(refine And.intro ?_ ?_;kernel_rfl;conv=>whnf))
  refine range_R (P:=Tryz.prog) (G:=GC) (x:=db40_0x) (y:=db40_0) (k:=dk40_0) (stepsL b ls) (fun i=>[(3,.box 5 (encB b)),(9,.box 1 (DV.int .i64 (ageI b ls i)))]) [(6,DV.int .i64 (0)),(7,DV.int .i64 (0)),(9,.bptr 9 0)] (stepsIt b ls (by omega)) rfl (fun z hz=>(stepsL_flat b ls z hz).2) rfl rfl rfl ?_ ?_ ?_
  ·rfl
  ·intro i z hz
   obtain ⟨hi,rfl⟩:=stepsL_get hz
   have q1:=prv_ok hb hok (k:=i) (by omega)
   have q2:=lev_ok hb hok hi
   obtain ⟨q1,q3⟩:=q1
   obtain ⟨q2,q4⟩:=q2
   have hv:=ageI_bd hb hok (i:=i) (by omega)
   have hv2:=ageN_bd hb hok hi
   conv=>whnf
   have e0:minmaxI true 0 (IntKind.i64.wrap (prvN b ls i - ls.getD i 0))=ageN b ls i:=by
    rw [wrap_in (by omega) (by omega)]
    show (if prvN b ls i - ls.getD i 0 > 0 then _ else _)=max _ _
    split<;>omega
   have e1:IntKind.i64.wrap (ageI b ls i+minmaxI true 0 (IntKind.i64.wrap (prvN b ls i - ls.getD i 0)))=ageI b ls (i+1):=by
    rw [e0,ageI_succ];exact wrap_in (by omega) (by omega)
   refine ⟨rfl,?_⟩
   show _=[(3,DObj.box 5 (encB b)),(9,DObj.box 1 (DV.int .i64 (ageI b ls (i+1))))]
   rw [← e1];rfl
  ·rw [show (stepsL b ls).length=ls.length from rng_len _ _]
   conv=>whnf
   rfl
end Sh

namespace Sh
open Go
def lvN (b:Ba):Nat:=(b.ca+1).toNat
theorem OkB.lv {b:Ba} (hb:OkB b):(lvN b:Int)=b.ca+1∧2≤lvN b∧lvN b≤25:=by
 have:=hb.c0
 have:=hb.c1
 unfold lvN;omega
def mxN (b:Ba) (p:Int) (nx:List Int) (f:Nat):Nat→Int
 |0=>nx.getD f 0
 |j+1=>if farB b f j then mxN b p nx f j else max (mxN b p nx f j) (wthI b p f j+nx.getD j 0)
def rowT (b:Ba) (p:Int) (nx:List Int) (k:Nat):List Int:=rng k fun f=>mxN b p nx f (lvN b)
def rwA (b:Ba):List Int→List Int
 |[]=>List.replicate (lvN b) 0
 |p :: r=>rowT b p (rwA b r) (lvN b)
def tabT (b:Ba) (ps:List Int):List (List Int):=rng (ps.length+1) fun i=>rwA b (ps.drop i)
theorem rowT_len (b:Ba) (p:Int) (nx:List Int) (k:Nat):(rowT b p nx k).length=k:=rng_len _ _
theorem rowT_succ (b:Ba) (p:Int) (nx:List Int) (k:Nat):rowT b p nx (k+1)=rowT b p nx k++[mxN b p nx k (lvN b)]:=rng_succ _ _
theorem rwA_len (b:Ba):∀ ps:List Int,(rwA b ps).length=lvN b
 |[]=>List.length_replicate
 |p :: r=>rowT_len _ _ _ _
theorem tabT_len (b:Ba) (ps:List Int):(tabT b ps).length=ps.length+1:=rng_len _ _
theorem tabT_get (b:Ba) (ps:List Int) {i:Nat} (h:i≤ps.length):(tabT b ps).getD i []=rwA b (ps.drop i):=rng_getD _ _ (by omega)
theorem rwA_step (b:Ba) (ps:List Int) {i:Nat} (h:i < ps.length):rwA b (ps.drop i)=rowT b (ps.getD i 0) (rwA b (ps.drop (i+1))) (lvN b):=by
 rw [drop_getD ps i 0 h];rfl
theorem rwA_get (b:Ba) (p:Int) (r:List Int) {f:Nat} (h:f < lvN b):(rwA b (p :: r)).getD f 0=mxN b p (rwA b r) f (lvN b):=rng_getD _ _ h
theorem rwA_nil (b:Ba) (f:Nat):(rwA b []).getD f 0=0:=by
 show (List.replicate (lvN b) (0:Int)).getD f 0=0
 rw [List.getD_eq_getElem?_getD,List.getElem?_replicate]
 split<;>rfl
theorem lev24 {b:Ba} (hb:OkB b) {f:Nat} (h:f < lvN b):OkL24 f:=by have:=hb.lv;have:=hb.c1;exact ⟨by omega,by omega⟩
def OkR (b:Ba) (k:Nat) (nx:List Int):Prop:=∀ f,f < lvN b→0≤nx.getD f 0∧nx.getD f 0≤2400000 * k
theorem mxN_bd {b:Ba} (hb:OkB b) {p:Int} (hp:OkP p) {k:Nat} {nx:List Int} (h:OkR b k nx) {f:Nat} (hf:f < lvN b):∀ {j:Nat},j≤lvN b→0≤mxN b p nx f j∧mxN b p nx f j≤2400000 * (k+1:Nat)
 |0,_=>by have:=h f hf;unfold mxN;omega
 |j+1,hj=>by
  have a:=mxN_bd hb hp h hf (j:=j) (by omega)
  have c:=h j (by omega)
  have d:=wthI_bd hb hp (lev24 hb hf) (lev24 hb (f:=j) (by omega))
  unfold mxN
  split
  ·exact a
  ·omega
theorem mxN_ge (b:Ba) (p:Int) (nx:List Int) (f:Nat) {i j:Nat} (h:i≤j):mxN b p nx f i≤mxN b p nx f j:=by
 obtain ⟨k,rfl⟩:=Nat.exists_eq_add_of_le h
 clear h
 induction k with
 |zero=>exact Int.le_refl _
 |succ k ih =>
  show _≤mxN b p nx f (i+k+1)
  rw [mxN]
  split
  ·exact ih
  ·omega
theorem mxN_step {b:Ba} {p:Int} {nx:List Int} {f t:Nat} (h:farB b f t=false) (ht:t < lvN b):wthI b p f t+nx.getD t 0≤mxN b p nx f (lvN b):=by
 refine Int.le_trans ?_ (mxN_ge b p nx f (show t+1≤lvN b by omega))
 rw [mxN,h]
 show _≤max _ _
 omega
theorem far_same {b:Ba} (hb:OkB b) (f:Int):farB b f f=false:=by
 have:=hb.r0
 unfold farB
 rw [decide_eq_false (by omega)];rfl
def isBest (b:Ba) (p:Int) (nx:List Int) (v:Int) (f t:Nat):Bool:=!farB b f t && decide (wthI b p f t+nx.getD t 0=v)
theorem mxN_found {b:Ba} (hb:OkB b) {p:Int} {nx:List Int} {f:Nat} (hf:f < lvN b):∀ j,j≤lvN b→∃ t,t < lvN b∧isBest b p nx (mxN b p nx f j) f t=true
 |0,_=>by
  refine ⟨f,hf,?_⟩
  unfold isBest
  rw [far_same hb,wthI_same]
  show (true && decide _)=true
  rw [decide_eq_true (by rw [Int.zero_add];rfl)];rfl
 |j+1,hj=>by
  obtain ⟨t,h1,h2⟩:=mxN_found hb hf (p:=p) (nx:=nx) j (by omega)
  by_cases hfr:farB b f j=true
  ·exact ⟨t,h1,by rw [mxN,if_pos hfr];exact h2⟩
  ·by_cases hm:mxN b p nx f j≤wthI b p f j+nx.getD j 0
   ·refine ⟨j,by omega,?_⟩
    have hfr:farB b f j=false:=by simpa using hfr
    unfold isBest
    rw [mxN,hfr,decide_eq_true (show wthI b p f j+nx.getD j 0=_ by show _=max _ _;omega)];rfl
   ·refine ⟨t,h1,?_⟩
    rw [mxN,if_neg hfr,Int.max_eq_left (by omega)]
    exact h2
def fstN (P:Nat→Bool):Nat→Nat→Nat→Nat
 |_,0,d=>d
 |i,k+1,d=>if P i then i else fstN P (i+1) k d
theorem fstN_ok {P:Nat→Bool}:∀ {k i:Nat} (d:Nat) {t:Nat},i≤t→t < i+k→P t=true→P (fstN P i k d)=true∧i≤fstN P i k d∧fstN P i k d≤t
 |0,i,d,t,h1,h2,_=>by omega
 |k+1,i,d,t,h1,h2,h3=>by
  unfold fstN
  by_cases hp:P i=true
  ·rw [if_pos hp];exact ⟨hp,Nat.le_refl _,h1⟩
  ·rw [if_neg hp]
   have hne:i≠t:=fun e=>hp (e ▸ h3)
   have:=fstN_ok (k:=k) (i:=i+1) d (t:=t) (by omega) (by omega) h3
   exact ⟨this.1,by omega,this.2.2⟩
def nxtN (b:Ba) (p:Int) (r:List Int) (f:Nat):Nat:=fstN (isBest b p (rwA b r) ((rwA b (p :: r)).getD f 0) f) 0 (lvN b) f
theorem nxtN_ok {b:Ba} (hb:OkB b) (p:Int) (r:List Int) {f:Nat} (hf:f < lvN b):isBest b p (rwA b r) ((rwA b (p :: r)).getD f 0) f (nxtN b p r f)=true∧nxtN b p r f < lvN b∧∀ t,isBest b p (rwA b r) ((rwA b (p :: r)).getD f 0) f t=true→t < lvN b→nxtN b p r f≤t:=by
 obtain ⟨t,h1,h2⟩:=mxN_found hb hf (p:=p) (nx:=rwA b r) (lvN b) (Nat.le_refl _)
 rw [← rwA_get b p r hf] at h2
 have h3:=fstN_ok (P:=isBest b p (rwA b r) ((rwA b (p :: r)).getD f 0) f) (k:=lvN b) (i:=0) f (t:=t) (Nat.zero_le _) (by omega) h2
 refine ⟨h3.1,by show fstN _ _ _ _ < _;omega,fun u hu1 hu2=>?_⟩
 exact (fstN_ok (P:=isBest b p (rwA b r) ((rwA b (p :: r)).getD f 0) f) (k:=lvN b) (i:=0) f (t:=u) (Nat.zero_le _) (by omega) hu1).2.2
def atN (b:Ba) (ps:List Int) (f:Nat):Nat→Nat
 |0=>f
 |i+1=>nxtN b (ps.getD i 0) (ps.drop (i+1)) (atN b ps f i)
def bstL (b:Ba) (ps:List Int) (i:Nat):List Int:=rng i fun k=>(atN b ps b.le.toNat (k+1):Int)
theorem bstL_len (b:Ba) (ps:List Int) (i:Nat):(bstL b ps i).length=i:=rng_len _ _
theorem bstL_succ (b:Ba) (ps:List Int) (i:Nat):bstL b ps (i+1)=bstL b ps i++[(atN b ps b.le.toNat (i+1):Int)]:=rng_succ _ _
theorem le_lv {b:Ba} (hb:OkB b):b.le.toNat < lvN b∧(b.le.toNat:Int)=b.le:=by
 have:=hb.e0
 have:=hb.e1
 have:=hb.lv
 omega
theorem atN_lv {b:Ba} (hb:OkB b) (ps:List Int) {f:Nat} (hf:f < lvN b):∀ i,atN b ps f i < lvN b
 |0=>hf
 |i+1=>(nxtN_ok hb _ _ (atN_lv hb ps hf i)).2.1
theorem rwA_ok {b:Ba} (hb:OkB b):∀ {ps:List Int},(∀ p ∈ ps,OkP p)→OkR b ps.length (rwA b ps)
 |[],_=>fun f hf=>by rw [rwA_nil];omega
 |p :: r,h=>fun f hf=>by
  rw [rwA_get b p r hf]
  exact mxN_bd hb (h p (by simp)) (rwA_ok hb (ps:=r) (fun q hq=>h q (by simp [hq]))) hf (Nat.le_refl _)
def topI (b:Ba) (ps:List Int):Int:=(rwA b ps).getD b.le.toNat 0
theorem stay_best {b:Ba} (hb:OkB b) {p:Int} {r:List Int} (hp:∀ q ∈ p :: r,OkP q) {f:Nat} (hf:f < lvN b) (hz:(rwA b (p :: r)).getD f 0=0):nxtN b p r f≤f∧(rwA b r).getD f 0=0:=by
 have hr:=rwA_ok hb (ps:=r) (fun q hq=>hp q (by simp [hq])) f hf
 have h1:(rwA b r).getD f 0≤(rwA b (p :: r)).getD f 0:=by
  rw [rwA_get b p r hf]
  exact mxN_ge b p (rwA b r) f (Nat.zero_le _)
 have h2:(rwA b r).getD f 0=0:=by omega
 refine ⟨(nxtN_ok hb p r hf).2.2 f ?_ hf,h2⟩
 unfold isBest
 rw [far_same hb,wthI_same,hz,h2];rfl
def cmpI (a b:Int):Int:=if a < b then -1 else if b < a then 1 else 0
def cmpL:List Int→List Int→Int
 |[],[]=>0
 |[],_ :: _ => -1
 |_ :: _,[]=>1
 |a :: r,c :: s=>if cmpI a c≠0 then cmpI a c else cmpL r s
theorem cmpL_stay {b:Ba} (hb:OkB b) (qs:List Int):∀ (ps:List Int) (i:Nat) (f:Nat),(∀ q ∈ ps,OkP q)→f < lvN b→(rwA b ps).getD f 0=0→0≤cmpL (List.replicate ps.length (f:Int)) (rng ps.length fun k=>(atN b ps f (k+1):Int)):=by
 intro ps
 induction ps with
 |nil=>intro i f _ _ _;exact Int.le_refl _
 |cons p r ih =>
  intro i f hp hf hz
  obtain ⟨h1,h2⟩:=stay_best hb hp hf hz
  have hshift:∀ g,g=nxtN b p r f→∀ k,atN b (p :: r) f (k+1)=atN b r g k:=by
   intro g hg k
   induction k with
   |zero=>exact hg.symm
   |succ k ihk =>
    show nxtN b ((p :: r).getD (k+1) 0) ((p :: r).drop (k+1+1)) (atN b (p :: r) f (k+1))=nxtN b (r.getD k 0) (r.drop (k+1)) (atN b r g k)
    rw [ihk];rfl
  have hrng:(rng (p :: r).length fun k=>(atN b (p :: r) f (k+1):Int))=(nxtN b p r f:Int) :: rng r.length fun k=>(atN b r (nxtN b p r f) (k+1):Int):=by
   have e:∀ k,atN b (p :: r) f (k+1)=atN b r (nxtN b p r f) k:=hshift _ rfl
   simp only [e]
   unfold rng
   rw [List.length_cons,List.range_succ_eq_map,List.map_cons,List.map_map]
   rfl
  rw [hrng,List.length_cons,List.replicate_succ]
  unfold cmpL
  by_cases e:nxtN b p r f=f
  ·rw [e,if_neg (by unfold cmpI;simp)]
   exact ih 0 f (fun q hq=>hp q (by simp [hq])) hf h2
  ·have:cmpI (f:Int) (nxtN b p r f:Int)=1:=by unfold cmpI;rw [if_neg (by omega),if_pos (by omega)]
   rw [this];exact (by decide:(0:Int)≤1)
theorem best_first {b:Ba} (hb:OkB b) {ps:List Int} (hp:∀ q ∈ ps,OkP q):¬ firstE [cmpI (topI b ps) 0,cmpL (List.replicate ps.length b.le) (bstL b ps ps.length)] < 0:=by
 obtain ⟨h1,h2⟩:=le_lv hb
 have h3:=rwA_ok hb hp b.le.toNat h1
 have h3':0≤topI b ps:=h3.1
 by_cases hz:topI b ps=0
 ·have:=cmpL_stay hb [] ps 0 b.le.toNat hp h1 hz
  rw [h2] at this
  rw [hz]
  show ¬ firstE [0,_] < 0
  simp only [firstE]
  unfold bstL
  split<;>omega
 ·have:cmpI (topI b ps) 0=1:=by unfold cmpI;rw [if_neg (by omega),if_pos (by omega)]
  rw [this];exact (by decide:¬ (1:Int) < 0)
end Sh

namespace Sh
open Go Go.Proofs
def iLL (l:List (List Int)):DV:=.list (l.map iL)
theorem mxN_ok {b:Ba} (hb:OkB b) {ps:List Int} (hp:∀ q ∈ ps,OkP q) (hps:ps.length≤24) {i:Nat} (hi:i < ps.length) {f j:Nat} (hf:f < lvN b) (hj:j≤lvN b):0≤mxN b (ps.getD i 0) (rwA b (ps.drop (i+1))) f j∧mxN b (ps.getD i 0) (rwA b (ps.drop (i+1))) f j≤100000000:=by
 have hr:=rwA_ok hb (ps:=ps.drop (i+1)) (fun q hq=>hp q (List.mem_of_mem_drop hq))
 have:=mxN_bd hb (hp _ (getD_in 0 hi)) hr hf hj
 rw [List.length_drop] at this
 omega
theorem rwA_bd {b:Ba} (hb:OkB b) {ps:List Int} (hp:∀ q ∈ ps,OkP q) (hps:ps.length≤24) (i:Nat) {f:Nat} (hf:f < lvN b):0≤(rwA b (ps.drop i)).getD f 0∧(rwA b (ps.drop i)).getD f 0≤100000000:=by
 have hr:=rwA_ok hb (ps:=ps.drop i) (fun q hq=>hp q (List.mem_of_mem_drop hq)) f hf
 rw [List.length_drop] at hr
 omega
theorem minmax_max (x y:Int):minmaxI true x y=max x y:=by
 show (if y > x then y else x)=_
 split<;>omega
end Sh

namespace Sh
open Go Go.Proofs
def lvJ (b:Ba) (ps:List Int):Nat→Int
 |0=>b.le
 |i+1=>(atN b ps b.le.toNat (i+1):Int)
def lvlI (b:Ba) (ps:List Int) (i:Nat):Nat:=atN b ps b.le.toNat i
theorem bstD_succ (b:Ba) (ps:List Int) (i:Nat):iD (bstL b ps (i+1))=iD (bstL b ps i)++[DV.int .i64 ((lvlI b ps (i+1):Nat))]:=by rw [bstL_succ];unfold iD;rw [List.map_append];rfl
theorem lvJ_eq {b:Ba} (hb:OkB b) (ps:List Int) (i:Nat):lvJ b ps i=(lvlI b ps i:Int):=by
 cases i with
 |zero=>exact (le_lv hb).2.symm
 |succ i=>rfl
theorem isBest_step {b:Ba} {p:Int} {nx:List Int} {v:Int} {f t:Nat}:isBest b p nx v f t=true ↔ farB b f t=false∧wthI b p f t+nx.getD t 0=v:=by
 unfold isBest
 rw [Bool.and_eq_true,Bool.not_eq_true',decide_eq_true_iff]
def noBest (b:Ba) (p:Int) (r:List Int) (f j:Nat):Prop:=∀ t,t < j→isBest b p (rwA b r) ((rwA b (p :: r)).getD f 0) f t=false
theorem noBest_succ {b:Ba} {p:Int} {r:List Int} {f j:Nat} (h:noBest b p r f j) (hj:isBest b p (rwA b r) ((rwA b (p :: r)).getD f 0) f j=false):noBest b p r f (j+1):=fun t ht=>by
 by_cases e:t=j
 ·rw [e];exact hj
 ·exact h t (by omega)
theorem noBest_found {b:Ba} (hb:OkB b) {p:Int} {r:List Int} {f j:Nat} (hf:f < lvN b) (hj:j < lvN b) (h:noBest b p r f j) (h1:isBest b p (rwA b r) ((rwA b (p :: r)).getD f 0) f j=true):nxtN b p r f=j:=by
 obtain ⟨a1,a2,a3⟩:=nxtN_ok hb p r hf
 have c1:=a3 j h1 hj
 by_cases e:nxtN b p r f=j
 ·exact e
 ·have:=h _ (show nxtN b p r f < j by omega)
  rw [a1] at this;cases this
theorem noBest_all {b:Ba} (hb:OkB b) {p:Int} {r:List Int} {f:Nat} (hf:f < lvN b) (h:noBest b p r f (lvN b)):False:=by
 obtain ⟨a1,a2,a3⟩:=nxtN_ok hb p r hf
 have:=h _ a2
 rw [a1] at this;cases this
theorem drop_cons' (ps:List Int) {i:Nat} (h:i < ps.length):ps.drop i=ps.getD i 0 :: ps.drop (i+1):=drop_getD ps i 0 h
theorem iLL_get (b:Ba) (ps:List Int) {i:Nat} (h:i < (tabT b ps).length):(tabT b ps).getD i []=rwA b (ps.drop i):=tabT_get b ps (by rw [tabT_len] at h;omega)
end Sh

namespace Sh
open Go
end Sh

namespace Sh
open Go
def tbE (n:Int):Int:=withE n (-10000000000) 10000000000
def rwE (l:List Int):Int:=firstE (l.map tbE)
def lenB (b:Ba) (tb:List (List Int)):Bool:=tb.all fun l=>decide (l.length=lvN b)
def frmE (b:Ba) (ps:List Int) (tb:List (List Int)):Int:=if tb.length≠ps.length+1 then 2 else if lenB b tb=false then 2 else firstE (tb.map rwE)
theorem firstE_append (l r:List Int):firstE (l++r)=if firstE l≠0 then firstE l else firstE r:=by
 induction l with
 |nil=>rfl
 |cons a t ih =>
  rw [List.cons_append]
  simp only [firstE]
  rw [ih]
  grind
theorem firstE_flatten (tb:List (List Int)):firstE (tb.flatten.map tbE)=firstE (tb.map rwE):=by
 induction tb with
 |nil=>rfl
 |cons l r ih =>
  rw [List.flatten_cons,List.map_append,firstE_append,List.map_cons]
  rw [ih]
  rfl
def rowG (tb:List (List Int)) (i f:Nat):Int:=(tb.getD i []).getD f 0
def stpP (b:Ba) (ps:List Int) (tb:List (List Int)) (i f t:Nat):Prop:=farB b f t=false→¬ rowG tb i f < wthI b (ps.getD i 0) f t+rowG tb (i+1) t
instance (b:Ba) (ps:List Int) (tb:List (List Int)) (i f t:Nat):Decidable (stpP b ps tb i f t):=by unfold stpP;infer_instance
structure prvP (b:Ba) (ps:List Int) (tb:List (List Int)) (v:Int):Prop where
 z:∀ k,k < lvN b→rowG tb ps.length k=0
 s:∀ i,i < ps.length→∀ f,f < lvN b→∀ t,t < lvN b→stpP b ps tb i f t
 v:rowG tb 0 b.le.toNat=v
instance (b:Ba) (ps:List Int) (tb:List (List Int)) (v:Int):Decidable (prvP b ps tb v) :=
 decidable_of_iff ((∀ k,k < lvN b→rowG tb ps.length k=0)∧(∀ i,i < ps.length→∀ f,f < lvN b→∀ t,t < lvN b→stpP b ps tb i f t)∧rowG tb 0 b.le.toNat=v)
  ⟨fun h=>⟨h.1,h.2.1,h.2.2⟩,fun h=>⟨h.z,h.s,h.v⟩⟩
structure OkT (b:Ba) (ps:List Int) (tb:List (List Int)):Prop where
 n:tb.length=ps.length+1
 l:∀ i,i < tb.length→(tb.getD i []).length=lvN b
 g:∀ i f,i < tb.length→f < lvN b → -10000000000≤rowG tb i f∧rowG tb i f≤10000000000
theorem frmE_ok {b:Ba} {ps:List Int} {tb:List (List Int)} (h:frmE b ps tb=0):OkT b ps tb:=by
 unfold frmE at h
 split at h
 ·contradiction
 ·rename_i h0
  split at h
  ·contradiction
  ·rename_i h1
   have h1:lenB b tb=true:=by simpa using h1
   have hl:∀ i,i < tb.length→(tb.getD i []).length=lvN b:=fun i hi=>of_decide_eq_true (List.all_eq_true.1 h1 _ (getD_in [] hi))
   refine ⟨Classical.not_not.1 h0,hl,fun i f hi hf=>?_⟩
   have h2:rwE (tb.getD i [])=0:=firstE_mem h _ (List.mem_map_of_mem (getD_in [] hi))
   exact withE_zero (firstE_all h2 _ (getD_in 0 (by rw [hl i hi];exact hf)))
def chkTb (b:Ba) (ps:List Int) (tb:List (List Int)) (v:Int):Int:=if chkBP b ps≠0 then chkBP b ps else if frmE b ps tb≠0 then frmE b ps tb else if prvP b ps tb v then 0 else 19
theorem tabT_row (b:Ba) (ps:List Int) {i:Nat} (h:i≤ps.length) (f:Nat):rowG (tabT b ps) i f=(rwA b (ps.drop i)).getD f 0:=by unfold rowG;rw [tabT_get b ps h]
theorem tabT_prv {b:Ba} (hb:OkB b) {ps:List Int}:prvP b ps (tabT b ps) (topI b ps):=by
 refine ⟨fun k _=>?_,fun i hi f hf t ht hfr=>?_,?_⟩
 ·rw [tabT_row b ps (Nat.le_refl _),List.drop_length,rwA_nil]
 ·rw [tabT_row b ps (by omega),tabT_row b ps (by omega),drop_getD ps i 0 hi,rwA_get b _ _ hf]
  have:=mxN_step (p:=ps.getD i 0) (nx:=rwA b (ps.drop (i+1))) hfr ht
  omega
 ·rw [tabT_row b ps (Nat.zero_le _)];rfl
theorem prv_value {b:Ba} {ps:List Int} {tb:List (List Int)} {v w:Int} (h:prvP b ps tb v) (hw:prvP b ps tb w):v=w:=by rw [← h.v,← hw.v]
end Sh

namespace Sh
open Go Go.Proofs
theorem q_SameInts (a b:List Int) (hl:a.length < 4611686018427387904):PC 28 [iL a,iL b] (.bool (decide (a=b))):=by
 have e0:((a.map (DV.int .i64)).length:Int)=a.length:=by simp
 have e1:((b.map (DV.int .i64)).length:Int)=b.length:=by simp
 refine pureCall_ofR dh28 rfl ?_
 conv=>whnf
 repeat' (first
  |(refine ⟨fun hg=>?_,fun hg=>?_⟩<;>first|contradiction|(conv=>whnf))
  |(refine Or.inl ?_;conv=>whnf)
  |(refine And.intro ?_ ?_;kernel_rfl;conv=>whnf))
 ·have hg:=of_decide_eq_true hg
  rw [e0,e1] at hg
  exact bool_eq (by symm;rw [decide_eq_false_iff_not];intro e;rw [e] at hg;exact hg rfl)
 ·have hg:=of_decide_eq_false hg
  rw [e0,e1] at hg
  have hab:a.length=b.length:=by omega
  refine dwp_loopR (P:=Tryz.prog) (G:=GC) (k:=dk28_0) (b:=db28_0) (α:=Nat) (fun i=>[(0,iL a),(1,iL b),(5,DV.int .i64 (i))]) (fun _=>[]) (fun i=>i≤a.length∧a.take i=b.take i) (fun i=>a.length - i) 0 ⟨rfl,rfl,rfl⟩ ⟨Nat.zero_le _,rfl⟩ ?_
  intro i ⟨h1,h2⟩
  conv=>whnf
  refine ⟨fun hb=>?_,fun hb=>?_⟩
  ·have hi:i < a.length:=by simpa using hb
   conv=>whnf
   rw [getD_enc _ _ (i) 0 hi]
   refine ⟨idxA hi rfl,?_⟩
   conv=>whnf
   rw [getD_enc _ _ (i) 0 (by omega:i < b.length)]
   refine ⟨idxA (by omega:i < b.length) rfl,?_⟩
   conv=>whnf
   repeat' (first
    |(refine ⟨fun hg=>?_,fun hg=>?_⟩<;>first|contradiction|(conv=>whnf))
    |(refine Or.inl ?_;conv=>whnf)
    |(refine And.intro ?_ ?_;kernel_rfl;conv=>whnf))
   ·have hg:=of_decide_eq_true hg
    exact bool_eq (by symm;rw [decide_eq_false_iff_not];intro e;rw [e] at hg;exact hg rfl)
   ·have hg:=Classical.not_not.1 (of_decide_eq_false hg)
    rw [wrap_succ i (by omega)]
    exact ⟨i+1,rfl,rfl,rfl,⟨hi,by rw [take_snoc a i 0 hi,take_snoc b i 0 (by omega),h2,hg]⟩,by omega⟩
  ·have hi:i=a.length:=by have:=of_decide_eq_false hb;rw [e0] at this;omega
   conv=>whnf
   refine bool_eq ?_
   symm
   rw [decide_eq_true_eq]
   rw [hi,List.take_length,hab,List.take_length] at h2
   exact h2
end Sh

namespace Sh
open Go Go.Proofs
theorem r_SameLists (l:List (List Int)) (h:l.length < 1073741824) (hl:∀ r ∈ l,r.length < 1073741824):PC 60 [iLL l,iLL l] (.bool true):=by
 have e0:((l.map iL).length:Int)=l.length:=by simp
 refine pureCall_ofR dh60 rfl ?_
 conv=>whnf
 refine ⟨fun hg=>?_,fun hg=>?_⟩
 ·have:=of_decide_eq_true hg;exact absurd rfl this
 clear hg
 conv=>whnf
 refine dwp_loopU (P:=Tryz.prog) (G:=GC) (k:=dk60_0) (b:=db60_0) (α:=Nat) (fun i=>[(5,DV.int .i64 (i))]) (fun _=>[]) (fun i=>i≤l.length) (fun i=>l.length - i) 0 (Nat.zero_le _) ?_
 conv=>whnf
 refine ⟨rfl,rfl,?_⟩
 conv=>whnf
 refine ⟨rfl,?_⟩
 intro i h1
 conv=>whnf
 refine ⟨fun hc=>?_,fun hc=>?_⟩
 ·have hi:i < l.length:=by have:=of_decide_eq_true hc;rw [e0] at this;omega
  clear hc
  have k1:PC 28 [iL (l.getD i []),iL (l.getD i [])] (.bool true):=by
   have:=q_SameInts (l.getD i []) (l.getD i []) (by have:=hl _ (getD_in [] hi);omega)
   rwa [decide_eq_true rfl] at this
  conv=>whnf
  repeat' (first
   |(refine ⟨fun hg=>?_,fun hg=>?_⟩<;>first|contradiction|(conv=>whnf))
   |(refine Or.inl ?_;conv=>whnf)
   |(refine ⟨_,k1,?_⟩;conv=>whnf)
   |(rw [getD_enc _ _ i [] hi];refine ⟨idxA hi rfl,?_⟩;conv=>whnf)
   |(refine And.intro ?_ ?_;kernel_rfl;conv=>whnf))
  rw [wrap_succ i (by omega)]
  exact ⟨i+1,rfl,rfl,rfl,hi,by omega⟩
 ·clear hc
  conv=>whnf
  rfl
end Sh

namespace Sh
open Go Go.Proofs
theorem c_isNaN (a:Int):PC 165 [DV.int .i64 (a)] (.bool false):=by
 refine pureCall_ofR dh165 rfl ?_
 conv=>whnf
 exact bool_eq (decide_eq_false (by simp))
theorem c_cmp (a b:Int):PC 142 [DV.int .i64 (a),DV.int .i64 (b)] (DV.int .i64 (cmpI a b)):=by
 refine pureCall_ofR dh142 rfl ?_
 conv=>whnf
 repeat' (first
  |(refine ⟨fun hg=>?_,fun hg=>?_⟩<;>first|contradiction|(conv=>whnf))
  |(refine Or.inl ?_;conv=>whnf)
  |(refine ⟨_,c_isNaN ..,?_⟩;conv=>whnf)
  |(refine And.intro ?_ ?_;kernel_rfl;conv=>whnf))
 ·have hg:a < b:=of_decide_eq_true hg
  exact int_eq (by unfold cmpI;rw [if_pos hg])
 ·rename_i h1
  have h1:¬ a < b:=of_decide_eq_false h1
  have hg:a > b:=of_decide_eq_true hg
  exact int_eq (by unfold cmpI;rw [if_neg h1,if_pos hg])
 ·rename_i h1
  have h1:¬ a < b:=of_decide_eq_false h1
  have hg:¬ a > b:=of_decide_eq_false hg
  exact int_eq (by unfold cmpI;rw [if_neg h1,if_neg hg])
theorem cmpL_drop (a b:List Int) (i:Nat) (h1:i < a.length) (h2:i < b.length):cmpL (a.drop i) (b.drop i)=if cmpI (a.getD i 0) (b.getD i 0)≠0 then cmpI (a.getD i 0) (b.getD i 0) else cmpL (a.drop (i+1)) (b.drop (i+1)):=by
 rw [drop_getD a i 0 h1,drop_getD b i 0 h2];rfl
theorem cmpL_long (a b:List Int) (i:Nat) (h1:i < a.length) (h2:b.length≤i):cmpL (a.drop i) (b.drop i)=1:=by
 rw [drop_getD a i 0 h1,List.drop_of_length_le h2];rfl
theorem cmpL_short (a b:List Int) (h:a.length≤b.length):cmpL (a.drop a.length) (b.drop a.length)=if a.length < b.length then -1 else 0:=by
 rw [List.drop_of_length_le (Nat.le_refl _)]
 split
 ·rename_i h;rw [drop_getD b _ 0 h];rfl
 ·rw [List.drop_of_length_le (by omega)];rfl
theorem c_cmpL (a b:List Int) (ha:a.length < 1073741824):PC 143 [iL a,iL b] (DV.int .i64 (cmpL a b)):=by
 have e0:((a.map (DV.int .i64)).length:Int)=a.length:=by simp
 have e1:((b.map (DV.int .i64)).length:Int)=b.length:=by simp
 refine pureCall_ofR dh143 rfl ?_
 conv=>whnf
 refine dwp_loopU (P:=Tryz.prog) (G:=GC) (k:=dk143_0) (b:=db143_0) (α:=Nat) (fun i=>[(11,DV.int .i64 (i))]) (fun _=>[]) (fun i=>i≤a.length∧i≤b.length∧cmpL a b=cmpL (a.drop i) (b.drop i)) (fun i=>a.length - i) 0 ⟨Nat.zero_le _,Nat.zero_le _,rfl⟩ ?_
 conv=>whnf
 refine ⟨rfl,rfl,?_⟩
 conv=>whnf
 refine ⟨rfl,?_⟩
 intro i ⟨h1,h2,h3⟩
 conv=>whnf
 refine ⟨fun hb=>?_,fun hb=>?_⟩
 ·have hi:i < a.length:=by simpa using hb
  clear hb
  conv=>whnf
  rw [getD_enc _ _ (i) 0 hi]
  refine ⟨idxA hi rfl,?_⟩
  conv=>whnf
  refine ⟨fun hg=>?_,fun hg=>?_⟩
  ·have hg:((b.map (DV.int .i64)).length:Int)≤i:=of_decide_eq_true hg
   rw [e1] at hg
   conv=>whnf
   exact int_eq (by rw [h3,cmpL_long a b i hi (by omega)])
  ·have hg:¬ ((b.map (DV.int .i64)).length:Int)≤i:=of_decide_eq_false hg
   rw [e1] at hg
   have hj:i < b.length:=by omega
   have hd:=cmpL_drop a b i hi hj
   conv=>whnf
   rw [getD_enc _ _ (i) 0 hj]
   refine ⟨idxA hj rfl,?_⟩
   conv=>whnf
   repeat' (first
    |(refine ⟨fun hg=>?_,fun hg=>?_⟩<;>first|contradiction|(conv=>whnf))
    |(refine Or.inl ?_;conv=>whnf)
    |(refine ⟨_,c_cmp ..,?_⟩;conv=>whnf)
    |(refine And.intro ?_ ?_;kernel_rfl;conv=>whnf))
   ·have hg:cmpI (a.getD i 0) (b.getD i 0)≠0:=of_decide_eq_true hg
    rw [if_pos hg] at hd
    exact int_eq (by rw [h3,hd])
   ·have hg:¬ cmpI (a.getD i 0) (b.getD i 0)≠0:=of_decide_eq_false hg
    rw [if_neg hg] at hd
    rw [wrap_succ i (by omega)]
    exact ⟨i+1,rfl,rfl,rfl,⟨hi,hj,by rw [h3,hd]⟩,by omega⟩
 ·have hi:i=a.length:=by have:=of_decide_eq_false hb;rw [e0] at this;omega
  subst hi
  clear hb
  have hs:=cmpL_short a b h2
  conv=>whnf
  refine ⟨fun hg=>?_,fun hg=>?_⟩
  ·have hg:=of_decide_eq_true hg
   rw [e0,e1] at hg
   conv=>whnf
   exact int_eq (by rw [h3,hs,if_pos (by omega)])
  ·have hg:=of_decide_eq_false hg
   rw [e0,e1] at hg
   conv=>whnf
   exact int_eq (by rw [h3,hs,if_neg (by omega)])
theorem cmp_Or (l:List Int) (hl:l.length < 4611686018427387904):PC 141 [iL l] (DV.int .i64 (firstE l)):=by
 have e0:((l.map (DV.int .i64)).length:Int)=l.length:=by simp
 refine pureCall_ofR dh141 rfl ?_
 conv=>whnf
 refine dwp_loopR (P:=Tryz.prog) (G:=GC) (k:=dk141_0) (b:=db141_0) (α:=Nat) (fun i=>[(3,DV.int .i64 (0)),(6,iL l),(7,.int .i64 (l.map (DV.int .i64)).length),(8,DV.int .i64 (i))]) (fun _=>[]) (fun i=>i≤l.length∧firstE l=firstE (l.drop i)) (fun i=>l.length - i) 0 ⟨rfl,rfl,rfl⟩ ⟨Nat.zero_le _,rfl⟩ ?_
 intro i ⟨h1,h2⟩
 conv=>whnf
 refine ⟨fun hb=>?_,fun hb=>?_⟩
 ·have hi:i < l.length:=by simpa using hb
  have hd:=firstE_drop l i hi
  conv=>whnf
  rw [getD_enc _ _ (i) 0 hi]
  refine ⟨idxA hi rfl,?_⟩
  conv=>whnf
  repeat' (first
   |(refine ⟨fun hg=>?_,fun hg=>?_⟩<;>first|contradiction|(conv=>whnf))
   |(refine Or.inl ?_;conv=>whnf)
   |(refine And.intro ?_ ?_;kernel_rfl;conv=>whnf))
  ·have hg:=of_decide_eq_true hg
   exact int_eq (by rw [h2,hd,if_pos hg])
  ·have hg:=of_decide_eq_false hg
   rw [wrap_succ i (by omega)]
   exact ⟨i+1,rfl,rfl,rfl,⟨hi,by rw [h2,hd,if_neg hg]⟩,by omega⟩
 ·have hi:i=l.length:=by have:=of_decide_eq_false hb;rw [e0] at this;omega
  conv=>whnf
  exact int_eq (by rw [h2,hi,List.drop_length];rfl)
def encVd (a:List Int×Int):DV:=.agg [iL a.1,DV.int .i64 (a.2)]
def cmpV (a b:List Int×Int):Int:=firstE [cmpI b.2 a.2,cmpL a.1 b.1]
theorem c_compare (a b:List Int×Int) (ha:a.1.length < 1073741824):PC 113 [encVd a,encVd b] (DV.int .i64 (cmpV a b)):=by
 have k1:=c_cmpL a.1 b.1 ha
 refine pureCall_ofR dh113 rfl ?_
 conv=>whnf
 repeat' (first
  |(refine ⟨fun hg=>?_,fun hg=>?_⟩<;>first|contradiction|(conv=>whnf))
  |(refine Or.inl ?_;conv=>whnf)
  |(refine ⟨_,c_cmp ..,?_⟩;conv=>whnf)
  |(refine ⟨_,k1,?_⟩;conv=>whnf)
  |(refine ⟨_,cmp_Or [_,_] (by simp),?_⟩;conv=>whnf)
  |(refine And.intro ?_ ?_;kernel_rfl;conv=>whnf))
 rfl
theorem c_MinFunc (a b:List Int×Int) (hb:b.1.length < 1073741824) (h:¬ cmpV b a < 0):PC 114 [.list [encVd a,encVd b],.func 113 []] (encVd a):=by
 have k1:=c_compare b a hb
 have hl2:(([encVd a,encVd b].length:Nat):Int)=2:=rfl
 refine pureCall_ofR dh114 rfl ?_
 conv=>whnf
 refine ⟨fun hg=>absurd (of_decide_eq_true hg) (by rw [hl2];decide),fun hg=>?_⟩
 clear hg
 conv=>whnf
 refine ⟨⟨by decide,by rw [hl2];decide,rfl⟩,?_⟩
 conv=>whnf
 refine dwp_loopU (P:=Tryz.prog) (G:=GC) (k:=dk114_0) (b:=db114_0) (α:=Nat) (fun k=>[(6,DV.int .i64 ((k+1:Nat)))]) (fun _=>[(4,.box 2 (.agg [.full [],DV.int .i64 (0)])),(5,.box 2 (encVd a))]) (fun k=>k≤1) (fun k=>1 - k) 0 (Nat.zero_le _) ?_
 conv=>whnf
 refine ⟨rfl,rfl,?_⟩
 conv=>whnf
 refine ⟨rfl,?_⟩
 intro k h1
 rcases (by omega:k=0∨k=1) with rfl|rfl
 ·conv=>whnf
  refine ⟨fun hc=>?_,fun hc=>absurd (by rw [hl2];decide) (of_decide_eq_false hc)⟩
  clear hc
  conv=>whnf
  refine ⟨⟨by decide,by rw [hl2];decide,rfl⟩,?_⟩
  rw [show [encVd a,encVd b].getD (Int.toNat ((0+1:Nat):Int)) .undef=encVd b from rfl]
  conv=>whnf
  repeat' (first
   |(refine ⟨fun hg=>?_,fun hg=>?_⟩<;>first|contradiction|(conv=>whnf))
   |(refine Or.inl ?_;conv=>whnf)
   |(refine ⟨_,k1,?_⟩;conv=>whnf)
   |(refine And.intro ?_ ?_;kernel_rfl;conv=>whnf))
  ·exact absurd (of_decide_eq_true hg) h
  ·exact ⟨1,rfl,rfl,rfl,Nat.le_refl _,by omega⟩
 ·conv=>whnf
  refine ⟨fun hc=>absurd (of_decide_eq_true hc) (by rw [hl2];decide),fun hc=>?_⟩
  clear hc
  conv=>whnf
  rfl
theorem c_mul64 (n:Nat) (h:n≤24):PC 140 [.int .u64 1,.int .u64 (n:Int)] (.tuple [.int .u64 0,.int .u64 (n:Int)]):=by
 have key:n=0∨n=1∨n=2∨n=3∨n=4∨n=5∨n=6∨n=7∨n=8∨n=9∨n=10∨n=11∨n=12∨n=13∨n=14∨n=15∨n=16∨n=17∨n=18∨n=19∨n=20∨n=21∨n=22∨n=23∨n=24:=by omega
 have k1:PC 164 [.int .u64 1,.int .u64 (n:Int)] (.tuple [.int .u64 0,.int .u64 (n:Int)]):=by
  refine pureCall_ofR dh164 rfl ?_
  rcases key with rfl|rfl|rfl|rfl|rfl|rfl|rfl|rfl|rfl|rfl|rfl|rfl|rfl|rfl|rfl|rfl|rfl|rfl|rfl|rfl|rfl|rfl|rfl|rfl|rfl
  all_goals (conv=>whnf)
  all_goals (repeat' (first|(refine ⟨by decide,?_⟩;conv=>whnf)))
  all_goals (first|kernel_rfl|trace_state)
 refine pureCall_ofR dh140 rfl ?_
 conv=>whnf
 repeat' (first
  |(refine ⟨fun hg=>?_,fun hg=>?_⟩<;>first|contradiction|(conv=>whnf))
  |(refine Or.inl ?_;conv=>whnf)
  |(refine ⟨_,k1,?_⟩;conv=>whnf)
  |(refine And.intro ?_ ?_;kernel_rfl;conv=>whnf))
 rfl
def repL (x:Int) (n k:Nat):List Int:=rng n fun i=>if i < k then x else 0
theorem repL_len (x:Int) (n k:Nat):(repL x n k).length=n:=rng_len _ _
theorem repL_all (x:Int) (n k:Nat) (h:n≤k):repL x n k=List.replicate n x:=by
 unfold repL rng
 apply List.ext_getElem
 ·simp
 ·intro i h1 h2
  simp at h1
  simp
  omega
theorem repL_zero (x:Int) (n:Nat):repL x n 0=List.replicate n 0:=by
 unfold repL rng
 apply List.ext_getElem<;>simp
theorem repL_copy (x:Int) (n k m:Nat) (hk:k≤n) (hm:m=min k (n - k)):(repL x n k).take k++((repL x n k).take k).take (n - k)++(repL x n k).drop (k+m)=repL x n (k+m):=by
 apply List.ext_getElem
 ·simp [repL_len];omega
 ·intro i h1 h2
  rw [repL_len] at h2
  simp only [List.getElem_append,List.length_append,List.length_take,repL_len,List.getElem_take,List.getElem_drop]
  unfold repL rng
  simp only [List.getElem_map,List.getElem_range]
  grind
end Sh

namespace Sh
open Go Go.Proofs
theorem c_Repeat (x:Int) (n:Nat) (h0:1≤n) (hn:n≤24):PC 112 [iL [x],DV.int .i64 (n)] (iL (List.replicate n x)):=by
 have k1:=c_mul64 n hn
 have hrz:iD (repL x n 0)=List.replicate n (DV.int .i64 (0)):=by rw [repL_zero];unfold iD;rw [List.map_replicate]
 have hr1:iD (repL x n 1)=(DV.int .i64 (x)) :: List.replicate (n - 1) (DV.int .i64 (0)):=by
  obtain ⟨m,rfl⟩:∃ m,n=m+1:=⟨n - 1,by omega⟩
  unfold iD repL rng
  apply List.ext_getElem
  ·simp
  ·intro i h1 h2
   cases i<;>simp
 refine pureCall_ofR dh112 rfl ?_
 conv=>whnf
 refine ⟨fun hg=>?_,fun hg=>?_⟩
 ·have:=of_decide_eq_true hg;omega
 clear hg
 have hw:IntKind.u64.wrap (n:Int)=n:=(by decide:∀ m:Fin 25,IntKind.u64.wrap ((m.val:Nat):Int)=((m.val:Nat):Int)) ⟨n,by omega⟩
 have hi:IntKind.i64.wrap (n:Int)=n:=wrap_in (by omega) (by omega)
 conv=>whnf
 rw [hw]
 refine .inl ?_
 conv=>whnf
 refine ⟨_,k1 ..,?_⟩
 conv=>whnf
 refine ⟨fun _=>?_,fun h=>absurd h (by decide)⟩
 conv=>whnf
 refine ⟨fun hg=>?_,fun hg=>?_⟩
 ·have hg:(n:Int) > 9223372036854775807:=of_decide_eq_true hg
  omega
 clear hg
 conv=>whnf
 rw [hi]
 refine ⟨⟨by omega,by omega,by omega,rfl,rfl⟩,?_⟩
 rw [Int.toNat_natCast,← hrz]
 conv=>whnf
 refine ⟨⟨by rw [iD_len,repL_len],fun e he=>by simp at he;subst he;rfl⟩,?_⟩
 conv=>whnf
 have hc0:(iD (repL x n 0)).take 0++(List.map (DV.int .i64) [x]).take n++(iD (repL x n 0)).drop (0+min 1 n)=iD (repL x n 1):=by
  rw [hrz,hr1]
  obtain ⟨m,rfl⟩:∃ m,n=m+1:=⟨n - 1,by omega⟩
  rw [show 0+min 1 (m+1)=1 by omega]
  simp
 refine dwp_loopR (P:=Tryz.prog) (G:=GC) (k:=dk112_0) (b:=db112_0) (α:=Nat) (fun k=>[(7,.own 30 0 n n),(8,DV.int .i64 (k))]) (fun k=>[(30,.row 1 (iD (repL x n k)) false)]) (fun k=>1≤k∧k≤n) (fun k=>n - k) 1 ⟨rfl,?_,?_⟩ ⟨Nat.le_refl _,h0⟩ ?_
 ·show [(7,DV.own 30 0 n n),(8,DV.int .i64 ((min 1 n:Nat):Int))]=_
  rw [show min 1 n=1 by omega]
 ·show [(30,DObj.row 1 ((iD (repL x n 0)).take 0++(List.map (DV.int .i64) [x]).take n++(iD (repL x n 0)).drop (0+min 1 n)) false)]=_
  rw [hc0]
 intro k ⟨k0,k1⟩
 have hrl:(iD (repL x n k)).length=n:=by rw [iD_len,repL_len]
 conv=>whnf
 refine ⟨hrl.symm,?_⟩
 conv=>whnf
 refine ⟨fun hc=>?_,fun hc=>?_⟩
 ·have hk:k < n:=by have:=of_decide_eq_true hc;omega
  clear hc
  conv=>whnf
  refine ⟨⟨hrl.symm,by omega,by omega,Int.le_refl _⟩,?_⟩
  rw [show 0+((k:Int)).toNat=k by omega,show ((n:Int) - k).toNat=n - k by omega]
  conv=>whnf
  refine ⟨⟨hrl.symm,by omega,by omega,by omega⟩,?_⟩
  have hwn:window (iD (repL x n k)) (0+Int.toNat 0) ((k:Int) - 0).toNat=(iD (repL x n k)).take k:=by
   rw [show ((k:Int) - 0).toNat=k by omega];rfl
  have hwl:((iD (repL x n k)).take k).length=k:=by rw [List.length_take,hrl];omega
  have hQ:∀ e ∈ (iD (repL x n k)).take k,okE 1 e=true:=fun e he=>by obtain ⟨q,_,rfl⟩:=List.mem_map.1 (List.mem_of_mem_take he);rfl
  have hcp:(iD (repL x n k)).take k++((iD (repL x n k)).take k).take (n - k)++(iD (repL x n k)).drop (k+min k (n - k))=iD (repL x n (k+min k (n - k))):=by
   rw [← repL_copy x n k _ k1 rfl]
   unfold iD
   simp only [List.map_append,List.map_take,List.map_drop]
  conv=>whnf
  rw [hwn]
  have hwl2:=hwl
  generalize (iD (repL x n k)).take k=Q at *
  rw [hwl]
  refine ⟨⟨hrl.symm,hrl.symm,hQ⟩,?_⟩
  conv=>whnf
  refine ⟨by kernel_rfl,?_⟩
  rw [hcp]
  conv=>whnf
  have ew:IntKind.i64.wrap ((k:Int)+((min k (n - k):Nat):Int))=((k+min k (n - k):Nat):Int):=by rw [wrap_in (by omega) (by omega)];omega
  rw [ew]
  exact ⟨k+min k (n - k),rfl,rfl,rfl,⟨by omega,by omega⟩,by omega⟩
 ·have hk:k=n:=by have:=of_decide_eq_false hc;omega
  clear hc
  subst hk
  conv=>whnf
  refine ⟨hrl.symm,?_⟩
  show DV.list (window (iD (repL x k k)) 0 k)=_
  have:=window_full (iD (repL x k k))
  rw [hrl] at this
  rw [this,repL_all x k k (Nat.le_refl _)];rfl
end Sh

namespace Sh
open Go Go.Proofs
def backL (l:List Int):List (List DV):=rng l.length fun k=>[DV.int .i64 ((l.length - 1 - k:Nat)),DV.int .i64 (l.getD (l.length - 1 - k) 0)]
theorem backL_flat (l:List Int):∀ x ∈ backL l,flatBs x=true∧x.length=2:=fun x hx=>by obtain ⟨v,_,rfl⟩:=List.mem_map.1 hx;exact ⟨rfl,rfl⟩
theorem backL_get {l:List Int} {i:Nat} {z:List DV} (hz:(backL l)[i]?=some z):i < l.length∧z=[DV.int .i64 ((l.length - 1 - i:Nat)),DV.int .i64 (l.getD (l.length - 1 - i) 0)]:=by
 have hi:i < l.length:=by
  have:=(List.getElem?_eq_some_iff.1 hz).1
  unfold backL at this;rwa [rng_len] at this
 have:=rng_drop (fun k=>[DV.int .i64 ((l.length - 1 - k:Nat)),DV.int .i64 (l.getD (l.length - 1 - k) 0)]) hi
 have h3:=congrArg (fun l=>l[0]?) this
 simp only [List.getElem?_drop,Nat.add_zero,List.getElem?_cons_zero] at h3
 have h4:(rng l.length fun k=>[DV.int .i64 ((l.length - 1 - k:Nat)),DV.int .i64 (l.getD (l.length - 1 - k) 0)])[i]?=some z:=hz
 rw [h3] at h4
 exact ⟨hi,(Option.some.inj h4).symm⟩
theorem backIt (l:List Int) (hl:l.length < 1073741824):ISeq Tryz.prog GC 166 [.ip (iL l)] (backL l):=by
 have e0:((l.map (DV.int .i64)).length:Int)=l.length:=by simp
 have ez:IntKind.i64.wrap ((l.length:Int) - 1)=(l.length:Int) - 1:=wrap_in (by omega) (by omega)
 refine iseq_of dh166 rfl rfl (by kernel_rfl) (fun x hx=>(backL_flat l x hx).1) (fun gl=>?_)
 conv=>whnf
 refine dwp_loopY (P:=Tryz.prog) (G:=GC) (k:=dk166_0) (b:=db166_0) (α:=Nat) (fun j=>[(0,.dict 0),(1,.ip (iL l)),(3,DV.int .i64 ((l.length:Int) - 1 - j))]) (fun j=>[(0,.ghost ((backL l).drop j) true gl)]) (fun j=>j≤l.length) (fun j=>l.length - j) 0 ⟨rfl,?_,rfl⟩ (Nat.zero_le _) ?_
 ·show [(0,DV.dict 0),(1,DV.ip (iL l)),(3,DV.int .i64 (IntKind.i64.wrap (((l.map (DV.int .i64)).length:Nat) - 1:Int)))]=_
  rw [e0,ez]
  simp
 intro j h1
 conv=>whnf
 refine ⟨fun hb=>?_,fun hb=>?_⟩
 ·have hj:j < l.length:=by have:=of_decide_eq_true hb;omega
  clear hb
  have hk:l.length - 1 - j < l.length:=by omega
  have ek:(l.length:Int) - 1 - j=((l.length - 1 - j:Nat):Int):=by omega
  rw [show (backL l).drop j=[DV.int .i64 ((l.length - 1 - j:Nat)),DV.int .i64 (l.getD (l.length - 1 - j) 0)] :: (backL l).drop (j+1) from rng_drop _ hj]
  generalize hF:(backL l).drop (j+1)=F
  have ew:IntKind.i64.wrap (((l.length - 1 - j:Nat):Int) - 1)=(l.length:Int) - 1 - ((j+1:Nat):Int):=by rw [wrap_in (by omega) (by omega)];omega
  rw [ek]
  conv=>whnf
  rw [getD_enc _ _ (l.length - 1 - j) 0 hk]
  refine ⟨idxA hk rfl,?_⟩
  conv=>whnf
  refine ⟨rfl,fun b=>?_⟩
  conv=>whnf
  refine ⟨fun hg=>?_,fun hg=>?_⟩
  ·have hg:b=false:=by simpa using hg
   subst hg
   conv=>whnf
   intro e;cases e
  ·have hg:b=true:=by simpa using hg
   subst hg
   conv=>whnf
   rw [ew,← hF]
   exact ⟨j+1,rfl,rfl,rfl,hj,by omega⟩
 ·have hj:j=l.length:=by have:=of_decide_eq_false hb;omega
  conv=>whnf
  intro _
  rw [hj]
  exact List.drop_of_length_le (by unfold backL;rw [rng_len];exact Nat.le_refl _)
theorem c_Backward (l:List Int):PC 144 [iL l] (.func 166 [.ip (iL l)]):=by
 refine pureCall_ofR dh144 rfl ?_
 conv=>whnf
 rfl
def nRow (b:Ba) (ps:List Int) (i f r:Nat):DV :=
 if r=ps.length then .list ((List.replicate (lvN b) (0:Int)).map (DV.int .i64))
 else if r=i then .inn (iD (rowT b (ps.getD i 0) (rwA b (ps.drop (i+1))) f))
 else if i < r then .inn (iD (rwA b (ps.drop r)))
 else .inn []
def nTab (b:Ba) (ps:List Int) (i f:Nat):List DV:=rng (ps.length+1) (nRow b ps i f)
theorem nTab_len (b:Ba) (ps:List Int) (i f:Nat):(nTab b ps i f).length=ps.length+1:=rng_len _ _
theorem nTab_get {b:Ba} {ps:List Int} {i f:Nat} (h:i < ps.length):(nTab b ps i f).getD i .undef=.inn (iD (rowT b (ps.getD i 0) (rwA b (ps.drop (i+1))) f)):=by
 unfold nTab
 rw [rng_getD _ _ (by omega)]
 unfold nRow
 rw [if_neg (by omega),if_pos rfl]
theorem nTab_next {b:Ba} {ps:List Int} {i f:Nat} (h:i+1 < ps.length):(nTab b ps i f).getD (i+1) .undef=.inn (iD (rwA b (ps.drop (i+1)))):=by
 unfold nTab
 rw [rng_getD _ _ (by omega)]
 unfold nRow
 rw [if_neg (by omega),if_neg (by omega),if_pos (by omega)]
theorem nTab_last {b:Ba} {ps:List Int} {i f:Nat} (h:i+1=ps.length):(nTab b ps i f).getD (i+1) .undef=iL (rwA b (ps.drop (i+1))):=by
 unfold nTab
 rw [rng_getD _ _ (by omega)]
 unfold nRow
 rw [if_pos h,h,List.drop_length];rfl
theorem nTab_set {b:Ba} {ps:List Int} {i f:Nat} (h:i < ps.length):(nTab b ps i f).set i (.inn (iD (rowT b (ps.getD i 0) (rwA b (ps.drop (i+1))) (f+1))))=nTab b ps i (f+1):=by
 unfold nTab
 apply List.ext_getElem
 ·simp [rng]
 ·intro r h1 h2
  rw [List.getElem_set]
  simp only [rng,List.getElem_map,List.getElem_range]
  by_cases e:i=r
  ·subst e
   rw [if_pos rfl]
   unfold nRow
   rw [if_neg (by omega),if_pos rfl]
  ·rw [if_neg e]
   unfold nRow
   rw [if_neg (by omega:¬ r=i),if_neg (by omega:¬ r=i)]
theorem nTab_row {b:Ba} {ps:List Int} {i:Nat} (h:i+1≤ps.length):nTab b ps (i+1) (lvN b)=nTab b ps i 0:=by
 unfold nTab rng
 refine List.map_congr_left fun r hr=>?_
 have hr:=List.mem_range.1 hr
 unfold nRow
 by_cases e:r=ps.length
 ·rw [if_pos e,if_pos e]
 ·rw [if_neg e,if_neg e]
  by_cases e2:r=i
  ·rw [if_neg (by omega),if_neg (by omega),if_pos e2];rfl
  ·by_cases e3:r=i+1
   ·rw [if_pos e3,if_neg e2,if_pos (show i < r by omega)]
    subst e3
    rw [← rwA_step b ps (by omega)]
   ·rw [if_neg e3,if_neg e2]
    by_cases e4:i < r
    ·rw [if_pos (by omega),if_pos e4]
    ·rw [if_neg (by omega),if_neg e4]
theorem nTab_all {b:Ba} {ps:List Int} (h:0 < ps.length):(nTab b ps 0 (lvN b)).map closeD=(tabT b ps).map iL:=by
 unfold nTab tabT rng
 rw [List.map_map,List.map_map]
 refine List.map_congr_left fun r hr=>?_
 have hr:=List.mem_range.1 hr
 show closeD (nRow b ps 0 (lvN b) r)=iL (rwA b (ps.drop r))
 unfold nRow
 by_cases e:r=ps.length
 ·rw [if_pos e,e,List.drop_length];rfl
 ·rw [if_neg e]
  by_cases e2:r=0
  ·rw [if_pos e2,e2,rwA_step b ps h];rfl
  ·rw [if_neg e2,if_pos (by omega)];rfl
theorem nTab_start {b:Ba} {ps:List Int} (f:Nat):(List.replicate (ps.length+1) (DV.inn [])).set ps.length (iL (List.replicate (lvN b) (0:Int)))=nTab b ps ps.length f:=by
 unfold nTab
 apply List.ext_getElem
 ·simp [rng]
 ·intro r h1 h2
  rw [List.getElem_set]
  simp only [rng,List.getElem_map,List.getElem_range,List.getElem_replicate]
  unfold nRow
  by_cases e:ps.length=r
  ·rw [if_pos e,if_pos e.symm];rfl
  ·have:r < ps.length:=by simp at h1;omega
   rw [if_neg e,if_neg (by omega),if_neg (by omega),if_neg (by omega)]
end Sh

namespace Sh
open Go Go.Proofs
theorem ev_subiaddr {opd:Operand→DV} {lk:Nat→Option DObj} {d:Nat} {x y:Operand} {n i off len tot sz c isz:Nat} {es l:List DV} {k:IntKind} {j:Int} (hc:innOf c (es.getD i .undef)=some l) (hx:opd x=.sub n i off len tot) (hy:opd y=.int k j) (hl:lk n=some (.nrow sz c isz es none)) :
  evalOp opd lk d (.iaddr isz x y)=.ok (some (tot=l.length∧0≤j∧j < len)) (.sptr n i (off+j.toNat) 0 tot) []:=by
 unfold evalOp;dsimp only;rw [hy];dsimp only;rw [hx];dsimp only;rw [hl];dsimp only;rw [hc];dsimp only;rw [Nat.beq_refl];rfl
theorem ev_subload {opd:Operand→DV} {lk:Nat→Option DObj} {d:Nat} {x:Operand} {n i j off tot sz c isz:Nat} {es l:List DV} (hc:innOf c (es.getD i .undef)=some l) (hx:opd x=.sptr n i j off tot) (hl:lk n=some (.nrow sz c isz es none)) :
  evalOp opd lk d (.load none x)=.ok (some (tot=l.length∧off < isz)) ((l.getD j .undef).cells.getD off .undef) []:=by
 unfold evalOp;dsimp only;rw [hx];dsimp only;rw [hl];dsimp only;rw [hc]
theorem ev_subapp {opd:Operand→DV} {lk:Nat→Option DObj} {d:Nat} {s x:Operand} {n i off len tot sz c isz:Nat} {es l xs:List DV} (hc:innOf c (es.getD i .undef)=some l) (hs:opd s=.sub n i off len tot) (hx:opd x=.full xs) (hl:lk n=some (.nrow sz c isz es none)) :
  evalOp opd lk d (.append false isz s x)=.ok (some (off=0∧len=l.length∧tot=l.length∧l.length+xs.length≤1073741824∧(∀ e ∈ xs,okE isz e=true))) (.sub n i 0 (l++xs).length (l++xs).length) [(n,.nrow sz c isz es (some (i,l++xs)))]:=by
 unfold evalOp;dsimp only;rw [hx];dsimp only [elems];rw [hs];dsimp only;rw [hl];dsimp only;rw [hc];dsimp only;rw [Nat.beq_refl];rfl
theorem c_table (b:Ba) (hb:OkB b) (ps:List Int) (hp:∀ p ∈ ps,OkP p) (hps:ps.length≤24) (hn:0 < ps.length):PC 116 [encB b,iL ps] (iLL (tabT b ps)):=by
 have e0:((ps.map (DV.int .i64)).length:Int)=ps.length:=by simp
 have hlv:=hb.lv
 have hca:0≤b.ca:=by have:=hb.c0;omega
 have hc1:=hb.c1
 have ew:IntKind.i64.wrap (b.ca+1)=b.ca+1:=wrap_in (by omega) (by omega)
 have el:IntKind.i64.wrap ((ps.length:Int)+1)=((ps.length+1:Nat):Int):=wrap_succ _ (by omega)
 refine pureCall_ofR dh116 rfl ?_
 conv=>whnf
 rw [e0,el]
 refine ⟨⟨by omega,by omega,by omega⟩,?_⟩
 rw [Int.toNat_natCast]
 conv=>whnf
 rw [ew]
 refine ⟨⟨by omega,by omega,by omega,rfl,rfl⟩,?_⟩
 conv=>whnf
 refine ⟨⟨by simp,by omega,by rw [e0];omega⟩,?_⟩
 conv=>whnf
 refine ⟨⟨by simp,by simp,by decide,rfl⟩,?_⟩
 have hw:window (List.replicate (b.ca+1).toNat (DV.int .i64 (0))) 0 (b.ca+1).toNat=(List.replicate (lvN b) (0:Int)).map (DV.int .i64):=by
  have h0:(List.replicate (b.ca+1).toNat (DV.int .i64 (0))).length=(b.ca+1).toNat:=List.length_replicate
  have:=window_full (List.replicate (b.ca+1).toNat (DV.int .i64 (0)))
  rw [h0] at this
  rw [this,List.map_replicate];rfl
 have hst:=nTab_start (b:=b) (ps:=ps) (lvN b)
 rw [hw]
 have hix:0+Int.toNat (((ps.map (DV.int .i64)).length:Nat):Int)=ps.length:=by rw [e0];omega
 rw [hix]
 conv=>whnf
 refine ⟨by kernel_rfl,?_⟩
 conv=>whnf
 refine .inl ?_
 conv=>whnf
 refine ⟨_,c_Backward ..,?_⟩
 conv=>whnf
 refine range_R2 (P:=Tryz.prog) (G:=GC) (x:=db116_2x) (y:=db116_2) (k:=dk116_2) (backL ps) (fun j=>[(2,.box 5 (encB b)),(5,.box 1 (.own 14 0 (ps.length+1) (ps.length+1))),(14,.nrow 1 0 1 (nTab b ps (ps.length - j) (lvN b)) none)]) [(2,.bptr 2 0),(4,.full []),(5,.bptr 5 0)] (fun j=>True) trivial (backIt ps (by omega)) rfl (fun z hz=>(backL_flat ps z hz).2) rfl rfl rfl ?_ ?_ ?_
 ·rw [Nat.sub_zero,← hst];rfl
 ·intro j z hz _
  obtain ⟨hj,rfl⟩:=backL_get hz
  obtain ⟨i,hi⟩:∃ i,i=ps.length - 1 - j:=⟨_,rfl⟩
  rw [show ps.length - j=i+1 by omega,show ps.length - (j+1)=i by omega,← hi,nTab_row (by omega)]
  have hi:i < ps.length:=by omega
  clear hz hst hw hix
  have hmx:=fun (f j:Nat) (h1:f < lvN b) (h2:j≤lvN b)=>mxN_ok hb hp hps hi h1 h2
  have hrb:=fun (f:Nat) (h1:f < lvN b)=>rwA_bd hb hp hps (i+1) h1
  have hrl:=rwA_len b (ps.drop (i+1))
  have hgi:=fun f=>nTab_get (b:=b) (f:=f) hi
  have hgs:=fun f=>nTab_set (b:=b) (f:=f) hi
  have hgl:=fun f=>nTab_len b ps i f
  have hgn:∀ f,(nTab b ps i f).getD (i+1) .undef=iL (rwA b (ps.drop (i+1)))∨(nTab b ps i f).getD (i+1) .undef=.inn (iD (rwA b (ps.drop (i+1)))):=fun f=>by
   by_cases e:i+1=ps.length
   ·exact .inl (nTab_last e)
   ·exact .inr (nTab_next (by omega))
  have hpi:=hp _ (getD_in 0 hi)
  generalize hnx:rwA b (ps.drop (i+1))=nx at *
  have ei:IntKind.i64.wrap ((i:Int)+1)=((i+1:Nat):Int):=wrap_succ i (by omega)
  conv=>whnf
  rw [ew]
  refine dwp_loopU (P:=Tryz.prog) (G:=GC) (k:=dk116_1) (b:=db116_1) (α:=Nat) (fun f=>[(30,DV.int .i64 (f))]) (fun f=>[(2,.box 5 (encB b)),(5,.box 1 (.own 14 0 (ps.length+1) (ps.length+1))),(14,.nrow 1 0 1 (nTab b ps i f) none)]) (fun f=>f≤lvN b) (fun f=>lvN b - f) 0 (Nat.zero_le _) ?_
  conv=>whnf
  refine ⟨rfl,rfl,?_⟩
  conv=>whnf
  refine ⟨rfl,?_⟩
  intro f h2
  conv=>whnf
  refine ⟨fun hc=>?_,fun hc=>?_⟩
  ·have hf:f < lvN b:=by have:=of_decide_eq_true hc;omega
   clear hc
   have hfl:f < nx.length:=by omega
   have hgl:=hgl f
   have hgi:=hgi f
   have hgs:=hgs f
   have hgn:=hgn f
   generalize nTab b ps i f=es at *
   conv=>whnf
   rw [ei,show 0+Int.toNat (((i+1:Nat)):Int)=i+1 by omega]
   refine ⟨⟨hgl.symm,by omega,by omega⟩,?_⟩
   conv=>whnf
   refine ⟨⟨hgl.symm,by decide⟩,?_⟩
   rcases hgn with hgn|hgn
   ·rw [hgn]
    conv=>whnf
    rw [getD_enc _ _ (f) 0 hfl]
    refine ⟨idxA hfl rfl,?_⟩
    conv=>whnf
    rw [ew]
    refine dwp_loopU (P:=Tryz.prog) (G:=GC) (k:=dk116_0) (b:=db116_0) (α:=Nat) (fun j=>[(9,DV.int .i64 (mxN b (ps.getD i 0) nx f j)),(44,DV.int .i64 (j))]) (fun _=>[(2,.box 5 (encB b)),(5,.box 1 (.own 14 0 (ps.length+1) (ps.length+1))),(14,.nrow 1 0 1 es none)]) (fun j=>j≤lvN b) (fun j=>lvN b - j) 0 (Nat.zero_le _) ?_
    conv=>whnf
    refine ⟨rfl,rfl,?_⟩
    conv=>whnf
    refine ⟨rfl,?_⟩
    intro j h3
    conv=>whnf
    refine ⟨fun hc=>?_,fun hc=>?_⟩
    ·have hj:j < lvN b:=by have:=of_decide_eq_true hc;omega
     clear hc
     have hjl:j < nx.length:=by omega
     have hs:mxN b (ps.getD i 0) nx f (j+1)=if farB b f j then mxN b (ps.getD i 0) nx f j else max (mxN b (ps.getD i 0) nx f j) (wthI b (ps.getD i 0) f j+nx.getD j 0):=rfl
     have b1:=hmx f j hf (by omega)
     have b2:=hrb j hj
     have b3:=wthI_bd hb hpi (lev24 hb hf) (lev24 hb hj)
     have k1:=c_far b f j (lev24 hb hf) (lev24 hb hj)
     have k2:=c_worth b hb (ps.getD i 0) f j hpi (lev24 hb hf) (lev24 hb hj)
     conv=>whnf
     cases hfr:farB b f j with
     |true =>
      rw [hfr] at k1 hs
      repeat' (first
       |(refine ⟨fun hg=>?_,fun hg=>?_⟩<;>first|contradiction|(conv=>whnf))
       |(refine Or.inl ?_;conv=>whnf)
       |(refine ⟨_,k1,?_⟩;conv=>whnf)
       |(refine And.intro ?_ ?_;kernel_rfl;conv=>whnf))
      rw [wrap_succ j (by omega)]
      refine ⟨j+1,rfl,?_,rfl,hj,by omega⟩
      rw [hs];rfl
     |false =>
      rw [hfr] at k1 hs
      repeat' (first
       |(refine ⟨fun hg=>?_,fun hg=>?_⟩<;>first|contradiction|(conv=>whnf))
       |(refine Or.inl ?_;conv=>whnf)
       |(refine ⟨_,k1,?_⟩;conv=>whnf)
       |(refine ⟨_,k2,?_⟩;conv=>whnf)
       |(refine And.intro ?_ ?_;kernel_rfl;conv=>whnf))
      rw [ei,show 0+Int.toNat (((i+1:Nat)):Int)=i+1 by omega]
      refine ⟨⟨hgl.symm,by omega,by omega⟩,?_⟩
      conv=>whnf
      refine ⟨⟨hgl.symm,by decide⟩,?_⟩
      rw [hgn]
      conv=>whnf
      rw [getD_enc _ _ (j) 0 hjl]
      refine ⟨idxA hjl rfl,?_⟩
      conv=>whnf
      refine ⟨by kernel_rfl,?_⟩
      conv=>whnf
      rw [wrap_succ j (by omega),wrap_in (n:=wthI b (ps.getD i 0) f j+nx.getD j 0) (by omega) (by omega),minmax_max]
      refine ⟨j+1,rfl,?_,rfl,hj,by omega⟩
      rw [hs];rfl
    ·have hj:j=lvN b:=by have:=of_decide_eq_false hc;omega
     clear hc
     subst hj
     have hin2:innOf 0 (es.getD i .undef)=some (iD (rowT b (ps.getD i 0) nx f)):=by rw [hgi];rfl
     have hrs:iD (rowT b (ps.getD i 0) nx (f+1))=iD (rowT b (ps.getD i 0) nx f)++[DV.int .i64 (mxN b (ps.getD i 0) nx f (lvN b))]:=by rw [rowT_succ];unfold iD;rw [List.map_append];rfl
     conv=>whnf
     rw [show 0+Int.toNat ((i:Nat):Int)=i by omega]
     refine ⟨⟨hgl.symm,by omega,by omega⟩,?_⟩
     conv=>whnf
     refine ⟨⟨hgl.symm,by decide⟩,?_⟩
     rw [hgi]
     conv=>whnf
     rw [ev_subapp hin2 rfl rfl rfl]
     conv=>whnf
     refine ⟨⟨rfl,rfl,rfl,by rw [iD_len,rowT_len];show f+1≤_;omega,fun e he=>by simp at he;subst he;rfl⟩,?_⟩
     conv=>whnf
     refine ⟨⟨hgl.symm,by omega,by omega⟩,?_⟩
     conv=>whnf
     refine ⟨⟨hgl.symm,by omega,by omega,rfl,rfl,rfl⟩,?_⟩
     rw [show 0+Int.toNat ((i:Nat):Int)=i by omega]
     conv=>whnf
     refine ⟨by kernel_rfl,?_⟩
     conv=>whnf
     rw [wrap_succ f (by omega)]
     refine ⟨f+1,rfl,rfl,?_,hf,by omega⟩
     show _=[(2,DObj.box 5 (encB b)),(5,.box 1 (.own 14 0 (ps.length+1) (ps.length+1))),(14,.nrow 1 0 1 (nTab b ps i (f+1)) none)]
     rw [← hgs,hrs];rfl
   ·have hin:innOf 0 (es.getD (i+1) .undef)=some (iD nx):=by rw [hgn];rfl
    rw [hgn]
    conv=>whnf
    rw [ev_subiaddr hin rfl rfl rfl]
    conv=>whnf
    refine ⟨⟨rfl,by omega,by rw [iD_len];omega⟩,?_⟩
    conv=>whnf
    rw [ev_subload hin rfl rfl]
    conv=>whnf
    refine ⟨⟨rfl,by decide⟩,?_⟩
    rw [show (iD nx).getD (0+Int.toNat ((f:Nat):Int)) .undef=DV.int .i64 (nx.getD f 0) by rw [show 0+Int.toNat ((f:Nat):Int)=f by omega];exact iD_get _ _ hfl]
    conv=>whnf
    rw [ew]
    refine dwp_loopU (P:=Tryz.prog) (G:=GC) (k:=dk116_0) (b:=db116_0) (α:=Nat) (fun j=>[(9,DV.int .i64 (mxN b (ps.getD i 0) nx f j)),(44,DV.int .i64 (j))]) (fun _=>[(2,.box 5 (encB b)),(5,.box 1 (.own 14 0 (ps.length+1) (ps.length+1))),(14,.nrow 1 0 1 es none)]) (fun j=>j≤lvN b) (fun j=>lvN b - j) 0 (Nat.zero_le _) ?_
    conv=>whnf
    refine ⟨rfl,rfl,?_⟩
    conv=>whnf
    refine ⟨rfl,?_⟩
    intro j h3
    conv=>whnf
    refine ⟨fun hc=>?_,fun hc=>?_⟩
    ·have hj:j < lvN b:=by have:=of_decide_eq_true hc;omega
     clear hc
     have hjl:j < nx.length:=by omega
     have hs:mxN b (ps.getD i 0) nx f (j+1)=if farB b f j then mxN b (ps.getD i 0) nx f j else max (mxN b (ps.getD i 0) nx f j) (wthI b (ps.getD i 0) f j+nx.getD j 0):=rfl
     have b1:=hmx f j hf (by omega)
     have b2:=hrb j hj
     have b3:=wthI_bd hb hpi (lev24 hb hf) (lev24 hb hj)
     have k1:=c_far b f j (lev24 hb hf) (lev24 hb hj)
     have k2:=c_worth b hb (ps.getD i 0) f j hpi (lev24 hb hf) (lev24 hb hj)
     conv=>whnf
     cases hfr:farB b f j with
     |true =>
      rw [hfr] at k1 hs
      repeat' (first
       |(refine ⟨fun hg=>?_,fun hg=>?_⟩<;>first|contradiction|(conv=>whnf))
       |(refine Or.inl ?_;conv=>whnf)
       |(refine ⟨_,k1,?_⟩;conv=>whnf)
       |(refine And.intro ?_ ?_;kernel_rfl;conv=>whnf))
      rw [wrap_succ j (by omega)]
      refine ⟨j+1,rfl,?_,rfl,hj,by omega⟩
      rw [hs];rfl
     |false =>
      rw [hfr] at k1 hs
      repeat' (first
       |(refine ⟨fun hg=>?_,fun hg=>?_⟩<;>first|contradiction|(conv=>whnf))
       |(refine Or.inl ?_;conv=>whnf)
       |(refine ⟨_,k1,?_⟩;conv=>whnf)
       |(refine ⟨_,k2,?_⟩;conv=>whnf)
       |(refine And.intro ?_ ?_;kernel_rfl;conv=>whnf))
      rw [ei,show 0+Int.toNat (((i+1:Nat)):Int)=i+1 by omega]
      refine ⟨⟨hgl.symm,by omega,by omega⟩,?_⟩
      conv=>whnf
      refine ⟨⟨hgl.symm,by decide⟩,?_⟩
      rw [hgn]
      conv=>whnf
      rw [ev_subiaddr hin rfl rfl rfl]
      conv=>whnf
      refine ⟨⟨rfl,by omega,by rw [iD_len];omega⟩,?_⟩
      conv=>whnf
      rw [ev_subload hin rfl rfl]
      conv=>whnf
      refine ⟨⟨rfl,by decide⟩,?_⟩
      rw [show (iD nx).getD (0+Int.toNat ((j:Nat):Int)) .undef=DV.int .i64 (nx.getD j 0) by rw [show 0+Int.toNat ((j:Nat):Int)=j by omega];exact iD_get _ _ hjl]
      conv=>whnf
      refine ⟨by kernel_rfl,?_⟩
      conv=>whnf
      rw [wrap_succ j (by omega),wrap_in (n:=wthI b (ps.getD i 0) f j+nx.getD j 0) (by omega) (by omega),minmax_max]
      refine ⟨j+1,rfl,?_,rfl,hj,by omega⟩
      rw [hs];rfl
    ·have hj:j=lvN b:=by have:=of_decide_eq_false hc;omega
     clear hc
     subst hj
     have hin2:innOf 0 (es.getD i .undef)=some (iD (rowT b (ps.getD i 0) nx f)):=by rw [hgi];rfl
     have hrs:iD (rowT b (ps.getD i 0) nx (f+1))=iD (rowT b (ps.getD i 0) nx f)++[DV.int .i64 (mxN b (ps.getD i 0) nx f (lvN b))]:=by rw [rowT_succ];unfold iD;rw [List.map_append];rfl
     conv=>whnf
     rw [show 0+Int.toNat ((i:Nat):Int)=i by omega]
     refine ⟨⟨hgl.symm,by omega,by omega⟩,?_⟩
     conv=>whnf
     refine ⟨⟨hgl.symm,by decide⟩,?_⟩
     rw [hgi]
     conv=>whnf
     rw [ev_subapp hin2 rfl rfl rfl]
     conv=>whnf
     refine ⟨⟨rfl,rfl,rfl,by rw [iD_len,rowT_len];show f+1≤_;omega,fun e he=>by simp at he;subst he;rfl⟩,?_⟩
     conv=>whnf
     refine ⟨⟨hgl.symm,by omega,by omega⟩,?_⟩
     conv=>whnf
     refine ⟨⟨hgl.symm,by omega,by omega,rfl,rfl,rfl⟩,?_⟩
     rw [show 0+Int.toNat ((i:Nat):Int)=i by omega]
     conv=>whnf
     refine ⟨by kernel_rfl,?_⟩
     conv=>whnf
     rw [wrap_succ f (by omega)]
     refine ⟨f+1,rfl,rfl,?_,hf,by omega⟩
     show _=[(2,DObj.box 5 (encB b)),(5,.box 1 (.own 14 0 (ps.length+1) (ps.length+1))),(14,.nrow 1 0 1 (nTab b ps i (f+1)) none)]
     rw [← hgs,hrs];rfl
  ·have hf:f=lvN b:=by have:=of_decide_eq_false hc;omega
   clear hc
   subst hf
   conv=>whnf
   refine ⟨rfl,rfl,trivial⟩
 ·intro _
  rw [show (backL ps).length=ps.length from rng_len _ _,Nat.sub_self]
  have hall:=nTab_all (b:=b) hn
  have hl:=nTab_len b ps 0 (lvN b)
  conv=>whnf
  refine ⟨hl.symm,?_⟩
  show DV.list (window ((nTab b ps 0 (lvN b)).map closeD) 0 (ps.length+1))=_
  have hml:((nTab b ps 0 (lvN b)).map closeD).length=ps.length+1:=by rw [List.length_map,hl]
  have hwf:=window_full ((nTab b ps 0 (lvN b)).map closeD)
  rw [hml] at hwf
  rw [hwf,hall];rfl
end Sh

namespace Sh
open Go Go.Proofs
def bxH (b:Ba) (ps:List Int):Nat→Heap
 |0=>[(2,.box 5 (encB b)),(4,.box 2 (.agg [.full [],DV.int .i64 (0)])),(6,.box 2 (.agg [.full [],DV.int .i64 (topI b ps)]))]
 |i+1=>[(2,.box 5 (encB b)),(4,.box 2 (.agg [.full [],DV.int .i64 (0)])),(6,.box 2 (.agg [.own 76 0 (iD (bstL b ps (i+1))).length (iD (bstL b ps (i+1))).length,DV.int .i64 (topI b ps)])),(76,.row 1 (iD (bstL b ps (i+1))) false)]
theorem bxH_succ (b:Ba) (ps:List Int) (i:Nat):bxH b ps (i+1)=[(2,.box 5 (encB b)),(4,.box 2 (.agg [.full [],DV.int .i64 (0)])),(6,.box 2 (.agg [.own 76 0 (iD (bstL b ps (i+1))).length (iD (bstL b ps (i+1))).length,DV.int .i64 (topI b ps)])),(76,.row 1 (iD (bstL b ps (i+1))) false)]:=rfl
theorem c_best (b:Ba) (hb:OkB b) (ps:List Int) (hp:∀ p ∈ ps,OkP p) (hps:ps.length≤24) (hn:0 < ps.length):PC 115 [encB b,iL ps] (encVd (bstL b ps ps.length,topI b ps)):=by
 have e0:((ps.map (DV.int .i64)).length:Int)=ps.length:=by simp
 have hlv:=hb.lv
 have hca:0≤b.ca:=by have:=hb.c0;omega
 have hc1:=hb.c1
 have hle:=le_lv hb
 have htl:=tabT_len b ps
 have ew:IntKind.i64.wrap (b.ca+1)=b.ca+1:=wrap_in (by omega) (by omega)
 have hi0:0 < (tabT b ps).length:=by omega
 have hg0:=iLL_get b ps hi0
 have hl0:b.le.toNat < (rwA b (ps.drop 0)).length:=by rw [rwA_len];exact hle.1
 refine pureCall_ofR dh115 rfl ?_
 conv=>whnf
 refine .inl ?_
 conv=>whnf
 refine ⟨_,c_table b hb ps hp hps hn,?_⟩
 conv=>whnf
 have hz:((tabT b ps).map iL).getD (Int.toNat 0) .undef=iL (rwA b (ps.drop 0)):=by
  have:=getD_enc iL (tabT b ps) 0 [] hi0
  rw [hg0] at this;exact this
 rw [hz]
 refine ⟨⟨by decide,by rw [List.length_map];omega,rfl⟩,?_⟩
 conv=>whnf
 have hy:((rwA b (ps.drop 0)).map (DV.int .i64)).getD (Int.toNat b.le) .undef=DV.int .i64 (topI b ps):=by
  have:=getD_enc (DV.int .i64) (rwA b (ps.drop 0)) b.le.toNat 0 hl0
  rw [hle.2] at this;exact this
 rw [hy]
 refine ⟨⟨hb.e0,by rw [List.length_map,rwA_len];have:=hb.e1;omega,rfl⟩,?_⟩
 conv=>whnf
 refine ⟨by kernel_rfl,?_⟩
 conv=>whnf
 refine dwp_loopU (P:=Tryz.prog) (G:=GC) (k:=dk115_1) (b:=db115_1) (α:=Nat) (fun i=>[(7,DV.int .i64 (lvJ b ps i)),(27,DV.int .i64 (i))]) (fun i=>bxH b ps i) (fun i=>i≤ps.length) (fun i=>ps.length - i) 0 (Nat.zero_le _) ?_
 conv=>whnf
 refine ⟨rfl,rfl,?_⟩
 conv=>whnf
 refine ⟨rfl,?_⟩
 intro i h1
 have hjn:=lvJ_eq hb ps (i+1)
 rw [lvJ_eq hb ps i]
 have hls:lvlI b ps (i+1)=nxtN b (ps.getD i 0) (ps.drop (i+1)) (lvlI b ps i):=rfl
 have hlt:lvlI b ps i < lvN b:=atN_lv hb ps hle.1 i
 have hbs:=bstD_succ b ps i
 have hbl:(iD (bstL b ps i)).length=i:=by rw [iD_len,bstL_len]
 rcases i with _|i
 ·generalize lvlI b ps 0=f at *
  conv=>whnf
  refine ⟨fun hc=>?_,fun hc=>?_⟩
  ·have hi:0 < ps.length:=by have:=of_decide_eq_true hc;rw [e0] at this;omega
   clear hc
   have hdc:=drop_cons' ps hi
   have hi1:0 < (tabT b ps).length:=by omega
   have hi2:0+1 < (tabT b ps).length:=by omega
   have hg1:=iLL_get b ps hi1
   have hg2:=iLL_get b ps hi2
   have hpi:=hp _ (getD_in 0 hi)
   conv=>whnf
   rw [getD_enc _ _ (0) 0 hi]
   refine ⟨idxA hi rfl,?_⟩
   conv=>whnf
   rw [ew]
   refine dwp_loopU (P:=Tryz.prog) (G:=GC) (k:=dk115_0) (b:=db115_0) (α:=Nat) (fun j=>[(36,DV.int .i64 (j))]) (fun _=>bxH b ps 0) (fun j=>j≤lvN b∧noBest b (ps.getD 0 0) (ps.drop (0+1)) f j) (fun j=>lvN b - j) 0 ⟨Nat.zero_le _,fun t ht=>absurd ht (Nat.not_lt_zero t)⟩ ?_
   conv=>whnf
   refine ⟨rfl,rfl,?_⟩
   conv=>whnf
   refine ⟨rfl,?_⟩
   intro j h2
   obtain ⟨h2,h3⟩:=h2
   conv=>whnf
   refine ⟨fun hc=>?_,fun hc=>?_⟩
   ·have hj:j < lvN b:=by have:=of_decide_eq_true hc;omega
    clear hc
    have k1:=c_far b f j (lev24 hb hlt) (lev24 hb hj)
    have k2:=c_worth b hb (ps.getD 0 0) f j hpi (lev24 hb hlt) (lev24 hb hj)
    have b1:=wthI_bd hb hpi (lev24 hb hlt) (lev24 hb hj)
    have b2:=rwA_bd hb hp hps (0+1) hj
    have hl1:j < (rwA b (ps.drop (0+1))).length:=by rw [rwA_len];exact hj
    have hl2:f < (rwA b (ps.drop 0)).length:=by rw [rwA_len];exact hlt
    have b3:IntKind.i64.wrap (wthI b (ps.getD 0 0) f j+(rwA b (ps.drop (0+1))).getD j 0)=wthI b (ps.getD 0 0) f j+(rwA b (ps.drop (0+1))).getD j 0:=wrap_in (by omega) (by omega)
    have ei:IntKind.i64.wrap (((0:Nat):Int)+1)=((0+1:Nat):Int):=wrap_succ 0 (by omega)
    conv=>whnf
    cases hfr:farB b f j with
    |true =>
     have hnb:isBest b (ps.getD 0 0) (rwA b (ps.drop (0+1))) ((rwA b (ps.getD 0 0 :: ps.drop (0+1))).getD f 0) f j=false:=by
      rw [Bool.eq_false_iff];intro h;have:=(isBest_step.1 h).1;rw [hfr] at this;cases this
     rw [hfr] at k1
     repeat' (first
      |(refine ⟨fun hg=>?_,fun hg=>?_⟩<;>first|contradiction|(conv=>whnf))
      |(refine Or.inl ?_;conv=>whnf)
      |(refine ⟨_,k1,?_⟩;conv=>whnf)
      |(refine And.intro ?_ ?_;kernel_rfl;conv=>whnf))
     rw [wrap_succ j (by omega)]
     exact ⟨j+1,rfl,rfl,rfl,⟨hj,noBest_succ h3 hnb⟩,by omega⟩
    |false =>
     rw [hfr] at k1
     repeat' (first
      |(refine ⟨fun hg=>?_,fun hg=>?_⟩<;>first|contradiction|(conv=>whnf))
      |(refine Or.inl ?_;conv=>whnf)
      |(refine ⟨_,k1,?_⟩;conv=>whnf)
      |(refine ⟨_,k2,?_⟩;conv=>whnf)
      |(rw [ei,getD_enc _ _ (0+1) [] hi2,hg2];refine ⟨idxA hi2 rfl,?_⟩;conv=>whnf)
      |(rw [getD_enc _ _ j 0 hl1];refine ⟨idxA hl1 rfl,?_⟩;conv=>whnf)
      |(rw [getD_enc _ _ 0 [] hi1,hg1];refine ⟨idxA hi1 rfl,?_⟩;conv=>whnf)
      |(rw [getD_enc _ _ f 0 hl2];refine ⟨idxA hl2 rfl,?_⟩;conv=>whnf)
      |(refine And.intro ?_ ?_;kernel_rfl;conv=>whnf))
     ·have hg:=of_decide_eq_true hg
      rw [b3] at hg
      have hbt:=noBest_found hb hlt hj h3 (isBest_step.2 ⟨hfr,by rw [hg,hdc]⟩)
      rw [hbt] at hls
      rw [hls] at hbs hjn
      refine ⟨⟨by show 1≤1073741824;decide,fun e he=>by simp at he;subst he;rfl,⟨fun e he=>(by cases he),Or.inl rfl⟩⟩,?_⟩
      conv=>whnf
      rw [wrap_succ 0 (by omega)]
      refine ⟨0+1,rfl,?_,?_,hi,by omega⟩
      ·rw [hjn];rfl
      ·rw [bxH_succ b ps 0,hbs];rfl
     ·have hg:=of_decide_eq_false hg
      rw [b3] at hg
      have hnb:isBest b (ps.getD 0 0) (rwA b (ps.drop (0+1))) ((rwA b (ps.getD 0 0 :: ps.drop (0+1))).getD f 0) f j=false:=by
       rw [Bool.eq_false_iff];intro h;have:=(isBest_step.1 h).2;rw [← hdc] at this;exact hg this
      rw [wrap_succ j (by omega)]
      exact ⟨j+1,rfl,rfl,rfl,⟨hj,noBest_succ h3 hnb⟩,by omega⟩
   ·have hj:j=lvN b:=by have:=of_decide_eq_false hc;omega
    subst hj
    exact absurd h3 (fun h=>noBest_all hb hlt h)
  ·have hc:=of_decide_eq_false hc
   rw [e0] at hc
   exfalso;omega
 ·generalize lvlI b ps (i+1)=f at *
  conv=>whnf
  refine ⟨fun hc=>?_,fun hc=>?_⟩
  ·have hi:(i+1) < ps.length:=by have:=of_decide_eq_true hc;rw [e0] at this;omega
   clear hc
   have hdc:=drop_cons' ps hi
   have hi1:(i+1) < (tabT b ps).length:=by omega
   have hi2:(i+1)+1 < (tabT b ps).length:=by omega
   have hg1:=iLL_get b ps hi1
   have hg2:=iLL_get b ps hi2
   have hpi:=hp _ (getD_in 0 hi)
   conv=>whnf
   rw [getD_enc _ _ ((i+1)) 0 hi]
   refine ⟨idxA hi rfl,?_⟩
   conv=>whnf
   rw [ew]
   refine dwp_loopU (P:=Tryz.prog) (G:=GC) (k:=dk115_0) (b:=db115_0) (α:=Nat) (fun j=>[(36,DV.int .i64 (j))]) (fun _=>bxH b ps (i+1)) (fun j=>j≤lvN b∧noBest b (ps.getD (i+1) 0) (ps.drop ((i+1)+1)) f j) (fun j=>lvN b - j) 0 ⟨Nat.zero_le _,fun t ht=>absurd ht (Nat.not_lt_zero t)⟩ ?_
   conv=>whnf
   refine ⟨rfl,rfl,?_⟩
   conv=>whnf
   refine ⟨rfl,?_⟩
   intro j h2
   obtain ⟨h2,h3⟩:=h2
   conv=>whnf
   refine ⟨fun hc=>?_,fun hc=>?_⟩
   ·have hj:j < lvN b:=by have:=of_decide_eq_true hc;omega
    clear hc
    have k1:=c_far b f j (lev24 hb hlt) (lev24 hb hj)
    have k2:=c_worth b hb (ps.getD (i+1) 0) f j hpi (lev24 hb hlt) (lev24 hb hj)
    have b1:=wthI_bd hb hpi (lev24 hb hlt) (lev24 hb hj)
    have b2:=rwA_bd hb hp hps ((i+1)+1) hj
    have hl1:j < (rwA b (ps.drop ((i+1)+1))).length:=by rw [rwA_len];exact hj
    have hl2:f < (rwA b (ps.drop (i+1))).length:=by rw [rwA_len];exact hlt
    have b3:IntKind.i64.wrap (wthI b (ps.getD (i+1) 0) f j+(rwA b (ps.drop ((i+1)+1))).getD j 0)=wthI b (ps.getD (i+1) 0) f j+(rwA b (ps.drop ((i+1)+1))).getD j 0:=wrap_in (by omega) (by omega)
    have ei:IntKind.i64.wrap ((((i+1):Nat):Int)+1)=(((i+1)+1:Nat):Int):=wrap_succ (i+1) (by omega)
    conv=>whnf
    cases hfr:farB b f j with
    |true =>
     have hnb:isBest b (ps.getD (i+1) 0) (rwA b (ps.drop ((i+1)+1))) ((rwA b (ps.getD (i+1) 0 :: ps.drop ((i+1)+1))).getD f 0) f j=false:=by
      rw [Bool.eq_false_iff];intro h;have:=(isBest_step.1 h).1;rw [hfr] at this;cases this
     rw [hfr] at k1
     repeat' (first
      |(refine ⟨fun hg=>?_,fun hg=>?_⟩<;>first|contradiction|(conv=>whnf))
      |(refine Or.inl ?_;conv=>whnf)
      |(refine ⟨_,k1,?_⟩;conv=>whnf)
      |(refine And.intro ?_ ?_;kernel_rfl;conv=>whnf))
     rw [wrap_succ j (by omega)]
     exact ⟨j+1,rfl,rfl,rfl,⟨hj,noBest_succ h3 hnb⟩,by omega⟩
    |false =>
     rw [hfr] at k1
     repeat' (first
      |(refine ⟨fun hg=>?_,fun hg=>?_⟩<;>first|contradiction|(conv=>whnf))
      |(refine Or.inl ?_;conv=>whnf)
      |(refine ⟨_,k1,?_⟩;conv=>whnf)
      |(refine ⟨_,k2,?_⟩;conv=>whnf)
      |(rw [ei,getD_enc _ _ ((i+1)+1) [] hi2,hg2];refine ⟨idxA hi2 rfl,?_⟩;conv=>whnf)
      |(rw [getD_enc _ _ j 0 hl1];refine ⟨idxA hl1 rfl,?_⟩;conv=>whnf)
      |(rw [getD_enc _ _ (i+1) [] hi1,hg1];refine ⟨idxA hi1 rfl,?_⟩;conv=>whnf)
      |(rw [getD_enc _ _ f 0 hl2];refine ⟨idxA hl2 rfl,?_⟩;conv=>whnf)
      |(refine And.intro ?_ ?_;kernel_rfl;conv=>whnf))
     ·have hg:=of_decide_eq_true hg
      rw [b3] at hg
      have hbt:=noBest_found hb hlt hj h3 (isBest_step.2 ⟨hfr,by rw [hg,hdc]⟩)
      rw [hbt] at hls
      rw [hls] at hbs hjn
      refine ⟨⟨rfl,rfl,rfl,by rw [hbl];show i+1+1≤_;omega,fun e he=>by simp at he;subst he;rfl⟩,?_⟩
      conv=>whnf
      rw [wrap_succ (i+1) (by omega)]
      refine ⟨i+1+1,rfl,?_,?_,hi,by omega⟩
      ·rw [hjn];rfl
      ·rw [bxH_succ b ps (i+1),hbs];rfl
     ·have hg:=of_decide_eq_false hg
      rw [b3] at hg
      have hnb:isBest b (ps.getD (i+1) 0) (rwA b (ps.drop ((i+1)+1))) ((rwA b (ps.getD (i+1) 0 :: ps.drop ((i+1)+1))).getD f 0) f j=false:=by
       rw [Bool.eq_false_iff];intro h;have:=(isBest_step.1 h).2;rw [← hdc] at this;exact hg this
      rw [wrap_succ j (by omega)]
      exact ⟨j+1,rfl,rfl,rfl,⟨hj,noBest_succ h3 hnb⟩,by omega⟩
   ·have hj:j=lvN b:=by have:=of_decide_eq_false hc;omega
    subst hj
    exact absurd h3 (fun h=>noBest_all hb hlt h)
  ·have hi:i+1=ps.length:=by have:=of_decide_eq_false hc;rw [e0] at this;omega
   clear hc
   conv=>whnf
   refine ⟨rfl,?_⟩
   rw [window_full,hi];rfl
def bestS (b:Ba) (ps:List Int):List Int×Int×Int:=if chkBP b ps≠0 then ([],0,chkBP b ps) else (bstL b ps ps.length,topI b ps,0)
def tblS (b:Ba) (ps:List Int):List (List Int)×Int:=if chkBP b ps≠0 then ([],chkBP b ps) else (tabT b ps,0)
theorem c_Best (b:Ba) (ps:List Int) (hl:ps.length < 1073741824):PC 51 [encB b,iL ps] (.tuple [iL (bestS b ps).1,DV.int .i64 ((bestS b ps).2.1),DV.int .i64 ((bestS b ps).2.2)]):=by
 have e0:((ps.map (DV.int .i64)).length:Int)=ps.length:=by simp
 refine pureCall_ofR dh51 rfl ?_
 conv=>whnf
 refine .inl ?_
 conv=>whnf
 refine ⟨_,c_checkPrices b ps hl,?_⟩
 conv=>whnf
 refine ⟨fun hg=>?_,fun hg=>?_⟩
 ·have hg:chkBP b ps≠0:=of_decide_eq_true hg
  conv=>whnf
  rw [bestS,if_pos hg];rfl
 ·have hg:¬ chkBP b ps≠0:=of_decide_eq_false hg
  obtain ⟨hb,hn,hps,hp⟩:=chkBP_ok (Classical.not_not.1 hg)
  have hv:bestS b ps=(bstL b ps ps.length,topI b ps,0):=by rw [bestS,if_neg hg]
  rw [hv]
  clear hg hv
  have k1:=c_Repeat b.le ps.length hn hps
  have k2:=c_best b hb ps hp hps hn
  have k3:=c_MinFunc (bstL b ps ps.length,topI b ps) (List.replicate ps.length b.le,0) (by simp;omega) (best_first hb hp)
  rw [← e0] at k1
  conv=>whnf
  repeat' (first
   |(refine ⟨fun hg=>?_,fun hg=>?_⟩<;>first|contradiction|(conv=>whnf))
   |(refine Or.inl ?_;conv=>whnf)
   |(refine ⟨_,k1,?_⟩;conv=>whnf)
   |(refine ⟨_,k2,?_⟩;conv=>whnf)
   |(refine ⟨_,k3,?_⟩;conv=>whnf)
   |(refine And.intro ?_ ?_;kernel_rfl;conv=>whnf))
  rfl
theorem c_Table (b:Ba) (ps:List Int) (hl:ps.length < 1073741824):PC 52 [encB b,iL ps] (.tuple [iLL (tblS b ps).1,DV.int .i64 ((tblS b ps).2)]):=by
 refine pureCall_ofR dh52 rfl ?_
 conv=>whnf
 refine .inl ?_
 conv=>whnf
 refine ⟨_,c_checkPrices b ps hl,?_⟩
 conv=>whnf
 refine ⟨fun hg=>?_,fun hg=>?_⟩
 ·have hg:chkBP b ps≠0:=of_decide_eq_true hg
  conv=>whnf
  rw [tblS,if_pos hg];rfl
 ·have hg:¬ chkBP b ps≠0:=of_decide_eq_false hg
  obtain ⟨hb,hn,hps,hp⟩:=chkBP_ok (Classical.not_not.1 hg)
  have hv:tblS b ps=(tabT b ps,0):=by rw [tblS,if_neg hg]
  rw [hv]
  conv=>whnf
  repeat' (first
   |(refine ⟨fun hg=>?_,fun hg=>?_⟩<;>first|contradiction|(conv=>whnf))
   |(refine Or.inl ?_;conv=>whnf)
   |(refine ⟨_,c_table b hb ps hp hps hn,?_⟩;conv=>whnf)
   |(refine And.intro ?_ ?_;kernel_rfl;conv=>whnf))
  rfl
end Sh

namespace Sh
open Go
def fndI {α:Type} (p:α→Bool):Nat→List α→Int
 |_,[] => -1
 |i,a :: r=>if p a then i else fndI p (i+1) r
theorem fndI_drop {α:Type} (p:α→Bool) (l:List α) (i:Nat) (d:α) (h:i < l.length):fndI p i (l.drop i)=if p (l.getD i d) then (i:Int) else fndI p (i+1) (l.drop (i+1)):=by
 rw [drop_getD l i d h];rfl
theorem fndI_nn {α:Type} (p:α→Bool):∀ (l:List α) (i:Nat),decide (fndI p i l ≥ 0)=l.any p
 |[],i=>rfl
 |a :: r,i=>by
  unfold fndI
  rw [List.any_cons]
  cases h:p a with
  |true=>rw [if_pos rfl];simp
  |false=>rw [if_neg (by decide),Bool.false_or];exact fndI_nn p r (i+1)
def szN (tb:List (List Int)) (i:Nat):Nat:=(tb.take i).flatten.length
theorem szN_succ (tb:List (List Int)) (i:Nat) (h:i < tb.length):szN tb (i+1)=szN tb i+(tb.getD i []).length:=by
 unfold szN
 rw [take_snoc tb i [] h,List.flatten_append,List.length_append]
 simp
theorem flat_succ (tb:List (List Int)) (i:Nat) (h:i < tb.length):(tb.take (i+1)).flatten=(tb.take i).flatten++tb.getD i []:=by
 rw [take_snoc tb i [] h,List.flatten_append]
 simp
theorem szN_le (tb:List (List Int)) (i:Nat):szN tb i≤tb.flatten.length:=by
 have h:tb.flatten=(tb.take i).flatten++(tb.drop i).flatten:=by rw [← List.flatten_append,List.take_append_drop]
 unfold szN
 rw [h,List.length_append];omega
theorem szN_all (tb:List (List Int)):szN tb tb.length=tb.flatten.length:=by unfold szN;rw [List.take_length]
def catR (tb:List (List Int)) (i:Nat):List Int:=(tb.take i).flatten++List.replicate (tb.flatten.length - szN tb i) 0
theorem catR_len (tb:List (List Int)) (i:Nat):(catR tb i).length=tb.flatten.length:=by
 have:=szN_le tb i
 unfold catR
 rw [List.length_append,List.length_replicate]
 unfold szN at *
 omega
theorem catR_zero (tb:List (List Int)):catR tb 0=List.replicate tb.flatten.length 0:=by unfold catR szN;simp
theorem catR_all (tb:List (List Int)):catR tb tb.length=tb.flatten:=by unfold catR;rw [szN_all,Nat.sub_self,List.take_length];simp
theorem catR_succ (tb:List (List Int)) (i:Nat) (h:i < tb.length):(catR tb i).take (szN tb i)++tb.getD i []++(catR tb i).drop (szN tb i+(tb.getD i []).length)=catR tb (i+1):=by
 have h1:=szN_le tb (i+1)
 have h2:=szN_succ tb i h
 have h3:(catR tb i).take (szN tb i)=(tb.take i).flatten:=by unfold catR szN;rw [List.take_left]
 have h4:(catR tb i).drop (szN tb i+(tb.getD i []).length)=List.replicate (tb.flatten.length - szN tb (i+1)) 0:=by
  unfold catR
  rw [← List.drop_drop,show szN tb i=(tb.take i).flatten.length from rfl,List.drop_left,List.drop_replicate,h2]
  congr 1
  unfold szN;omega
 rw [h3,h4,← flat_succ tb i h];rfl
theorem flat_len {tb:List (List Int)} {N:Nat} (h:∀ l ∈ tb,l.length=N):tb.flatten.length=tb.length * N:=by
 induction tb with
 |nil=>simp
 |cons a r ih =>
  rw [List.flatten_cons,List.length_append,ih (fun l hl=>h l (by simp [hl])),h a (by simp),List.length_cons,Nat.add_mul]
  omega
end Sh

namespace Sh
open Go
def db145_0 : DC := (sq [oq 9 (.bin .lss (.tmp 8) (.tmp 7))] (.seq (.cond (.tmp 9) .skip (.exit 0)) (.seq (.block 1 none (sq [mq 10 8,mq 5 10] (sq [mq 11 1,mq 12 0,mq 13 5,oq 14 (.iaddr 1 (.tmp 12) (.tmp 13)),oq 15 (.load none (.tmp 14)),oq 16 (.call (.tmp 11) [.tmp 15])] (.cond (.tmp 16) (sq [mq 17 5,mq 4 17] .ret) .skip)))) (pq [oq 18 (.bin .add (.tmp 8) (iq 1)),mq 8 18]))))
def dk145_0 : Keep := ⟨[],[0,1,7,8],[]⟩
def dc145 : DFunc := ⟨19,2,[.tmp 4],sq [oq 4 (.mov (iq 0))] (.seq (sq [mq 6 0,oq 7 (.len (.tmp 6)),oq 8 (.mov (iq 0))] (.block 0 (some ⟨[],[],[]⟩) (.loop dk145_0 db145_0))) (sq [oq 4 (.mov (iq (-1)))] .ret))⟩
theorem dh145:cProg Go.Proofs.Tryz.prog ⟨[(0,⟨[],[0,1,7,8],[]⟩)],[(0,⟨[],[],[]⟩)],[]⟩ 145=some dc145:=by kernel_rfl
def db147_0 : DC := (sq [oq 9 (.bin .lss (.tmp 8) (.tmp 7))] (.seq (.cond (.tmp 9) .skip (.exit 0)) (.seq (.block 1 none (sq [mq 10 8,mq 5 10] (sq [mq 11 1,mq 12 0,mq 13 5,oq 14 (.iaddr 1 (.tmp 12) (.tmp 13)),oq 15 (.load none (.tmp 14)),oq 16 (.call (.tmp 11) [.tmp 15])] (.cond (.tmp 16) (sq [mq 17 5,mq 4 17] .ret) .skip)))) (pq [oq 18 (.bin .add (.tmp 8) (iq 1)),mq 8 18]))))
def dk147_0 : Keep := ⟨[],[0,1,7,8],[]⟩
def dc147 : DFunc := ⟨19,2,[.tmp 4],sq [oq 4 (.mov (iq 0))] (.seq (sq [mq 6 0,oq 7 (.len (.tmp 6)),oq 8 (.mov (iq 0))] (.block 0 (some ⟨[],[],[]⟩) (.loop dk147_0 db147_0))) (sq [oq 4 (.mov (iq (-1)))] .ret))⟩
theorem dh147:cProg Go.Proofs.Tryz.prog ⟨[(0,⟨[],[0,1,7,8],[]⟩)],[(0,⟨[],[],[]⟩)],[]⟩ 147=some dc147:=by kernel_rfl
def dc146 : DFunc := ⟨27,2,[.tmp 4],sq [oq 4 (.mov (.const (.slice none 0 0)))] (.seq (sq [mq 5 1,oq 6 (.bin .lss (.tmp 5) (iq 0))] (.cond (.tmp 6) (pq [oq 7 .bad,nq (.bad)]) .skip)) (.seq (sq [mq 8 1,mq 9 0,oq 10 (.capF (.tmp 9)),mq 11 0,oq 12 (.len (.tmp 11)),oq 13 (.bin .sub (.tmp 10) (.tmp 12)),oq 14 (.bin .sub (.tmp 8) (.tmp 13)),mq 1 14] (sq [mq 15 1,oq 16 (.bin .gtr (.tmp 15) (iq 0))] (.cond (.tmp 16) (pq [mq 17 0,mq 18 0,oq 19 (.capF (.tmp 18)),oq 20 (.slice 1 (.tmp 17) none (some (.tmp 19)) none),mq 21 1,oq 22 (.appendZ 1 (.int .i64 0) (.tmp 20) (.tmp 21)),mq 23 0,oq 24 (.len (.tmp 23)),oq 25 (.slice 1 (.tmp 22) none (some (.tmp 24)) none),mq 0 25]) .skip))) (sq [mq 26 0,mq 4 26] .ret)))⟩
theorem dh146:cProg Go.Proofs.Tryz.prog ⟨[],[],[]⟩ 146=some dc146:=by kernel_rfl
end Sh

namespace Sh
open Go Go.Proofs
theorem c_index145 (tb:List (List Int)) (b:Ba) (p:List Int→Bool) (hl:tb.length < 1073741824) (hf:∀ l ∈ tb,PC 118 [iL l,.ip (encB b)] (.bool (p l))):PC 145 [iLL tb,.func 118 [.ip (encB b)]] (DV.int .i64 (fndI p 0 tb)):=by
 have e0:((tb.map iL).length:Int)=tb.length:=by simp
 refine pureCall_ofR dh145 rfl ?_
 conv=>whnf
 refine dwp_loopU (P:=Tryz.prog) (G:=GC) (k:=dk145_0) (b:=db145_0) (α:=Nat) (fun i=>[(8,DV.int .i64 (i))]) (fun _=>[]) (fun i=>i≤tb.length∧fndI p 0 tb=fndI p i (tb.drop i)) (fun i=>tb.length - i) 0 ⟨Nat.zero_le _,rfl⟩ ?_
 conv=>whnf
 refine ⟨rfl,rfl,?_⟩
 conv=>whnf
 refine ⟨rfl,?_⟩
 intro i ⟨h1,h2⟩
 conv=>whnf
 refine ⟨fun hc=>?_,fun hc=>?_⟩
 ·have hi:i < tb.length:=by have:=of_decide_eq_true hc;rw [e0] at this;omega
  clear hc
  have hd:=fndI_drop p tb i [] hi
  have k1:=hf _ (getD_in [] hi)
  conv=>whnf
  rw [getD_enc _ _ (i) [] hi]
  refine ⟨idxA hi rfl,?_⟩
  conv=>whnf
  cases hp:p (tb.getD i []) with
  |true =>
   rw [hp] at k1 hd
   repeat' (first
    |(refine ⟨fun hg=>?_,fun hg=>?_⟩<;>first|contradiction|(conv=>whnf))
    |(refine Or.inl ?_;conv=>whnf)
    |(refine ⟨_,k1,?_⟩;conv=>whnf)
    |(refine And.intro ?_ ?_;kernel_rfl;conv=>whnf))
   exact int_eq (by rw [h2,hd];rfl)
  |false =>
   rw [hp] at k1 hd
   repeat' (first
    |(refine ⟨fun hg=>?_,fun hg=>?_⟩<;>first|contradiction|(conv=>whnf))
    |(refine Or.inl ?_;conv=>whnf)
    |(refine ⟨_,k1,?_⟩;conv=>whnf)
    |(refine And.intro ?_ ?_;kernel_rfl;conv=>whnf))
   rw [wrap_succ i (by omega)]
   exact ⟨i+1,rfl,rfl,rfl,⟨hi,by rw [h2,hd];rfl⟩,by omega⟩
 ·have hi:i=tb.length:=by have:=of_decide_eq_false hc;rw [e0] at this;omega
  clear hc
  conv=>whnf
  exact int_eq (by rw [h2,hi,List.drop_length];rfl)
theorem c_index147 (l:List Int) (f:FuncId) (p:Int→Bool) (hl:l.length < 1073741824) (hf:∀ x ∈ l,PC f [DV.int .i64 (x)] (.bool (p x))):PC 147 [iL l,.func f []] (DV.int .i64 (fndI p 0 l)):=by
 have e0:((l.map (DV.int .i64)).length:Int)=l.length:=by simp
 refine pureCall_ofR dh147 rfl ?_
 conv=>whnf
 refine dwp_loopU (P:=Tryz.prog) (G:=GC) (k:=dk147_0) (b:=db147_0) (α:=Nat) (fun i=>[(8,DV.int .i64 (i))]) (fun _=>[]) (fun i=>i≤l.length∧fndI p 0 l=fndI p i (l.drop i)) (fun i=>l.length - i) 0 ⟨Nat.zero_le _,rfl⟩ ?_
 conv=>whnf
 refine ⟨rfl,rfl,?_⟩
 conv=>whnf
 refine ⟨rfl,?_⟩
 intro i ⟨h1,h2⟩
 conv=>whnf
 refine ⟨fun hc=>?_,fun hc=>?_⟩
 ·have hi:i < l.length:=by have:=of_decide_eq_true hc;rw [e0] at this;omega
  clear hc
  have hd:=fndI_drop p l i 0 hi
  have k1:=hf _ (getD_in 0 hi)
  conv=>whnf
  rw [getD_enc _ _ (i) 0 hi]
  refine ⟨idxA hi rfl,?_⟩
  conv=>whnf
  cases hp:p (l.getD i 0) with
  |true =>
   rw [hp] at k1 hd
   repeat' (first
    |(refine ⟨fun hg=>?_,fun hg=>?_⟩<;>first|contradiction|(conv=>whnf))
    |(refine Or.inl ?_;conv=>whnf)
    |(refine ⟨_,k1,?_⟩;conv=>whnf)
    |(refine And.intro ?_ ?_;kernel_rfl;conv=>whnf))
   exact int_eq (by rw [h2,hd];rfl)
  |false =>
   rw [hp] at k1 hd
   repeat' (first
    |(refine ⟨fun hg=>?_,fun hg=>?_⟩<;>first|contradiction|(conv=>whnf))
    |(refine Or.inl ?_;conv=>whnf)
    |(refine ⟨_,k1,?_⟩;conv=>whnf)
    |(refine And.intro ?_ ?_;kernel_rfl;conv=>whnf))
   rw [wrap_succ i (by omega)]
   exact ⟨i+1,rfl,rfl,rfl,⟨hi,by rw [h2,hd];rfl⟩,by omega⟩
 ·have hi:i=l.length:=by have:=of_decide_eq_false hc;rw [e0] at this;omega
  clear hc
  conv=>whnf
  exact int_eq (by rw [h2,hi,List.drop_length];rfl)
theorem c_118 (b:Ba) (hb:OkB b) (l:List Int):PC 118 [iL l,.ip (encB b)] (.bool (!decide (l.length=lvN b))):=by
 have e0:((l.map (DV.int .i64)).length:Int)=l.length:=by simp
 have hlv:=hb.lv
 have hc0:=hb.c0
 have hc1:=hb.c1
 refine pureCall_ofR dh118 rfl ?_
 conv=>whnf
 refine bool_eq ?_
 rw [wrap_in (by omega) (by omega),e0,← decide_not]
 exact decide_eq_decide.2 (by omega)
theorem c_119 (n:Int):PC 119 [DV.int .i64 (n)] (DV.int .i64 (tbE n)):=by
 refine pureCall_ofR dh119 rfl ?_
 conv=>whnf
 repeat' (first
  |(refine ⟨fun hg=>?_,fun hg=>?_⟩<;>first|contradiction|(conv=>whnf))
  |(refine Or.inl ?_;conv=>whnf)
  |(refine ⟨_,c_within ..,?_⟩;conv=>whnf)
  |(refine And.intro ?_ ?_;kernel_rfl;conv=>whnf))
 rfl
theorem c_122 (n:Int):PC 122 [DV.int .i64 (n)] (.bool (decide (n≠0))):=by
 refine pureCall_ofR dh122 rfl ?_
 conv=>whnf
 rfl
theorem c_contains117 (tb:List (List Int)) (b:Ba) (hb:OkB b) (hl:tb.length < 1073741824):PC 117 [iLL tb,.func 118 [.ip (encB b)]] (.bool (!lenB b tb)):=by
 have k1:=c_index145 tb b (fun l=>!decide (l.length=lvN b)) hl (fun l _=>c_118 b hb l)
 refine pureCall_ofR dh117 rfl ?_
 conv=>whnf
 repeat' (first
  |(refine ⟨fun hg=>?_,fun hg=>?_⟩<;>first|contradiction|(conv=>whnf))
  |(refine Or.inl ?_;conv=>whnf)
  |(refine ⟨_,k1,?_⟩;conv=>whnf)
  |(refine And.intro ?_ ?_;kernel_rfl;conv=>whnf))
 refine bool_eq ?_
 have:=fndI_nn (fun l:List Int=>!decide (l.length=lvN b)) tb 0
 rw [show (!lenB b tb)=tb.any (fun l=>!decide (l.length=lvN b)) by unfold lenB;simp [List.any_eq_not_all_not],← this]
theorem c_contains121 (l:List Int) (hl:l.length < 1073741824):PC 121 [iL l,.func 122 []] (.bool (l.any fun n=>decide (n≠0))):=by
 have k1:=c_index147 l 122 (fun n=>decide (n≠0)) hl (fun n _=>c_122 n)
 refine pureCall_ofR dh121 rfl ?_
 conv=>whnf
 repeat' (first
  |(refine ⟨fun hg=>?_,fun hg=>?_⟩<;>first|contradiction|(conv=>whnf))
  |(refine Or.inl ?_;conv=>whnf)
  |(refine ⟨_,k1,?_⟩;conv=>whnf)
  |(refine And.intro ?_ ?_;kernel_rfl;conv=>whnf))
 refine bool_eq ?_
 rw [← fndI_nn (fun n:Int=>decide (n≠0)) l 0]
theorem h_Grow (n:Nat) (h0:0 < n) (h1:n≤1073741824):HCall Tryz.prog GC 146 [.full [],DV.int .i64 (n)] [] (.own 22 0 0 n) [(22,.row 1 (iD (List.replicate n 0)) false)]:=by
 have hw:IntKind.i64.wrap ((n:Int) - 0)=n:=by rw [wrap_in (by omega) (by omega)];omega
 have hz:IntKind.i64.wrap ((0:Int) - 0)=0:=rfl
 refine hCall_ofR dh146 rfl (by kernel_rfl) (by kernel_rfl) ?_
 conv=>whnf
 refine ⟨fun hg=>?_,fun hg=>?_⟩
 ·have:=of_decide_eq_true hg;omega
 clear hg
 have hwn:IntKind.i64.wrap ((n:Int) - IntKind.i64.wrap (((([]:List DV).length:Nat):Int) - ((([]:List DV).length:Nat):Int)))=n:=by
  rw [show IntKind.i64.wrap (((([]:List DV).length:Nat):Int) - ((([]:List DV).length:Nat):Int))=0 from rfl]
  exact hw
 conv=>whnf
 rw [hwn]
 refine ⟨fun hg=>?_,fun hg=>?_⟩
 ·clear hg
  conv=>whnf
  refine ⟨⟨by decide,by decide,by decide⟩,?_⟩
  conv=>whnf
  refine ⟨⟨by omega,by omega,rfl,rfl⟩,?_⟩
  rw [Int.toNat_natCast,show List.replicate n (DV.int .i64 (0))=iD (List.replicate n 0) by unfold iD;rw [List.map_replicate]]
  conv=>whnf
  refine ⟨⟨by rw [iD_len,List.length_replicate],by decide,by decide,by show (0:Int)≤n;omega⟩,?_⟩
  conv=>whnf
  exact ⟨rfl,rfl⟩
 ·have:=of_decide_eq_false hg
  omega
theorem c_Concat (tb:List (List Int)) (h0:0 < tb.flatten.length) (h1:tb.flatten.length≤1000000) (hl:tb.length < 1073741824):PC 120 [iLL tb] (iL tb.flatten):=by
 have e0:((tb.map iL).length:Int)=tb.length:=by simp
 refine pureCall_ofR dh120 rfl ?_
 conv=>whnf
 refine dwp_loopU (P:=Tryz.prog) (G:=GC) (k:=dk120_0) (b:=db120_0) (α:=Nat) (fun i=>[(3,DV.int .i64 ((szN tb i:Nat))),(11,DV.int .i64 (i))]) (fun _=>[]) (fun i=>i≤tb.length) (fun i=>tb.length - i) 0 (Nat.zero_le _) ?_
 conv=>whnf
 refine ⟨rfl,rfl,?_⟩
 conv=>whnf
 refine ⟨rfl,?_⟩
 intro i h2
 conv=>whnf
 refine ⟨fun hc=>?_,fun hc=>?_⟩
 ·have hi:i < tb.length:=by have:=of_decide_eq_true hc;rw [e0] at this;omega
  clear hc
  have hs:=szN_succ tb i hi
  have hle:=szN_le tb (i+1)
  have e1:(((tb.getD i []).map (DV.int .i64)).length:Int)=(tb.getD i []).length:=by simp
  have ew:IntKind.i64.wrap (((szN tb i:Nat):Int)+((((tb.getD i []).map (DV.int .i64)).length:Nat):Int))=((szN tb (i+1):Nat):Int):=by rw [e1,wrap_in (by omega) (by omega)];omega
  conv=>whnf
  rw [getD_enc _ _ (i) [] hi]
  refine ⟨idxA hi rfl,?_⟩
  conv=>whnf
  rw [ew]
  refine ⟨fun hg=>?_,fun hg=>?_⟩
  ·have:=of_decide_eq_true hg;omega
  clear hg
  conv=>whnf
  rw [wrap_succ i (by omega)]
  exact ⟨i+1,rfl,rfl,rfl,hi,by omega⟩
 ·have hi:i=tb.length:=by have:=of_decide_eq_false hc;rw [e0] at this;omega
  clear hc
  subst hi
  rw [szN_all]
  conv=>whnf
  have hG:=h_Grow tb.flatten.length h0 (by omega)
  rw [← catR_zero] at hG
  have hcl:=catR_len tb
  refine .inr ⟨[(22,24)],_,_,_,_,hG,⟨rfl,by kernel_rfl,?_,?_⟩,?_⟩
  ·exact trivial
  ·exact ⟨.inr rfl,trivial⟩
  conv=>whnf
  refine dwp_loopU (P:=Tryz.prog) (G:=GC) (k:=dk120_1) (b:=db120_1) (α:=Nat) (fun i=>[(6,.own 24 0 (szN tb i) tb.flatten.length),(27,DV.int .i64 (i))]) (fun i=>[(24,.row 1 (iD (catR tb i)) false)]) (fun i=>i≤tb.length) (fun i=>tb.length - i) 0 (Nat.zero_le _) ?_
  conv=>whnf
  refine ⟨rfl,rfl,?_⟩
  conv=>whnf
  refine ⟨rfl,?_⟩
  intro i h3
  have hrl:(iD (catR tb i)).length=tb.flatten.length:=by rw [iD_len,hcl]
  conv=>whnf
  refine ⟨fun hc=>?_,fun hc=>?_⟩
  ·have hi:i < tb.length:=by have:=of_decide_eq_true hc;rw [e0] at this;omega
   clear hc
   have hs:=szN_succ tb i hi
   have hle:=szN_le tb (i+1)
   have hcs:(iD (catR tb i)).take (szN tb i)++(tb.getD i []).map (DV.int .i64)++(iD (catR tb i)).drop (szN tb i+((tb.getD i []).map (DV.int .i64)).length)=iD (catR tb (i+1)):=by
    rw [← catR_succ tb i hi]
    unfold iD
    simp only [List.map_append,List.map_take,List.map_drop,List.length_map]
   have hsl:szN tb i+((tb.getD i []).map (DV.int .i64)).length=szN tb (i+1):=by rw [List.length_map,hs]
   conv=>whnf
   rw [getD_enc _ _ (i) [] hi]
   refine ⟨idxA hi rfl,?_⟩
   conv=>whnf
   refine ⟨⟨hrl.symm,by rw [List.length_map,hrl];omega,fun e he=>by obtain ⟨q,_,rfl⟩:=List.mem_map.1 he;rfl⟩,?_⟩
   rw [hcs,hsl]
   conv=>whnf
   rw [wrap_succ i (by omega)]
   exact ⟨i+1,rfl,rfl,rfl,hi,by omega⟩
  ·have hi:i=tb.length:=by have:=of_decide_eq_false hc;rw [e0] at this;omega
   clear hc
   subst hi
   rw [szN_all,catR_all] at *
   conv=>whnf
   refine ⟨hrl.symm,?_⟩
   show DV.list (window (iD tb.flatten) 0 tb.flatten.length)=_
   have:=window_full (iD tb.flatten)
   rw [hrl] at this
   rw [this];rfl
end Sh

namespace Sh
open Go Go.Proofs
end Sh

namespace Sh
open Go Go.Proofs
theorem forall_succ {Q:Nat→Prop} {i:Nat} (h:∀ k,k < i→Q k) (hi:Q i):∀ k,k < i+1→Q k:=fun k hk=>by
 by_cases e:k=i
 ·rw [e];exact hi
 ·exact h k (by omega)
end Sh

namespace Sh
open Go Go.Proofs
theorem any_row {b:Ba} {l:List Int} (hl:l.length=lvN b):(l.any fun n=>decide (n≠0))=false→∀ k,k < lvN b→l.getD k 0=0:=fun h k hk=>by
 have:=List.any_eq_false.1 h _ (getD_in 0 (show k < l.length by omega))
 simpa using this
theorem c_CheckTable (b:Ba) (ps:List Int) (tb:List (List Int)) (v:Int) (hp:ps.length < 1073741824) (hl:tb.length < 1073741824):PC 53 [encB b,iL ps,iLL tb,DV.int .i64 (v)] (DV.int .i64 (chkTb b ps tb v)):=by
 have e0:((tb.map iL).length:Int)=tb.length:=by simp
 have e1:((ps.map (DV.int .i64)).length:Int)=ps.length:=by simp
 have ep:IntKind.i64.wrap ((((ps.map (DV.int .i64)).length:Nat):Int)+1)=ps.length+1:=by rw [e1,wrap_in (by omega) (by omega)]
 have hk:chkTb b ps tb v=if firstE [chkBP b ps,whenE (decide ((tb.length:Int)≠ps.length+1)) 2]≠0 then firstE [chkBP b ps,whenE (decide ((tb.length:Int)≠ps.length+1)) 2] else if lenB b tb=false then 2 else if firstE (tb.map rwE)≠0 then firstE (tb.map rwE) else if prvP b ps tb v then 0 else 19:=by
  unfold chkTb frmE whenE
  generalize chkBP b ps=z
  generalize firstE (tb.map rwE)=y
  simp only [firstE]
  grind
 refine pureCall_ofR dh53 rfl ?_
 conv=>whnf
 refine .inl ?_
 conv=>whnf
 refine ⟨_,c_checkPrices b ps hp,?_⟩
 conv=>whnf
 rw [ep,e0]
 repeat' (first
  |(refine ⟨fun hg=>?_,fun hg=>?_⟩<;>first|contradiction|(conv=>whnf))
  |(refine Or.inl ?_;conv=>whnf)
  |(refine ⟨_,c_when ..,?_⟩;conv=>whnf)
  |(refine ⟨_,c_first [_,_] (by simp),?_⟩;conv=>whnf)
  |(refine And.intro ?_ ?_;kernel_rfl;conv=>whnf))
 ·have hg:=of_decide_eq_true hg
  exact int_eq (by rw [hk,if_pos hg])
 ·have hg:=of_decide_eq_false hg
  rw [if_neg hg] at hk
  have hz:=firstE_cons (Classical.not_not.1 hg)
  have htn:=of_decide_eq_false (whenE_zero (firstE_cons hz.2).1 (by decide))
  obtain ⟨hb,hn,hps,hpp⟩:=chkBP_ok hz.1
  clear hg hz
  have htn:tb.length=ps.length+1:=by omega
  have hlv:=hb.lv
  have hc0:=hb.c0
  have hc1:=hb.c1
  have hle:=le_lv hb
  have k1:=c_contains117 tb b hb hl
  cases hlb:lenB b tb with
  |false =>
   rw [hlb,if_pos rfl] at hk
   rw [hlb] at k1
   repeat' (first
    |(refine ⟨fun hg=>?_,fun hg=>?_⟩<;>first|contradiction|(conv=>whnf))
    |(refine Or.inl ?_;conv=>whnf)
    |(refine ⟨_,k1,?_⟩;conv=>whnf)
    |(refine And.intro ?_ ?_;kernel_rfl;conv=>whnf))
   exact int_eq hk.symm
  |true =>
   rw [hlb,if_neg (by decide)] at hk
   rw [hlb] at k1
   have hrl:∀ l ∈ tb,l.length=lvN b:=fun l h=>of_decide_eq_true (List.all_eq_true.1 hlb l h)
   have hfl:=flat_len hrl
   have hmul:tb.length * lvN b≤25 * 25:=Nat.mul_le_mul (by omega) (by omega)
   have hpos:0 < tb.length * lvN b:=Nat.mul_pos (by omega) (by omega)
   have k2:=c_Concat tb (by omega) (by omega) hl
   have k3:=c_mappedI tb.flatten 119 tbE (by omega) (fun c _=>c_119 c)
   have k4:=c_first (tb.flatten.map tbE) (by rw [List.length_map];omega)
   rw [firstE_flatten] at k4
   repeat' (first
    |(refine ⟨fun hg=>?_,fun hg=>?_⟩<;>first|contradiction|(conv=>whnf))
    |(refine Or.inl ?_;conv=>whnf)
    |(refine ⟨_,k1,?_⟩;conv=>whnf)
    |(refine ⟨_,k2,?_⟩;conv=>whnf)
    |(refine ⟨_,k3,?_⟩;conv=>whnf)
    |(refine ⟨_,k4,?_⟩;conv=>whnf)
    |(refine And.intro ?_ ?_;kernel_rfl;conv=>whnf))
   ·have hg:firstE (tb.map rwE)≠0:=of_decide_eq_true hg
    exact int_eq (by rw [hk,if_pos hg])
   ·have hg:¬ firstE (tb.map rwE)≠0:=of_decide_eq_false hg
    rw [if_neg hg] at hk
    have hok:OkT b ps tb:=frmE_ok (by unfold frmE;rw [if_neg (by omega),hlb,if_neg (by decide)];exact Classical.not_not.1 hg)
    clear hg k1 k2 k3 k4
    have hi1:ps.length < tb.length:=by omega
    have k5:=c_contains121 (tb.getD ps.length []) (by rw [hok.l _ hi1];omega)
    have hi0:0 < tb.length:=by omega
    have hl0:b.le.toNat < (tb.getD 0 []).length:=by rw [hok.l _ hi0];exact hle.1
    have hz:(tb.map iL).getD (Int.toNat 0) .undef=iL (tb.getD 0 []):=getD_enc iL tb 0 [] hi0
    have hy:((tb.getD 0 []).map (DV.int .i64)).getD (Int.toNat b.le) .undef=DV.int .i64 (rowG tb 0 b.le.toNat):=by
     have:=getD_enc (DV.int .i64) (tb.getD 0 []) b.le.toNat 0 hl0
     rw [hle.2] at this;exact this
    rw [e1]
    rw [getD_enc _ _ (ps.length) [] hi1]
    refine ⟨idxA hi1 rfl,?_⟩
    conv=>whnf
    cases ha:(tb.getD ps.length []).any fun n=>decide (n≠0) with
    |true =>
     rw [ha] at k5
     have hP:¬ prvP b ps tb v:=fun hP=>by
      obtain ⟨x,hx,hx2⟩:=List.any_eq_true.1 ha
      obtain ⟨k,hkl,rfl⟩:=List.mem_iff_getElem.1 hx
      have:=hP.z k (by rw [← hok.l _ hi1];exact hkl)
      unfold rowG at this
      rw [List.getD_eq_getElem?_getD,List.getElem?_eq_getElem hkl] at this
      exact absurd this (by simpa using hx2)
     repeat' (first
      |(refine ⟨fun hg=>?_,fun hg=>?_⟩<;>first|contradiction|(conv=>whnf))
      |(refine Or.inl ?_;conv=>whnf)
      |(refine ⟨_,k5,?_⟩;conv=>whnf)
      |(refine And.intro ?_ ?_;kernel_rfl;conv=>whnf))
     exact int_eq (by rw [hk,if_neg hP])
    |false =>
     rw [ha] at k5
     have hZ:=any_row (b:=b) (hok.l _ hi1) ha
     repeat' (first
      |(refine ⟨fun hg=>?_,fun hg=>?_⟩<;>first|contradiction|(conv=>whnf))
      |(refine Or.inl ?_;conv=>whnf)
      |(refine ⟨_,k5,?_⟩;conv=>whnf)
      |(rw [hz];refine ⟨⟨by decide,by rw [e0];omega,rfl⟩,?_⟩;conv=>whnf)
      |(rw [hy];refine ⟨⟨hb.e0,by rw [List.length_map,hok.l _ hi0];have:=hb.e1;omega,rfl⟩,?_⟩;conv=>whnf)
      |(refine And.intro ?_ ?_;kernel_rfl;conv=>whnf))
     ·have hg:rowG tb 0 b.le.toNat≠v:=of_decide_eq_true hg
      exact int_eq (by rw [hk,if_neg (fun hP=>hg hP.v)])
     ·have hV:rowG tb 0 b.le.toNat=v:=Classical.not_not.1 (of_decide_eq_false (show decide (rowG tb 0 b.le.toNat≠v)=false from hg))
      clear hg
      refine dwp_loopU (P:=Tryz.prog) (G:=GC) (k:=dk53_2) (b:=db53_2) (α:=Nat) (fun i=>[(63,DV.int .i64 (i))]) (fun _=>[(4,.box 5 (encB b))]) (fun i=>i≤ps.length∧∀ j,j < i→∀ f,f < lvN b→∀ t,t < lvN b→stpP b ps tb j f t) (fun i=>ps.length - i) 0 ⟨Nat.zero_le _,fun k hk=>absurd hk (Nat.not_lt_zero k)⟩ ?_
      conv=>whnf
      refine ⟨rfl,rfl,?_⟩
      conv=>whnf
      refine ⟨rfl,?_⟩
      intro i h1
      obtain ⟨h1,h2⟩:=h1
      conv=>whnf
      refine ⟨fun hc=>?_,fun hc=>?_⟩
      ·have hi:i < ps.length:=by have:=of_decide_eq_true hc;rw [e1] at this;omega
       clear hc
       have hq1:i < tb.length:=by omega
       have hq2:i+1 < tb.length:=by omega
       have hr1:=hok.l _ hq1
       have hr2:=hok.l _ hq2
       have e2:(((tb.getD i []).map (DV.int .i64)).length:Int)=lvN b:=by rw [List.length_map,hr1]
       have e3:(((tb.getD (i+1) []).map (DV.int .i64)).length:Int)=lvN b:=by rw [List.length_map,hr2]
       have ei:IntKind.i64.wrap ((i:Int)+1)=((i+1:Nat):Int):=wrap_succ i (by omega)
       have hpi:=hpp _ (getD_in 0 hi)
       conv=>whnf
       rw [getD_enc _ _ (i) 0 hi]
       refine ⟨idxA hi rfl,?_⟩
       conv=>whnf
       rw [getD_enc _ _ (i) [] hq1]
       refine ⟨idxA hq1 rfl,?_⟩
       conv=>whnf
       refine dwp_loopU (P:=Tryz.prog) (G:=GC) (k:=dk53_1) (b:=db53_1) (α:=Nat) (fun f=>[(73,DV.int .i64 (f))]) (fun _=>[(4,.box 5 (encB b))]) (fun f=>f≤lvN b∧∀ g,g < f→∀ t,t < lvN b→stpP b ps tb i g t) (fun f=>lvN b - f) 0 ⟨Nat.zero_le _,fun k hk=>absurd hk (Nat.not_lt_zero k)⟩ ?_
       conv=>whnf
       refine ⟨rfl,rfl,?_⟩
       conv=>whnf
       refine ⟨rfl,?_⟩
       intro f h3
       obtain ⟨h3,h4⟩:=h3
       conv=>whnf
       refine ⟨fun hc=>?_,fun hc=>?_⟩
       ·have hf:f < lvN b:=by have:=of_decide_eq_true hc;rw [e2] at this;omega
        clear hc
        have hl1:f < (tb.getD i []).length:=by omega
        conv=>whnf
        rw [getD_enc _ _ (f) 0 hl1]
        refine ⟨idxA hl1 rfl,?_⟩
        conv=>whnf
        rw [ei]
        rw [getD_enc _ _ (i+1) [] hq2]
        refine ⟨idxA hq2 rfl,?_⟩
        conv=>whnf
        refine dwp_loopU (P:=Tryz.prog) (G:=GC) (k:=dk53_0) (b:=db53_0) (α:=Nat) (fun t=>[(84,DV.int .i64 (t))]) (fun _=>[(4,.box 5 (encB b))]) (fun t=>t≤lvN b∧∀ u,u < t→stpP b ps tb i f u) (fun t=>lvN b - t) 0 ⟨Nat.zero_le _,fun k hk=>absurd hk (Nat.not_lt_zero k)⟩ ?_
        conv=>whnf
        refine ⟨rfl,rfl,?_⟩
        conv=>whnf
        refine ⟨rfl,?_⟩
        intro t h5
        obtain ⟨h5,h6⟩:=h5
        conv=>whnf
        refine ⟨fun hc=>?_,fun hc=>?_⟩
        ·have ht:t < lvN b:=by have:=of_decide_eq_true hc;rw [e3] at this;omega
         clear hc
         have hl2:t < (tb.getD (i+1) []).length:=by omega
         have q1:=c_far b f t (lev24 hb hf) (lev24 hb ht)
         have q2:=c_worth b hb (ps.getD i 0) f t hpi (lev24 hb hf) (lev24 hb ht)
         have b1:=wthI_bd hb hpi (lev24 hb hf) (lev24 hb ht)
         have b2:=hok.g (i+1) t hq2 ht
         have b3:IntKind.i64.wrap (wthI b (ps.getD i 0) f t+(tb.getD (i+1) []).getD t 0)=wthI b (ps.getD i 0) f t+rowG tb (i+1) t:=wrap_in (by unfold rowG at b2;omega) (by unfold rowG at b2;omega)
         conv=>whnf
         rw [getD_enc _ _ (t) 0 hl2]
         refine ⟨idxA hl2 rfl,?_⟩
         conv=>whnf
         cases hfr:farB b f t with
         |true =>
          rw [hfr] at q1
          repeat' (first
           |(refine ⟨fun hg=>?_,fun hg=>?_⟩<;>first|contradiction|(conv=>whnf))
           |(refine Or.inl ?_;conv=>whnf)
           |(refine ⟨_,q1 ..,?_⟩;conv=>whnf)
           |(refine And.intro ?_ ?_;kernel_rfl;conv=>whnf))
          rw [wrap_succ t (by omega)]
          exact ⟨t+1,rfl,rfl,rfl,⟨ht,forall_succ h6 (fun hh=>by rw [hfr] at hh;cases hh)⟩,by omega⟩
         |false =>
          rw [hfr] at q1
          repeat' (first
           |(refine ⟨fun hg=>?_,fun hg=>?_⟩<;>first|contradiction|(conv=>whnf))
           |(refine Or.inl ?_;conv=>whnf)
           |(refine ⟨_,q1 ..,?_⟩;conv=>whnf)
           |(refine ⟨_,q2 ..,?_⟩;conv=>whnf)
           |(refine And.intro ?_ ?_;kernel_rfl;conv=>whnf))
          ·have hg:=of_decide_eq_true hg
           rw [b3] at hg
           exact int_eq (by rw [hk,if_neg (fun hP=>hP.s i hi f hf t ht hfr hg)])
          ·have hg:=of_decide_eq_false hg
           rw [b3] at hg
           rw [wrap_succ t (by omega)]
           exact ⟨t+1,rfl,rfl,rfl,⟨ht,forall_succ h6 (fun _=>hg)⟩,by omega⟩
        ·have ht:t=lvN b:=by have:=of_decide_eq_false hc;rw [e3] at this;omega
         clear hc
         subst ht
         conv=>whnf
         rw [wrap_succ f (by omega)]
         exact ⟨f+1,rfl,rfl,rfl,⟨hf,forall_succ h4 h6⟩,by omega⟩
       ·have hf:f=lvN b:=by have:=of_decide_eq_false hc;rw [e2] at this;omega
        clear hc
        subst hf
        conv=>whnf
        rw [wrap_succ i (by omega)]
        exact ⟨i+1,rfl,rfl,rfl,⟨hi,forall_succ h2 h4⟩,by omega⟩
      ·have hi:i=ps.length:=by have:=of_decide_eq_false hc;rw [e1] at this;omega
       clear hc
       subst hi
       conv=>whnf
       exact int_eq (by rw [hk,if_pos ⟨hZ,h2,hV⟩])
end Sh

namespace Sh
open Go Go.Proofs
end Sh

namespace Sh
open Go Go.Proofs
theorem c_paid (n:Int) (h0 : -200000000000≤n) (h1:n≤200000000000):PC 123 [DV.int .i64 (n)] (.agg [DV.int .i64 (n / 1000),DV.int .i64 (n % 1000)]):=by
 have k1:=paid_eq n
 have k2:=paid_div n
 have hm:0≤n % 1000∧n % 1000≤999:=by omega
 have hd : -200000001≤n / 1000∧n / 1000≤200000000:=by omega
 refine pureCall_ofR dh123 rfl ?_
 conv=>whnf
 refine ⟨by decide,?_⟩
 conv=>whnf
 refine ⟨fun hg=>?_,fun hg=>?_⟩
 ·have hg:=of_decide_eq_true hg
  rw [if_pos hg] at k1
  conv=>whnf
  refine ⟨by decide,?_⟩
  conv=>whnf
  rw [k1,wrap_in (n:=n % 1000) (by omega) (by omega),wrap_in (n:=n - n % 1000) (by omega) (by omega),k2,wrap_in (n:=n / 1000) (by omega) (by omega)]
  rfl
 ·have hg:=of_decide_eq_false hg
  rw [if_neg hg] at k1
  conv=>whnf
  refine ⟨by decide,?_⟩
  conv=>whnf
  rw [k1,wrap_in (n:=n - n % 1000) (by omega) (by omega),k2,wrap_in (n:=n / 1000) (by omega) (by omega)]
  rfl
def stlS (u p:List Int) (r:Int):List Int×Int×Int:=if stlE u p r≠0 then ([],0,stlE u p r) else (payL u p r u.length,rstN u p r u.length,0)
theorem c_Settled (u p:List Int) (r:Int) (hu:u.length < 1073741824) (hp:p.length < 1073741824):PC 63 [iL u,iL p,DV.int .i64 (r)] (.tuple [iL (stlS u p r).1,DV.int .i64 ((stlS u p r).2.1),DV.int .i64 ((stlS u p r).2.2)]):=by
 have e0:∀ l:List Int,((l.map (DV.int .i64)).length:Int)=l.length:=by simp
 have k1:=c_mappedP p hp
 have k2:=c_first (p.map prE) (by simp;omega)
 refine pureCall_ofR dh63 rfl ?_
 conv=>whnf
 repeat' (first
  |(refine ⟨fun hg=>?_,fun hg=>?_⟩<;>first|contradiction|(conv=>whnf))
  |(refine Or.inl ?_;conv=>whnf)
  |(refine ⟨_,c_checkDelivery u hu,?_⟩;conv=>whnf)
  |(refine ⟨_,k1,?_⟩;conv=>whnf)
  |(refine ⟨_,k2,?_⟩;conv=>whnf)
  |(refine ⟨_,c_when ..,?_⟩;conv=>whnf)
  |(refine ⟨_,c_within ..,?_⟩;conv=>whnf)
  |(refine ⟨_,c_first [_,_,_,_] (by simp),?_⟩;conv=>whnf)
  |(refine And.intro ?_ ?_;kernel_rfl;conv=>whnf))
 ·have hg:=of_decide_eq_true hg
  rw [e0,e0] at hg ⊢
  have hg:stlE u p r≠0:=hg
  rw [stlS,if_pos hg];rfl
 ·have hg:=of_decide_eq_false hg
  rw [e0,e0] at hg
  have hg:¬ stlE u p r≠0:=hg
  have hok:=stlE_ok (Classical.not_not.1 hg)
  have hv:stlS u p r=(payL u p r u.length,rstN u p r u.length,0):=by rw [stlS,if_neg hg]
  rw [hv]
  clear hg hv k1 k2
  have hn1:=hok.n1
  have hnn:=hok.n
  refine dwp_loopU (P:=Tryz.prog) (G:=GC) (k:=dk63_0) (b:=db63_0) (α:=Nat) (fun i=>[(2,DV.int .i64 (rstN u p r i)),(10,.own 10 0 (iD (payL u p r i)).length (iD (payL u p r i)).length),(34,DV.int .i64 (i))]) (fun i=>[(10,.row 1 (iD (payL u p r i)) false)]) (fun i=>i≤u.length) (fun i=>u.length - i) 0 (Nat.zero_le _) ?_
  conv=>whnf
  refine ⟨rfl,rfl,?_⟩
  conv=>whnf
  refine ⟨rfl,?_⟩
  intro i h1
  conv=>whnf
  refine ⟨fun hb=>?_,fun hb=>?_⟩
  ·have hi:i < u.length:=by have:=of_decide_eq_true hb;rw [e0] at this;omega
   have hi2:i < p.length:=by omega
   clear hb
   have b1:=hok.at hi
   have b2:=rstN_bd hok i
   have hs:iD (payL u p r (i+1))=iD (payL u p r i)++[DV.int .i64 (dueN u p r i / 1000)]:=by rw [payL_succ];unfold iD;rw [List.map_append];rfl
   conv=>whnf
   rw [getD_enc _ _ (i) 0 hi]
   refine ⟨idxA hi rfl,?_⟩
   conv=>whnf
   rw [getD_enc _ _ (i) 0 hi2]
   refine ⟨idxA hi2 rfl,?_⟩
   conv=>whnf
   rw [wrap_in (n:=u.getD i 0 * p.getD i 0) (by omega) (by omega),wrap_in (by omega) (by omega)]
   refine .inl ?_
   conv=>whnf
   refine ⟨_,c_paid _ (by omega) (by omega),?_⟩
   conv=>whnf
   have hlen:(iD (payL u p r i)).length=i:=by rw [iD_len,payL_len]
   refine ⟨fun hg=>?_,fun hg=>?_⟩
   ·clear hg
    conv=>whnf
    refine ⟨⟨by decide,by decide⟩,?_⟩
    conv=>whnf
    refine ⟨⟨rfl,rfl,rfl,by rw [hlen];show i+1≤_;omega,fun e he=>by simp at he;subst he;rfl⟩,?_⟩
    conv=>whnf
    refine ⟨⟨by decide,by decide⟩,?_⟩
    conv=>whnf
    rw [wrap_succ i (by omega)]
    refine ⟨i+1,rfl,?_,?_,hi,by omega⟩
    ·rw [hs];rfl
    ·rw [hs];rfl
   ·have hq:dueN u p r i / 1000=0:=by
     have hg2:(!(decide (dueN u p r i / 1000=0) && (decide (dueN u p r i % 1000=0) && true)))=false:=hg
     rw [Bool.not_eq_false',Bool.and_eq_true] at hg2
     exact of_decide_eq_true hg2.1
    rw [hq] at hs
    clear hg
    conv=>whnf
    refine ⟨⟨rfl,rfl,rfl,by rw [hlen];show i+1≤_;omega,fun e he=>by simp at he;subst he;rfl⟩,?_⟩
    conv=>whnf
    refine ⟨⟨by decide,by decide⟩,?_⟩
    conv=>whnf
    rw [wrap_succ i (by omega)]
    refine ⟨i+1,rfl,?_,?_,hi,by omega⟩
    ·rw [hs];rfl
    ·rw [hs];rfl
  ·have hi:i=u.length:=by have:=of_decide_eq_false hb;rw [e0] at this;omega
   clear hb
   conv=>whnf
   rw [hi]
   refine ⟨rfl,?_⟩
   show DV.tuple [DV.list (window (iD (payL u p r u.length)) 0 (iD (payL u p r u.length)).length),_,_]=_
   rw [window_full];rfl
end Sh

namespace Sh
open Go Go.Proofs
def sOf:List Of:=[⟨[97],0,30,500⟩,⟨[98],0,20,400⟩,⟨[99],1,50,-100⟩]
def sBa:Ba:=⟨4,2,500,10,1⟩
def encPn (ps ls:List Int):DV:=.agg [iL ps,iL ls]
def encTv (tb:List (List Int)) (v:Int):DV:=.agg [iLL tb,DV.int .i64 (v)]
def encPd (u p:List Int) (r:Int):DV:=.agg [iL u,iL p,DV.int .i64 (r)]
theorem l_offers:PC 79 [] (ofsV sOf):=by
 refine pureCall_ofR dh79 rfl ?_
 conv=>whnf
 rfl
theorem l_store:PC 80 [] (encB sBa):=by
 refine pureCall_ofR dh80 rfl ?_
 conv=>whnf
 rfl
theorem l_to (a b:Int):PC 78 [DV.int .i64 (a),DV.int .i64 (b)] (encV ⟨a,b⟩):=by
 refine pureCall_ofR dh78 rfl ?_
 conv=>whnf
 rfl
theorem l_told (l:List Of) (hl:l.length < 1073741824):PC 76 [.list (l.map encO)] (.list (l.map encO)):=by
 have e0:((l.map encO).length:Int)=l.length:=by simp
 refine pureCall_ofR dh76 rfl ?_
 conv=>whnf
 refine dwp_loopU (P:=Tryz.prog) (G:=GC) (k:=dk76_0) (b:=db76_0) (α:=Nat) (fun i=>[(3,.own 3 0 ((l.take i).map encO).length ((l.take i).map encO).length),(8,DV.int .i64 (i))]) (fun i=>[(3,.row 4 ((l.take i).map encO) false)]) (fun i=>i≤l.length) (fun i=>l.length - i) 0 (Nat.zero_le _) ?_
 conv=>whnf
 refine ⟨rfl,rfl,?_⟩
 conv=>whnf
 refine ⟨rfl,?_⟩
 intro i h1
 conv=>whnf
 refine ⟨fun hb=>?_,fun hb=>?_⟩
 ·have hi:i < l.length:=by simpa using hb
  clear hb
  have hs:(l.take (i+1)).map encO=(l.take i).map encO++[encO (l.getD i O0)]:=by rw [take_snoc l i O0 hi,List.map_append];rfl
  have hln:((l.take i).map encO).length=i:=by simp;omega
  generalize hR':(l.take (i+1)).map encO=R' at *
  generalize hR:(l.take i).map encO=R at *
  conv=>whnf
  rw [getD_enc _ _ (i) O0 hi]
  refine ⟨idxA hi rfl,?_⟩
  conv=>whnf
  refine ⟨⟨rfl,rfl,rfl,by rw [hln];simp;omega,fun e he=>by simp at he;subst he;rfl⟩,?_⟩
  conv=>whnf
  rw [wrap_succ i (by omega)]
  refine ⟨i+1,rfl,?_,?_,hi,by omega⟩
  ·rw [hR',hs];rfl
  ·rw [hR',hs];rfl
 ·have hi:i=l.length:=by have:=of_decide_eq_false hb;rw [e0] at this;omega
  clear hb
  rw [hi,List.take_length]
  conv=>whnf
  refine ⟨rfl,?_⟩
  rw [window_full]
  first|rfl|(show DV.list _=_;rfl)
theorem r_SameOffers (l:List Of) (h:l.length < 1073741824):PC 75 [ofsV l,ofsV l] (.bool true):=by
 have e0:((l.map encO).length:Int)=l.length:=by simp
 refine pureCall_ofR dh75 rfl ?_
 conv=>whnf
 refine ⟨fun hg=>?_,fun hg=>?_⟩
 ·have:=of_decide_eq_true hg;exact absurd rfl this
 clear hg
 conv=>whnf
 refine dwp_loopU (P:=Tryz.prog) (G:=GC) (k:=dk75_0) (b:=db75_0) (α:=Nat) (fun i=>[(5,DV.int .i64 (i))]) (fun _=>[]) (fun i=>i≤l.length) (fun i=>l.length - i) 0 (Nat.zero_le _) ?_
 conv=>whnf
 refine ⟨rfl,rfl,?_⟩
 conv=>whnf
 refine ⟨rfl,?_⟩
 intro i h1
 conv=>whnf
 refine ⟨fun hc=>?_,fun hc=>?_⟩
 ·have hi:i < l.length:=by have:=of_decide_eq_true hc;rw [e0] at this;omega
  clear hc
  conv=>whnf
  repeat' (first
   |(refine ⟨fun hg=>?_,fun hg=>?_⟩<;>first|contradiction|(conv=>whnf))
   |(refine Or.inl ?_;conv=>whnf)
   |(rw [getD_enc _ _ i O0 hi];refine ⟨idxA hi rfl,?_⟩;conv=>whnf)
   |(refine And.intro ?_ ?_;kernel_rfl;conv=>whnf))
  ·exfalso;revert hg;simp
  ·rw [wrap_succ i (by omega)]
   exact ⟨i+1,rfl,rfl,rfl,hi,by omega⟩
 ·clear hc
  conv=>whnf
  rfl
end Sh

namespace Sh
open Go
def dc13 : DFunc := ⟨337,0,[.tmp 0],sq [oq 0 (.mov (bq false))] (sq [oq 48 (.call (.func 78) [iq 50,iq 60]),oq 49 (.call (.func 78) [iq 40,iq 60]),oq 50 (.lit true 2 2 (.agg [.int .i64 0,.int .i64 0]) [(0,(.tmp 48)),(1,(.tmp 49))]),oq 51 (.call (.func 79) []),oq 52 (.call (.func 14) [.tmp 50,.tmp 51]),mq 47 52,oq 53 (.extract (.tmp 47) 0),oq 54 (.extract (.tmp 47) 1),oq 55 (.extract (.tmp 47) 2),mq 1 53,mq 2 54,mq 3 55] (sq [oq 57 (.lit true 1 2 (.int .i64 0) [(0,(iq 45)),(1,(iq 60))]),oq 58 (.lit true 1 2 (.int .i64 0) [(0,(iq 100)),(1,(iq 55))]),oq 59 (.call (.func 17) [.tmp 57,.tmp 58]),mq 56 59,oq 60 (.extract (.tmp 56) 0),oq 61 (.extract (.tmp 56) 1),mq 4 60,mq 5 61] (sq [mq 63 4,oq 64 (.call (.func 79) []),oq 65 (.call (.func 29) [.tmp 63,.tmp 64]),mq 62 65,oq 66 (.extract (.tmp 62) 0),oq 67 (.extract (.tmp 62) 1),mq 6 66,mq 7 67] (sq [oq 69 (.lit true 1 2 (.int .i64 0) [(0,(iq 45)),(1,(iq 55))]),oq 70 (.call (.func 79) []),oq 71 (.call (.func 30) [.tmp 69,.tmp 70]),mq 68 71,oq 72 (.extract (.tmp 68) 0),oq 73 (.extract (.tmp 68) 1),mq 8 72,mq 9 73] (sq [oq 75 (.lit true 1 2 (.int .i64 0) [(0,(iq 45)),(1,(iq 55))]),oq 76 (.call (.func 79) []),oq 77 (.call (.func 31) [.tmp 75,.tmp 76]),mq 74 77,oq 78 (.extract (.tmp 74) 0),oq 79 (.extract (.tmp 74) 1),mq 10 78,mq 11 79] (sq [oq 81 (.lit true 1 2 (.int .i64 0) [(0,(iq 45)),(1,(iq 55))]),oq 82 (.call (.func 79) []),oq 83 (.call (.func 32) [.tmp 81,.tmp 82]),mq 80 83,oq 84 (.extract (.tmp 80) 0),oq 85 (.extract (.tmp 80) 1),mq 12 84,mq 13 85] (sq [oq 87 (.call (.func 80) []),oq 88 (.call (.func 37) [.tmp 87,iq 100,iq 1,iq 3]),mq 86 88,oq 89 (.extract (.tmp 86) 0),oq 90 (.extract (.tmp 86) 1),mq 14 89,mq 15 90] (sq [oq 92 (.call (.func 80) []),oq 93 (.call (.func 37) [.tmp 92,iq 100,iq 3,iq 1]),mq 91 93,oq 94 (.extract (.tmp 91) 0),oq 95 (.extract (.tmp 91) 1),mq 16 94,mq 17 95] (sq [oq 97 (.call (.func 80) []),oq 98 (.call (.func 37) [.tmp 97,iq 100,iq 1,iq 0]),mq 96 98,oq 99 (.extract (.tmp 96) 0),oq 100 (.extract (.tmp 96) 1),mq 18 99,mq 19 100] (sq [oq 102 (.call (.func 80) []),oq 103 (.call (.func 37) [.tmp 102,iq 100,iq 0,iq 3]),mq 101 103,oq 104 (.extract (.tmp 101) 0),oq 105 (.extract (.tmp 101) 1),mq 20 104,mq 21 105] (.seq (sq [mq 106 3,mq 107 5,oq 108 (.bin .add (.tmp 106) (.tmp 107)),mq 109 7,oq 110 (.bin .add (.tmp 108) (.tmp 109)),mq 111 9,oq 112 (.bin .add (.tmp 110) (.tmp 111)),mq 113 11,oq 114 (.bin .add (.tmp 112) (.tmp 113)),mq 115 13,oq 116 (.bin .add (.tmp 114) (.tmp 115)),mq 117 15,oq 118 (.bin .add (.tmp 116) (.tmp 117)),mq 119 17,oq 120 (.bin .add (.tmp 118) (.tmp 119)),mq 121 19,oq 122 (.bin .add (.tmp 120) (.tmp 121)),oq 123 (.bin .neq (.tmp 122) (iq 0)),mq 124 123,gq 125 (.mov (.tmp 21)) 124 false,gq 126 (.bin .neq (.tmp 125) (iq 21)) 124 false,oq 127 (.pick (.tmp 124) (bq true) (.tmp 126)),mq 128 127,gq 129 (.mov (.tmp 1)) 128 false,oq 130 (.pick (.tmp 128) (bq true) (.tmp 129)),mq 131 130,gq 132 (.mov (.tmp 2)) 131 false,gq 133 (.un .not (.tmp 132)) 131 false,oq 134 (.pick (.tmp 131) (bq true) (.tmp 133)),mq 135 134,gq 136 (.mov (.tmp 4)) 135 false,gq 137 (.lit true 1 2 (.int .i64 0) [(0,(iq 45)),(1,(iq 55))]) 135 false,gq 138 (.call (.func 28) [.tmp 136,.tmp 137]) 135 false,gq 139 (.un .not (.tmp 138)) 135 false,oq 140 (.pick (.tmp 135) (bq true) (.tmp 139)),mq 141 140,gq 142 (.mov (.tmp 6)) 141 false,gq 143 (.lit true 1 3 (.int .i64 0) [(0,(iq 30)),(1,(iq 15)),(2,(iq 50))]) 141 false,gq 144 (.call (.func 28) [.tmp 142,.tmp 143]) 141 false,gq 145 (.un .not (.tmp 144)) 141 false,oq 146 (.pick (.tmp 141) (bq true) (.tmp 145)),mq 147 146,gq 148 (.mov (.tmp 8)) 147 false,gq 149 (.lit true 1 2 (.int .i64 0) [(0,(iq 0)),(1,(iq 5))]) 147 false,gq 150 (.call (.func 28) [.tmp 148,.tmp 149]) 147 false,gq 151 (.un .not (.tmp 150)) 147 false,oq 152 (.pick (.tmp 147) (bq true) (.tmp 151)),mq 153 152,gq 154 (.mov (.tmp 10)) 153 false,gq 155 (.lit true 1 2 (.int .i64 0) [(0,(iq (-5))),(1,(iq 5))]) 153 false,gq 156 (.call (.func 28) [.tmp 154,.tmp 155]) 153 false,gq 157 (.un .not (.tmp 156)) 153 false,oq 158 (.pick (.tmp 153) (bq true) (.tmp 157)),mq 159 158,gq 160 (.mov (.tmp 12)) 159 false,gq 161 (.bin .neq (.tmp 160) (iq 16000)) 159 false,oq 162 (.pick (.tmp 159) (bq true) (.tmp 161)),mq 163 162,gq 164 (.mov (.tmp 14)) 163 false,gq 165 (.bin .neq (.tmp 164) (iq (-200))) 163 false,oq 166 (.pick (.tmp 163) (bq true) (.tmp 165)),mq 167 166,gq 168 (.mov (.tmp 16)) 167 false,gq 169 (.bin .neq (.tmp 168) (iq 80)) 167 false,oq 170 (.pick (.tmp 167) (bq true) (.tmp 169)),mq 171 170,gq 172 (.mov (.tmp 18)) 171 false,gq 173 (.bin .neq (.tmp 172) (iq (-10))) 171 false,oq 174 (.pick (.tmp 171) (bq true) (.tmp 173))] (.cond (.tmp 174) (sq [oq 0 (.mov (bq false))] .ret) .skip)) (sq [oq 176 (.call (.func 80) []),oq 177 (.lit true 1 2 (.int .i64 0) [(0,(iq 10)),(1,(iq 300))]),oq 178 (.call (.func 51) [.tmp 176,.tmp 177]),mq 175 178,oq 179 (.extract (.tmp 175) 0),oq 180 (.extract (.tmp 175) 1),oq 181 (.extract (.tmp 175) 2),mq 22 179,mq 23 180,mq 24 181] (sq [oq 183 (.call (.func 80) []),oq 184 (.lit true 1 2 (.int .i64 0) [(0,(iq (-10))),(1,(iq 0))]),oq 185 (.call (.func 51) [.tmp 183,.tmp 184]),mq 182 185,oq 186 (.extract (.tmp 182) 0),oq 187 (.extract (.tmp 182) 1),oq 188 (.extract (.tmp 182) 2),mq 25 186,mq 26 187,mq 27 188] (sq [oq 190 (.call (.func 80) []),oq 191 (.lit true 1 2 (.int .i64 0) [(0,(iq 10)),(1,(iq 300))]),oq 192 (.call (.func 52) [.tmp 190,.tmp 191]),mq 189 192,oq 193 (.extract (.tmp 189) 0),oq 194 (.extract (.tmp 189) 1),mq 28 193,mq 29 194] (sq [oq 196 (.call (.func 80) []),oq 197 (.lit true 1 2 (.int .i64 0) [(0,(iq 10)),(1,(iq 300))]),oq 198 (.lit true 1 2 (.int .i64 0) [(0,(iq 3)),(1,(iq 1))]),oq 199 (.call (.func 39) [.tmp 196,.tmp 197,.tmp 198]),mq 195 199,oq 200 (.extract (.tmp 195) 0),oq 201 (.extract (.tmp 195) 1),mq 30 200,mq 31 201] (sq [oq 203 (.call (.func 80) []),oq 204 (.lit true 1 2 (.int .i64 0) [(0,(iq 10)),(1,(iq 300))]),oq 205 (.lit true 1 2 (.int .i64 0) [(0,(iq 3)),(1,(iq 1))]),oq 206 (.call (.func 40) [.tmp 203,.tmp 204,.tmp 205]),mq 202 206,oq 207 (.extract (.tmp 202) 0),oq 208 (.extract (.tmp 202) 1),mq 32 207,mq 33 208] (sq [oq 209 (.call (.func 80) []),oq 210 (.lit true 1 2 (.int .i64 0) [(0,(iq 10)),(1,(iq 300))]),mq 211 28,oq 212 (.call (.func 53) [.tmp 209,.tmp 210,.tmp 211,iq 270]),mq 34 212] (sq [oq 213 (.call (.func 80) []),oq 214 (.lit true 1 2 (.int .i64 0) [(0,(iq 10)),(1,(iq 300))]),mq 215 28,oq 216 (.call (.func 53) [.tmp 213,.tmp 214,.tmp 215,iq 271]),mq 35 216] (sq [oq 218 (.build [.int .i64 0,.int .i64 0] [(1,(1,(iq 500)))]),oq 219 (.build [.int .i64 0,.int .i64 0] [(0,(1,(iq 2))),(1,(1,(iq (-100))))]),oq 220 (.lit true 2 2 (.agg [.int .i64 0,.int .i64 0]) [(0,(.tmp 218)),(1,(.tmp 219))]),oq 221 (.call (.func 61) [.tmp 220,iq 4]),mq 217 221,oq 222 (.extract (.tmp 217) 0),oq 223 (.extract (.tmp 217) 1),mq 36 222,mq 37 223] (sq [oq 225 (.lit true 1 4 (.int .i64 0) [(0,(iq 3)),(1,(iq 1)),(2,(iq 5)),(3,(iq 2))]),oq 226 (.lit true 1 4 (.int .i64 0) [(0,(iq 500)),(1,(iq 500)),(2,(iq (-100))),(3,(iq (-100)))]),oq 227 (.call (.func 63) [.tmp 225,.tmp 226,iq 200]),mq 224 227,oq 228 (.extract (.tmp 224) 0),oq 229 (.extract (.tmp 224) 1),oq 230 (.extract (.tmp 224) 2),mq 38 228,mq 39 229,mq 40 230] (sq [oq 232 (.call (.func 79) []),oq 233 (.call (.func 71) [.tmp 232]),mq 231 233,oq 234 (.extract (.tmp 231) 0),oq 235 (.extract (.tmp 231) 1),mq 41 234,mq 42 235] (sq [mq 237 41,oq 238 (.call (.func 72) [.tmp 237]),mq 236 238,oq 239 (.extract (.tmp 236) 0),oq 240 (.extract (.tmp 236) 1),oq 241 (.extract (.tmp 236) 2),mq 43 239,mq 44 240,mq 45 241] (sq [oq 242 (.call (.func 80) []),oq 243 (.lit true 1 2 (.int .i64 0) [(0,(iq 10)),(1,(iq 300))]),oq 244 (.lit true 1 2 (.int .i64 0) [(0,(iq 3)),(1,(iq 0))]),oq 245 (.call (.func 38) [.tmp 242,.tmp 243,.tmp 244]),mq 46 245] (sq [mq 246 24,mq 247 27,oq 248 (.bin .add (.tmp 246) (.tmp 247)),mq 249 29,oq 250 (.bin .add (.tmp 248) (.tmp 249)),mq 251 31,oq 252 (.bin .add (.tmp 250) (.tmp 251)),mq 253 33,oq 254 (.bin .add (.tmp 252) (.tmp 253)),mq 255 34,oq 256 (.bin .add (.tmp 254) (.tmp 255)),mq 257 37,oq 258 (.bin .add (.tmp 256) (.tmp 257)),mq 259 40,oq 260 (.bin .add (.tmp 258) (.tmp 259)),mq 261 42,oq 262 (.bin .add (.tmp 260) (.tmp 261)),mq 263 45,oq 264 (.bin .add (.tmp 262) (.tmp 263)),oq 265 (.bin .eql (.tmp 264) (iq 0)),mq 266 265,gq 267 (.mov (.tmp 35)) 266 true,gq 268 (.bin .eql (.tmp 267) (iq 19)) 266 true,oq 269 (.pick (.tmp 266) (.tmp 268) (bq false)),mq 270 269,gq 271 (.mov (.tmp 46)) 270 true,gq 272 (.bin .eql (.tmp 271) (iq 21)) 270 true,oq 273 (.pick (.tmp 270) (.tmp 272) (bq false)),mq 274 273,gq 275 (.mov (.tmp 22)) 274 true,gq 276 (.lit true 1 2 (.int .i64 0) [(0,(iq 2)),(1,(iq 0))]) 274 true,gq 277 (.call (.func 28) [.tmp 275,.tmp 276]) 274 true,oq 278 (.pick (.tmp 274) (.tmp 277) (bq false)),mq 279 278,gq 280 (.mov (.tmp 23)) 279 true,gq 281 (.bin .eql (.tmp 280) (iq 270)) 279 true,oq 282 (.pick (.tmp 279) (.tmp 281) (bq false)),mq 283 282,gq 284 (.mov (.tmp 25)) 283 true,gq 285 (.lit true 1 2 (.int .i64 0) [(0,(iq 3)),(1,(iq 3))]) 283 true,gq 286 (.call (.func 28) [.tmp 284,.tmp 285]) 283 true,oq 287 (.pick (.tmp 283) (.tmp 286) (bq false)),mq 288 287,gq 289 (.mov (.tmp 26)) 288 true,gq 290 (.bin .eql (.tmp 289) (iq 20)) 288 true,oq 291 (.pick (.tmp 288) (.tmp 290) (bq false)),mq 292 291,gq 293 (.mov (.tmp 28)) 292 true,gq 294 (.lit true 1 5 (.int .i64 0) [(0,(iq 260)),(1,(iq 270)),(2,(iq 280)),(3,(iq 280)),(4,(iq 280))]) 292 true,gq 295 (.lit true 1 5 (.int .i64 0) [(0,(iq 0)),(1,(iq 0)),(2,(iq 280)),(3,(iq 280)),(4,(iq 280))]) 292 true,gq 296 (.lit true 1 5 (.int .i64 0) [(0,(iq 0)),(1,(iq 0)),(2,(iq 0)),(3,(iq 0)),(4,(iq 0))]) 292 true,gq 297 (.lit true 1 3 (.full []) [(0,(.tmp 294)),(1,(.tmp 295)),(2,(.tmp 296))]) 292 true,gq 298 (.call (.func 60) [.tmp 293,.tmp 297]) 292 true,oq 299 (.pick (.tmp 292) (.tmp 298) (bq false)),mq 300 299,gq 301 (.mov (.tmp 30)) 300 true,gq 302 (.bin .eql (.tmp 301) (iq 260)) 300 true,oq 303 (.pick (.tmp 300) (.tmp 302) (bq false)),mq 304 303,gq 305 (.mov (.tmp 32)) 304 true,gq 306 (.bin .eql (.tmp 305) (iq 2)) 304 true,oq 307 (.pick (.tmp 304) (.tmp 306) (bq false)),mq 308 307,gq 309 (.mov (.tmp 36)) 308 true,gq 310 (.lit true 1 4 (.int .i64 0) [(0,(iq 500)),(1,(iq 500)),(2,(iq (-100))),(3,(iq (-100)))]) 308 true,gq 311 (.call (.func 28) [.tmp 309,.tmp 310]) 308 true,oq 312 (.pick (.tmp 308) (.tmp 311) (bq false)),mq 313 312,gq 314 (.mov (.tmp 38)) 313 true,gq 315 (.lit true 1 4 (.int .i64 0) [(0,(iq 1)),(1,(iq 1)),(2,(iq (-1))),(3,(iq 0))]) 313 true,gq 316 (.call (.func 28) [.tmp 314,.tmp 315]) 313 true,oq 317 (.pick (.tmp 313) (.tmp 316) (bq false)),mq 318 317,gq 319 (.mov (.tmp 39)) 318 true,gq 320 (.bin .eql (.tmp 319) (iq 500)) 318 true,oq 321 (.pick (.tmp 318) (.tmp 320) (bq false)),mq 322 321,gq 323 (.mov (.tmp 41)) 322 true,gq 324 (.bin .eql (.tmp 323) (.const (.string ⟨#[111,102,102,101,114,32,97,32,48,32,51,48,32,53,48,48,10,111,102,102,101,114,32,98,32,48,32,50,48,32,52,48,48,10,111,102,102,101,114,32,99,32,49,32,53,48,32,45,49,48,48,10]⟩))) 322 true,oq 325 (.pick (.tmp 322) (.tmp 324) (bq false)),mq 326 325,gq 327 (.mov (.tmp 44)) 326 true,gq 328 (.bin .eql (.tmp 327) (iq 0)) 326 true,oq 329 (.pick (.tmp 326) (.tmp 328) (bq false)),mq 330 329,gq 331 (.mov (.tmp 43)) 330 true,gq 332 (.call (.func 76) [.tmp 331]) 330 true,gq 333 (.call (.func 79) []) 330 true,gq 334 (.call (.func 76) [.tmp 333]) 330 true,gq 335 (.call (.func 75) [.tmp 332,.tmp 334]) 330 true,oq 336 (.pick (.tmp 330) (.tmp 335) (bq false)),mq 0 336] .ret))))))))))))))))))))))))⟩
theorem dh13:cProg Go.Proofs.Tryz.prog ⟨[],[],[50,57,58,69,75,81,137,143,149,155,177,184,191,197,198,204,205,210,214,220,225,226,243,244,276,285,294,295,296,297,310,315]⟩ 13=some dc13:=by kernel_rfl
end Sh

set_option maxHeartbeats 8000000
namespace Sh
open Go Go.Proofs
theorem aw1:PC 14 [ivV [⟨50,60⟩,⟨40,60⟩],ofsV sOf] (.tuple [.bool false,.bool true,DV.int .i64 (0)]):=by
 have h:=c_Covered [⟨50,60⟩,⟨40,60⟩] sOf (by decide) (by decide) (by intro o ho;simp only [sOf,List.mem_cons,List.not_mem_nil,or_false] at ho;rcases ho with rfl|rfl|rfl<;>decide)
 rw [show DV.tuple [.bool (covS [⟨50,60⟩,⟨40,60⟩] sOf).1.1,.bool (covS [⟨50,60⟩,⟨40,60⟩] sOf).1.2,DV.int .i64 ((covS [⟨50,60⟩,⟨40,60⟩] sOf).2)]=DV.tuple [.bool false,.bool true,DV.int .i64 (0)] from by kernel_rfl] at h
 exact h
theorem aw2:PC 17 [iL [45,60],iL [100,55]] (.tuple [iL [45,55],DV.int .i64 (0)]):=by
 have h:=c_Curtailed [45,60] [100,55] (by decide) (by decide)
 rw [show DV.tuple [iL (cutS [45,60] [100,55]).1,DV.int .i64 ((cutS [45,60] [100,55]).2)]=DV.tuple [iL [45,55],DV.int .i64 (0)] from by kernel_rfl] at h
 exact h
theorem aw3:PC 29 [iL [45,55],ofsV sOf] (.tuple [iL [30,15,50],DV.int .i64 (0)]):=by
 have h:=c_Allotted [45,55] sOf (by decide) (by decide) (by intro o ho;simp only [sOf,List.mem_cons,List.not_mem_nil,or_false] at ho;rcases ho with rfl|rfl|rfl<;>decide)
 rw [show DV.tuple [iL (aloS [45,55] sOf).1,DV.int .i64 ((aloS [45,55] sOf).2)]=DV.tuple [iL [30,15,50],DV.int .i64 (0)] from by kernel_rfl] at h
 exact h
theorem aw4:PC 30 [iL [45,55],ofsV sOf] (.tuple [iL [0,5],DV.int .i64 (0)]):=by
 have h:=c_Rests [45,55] sOf (by decide) (by decide) (by intro o ho;simp only [sOf,List.mem_cons,List.not_mem_nil,or_false] at ho;rcases ho with rfl|rfl|rfl<;>decide)
 rw [show DV.tuple [iL (rstS [45,55] sOf).1,DV.int .i64 ((rstS [45,55] sOf).2)]=DV.tuple [iL [0,5],DV.int .i64 (0)] from by kernel_rfl] at h
 exact h
theorem aw5:PC 31 [iL [45,55],ofsV sOf] (.tuple [iL [-5,5],DV.int .i64 (0)]):=by
 have h:=c_Imbalances [45,55] sOf (by decide) (by decide) (by intro o ho;simp only [sOf,List.mem_cons,List.not_mem_nil,or_false] at ho;rcases ho with rfl|rfl|rfl<;>decide)
 rw [show DV.tuple [iL (imbS [45,55] sOf).1,DV.int .i64 ((imbS [45,55] sOf).2)]=DV.tuple [iL [-5,5],DV.int .i64 (0)] from by kernel_rfl] at h
 exact h
theorem aw6:PC 32 [iL [45,55],ofsV sOf] (.tuple [DV.int .i64 (16000),DV.int .i64 (0)]):=by
 have h:=c_Earned [45,55] sOf (by decide) (by decide) (by intro o ho;simp only [sOf,List.mem_cons,List.not_mem_nil,or_false] at ho;rcases ho with rfl|rfl|rfl<;>decide)
 rw [show DV.tuple [DV.int .i64 ((ernS [45,55] sOf).1),DV.int .i64 ((ernS [45,55] sOf).2)]=DV.tuple [DV.int .i64 (16000),DV.int .i64 (0)] from by kernel_rfl] at h
 exact h
theorem aw7:PC 37 [encB sBa,DV.int .i64 (100),DV.int .i64 (1),DV.int .i64 (3)] (.tuple [DV.int .i64 (-200),DV.int .i64 (0)]):=by
 have h:=c_Worth sBa 100 1 3
 rw [show DV.tuple [DV.int .i64 ((worthS sBa 100 1 3).1),DV.int .i64 ((worthS sBa 100 1 3).2)]=DV.tuple [DV.int .i64 (-200),DV.int .i64 (0)] from by kernel_rfl] at h
 exact h
theorem aw8:PC 37 [encB sBa,DV.int .i64 (100),DV.int .i64 (3),DV.int .i64 (1)] (.tuple [DV.int .i64 (80),DV.int .i64 (0)]):=by
 have h:=c_Worth sBa 100 3 1
 rw [show DV.tuple [DV.int .i64 ((worthS sBa 100 3 1).1),DV.int .i64 ((worthS sBa 100 3 1).2)]=DV.tuple [DV.int .i64 (80),DV.int .i64 (0)] from by kernel_rfl] at h
 exact h
theorem aw9:PC 37 [encB sBa,DV.int .i64 (100),DV.int .i64 (1),DV.int .i64 (0)] (.tuple [DV.int .i64 (-10),DV.int .i64 (0)]):=by
 have h:=c_Worth sBa 100 1 0
 rw [show DV.tuple [DV.int .i64 ((worthS sBa 100 1 0).1),DV.int .i64 ((worthS sBa 100 1 0).2)]=DV.tuple [DV.int .i64 (-10),DV.int .i64 (0)] from by kernel_rfl] at h
 exact h
theorem aw10:PC 37 [encB sBa,DV.int .i64 (100),DV.int .i64 (0),DV.int .i64 (3)] (.tuple [DV.int .i64 (0),DV.int .i64 (21)]):=by
 have h:=c_Worth sBa 100 0 3
 rw [show DV.tuple [DV.int .i64 ((worthS sBa 100 0 3).1),DV.int .i64 ((worthS sBa 100 0 3).2)]=DV.tuple [DV.int .i64 (0),DV.int .i64 (21)] from by kernel_rfl] at h
 exact h
theorem aw11:PC 51 [encB sBa,iL [10,300]] (.tuple [iL [2,0],DV.int .i64 (270),DV.int .i64 (0)]):=by
 have h:=c_Best sBa [10,300] (by decide)
 rw [show DV.tuple [iL (bestS sBa [10,300]).1,DV.int .i64 ((bestS sBa [10,300]).2.1),DV.int .i64 ((bestS sBa [10,300]).2.2)]=DV.tuple [iL [2,0],DV.int .i64 (270),DV.int .i64 (0)] from by kernel_rfl] at h
 exact h
theorem aw12:PC 51 [encB sBa,iL [-10,0]] (.tuple [iL [3,3],DV.int .i64 (20),DV.int .i64 (0)]):=by
 have h:=c_Best sBa [-10,0] (by decide)
 rw [show DV.tuple [iL (bestS sBa [-10,0]).1,DV.int .i64 ((bestS sBa [-10,0]).2.1),DV.int .i64 ((bestS sBa [-10,0]).2.2)]=DV.tuple [iL [3,3],DV.int .i64 (20),DV.int .i64 (0)] from by kernel_rfl] at h
 exact h
def sTb:List (List Int):=[[260,270,280,280,280],[0,0,280,280,280],[0,0,0,0,0]]
theorem aw13:PC 52 [encB sBa,iL [10,300]] (.tuple [iLL sTb,DV.int .i64 (0)]):=by
 have h:=c_Table sBa [10,300] (by decide)
 rw [show DV.tuple [iLL (tblS sBa [10,300]).1,DV.int .i64 ((tblS sBa [10,300]).2)]=DV.tuple [iLL sTb,DV.int .i64 (0)] from by kernel_rfl] at h
 exact h
theorem aw14:PC 39 [encB sBa,iL [10,300],iL [3,1]] (.tuple [DV.int .i64 (260),DV.int .i64 (0)]):=by
 have h:=c_Value sBa [10,300] [3,1] (by decide) (by decide)
 rw [show DV.tuple [DV.int .i64 ((valS sBa [10,300] [3,1]).1),DV.int .i64 ((valS sBa [10,300] [3,1]).2)]=DV.tuple [DV.int .i64 (260),DV.int .i64 (0)] from by kernel_rfl] at h
 exact h
theorem aw15:PC 40 [encB sBa,iL [10,300],iL [3,1]] (.tuple [DV.int .i64 (2),DV.int .i64 (0)]):=by
 have h:=c_Age sBa [10,300] [3,1] (by decide) (by decide)
 rw [show DV.tuple [DV.int .i64 ((ageS sBa [10,300] [3,1]).1),DV.int .i64 ((ageS sBa [10,300] [3,1]).2)]=DV.tuple [DV.int .i64 (2),DV.int .i64 (0)] from by kernel_rfl] at h
 exact h
theorem sTb_tab:tabT sBa [10,300]=sTb:=by kernel_rfl
theorem sTb_top:topI sBa [10,300]=270:=by kernel_rfl
theorem sBa_ok:OkB sBa:=chkBa_ok (by kernel_rfl)
theorem sTb_prv:prvP sBa [10,300] sTb 270:=by
 have:=tabT_prv sBa_ok (ps:=[10,300])
 rwa [sTb_tab,sTb_top] at this
theorem sTb_not:¬ prvP sBa [10,300] sTb 271:=fun h=>by
 have:=prv_value h sTb_prv
 omega
theorem aw16:PC 53 [encB sBa,iL [10,300],iLL sTb,DV.int .i64 (270)] (DV.int .i64 (0)):=by
 have h:=c_CheckTable sBa [10,300] sTb 270 (by decide) (by decide)
 rw [show chkTb sBa [10,300] sTb 270=0 by
  unfold chkTb
  rw [if_pos sTb_prv,show chkBP sBa [10,300]=0 by kernel_rfl,show frmE sBa [10,300] sTb=0 by kernel_rfl];rfl] at h
 exact h
theorem aw17:PC 53 [encB sBa,iL [10,300],iLL sTb,DV.int .i64 (271)] (DV.int .i64 (19)):=by
 have h:=c_CheckTable sBa [10,300] sTb 271 (by decide) (by decide)
 rw [show chkTb sBa [10,300] sTb 271=19 by
  unfold chkTb
  rw [if_neg sTb_not,show chkBP sBa [10,300]=0 by kernel_rfl,show frmE sBa [10,300] sTb=0 by kernel_rfl];rfl] at h
 exact h
theorem aw18:PC 61 [vrV [⟨0,500⟩,⟨2,-100⟩],DV.int .i64 (4)] (.tuple [iL [500,500,-100,-100],DV.int .i64 (0)]):=by
 have h:=c_Prices [⟨0,500⟩,⟨2,-100⟩] 4 (by decide)
 rw [show DV.tuple [iL (prsS [⟨0,500⟩,⟨2,-100⟩] 4).1,DV.int .i64 ((prsS [⟨0,500⟩,⟨2,-100⟩] 4).2)]=DV.tuple [iL [500,500,-100,-100],DV.int .i64 (0)] from by kernel_rfl] at h
 exact h
theorem aw19:PC 63 [iL [3,1,5,2],iL [500,500,-100,-100],DV.int .i64 (200)] (.tuple [iL [1,1,-1,0],DV.int .i64 (500),DV.int .i64 (0)]):=by
 have h:=c_Settled [3,1,5,2] [500,500,-100,-100] 200 (by decide) (by decide)
 rw [show DV.tuple [iL (stlS [3,1,5,2] [500,500,-100,-100] 200).1,DV.int .i64 ((stlS [3,1,5,2] [500,500,-100,-100] 200).2.1),DV.int .i64 ((stlS [3,1,5,2] [500,500,-100,-100] 200).2.2)]=DV.tuple [iL [1,1,-1,0],DV.int .i64 (500),DV.int .i64 (0)] from by kernel_rfl] at h
 exact h
def txO:List UInt8:=[111,102,102,101,114,32,97,32,48,32,51,48,32,53,48,48,10,111,102,102,101,114,32,98,32,48,32,50,48,32,52,48,48,10,111,102,102,101,114,32,99,32,49,32,53,48,32,45,49,48,48,10]
theorem aw20:PC 71 [ofsV sOf] (.tuple [.str txO,DV.int .i64 (0)]):=by
 have h:=c_Print sOf (by decide) (by intro o ho;simp only [sOf,List.mem_cons,List.not_mem_nil,or_false] at ho;rcases ho with rfl|rfl|rfl<;>decide)
 rw [show DV.tuple [.str (prtOs sOf).1,DV.int .i64 ((prtOs sOf).2)]=DV.tuple [.str txO,DV.int .i64 (0)] from by kernel_rfl] at h
 exact h
theorem aw21:PC 72 [.str txO] (.tuple [ofsV sOf,DV.int .i64 (0),DV.int .i64 (0)]):=by
 have h:=c_Parse txO (by decide)
 rw [show encPar (parOs txO)=DV.tuple [ofsV sOf,DV.int .i64 (0),DV.int .i64 (0)] from by kernel_rfl] at h
 exact h
theorem aw22:PC 38 [encB sBa,iL [10,300],iL [3,0]] (DV.int .i64 (21)):=by
 have h:=c_CheckPlan sBa [10,300] [3,0] (by decide) (by decide)
 rw [show planE sBa [10,300] [3,0]=21 from by kernel_rfl] at h
 exact h
theorem as1:PC 28 [iL [45,55],iL [45,55]] (.bool true):=by have:=q_SameInts [45,55] [45,55] (by decide);rwa [decide_eq_true rfl] at this
theorem as2:PC 28 [iL [30,15,50],iL [30,15,50]] (.bool true):=by have:=q_SameInts [30,15,50] [30,15,50] (by decide);rwa [decide_eq_true rfl] at this
theorem as3:PC 28 [iL [0,5],iL [0,5]] (.bool true):=by have:=q_SameInts [0,5] [0,5] (by decide);rwa [decide_eq_true rfl] at this
theorem as4:PC 28 [iL [-5,5],iL [-5,5]] (.bool true):=by have:=q_SameInts [-5,5] [-5,5] (by decide);rwa [decide_eq_true rfl] at this
theorem as5:PC 28 [iL [2,0],iL [2,0]] (.bool true):=by have:=q_SameInts [2,0] [2,0] (by decide);rwa [decide_eq_true rfl] at this
theorem as6:PC 28 [iL [3,3],iL [3,3]] (.bool true):=by have:=q_SameInts [3,3] [3,3] (by decide);rwa [decide_eq_true rfl] at this
theorem as7:PC 28 [iL [500,500,-100,-100],iL [500,500,-100,-100]] (.bool true):=by have:=q_SameInts [500,500,-100,-100] [500,500,-100,-100] (by decide);rwa [decide_eq_true rfl] at this
theorem as8:PC 28 [iL [1,1,-1,0],iL [1,1,-1,0]] (.bool true):=by have:=q_SameInts [1,1,-1,0] [1,1,-1,0] (by decide);rwa [decide_eq_true rfl] at this
theorem at1:PC 60 [iLL sTb,iLL sTb] (.bool true):=r_SameLists sTb (by decide) (by intro r hr;simp only [sTb,List.mem_cons,List.not_mem_nil,or_false] at hr;rcases hr with rfl|rfl|rfl<;>decide)
theorem at2:PC 76 [ofsV sOf] (ofsV sOf):=l_told sOf (by decide)
theorem at3:PC 75 [ofsV sOf,ofsV sOf] (.bool true):=r_SameOffers sOf (by decide)
theorem l_awake:PC 13 [] (.bool true):=by
 refine pureCall_ofR dh13 rfl ?_
 conv=>whnf
 repeat' (first
 |(refine ⟨fun hg=>?_,fun hg=>?_⟩<;>first|contradiction|(exfalso;revert hg;decide)|(clear hg;conv=>whnf))
 |(refine Or.inl ?_;conv=>whnf)
 |(refine ⟨_,l_store,?_⟩;conv=>whnf)
 |(refine ⟨_,l_offers,?_⟩;conv=>whnf)
 |(refine ⟨_,l_to 50 60,?_⟩;conv=>whnf)
 |(refine ⟨_,l_to 40 60,?_⟩;conv=>whnf)
 |(refine ⟨_,aw1,?_⟩;conv=>whnf)
 |(refine ⟨_,aw2,?_⟩;conv=>whnf)
 |(refine ⟨_,aw3,?_⟩;conv=>whnf)
 |(refine ⟨_,aw4,?_⟩;conv=>whnf)
 |(refine ⟨_,aw5,?_⟩;conv=>whnf)
 |(refine ⟨_,aw6,?_⟩;conv=>whnf)
 |(refine ⟨_,aw7,?_⟩;conv=>whnf)
 |(refine ⟨_,aw8,?_⟩;conv=>whnf)
 |(refine ⟨_,aw9,?_⟩;conv=>whnf)
 |(refine ⟨_,aw10,?_⟩;conv=>whnf)
 |(refine ⟨_,aw11,?_⟩;conv=>whnf)
 |(refine ⟨_,aw12,?_⟩;conv=>whnf)
 |(refine ⟨_,aw13,?_⟩;conv=>whnf)
 |(refine ⟨_,aw14,?_⟩;conv=>whnf)
 |(refine ⟨_,aw15,?_⟩;conv=>whnf)
 |(refine ⟨_,aw16,?_⟩;conv=>whnf)
 |(refine ⟨_,aw17,?_⟩;conv=>whnf)
 |(refine ⟨_,aw18,?_⟩;conv=>whnf)
 |(refine ⟨_,aw19,?_⟩;conv=>whnf)
 |(refine ⟨_,aw20,?_⟩;conv=>whnf)
 |(refine ⟨_,aw21,?_⟩;conv=>whnf)
 |(refine ⟨_,aw22,?_⟩;conv=>whnf)
 |(refine ⟨_,as1,?_⟩;conv=>whnf)
 |(refine ⟨_,as2,?_⟩;conv=>whnf)
 |(refine ⟨_,as3,?_⟩;conv=>whnf)
 |(refine ⟨_,as4,?_⟩;conv=>whnf)
 |(refine ⟨_,as5,?_⟩;conv=>whnf)
 |(refine ⟨_,as6,?_⟩;conv=>whnf)
 |(refine ⟨_,as7,?_⟩;conv=>whnf)
 |(refine ⟨_,as8,?_⟩;conv=>whnf)
 |(refine ⟨_,at1,?_⟩;conv=>whnf)
 |(refine ⟨_,at2,?_⟩;conv=>whnf)
 |(refine ⟨_,at3,?_⟩;conv=>whnf)
 |(refine ⟨⟨by decide,by decide,by decide,fun e he=>by obtain ⟨x,_,rfl⟩:=List.mem_map.1 he;rfl⟩,?_⟩;conv=>whnf)
 |(refine And.intro ?_ ?_;kernel_rfl;conv=>whnf))
 all_goals rfl
end Sh

namespace Sh
open Go Go.Proofs Go.Proofs.YtjgckckimeldeaaGreatDoor Go.DataW
def i64P (n:Int):Prop := -9223372036854775808≤n∧n≤9223372036854775807
theorem i64_of {n:Int} (h:(Lit.int .i64 n).wf=true):i64P n:=by
 unfold Lit.wf at h
 unfold i64P
 simpa [IntKind.min,IntKind.max,IntKind.signed,IntKind.bits] using h
section
variable {P:Program} {H:Type} {enc:TypeId×Value→H} {W:World}
theorem opens_struct4 {t:TypeId} {f0 f1 f2 f3:Field} {α β γ δ:Type} {e0:α→List DV} {B0:α→Prop} {e1:β→List DV} {B1:β→Prop} {e2:γ→List DV} {B2:γ→Prop} {e3:δ→List DV} {B3:δ→Prop} (ht:P.underlying t=some (.struct #[f0,f1,f2,f3])) (c0 c1 c2 c3:Nat)
  (h0:P.cellsOf f0.type=c0) (h1:P.cellsOf f1.type=c1) (h2:P.cellsOf f2.type=c2) (h3:P.cellsOf f3.type=c3) (hc:P.cellsOf t=c0+(c1+(c2+c3))) (o0:f0.offset=0) (o1:f1.offset=c0) (o2:f2.offset=c0+c1) (o3:f3.offset=c0+c1+c2)
  (k0:Opens enc P W f0.type e0 B0) (k1:Opens enc P W f1.type e1 B1) (k2:Opens enc P W f2.type e2 B2) (k3:Opens enc P W f3.type e3 B3) :
  Opens enc P W t (fun a:α×β×γ×δ=>e0 a.1++(e1 a.2.1++(e2 a.2.2.1++e3 a.2.2.2))) (fun a=>B0 a.1∧B1 a.2.1∧B2 a.2.2.1∧B3 a.2.2.2):=by
 intro base sp hd fuel cs x hx
 obtain ⟨xs,n,_,_,hl,hlen,hf⟩:=DataW.trod_struct ht hx
 match xs,hlen with
 |[y0,y1,y2,y3],_ =>
  have r0:=hf 0 f0 rfl
  have r1:=hf 1 f1 rfl
  have r2:=hf 2 f2 rfl
  have r3:=hf 3 f3 rfl
  rw [h0,o0] at r0
  rw [h1,o1] at r1
  rw [h2,o2] at r2
  rw [h3,o3] at r3
  rw [hc] at hl
  obtain ⟨a,a1,a2⟩:=k0 _ _ _ _ _ _ r0
  obtain ⟨b,b1,b2⟩:=k1 _ _ _ _ _ _ r1
  obtain ⟨c,d1,d2⟩:=k2 _ _ _ _ _ _ r2
  obtain ⟨d,f1,f2⟩:=k3 _ _ _ _ _ _ r3
  refine ⟨(a,b,c,d),?_,a2,b2,d2,f2⟩
  have h4:=a1.append (b1.append (d1.append f1))
  have e4:(cs.drop (c0+c1)).take c2++(cs.drop (c0+c1+c2)).take c3=cs.drop (c0+c1):=by
   have:=split2 (cs:=cs.drop (c0+c1)) (c0:=c2) (c1:=c3) (by simp;omega)
   rwa [List.drop_drop,List.drop_drop,Nat.add_zero] at this
  have e3:(cs.drop c0).take c1++cs.drop (c0+c1)=cs.drop c0:=by
   rw [← List.drop_drop,List.take_append_drop]
  rw [e4,e3,List.drop_zero,List.take_append_drop] at h4
  exact h4
theorem opens_struct5 {t:TypeId} {f0 f1 f2 f3 f4:Field} {α β γ δ ε:Type} {e0:α→List DV} {B0:α→Prop} {e1:β→List DV} {B1:β→Prop} {e2:γ→List DV} {B2:γ→Prop} {e3:δ→List DV} {B3:δ→Prop} {e4:ε→List DV} {B4:ε→Prop}
  (ht:P.underlying t=some (.struct #[f0,f1,f2,f3,f4])) (h0:P.cellsOf f0.type=1) (h1:P.cellsOf f1.type=1) (h2:P.cellsOf f2.type=1) (h3:P.cellsOf f3.type=1) (h4:P.cellsOf f4.type=1) (hc:P.cellsOf t=5)
  (o0:f0.offset=0) (o1:f1.offset=1) (o2:f2.offset=2) (o3:f3.offset=3) (o4:f4.offset=4)
  (k0:Opens enc P W f0.type e0 B0) (k1:Opens enc P W f1.type e1 B1) (k2:Opens enc P W f2.type e2 B2) (k3:Opens enc P W f3.type e3 B3) (k4:Opens enc P W f4.type e4 B4) :
  Opens enc P W t (fun a:α×β×γ×δ×ε=>e0 a.1++(e1 a.2.1++(e2 a.2.2.1++(e3 a.2.2.2.1++e4 a.2.2.2.2)))) (fun a=>B0 a.1∧B1 a.2.1∧B2 a.2.2.1∧B3 a.2.2.2.1∧B4 a.2.2.2.2):=by
 intro base sp hd fuel cs x hx
 obtain ⟨xs,n,_,_,hl,hlen,hf⟩:=DataW.trod_struct ht hx
 match xs,hlen with
 |[y0,y1,y2,y3,y4],_ =>
  have r0:=hf 0 f0 rfl
  have r1:=hf 1 f1 rfl
  have r2:=hf 2 f2 rfl
  have r3:=hf 3 f3 rfl
  have r4:=hf 4 f4 rfl
  rw [h0,o0] at r0
  rw [h1,o1] at r1
  rw [h2,o2] at r2
  rw [h3,o3] at r3
  rw [h4,o4] at r4
  rw [hc] at hl
  obtain ⟨a,a1,a2⟩:=k0 _ _ _ _ _ _ r0
  obtain ⟨b,b1,b2⟩:=k1 _ _ _ _ _ _ r1
  obtain ⟨c,c1,c2⟩:=k2 _ _ _ _ _ _ r2
  obtain ⟨d,d1,d2⟩:=k3 _ _ _ _ _ _ r3
  obtain ⟨e,e1,e2⟩:=k4 _ _ _ _ _ _ r4
  refine ⟨(a,b,c,d,e),?_,a2,b2,c2,d2,e2⟩
  have hh:=a1.append (b1.append (c1.append (d1.append e1)))
  match cs,hl with
  |[z0,z1,z2,z3,z4],_=>exact hh
end
theorem A_laid:laidOutB Tryz.prog=true:=by kernel_rfl
theorem own:ownKnob Tryz.prog.godebug=none:=by kernel_rfl
theorem cl3:Tryz.prog.cellsOf 3=1:=by kernel_rfl
theorem cl9:Tryz.prog.cellsOf 9=1:=by kernel_rfl
theorem cl24:Tryz.prog.cellsOf 24=1:=by kernel_rfl
theorem cl74:Tryz.prog.cellsOf 74=1:=by kernel_rfl
theorem cl117:Tryz.prog.cellsOf 117=2:=by kernel_rfl
theorem cl22:Tryz.prog.cellsOf 22=1:=by kernel_rfl
theorem cl119:Tryz.prog.cellsOf 119=4:=by kernel_rfl
theorem cl23:Tryz.prog.cellsOf 23=1:=by kernel_rfl
theorem cl57:Tryz.prog.cellsOf 57=5:=by kernel_rfl
theorem cl124:Tryz.prog.cellsOf 124=2:=by kernel_rfl
theorem cl92:Tryz.prog.cellsOf 92=1:=by kernel_rfl
theorem cl26:Tryz.prog.cellsOf 26=2:=by kernel_rfl
theorem cl59:Tryz.prog.cellsOf 59=2:=by kernel_rfl
theorem cl76:Tryz.prog.cellsOf 76=2:=by kernel_rfl
theorem cl94:Tryz.prog.cellsOf 94=3:=by kernel_rfl
theorem cl60:Tryz.prog.cellsOf 60=3:=by kernel_rfl
theorem cl114:Tryz.prog.cellsOf 114=1:=by kernel_rfl
theorem cl115:Tryz.prog.cellsOf 115=7:=by kernel_rfl
theorem cl5:Tryz.prog.cellsOf 5=1:=by kernel_rfl
theorem cl121:Tryz.prog.cellsOf 121=3:=by kernel_rfl
theorem cl131:Tryz.prog.cellsOf 131=2:=by kernel_rfl
theorem cl192:Tryz.prog.cellsOf 192=1:=by kernel_rfl
section
variable {H:Type} {enc:TypeId×Value→H} {W:World}
theorem opInts:Opens enc Tryz.prog W 24 (fun l:List Int=>[iL l]) (fun l=>l.length≤9223372036854775807) :=
 (opens_slice Tryz.underlying24 1 cl3 (by decide) (f:=DV.int .i64) (opens_int Tryz.underlying3)).map id (fun _=>rfl) (fun _ h=>h.1)
theorem opTab:Opens enc Tryz.prog W 74 (fun l:List (List Int)=>[iLL l]) (fun l=>l.length≤9223372036854775807) :=
 (opens_slice Tryz.underlying74 1 cl24 (by decide) (f:=iL) opInts).map id (fun _=>rfl) (fun _ h=>h.1)
theorem opIv:Opens enc Tryz.prog W 117 (fun d:Iv=>(encV d).cells) (fun _=>True) :=
 (opens_struct2 Tryz.underlying117 1 1 cl3 cl3 cl117 rfl rfl (opens_int Tryz.underlying3) (opens_int Tryz.underlying3)).map (fun a=>Iv.mk a.1 a.2) (fun _=>rfl) (fun _ _=>trivial)
theorem opIvs:Opens enc Tryz.prog W 22 (fun l:List Iv=>[ivV l]) (fun l=>l.length≤9223372036854775807) :=
 (opens_slice Tryz.underlying22 2 cl117 (by decide) (f:=encV) opIv).map id (fun _=>rfl) (fun _ h=>h.1)
theorem opOf:Opens enc Tryz.prog W 119 (fun s:Of=>(encO s).cells) (fun _=>True) :=
 (opens_struct4 Tryz.underlying119 1 1 1 1 cl9 cl3 cl3 cl3 cl119 rfl rfl rfl rfl (opens_string Tryz.underlying9) (opens_int Tryz.underlying3) (opens_int Tryz.underlying3) (opens_int Tryz.underlying3)).map (fun a=>Of.mk a.1 a.2.1 a.2.2.1 a.2.2.2) (fun _=>rfl) (fun _ _=>trivial)
theorem opOfs:Opens enc Tryz.prog W 23 (fun l:List Of=>[ofsV l]) (fun l=>l.length≤9223372036854775807) :=
 (opens_slice Tryz.underlying23 4 cl119 (by decide) (f:=encO) opOf).map id (fun _=>rfl) (fun _ h=>h.1)
theorem opBa:Opens enc Tryz.prog W 57 (fun b:Ba=>(encB b).cells) (fun _=>True) :=
 (opens_struct5 Tryz.underlying57 cl3 cl3 cl3 cl3 cl3 cl57 rfl rfl rfl rfl rfl (opens_int Tryz.underlying3) (opens_int Tryz.underlying3) (opens_int Tryz.underlying3) (opens_int Tryz.underlying3) (opens_int Tryz.underlying3)).map (fun a=>(⟨a.1,a.2.1,a.2.2.1,a.2.2.2.1,a.2.2.2.2⟩:Ba)) (fun _=>rfl) (fun _ _=>trivial)
theorem opVr:Opens enc Tryz.prog W 124 (fun d:Vr=>(encW d).cells) (fun _=>True) :=
 (opens_struct2 Tryz.underlying124 1 1 cl3 cl3 cl124 rfl rfl (opens_int Tryz.underlying3) (opens_int Tryz.underlying3)).map (fun a=>Vr.mk a.1 a.2) (fun _=>rfl) (fun _ _=>trivial)
theorem opVrs:Opens enc Tryz.prog W 92 (fun l:List Vr=>[vrV l]) (fun l=>l.length≤9223372036854775807) :=
 (opens_slice Tryz.underlying92 2 cl124 (by decide) (f:=encW) opVr).map id (fun _=>rfl) (fun _ h=>h.1)
theorem opDl:Opens enc Tryz.prog W 26 (fun x:List Int×List Int=>(encPn x.1 x.2).cells) (fun _=>True) :=
 (opens_struct2 Tryz.underlying26 1 1 cl24 cl24 cl26 rfl rfl opInts opInts).map id (fun _=>rfl) (fun _ _=>trivial)
theorem opPn:Opens enc Tryz.prog W 59 (fun x:List Int×List Int=>(encPn x.1 x.2).cells) (fun _=>True) :=
 (opens_struct2 Tryz.underlying59 1 1 cl24 cl24 cl59 rfl rfl opInts opInts).map id (fun _=>rfl) (fun _ _=>trivial)
theorem opTv:Opens enc Tryz.prog W 76 (fun x:List (List Int)×Int=>(encTv x.1 x.2).cells) (fun x=>x.1.length≤9223372036854775807) :=
 (opens_struct2 Tryz.underlying76 1 1 cl74 cl3 cl76 rfl rfl opTab (opens_int Tryz.underlying3)).map id (fun _=>rfl) (fun _ h=>h.1)
theorem opPd:Opens enc Tryz.prog W 94 (fun x:List Int×List Int×Int=>(encPd x.1 x.2.1 x.2.2).cells) (fun _=>True) :=
 (opens_struct3 Tryz.underlying94 1 1 1 cl24 cl24 cl3 cl94 rfl rfl rfl opInts opInts (opens_int Tryz.underlying3)).map id (fun _=>rfl) (fun _ _=>trivial)
theorem opI3:Opens enc Tryz.prog W 60 (fun p:Int×Int×Int=>[DV.int .i64 p.1,DV.int .i64 p.2.1,DV.int .i64 p.2.2]) (fun _=>True):=by
 refine (opens_array (n:=3) (c:=1) (e:=3) (P:=Tryz.prog) (t:=60) Tryz.underlying60 cl3 (show Tryz.prog.cellsOf 60=3 * 1 by kernel_rfl) (opens_int Tryz.underlying3)).mapB (fun l=>(l.getD 0 0,l.getD 1 0,l.getD 2 0)) (fun l h=>?_) (fun l h=>?_)
 ·match l,h with
  |[a,b,c],_=>rfl
 ·trivial
theorem opB3:Opens enc Tryz.prog W 121 (fun p:Int×Int×Int=>[DV.int .u8 p.1,DV.int .u8 p.2.1,DV.int .u8 p.2.2]) (fun p=>(0≤p.1∧p.1≤255)∧(0≤p.2.1∧p.2.1≤255)∧(0≤p.2.2∧p.2.2≤255)):=by
 refine (opens_array (n:=3) (c:=1) (e:=5) (P:=Tryz.prog) (t:=121) Tryz.underlying121 (show Tryz.prog.cellsOf 5=1 by kernel_rfl) (show Tryz.prog.cellsOf 121=3 * 1 by kernel_rfl) (opens_int Tryz.underlying5)).mapB (fun l=>(l.getD 0 0,l.getD 1 0,l.getD 2 0)) (fun l h=>?_) (fun l h=>?_)
 ·match l,h with
  |[a,b,c],_=>rfl
 ·match l,h with
  |[a,b,c],h=>exact ⟨wf_u8 (h.2 a (by simp)),wf_u8 (h.2 b (by simp)),wf_u8 (h.2 c (by simp))⟩
theorem map_flat {α β:Type} (f:α→β):∀ l:List α,l.map f=l.flatMap fun n=>[f n]
 |[]=>rfl
 |a :: r=>by show f a :: r.map f=f a :: _;rw [map_flat f r];rfl
theorem opU7:Opens enc Tryz.prog W 115 (fun p:List Int=>p.map (DV.int .u16)) (fun p=>p.length=7∧∀ x ∈ p,0≤x∧x≤65535):=by
 refine (opens_array (n:=7) (c:=1) (e:=114) (P:=Tryz.prog) (t:=115) Tryz.underlying115 (show Tryz.prog.cellsOf 114=1 by kernel_rfl) (show Tryz.prog.cellsOf 115=7 * 1 by kernel_rfl) (opens_int Tryz.underlying114)).mapB (fun l=>l) (fun l h=>?_) (fun l h=>?_)
 ·exact map_flat _ _
 ·exact ⟨h.1,fun x hx=>wf_u16 (h.2 x hx)⟩
end
section
variable {H:Type} {enc:TypeId×Value→H} {P:Program} {W:World}
def KnownF (enc:TypeId×Value→H) (P:Program) (W:World) (t:TypeId) (x:DataW H) (ds:List DV):Prop :=
 ∀ (base:Nat) (sp:Nat→Bool) (fuel:Nat) (cs:List Value) (p:List MemPlace),DataW.trod enc P W base sp false fuel t cs=some (x,p)→RelL (memOf W) ds cs
theorem knownF_string {t:TypeId} (ht:P.underlying t=some .string) (s:List UInt8):KnownF enc P W t (.lit (.string s)) [.str s]:=by
 intro base sp fuel cs p h
 obtain ⟨b,rfl,e,_⟩:=DataW.trod_string ht h
 simp only [Prod.mk.injEq,DataW.lit.injEq,Lit.string.injEq] at e
 rw [e.1]
 exact .one (.str b.data.toList)
theorem knownF_int {t:TypeId} {k:IntKind} (ht:P.underlying t=some (.int k)) (n:Int):KnownF enc P W t (.lit (.int k n)) [.int k n]:=by
 intro base sp fuel cs p h
 obtain ⟨b,rfl,e,_⟩:=DataW.trod_int ht h
 simp only [Prod.mk.injEq,DataW.lit.injEq,Lit.int.injEq,true_and] at e
 rw [e.1]
 exact .one (.int k b)
theorem knownF_struct2 {t:TypeId} {f0 f1:Field} {x0 x1:DataW H} {d0 d1:List DV} (ht:P.underlying t=some (.struct #[f0,f1])) (c0 c1:Nat)
  (h0:P.cellsOf f0.type=c0) (h1:P.cellsOf f1.type=c1) (hc:P.cellsOf t=c0+c1) (o0:f0.offset=0) (o1:f1.offset=c0) (k0:KnownF enc P W f0.type x0 d0) (k1:KnownF enc P W f1.type x1 d1):KnownF enc P W t (.agg [x0,x1]) (d0++d1):=by
 intro base sp fuel cs p hx
 obtain ⟨y0,y1,n,e,hl,r0,r1⟩:=ChangeShapes.trod_struct2 ht hx
 simp only [Prod.mk.injEq,DataW.agg.injEq,List.cons.injEq,and_true] at e
 obtain ⟨⟨e0,e1⟩,_⟩:=e
 rw [h0,o0] at r0
 rw [h1,o1] at r1
 rw [hc] at hl
 have a1:=k0 _ _ _ _ y0.2 (by rw [r0,e0])
 have b1:=k1 _ _ _ _ y1.2 (by rw [r1,e1])
 have:=a1.append b1
 rwa [split2 hl] at this
theorem knownF_array_aux {t:TypeId} {c:Nat}:∀ (xs:List (DataW H×List MemPlace)) (dss:List (List DV)) (cs:List Value),xs.length=dss.length→cs.length=xs.length * c →
  (∀ (i:Nat) (x:DataW H×List MemPlace) (ds:List DV),xs[i]?=some x→dss[i]?=some ds→RelL (memOf W) ds ((cs.drop (i * c)).take c))→RelL (memOf W) dss.flatten cs
 |[],[],cs,_,hl,_=>by
  have:cs=[]:=List.length_eq_zero_iff.1 (by simpa using hl)
  subst this;exact .nil
 |x :: xs,ds :: dss,cs,h1,hl,h=>by
  rw [List.length_cons,Nat.add_mul,Nat.one_mul] at hl
  have h2:=knownF_array_aux (t:=t) (c:=c) xs dss (cs.drop c) (by simpa using h1) (by simp;omega) (fun i y ds' e1 e2=>by
   have:=h (i+1) y ds' (by simpa using e1) (by simpa using e2)
   rwa [Nat.add_mul,Nat.one_mul,Nat.add_comm (i * c) c,← List.drop_drop] at this)
  have h3:=h 0 x ds rfl rfl
  rw [Nat.zero_mul,List.drop_zero] at h3
  have:=h3.append h2
  rwa [List.take_append_drop] at this
theorem knownF_array {t e:TypeId} {n c:Nat} {xs:List (DataW H)} {dss:List (List DV)} (ht:P.underlying t=some (.array n e)) (hc:P.cellsOf e=c) (hct:P.cellsOf t=n * c) (hl:xs.length=dss.length)
  (h:∀ (i:Nat) (x:DataW H) (ds:List DV),xs[i]?=some x→dss[i]?=some ds→KnownF enc P W e x ds):KnownF enc P W t (.agg xs) dss.flatten:=by
 intro base sp fuel cs p hx
 obtain ⟨ys,m,_,e,hlc,hn,hel⟩:=DataW.trod_array ht hx
 simp only [Prod.mk.injEq,DataW.agg.injEq] at e
 obtain ⟨e,_⟩:=e
 have hy:ys.length=xs.length:=by rw [e];simp
 refine knownF_array_aux (t:=t) (c:=c) ys dss cs (by omega) (by rw [hlc,hct,hn]) (fun i y ds e1 e2=>?_)
 have hi:i < n:=by rw [← hn];exact (List.getElem?_eq_some_iff.1 e1).1
 have h1:=hel i hi
 rw [hc,e1] at h1
 refine h i y.1 ds (by rw [e,List.getElem?_map,e1];rfl) e2 _ _ _ _ y.2 h1
end
theorem known_words {W:World}:KnownF (fun _=>()) Tryz.prog W 192 (.agg [.lit (.string [111,102,102,101,114])]) [.str [111,102,102,101,114]]:=by
 refine knownF_array (c:=1) (dss:=[[.str [111,102,102,101,114]]]) Tryz.underlying192 cl9 cl192 rfl ?_
 intro i x ds e1 e2
 match i,e1,e2 with
 |0,e1,e2=>cases Option.some.inj e1;cases Option.some.inj e2;exact knownF_string Tryz.underlying9 _
theorem known_free {W:World}:KnownF (fun _=>()) Tryz.prog W 131 (.agg [.lit (.int .i64 0),.lit (.int .i64 0)]) [.int .i64 0,.int .i64 0] :=
 knownF_struct2 (d0:=[.int .i64 0]) (d1:=[.int .i64 0]) Tryz.underlying131 1 1 cl3 cl3 cl131 rfl rfl (knownF_int Tryz.underlying3 0) (knownF_int Tryz.underlying3 0)
section
variable {L:List (String×DataW Unit)}
theorem words_at (e:(L.filter fun x=>x.1 == "combiner/trade.words")=[("combiner/trade.words",Rows.laid_combiner_trade_words)]) {W:World} (h:laidMetH Tryz.prog L W):∃ cs:Array Value,W.var? Tryz.prog "combiner/trade.words"=some cs∧RelL (memOf W) [.str [111,102,102,101,114]] cs.toList:=by
 have h1:=h.filter fun x=>x.1 == "combiner/trade.words"
 rw [e,MakeChecks.laidMetH_plain _ _ _ (by kernel_rfl)] at h1
 obtain ⟨ps,⟨g,t,cs,fuel,p,q,hg,ht,hv,hd,_,_⟩,_⟩:=h1
 obtain rfl:=Option.some.inj ((show Tryz.prog.globalNamed "combiner/trade.words"=some 1 by kernel_rfl).symm.trans hg)
 obtain rfl:=Option.some.inj ((show (Tryz.prog.globals[1]?).map (·.type)=some 192 by kernel_rfl).symm.trans ht)
 exact ⟨cs,hv,known_words _ _ _ _ _ hd⟩
theorem free_at (e:(L.filter fun x=>x.1 == "combiner/trade.free")=[("combiner/trade.free",Rows.laid_combiner_trade_free)]) {W:World} (h:laidMetH Tryz.prog L W):∃ cs:Array Value,W.var? Tryz.prog "combiner/trade.free"=some cs∧RelL (memOf W) [.int .i64 0,.int .i64 0] cs.toList:=by
 have h1:=h.filter fun x=>x.1 == "combiner/trade.free"
 rw [e,MakeChecks.laidMetH_plain _ _ _ (by kernel_rfl)] at h1
 obtain ⟨ps,⟨g,t,cs,fuel,p,q,hg,ht,hv,hd,_,_⟩,_⟩:=h1
 obtain rfl:=Option.some.inj ((show Tryz.prog.globalNamed "combiner/trade.free"=some 0 by kernel_rfl).symm.trans hg)
 obtain rfl:=Option.some.inj ((show (Tryz.prog.globals[0]?).map (·.type)=some 131 by kernel_rfl).symm.trans ht)
 exact ⟨cs,hv,known_free _ _ _ _ _ hd⟩
theorem pow_at (e:(L.filter fun x=>x.1 == "internal/strconv.uint64pow10")=[("internal/strconv.uint64pow10",Lib.tabData .u64 Lib.pow10Tab)]) {W:World} (h:laidMetH Tryz.prog L W):Lib.TabIs Tryz.prog W "internal/strconv.uint64pow10" .u64 Lib.pow10Tab:=by
 have h1:=h.filter fun x=>x.1 == "internal/strconv.uint64pow10"
 rw [e,MakeChecks.laidMetH_plain _ _ _ (by kernel_rfl)] at h1
 exact Lib.tabIs_of_head (g:=3) (t:=242) (e:=223) (n:=20) (by kernel_rfl) (by kernel_rfl) Tryz.underlying242 Tryz.underlying223 (by kernel_rfl) (by kernel_rfl) h1
theorem len_at {W:World} (hsh:W.ShapedOpen Tryz.prog):(∃ m,W.cell? ⟨2,0,none⟩=some (.int .i64 m))∧blockLen W 2=some 1 :=
 open_var (t:=3) (zero:=#[.int .i64 0]) hsh (of_decide_eq_true (by kernel_rfl)) (by kernel_rfl) rfl (by kernel_rfl) (by kernel_rfl) Tryz.underlying3
theorem gokC (hm:(L.filter fun x=>x.1 == "combiner/trade.words")=[("combiner/trade.words",Rows.laid_combiner_trade_words)]) (hm2:(L.filter fun x=>x.1 == "combiner/trade.free")=[("combiner/trade.free",Rows.laid_combiner_trade_free)]) (e:(L.filter fun x=>x.1 == "internal/strconv.uint64pow10")=[("internal/strconv.uint64pow10",Lib.tabData .u64 Lib.pow10Tab)]) {W:World} (h:laidMetH Tryz.prog L W) (hsh:W.ShapedOpen Tryz.prog):GOk GC (memOf W)∧Tabs GC W:=by
 obtain ⟨cs,hv,hr⟩:=words_at hm h
 obtain ⟨cs2,hv2,hr2⟩:=free_at hm2 h
 have hp:=pow_at e h
 have hm:=len_at hsh
 unfold Lib.TabIs at hp
 have g0:Tryz.prog.globalNamed "combiner/trade.words"=some 1:=by kernel_rfl
 have g1:Tryz.prog.globalNamed "combiner/trade.free"=some 0:=by kernel_rfl
 have g2:Tryz.prog.globalNamed "internal/strconv.uint64pow10"=some 3:=by kernel_rfl
 refine ⟨fun g d hg=>?_,fun g d hg=>?_⟩
 all_goals unfold GC at hg
 all_goals split at hg
 ·next e =>
  subst e
  obtain rfl:=Option.some.inj hg
  exact gok_of (cs:=cs) (fun i=>World.var?_cell g0 hv i) hr
 ·split at hg
  ·next e =>
   subst e
   obtain rfl:=Option.some.inj hg
   exact gok_of (cs:=cs2) (fun i=>World.var?_cell g1 hv2 i) hr2
  ·split at hg
   ·next e =>
    subst e
    obtain rfl:=Option.some.inj hg
    exact gok_of (fun i=>World.var?_cell g2 hp i) (by simpa using relL_ints Lib.pow10Tab)
   ·split at hg
    ·next e =>
     subst e
     obtain rfl:=Option.some.inj hg
     exact gok_open hm.1
    ·cases hg
 ·next e =>
  subst e
  obtain rfl:=Option.some.inj hg
  refine ⟨?_,fun ho=>by cases ho⟩
  rw [len_of g0 hv,← Array.length_toList,← hr.1]
  rfl
 ·split at hg
  ·next e =>
   subst e
   obtain rfl:=Option.some.inj hg
   refine ⟨?_,fun ho=>by cases ho⟩
   rw [len_of g1 hv2,← Array.length_toList,← hr2.1]
   rfl
  ·split at hg
   ·next e =>
    subst e
    obtain rfl:=Option.some.inj hg
    refine ⟨?_,fun ho=>by cases ho⟩
    rw [len_of g2 hp]
    rfl
   ·split at hg
    ·next e =>
     subst e
     obtain rfl:=Option.some.inj hg
     exact ⟨hm.2,fun _=>hm.1⟩
    ·cases hg
end
noncomputable def startW (os:Os):World:=(World.doorLaid Tryz.prog 600 os).layVars Tryz.prog [("unicode/utf8.first",Go.Pinned.utf8First)]
theorem ajI {a b:Bool} (h:a=true) (k:b=true):(a && b)=true:=by rw [h,k];rfl
theorem J_maps:(mapsRowed Tryz.prog)=true:=by kernel_rfl
theorem J_keys:((Rows.tradeOffersRow.plainKeys == Tryz.prog.plainKeys))=true:=by kernel_rfl
theorem J_heard:(Tryz.prog.stopsHeard)=true:=by kernel_rfl
theorem J_enter:(Tryz.prog.mayEnter)=true:=by kernel_rfl
theorem J_lift:((Rows.tradeOffersRow.lifted == Tryz.prog.liftsFinal))=true:=by kernel_rfl
theorem J_make:((Tryz.prog.make == some Rows.tradeOffersRow.make))=true:=by kernel_rfl
end Sh
