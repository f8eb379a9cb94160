/-
  Chapter 8's functions, walked over pure data: the library of the walk, the functions' code over data, and what each computes. (part 7)
-/
import Derived.Test.YtcgajpaohlggpaaGreatDoorP6
import Derived.ChangeArms
import Derived.ChangeSame
import Derived.OpenShut
import Derived.WideShapes
import Derived.FnData
import Derived.LaidMore
import Derived.DataReads
import Derived.Test.YtcgajpaohlggpaaGreatDoorProg
import Derived.Lib.ItoaNum
import Derived.Lib.ItoaLen
import Derived.Lib.MapLaws
import Derived.Lib.Bytealg
import Derived.Lib.Join
import Derived.Lib.Strings
import Derived.Shelf.LaysM
import Derived.Shelf.Strconv.Itoa3
import Derived.Shelf.Strings.OnBuilder
import Derived.Shelf.Small.Strs
import Derived.Shelf.Small.Wraps
import Derived.Shelf.Strings.Split
set_option linter.unusedVariables false
set_option linter.unusedSimpArgs false
namespace Sh
open Go
section
variable {H:Type} {enc:TypeId×Value→H} {P:Program} {W:World}
theorem arg_string {t:TypeId} {v:Value} {d:DataW H} {p:List MemPlace} {base b0:Nat} {sp:Nat→Bool} {hd:Bool} (ht:P.underlying t=some .string)
  (hv:Value.okWide P W .any b0 t v) (h:DataW.Trod enc P W base sp hd t v d p):∃ s:List UInt8,RelP (memOf W) (.str s) v∧s.length≤maxLen:=by
 obtain ⟨s,rfl⟩:=WideShapes.okWide_string ht hv
 obtain ⟨fuel,hf⟩:=h
 obtain ⟨m,e,_,hw⟩:=DataW.trod_string ht hf
 simp only [Value.cells,List.cons.injEq,Value.string.injEq,and_true] at e
 subst e
 exact ⟨s.data.toList,.str s.data.toList,by simpa using hw⟩
end
end Sh

set_option maxRecDepth 100000
namespace Sh
open Go
def db30_0 : DC := (.seq (.seq (.ops false [⟨some 19,.mov (.tmp 4),none,[]⟩,⟨some 20,.mov (.tmp 0),none,[]⟩,⟨some 21,.len (.tmp 20),none,[]⟩,⟨some 22,.bin .lss (.tmp 19) (.tmp 21),none,[]⟩]) (.cond (.tmp 22) .skip (.exit 0))) (.seq (.block 1 none (.seq (.ops true [⟨some 25,.mov (.tmp 0),none,[]⟩,⟨some 26,.mov (.tmp 4),none,[]⟩,⟨some 27,.iaddr 3 (.tmp 25) (.tmp 26),none,[0,1]⟩,⟨some 28,.faddr 0 1 false (.tmp 27),none,[2,0,1]⟩,⟨some 29,.load none (.tmp 28),none,[3,2,0,1]⟩,⟨some 30,.call (.func 94) [.tmp 29,.const (.int .i64 0),.const (.int .i64 1000)],none,[4,3,2,0,1]⟩,⟨some 31,.mov (.tmp 0),none,[]⟩,⟨some 32,.mov (.tmp 4),none,[]⟩,⟨some 33,.iaddr 3 (.tmp 31) (.tmp 32),none,[6,7]⟩,⟨some 34,.faddr 1 1 false (.tmp 33),none,[8,6,7]⟩,⟨some 35,.load none (.tmp 34),none,[9,8,6,7]⟩,⟨some 36,.call (.func 94) [.tmp 35,.const (.int .i64 0),.const (.int .i64 1000)],none,[10,9,8,6,7,5,4,3,2,0,1]⟩,⟨some 37,.mov (.tmp 0),none,[]⟩,⟨some 38,.mov (.tmp 4),none,[]⟩,⟨some 39,.iaddr 3 (.tmp 37) (.tmp 38),none,[12,13]⟩,⟨some 40,.faddr 2 1 false (.tmp 39),none,[14,12,13]⟩,⟨some 41,.load none (.tmp 40),none,[15,14,12,13]⟩,⟨some 42,.call (.func 94) [.tmp 41,.const (.int .i64 0),.const (.int .i64 100000)],none,[16,15,14,12,13,11,10,9,8,6,7,5,4,3,2,0,1]⟩,⟨some 43,.lit true 1 3 (.int .i64 0) [(0,(.tmp 30)),(1,(.tmp 36)),(2,(.tmp 42))],none,[5,4,3,2,0,1,11,10,9,8,6,7,17,16,15,14,12,13]⟩,⟨some 44,.call (.func 48) [.tmp 43],none,[18,5,4,3,2,0,1,11,10,9,8,6,7,17,16,15,14,12,13]⟩,⟨some 5,.mov (.tmp 44),none,[19,18,5,4,3,2,0,1,11,10,9,8,6,7,17,16,15,14,12,13]⟩]) (.seq (.ops false [⟨some 45,.mov (.tmp 5),none,[]⟩,⟨some 46,.bin .neq (.tmp 45) (.const (.int .i64 0)),none,[]⟩]) (.cond (.tmp 46) (.seq (.ops false [⟨some 47,.mov (.tmp 5),none,[]⟩,⟨some 2,.mov (.tmp 47),none,[]⟩]) .ret) .skip)))) (.ops false [⟨some 23,.mov (.tmp 4),none,[]⟩,⟨some 24,.bin .add (.tmp 23) (.const (.int .i64 1)),none,[]⟩,⟨some 4,.mov (.tmp 24),none,[]⟩])))
def dk30_0 : Keep := ⟨[],[0,4],[14]⟩
def dc30 : DFunc := ⟨48,1,[.tmp 2],.seq (.ops false [⟨some 2,.mov (.const (.int .i64 0)),none,[]⟩]) (.seq (.seq (.ops false [⟨some 6,.mov (.tmp 0),none,[]⟩,⟨some 7,.len (.tmp 6),none,[]⟩,⟨some 8,.bin .eql (.tmp 7) (.const (.int .i64 0)),none,[]⟩,⟨some 9,.call (.func 95) [.tmp 8,.const (.int .i64 12)],none,[]⟩,⟨some 10,.mov (.tmp 0),none,[]⟩,⟨some 11,.len (.tmp 10),none,[]⟩,⟨some 12,.bin .gtr (.tmp 11) (.const (.int .i64 64)),none,[]⟩,⟨some 13,.call (.func 95) [.tmp 12,.const (.int .i64 5)],none,[]⟩,⟨some 14,.lit true 1 2 (.int .i64 0) [(0,(.tmp 9)),(1,(.tmp 13))],none,[]⟩,⟨some 15,.call (.func 48) [.tmp 14],none,[]⟩,⟨some 3,.mov (.tmp 15),none,[]⟩]) (.seq (.ops false [⟨some 16,.mov (.tmp 3),none,[]⟩,⟨some 17,.bin .neq (.tmp 16) (.const (.int .i64 0)),none,[]⟩]) (.cond (.tmp 17) (.seq (.ops false [⟨some 18,.mov (.tmp 3),none,[]⟩,⟨some 2,.mov (.tmp 18),none,[]⟩]) .ret) .skip))) (.seq (.seq (.ops false [⟨some 4,.mov (.const (.int .i64 0)),none,[]⟩]) (.block 0 (some ⟨[],[],[14]⟩) (.loop dk30_0 db30_0))) (.seq (.ops false [⟨some 2,.mov (.const (.int .i64 0)),none,[]⟩]) .ret)))⟩
theorem dh30:cProg Go.Proofs.Tryz.prog ⟨[(0,⟨[],[0,4],[14]⟩)],[(0,⟨[],[],[14]⟩)],[14,43]⟩ 30=some dc30:=by kernel_rfl
def db48_0 : DC := (.seq (.seq (.ops false [⟨some 4,.mov (.tmp 3),none,[]⟩,⟨some 5,.mov (.tmp 0),none,[]⟩,⟨some 6,.len (.tmp 5),none,[]⟩,⟨some 7,.bin .lss (.tmp 4) (.tmp 6),none,[]⟩]) (.cond (.tmp 7) .skip (.exit 0))) (.seq (.block 1 none (.seq (.ops false [⟨some 10,.mov (.tmp 0),none,[]⟩,⟨some 11,.mov (.tmp 3),none,[]⟩,⟨some 12,.iaddr 1 (.tmp 10) (.tmp 11),none,[]⟩,⟨some 13,.load none (.tmp 12),none,[]⟩,⟨some 14,.bin .neq (.tmp 13) (.const (.int .i64 0)),none,[]⟩]) (.cond (.tmp 14) (.seq (.ops false [⟨some 15,.mov (.tmp 0),none,[]⟩,⟨some 16,.mov (.tmp 3),none,[]⟩,⟨some 17,.iaddr 1 (.tmp 15) (.tmp 16),none,[]⟩,⟨some 18,.load none (.tmp 17),none,[]⟩,⟨some 2,.mov (.tmp 18),none,[]⟩]) .ret) .skip))) (.ops false [⟨some 8,.mov (.tmp 3),none,[]⟩,⟨some 9,.bin .add (.tmp 8) (.const (.int .i64 1)),none,[]⟩,⟨some 3,.mov (.tmp 9),none,[]⟩])))
def dk48_0 : Keep := ⟨[],[0,3],[]⟩
def dc48 : DFunc := ⟨19,1,[.tmp 2],.seq (.ops false [⟨some 2,.mov (.const (.int .i64 0)),none,[]⟩]) (.seq (.seq (.ops false [⟨some 3,.mov (.const (.int .i64 0)),none,[]⟩]) (.block 0 (some ⟨[],[],[]⟩) (.loop dk48_0 db48_0))) (.seq (.ops false [⟨some 2,.mov (.const (.int .i64 0)),none,[]⟩]) .ret))⟩
theorem dh48:cProg Go.Proofs.Tryz.prog ⟨[(0,⟨[],[0,3],[]⟩)],[(0,⟨[],[],[]⟩)],[]⟩ 48=some dc48:=by kernel_rfl
def dc94 : DFunc := ⟨16,3,[.tmp 6],.seq (.ops false [⟨some 6,.mov (.const (.int .i64 0)),none,[]⟩]) (.seq (.ops false [⟨some 7,.mov (.tmp 0),none,[]⟩,⟨some 8,.mov (.tmp 1),none,[]⟩,⟨some 9,.bin .lss (.tmp 7) (.tmp 8),none,[]⟩,⟨some 10,.mov (.tmp 9),none,[]⟩,⟨some 11,.mov (.tmp 0),some (10,false),[]⟩,⟨some 12,.mov (.tmp 2),some (10,false),[]⟩,⟨some 13,.bin .gtr (.tmp 11) (.tmp 12),some (10,false),[]⟩,⟨some 14,.pick (.tmp 10) (.const (.bool true)) (.tmp 13),none,[]⟩,⟨some 15,.call (.func 95) [.tmp 14,.const (.int .i64 3)],none,[]⟩,⟨some 6,.mov (.tmp 15),none,[]⟩]) .ret)⟩
theorem dh94:cProg Go.Proofs.Tryz.prog ⟨[],[],[]⟩ 94=some dc94:=by kernel_rfl
def dc95 : DFunc := ⟨7,2,[.tmp 4],.seq (.ops false [⟨some 4,.mov (.const (.int .i64 0)),none,[]⟩]) (.seq (.seq (.ops false [⟨some 5,.mov (.tmp 0),none,[]⟩]) (.cond (.tmp 5) (.seq (.ops false [⟨some 6,.mov (.tmp 1),none,[]⟩,⟨some 4,.mov (.tmp 6),none,[]⟩]) .ret) .skip)) (.seq (.ops false [⟨some 4,.mov (.const (.int .i64 0)),none,[]⟩]) .ret))⟩
theorem dh95:cProg Go.Proofs.Tryz.prog ⟨[],[],[]⟩ 95=some dc95:=by kernel_rfl
end Sh

namespace Sh
open Go
section
variable {ev:Operand→DV} {lk:Nat→Option DObj} {o kk q i:Nat} {ks:List Nat} {z v:DV} {m k x:Operand} {es:List (DV×DV)}
end
theorem itoa_nat (u:Nat):Lib.itoa (u:Int)=Lib.decDigits u:=by unfold Lib.itoa;rw [if_neg (by omega)];simp
def txI (n k:Nat) (s:List UInt8):Prop:=Lib.decDigits n=if k=0 then s else Lib.decDigits k++s
theorem txI_step {n k:Nat} {s:List UInt8} (h:txI n k s) (hk:k≠0):txI n (k / 10) (UInt8.ofNat (48+k % 10) :: s):=by
 unfold txI at *
 rw [if_neg hk] at h
 by_cases h9:k < 10
 ·rw [if_pos (by omega),h]
  have e:Lib.decDigits k=[UInt8.ofNat (48+k)]:=by rw [Lib.decDigits,dif_pos h9]
  rw [e,show k % 10=k by omega];rfl
 ·rw [if_neg (by omega),h]
  have e:Lib.decDigits k=Lib.decDigits (k / 10)++[UInt8.ofNat (48+k % 10)]:=by rw [Lib.decDigits,dif_neg h9]
  rw [e,List.append_assoc];rfl
theorem glue_glue (p q:List UInt8) (l:List (List UInt8)):glue p (glue q l)=glue (p++q) l:=by
 cases l with
 |nil=>rfl
 |cons h t=>simp [glue]
theorem glue_nil {l:List (List UInt8)} (h:l≠[]):glue [] l=l:=by
 cases l with
 |nil=>exact absurd rfl h
 |cons a t=>rfl
theorem splitC_yes {b:UInt8} {s:List UInt8} {i:Nat} (h:i < s.length) (hb:s.getD i 0=b) (w:List UInt8):glue w (splitC b (s.drop i))=w :: splitC b (s.drop (i+1)):=by
 rw [drop_getD s i 0 h,splitC,if_pos hb]
 simp [glue]
theorem splitC_no {b:UInt8} {s:List UInt8} {i:Nat} (h:i < s.length) (hb:¬ s.getD i 0=b) (w:List UInt8):glue w (splitC b (s.drop i))=glue (w++[s.getD i 0]) (splitC b (s.drop (i+1))):=by
 rw [drop_getD s i 0 h,splitC,if_neg hb,glue_glue]
theorem window_snoc (s:List UInt8) (f i:Nat) (hf:f≤i) (hi:i < s.length):window s f (i - f)++[s.getD i 0]=window s f (i+1 - f):=by
 unfold window
 rw [show i+1 - f=(i - f)+1 by omega,List.take_add_one]
 congr 1
 simp [List.getD_eq_getElem?_getD,hi,show f+(i - f)=i by omega]
end Sh

namespace Sh
open Go Go.Proofs
theorem q_When (b:Bool) (e:Int):PC 95 [.bool b,DV.int .i64 (e)] (DV.int .i64 (whenE b e)):=by
 refine pureCall_ofR dh95 rfl ?_
 conv=>whnf
 refine ⟨fun hb=>?_,fun hb=>?_⟩<;>try (exact absurd hb (by decide))
 all_goals conv=>whnf
 all_goals subst hb;rfl
theorem q_CheckRange (n l h:Int):PC 94 [DV.int .i64 (n),DV.int .i64 (l),DV.int .i64 (h)] (DV.int .i64 (withE n l h)):=by
 refine pureCall_ofR dh94 rfl ?_
 conv=>whnf
 refine ⟨fun hb=>?_,fun hb=>?_⟩<;>try (exact absurd hb (by decide))
 all_goals conv=>whnf
 ·refine .inl ?_
  conv=>whnf
  refine ⟨_,q_When ..,?_⟩
  conv=>whnf
  exact int_eq (by simp_all [withE,whenE];split<;>split<;>omega)
 ·refine .inl ?_
  conv=>whnf
  refine ⟨_,q_When ..,?_⟩
  conv=>whnf
  exact int_eq (by simp_all [withE,whenE])
theorem q_First (l:List Int) (hl:l.length < 4611686018427387904):PC 48 [iL l] (DV.int .i64 (firstE l)):=by
 refine pureCall_ofR dh48 rfl ?_
 conv=>whnf
 refine dwp_loopR (P:=Tryz.prog) (G:=GC) (k:=dk48_0) (b:=db48_0) (α:=Nat) (fun i=>[(0,iL l),(3,DV.int .i64 (i))]) (fun _=>[]) (fun i=>i≤l.length∧firstE l=firstE (l.drop i)) (fun i=>l.length - i) 0 ⟨rfl,rfl,rfl⟩ ⟨Nat.zero_le _,rfl⟩ ?_
 intro i ⟨h1,h2⟩
 conv=>whnf
 refine ⟨fun hb=>?_,fun hb=>?_⟩<;>try (exact absurd hb (by decide))
 ·have hi:i < l.length:=by simpa using hb
  have hd:=firstE_drop l i hi
  conv=>whnf
  rw [getD_enc _ _ (i) 0 hi]
  refine ⟨idxA hi rfl,?_⟩
  conv=>whnf
  refine ⟨fun hb=>?_,fun hb=>?_⟩<;>try (exact absurd hb (by decide))
  ·conv=>whnf
   rw [getD_enc _ _ (i) 0 hi]
   refine ⟨idxA hi rfl,?_⟩
   conv=>whnf
   exact int_eq (by simp_all)
  ·conv=>whnf
   rw [wrap_succ i (by omega)]
   exact ⟨i+1,rfl,rfl,rfl,⟨hi,by simp_all⟩,by omega⟩
 ·conv=>whnf
  have:i=l.length:=by simp at hb;omega
  subst this
  exact int_eq (by rw [h2];simp [firstE])
end Sh

namespace Sh
open Go Go.Proofs
theorem firstE_two (a b:Int) (r:List Int):firstE (a :: b :: r)=if firstE [a,b]≠0 then firstE [a,b] else firstE r:=by
 simp only [firstE]
 split
 ·rfl
 ·split<;>rfl
theorem r_CheckDays (l:List Dy) (hl:l.length < 1073741824):PC 30 [dysV l] (DV.int .i64 (chkDs l)):=by
 have e0:((l.map encD).length:Int)=l.length:=by simp
 have hk:chkDs l=if firstE [whenE (decide (((l.map encD).length:Int)=0)) 12,whenE (decide ((64:Int) < ((l.map encD).length:Int))) 5]≠0 then firstE [whenE (decide (((l.map encD).length:Int)=0)) 12,whenE (decide ((64:Int) < ((l.map encD).length:Int))) 5] else firstE (l.map chkDy):=by
  unfold chkDs
  rw [firstE_two,firstE_one,e0,show decide ((l.length:Int)=0)=decide (l.length=0) by rw [decide_eq_decide];omega,show decide ((64:Int) < l.length)=decide (64 < l.length) by rw [decide_eq_decide];omega]
 refine pureCall_ofR dh30 rfl ?_
 conv=>whnf
 repeat' (first
  |(refine ⟨fun hg=>?_,fun hg=>?_⟩<;>first|contradiction|(conv=>whnf))
  |(refine Or.inl ?_;conv=>whnf)
  |(refine ⟨_,q_When ..,?_⟩;conv=>whnf)
  |(refine ⟨_,q_First [_,_] (by simp),?_⟩;conv=>whnf)
  |(refine And.intro ?_ ?_;kernel_rfl;conv=>whnf))
 ·have hg:=of_decide_eq_true hg
  exact int_eq (by rw [hk,if_pos hg])
 ·have hg:=of_decide_eq_false hg
  rw [if_neg hg] at hk
  clear hg
  refine dwp_loopU (P:=Tryz.prog) (G:=GC) (k:=dk30_0) (b:=db30_0) (α:=Nat) (fun i=>[(4,DV.int .i64 (i))]) (fun _=>[]) (fun i=>i≤l.length∧chkDs l=firstE ((l.map chkDy).drop i)) (fun i=>l.length - i) 0 ⟨Nat.zero_le _,hk⟩ ?_
  conv=>whnf
  refine ⟨rfl,rfl,?_⟩
  conv=>whnf
  refine ⟨rfl,?_⟩
  intro i ⟨h1,h2⟩
  conv=>whnf
  refine ⟨fun hb=>?_,fun hb=>?_⟩
  ·have hi:i < l.length:=by simpa using hb
   have hd:=firstE_drop (l.map chkDy) i (by simpa using hi)
   rw [show (l.map chkDy).getD i 0=chkDy (l.getD i D0) by simp [List.getD_eq_getElem?_getD,hi]] at hd
   clear hb
   conv=>whnf
   repeat' (first
    |(refine ⟨fun hg=>?_,fun hg=>?_⟩<;>first|contradiction|(conv=>whnf))
    |(refine Or.inl ?_;conv=>whnf)
    |(refine ⟨_,q_CheckRange ..,?_⟩;conv=>whnf)
    |(refine ⟨_,q_First [_,_,_] (by simp),?_⟩;conv=>whnf)
    |(rw [getD_enc _ _ i D0 hi];refine ⟨idxA hi rfl,?_⟩;conv=>whnf)
    |(refine And.intro ?_ ?_;kernel_rfl;conv=>whnf))
   ·have hg:chkDy (l.getD i D0)≠0:=of_decide_eq_true hg
    rw [if_pos hg] at hd
    exact int_eq (by rw [h2,hd];rfl)
   ·have hg:¬ chkDy (l.getD i D0)≠0:=of_decide_eq_false hg
    rw [if_neg hg] at hd
    rw [wrap_succ i (by omega)]
    exact ⟨i+1,rfl,rfl,rfl,⟨hi,by rw [h2,hd]⟩,by omega⟩
  ·have hi:i=l.length:=by have:=of_decide_eq_false hb;rw [e0] at this;omega
   clear hb
   conv=>whnf
   exact int_eq (by rw [h2,hi,List.drop_of_length_le (by simp)];rfl)
end Sh

namespace Sh
open Go
theorem itoa_neg' {u:Nat} (h:0 < u):Lib.itoa (-(u:Int))=45 :: Lib.decDigits u:=by
 unfold Lib.itoa;rw [if_pos (by omega)];simp
end Sh

namespace Sh
open Go
def db29_0 : DC := (.seq (.ops false [⟨some 9,.bin .lss (.tmp 8) (.tmp 7),none,[]⟩]) (.seq (.cond (.tmp 9) .skip (.exit 0)) (.seq (.block 1 none (.seq (.ops false [⟨some 10,.iaddr 3 (.tmp 6) (.tmp 8),none,[]⟩,⟨some 11,.load (some 3) (.tmp 10),none,[]⟩,⟨some 5,.alloc (.agg [.int .i64 0,.int .i64 0,.int .i64 0]) 3,none,[]⟩,⟨none,.store 3 (.tmp 5) (.tmp 11),none,[]⟩]) (.ops false [⟨some 12,.mov (.tmp 3),none,[]⟩,⟨some 13,.load (some 3) (.tmp 5),none,[]⟩,⟨some 14,.lit true 3 1 (.agg [.int .i64 0,.int .i64 0,.int .i64 0]) [(0,(.tmp 13))],none,[]⟩,⟨some 15,.append false 3 (.tmp 12) (.tmp 14),none,[]⟩,⟨some 3,.mov (.tmp 15),none,[]⟩]))) (.ops false [⟨some 16,.bin .add (.tmp 8) (.const (.int .i64 1)),none,[]⟩,⟨some 8,.mov (.tmp 16),none,[]⟩]))))
def dk29_0 : Keep := ⟨[(3,3)],[3,6,7,8],[3]⟩
def dc29 : DFunc := ⟨18,1,[.tmp 2],.seq (.ops false [⟨some 2,.mov (.const (.slice none 0 0)),none,[]⟩]) (.seq (.ops false [⟨some 3,.mov (.const (.slice none 0 0)),none,[]⟩]) (.seq (.seq (.ops false [⟨some 6,.mov (.tmp 0),none,[]⟩,⟨some 7,.len (.tmp 6),none,[]⟩,⟨some 8,.mov (.const (.int .i64 0)),none,[]⟩]) (.block 0 (some ⟨[],[3],[3]⟩) (.loop dk29_0 db29_0))) (.seq (.ops false [⟨some 17,.mov (.tmp 3),none,[]⟩,⟨some 2,.mov (.tmp 17),none,[]⟩]) .ret)))⟩
theorem dh29:cProg Go.Proofs.Tryz.prog ⟨[(0,⟨[(3,3)],[3,6,7,8],[3]⟩)],[(0,⟨[],[3],[3]⟩)],[14]⟩ 29=some dc29:=by kernel_rfl
def db78_0 : DC := (.seq (.seq (.ops false [⟨some 5,.mov (.tmp 4),none,[]⟩,⟨some 6,.mov (.tmp 0),none,[]⟩,⟨some 7,.len (.tmp 6),none,[]⟩,⟨some 8,.bin .lss (.tmp 5) (.tmp 7),none,[]⟩]) (.cond (.tmp 8) .skip (.exit 0))) (.seq (.block 1 none (.ops true [⟨some 11,.mov (.tmp 3),none,[]⟩,⟨some 12,.bin .add (.tmp 11) (.const (.string ⟨#[100,97,121,32]⟩)),none,[0]⟩,⟨some 13,.mov (.tmp 0),none,[]⟩,⟨some 14,.mov (.tmp 4),none,[]⟩,⟨some 15,.iaddr 3 (.tmp 13) (.tmp 14),none,[2,3]⟩,⟨some 16,.faddr 0 1 false (.tmp 15),none,[4,2,3]⟩,⟨some 17,.load none (.tmp 16),none,[5,4,2,3]⟩,⟨some 18,.call (.func 143) [.tmp 17],none,[6,5,4,2,3]⟩,⟨some 19,.bin .add (.tmp 12) (.tmp 18),none,[1,0,7,6,5,4,2,3]⟩,⟨some 20,.bin .add (.tmp 19) (.const (.string ⟨#[32]⟩)),none,[8,1,0,7,6,5,4,2,3]⟩,⟨some 21,.mov (.tmp 0),none,[]⟩,⟨some 22,.mov (.tmp 4),none,[]⟩,⟨some 23,.iaddr 3 (.tmp 21) (.tmp 22),none,[10,11]⟩,⟨some 24,.faddr 1 1 false (.tmp 23),none,[12,10,11]⟩,⟨some 25,.load none (.tmp 24),none,[13,12,10,11]⟩,⟨some 26,.call (.func 143) [.tmp 25],none,[14,13,12,10,11,7,6,5,4,2,3]⟩,⟨some 27,.bin .add (.tmp 20) (.tmp 26),none,[9,8,1,0,7,6,5,4,2,3,15,14,13,12,10,11]⟩,⟨some 28,.bin .add (.tmp 27) (.const (.string ⟨#[32]⟩)),none,[16,9,8,1,0,7,6,5,4,2,3,15,14,13,12,10,11]⟩,⟨some 29,.mov (.tmp 0),none,[]⟩,⟨some 30,.mov (.tmp 4),none,[]⟩,⟨some 31,.iaddr 3 (.tmp 29) (.tmp 30),none,[18,19]⟩,⟨some 32,.faddr 2 1 false (.tmp 31),none,[20,18,19]⟩,⟨some 33,.load none (.tmp 32),none,[21,20,18,19]⟩,⟨some 34,.call (.func 143) [.tmp 33],none,[22,21,20,18,19,15,14,13,12,10,11,7,6,5,4,2,3]⟩,⟨some 35,.bin .add (.tmp 28) (.tmp 34),none,[17,16,9,8,1,0,7,6,5,4,2,3,15,14,13,12,10,11,23,22,21,20,18,19]⟩,⟨some 36,.bin .add (.tmp 35) (.const (.string ⟨#[10]⟩)),none,[24,17,16,9,8,1,0,7,6,5,4,2,3,15,14,13,12,10,11,23,22,21,20,18,19]⟩,⟨some 3,.mov (.tmp 36),none,[25,24,17,16,9,8,1,0,7,6,5,4,2,3,15,14,13,12,10,11,23,22,21,20,18,19]⟩])) (.ops false [⟨some 9,.mov (.tmp 4),none,[]⟩,⟨some 10,.bin .add (.tmp 9) (.const (.int .i64 1)),none,[]⟩,⟨some 4,.mov (.tmp 10),none,[]⟩])))
def dk78_0 : Keep := ⟨[],[0,3,4],[]⟩
def dc78 : DFunc := ⟨38,1,[.tmp 2],.seq (.ops false [⟨some 2,.mov (.const (.string ⟨#[]⟩)),none,[]⟩]) (.seq (.ops false [⟨some 3,.mov (.const (.string ⟨#[]⟩)),none,[]⟩]) (.seq (.seq (.ops false [⟨some 4,.mov (.const (.int .i64 0)),none,[]⟩]) (.block 0 (some ⟨[],[3],[]⟩) (.loop dk78_0 db78_0))) (.seq (.ops false [⟨some 37,.mov (.tmp 3),none,[]⟩,⟨some 2,.mov (.tmp 37),none,[]⟩]) .ret)))⟩
theorem dh78:cProg Go.Proofs.Tryz.prog ⟨[(0,⟨[],[0,3,4],[]⟩)],[(0,⟨[],[3],[]⟩)],[]⟩ 78=some dc78:=by kernel_rfl
def db79_0 : DC := (.seq (.seq (.ops false [⟨some 25,.mov (.tmp 8),none,[]⟩,⟨some 26,.mov (.tmp 6),none,[]⟩,⟨some 27,.bin .lss (.tmp 25) (.tmp 26),none,[]⟩]) (.cond (.tmp 27) .skip (.exit 0))) (.seq (.block 1 none (.seq (.ops false [⟨some 30,.mov (.tmp 5),none,[]⟩,⟨some 31,.mov (.tmp 8),none,[]⟩,⟨some 32,.iaddr 1 (.tmp 30) (.tmp 31),none,[]⟩,⟨some 33,.load none (.tmp 32),none,[]⟩,⟨some 34,.call (.func 85) [.tmp 33,.const (.int .u8 32)],none,[]⟩,⟨some 9,.mov (.tmp 34),none,[]⟩]) (.seq (.seq (.ops false [⟨some 35,.mov (.tmp 9),none,[]⟩,⟨some 36,.len (.tmp 35),none,[]⟩,⟨some 37,.bin .neq (.tmp 36) (.const (.int .i64 4)),none,[]⟩,⟨some 38,.mov (.tmp 37),none,[]⟩,⟨some 39,.mov (.tmp 9),some (38,false),[]⟩,⟨some 40,.iaddr 1 (.tmp 39) (.const (.int .i64 0)),some (38,false),[]⟩,⟨some 41,.load none (.tmp 40),some (38,false),[]⟩,⟨some 42,.bin .neq (.tmp 41) (.const (.string ⟨#[100,97,121]⟩)),some (38,false),[]⟩,⟨some 43,.pick (.tmp 38) (.const (.bool true)) (.tmp 42),none,[]⟩]) (.cond (.tmp 43) (.seq (.ops false [⟨some 44,.mov (.tmp 8),none,[]⟩,⟨some 2,.mov (.const (.slice none 0 0)),none,[]⟩,⟨some 3,.mov (.tmp 44),none,[]⟩,⟨some 4,.mov (.const (.int .i64 25)),none,[]⟩]) .ret) .skip)) (.seq (.ops false [⟨some 46,.mov (.tmp 9),none,[]⟩,⟨some 47,.iaddr 1 (.tmp 46) (.const (.int .i64 1)),none,[]⟩,⟨some 48,.load none (.tmp 47),none,[]⟩,⟨some 49,.call (.func 144) [.tmp 48],none,[]⟩,⟨some 45,.mov (.tmp 49),none,[]⟩,⟨some 50,.extract (.tmp 45) 0,none,[]⟩,⟨some 51,.extract (.tmp 45) 1,none,[]⟩,⟨some 10,.mov (.tmp 50),none,[]⟩,⟨some 11,.mov (.tmp 51),none,[]⟩]) (.seq (.ops false [⟨some 53,.mov (.tmp 9),none,[]⟩,⟨some 54,.iaddr 1 (.tmp 53) (.const (.int .i64 2)),none,[]⟩,⟨some 55,.load none (.tmp 54),none,[]⟩,⟨some 56,.call (.func 144) [.tmp 55],none,[]⟩,⟨some 52,.mov (.tmp 56),none,[]⟩,⟨some 57,.extract (.tmp 52) 0,none,[]⟩,⟨some 58,.extract (.tmp 52) 1,none,[]⟩,⟨some 12,.mov (.tmp 57),none,[]⟩,⟨some 13,.mov (.tmp 58),none,[]⟩]) (.seq (.ops false [⟨some 60,.mov (.tmp 9),none,[]⟩,⟨some 61,.iaddr 1 (.tmp 60) (.const (.int .i64 3)),none,[]⟩,⟨some 62,.load none (.tmp 61),none,[]⟩,⟨some 63,.call (.func 144) [.tmp 62],none,[]⟩,⟨some 59,.mov (.tmp 63),none,[]⟩,⟨some 64,.extract (.tmp 59) 0,none,[]⟩,⟨some 65,.extract (.tmp 59) 1,none,[]⟩,⟨some 14,.mov (.tmp 64),none,[]⟩,⟨some 15,.mov (.tmp 65),none,[]⟩]) (.seq (.seq (.ops false [⟨some 66,.mov (.tmp 11),none,[]⟩,⟨some 67,.un .not (.tmp 66),none,[]⟩,⟨some 68,.mov (.tmp 67),none,[]⟩,⟨some 69,.mov (.tmp 13),some (68,false),[]⟩,⟨some 70,.un .not (.tmp 69),some (68,false),[]⟩,⟨some 71,.pick (.tmp 68) (.const (.bool true)) (.tmp 70),none,[]⟩,⟨some 72,.mov (.tmp 71),none,[]⟩,⟨some 73,.mov (.tmp 15),some (72,false),[]⟩,⟨some 74,.un .not (.tmp 73),some (72,false),[]⟩,⟨some 75,.pick (.tmp 72) (.const (.bool true)) (.tmp 74),none,[]⟩]) (.cond (.tmp 75) (.seq (.ops false [⟨some 76,.mov (.tmp 8),none,[]⟩,⟨some 2,.mov (.const (.slice none 0 0)),none,[]⟩,⟨some 3,.mov (.tmp 76),none,[]⟩,⟨some 4,.mov (.const (.int .i64 25)),none,[]⟩]) .ret) .skip)) (.ops false [⟨some 77,.mov (.tmp 7),none,[]⟩,⟨some 78,.mov (.tmp 10),none,[]⟩,⟨some 79,.mov (.tmp 12),none,[]⟩,⟨some 80,.mov (.tmp 14),none,[]⟩,⟨some 81,.build [.int .i64 0,.int .i64 0,.int .i64 0] [(0,(1,(.tmp 78))),(1,(1,(.tmp 79))),(2,(1,(.tmp 80)))],none,[]⟩,⟨some 82,.lit true 3 1 (.agg [.int .i64 0,.int .i64 0,.int .i64 0]) [(0,(.tmp 81))],none,[]⟩,⟨some 83,.append false 3 (.tmp 77) (.tmp 82),none,[]⟩,⟨some 7,.mov (.tmp 83),none,[]⟩])))))))) (.ops false [⟨some 28,.mov (.tmp 8),none,[]⟩,⟨some 29,.bin .add (.tmp 28) (.const (.int .i64 1)),none,[]⟩,⟨some 8,.mov (.tmp 29),none,[]⟩])))
def dk79_0 : Keep := ⟨[(7,3)],[5,6,7,8],[7]⟩
def dc79 : DFunc := ⟨97,1,[.tmp 2,.tmp 3,.tmp 4],.seq (.ops false [⟨some 2,.mov (.const (.slice none 0 0)),none,[]⟩,⟨some 3,.mov (.const (.int .i64 0)),none,[]⟩,⟨some 4,.mov (.const (.int .i64 0)),none,[]⟩]) (.seq (.seq (.ops false [⟨some 17,.mov (.tmp 0),none,[]⟩,⟨some 18,.lenS (.tmp 17),none,[]⟩,⟨some 19,.bin .gtr (.tmp 18) (.const (.int .i64 4096)),none,[]⟩]) (.cond (.tmp 19) (.seq (.ops false [⟨some 2,.mov (.const (.slice none 0 0)),none,[]⟩,⟨some 3,.mov (.const (.int .i64 0)),none,[]⟩,⟨some 4,.mov (.const (.int .i64 26)),none,[]⟩]) .ret) .skip)) (.seq (.ops false [⟨some 20,.mov (.tmp 0),none,[]⟩,⟨some 21,.call (.func 85) [.tmp 20,.const (.int .u8 10)],none,[]⟩,⟨some 5,.mov (.tmp 21),none,[]⟩]) (.seq (.ops false [⟨some 22,.mov (.tmp 5),none,[]⟩,⟨some 23,.len (.tmp 22),none,[]⟩,⟨some 24,.bin .sub (.tmp 23) (.const (.int .i64 1)),none,[]⟩,⟨some 6,.mov (.tmp 24),none,[]⟩]) (.seq (.ops false [⟨some 7,.mov (.const (.slice none 0 0)),none,[]⟩]) (.seq (.seq (.ops false [⟨some 8,.mov (.const (.int .i64 0)),none,[]⟩]) (.block 0 (some ⟨[],[5,6,7],[7]⟩) (.loop dk79_0 db79_0))) (.seq (.seq (.ops false [⟨some 84,.mov (.tmp 5),none,[]⟩,⟨some 85,.mov (.tmp 6),none,[]⟩,⟨some 86,.iaddr 1 (.tmp 84) (.tmp 85),none,[]⟩,⟨some 87,.load none (.tmp 86),none,[]⟩,⟨some 88,.bin .neq (.tmp 87) (.const (.string ⟨#[]⟩)),none,[]⟩]) (.cond (.tmp 88) (.seq (.ops false [⟨some 89,.mov (.tmp 6),none,[]⟩,⟨some 2,.mov (.const (.slice none 0 0)),none,[]⟩,⟨some 3,.mov (.tmp 89),none,[]⟩,⟨some 4,.mov (.const (.int .i64 25)),none,[]⟩]) .ret) .skip)) (.seq (.seq (.ops false [⟨some 90,.mov (.tmp 7),none,[]⟩,⟨some 91,.call (.func 30) [.tmp 90],none,[]⟩,⟨some 16,.mov (.tmp 91),none,[]⟩]) (.seq (.ops false [⟨some 92,.mov (.tmp 16),none,[]⟩,⟨some 93,.bin .neq (.tmp 92) (.const (.int .i64 0)),none,[]⟩]) (.cond (.tmp 93) (.seq (.ops false [⟨some 94,.mov (.tmp 6),none,[]⟩,⟨some 95,.mov (.tmp 16),none,[]⟩,⟨some 2,.mov (.const (.slice none 0 0)),none,[]⟩,⟨some 3,.mov (.tmp 94),none,[]⟩,⟨some 4,.mov (.tmp 95),none,[]⟩]) .ret) .skip))) (.seq (.ops false [⟨some 96,.mov (.tmp 7),none,[]⟩,⟨some 2,.mov (.tmp 96),none,[]⟩,⟨some 3,.mov (.const (.int .i64 0)),none,[]⟩,⟨some 4,.mov (.const (.int .i64 0)),none,[]⟩]) .ret))))))))⟩
theorem dh79:cProg Go.Proofs.Tryz.prog ⟨[(0,⟨[(7,3)],[5,6,7,8],[7]⟩)],[(0,⟨[],[5,6,7],[7]⟩)],[82]⟩ 79=some dc79:=by kernel_rfl
def db80_0 : DC := (.seq (.seq (.ops false [⟨some 11,.mov (.tmp 5),none,[]⟩,⟨some 12,.mov (.tmp 0),none,[]⟩,⟨some 13,.len (.tmp 12),none,[]⟩,⟨some 14,.bin .lss (.tmp 11) (.tmp 13),none,[]⟩]) (.cond (.tmp 14) .skip (.exit 0))) (.seq (.block 1 none (.seq (.ops true [⟨some 17,.mov (.tmp 0),none,[]⟩,⟨some 18,.mov (.tmp 5),none,[]⟩,⟨some 19,.iaddr 3 (.tmp 17) (.tmp 18),none,[0,1]⟩,⟨some 20,.load (some 3) (.tmp 19),none,[2,0,1]⟩,⟨some 21,.mov (.tmp 1),none,[]⟩,⟨some 22,.mov (.tmp 5),none,[]⟩,⟨some 23,.iaddr 3 (.tmp 21) (.tmp 22),none,[4,5]⟩,⟨some 24,.load (some 3) (.tmp 23),none,[6,4,5]⟩,⟨some 25,.eqA true [1,1,1] (.tmp 20) (.tmp 24),none,[3,2,0,1,7,6,4,5]⟩]) (.cond (.tmp 25) (.seq (.ops false [⟨some 4,.mov (.const (.bool false)),none,[]⟩]) .ret) .skip))) (.ops false [⟨some 15,.mov (.tmp 5),none,[]⟩,⟨some 16,.bin .add (.tmp 15) (.const (.int .i64 1)),none,[]⟩,⟨some 5,.mov (.tmp 16),none,[]⟩])))
def dk80_0 : Keep := ⟨[],[0,1,5],[]⟩
def dc80 : DFunc := ⟨26,2,[.tmp 4],.seq (.ops false [⟨some 4,.mov (.const (.bool false)),none,[]⟩]) (.seq (.seq (.ops false [⟨some 6,.mov (.tmp 0),none,[]⟩,⟨some 7,.len (.tmp 6),none,[]⟩,⟨some 8,.mov (.tmp 1),none,[]⟩,⟨some 9,.len (.tmp 8),none,[]⟩,⟨some 10,.bin .neq (.tmp 7) (.tmp 9),none,[]⟩]) (.cond (.tmp 10) (.seq (.ops false [⟨some 4,.mov (.const (.bool false)),none,[]⟩]) .ret) .skip)) (.seq (.seq (.ops false [⟨some 5,.mov (.const (.int .i64 0)),none,[]⟩]) (.block 0 (some ⟨[],[],[]⟩) (.loop dk80_0 db80_0))) (.seq (.ops false [⟨some 4,.mov (.const (.bool true)),none,[]⟩]) .ret)))⟩
theorem dh80:cProg Go.Proofs.Tryz.prog ⟨[(0,⟨[],[0,1,5],[]⟩)],[(0,⟨[],[],[]⟩)],[]⟩ 80=some dc80:=by kernel_rfl
def db81_0 : DC := (.seq (.ops false [⟨some 9,.bin .lss (.tmp 8) (.tmp 7),none,[]⟩]) (.seq (.cond (.tmp 9) .skip (.exit 0)) (.seq (.block 1 none (.seq (.ops false [⟨some 10,.iaddr 3 (.tmp 6) (.tmp 8),none,[]⟩,⟨some 11,.load (some 3) (.tmp 10),none,[]⟩,⟨some 5,.alloc (.agg [.int .i64 0,.int .i64 0,.int .i64 0]) 3,none,[]⟩,⟨none,.store 3 (.tmp 5) (.tmp 11),none,[]⟩]) (.ops false [⟨some 12,.mov (.tmp 3),none,[]⟩,⟨some 13,.load (some 3) (.tmp 5),none,[]⟩,⟨some 14,.lit true 3 1 (.agg [.int .i64 0,.int .i64 0,.int .i64 0]) [(0,(.tmp 13))],none,[]⟩,⟨some 15,.append false 3 (.tmp 12) (.tmp 14),none,[]⟩,⟨some 3,.mov (.tmp 15),none,[]⟩]))) (.ops false [⟨some 16,.bin .add (.tmp 8) (.const (.int .i64 1)),none,[]⟩,⟨some 8,.mov (.tmp 16),none,[]⟩]))))
def dk81_0 : Keep := ⟨[(3,3)],[3,6,7,8],[3]⟩
def dc81 : DFunc := ⟨18,1,[.tmp 2],.seq (.ops false [⟨some 2,.mov (.const (.slice none 0 0)),none,[]⟩]) (.seq (.ops false [⟨some 3,.mov (.const (.slice none 0 0)),none,[]⟩]) (.seq (.seq (.ops false [⟨some 6,.mov (.tmp 0),none,[]⟩,⟨some 7,.len (.tmp 6),none,[]⟩,⟨some 8,.mov (.const (.int .i64 0)),none,[]⟩]) (.block 0 (some ⟨[],[3],[3]⟩) (.loop dk81_0 db81_0))) (.seq (.ops false [⟨some 17,.mov (.tmp 3),none,[]⟩,⟨some 2,.mov (.tmp 17),none,[]⟩]) .ret)))⟩
theorem dh81:cProg Go.Proofs.Tryz.prog ⟨[(0,⟨[(3,3)],[3,6,7,8],[3]⟩)],[(0,⟨[],[3],[3]⟩)],[14]⟩ 81=some dc81:=by kernel_rfl
def db85_0 : DC := (.seq (.seq (.ops false [⟨some 8,.mov (.tmp 7),none,[]⟩,⟨some 9,.mov (.tmp 0),none,[]⟩,⟨some 10,.lenS (.tmp 9),none,[]⟩,⟨some 11,.bin .lss (.tmp 8) (.tmp 10),none,[]⟩]) (.cond (.tmp 11) .skip (.exit 0))) (.seq (.block 1 none (.seq (.ops false [⟨some 14,.mov (.tmp 0),none,[]⟩,⟨some 15,.mov (.tmp 7),none,[]⟩,⟨some 16,.indexS (.tmp 14) (.tmp 15),none,[]⟩,⟨some 17,.mov (.tmp 1),none,[]⟩,⟨some 18,.bin .eql (.tmp 16) (.tmp 17),none,[]⟩]) (.cond (.tmp 18) (.seq (.ops false [⟨some 19,.mov (.tmp 5),none,[]⟩,⟨some 20,.mov (.tmp 0),none,[]⟩,⟨some 21,.mov (.tmp 6),none,[]⟩,⟨some 22,.mov (.tmp 7),none,[]⟩,⟨some 23,.sliceS (.tmp 20) (some (.tmp 21)) (some (.tmp 22)),none,[]⟩,⟨some 24,.lit true 1 1 (.str []) [(0,(.tmp 23))],none,[]⟩,⟨some 25,.append false 1 (.tmp 19) (.tmp 24),none,[]⟩,⟨some 5,.mov (.tmp 25),none,[]⟩]) (.ops false [⟨some 26,.mov (.tmp 7),none,[]⟩,⟨some 27,.bin .add (.tmp 26) (.const (.int .i64 1)),none,[]⟩,⟨some 6,.mov (.tmp 27),none,[]⟩])) .skip))) (.ops false [⟨some 12,.mov (.tmp 7),none,[]⟩,⟨some 13,.bin .add (.tmp 12) (.const (.int .i64 1)),none,[]⟩,⟨some 7,.mov (.tmp 13),none,[]⟩])))
def dk85_0 : Keep := ⟨[(5,1)],[0,1,5,6,7],[5,32,33]⟩
def dc85 : DFunc := ⟨34,2,[.tmp 4],.seq (.ops false [⟨some 4,.mov (.const (.slice none 0 0)),none,[]⟩]) (.seq (.ops false [⟨some 5,.mov (.const (.slice none 0 0)),none,[]⟩]) (.seq (.ops false [⟨some 6,.mov (.const (.int .i64 0)),none,[]⟩]) (.seq (.seq (.ops false [⟨some 7,.mov (.const (.int .i64 0)),none,[]⟩]) (.block 0 (some ⟨[],[0,5,6],[5,32,33]⟩) (.loop dk85_0 db85_0))) (.seq (.ops false [⟨some 28,.mov (.tmp 5),none,[]⟩,⟨some 29,.mov (.tmp 0),none,[]⟩,⟨some 30,.mov (.tmp 6),none,[]⟩,⟨some 31,.sliceS (.tmp 29) (some (.tmp 30)) none,none,[]⟩,⟨some 32,.lit true 1 1 (.str []) [(0,(.tmp 31))],none,[]⟩,⟨some 33,.append false 1 (.tmp 28) (.tmp 32),none,[]⟩,⟨some 4,.mov (.tmp 33),none,[]⟩]) .ret))))⟩
theorem dh85:cProg Go.Proofs.Tryz.prog ⟨[(0,⟨[(5,1)],[0,1,5,6,7],[5,32,33]⟩)],[(0,⟨[],[0,5,6],[5,32,33]⟩)],[24,32]⟩ 85=some dc85:=by kernel_rfl
def db143_0 : DC := (.seq (.seq (.ops false [⟨some 8,.mov (.tmp 4),none,[]⟩,⟨some 9,.bin .neq (.tmp 8) (.const (.int .i64 0)),none,[]⟩]) (.cond (.tmp 9) .skip (.exit 0))) (.seq (.block 1 none (.ops false [⟨some 12,.mov (.tmp 4),none,[]⟩,⟨some 13,.bin .rem (.tmp 12) (.const (.int .i64 10)),none,[]⟩,⟨some 14,.mov (.tmp 4),none,[]⟩,⟨some 15,.bin .rem (.tmp 14) (.const (.int .i64 10)),none,[]⟩,⟨some 16,.bin .sub (.const (.int .i64 0)) (.tmp 15),none,[]⟩,⟨some 17,.minmax true (.tmp 13) [.tmp 16],none,[]⟩,⟨some 18,.bin .add (.const (.int .i64 48)) (.tmp 17),none,[]⟩,⟨some 19,.conv .u8 (.tmp 18),none,[]⟩,⟨some 20,.lit true 1 1 (.int .u8 0) [(0,(.tmp 19))],none,[]⟩,⟨some 21,.strOf (.tmp 20),none,[]⟩,⟨some 22,.mov (.tmp 3),none,[]⟩,⟨some 23,.bin .add (.tmp 21) (.tmp 22),none,[]⟩,⟨some 3,.mov (.tmp 23),none,[]⟩])) (.ops false [⟨some 10,.mov (.tmp 4),none,[]⟩,⟨some 11,.bin .quo (.tmp 10) (.const (.int .i64 10)),none,[]⟩,⟨some 4,.mov (.tmp 11),none,[]⟩])))
def dk143_0 : Keep := ⟨[],[0,3,4],[]⟩
def dc143 : DFunc := ⟨29,1,[.tmp 2],.seq (.ops false [⟨some 2,.mov (.const (.string ⟨#[]⟩)),none,[]⟩]) (.seq (.seq (.ops false [⟨some 5,.mov (.tmp 0),none,[]⟩,⟨some 6,.bin .eql (.tmp 5) (.const (.int .i64 0)),none,[]⟩]) (.cond (.tmp 6) (.seq (.ops false [⟨some 2,.mov (.const (.string ⟨#[48]⟩)),none,[]⟩]) .ret) .skip)) (.seq (.ops false [⟨some 3,.mov (.const (.string ⟨#[]⟩)),none,[]⟩]) (.seq (.seq (.ops false [⟨some 7,.mov (.tmp 0),none,[]⟩,⟨some 4,.mov (.tmp 7),none,[]⟩]) (.block 0 (some ⟨[],[0,3],[]⟩) (.loop dk143_0 db143_0))) (.seq (.seq (.ops false [⟨some 24,.mov (.tmp 0),none,[]⟩,⟨some 25,.bin .lss (.tmp 24) (.const (.int .i64 0)),none,[]⟩]) (.cond (.tmp 25) (.seq (.ops false [⟨some 26,.mov (.tmp 3),none,[]⟩,⟨some 27,.bin .add (.const (.string ⟨#[45]⟩)) (.tmp 26),none,[]⟩,⟨some 2,.mov (.tmp 27),none,[]⟩]) .ret) .skip)) (.seq (.ops false [⟨some 28,.mov (.tmp 3),none,[]⟩,⟨some 2,.mov (.tmp 28),none,[]⟩]) .ret)))))⟩
theorem dh143:cProg Go.Proofs.Tryz.prog ⟨[(0,⟨[],[0,3,4],[]⟩)],[(0,⟨[],[0,3],[]⟩)],[20]⟩ 143=some dc143:=by kernel_rfl
def db144_0 : DC := (.seq (.seq (.ops false [⟨some 23,.mov (.tmp 5),none,[]⟩,⟨some 24,.mov (.tmp 0),none,[]⟩,⟨some 25,.lenS (.tmp 24),none,[]⟩,⟨some 26,.bin .lss (.tmp 23) (.tmp 25),none,[]⟩]) (.cond (.tmp 26) .skip (.exit 0))) (.seq (.block 1 none (.seq (.seq (.ops false [⟨some 29,.mov (.tmp 0),none,[]⟩,⟨some 30,.mov (.tmp 5),none,[]⟩,⟨some 31,.indexS (.tmp 29) (.tmp 30),none,[]⟩,⟨some 32,.bin .lss (.tmp 31) (.const (.int .u8 48)),none,[]⟩,⟨some 33,.mov (.tmp 32),none,[]⟩,⟨some 34,.mov (.tmp 0),some (33,false),[]⟩,⟨some 35,.mov (.tmp 5),some (33,false),[]⟩,⟨some 36,.indexS (.tmp 34) (.tmp 35),some (33,false),[]⟩,⟨some 37,.bin .gtr (.tmp 36) (.const (.int .u8 57)),some (33,false),[]⟩,⟨some 38,.pick (.tmp 33) (.const (.bool true)) (.tmp 37),none,[]⟩]) (.cond (.tmp 38) (.seq (.ops false [⟨some 2,.mov (.const (.int .i64 0)),none,[]⟩,⟨some 3,.mov (.const (.bool false)),none,[]⟩]) .ret) .skip)) (.ops false [⟨some 39,.mov (.tmp 4),none,[]⟩,⟨some 40,.bin .mul (.const (.int .i64 10)) (.tmp 39),none,[]⟩,⟨some 41,.mov (.tmp 0),none,[]⟩,⟨some 42,.mov (.tmp 5),none,[]⟩,⟨some 43,.indexS (.tmp 41) (.tmp 42),none,[]⟩,⟨some 44,.bin .sub (.tmp 43) (.const (.int .u8 48)),none,[]⟩,⟨some 45,.conv .i64 (.tmp 44),none,[]⟩,⟨some 46,.bin .add (.tmp 40) (.tmp 45),none,[]⟩,⟨some 4,.mov (.tmp 46),none,[]⟩]))) (.ops false [⟨some 27,.mov (.tmp 5),none,[]⟩,⟨some 28,.bin .add (.tmp 27) (.const (.int .i64 1)),none,[]⟩,⟨some 5,.mov (.tmp 28),none,[]⟩])))
def dk144_0 : Keep := ⟨[],[0,4,5],[]⟩
def dc144 : DFunc := ⟨48,1,[.tmp 2,.tmp 3],.seq (.ops false [⟨some 2,.mov (.const (.int .i64 0)),none,[]⟩,⟨some 3,.mov (.const (.bool false)),none,[]⟩]) (.seq (.seq (.ops false [⟨some 6,.mov (.tmp 0),none,[]⟩,⟨some 7,.bin .eql (.tmp 6) (.const (.string ⟨#[]⟩)),none,[]⟩,⟨some 8,.mov (.tmp 7),none,[]⟩,⟨some 9,.mov (.tmp 0),some (8,false),[]⟩,⟨some 10,.lenS (.tmp 9),some (8,false),[]⟩,⟨some 11,.bin .gtr (.tmp 10) (.const (.int .i64 9)),some (8,false),[]⟩,⟨some 12,.pick (.tmp 8) (.const (.bool true)) (.tmp 11),none,[]⟩,⟨some 13,.mov (.tmp 12),none,[]⟩,⟨some 14,.mov (.tmp 0),some (13,false),[]⟩,⟨some 15,.lenS (.tmp 14),some (13,false),[]⟩,⟨some 16,.bin .gtr (.tmp 15) (.const (.int .i64 1)),some (13,false),[]⟩,⟨some 17,.mov (.tmp 16),some (13,false),[]⟩,⟨some 18,.mov (.tmp 0),some (17,true),[]⟩,⟨some 19,.indexS (.tmp 18) (.const (.int .i64 0)),some (17,true),[]⟩,⟨some 20,.bin .eql (.tmp 19) (.const (.int .u8 48)),some (17,true),[]⟩,⟨some 21,.pick (.tmp 17) (.tmp 20) (.const (.bool false)),some (13,false),[]⟩,⟨some 22,.pick (.tmp 13) (.const (.bool true)) (.tmp 21),none,[]⟩]) (.cond (.tmp 22) (.seq (.ops false [⟨some 2,.mov (.const (.int .i64 0)),none,[]⟩,⟨some 3,.mov (.const (.bool false)),none,[]⟩]) .ret) .skip)) (.seq (.ops false [⟨some 4,.mov (.const (.int .i64 0)),none,[]⟩]) (.seq (.seq (.ops false [⟨some 5,.mov (.const (.int .i64 0)),none,[]⟩]) (.block 0 (some ⟨[],[4],[]⟩) (.loop dk144_0 db144_0))) (.seq (.ops false [⟨some 47,.mov (.tmp 4),none,[]⟩,⟨some 2,.mov (.tmp 47),none,[]⟩,⟨some 3,.mov (.const (.bool true)),none,[]⟩]) .ret))))⟩
theorem dh144:cProg Go.Proofs.Tryz.prog ⟨[(0,⟨[],[0,4,5],[]⟩)],[(0,⟨[],[4],[]⟩)],[]⟩ 144=some dc144:=by kernel_rfl
end Sh

namespace Sh
open Go Go.Proofs
theorem r_SameDays (l:List (Dy)) (hl:l.length < 1073741824):PC 80 [.list (l.map encD),.list (l.map encD)] (.bool true):=by
 have e0:((l.map encD).length:Int)=l.length:=by simp
 refine pureCall_ofR dh80 rfl ?_
 conv=>whnf
 refine ⟨fun hg=>absurd rfl (of_decide_eq_true hg),fun hg=>?_⟩
 clear hg
 conv=>whnf
 refine dwp_loopU (P:=Tryz.prog) (G:=GC) (k:=dk80_0) (b:=db80_0) (α:=Nat) (fun i=>[(5,DV.int .i64 (i))]) (fun _=>[]) (fun i=>i≤l.length) (fun i=>l.length - i) 0 (Nat.zero_le _) ?_
 conv=>whnf
 refine ⟨rfl,rfl,?_⟩
 conv=>whnf
 refine ⟨rfl,?_⟩
 intro i h1
 conv=>whnf
 refine ⟨fun hb=>?_,fun hb=>?_⟩
 ·have hi:i < l.length:=by simpa using hb
  clear hb
  conv=>whnf
  rw [getD_enc _ _ (i) D0 hi]
  refine ⟨idxA hi rfl,?_⟩
  conv=>whnf
  repeat' (first
   |(refine ⟨fun hg=>?_,fun hg=>?_⟩<;>first|contradiction|(conv=>whnf))
   |(refine Or.inl ?_;conv=>whnf)
   |(rw [getD_enc _ _ i D0 hi];refine ⟨idxA hi rfl,?_⟩;conv=>whnf)
   |(refine And.intro ?_ ?_;kernel_rfl;conv=>whnf))
  ·exfalso
   revert hg
   simp
  ·rw [wrap_succ i (by omega)]
   exact ⟨i+1,rfl,rfl,rfl,hi,by omega⟩
 ·clear hb
  conv=>whnf
  rfl
end Sh

namespace Go.Proofs
open Go.Shelf Go.RowKit
end Go.Proofs
namespace Sh
open Go Go.Proofs
theorem strs_get (l:List (List UInt8)) (i:Nat) (h:i < l.length):(l.map DV.str).getD (Int.toNat (i:Int)) .undef=.str (l.getD i []):=getD_enc _ _ i [] h
end Sh

namespace Sh
open Go
section
variable {α:Type}
theorem prtG_succ (ln:α→List UInt8) (l:List α) (i:Nat) (d:α) (h:i < l.length):prtG ln (l.take (i+1))=prtG ln (l.take i)++(ln (l.getD i d)++[10]):=by
 unfold prtG;rw [take_snoc l i d h,List.flatMap_append];simp
end
end Sh

namespace Sh
open Go Go.Proofs
theorem all_take {α:Type} (p:α→Bool) (l:List α) (i:Nat) (d:α) (hi:i < l.length) (h:(l.take i).all p=true) (h2:p (l.getD i d)=true):(l.take (i+1)).all p=true:=by
 rw [take_snoc l i d hi,List.all_append,h,List.all_cons,h2];rfl
theorem all_not {α:Type} (p:α→Bool) (l:List α) (i:Nat) (d:α) (hi:i < l.length) (h2:p (l.getD i d)=false):l.all p=false:=by
 rw [List.all_eq_false]
 exact ⟨_,getD_in d hi,by rw [h2];exact Bool.false_ne_true⟩
theorem q_Digits (s:List UInt8):PC 144 [.str s] (.tuple [DV.int .i64 ((digS s).1),.bool (digS s).2]):=by
 refine pureCall_ofR dh144 rfl ?_
 conv=>whnf
 have e8:∀ i:Nat,((s.getD i 0).toNat:Int) < 256:=fun i=>by have:=(s.getD i 0).toNat_lt;omega
 repeat' (first
  |(refine ⟨fun hg=>?_,fun hg=>?_⟩<;>first|contradiction|(conv=>whnf))
  |(refine Or.inl ?_;conv=>whnf)
  |(refine ⟨⟨by omega,by have:=of_decide_eq_true hg;omega⟩,?_⟩;conv=>whnf)
  |(refine And.intro ?_ ?_;kernel_rfl;conv=>whnf))
 all_goals (try (
  have hb:badD s=true:=by
   unfold badD
   first
   |(rw [show decide (s=[])=true from ‹decide (s=(⟨#[]⟩:ByteArray).data.toList)=!false›];rfl)
   |(have h9:=of_decide_eq_true (show decide (9 < (s.length:Int))=true from ‹(bif false then true else decide (9 < (s.length:Int)))=!false›)
     rw [decide_eq_true (show 9 < s.length by omega),Bool.or_true];rfl)
   |(have h1:=of_decide_eq_true ‹decide (1 < (s.length:Int))=true›
     have h2:((s.getD 0 0).toNat:Int)=48:=of_decide_eq_true hg
     have h3:s.getD 0 0=48:=UInt8.toNat_inj.1 (by have:(48:UInt8).toNat=48:=rfl;omega)
     rw [decide_eq_true (show 1 < s.length by omega),decide_eq_true h3,Bool.and_self,Bool.or_true])
  show DV.tuple [DV.int .i64 (0),.bool false]=_
  unfold digS
  rw [hb]
  rfl))
 all_goals
  have hb:badD s=false:=by
   unfold badD
   have h0:s≠[]:=fun e=>by
    have:=of_decide_eq_false (show decide (s=[])=false from ‹decide (s=(⟨#[]⟩:ByteArray).data.toList)=false›)
    exact this e
   have h9:=of_decide_eq_false (show decide (9 < (s.length:Int))=false from ‹(bif false then true else decide (9 < (s.length:Int)))=false›)
   rw [decide_eq_false h0,decide_eq_false (show ¬ 9 < s.length by omega)]
   first
   |(have h1:=of_decide_eq_false (show decide (1 < (s.length:Int))=false from ‹decide (1 < (s.length:Int))=!true›)
     rw [decide_eq_false (show ¬ 1 < s.length by omega)];rfl)
   |(have h2:¬ ((s.getD 0 0).toNat:Int)=48:=of_decide_eq_false hg
     have h3:¬ s.getD 0 0=48:=fun e=>h2 (by rw [e];rfl)
     rw [decide_eq_false h3,Bool.and_false];rfl)
 all_goals
  have h9:s.length≤9:=by
   have h9:=of_decide_eq_false (show decide (9 < (s.length:Int))=false from ‹(bif false then true else decide (9 < (s.length:Int)))=false›)
   omega
  have hdig:digS s=if s.all isD then (valD s 0,true) else (0,false):=by
   unfold digS
   rw [hb]
   cases s.all isD<;>rfl
  rw [hdig]
  clear hg hb hdig
  refine dwp_loopR (P:=Tryz.prog) (G:=GC) (k:=dk144_0) (b:=db144_0) (α:=Nat) (fun i=>[(0,.str s),(4,DV.int .i64 (valD (s.take i) 0)),(5,DV.int .i64 (i))]) (fun _=>[]) (fun i=>i≤s.length∧(s.take i).all isD=true) (fun i=>s.length - i) 0 ⟨rfl,rfl,rfl⟩ ⟨Nat.zero_le _,rfl⟩ ?_
  intro i ⟨h1,h2⟩
  have hvb:=valD_bd (s.take i) 0 0 h2 (Int.le_refl _) (by decide)
  have hpow:(10:Int) ^ (0+(s.take i).length)≤10 ^ 9:=by
   have hl:(s.take i).length≤9:=by simp;omega
   have:=Nat.pow_le_pow_right (n:=10) (by decide) (show 0+(s.take i).length≤9 by omega)
   exact_mod_cast this
  have h10:(10:Int) ^ 9=1000000000:=by decide
  conv=>whnf
  refine ⟨fun hb=>?_,fun hb=>?_⟩
  ·have hi:i < s.length:=by have:=of_decide_eq_true hb;omega
   clear hb
   conv=>whnf
   repeat' (first
    |(refine ⟨fun hg=>?_,fun hg=>?_⟩<;>first|contradiction|(conv=>whnf))
    |(refine Or.inl ?_;conv=>whnf)
    |(refine ⟨⟨by omega,by omega⟩,?_⟩;conv=>whnf)
    |(refine And.intro ?_ ?_;kernel_rfl;conv=>whnf))
   all_goals (try (
    have hn:isD (s.getD i 0)=false:=by
     unfold isD
     first
     |(have hq:57 < ((s.getD i 0).toNat:Int):=of_decide_eq_true hg
       rw [decide_eq_false (show ¬ (s.getD i 0).toNat≤57 by omega),Bool.and_false])
     |(have hq:((s.getD i 0).toNat:Int) < 48:=of_decide_eq_true ‹decide (((s.getD ((i:Int)).toNat 0).toNat:Int) < 48)=!false›
       rw [decide_eq_false (show ¬ 48≤(s.getD i 0).toNat by omega),Bool.false_and])
    rw [all_not isD s i 0 hi hn]
    rfl))
   have hq1:¬ 57 < ((s.getD i 0).toNat:Int):=of_decide_eq_false hg
   have hq2:¬ ((s.getD i 0).toNat:Int) < 48:=of_decide_eq_false ‹decide (((s.getD ((i:Int)).toNat 0).toNat:Int) < 48)=false›
   have hn:isD (s.getD i 0)=true:=by
    unfold isD
    rw [decide_eq_true (show 48≤(s.getD i 0).toNat by omega),decide_eq_true (show (s.getD i 0).toNat≤57 by omega)];rfl
   have hv:valD (s.take (i+1)) 0=10 * valD (s.take i) 0+(((s.getD i 0).toNat:Int) - 48):=by
    rw [take_snoc s i 0 hi,valD_append];rfl
   have w8:IntKind.u8.wrap (((s.getD i 0).toNat:Int) - 48)=((s.getD i 0).toNat:Int) - 48:=by
    generalize (s.getD i 0).toNat=c at *
    unfold IntKind.wrap
    simp [IntKind.signed,IntKind.bits]
    omega
   have hval:IntKind.i64.wrap (IntKind.i64.wrap (10 * valD (s.take i) 0)+IntKind.i64.wrap (IntKind.u8.wrap (((s.getD i 0).toNat:Int) - 48)))=valD (s.take (i+1)) 0:=by
    rw [hv,w8,wrap_W,wrap_W,wrap_W,W_in (n:=10 * valD (s.take i) 0) (by omega) (by omega),W_in (n:=((s.getD i 0).toNat:Int) - 48) (by omega) (by omega),W_in (by omega) (by omega)]
   rw [wrap_succ i (by omega)]
   refine ⟨i+1,rfl,congrArg (fun n=>[(0,DV.str s),(4,DV.int .i64 (n)),(5,DV.int .i64 (((i+1:Nat):Int)))]) hval,rfl,⟨hi,all_take isD s i 0 hi h2 hn⟩,by omega⟩
  ·have hi:i=s.length:=by have:=of_decide_eq_false hb;omega
   rw [hi,List.take_length] at h2
   clear hb
   rw [h2,hi,List.take_length]
   conv=>whnf
   rfl
theorem q_Split (s:List UInt8) (b:UInt8) (hs:s.length < 1073741824):PC 85 [.str s,.int .u8 (b.toNat)] (.list ((splitC b s).map DV.str)):=by
 refine pureCall_ofR dh85 rfl ?_
 conv=>whnf
 refine dwp_loopR (P:=Tryz.prog) (G:=GC) (k:=dk85_0) (b:=db85_0) (α:=List (List UInt8)×Nat×Nat) (fun a=>[(0,.str s),(1,.int .u8 (b.toNat)),(5,.own 5 0 (a.1.map DV.str).length (a.1.map DV.str).length),(6,DV.int .i64 ((a.2.1:Nat))),(7,DV.int .i64 ((a.2.2:Nat)))]) (fun a=>[(5,.row 1 (a.1.map DV.str) false)]) (fun a=>a.1.length≤a.2.2∧a.2.1≤a.2.2∧a.2.2≤s.length∧splitC b s=a.1++glue (window s a.2.1 (a.2.2 - a.2.1)) (splitC b (s.drop a.2.2))) (fun a=>s.length - a.2.2) ([],0,0) ⟨rfl,rfl,rfl⟩ ⟨Nat.le_refl _,Nat.le_refl _,Nat.zero_le _,(glue_nil (splitC_ne b s)).symm⟩ ?_
 intro ⟨O,f,i⟩ ⟨h0,h1,h2,h3⟩
 have h0:O.length≤i:=h0
 have h1:f≤i:=h1
 have h2:i≤s.length:=h2
 have h3:splitC b s=O++glue (window s f (i - f)) (splitC b (s.drop i)):=h3
 dsimp only
 conv=>whnf
 refine ⟨fun hb=>?_,fun hb=>?_⟩
 ·have hi:i < s.length:=by have:(i:Int) < s.length:=of_decide_eq_true hb;omega
  clear hb
  conv=>whnf
  refine ⟨⟨by omega,by omega⟩,?_⟩
  conv=>whnf
  refine ⟨fun hq=>?_,fun hq=>?_⟩
  ·have hq:((s.getD i 0).toNat:Int)=(b.toNat:Int):=of_decide_eq_true hq
   have hq:s.getD i 0=b:=UInt8.toNat_inj.1 (by omega)
   conv=>whnf
   refine ⟨⟨by omega,by omega,by omega⟩,?_⟩
   conv=>whnf
   rw [show Int.toNat ((i:Int) - (f:Int))=i - f by omega,Int.toNat_natCast]
   refine ⟨⟨rfl,rfl,rfl,by simp;omega,fun e he=>by simp at he;subst he;rfl⟩,?_⟩
   conv=>whnf
   rw [wrap_succ i (by omega)]
   have hO:(O++[window s f (i - f)]).map DV.str=O.map DV.str++[DV.str (window s f (i - f))]:=by simp
   refine ⟨(O++[window s f (i - f)],i+1,i+1),rfl,?_,?_,⟨?_,Nat.le_refl _,hi,?_⟩,?_⟩
   ·dsimp only;rw [hO];rfl
   ·dsimp only;rw [hO];rfl
   ·show (O++[window s f (i - f)]).length≤i+1;simp;omega
   ·show splitC b s=(O++[window s f (i - f)])++glue (window s (i+1) (i+1 - (i+1))) (splitC b (s.drop (i+1)))
    rw [h3,splitC_yes hi hq,Nat.sub_self]
    have e1:window s (i+1) 0=[]:=by simp [window]
    rw [e1,glue_nil (splitC_ne _ _)]
    simp
   ·show s.length - (i+1) < s.length - i;omega
  ·have hq:¬ ((s.getD i 0).toNat:Int)=(b.toNat:Int):=of_decide_eq_false hq
   have hq:¬ s.getD i 0=b:=fun e=>hq (by rw [e])
   conv=>whnf
   rw [wrap_succ i (by omega)]
   refine ⟨(O,f,i+1),rfl,rfl,rfl,⟨?_,?_,hi,?_⟩,?_⟩
   ·show O.length≤i+1;omega
   ·show f≤i+1;omega
   ·show splitC b s=O++glue (window s f (i+1 - f)) (splitC b (s.drop (i+1)))
    rw [h3,splitC_no hi hq,window_snoc s f i h1 hi]
   ·show s.length - (i+1) < s.length - i;omega
 ·have hi:i=s.length:=by have:¬ (i:Int) < s.length:=of_decide_eq_false hb;omega
  clear hb
  conv=>whnf
  refine ⟨⟨by omega,by omega,by omega⟩,?_⟩
  conv=>whnf
  rw [show Int.toNat ((s.length:Int) - (f:Int))=s.length - f by omega,Int.toNat_natCast]
  refine ⟨⟨rfl,rfl,rfl,by simp;omega,fun e he=>by simp at he;subst he;rfl⟩,?_⟩
  conv=>whnf
  refine ⟨rfl,?_⟩
  rw [window_full]
  have hO:(O++[window s f (s.length - f)]).map DV.str=O.map DV.str++[DV.str (window s f (s.length - f))]:=by simp
  have hS:splitC b s=O++[window s f (s.length - f)]:=by
   rw [h3,hi,List.drop_length]
   simp [splitC,glue]
  rw [hS,hO]
  rfl
theorem q_Text (n:Nat) (h:n < 4611686018427387904):PC 143 [DV.int .i64 (n)] (.str (Lib.itoa n)):=by
 refine pureCall_ofR dh143 rfl ?_
 conv=>whnf
 refine ⟨fun hg=>?_,fun hg=>?_⟩
 ·have hg:(n:Int)=0:=of_decide_eq_true hg
  conv=>whnf
  have e:n=0:=by omega
  rw [e,itoa_nat,Lib.decDigits,dif_pos (by decide)]
  rfl
 ·have hg:¬ (n:Int)=0:=of_decide_eq_false hg
  conv=>whnf
  rw [itoa_nat]
  refine dwp_loopR (P:=Tryz.prog) (G:=GC) (k:=dk143_0) (b:=db143_0) (α:=Nat×List UInt8) (fun a=>[(0,DV.int .i64 (n)),(3,.str a.2),(4,DV.int .i64 ((a.1:Nat)))]) (fun _=>[]) (fun a=>a.1+a.2.length≤n∧txI n a.1 a.2) (fun a=>a.1) (n,[]) ⟨rfl,rfl,rfl⟩ ⟨Nat.le_of_eq (Nat.add_zero _),by unfold txI;rw [if_neg (by omega),List.append_nil]⟩ ?_
  intro ⟨k,s⟩ ⟨h1,h2⟩
  have h1:k+s.length≤n:=h1
  have h2:txI n k s:=h2
  conv=>whnf
  refine ⟨fun hb=>?_,fun hb=>?_⟩
  ·have hk:¬ (k:Int)=0:=of_decide_eq_true hb
   have em:((((k,s):Nat×List UInt8).fst:Nat):Int).tmod 10=((k % 10:Nat):Int):=by
    show ((k:Int)).tmod 10=_
    rw [Int.tmod_eq_emod_of_nonneg (by omega)];omega
   have eq:IntKind.i64.wrap (((((k,s):Nat×List UInt8).fst:Nat):Int).tdiv 10)=((k / 10:Nat):Int):=by
    show IntKind.i64.wrap ((k:Int).tdiv 10)=_
    rw [Int.tdiv_eq_ediv_of_nonneg (by omega),wrap_W,W_in (by omega) (by omega)];omega
   clear hb
   conv=>whnf
   repeat' (first
    |(refine ⟨fun hg=>?_,fun hg=>?_⟩<;>first|contradiction|(conv=>whnf))
    |(refine Or.inl ?_;conv=>whnf)
    |(refine ⟨by decide,?_⟩;conv=>whnf)
    |(refine And.intro ?_ ?_;kernel_rfl;conv=>whnf))
   have ex:IntKind.u8.wrap (IntKind.i64.wrap (48+minmaxI true (((((k,s):Nat×List UInt8).fst:Nat):Int).tmod 10) (IntKind.i64.wrap (0 - ((((k,s):Nat×List UInt8).fst:Nat):Int).tmod 10))))=((48+k % 10:Nat):Int):=by
    rw [em]
    have e1:IntKind.i64.wrap (0 - ((k % 10:Nat):Int)) = -((k % 10:Nat):Int):=by rw [wrap_W,W_in (by omega) (by omega)];omega
    have e2:minmaxI true ((k % 10:Nat):Int) (-((k % 10:Nat):Int))=((k % 10:Nat):Int):=by
     unfold minmaxI
     show (if -((k % 10:Nat):Int) > ((k % 10:Nat):Int) then _ else _)=_
     rw [if_neg (by omega)]
    rw [e1,e2,show IntKind.i64.wrap (48+((k % 10:Nat):Int))=((48+k % 10:Nat):Int) by rw [wrap_W,W_in (by omega) (by omega)];omega]
    have h57:48+k % 10 < 256:=by omega
    unfold IntKind.wrap
    simp [IntKind.signed,IntKind.bits]
    omega
   rw [ex]
   refine ⟨fun e he=>by simp at he;subst he;rfl,?_⟩
   conv=>whnf
   refine ⟨by show 1+s.length≤9223372036854775807;omega,?_⟩
   conv=>whnf
   refine ⟨by decide,?_⟩
   conv=>whnf
   rw [eq]
   refine ⟨(k / 10,UInt8.ofNat (48+k % 10) :: s),rfl,?_,rfl,⟨?_,txI_step h2 (by omega)⟩,?_⟩
   ·rfl
   ·show k / 10+(s.length+1)≤n;omega
   ·show k / 10 < k;omega
  ·have hk:k=0:=by have:=of_decide_eq_false hb;simpa using this
   subst hk
   clear hb
   conv=>whnf
   refine ⟨fun hq=>?_,fun hq=>?_⟩
   ·have:=of_decide_eq_true hq;omega
   ·conv=>whnf
    unfold txI at h2
    rw [if_pos rfl] at h2
    rw [h2];rfl
theorem q_TextN (n:Nat) (h0:0 < n) (h:n < 4611686018427387904):PC 143 [DV.int .i64 (-(n:Int))] (.str (Lib.itoa (-(n:Int)))):=by
 refine pureCall_ofR dh143 rfl ?_
 conv=>whnf
 refine ⟨fun hg=>?_,fun hg=>?_⟩
 ·have hg : -(n:Int)=0:=of_decide_eq_true hg
  omega
 ·clear hg
  conv=>whnf
  rw [itoa_neg' h0]
  refine dwp_loopR (P:=Tryz.prog) (G:=GC) (k:=dk143_0) (b:=db143_0) (α:=Nat×List UInt8) (fun a=>[(0,DV.int .i64 (-(n:Int))),(3,.str a.2),(4,DV.int .i64 (-((a.1:Nat):Int)))]) (fun _=>[]) (fun a=>a.1+a.2.length≤n∧txI n a.1 a.2) (fun a=>a.1) (n,[]) ⟨rfl,rfl,rfl⟩ ⟨Nat.le_of_eq (Nat.add_zero _),by unfold txI;rw [if_neg (by omega),List.append_nil]⟩ ?_
  intro ⟨k,s⟩ ⟨h1,h2⟩
  have h1:k+s.length≤n:=h1
  have h2:txI n k s:=h2
  conv=>whnf
  refine ⟨fun hb=>?_,fun hb=>?_⟩
  ·have hk:¬ -(k:Int)=0:=of_decide_eq_true hb
   have em:(-((((k,s):Nat×List UInt8).fst:Nat):Int)).tmod 10 = -((k % 10:Nat):Int):=by
    show (-(k:Int)).tmod 10=_
    rw [Int.neg_tmod,Int.tmod_eq_emod_of_nonneg (by omega)];omega
   have eq:IntKind.i64.wrap ((-((((k,s):Nat×List UInt8).fst:Nat):Int)).tdiv 10) = -((k / 10:Nat):Int):=by
    show IntKind.i64.wrap ((-(k:Int)).tdiv 10)=_
    rw [Int.neg_tdiv,Int.tdiv_eq_ediv_of_nonneg (by omega),wrap_W,W_in (by omega) (by omega)];omega
   clear hb
   conv=>whnf
   repeat' (first
    |(refine ⟨fun hg=>?_,fun hg=>?_⟩<;>first|contradiction|(conv=>whnf))
    |(refine Or.inl ?_;conv=>whnf)
    |(refine ⟨by decide,?_⟩;conv=>whnf)
    |(refine And.intro ?_ ?_;kernel_rfl;conv=>whnf))
   have ex:IntKind.u8.wrap (IntKind.i64.wrap (48+minmaxI true ((-((((k,s):Nat×List UInt8).fst:Nat):Int)).tmod 10) (IntKind.i64.wrap (0 - (-((((k,s):Nat×List UInt8).fst:Nat):Int)).tmod 10))))=((48+k % 10:Nat):Int):=by
    rw [em]
    have e1:IntKind.i64.wrap (0 - -((k % 10:Nat):Int))=((k % 10:Nat):Int):=by rw [wrap_W,W_in (by omega) (by omega)];omega
    have e2:minmaxI true (-((k % 10:Nat):Int)) ((k % 10:Nat):Int)=((k % 10:Nat):Int):=by
     unfold minmaxI
     show (if ((k % 10:Nat):Int) > -((k % 10:Nat):Int) then _ else _)=_
     split<;>omega
    rw [e1,e2,show IntKind.i64.wrap (48+((k % 10:Nat):Int))=((48+k % 10:Nat):Int) by rw [wrap_W,W_in (by omega) (by omega)];omega]
    have h57:48+k % 10 < 256:=by omega
    unfold IntKind.wrap
    simp [IntKind.signed,IntKind.bits]
    omega
   rw [ex]
   refine ⟨fun e he=>by simp at he;subst he;rfl,?_⟩
   conv=>whnf
   refine ⟨by show 1+s.length≤9223372036854775807;omega,?_⟩
   conv=>whnf
   refine ⟨by decide,?_⟩
   conv=>whnf
   rw [eq]
   refine ⟨(k / 10,UInt8.ofNat (48+k % 10) :: s),rfl,?_,rfl,⟨?_,txI_step h2 (by omega)⟩,?_⟩
   ·rfl
   ·show k / 10+(s.length+1)≤n;omega
   ·show k / 10 < k;omega
  ·have hk:k=0:=by have:=of_decide_eq_false hb;simp at this;omega
   subst hk
   clear hb
   unfold txI at h2
   rw [if_pos rfl] at h2
   conv=>whnf
   refine ⟨fun hq=>?_,fun hq=>?_⟩
   ·conv=>whnf
    repeat' (first
     |(refine ⟨fun hg=>?_,fun hg=>?_⟩<;>first|contradiction|(conv=>whnf))
     |(refine Or.inl ?_;conv=>whnf)
     |(refine ⟨by show 1+s.length≤9223372036854775807;omega,?_⟩;conv=>whnf)
     |(refine And.intro ?_ ?_;kernel_rfl;conv=>whnf))
    rw [h2];rfl
   ·have:=of_decide_eq_false hq;omega
theorem q_TextZ (n:Int) (h1 : -4611686018427387904 < n) (h2:n < 4611686018427387904):PC 143 [DV.int .i64 (n)] (.str (Lib.itoa n)):=by
 by_cases hn:0≤n
 ·obtain ⟨u,rfl⟩:=Int.eq_ofNat_of_zero_le hn
  exact q_Text u (by omega)
 ·obtain ⟨u,rfl⟩:∃ u:Nat,n = -(u:Int):=⟨n.natAbs,by omega⟩
  exact q_TextN u (by omega) (by omega)
end Sh

namespace Sh
open Go Go.Proofs
theorem r_Print (l:List Dy) (h64:l.length≤64) (hok:∀ d ∈ l,OkDy d):PC 78 [dysV l] (.str (prtG linD l)):=by
 have e0:((l.map encD).length:Int)=l.length:=by simp
 refine pureCall_ofR dh78 rfl ?_
 conv=>whnf
 refine dwp_loopU (P:=Tryz.prog) (G:=GC) (k:=dk78_0) (b:=db78_0) (α:=Nat) (fun i=>[(3,.str (prtG linD (l.take i))),(4,DV.int .i64 (i))]) (fun _=>[]) (fun i=>i≤l.length) (fun i=>l.length - i) 0 (Nat.zero_le _) ?_
 conv=>whnf
 refine ⟨rfl,rfl,?_⟩
 conv=>whnf
 refine ⟨rfl,?_⟩
 intro i h1
 conv=>whnf
 refine ⟨fun hb=>?_,fun hb=>?_⟩
 ·have hi:i < l.length:=by simpa using hb
  clear hb
  have hd:=hok _ (getD_in D0 hi)
  have hsu:=prtG_succ linD l i D0 hi
  have hpl:=prtD_len (l:=l.take i) (fun d h=>hok d (List.mem_of_mem_take h))
  rw [List.length_take] at hpl
  have h0:=hd.d0
  have h2:=hd.d1
  have h3:=hd.r0
  have h4:=hd.r1
  have h5:=hd.l0
  have h6:=hd.l1
  have t1:=Lib.itoa_length_le (l.getD i D0).dust (by omega) (by omega)
  have t2:=Lib.itoa_length_le (l.getD i D0).rain (by omega) (by omega)
  have t3:=Lib.itoa_length_le (l.getD i D0).light (by omega) (by omega)
  have k1:=q_TextZ (l.getD i D0).dust (by omega) (by omega)
  have k2:=q_TextZ (l.getD i D0).rain (by omega) (by omega)
  have k3:=q_TextZ (l.getD i D0).light (by omega) (by omega)
  have hlin:linD (l.getD i D0)=[100,97,121]++([32]++Lib.itoa (l.getD i D0).dust++([32]++Lib.itoa (l.getD i D0).rain++([32]++Lib.itoa (l.getD i D0).light))):=by
   unfold linD numsD dayB
   rw [wn_cons,wn_cons,wn_cons,wn_nil];simp
  rw [hlin] at hsu
  generalize hX':prtG linD (l.take (i+1))=X' at *
  generalize hX:prtG linD (l.take i)=X at *
  generalize Lib.itoa (l.getD i D0).dust=A at *
  generalize Lib.itoa (l.getD i D0).rain=B at *
  generalize Lib.itoa (l.getD i D0).light=C at *
  conv=>whnf
  refine ⟨by show X.length+4≤_;omega,?_⟩
  conv=>whnf
  rw [getD_enc _ _ (i) D0 hi]
  refine ⟨idxA hi rfl,?_⟩
  conv=>whnf
  refine .inl ?_
  conv=>whnf
  refine ⟨_,k1 ..,?_⟩
  conv=>whnf
  refine ⟨by show (X++[_,_,_,_]).length+A.length≤_;simp;omega,?_⟩
  conv=>whnf
  refine ⟨by show (X++[_,_,_,_]++A).length+1≤_;simp;omega,?_⟩
  conv=>whnf
  rw [getD_enc _ _ (i) D0 hi]
  refine ⟨idxA hi rfl,?_⟩
  conv=>whnf
  refine .inl ?_
  conv=>whnf
  refine ⟨_,k2 ..,?_⟩
  conv=>whnf
  refine ⟨by show (X++[_,_,_,_]++A++[_]).length+B.length≤_;simp;omega,?_⟩
  conv=>whnf
  refine ⟨by show (X++[_,_,_,_]++A++[_]++B).length+1≤_;simp;omega,?_⟩
  conv=>whnf
  rw [getD_enc _ _ (i) D0 hi]
  refine ⟨idxA hi rfl,?_⟩
  conv=>whnf
  refine .inl ?_
  conv=>whnf
  refine ⟨_,k3 ..,?_⟩
  conv=>whnf
  refine ⟨by show (X++[_,_,_,_]++A++[_]++B++[_]).length+C.length≤_;simp;omega,?_⟩
  conv=>whnf
  refine ⟨by show (X++[_,_,_,_]++A++[_]++B++[_]++C).length+1≤_;simp;omega,?_⟩
  conv=>whnf
  refine ⟨by kernel_rfl,?_⟩
  conv=>whnf
  rw [wrap_succ i (by omega)]
  have hfin:X'=X++[100,97,121,32]++A++[32]++B++[32]++C++[10]:=by rw [hsu];simp
  exact ⟨i+1,rfl,by rw [hX',hfin];rfl,rfl,hi,by omega⟩
 ·have hi:i=l.length:=by have:=of_decide_eq_false hb;rw [e0] at this;omega
  clear hb
  rw [hi,List.take_length]
  conv=>whnf
  rfl
theorem wrong_len {w:List (List UInt8)} (h:¬ w.length=4):wrongD w=true:=by unfold wrongD;rw [decide_eq_false h];rfl
theorem wrong_head {w:List (List UInt8)} (h:¬ w.getD 0 []=dayB):wrongD w=true:=by unfold wrongD;rw [decide_eq_false h];simp
theorem wrong_four {w:List (List UInt8)} (h:w.length=4) (h0:w.getD 0 []=dayB):wrongD w=!((digS (w.getD 1 [])).2 && (digS (w.getD 2 [])).2 && (digS (w.getD 3 [])).2):=by
 match w,h with
 |[a,b,c,d],_ =>
  have h0:a=dayB:=h0
  unfold wrongD
  subst h0
  simp [Bool.and_assoc]
theorem r_Parse (s:List UInt8) (hs:s.length≤4097):PC 79 [.str s] (encPar (parDs s)):=by
 refine pureCall_ofR dh79 rfl ?_
 conv=>whnf
 refine ⟨fun hg=>?_,fun hg=>?_⟩
 ·have hg:(4096:Int) < s.length:=of_decide_eq_true hg
  conv=>whnf
  unfold parDs parG
  rw [if_pos (by omega)];rfl
 ·have hg:¬ (4096:Int) < s.length:=of_decide_eq_false hg
  have hl:=splitC_len 10 s
  have hn:=splitC_ne 10 s
  conv=>whnf
  refine .inl ?_
  conv=>whnf
  refine ⟨_,q_Split s 10 (by omega),?_⟩
  conv=>whnf
  generalize hr:splitC 10 s=rows at *
  obtain ⟨m,hm⟩:∃ m,rows.length=m+1:=⟨rows.length - 1,by have:=List.length_pos_iff.2 hn;omega⟩
  have hbad:∀ i,parEG wrongD rows m 0=some i→parDs s=([],(i:Int),25):=fun i he=>parG_bad (by omega) hr hm he
  have hok:parEG wrongD rows m 0=none→_:=fun he=>parG_ok (rd:=dayW) (chk:=chkDs) (by omega) hr hm he
  rw [show parG wrongD dayW chkDs s=parDs s from rfl] at hok
  have e0:((rows.map DV.str).length:Int)=m+1:=by simp;omega
  have e1:IntKind.i64.wrap (((rows.map DV.str).length:Int) - 1)=m:=by rw [e0,wrap_in (by omega) (by omega)];omega
  have hml:m≤4097:=by omega
  clear hn
  generalize parDs s=R at *
  rw [e1]
  refine dwp_loopU (P:=Tryz.prog) (G:=GC) (k:=dk79_0) (b:=db79_0) (α:=Nat) (fun i=>[(7,.own 7 0 (oSW rows i).length (oSW rows i).length),(8,DV.int .i64 (i))]) (fun i=>[(7,.row 3 (oSW rows i) false)]) (fun i=>i≤m∧parEG wrongD rows m 0=parEG wrongD rows (m - i) i) (fun i=>m - i) 0 ⟨Nat.zero_le _,rfl⟩ ?_
  conv=>whnf
  refine ⟨rfl,rfl,?_⟩
  conv=>whnf
  refine ⟨rfl,?_⟩
  intro i ⟨h1,h2⟩
  conv=>whnf
  refine ⟨fun hb=>?_,fun hb=>?_⟩
  ·have him:i < m:=by have:=of_decide_eq_true hb;omega
   clear hb
   have hrl:(rows.getD i []).length≤s.length:=hl.2 _ (getD_in [] (by omega))
   have hol:(oSW rows i).length=i:=by unfold oSW;rw [List.length_map,outG_len dayW rows i (by omega)]
   have hO:oSW rows (i+1)=oSW rows i++[encD (dayW (splitC 32 (rows.getD i [])))]:=by
    unfold oSW
    rw [outG_succ dayW rows i (by omega),List.map_append];rfl
   have hat:=fun h=>hbad i (h2.trans (parEG_at rows m i him h))
   have hst:=fun h=>h2.trans (parEG_step rows m i him h)
   have kS:=q_Split (rows.getD i []) 32 (by omega)
   have hwl:=splitC_len 32 (rows.getD i [])
   have hwn:=List.length_pos_iff.2 (splitC_ne 32 (rows.getD i []))
   generalize splitC 32 (rows.getD i [])=w at *
   have ew:((w.map DV.str).length:Int)=w.length:=by simp
   conv=>whnf
   rw [strs_get rows i (by omega)]
   refine ⟨⟨by omega,by rw [e0];omega,rfl⟩,?_⟩
   conv=>whnf
   refine .inl ?_
   conv=>whnf
   refine ⟨_,kS ..,?_⟩
   conv=>whnf
   refine ⟨fun g1=>?_,fun g1=>?_⟩
   ·have g1:w.length=4:=by
     have g1:=of_decide_eq_false g1
     rw [ew] at g1;omega
    obtain ⟨wa,wb,wc,wd,rfl⟩:∃ a b c d,w=[a,b,c,d]:=by
     match w,g1 with
     |[a,b,c,d],_=>exact ⟨a,b,c,d,rfl⟩
    have kb:=q_Digits wb
    have kc:=q_Digits wc
    have kd:=q_Digits wd
    have hdw:dayW [wa,wb,wc,wd]=⟨(digS wb).1,(digS wc).1,(digS wd).1⟩:=rfl
    rw [hdw] at hO
    have hw4:=fun h0=>wrong_four (w:=[wa,wb,wc,wd]) rfl h0
    conv=>whnf
    refine ⟨⟨by decide,by simp,rfl⟩,?_⟩
    conv=>whnf
    refine ⟨fun g2=>?_,fun g2=>?_⟩
    ·have g2:¬ wa=dayB:=of_decide_eq_true g2
     rw [hat (wrong_head g2)]
     conv=>whnf
     rfl
    ·have g2:wa=dayB:=Classical.not_not.1 (of_decide_eq_false g2)
     have hw4:wrongD [wa,wb,wc,wd]=!((digS wb).2 && (digS wc).2 && (digS wd).2):=hw4 g2
     generalize (digS wb).1=nb at *
     generalize hdb:(digS wb).2=b2 at *
     generalize (digS wc).1=nc at *
     generalize hdc:(digS wc).2=c2 at *
     generalize (digS wd).1=nd at *
     generalize hdd:(digS wd).2=d2 at *
     conv=>whnf
     refine ⟨⟨by decide,by simp,rfl⟩,?_⟩
     conv=>whnf
     refine .inl ?_
     conv=>whnf
     refine ⟨_,kb ..,?_⟩
     conv=>whnf
     refine ⟨⟨by decide,by simp,rfl⟩,?_⟩
     conv=>whnf
     refine .inl ?_
     conv=>whnf
     refine ⟨_,kc ..,?_⟩
     conv=>whnf
     refine ⟨⟨by decide,by simp,rfl⟩,?_⟩
     conv=>whnf
     refine .inl ?_
     conv=>whnf
     refine ⟨_,kd ..,?_⟩
     conv=>whnf
     by_cases hall:b2=true∧c2=true∧d2=true
     ·obtain ⟨rfl,rfl,rfl⟩:=hall
      have hgo:=hst (by rw [hw4];rfl)
      repeat (first|(refine ⟨fun hg=>absurd hg (by decide),fun _=>?_⟩;conv=>whnf)|(refine ⟨fun _=>?_,fun hg=>absurd hg (by decide)⟩;conv=>whnf))
      conv=>whnf
      refine ⟨⟨rfl,rfl,rfl,by rw [hol];simp;omega,fun e he=>by simp at he;subst he;rfl⟩,?_⟩
      conv=>whnf
      rw [wrap_succ i (by omega)]
      refine ⟨i+1,rfl,?_,?_,⟨him,hgo⟩,by omega⟩
      ·rw [hO];rfl
      ·rw [hO];rfl
     ·have hR:=hat (by
       rw [hw4]
       cases b2<;>cases c2<;>cases d2<;>first|rfl|exact absurd ⟨rfl,rfl,rfl⟩ hall)
      rw [hR]
      cases b2<;>cases c2<;>cases d2
      all_goals try exact absurd ⟨rfl,rfl,rfl⟩ hall
      all_goals
       repeat (first|(refine ⟨fun hg=>absurd hg (by decide),fun _=>?_⟩;conv=>whnf)|(refine ⟨fun _=>?_,fun hg=>absurd hg (by decide)⟩;conv=>whnf))
       rfl
   ·have g1:¬ w.length=4:=by
     have g1:=of_decide_eq_true g1
     rw [ew] at g1;omega
    rw [hat (wrong_len g1)]
    conv=>whnf
    repeat (first|(refine ⟨fun hg=>absurd hg (by decide),fun _=>?_⟩;conv=>whnf)|(refine ⟨fun _=>?_,fun hg=>absurd hg (by decide)⟩;conv=>whnf))
    rfl
  ·have him:i=m:=by have:=of_decide_eq_false hb;omega
   subst him
   clear hb
   have hR:=hok (h2.trans (by rw [Nat.sub_self];rfl))
   conv=>whnf
   rw [strs_get rows i (by omega)]
   refine ⟨⟨by omega,by rw [e0];omega,rfl⟩,?_⟩
   conv=>whnf
   refine ⟨fun hg=>?_,fun hg=>?_⟩
   ·have hg:rows.getD i []≠[]:=of_decide_eq_true hg
    rw [if_pos hg] at hR
    rw [hR]
    conv=>whnf
    rfl
   ·have hg:rows.getD i []=[]:=Classical.not_not.1 (of_decide_eq_false hg)
    rw [if_neg (fun h=>h hg)] at hR
    have hol:=outG_len dayW rows i (by omega)
    have kD:PC 30 [.list (oSW rows i)] (DV.int .i64 (chkDs (outG dayW rows i))):=r_CheckDays (outG dayW rows i) (by omega)
    conv=>whnf
    refine .inl ?_
    conv=>whnf
    rw [window_full]
    refine ⟨rfl,_,kD,?_⟩
    conv=>whnf
    refine ⟨fun hg=>?_,fun hg=>?_⟩
    ·have hg:chkDs (outG dayW rows i)≠0:=of_decide_eq_true hg
     rw [if_pos hg] at hR
     rw [hR]
     conv=>whnf
     rfl
    ·have hg:¬ chkDs (outG dayW rows i)≠0:=of_decide_eq_false hg
     rw [if_neg hg] at hR
     rw [hR]
     conv=>whnf
     refine ⟨rfl,?_⟩
     rw [window_full];rfl
end Sh

namespace Sh
open Go Go.Proofs
theorem l_given (l:List Dy) (hl:l.length < 1073741824):PC 29 [.list (l.map encD)] (.list (l.map encD)):=by
 have e0:((l.map encD).length:Int)=l.length:=by simp
 refine pureCall_ofR dh29 rfl ?_
 conv=>whnf
 refine dwp_loopU (P:=Tryz.prog) (G:=GC) (k:=dk29_0) (b:=db29_0) (α:=Nat) (fun i=>[(3,.own 3 0 ((l.take i).map encD).length ((l.take i).map encD).length),(8,DV.int .i64 (i))]) (fun i=>[(3,.row 3 ((l.take i).map encD) false)]) (fun i=>i≤l.length) (fun i=>l.length - i) 0 (Nat.zero_le _) ?_
 conv=>whnf
 refine ⟨rfl,rfl,?_⟩
 conv=>whnf
 refine ⟨rfl,?_⟩
 intro i h1
 conv=>whnf
 refine ⟨fun hb=>?_,fun hb=>?_⟩
 ·have hi:i < l.length:=by simpa using hb
  clear hb
  have hs:(l.take (i+1)).map encD=(l.take i).map encD++[encD (l.getD i D0)]:=by rw [take_snoc l i D0 hi,List.map_append];rfl
  have hln:((l.take i).map encD).length=i:=by simp;omega
  generalize hR':(l.take (i+1)).map encD=R' at *
  generalize hR:(l.take i).map encD=R at *
  conv=>whnf
  rw [getD_enc _ _ (i) D0 hi]
  refine ⟨idxA hi rfl,?_⟩
  conv=>whnf
  refine ⟨⟨rfl,rfl,rfl,by rw [hln];simp;omega,fun e he=>by simp at he;subst he;rfl⟩,?_⟩
  conv=>whnf
  rw [wrap_succ i (by omega)]
  refine ⟨i+1,rfl,?_,?_,hi,by omega⟩
  ·rw [hR',hs];rfl
  ·rw [hR',hs];rfl
 ·have hi:i=l.length:=by have:=of_decide_eq_false hb;rw [e0] at this;omega
  clear hb
  rw [hi,List.take_length]
  conv=>whnf
  refine ⟨rfl,?_⟩
  rw [window_full]
  first|rfl|(show DV.list _=_;rfl)
theorem l_days (l:List Dy) (hl:l.length < 1073741824):PC 81 [.list (l.map encD)] (.list (l.map encD)):=by
 have e0:((l.map encD).length:Int)=l.length:=by simp
 refine pureCall_ofR dh81 rfl ?_
 conv=>whnf
 refine dwp_loopU (P:=Tryz.prog) (G:=GC) (k:=dk81_0) (b:=db81_0) (α:=Nat) (fun i=>[(3,.own 3 0 ((l.take i).map encD).length ((l.take i).map encD).length),(8,DV.int .i64 (i))]) (fun i=>[(3,.row 3 ((l.take i).map encD) false)]) (fun i=>i≤l.length) (fun i=>l.length - i) 0 (Nat.zero_le _) ?_
 conv=>whnf
 refine ⟨rfl,rfl,?_⟩
 conv=>whnf
 refine ⟨rfl,?_⟩
 intro i h1
 conv=>whnf
 refine ⟨fun hb=>?_,fun hb=>?_⟩
 ·have hi:i < l.length:=by simpa using hb
  clear hb
  have hs:(l.take (i+1)).map encD=(l.take i).map encD++[encD (l.getD i D0)]:=by rw [take_snoc l i D0 hi,List.map_append];rfl
  have hln:((l.take i).map encD).length=i:=by simp;omega
  generalize hR':(l.take (i+1)).map encD=R' at *
  generalize hR:(l.take i).map encD=R at *
  conv=>whnf
  rw [getD_enc _ _ (i) D0 hi]
  refine ⟨idxA hi rfl,?_⟩
  conv=>whnf
  refine ⟨⟨rfl,rfl,rfl,by rw [hln];simp;omega,fun e he=>by simp at he;subst he;rfl⟩,?_⟩
  conv=>whnf
  rw [wrap_succ i (by omega)]
  refine ⟨i+1,rfl,?_,?_,hi,by omega⟩
  ·rw [hR',hs];rfl
  ·rw [hR',hs];rfl
 ·have hi:i=l.length:=by have:=of_decide_eq_false hb;rw [e0] at this;omega
  clear hb
  rw [hi,List.take_length]
  conv=>whnf
  refine ⟨rfl,?_⟩
  rw [window_full]
  first|rfl|(show DV.list _=_;rfl)
end Sh

namespace Sh
open Go
end Sh

set_option maxHeartbeats 2000000
namespace Sh
open Go Go.Proofs
end Sh

namespace Sh
open Go
def dc10 : DFunc := ⟨85,2,[.tmp 4],.seq (.ops false [⟨some 4,.mov (.const (.bool false)),none,[]⟩]) (.seq (.seq (.ops false [⟨some 15,.mov (.tmp 0),none,[]⟩,⟨some 16,.len (.tmp 15),none,[]⟩,⟨some 17,.bin .gtr (.tmp 16) (.const (.int .i64 12)),none,[]⟩,⟨some 18,.mov (.tmp 17),none,[]⟩,⟨some 19,.mov (.tmp 0),some (18,true),[]⟩,⟨some 20,.len (.tmp 19),some (18,true),[]⟩,⟨some 21,.bin .neq (.tmp 20) (.const (.int .i64 65)),some (18,true),[]⟩,⟨some 22,.pick (.tmp 18) (.tmp 21) (.const (.bool false)),none,[]⟩,⟨some 23,.mov (.tmp 22),none,[]⟩,⟨some 24,.mov (.tmp 1),some (23,false),[]⟩,⟨some 25,.lenS (.tmp 24),some (23,false),[]⟩,⟨some 26,.bin .gtr (.tmp 25) (.const (.int .i64 300)),some (23,false),[]⟩,⟨some 27,.mov (.tmp 26),some (23,false),[]⟩,⟨some 28,.mov (.tmp 1),some (27,true),[]⟩,⟨some 29,.lenS (.tmp 28),some (27,true),[]⟩,⟨some 30,.bin .neq (.tmp 29) (.const (.int .i64 4097)),some (27,true),[]⟩,⟨some 31,.pick (.tmp 27) (.tmp 30) (.const (.bool false)),some (23,false),[]⟩,⟨some 32,.pick (.tmp 23) (.const (.bool true)) (.tmp 31),none,[]⟩]) (.cond (.tmp 32) (.seq (.ops false [⟨some 33,.call (.func 17) [],none,[]⟩,⟨some 4,.mov (.tmp 33),none,[]⟩]) .ret) .skip)) (.seq (.ops false [⟨some 35,.mov (.tmp 0),none,[]⟩,⟨some 36,.call (.func 29) [.tmp 35],none,[]⟩,⟨some 37,.call (.func 76) [.tmp 36],none,[]⟩,⟨some 34,.mov (.tmp 37),none,[]⟩,⟨some 38,.extract (.tmp 34) 0,none,[]⟩,⟨some 39,.extract (.tmp 34) 1,none,[]⟩,⟨some 5,.mov (.tmp 38),none,[]⟩,⟨some 6,.mov (.tmp 39),none,[]⟩]) (.seq (.ops false [⟨some 41,.mov (.tmp 1),none,[]⟩,⟨some 42,.call (.func 77) [.tmp 41],none,[]⟩,⟨some 40,.mov (.tmp 42),none,[]⟩,⟨some 43,.extract (.tmp 40) 0,none,[]⟩,⟨some 44,.extract (.tmp 40) 1,none,[]⟩,⟨some 45,.extract (.tmp 40) 2,none,[]⟩,⟨some 7,.mov (.tmp 43),none,[]⟩,⟨some 8,.mov (.tmp 44),none,[]⟩,⟨some 9,.mov (.tmp 45),none,[]⟩]) (.seq (.ops false [⟨some 46,.mov (.tmp 0),none,[]⟩,⟨some 47,.call (.func 30) [.tmp 46],none,[]⟩,⟨some 10,.mov (.tmp 47),none,[]⟩,⟨some 11,.mov (.const (.string ⟨#[]⟩)),none,[]⟩]) (.seq (.seq (.ops false [⟨some 48,.mov (.tmp 10),none,[]⟩,⟨some 49,.bin .eql (.tmp 48) (.const (.int .i64 0)),none,[]⟩]) (.cond (.tmp 49) (.ops false [⟨some 50,.mov (.tmp 0),none,[]⟩,⟨some 51,.call (.func 78) [.tmp 50],none,[]⟩,⟨some 11,.mov (.tmp 51),none,[]⟩]) .skip)) (.seq (.ops false [⟨some 53,.mov (.tmp 1),none,[]⟩,⟨some 54,.call (.func 79) [.tmp 53],none,[]⟩,⟨some 52,.mov (.tmp 54),none,[]⟩,⟨some 55,.extract (.tmp 52) 0,none,[]⟩,⟨some 56,.extract (.tmp 52) 1,none,[]⟩,⟨some 57,.extract (.tmp 52) 2,none,[]⟩,⟨some 12,.mov (.tmp 55),none,[]⟩,⟨some 13,.mov (.tmp 56),none,[]⟩,⟨some 14,.mov (.tmp 57),none,[]⟩]) (.seq (.ops false [⟨some 58,.mov (.tmp 5),none,[]⟩,⟨some 59,.mov (.tmp 11),none,[]⟩,⟨some 60,.bin .eql (.tmp 58) (.tmp 59),none,[]⟩,⟨some 61,.mov (.tmp 60),none,[]⟩,⟨some 62,.mov (.tmp 6),some (61,true),[]⟩,⟨some 63,.mov (.tmp 10),some (61,true),[]⟩,⟨some 64,.bin .eql (.tmp 62) (.tmp 63),some (61,true),[]⟩,⟨some 65,.pick (.tmp 61) (.tmp 64) (.const (.bool false)),none,[]⟩,⟨some 66,.mov (.tmp 65),none,[]⟩,⟨some 67,.mov (.tmp 7),some (66,true),[]⟩,⟨some 68,.call (.func 81) [.tmp 67],some (66,true),[]⟩,⟨some 69,.mov (.tmp 12),some (66,true),[]⟩,⟨some 70,.call (.func 80) [.tmp 68,.tmp 69],some (66,true),[]⟩,⟨some 71,.pick (.tmp 66) (.tmp 70) (.const (.bool false)),none,[]⟩,⟨some 72,.mov (.tmp 71),none,[]⟩,⟨some 73,.mov (.tmp 8),some (72,true),[]⟩,⟨some 74,.mov (.tmp 13),some (72,true),[]⟩,⟨some 75,.bin .eql (.tmp 73) (.tmp 74),some (72,true),[]⟩,⟨some 76,.pick (.tmp 72) (.tmp 75) (.const (.bool false)),none,[]⟩,⟨some 77,.mov (.tmp 76),none,[]⟩,⟨some 78,.mov (.tmp 9),some (77,true),[]⟩,⟨some 79,.mov (.tmp 14),some (77,true),[]⟩,⟨some 80,.bin .eql (.tmp 78) (.tmp 79),some (77,true),[]⟩,⟨some 81,.pick (.tmp 77) (.tmp 80) (.const (.bool false)),none,[]⟩,⟨some 82,.mov (.tmp 81),none,[]⟩,⟨some 83,.call (.func 17) [],some (82,true),[]⟩,⟨some 84,.pick (.tmp 82) (.tmp 83) (.const (.bool false)),none,[]⟩,⟨some 4,.mov (.tmp 84),none,[]⟩]) .ret)))))))⟩
theorem dh10:cProg Go.Proofs.Tryz.prog ⟨[],[],[]⟩ 10=some dc10:=by kernel_rfl
end Sh

set_option maxHeartbeats 4000000
namespace Sh
open Go Go.Proofs
theorem parDs_len {s:List UInt8} (hs:s.length≤4097):(parDs s).1.length < 1073741824:=by
 have hl:=splitC_len 10 s
 unfold parDs parG
 split
 ·exact Nat.zero_lt_succ _
 ·split
  ·exact Nat.zero_lt_succ _
  ·split
   ·exact Nat.zero_lt_succ _
   ·split
    ·exact Nat.zero_lt_succ _
    ·show (outG dayW (splitC 10 s) ((splitC 10 s).length - 1)).length < _
     rw [outG_len _ _ _ (by omega)];omega
theorem l_WashStrings (aw:PC 17 [] (.bool true)) (l:List Dy) (s:List UInt8):PC 10 [dysV l,.str s] (.bool true):=by
 have e0:((l.map encD).length:Int)=l.length:=by simp
 by_cases hg1:(12:Int) < (l.length:Int)∧(l.length:Int)≠65
 case pos =>
  refine pureCall_ofR dh10 rfl ?_
  conv=>whnf
  rw [e0]
  repeat' (first
   |(refine ⟨fun hg=>?_,fun hg=>?_⟩<;>first|contradiction|(replace hg:=of_decide_eq_true hg;first|(exfalso;omega;done)|(conv=>whnf))|(replace hg:=of_decide_eq_false hg;first|(exfalso;omega;done)|(conv=>whnf))|(skip;conv=>whnf)|(conv=>whnf))
   |(refine Or.inl ?_;conv=>whnf)
   |(refine ⟨_,aw ..,?_⟩;conv=>whnf)
   |(refine And.intro ?_ ?_;kernel_rfl;conv=>whnf))
  all_goals rfl
 case neg =>
 by_cases hg2:(300:Int) < (s.length:Int)∧(s.length:Int)≠4097
 case pos =>
  refine pureCall_ofR dh10 rfl ?_
  conv=>whnf
  rw [e0]
  repeat' (first
   |(refine ⟨fun hg=>?_,fun hg=>?_⟩<;>first|contradiction|(replace hg:=of_decide_eq_true hg;first|(exfalso;omega;done)|(conv=>whnf))|(replace hg:=of_decide_eq_false hg;first|(exfalso;omega;done)|(conv=>whnf))|(skip;conv=>whnf)|(conv=>whnf))
   |(refine Or.inl ?_;conv=>whnf)
   |(refine ⟨_,aw ..,?_⟩;conv=>whnf)
   |(refine And.intro ?_ ?_;kernel_rfl;conv=>whnf))
  all_goals rfl
 case neg =>
 have hl:l.length≤65:=by omega
 have hs:s.length≤4097:=by omega
 have a1:PC 29 [dysV l] (dysV l):=l_given l (by omega)
 have b1:=c_Print l (by omega)
 have b2:=c_Parse s hs
 have c1:=r_CheckDays l (by omega)
 have c2:=r_Parse s hs
 have hpl:=parDs_len hs
 have g1:PC 81 [dysV (parDs s).1] (dysV (parDs s).1):=l_days _ hpl
 have g2:PC 80 [dysV (parDs s).1,dysV (parDs s).1] (.bool true):=r_SameDays _ hpl
 clear hpl
 unfold encPar at b2 c2
 generalize parDs s=R at *
 obtain ⟨R1,R2,R3⟩:=R
 dsimp only at b2 c2 g1 g2
 by_cases h1:chkDs l=0
 ·obtain ⟨_,h64,hok⟩:=chkDs_zero h1
  have e1:=r_Print l h64 hok
  rw [show prtDs l=(prtG linD l,0) from if_neg (fun h=>h h1)] at b1
  rw [h1] at c1
  dsimp only at b1
  generalize prtG linD l=P at *
  refine pureCall_ofR dh10 rfl ?_
  conv=>whnf
  rw [e0]
  repeat' (first
   |(refine ⟨fun hg=>?_,fun hg=>?_⟩<;>first|contradiction|(replace hg:=of_decide_eq_true hg;first|(exfalso;omega;done)|(conv=>whnf))|(replace hg:=of_decide_eq_false hg;first|(exfalso;omega;done)|(conv=>whnf))|(skip;conv=>whnf)|(conv=>whnf))
   |(refine Or.inl ?_;conv=>whnf)
   |(refine ⟨_,a1 ..,?_⟩;conv=>whnf)
   |(refine ⟨_,b1 ..,?_⟩;conv=>whnf)
   |(refine ⟨_,b2 ..,?_⟩;conv=>whnf)
   |(refine ⟨_,c1 ..,?_⟩;conv=>whnf)
   |(refine ⟨_,c2 ..,?_⟩;conv=>whnf)
   |(refine ⟨_,e1 ..,?_⟩;conv=>whnf)
   |(refine ⟨_,g1 ..,?_⟩;conv=>whnf)
   |(refine ⟨_,g2 ..,?_⟩;conv=>whnf)
   |(refine ⟨_,aw ..,?_⟩;conv=>whnf)
   |(refine And.intro ?_ ?_;kernel_rfl;conv=>whnf))
  all_goals first|rfl|(exfalso;simp_all;done)|trace_state
 ·rw [show prtDs l=([],chkDs l) from if_pos h1] at b1
  dsimp only at b1
  generalize chkDs l=E at *
  refine pureCall_ofR dh10 rfl ?_
  conv=>whnf
  rw [e0]
  repeat' (first
   |(refine ⟨fun hg=>?_,fun hg=>?_⟩<;>first|contradiction|(replace hg:=of_decide_eq_true hg;first|(exfalso;omega;done)|(conv=>whnf))|(replace hg:=of_decide_eq_false hg;first|(exfalso;omega;done)|(conv=>whnf))|(skip;conv=>whnf)|(conv=>whnf))
   |(refine Or.inl ?_;conv=>whnf)
   |(refine ⟨_,a1 ..,?_⟩;conv=>whnf)
   |(refine ⟨_,b1 ..,?_⟩;conv=>whnf)
   |(refine ⟨_,b2 ..,?_⟩;conv=>whnf)
   |(refine ⟨_,c1 ..,?_⟩;conv=>whnf)
   |(refine ⟨_,c2 ..,?_⟩;conv=>whnf)
   |(refine ⟨_,g1 ..,?_⟩;conv=>whnf)
   |(refine ⟨_,g2 ..,?_⟩;conv=>whnf)
   |(refine ⟨_,aw ..,?_⟩;conv=>whnf)
   |(refine And.intro ?_ ?_;kernel_rfl;conv=>whnf))
  all_goals first|rfl|(exfalso;simp_all;done)|trace_state
end Sh
