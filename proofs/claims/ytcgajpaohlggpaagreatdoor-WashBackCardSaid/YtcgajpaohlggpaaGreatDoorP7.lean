/-
  Chapter 8's functions, walked over pure data: the library of the walk, the functions' code over data, and what each computes. (part 7)
-/
import Derived.Test.YtcgajpaohlggpaaGreatDoorP6
import Derived.Test.YtcgajpaohlggpaaGreatDoorProg
import Derived.Lib.ItoaNum
import Derived.Lib.ItoaLen
import Derived.Lib.MapLaws
import Derived.Lib.Bytealg
import Derived.Lib.Join
import Derived.Lib.Strings
set_option linter.unusedVariables false
set_option linter.unusedSimpArgs false
set_option maxRecDepth 100000
namespace Sh
open Go
def db30_0 : DC := (.seq (.seq (.ops false [⟨some 19,.mov (.tmp 4),none,[]⟩,⟨some 20,.mov (.tmp 0),none,[]⟩,⟨some 21,.len (.tmp 20),none,[]⟩,⟨some 22,.bin .lss (.tmp 19) (.tmp 21),none,[]⟩]) (.cond (.tmp 22) .skip (.exit 0))) (.seq (.block 1 none (.seq (.ops true [⟨some 25,.mov (.tmp 0),none,[]⟩,⟨some 26,.mov (.tmp 4),none,[]⟩,⟨some 27,.iaddr 3 (.tmp 25) (.tmp 26),none,[0,1]⟩,⟨some 28,.faddr 0 1 false (.tmp 27),none,[2,0,1]⟩,⟨some 29,.load none (.tmp 28),none,[3,2,0,1]⟩,⟨some 30,.call (.func 94) [.tmp 29,.const (.int .i64 0),.const (.int .i64 1000)],none,[4,3,2,0,1]⟩,⟨some 31,.mov (.tmp 0),none,[]⟩,⟨some 32,.mov (.tmp 4),none,[]⟩,⟨some 33,.iaddr 3 (.tmp 31) (.tmp 32),none,[6,7]⟩,⟨some 34,.faddr 1 1 false (.tmp 33),none,[8,6,7]⟩,⟨some 35,.load none (.tmp 34),none,[9,8,6,7]⟩,⟨some 36,.call (.func 94) [.tmp 35,.const (.int .i64 0),.const (.int .i64 1000)],none,[10,9,8,6,7,5,4,3,2,0,1]⟩,⟨some 37,.mov (.tmp 0),none,[]⟩,⟨some 38,.mov (.tmp 4),none,[]⟩,⟨some 39,.iaddr 3 (.tmp 37) (.tmp 38),none,[12,13]⟩,⟨some 40,.faddr 2 1 false (.tmp 39),none,[14,12,13]⟩,⟨some 41,.load none (.tmp 40),none,[15,14,12,13]⟩,⟨some 42,.call (.func 94) [.tmp 41,.const (.int .i64 0),.const (.int .i64 100000)],none,[16,15,14,12,13,11,10,9,8,6,7,5,4,3,2,0,1]⟩,⟨some 43,.lit true 1 3 (.int .i64 0) [(0,(.tmp 30)),(1,(.tmp 36)),(2,(.tmp 42))],none,[5,4,3,2,0,1,11,10,9,8,6,7,17,16,15,14,12,13]⟩,⟨some 44,.call (.func 48) [.tmp 43],none,[18,5,4,3,2,0,1,11,10,9,8,6,7,17,16,15,14,12,13]⟩,⟨some 5,.mov (.tmp 44),none,[19,18,5,4,3,2,0,1,11,10,9,8,6,7,17,16,15,14,12,13]⟩]) (.seq (.ops false [⟨some 45,.mov (.tmp 5),none,[]⟩,⟨some 46,.bin .neq (.tmp 45) (.const (.int .i64 0)),none,[]⟩]) (.cond (.tmp 46) (.seq (.ops false [⟨some 47,.mov (.tmp 5),none,[]⟩,⟨some 2,.mov (.tmp 47),none,[]⟩]) .ret) .skip)))) (.ops false [⟨some 23,.mov (.tmp 4),none,[]⟩,⟨some 24,.bin .add (.tmp 23) (.const (.int .i64 1)),none,[]⟩,⟨some 4,.mov (.tmp 24),none,[]⟩])))
def dk30_0 : Keep := ⟨[],[0,4],[14]⟩
def dc30 : DFunc := ⟨48,1,[.tmp 2],.seq (.ops false [⟨some 2,.mov (.const (.int .i64 0)),none,[]⟩]) (.seq (.seq (.ops false [⟨some 6,.mov (.tmp 0),none,[]⟩,⟨some 7,.len (.tmp 6),none,[]⟩,⟨some 8,.bin .eql (.tmp 7) (.const (.int .i64 0)),none,[]⟩,⟨some 9,.call (.func 95) [.tmp 8,.const (.int .i64 12)],none,[]⟩,⟨some 10,.mov (.tmp 0),none,[]⟩,⟨some 11,.len (.tmp 10),none,[]⟩,⟨some 12,.bin .gtr (.tmp 11) (.const (.int .i64 64)),none,[]⟩,⟨some 13,.call (.func 95) [.tmp 12,.const (.int .i64 5)],none,[]⟩,⟨some 14,.lit true 1 2 (.int .i64 0) [(0,(.tmp 9)),(1,(.tmp 13))],none,[]⟩,⟨some 15,.call (.func 48) [.tmp 14],none,[]⟩,⟨some 3,.mov (.tmp 15),none,[]⟩]) (.seq (.ops false [⟨some 16,.mov (.tmp 3),none,[]⟩,⟨some 17,.bin .neq (.tmp 16) (.const (.int .i64 0)),none,[]⟩]) (.cond (.tmp 17) (.seq (.ops false [⟨some 18,.mov (.tmp 3),none,[]⟩,⟨some 2,.mov (.tmp 18),none,[]⟩]) .ret) .skip))) (.seq (.seq (.ops false [⟨some 4,.mov (.const (.int .i64 0)),none,[]⟩]) (.block 0 (some ⟨[],[],[14]⟩) (.loop dk30_0 db30_0))) (.seq (.ops false [⟨some 2,.mov (.const (.int .i64 0)),none,[]⟩]) .ret)))⟩
theorem dh30:cProg Go.Proofs.Tryz.prog ⟨[(0,⟨[],[0,4],[14]⟩)],[(0,⟨[],[],[14]⟩)],[14,43]⟩ 30=some dc30:=by kernel_rfl
def db48_0 : DC := (.seq (.seq (.ops false [⟨some 4,.mov (.tmp 3),none,[]⟩,⟨some 5,.mov (.tmp 0),none,[]⟩,⟨some 6,.len (.tmp 5),none,[]⟩,⟨some 7,.bin .lss (.tmp 4) (.tmp 6),none,[]⟩]) (.cond (.tmp 7) .skip (.exit 0))) (.seq (.block 1 none (.seq (.ops false [⟨some 10,.mov (.tmp 0),none,[]⟩,⟨some 11,.mov (.tmp 3),none,[]⟩,⟨some 12,.iaddr 1 (.tmp 10) (.tmp 11),none,[]⟩,⟨some 13,.load none (.tmp 12),none,[]⟩,⟨some 14,.bin .neq (.tmp 13) (.const (.int .i64 0)),none,[]⟩]) (.cond (.tmp 14) (.seq (.ops false [⟨some 15,.mov (.tmp 0),none,[]⟩,⟨some 16,.mov (.tmp 3),none,[]⟩,⟨some 17,.iaddr 1 (.tmp 15) (.tmp 16),none,[]⟩,⟨some 18,.load none (.tmp 17),none,[]⟩,⟨some 2,.mov (.tmp 18),none,[]⟩]) .ret) .skip))) (.ops false [⟨some 8,.mov (.tmp 3),none,[]⟩,⟨some 9,.bin .add (.tmp 8) (.const (.int .i64 1)),none,[]⟩,⟨some 3,.mov (.tmp 9),none,[]⟩])))
def dk48_0 : Keep := ⟨[],[0,3],[]⟩
def dc48 : DFunc := ⟨19,1,[.tmp 2],.seq (.ops false [⟨some 2,.mov (.const (.int .i64 0)),none,[]⟩]) (.seq (.seq (.ops false [⟨some 3,.mov (.const (.int .i64 0)),none,[]⟩]) (.block 0 (some ⟨[],[],[]⟩) (.loop dk48_0 db48_0))) (.seq (.ops false [⟨some 2,.mov (.const (.int .i64 0)),none,[]⟩]) .ret))⟩
theorem dh48:cProg Go.Proofs.Tryz.prog ⟨[(0,⟨[],[0,3],[]⟩)],[(0,⟨[],[],[]⟩)],[]⟩ 48=some dc48:=by kernel_rfl
def db68_0 : DC := (.seq (.seq (.ops false [⟨some 25,.mov (.tmp 5),none,[]⟩,⟨some 26,.mov (.tmp 3),none,[]⟩,⟨some 27,.bin .lss (.tmp 25) (.tmp 26),none,[]⟩]) (.cond (.tmp 27) .skip (.exit 2))) (.seq (.block 3 none (.seq (.ops true [⟨some 30,.mov (.tmp 0),none,[]⟩,⟨some 31,.mov (.tmp 5),none,[]⟩,⟨some 32,.iaddr 3 (.tmp 30) (.tmp 31),none,[0,1]⟩,⟨some 33,.faddr 0 1 false (.tmp 32),none,[2,0,1]⟩,⟨some 34,.load none (.tmp 33),none,[3,2,0,1]⟩,⟨some 35,.mov (.tmp 0),none,[]⟩,⟨some 36,.mov (.tmp 3),none,[]⟩,⟨some 37,.iaddr 3 (.tmp 35) (.tmp 36),none,[5,6]⟩,⟨some 38,.faddr 0 1 false (.tmp 37),none,[7,5,6]⟩,⟨some 39,.load none (.tmp 38),none,[8,7,5,6]⟩,⟨some 40,.bin .eql (.tmp 34) (.tmp 39),none,[4,3,2,0,1,9,8,7,5,6]⟩]) (.cond (.tmp 40) (.seq (.ops false [⟨some 2,.mov (.const (.int .i64 9)),none,[]⟩]) .ret) .skip))) (.ops false [⟨some 28,.mov (.tmp 5),none,[]⟩,⟨some 29,.bin .add (.tmp 28) (.const (.int .i64 1)),none,[]⟩,⟨some 5,.mov (.tmp 29),none,[]⟩])))
def dk68_0 : Keep := ⟨[],[0,3,5],[53]⟩
def db68_1 : DC := (.seq (.seq (.ops false [⟨some 10,.mov (.tmp 3),none,[]⟩,⟨some 11,.mov (.tmp 0),none,[]⟩,⟨some 12,.len (.tmp 11),none,[]⟩,⟨some 13,.bin .lss (.tmp 10) (.tmp 12),none,[]⟩]) (.cond (.tmp 13) .skip (.exit 0))) (.seq (.block 1 (some ⟨[],[0,3],[]⟩) (.seq (.seq (.ops false [⟨some 16,.mov (.tmp 0),none,[]⟩,⟨some 17,.mov (.tmp 3),none,[]⟩,⟨some 18,.iaddr 3 (.tmp 16) (.tmp 17),none,[]⟩,⟨some 19,.faddr 0 1 false (.tmp 18),none,[]⟩,⟨some 20,.load none (.tmp 19),none,[]⟩,⟨some 21,.call (.func 121) [.tmp 20],none,[]⟩,⟨some 4,.mov (.tmp 21),none,[]⟩]) (.seq (.ops false [⟨some 22,.mov (.tmp 4),none,[]⟩,⟨some 23,.bin .neq (.tmp 22) (.const (.int .i64 0)),none,[]⟩]) (.cond (.tmp 23) (.seq (.ops false [⟨some 24,.mov (.tmp 4),none,[]⟩,⟨some 2,.mov (.tmp 24),none,[]⟩]) .ret) .skip))) (.seq (.seq (.ops false [⟨some 5,.mov (.const (.int .i64 0)),none,[]⟩]) (.block 2 (some ⟨[],[0,3],[53]⟩) (.loop dk68_0 db68_0))) (.seq (.ops true [⟨some 41,.mov (.tmp 0),none,[]⟩,⟨some 42,.mov (.tmp 3),none,[]⟩,⟨some 43,.iaddr 3 (.tmp 41) (.tmp 42),none,[0,1]⟩,⟨some 44,.faddr 1 1 false (.tmp 43),none,[2,0,1]⟩,⟨some 45,.load none (.tmp 44),none,[3,2,0,1]⟩,⟨some 46,.call (.func 94) [.tmp 45,.const (.int .i64 0),.const (.int .i64 10000)],none,[4,3,2,0,1]⟩,⟨some 47,.mov (.tmp 0),none,[]⟩,⟨some 48,.mov (.tmp 3),none,[]⟩,⟨some 49,.iaddr 3 (.tmp 47) (.tmp 48),none,[6,7]⟩,⟨some 50,.faddr 2 1 false (.tmp 49),none,[8,6,7]⟩,⟨some 51,.load none (.tmp 50),none,[9,8,6,7]⟩,⟨some 52,.call (.func 94) [.tmp 51,.const (.int .i64 0),.const (.int .i64 10000)],none,[10,9,8,6,7,5,4,3,2,0,1]⟩,⟨some 53,.lit true 1 2 (.int .i64 0) [(0,(.tmp 46)),(1,(.tmp 52))],none,[5,4,3,2,0,1,11,10,9,8,6,7]⟩,⟨some 54,.call (.func 48) [.tmp 53],none,[12,5,4,3,2,0,1,11,10,9,8,6,7]⟩,⟨some 6,.mov (.tmp 54),none,[13,12,5,4,3,2,0,1,11,10,9,8,6,7]⟩]) (.seq (.ops false [⟨some 55,.mov (.tmp 6),none,[]⟩,⟨some 56,.bin .neq (.tmp 55) (.const (.int .i64 0)),none,[]⟩]) (.cond (.tmp 56) (.seq (.ops false [⟨some 57,.mov (.tmp 6),none,[]⟩,⟨some 2,.mov (.tmp 57),none,[]⟩]) .ret) .skip)))))) (.ops false [⟨some 14,.mov (.tmp 3),none,[]⟩,⟨some 15,.bin .add (.tmp 14) (.const (.int .i64 1)),none,[]⟩,⟨some 3,.mov (.tmp 15),none,[]⟩])))
def dk68_1 : Keep := ⟨[],[0,3],[]⟩
def dc68 : DFunc := ⟨58,1,[.tmp 2],.seq (.ops false [⟨some 2,.mov (.const (.int .i64 0)),none,[]⟩]) (.seq (.seq (.ops false [⟨some 7,.mov (.tmp 0),none,[]⟩,⟨some 8,.len (.tmp 7),none,[]⟩,⟨some 9,.bin .gtr (.tmp 8) (.const (.int .i64 16)),none,[]⟩]) (.cond (.tmp 9) (.seq (.ops false [⟨some 2,.mov (.const (.int .i64 5)),none,[]⟩]) .ret) .skip)) (.seq (.seq (.ops false [⟨some 3,.mov (.const (.int .i64 0)),none,[]⟩]) (.block 0 (some ⟨[],[],[]⟩) (.loop dk68_1 db68_1))) (.seq (.ops false [⟨some 2,.mov (.const (.int .i64 0)),none,[]⟩]) .ret)))⟩
theorem dh68:cProg Go.Proofs.Tryz.prog ⟨[(0,⟨[],[0,3],[]⟩),(2,⟨[],[0,3,5],[53]⟩)],[(2,⟨[],[0,3],[53]⟩),(1,⟨[],[0,3],[]⟩),(0,⟨[],[],[]⟩)],[53]⟩ 68=some dc68:=by kernel_rfl
def dc94 : DFunc := ⟨16,3,[.tmp 6],.seq (.ops false [⟨some 6,.mov (.const (.int .i64 0)),none,[]⟩]) (.seq (.ops false [⟨some 7,.mov (.tmp 0),none,[]⟩,⟨some 8,.mov (.tmp 1),none,[]⟩,⟨some 9,.bin .lss (.tmp 7) (.tmp 8),none,[]⟩,⟨some 10,.mov (.tmp 9),none,[]⟩,⟨some 11,.mov (.tmp 0),some (10,false),[]⟩,⟨some 12,.mov (.tmp 2),some (10,false),[]⟩,⟨some 13,.bin .gtr (.tmp 11) (.tmp 12),some (10,false),[]⟩,⟨some 14,.pick (.tmp 10) (.const (.bool true)) (.tmp 13),none,[]⟩,⟨some 15,.call (.func 95) [.tmp 14,.const (.int .i64 3)],none,[]⟩,⟨some 6,.mov (.tmp 15),none,[]⟩]) .ret)⟩
theorem dh94:cProg Go.Proofs.Tryz.prog ⟨[],[],[]⟩ 94=some dc94:=by kernel_rfl
def dc95 : DFunc := ⟨7,2,[.tmp 4],.seq (.ops false [⟨some 4,.mov (.const (.int .i64 0)),none,[]⟩]) (.seq (.seq (.ops false [⟨some 5,.mov (.tmp 0),none,[]⟩]) (.cond (.tmp 5) (.seq (.ops false [⟨some 6,.mov (.tmp 1),none,[]⟩,⟨some 4,.mov (.tmp 6),none,[]⟩]) .ret) .skip)) (.seq (.ops false [⟨some 4,.mov (.const (.int .i64 0)),none,[]⟩]) .ret))⟩
theorem dh95:cProg Go.Proofs.Tryz.prog ⟨[],[],[]⟩ 95=some dc95:=by kernel_rfl
def dc121 : DFunc := ⟨7,1,[.tmp 2],.seq (.ops false [⟨some 2,.mov (.const (.int .i64 0)),none,[]⟩]) (.seq (.ops false [⟨some 3,.mov (.tmp 0),none,[]⟩,⟨some 4,.call (.func 153) [.tmp 3],none,[]⟩,⟨some 5,.un .not (.tmp 4),none,[]⟩,⟨some 6,.call (.func 95) [.tmp 5,.const (.int .i64 8)],none,[]⟩,⟨some 2,.mov (.tmp 6),none,[]⟩]) .ret)⟩
theorem dh121:cProg Go.Proofs.Tryz.prog ⟨[],[],[]⟩ 121=some dc121:=by kernel_rfl
end Sh

namespace Sh
open Go
section
variable {ev:Operand→DV} {lk:Nat→Option DObj} {o kk q i:Nat} {ks:List Nat} {z v:DV} {m k x:Operand} {es:List (DV×DV)}
end
theorem itoa_nat (u:Nat):Lib.itoa (u:Int)=Lib.decDigits u:=by unfold Lib.itoa;rw [if_neg (by omega)];simp
theorem glue_glue (p q:List UInt8) (l:List (List UInt8)):glue p (glue q l)=glue (p++q) l:=by
 cases l with
 |nil=>rfl
 |cons h t=>simp [glue]
theorem glue_nil {l:List (List UInt8)} (h:l≠[]):glue [] l=l:=by
 cases l with
 |nil=>exact absurd rfl h
 |cons a t=>rfl
theorem splitC_yes {b:UInt8} {s:List UInt8} {i:Nat} (h:i < s.length) (hb:s.getD i 0=b) (w:List UInt8):glue w (splitC b (s.drop i))=w :: splitC b (s.drop (i+1)):=by
 rw [drop_getD s i 0 h,splitC,if_pos hb]
 simp [glue]
theorem splitC_no {b:UInt8} {s:List UInt8} {i:Nat} (h:i < s.length) (hb:¬ s.getD i 0=b) (w:List UInt8):glue w (splitC b (s.drop i))=glue (w++[s.getD i 0]) (splitC b (s.drop (i+1))):=by
 rw [drop_getD s i 0 h,splitC,if_neg hb,glue_glue]
theorem window_snoc (s:List UInt8) (f i:Nat) (hf:f≤i) (hi:i < s.length):window s f (i - f)++[s.getD i 0]=window s f (i+1 - f):=by
 unfold window
 rw [show i+1 - f=(i - f)+1 by omega,List.take_add_one]
 congr 1
 simp [List.getD_eq_getElem?_getD,hi,show f+(i - f)=i by omega]
theorem splitC_app {b:UInt8}:∀ {a:List UInt8} (r:List UInt8),b ∉ a→splitC b (a++b :: r)=a :: splitC b r
 |[],r,h=>by show splitC b (b :: r)=_;rw [splitC,if_pos rfl]
 |c :: a,r,h=>by
  have hc:¬ c=b:=fun e=>h (e ▸ List.mem_cons_self ..)
  show splitC b (c :: (a++b :: r))=_
  rw [splitC,if_neg hc,splitC_app r (fun hh=>h (List.mem_cons_of_mem _ hh))];rfl
theorem splitC_one {b:UInt8}:∀ {a:List UInt8},b ∉ a→splitC b a=[a]
 |[],_=>rfl
 |c :: a,h=>by
  have hc:¬ c=b:=fun e=>h (e ▸ List.mem_cons_self ..)
  rw [splitC,if_neg hc,splitC_one (fun hh=>h (List.mem_cons_of_mem _ hh))];rfl
theorem ofNat_dig {k:Nat} (h:k < 10):(UInt8.ofNat (48+k)).toNat=48+k:=by
 rw [UInt8.toNat_ofNat'];omega
theorem dec_spec:∀ n:Nat,(Lib.decDigits n).all isD=true∧(∀ a,valD (Lib.decDigits n) a=a * 10 ^ (Lib.decDigits n).length+n)∧Lib.decDigits n≠[]∧(n≠0→(Lib.decDigits n).getD 0 0≠48):=by
 intro n
 induction n using Nat.strongRecOn with
 |_ n ih =>
  by_cases h9:n < 10
  ·have e:Lib.decDigits n=[UInt8.ofNat (48+n)]:=by rw [Lib.decDigits,dif_pos h9]
   have ho:=ofNat_dig h9
   rw [e]
   refine ⟨?_,fun a=>?_,by simp,fun hn h48=>?_⟩
   ·simp [isD,ho];omega
   ·simp only [valD,ho,List.length_cons,List.length_nil];omega
   ·have h48:UInt8.ofNat (48+n)=48:=h48
    rw [h48] at ho
    have:(48:UInt8).toNat=48:=rfl
    omega
  ·have e:Lib.decDigits n=Lib.decDigits (n / 10)++[UInt8.ofNat (48+n % 10)]:=by rw [Lib.decDigits,dif_neg h9]
   obtain ⟨h1,h2,h3,h4⟩:=ih (n / 10) (by omega)
   have ho:=ofNat_dig (Nat.mod_lt n (by decide:0 < 10))
   rw [e]
   refine ⟨?_,fun a=>?_,by simp,fun hn h48=>?_⟩
   ·rw [List.all_append,h1];simp [isD,ho];omega
   ·rw [valD_append,h2]
    simp only [valD,ho,List.length_append,List.length_cons,List.length_nil]
    rw [Int.pow_succ,← Int.mul_assoc]
    generalize a * 10 ^ (Lib.decDigits (n / 10)).length=z
    omega
   ·refine h4 (by omega) ?_
    cases hd:Lib.decDigits (n / 10) with
    |nil=>exact absurd hd h3
    |cons x r=>rw [hd] at h48;exact h48
theorem dec_len:∀ k n:Nat,n < 10 ^ (k+1)→(Lib.decDigits n).length≤k+1
 |0,n,h=>by
  rw [Lib.decDigits,dif_pos (by omega)];simp
 |k+1,n,h=>by
  by_cases h9:n < 10
  ·rw [Lib.decDigits,dif_pos h9];simp
  ·have:=dec_len k (n / 10) (by rw [Nat.pow_succ] at h;omega)
   rw [Lib.decDigits,dif_neg h9,List.length_append]
   simp;omega
theorem digS_itoa {n:Int} (h0:0≤n) (h1:n≤999999999):digS (Lib.itoa n)=(n,true):=by
 obtain ⟨u,rfl⟩:=Int.eq_ofNat_of_zero_le h0
 rw [itoa_nat]
 obtain ⟨a1,a2,a3,a4⟩:=dec_spec u
 have a5:=dec_len 8 u (by omega)
 have hb:badD (Lib.decDigits u)=false:=by
  unfold badD
  rw [decide_eq_false a3,decide_eq_false (by omega:¬ 9 < _)]
  by_cases hu:u=0
  ·subst hu
   rw [Lib.decDigits,dif_pos (by decide)];rfl
  ·rw [decide_eq_false (a4 hu),Bool.and_false];rfl
 unfold digS
 rw [hb,a1,a2]
 simp
theorem itoa_not {b:UInt8} (hb:isD b=false) {n:Int} (h:0≤n):b ∉ Lib.itoa n:=by
 obtain ⟨u,rfl⟩:=Int.eq_ofNat_of_zero_le h
 rw [itoa_nat]
 intro hm
 have:=List.all_eq_true.1 (dec_spec u).1 b hm
 rw [hb] at this;cases this
end Sh

namespace Sh
open Go Go.Proofs
theorem q_When (b:Bool) (e:Int):PC 95 [.bool b,DV.int .i64 (e)] (DV.int .i64 (whenE b e)):=by
 refine pureCall_ofR dh95 rfl ?_
 conv=>whnf
 refine ⟨fun hb=>?_,fun hb=>?_⟩<;>try (exact absurd hb (by decide))
 all_goals conv=>whnf
 all_goals subst hb;rfl
theorem q_CheckRange (n l h:Int):PC 94 [DV.int .i64 (n),DV.int .i64 (l),DV.int .i64 (h)] (DV.int .i64 (withE n l h)):=by
 refine pureCall_ofR dh94 rfl ?_
 conv=>whnf
 refine ⟨fun hb=>?_,fun hb=>?_⟩<;>try (exact absurd hb (by decide))
 all_goals conv=>whnf
 ·refine .inl ?_
  conv=>whnf
  refine ⟨_,q_When ..,?_⟩
  conv=>whnf
  exact int_eq (by simp_all [withE,whenE];split<;>split<;>omega)
 ·refine .inl ?_
  conv=>whnf
  refine ⟨_,q_When ..,?_⟩
  conv=>whnf
  exact int_eq (by simp_all [withE,whenE])
theorem q_First (l:List Int) (hl:l.length < 4611686018427387904):PC 48 [iL l] (DV.int .i64 (firstE l)):=by
 refine pureCall_ofR dh48 rfl ?_
 conv=>whnf
 refine dwp_loopR (P:=Tryz.prog) (G:=GC) (k:=dk48_0) (b:=db48_0) (α:=Nat) (fun i=>[(0,iL l),(3,DV.int .i64 (i))]) (fun _=>[]) (fun i=>i≤l.length∧firstE l=firstE (l.drop i)) (fun i=>l.length - i) 0 ⟨rfl,rfl,rfl⟩ ⟨Nat.zero_le _,rfl⟩ ?_
 intro i ⟨h1,h2⟩
 conv=>whnf
 refine ⟨fun hb=>?_,fun hb=>?_⟩<;>try (exact absurd hb (by decide))
 ·have hi:i < l.length:=by simpa using hb
  have hd:=firstE_drop l i hi
  conv=>whnf
  rw [getD_enc _ _ (i) 0 hi]
  refine ⟨idxA hi rfl,?_⟩
  conv=>whnf
  refine ⟨fun hb=>?_,fun hb=>?_⟩<;>try (exact absurd hb (by decide))
  ·conv=>whnf
   rw [getD_enc _ _ (i) 0 hi]
   refine ⟨idxA hi rfl,?_⟩
   conv=>whnf
   exact int_eq (by simp_all)
  ·conv=>whnf
   rw [wrap_succ i (by omega)]
   exact ⟨i+1,rfl,rfl,rfl,⟨hi,by simp_all⟩,by omega⟩
 ·conv=>whnf
  have:i=l.length:=by simp at hb;omega
  subst this
  exact int_eq (by rw [h2];simp [firstE])
end Sh

namespace Sh
open Go Go.Proofs
theorem firstE_two (a b:Int) (r:List Int):firstE (a :: b :: r)=if firstE [a,b]≠0 then firstE [a,b] else firstE r:=by
 simp only [firstE]
 split
 ·rfl
 ·split<;>rfl
theorem r_CheckDays (l:List Dy) (hl:l.length < 1073741824):PC 30 [dysV l] (DV.int .i64 (chkDs l)):=by
 have e0:((l.map encD).length:Int)=l.length:=by simp
 have hk:chkDs l=if firstE [whenE (decide (((l.map encD).length:Int)=0)) 12,whenE (decide ((64:Int) < ((l.map encD).length:Int))) 5]≠0 then firstE [whenE (decide (((l.map encD).length:Int)=0)) 12,whenE (decide ((64:Int) < ((l.map encD).length:Int))) 5] else firstE (l.map chkDy):=by
  unfold chkDs
  rw [firstE_two,firstE_one,e0,show decide ((l.length:Int)=0)=decide (l.length=0) by rw [decide_eq_decide];omega,show decide ((64:Int) < l.length)=decide (64 < l.length) by rw [decide_eq_decide];omega]
 refine pureCall_ofR dh30 rfl ?_
 conv=>whnf
 repeat' (first
  |(refine ⟨fun hg=>?_,fun hg=>?_⟩<;>first|contradiction|(conv=>whnf))
  |(refine Or.inl ?_;conv=>whnf)
  |(refine ⟨_,q_When ..,?_⟩;conv=>whnf)
  |(refine ⟨_,q_First [_,_] (by simp),?_⟩;conv=>whnf)
  |(refine And.intro ?_ ?_;kernel_rfl;conv=>whnf))
 ·have hg:=of_decide_eq_true hg
  exact int_eq (by rw [hk,if_pos hg])
 ·have hg:=of_decide_eq_false hg
  rw [if_neg hg] at hk
  clear hg
  refine dwp_loopU (P:=Tryz.prog) (G:=GC) (k:=dk30_0) (b:=db30_0) (α:=Nat) (fun i=>[(4,DV.int .i64 (i))]) (fun _=>[]) (fun i=>i≤l.length∧chkDs l=firstE ((l.map chkDy).drop i)) (fun i=>l.length - i) 0 ⟨Nat.zero_le _,hk⟩ ?_
  conv=>whnf
  refine ⟨rfl,rfl,?_⟩
  conv=>whnf
  refine ⟨rfl,?_⟩
  intro i ⟨h1,h2⟩
  conv=>whnf
  refine ⟨fun hb=>?_,fun hb=>?_⟩
  ·have hi:i < l.length:=by simpa using hb
   have hd:=firstE_drop (l.map chkDy) i (by simpa using hi)
   rw [show (l.map chkDy).getD i 0=chkDy (l.getD i D0) by simp [List.getD_eq_getElem?_getD,hi]] at hd
   clear hb
   conv=>whnf
   repeat' (first
    |(refine ⟨fun hg=>?_,fun hg=>?_⟩<;>first|contradiction|(conv=>whnf))
    |(refine Or.inl ?_;conv=>whnf)
    |(refine ⟨_,q_CheckRange ..,?_⟩;conv=>whnf)
    |(refine ⟨_,q_First [_,_,_] (by simp),?_⟩;conv=>whnf)
    |(rw [getD_enc _ _ i D0 hi];refine ⟨idxA hi rfl,?_⟩;conv=>whnf)
    |(refine And.intro ?_ ?_;kernel_rfl;conv=>whnf))
   ·have hg:chkDy (l.getD i D0)≠0:=of_decide_eq_true hg
    rw [if_pos hg] at hd
    exact int_eq (by rw [h2,hd];rfl)
   ·have hg:¬ chkDy (l.getD i D0)≠0:=of_decide_eq_false hg
    rw [if_neg hg] at hd
    rw [wrap_succ i (by omega)]
    exact ⟨i+1,rfl,rfl,rfl,⟨hi,by rw [h2,hd]⟩,by omega⟩
  ·have hi:i=l.length:=by have:=of_decide_eq_false hb;rw [e0] at this;omega
   clear hb
   conv=>whnf
   exact int_eq (by rw [h2,hi,List.drop_of_length_le (by simp)];rfl)
end Sh

namespace Sh
open Go
def db153_0 : DC := (.seq (.seq (.ops false [⟨some 14,.mov (.tmp 3),none,[]⟩,⟨some 15,.mov (.tmp 0),none,[]⟩,⟨some 16,.lenS (.tmp 15),none,[]⟩,⟨some 17,.bin .lss (.tmp 14) (.tmp 16),none,[]⟩]) (.cond (.tmp 17) .skip (.exit 0))) (.seq (.block 1 none (.seq (.ops false [⟨some 20,.mov (.tmp 0),none,[]⟩,⟨some 21,.mov (.tmp 3),none,[]⟩,⟨some 22,.indexS (.tmp 20) (.tmp 21),none,[]⟩,⟨some 23,.bin .geq (.tmp 22) (.const (.int .u8 65)),none,[]⟩,⟨some 24,.mov (.tmp 23),none,[]⟩,⟨some 25,.mov (.tmp 0),some (24,true),[]⟩,⟨some 26,.mov (.tmp 3),some (24,true),[]⟩,⟨some 27,.indexS (.tmp 25) (.tmp 26),some (24,true),[]⟩,⟨some 28,.bin .leq (.tmp 27) (.const (.int .u8 90)),some (24,true),[]⟩,⟨some 29,.pick (.tmp 24) (.tmp 28) (.const (.bool false)),none,[]⟩,⟨some 30,.mov (.tmp 29),none,[]⟩,⟨some 31,.mov (.tmp 0),some (30,false),[]⟩,⟨some 32,.mov (.tmp 3),some (30,false),[]⟩,⟨some 33,.indexS (.tmp 31) (.tmp 32),some (30,false),[]⟩,⟨some 34,.bin .geq (.tmp 33) (.const (.int .u8 97)),some (30,false),[]⟩,⟨some 35,.mov (.tmp 34),some (30,false),[]⟩,⟨some 36,.mov (.tmp 0),some (35,true),[]⟩,⟨some 37,.mov (.tmp 3),some (35,true),[]⟩,⟨some 38,.indexS (.tmp 36) (.tmp 37),some (35,true),[]⟩,⟨some 39,.bin .leq (.tmp 38) (.const (.int .u8 122)),some (35,true),[]⟩,⟨some 40,.pick (.tmp 35) (.tmp 39) (.const (.bool false)),some (30,false),[]⟩,⟨some 41,.pick (.tmp 30) (.const (.bool true)) (.tmp 40),none,[]⟩,⟨some 4,.mov (.tmp 41),none,[]⟩]) (.seq (.ops false [⟨some 42,.mov (.tmp 0),none,[]⟩,⟨some 43,.mov (.tmp 3),none,[]⟩,⟨some 44,.indexS (.tmp 42) (.tmp 43),none,[]⟩,⟨some 45,.bin .geq (.tmp 44) (.const (.int .u8 48)),none,[]⟩,⟨some 46,.mov (.tmp 45),none,[]⟩,⟨some 47,.mov (.tmp 0),some (46,true),[]⟩,⟨some 48,.mov (.tmp 3),some (46,true),[]⟩,⟨some 49,.indexS (.tmp 47) (.tmp 48),some (46,true),[]⟩,⟨some 50,.bin .leq (.tmp 49) (.const (.int .u8 57)),some (46,true),[]⟩,⟨some 51,.pick (.tmp 46) (.tmp 50) (.const (.bool false)),none,[]⟩,⟨some 52,.mov (.tmp 51),none,[]⟩,⟨some 53,.mov (.tmp 0),some (52,false),[]⟩,⟨some 54,.mov (.tmp 3),some (52,false),[]⟩,⟨some 55,.indexS (.tmp 53) (.tmp 54),some (52,false),[]⟩,⟨some 56,.bin .eql (.tmp 55) (.const (.int .u8 95)),some (52,false),[]⟩,⟨some 57,.pick (.tmp 52) (.const (.bool true)) (.tmp 56),none,[]⟩,⟨some 5,.mov (.tmp 57),none,[]⟩]) (.seq (.ops false [⟨some 58,.mov (.tmp 4),none,[]⟩,⟨some 59,.un .not (.tmp 58),none,[]⟩,⟨some 60,.mov (.tmp 59),none,[]⟩,⟨some 61,.mov (.tmp 3),some (60,true),[]⟩,⟨some 62,.bin .eql (.tmp 61) (.const (.int .i64 0)),some (60,true),[]⟩,⟨some 63,.mov (.tmp 62),some (60,true),[]⟩,⟨some 64,.mov (.tmp 5),some (63,false),[]⟩,⟨some 65,.un .not (.tmp 64),some (63,false),[]⟩,⟨some 66,.pick (.tmp 63) (.const (.bool true)) (.tmp 65),some (60,true),[]⟩,⟨some 67,.pick (.tmp 60) (.tmp 66) (.const (.bool false)),none,[]⟩]) (.cond (.tmp 67) (.seq (.ops false [⟨some 2,.mov (.const (.bool false)),none,[]⟩]) .ret) .skip))))) (.ops false [⟨some 18,.mov (.tmp 3),none,[]⟩,⟨some 19,.bin .add (.tmp 18) (.const (.int .i64 1)),none,[]⟩,⟨some 3,.mov (.tmp 19),none,[]⟩])))
def dk153_0 : Keep := ⟨[],[0,3],[]⟩
def dc153 : DFunc := ⟨68,1,[.tmp 2],.seq (.ops false [⟨some 2,.mov (.const (.bool false)),none,[]⟩]) (.seq (.seq (.ops false [⟨some 6,.mov (.tmp 0),none,[]⟩,⟨some 7,.lenS (.tmp 6),none,[]⟩,⟨some 8,.bin .eql (.tmp 7) (.const (.int .i64 0)),none,[]⟩,⟨some 9,.mov (.tmp 8),none,[]⟩,⟨some 10,.mov (.tmp 0),some (9,false),[]⟩,⟨some 11,.lenS (.tmp 10),some (9,false),[]⟩,⟨some 12,.bin .gtr (.tmp 11) (.const (.int .i64 24)),some (9,false),[]⟩,⟨some 13,.pick (.tmp 9) (.const (.bool true)) (.tmp 12),none,[]⟩]) (.cond (.tmp 13) (.seq (.ops false [⟨some 2,.mov (.const (.bool false)),none,[]⟩]) .ret) .skip)) (.seq (.seq (.ops false [⟨some 3,.mov (.const (.int .i64 0)),none,[]⟩]) (.block 0 (some ⟨[],[],[]⟩) (.loop dk153_0 db153_0))) (.seq (.ops false [⟨some 2,.mov (.const (.bool true)),none,[]⟩]) .ret)))⟩
theorem dh153:cProg Go.Proofs.Tryz.prog ⟨[(0,⟨[],[0,3],[]⟩)],[(0,⟨[],[],[]⟩)],[]⟩ 153=some dc153:=by kernel_rfl
end Sh

namespace Sh
open Go
theorem itoa_neg' {u:Nat} (h:0 < u):Lib.itoa (-(u:Int))=45 :: Lib.decDigits u:=by
 unfold Lib.itoa;rw [if_pos (by omega)];simp
theorem itoa_notZ {b:UInt8} (hb:isD b=false) (h45:b≠45) (n:Int):b ∉ Lib.itoa n:=by
 by_cases hn:0≤n
 ·exact itoa_not hb hn
 ·obtain ⟨u,rfl⟩:∃ u:Nat,n = -(u:Int):=⟨n.natAbs,by omega⟩
  have:=itoa_not hb (n:=(u:Int)) (by omega)
  rw [itoa_nat] at this
  rw [itoa_neg' (by omega),List.mem_cons,not_or]
  exact ⟨h45,this⟩
theorem split_wnZ:∀ (a:List UInt8) (ns:List Int),32 ∉ a→splitC 32 (a++wn ns)=a :: ns.map Lib.itoa
 |a,[],h=>by rw [wn_nil,List.append_nil,splitC_one h];rfl
 |a,n :: r,h=>by
  rw [wn_cons,splitC_app _ h,split_wnZ (Lib.itoa n) r (itoa_notZ (by decide) (by decide) n)];rfl
theorem wn_notZ {b:UInt8} (hb:isD b=false) (h32:b≠32) (h45:b≠45):∀ (ns:List Int),b ∉ wn ns
 |[]=>by rw [wn_nil];simp
 |n :: r=>by
  rw [wn_cons]
  simp only [List.mem_cons,List.mem_append,not_or]
  exact ⟨h32,itoa_notZ hb h45 n,wn_notZ hb h32 h45 r⟩
theorem valD_ge:∀ (s:List UInt8) (n:Int),s.all isD=true→0≤n→n≤valD s n
 |[],n,_,_=>Int.le_refl _
 |c :: r,n,h,h0=>by
  rw [List.all_cons,Bool.and_eq_true] at h
  have hc:=(isD_iff c).1 h.1
  have:=valD_ge r (10 * n+((c.toNat:Int) - 48)) h.2 (by omega)
  show n≤valD r _
  omega
theorem valD_pos {s:List UInt8} (h:s.all isD=true) (h0:s≠[]) (h48:s.getD 0 0≠48):0 < valD s 0:=by
 cases s with
 |nil=>exact absurd rfl h0
 |cons c r =>
  rw [List.all_cons,Bool.and_eq_true] at h
  have hc:=(isD_iff c).1 h.1
  have hne:c≠48:=h48
  have hcn:c.toNat≠48:=fun e=>hne (UInt8.toNat_inj.1 e)
  have:=valD_ge r (10 * 0+((c.toNat:Int) - 48)) h.2 (by omega)
  show 0 < valD r _
  omega
theorem dec_valD:∀ (k:Nat) (s:List UInt8),s.length=k+1→s.all isD=true→(s.length=1∨s.getD 0 0≠48)→Lib.decDigits (valD s 0).toNat=s
 |0,s,hl,h,_=>by
  obtain ⟨c,rfl⟩:=List.length_eq_one_iff.1 hl
  rw [List.all_cons,Bool.and_eq_true] at h
  have hc:=(isD_iff c).1 h.1
  have e:(valD [c] 0).toNat=c.toNat - 48:=by simp only [valD];omega
  rw [e,Lib.decDigits,dif_pos (by omega),show 48+(c.toNat - 48)=c.toNat by omega]
  simp
 |k+1,s,hl,h,h48=>by
  have hne:s≠[]:=fun e=>by rw [e] at hl;simp at hl
  obtain ⟨t,c,rfl⟩:∃ t c,s=t++[c]:=⟨s.dropLast,s.getLast hne,(List.dropLast_concat_getLast hne).symm⟩
  have htl:t.length=k+1:=by simpa using hl
  have ht0:t≠[]:=fun e=>by rw [e] at htl;simp at htl
  have hhd:(t++[c]).getD 0 0=t.getD 0 0:=by
   cases t with
   |nil=>exact absurd rfl ht0
   |cons a r=>rfl
  have h48:t.getD 0 0≠48:=by
   rcases h48 with h|h
   ·omega
   ·rw [hhd] at h;exact h
  rw [List.all_append,Bool.and_eq_true] at h
  have hc:=(isD_iff c).1 (by simpa [List.all] using h.2)
  have ih:=dec_valD k t htl h.1 (.inr h48)
  have hp:=valD_pos h.1 ht0 h48
  have ev:valD (t++[c]) 0=10 * valD t 0+((c.toNat:Int) - 48):=by rw [valD_append];rfl
  generalize valD t 0=v at *
  have e1:(10 * v+((c.toNat:Int) - 48)).toNat / 10=v.toNat:=by omega
  have e2:(10 * v+((c.toNat:Int) - 48)).toNat % 10=c.toNat - 48:=by omega
  rw [ev,Lib.decDigits,dif_neg (by omega),e1,e2,ih,show 48+(c.toNat - 48)=c.toNat by omega]
  simp
theorem digS_true {s:List UInt8} (h:(digS s).2=true):s.all isD=true∧s≠[]∧s.length≤9∧(s.length=1∨s.getD 0 0≠48)∧(digS s).1=valD s 0:=by
 unfold digS at h ⊢
 cases hb:badD s with
 |true=>rw [hb] at h;exact absurd h (by simp)
 |false =>
  cases ha:s.all isD with
  |false=>rw [hb,ha] at h;exact absurd h (by simp)
  |true =>
   unfold badD at hb
   rw [Bool.or_eq_false_iff,Bool.or_eq_false_iff,decide_eq_false_iff_not,decide_eq_false_iff_not,Bool.and_eq_false_iff,decide_eq_false_iff_not,decide_eq_false_iff_not] at hb
   have h0:=List.length_pos_iff.2 hb.1.1
   refine ⟨rfl,hb.1.1,by omega,?_,rfl⟩
   rcases hb.2 with h1|h1
   ·left;omega
   ·exact .inr h1
theorem itoa_digS {s:List UInt8} (h:(digS s).2=true):0≤(digS s).1∧Lib.itoa (digS s).1=s:=by
 obtain ⟨h1,h2,h3,h4,h5⟩:=digS_true h
 have h0:=valD_ge s 0 h1 (Int.le_refl _)
 have hl:=List.length_pos_iff.2 h2
 rw [h5]
 refine ⟨h0,?_⟩
 have:=dec_valD (s.length - 1) s (by omega) h1 h4
 unfold Lib.itoa
 rw [if_neg (by omega),this]
def unsplit (b:UInt8):List (List UInt8)→List UInt8
 |[]=>[]
 |[x]=>x
 |x :: y :: r=>x++b :: unsplit b (y :: r)
theorem unsplit_cons (b:UInt8) (x:List UInt8) {r:List (List UInt8)} (h:r≠[]):unsplit b (x :: r)=x++b :: unsplit b r:=by
 cases r with
 |nil=>exact absurd rfl h
 |cons y r=>rfl
theorem unsplit_split (b:UInt8):∀ s:List UInt8,unsplit b (splitC b s)=s
 |[]=>rfl
 |c :: r=>by
  have ih:=unsplit_split b r
  have hn:=splitC_ne b r
  unfold splitC
  by_cases h:c=b
  ·rw [if_pos h,unsplit_cons b [] hn,ih,h];rfl
  ·rw [if_neg h]
   cases hs:splitC b r with
   |nil=>exact absurd hs hn
   |cons a t =>
    rw [hs] at ih
    simp only [glue]
    cases t with
    |nil=>have ih:a=r:=ih;subst ih;rfl
    |cons d u =>
     have ih:a++b :: unsplit b (d :: u)=r:=ih
     show ([c]++a)++b :: unsplit b (d :: u)=c :: r
     rw [← ih];simp
theorem unsplit_lines:∀ (rows:List (List UInt8)) (m:Nat),rows.length=m+1→unsplit 10 rows=(rows.take m).flatMap (·++[10])++rows.getD m []
 |[],m,h=>by simp at h
 |[x],m,h=>by
  have:m=0:=by simp at h;omega
  subst this;rfl
 |x :: y :: r,m,h=>by
  obtain ⟨k,rfl⟩:∃ k,m=k+1:=⟨m - 1,by simp at h;omega⟩
  have ih:=unsplit_lines (y :: r) k (by simpa using h)
  show x++10 :: unsplit 10 (y :: r)=_
  rw [ih];simp
theorem unsplit_words:∀ (a:List UInt8) (r:List (List UInt8)),unsplit 32 (a :: r)=a++Lib.joinTail [32] r
 |a,[]=>by simp [unsplit,Lib.joinTail]
 |a,y :: r=>by
  rw [unsplit_cons 32 a (by simp),unsplit_words y r]
  simp [Lib.joinTail]
theorem split_rows:∀ (rows:List (List UInt8)) (z:List UInt8),(∀ r ∈ rows,10 ∉ r)→10 ∉ z→splitC 10 (rows.flatMap (·++[10])++z)=rows++[z]
 |[],z,_,hz=>by show splitC 10 z=[z];exact splitC_one hz
 |x :: r,z,h,hz=>by
  have ih:=split_rows r z (fun y hy=>h y (List.mem_cons_of_mem _ hy)) hz
  rw [List.flatMap_cons,show (x++[10]++List.flatMap (·++[10]) r)++z=x++10 :: (List.flatMap (·++[10]) r++z) by simp,splitC_app _ (h x (List.mem_cons_self ..)),ih]
  rfl
end Sh

namespace Sh
open Go Go.Proofs
theorem q_IsName (s:List UInt8) (hs:s.length < 1073741824):PC 153 [.str s] (.bool (nameB s)):=by
 refine pureCall_ofR dh153 rfl ?_
 conv=>whnf
 repeat' (first
  |(refine ⟨fun hg=>?_,fun hg=>?_⟩<;>first|contradiction|(replace hg:=of_decide_eq_true hg;first|(exfalso;omega;done)|(conv=>whnf))|(replace hg:=of_decide_eq_false hg;first|(exfalso;omega;done)|(conv=>whnf))|(skip;conv=>whnf)|(conv=>whnf))
  |(refine Or.inl ?_;conv=>whnf)
  |(refine And.intro ?_ ?_;kernel_rfl;conv=>whnf))
 ·have hg:(24:Int) < s.length:=hg
  refine bool_eq ?_
  unfold nameB
  rw [show decide (s.length≤24)=false from decide_eq_false (by omega)];simp
 ·have hl24:¬ (24:Int) < s.length:=hg
  rename_i hl0
  have hl0:¬ ((s.length:Int)=0):=by first|exact hl0|exact of_decide_eq_false hl0
  refine dwp_loopU (P:=Tryz.prog) (G:=GC) (k:=dk153_0) (b:=db153_0) (α:=Nat) (fun i=>[(3,DV.int .i64 (i))]) (fun i=>[]) (fun i=>i≤s.length∧∀ j,j < i→nmAt s j=true) (fun i=>s.length - i) 0 ⟨Nat.zero_le _,fun d h=>by omega⟩ ?_
  conv=>whnf
  refine ⟨rfl,rfl,?_⟩
  conv=>whnf
  refine ⟨rfl,?_⟩
  intro i ⟨h1,h2⟩
  conv=>whnf
  refine ⟨fun hb=>?_,fun hb=>?_⟩
  ·have hi:i < s.length:=by simpa using hb
   clear hb
   conv=>whnf
   refine ⟨⟨by omega,by omega⟩,?_⟩
   rw [Int.toNat_natCast]
   have hl:=isLet_iff (s.getD i 0)
   have ho:=isOth_iff (s.getD i 0)
   have hn:=nmAt_iff s i
   have hbad:=nameB_bad hi
   generalize isLet (s.getD i 0)=L at *
   generalize isOth (s.getD i 0)=O at *
   generalize hcv:(s.getD i 0).toNat=c at *
   have hn':nmAt s i=true ↔ ((97≤c∧c≤122)∨(65≤c∧c≤90))∨(i≠0∧(c=95∨(48≤c∧c≤57))):=by rw [hn,hl,ho]
   have hi0:(0:Int)≤(i:Int)∧(i:Int) < (s.length:Int):=by omega
   conv=>whnf
   repeat' (first
    |(refine ⟨fun hg=>?_,fun hg=>?_⟩<;>first|contradiction|(replace hg:=of_decide_eq_true hg;first|(exfalso;omega;done)|(conv=>whnf))|(replace hg:=of_decide_eq_false hg;first|(exfalso;omega;done)|(conv=>whnf))|(skip;conv=>whnf)|(conv=>whnf))
    |(refine Or.inl ?_;conv=>whnf)
    |(refine ⟨hi0,?_⟩;rw [Int.toNat_natCast,hcv];conv=>whnf)
    |(refine And.intro ?_ ?_;kernel_rfl;conv=>whnf))
   all_goals
    first
    |(refine bool_eq (hbad ?_).symm
      cases hnm:nmAt s i with
      |false=>rfl
      |true =>
       exfalso
       have hq:=hn'.1 hnm
       clear hn' hn hl ho hbad h2
       simp only [cond_true,cond_false,Bool.not_true,Bool.not_false,decide_eq_true_eq,Bool.not_eq_true',decide_eq_false_iff_not,Bool.not_eq_false'] at *
       omega)
    |(rw [wrap_succ i (by omega)]
      refine ⟨i+1,rfl,rfl,rfl,⟨hi,fun j hj=>?_⟩,by omega⟩
      by_cases h:j=i
      ·subst h
       refine hn'.2 ?_
       clear hn' hn hl ho hbad h2
       simp only [cond_true,cond_false,Bool.not_true,Bool.not_false,decide_eq_true_eq,Bool.not_eq_true',decide_eq_false_iff_not,Bool.not_eq_false'] at *
       omega
      ·exact h2 j (by omega))
  ·have hi:i=s.length:=by have:=of_decide_eq_false hb;omega
   clear hb
   subst hi
   conv=>whnf
   refine bool_eq ?_
   rw [nameB_ok h2,decide_eq_true (show s.length≤24 by omega),decide_eq_true (show s≠[] from fun e=>by rw [e] at hl0;exact hl0 rfl)];rfl
 ·rename_i hl0
  have hl0:((s.length:Int)=0):=by first|exact hl0|exact of_decide_eq_true hl0
  have h0:s=[]:=List.eq_nil_of_length_eq_zero (by omega)
  subst h0;rfl
end Sh

namespace Sh
open Go Go.Proofs
theorem q_CheckName (s:List UInt8) (hs:s.length < 1073741824):PC 121 [.str s] (DV.int .i64 (whenE (!nameB s) 8)):=by
 have k1:=q_IsName s hs
 refine pureCall_ofR dh121 rfl ?_
 conv=>whnf
 repeat' (first
  |(refine ⟨fun hg=>?_,fun hg=>?_⟩<;>first|contradiction|(conv=>whnf))
  |(refine Or.inl ?_;conv=>whnf)
  |(refine ⟨_,k1,?_⟩;conv=>whnf)
  |(refine ⟨_,q_When ..,?_⟩;conv=>whnf)
  |(refine And.intro ?_ ?_;kernel_rfl;conv=>whnf))
 rfl
end Sh

namespace Sh
open Go Go.Proofs
theorem firstE_nine (r:List Int):firstE (9 :: r)=9:=by simp [firstE]
end Sh

namespace Sh
open Go
def db29_0 : DC := (.seq (.ops false [⟨some 9,.bin .lss (.tmp 8) (.tmp 7),none,[]⟩]) (.seq (.cond (.tmp 9) .skip (.exit 0)) (.seq (.block 1 none (.seq (.ops false [⟨some 10,.iaddr 3 (.tmp 6) (.tmp 8),none,[]⟩,⟨some 11,.load (some 3) (.tmp 10),none,[]⟩,⟨some 5,.alloc (.agg [.int .i64 0,.int .i64 0,.int .i64 0]) 3,none,[]⟩,⟨none,.store 3 (.tmp 5) (.tmp 11),none,[]⟩]) (.ops false [⟨some 12,.mov (.tmp 3),none,[]⟩,⟨some 13,.load (some 3) (.tmp 5),none,[]⟩,⟨some 14,.lit true 3 1 (.agg [.int .i64 0,.int .i64 0,.int .i64 0]) [(0,(.tmp 13))],none,[]⟩,⟨some 15,.append false 3 (.tmp 12) (.tmp 14),none,[]⟩,⟨some 3,.mov (.tmp 15),none,[]⟩]))) (.ops false [⟨some 16,.bin .add (.tmp 8) (.const (.int .i64 1)),none,[]⟩,⟨some 8,.mov (.tmp 16),none,[]⟩]))))
def dk29_0 : Keep := ⟨[(3,3)],[3,6,7,8],[3]⟩
def dc29 : DFunc := ⟨18,1,[.tmp 2],.seq (.ops false [⟨some 2,.mov (.const (.slice none 0 0)),none,[]⟩]) (.seq (.ops false [⟨some 3,.mov (.const (.slice none 0 0)),none,[]⟩]) (.seq (.seq (.ops false [⟨some 6,.mov (.tmp 0),none,[]⟩,⟨some 7,.len (.tmp 6),none,[]⟩,⟨some 8,.mov (.const (.int .i64 0)),none,[]⟩]) (.block 0 (some ⟨[],[3],[3]⟩) (.loop dk29_0 db29_0))) (.seq (.ops false [⟨some 17,.mov (.tmp 3),none,[]⟩,⟨some 2,.mov (.tmp 17),none,[]⟩]) .ret)))⟩
theorem dh29:cProg Go.Proofs.Tryz.prog ⟨[(0,⟨[(3,3)],[3,6,7,8],[3]⟩)],[(0,⟨[],[3],[3]⟩)],[14]⟩ 29=some dc29:=by kernel_rfl
def db65_0 : DC := (.seq (.ops false [⟨some 9,.bin .lss (.tmp 8) (.tmp 7),none,[]⟩]) (.seq (.cond (.tmp 9) .skip (.exit 0)) (.seq (.block 1 none (.seq (.ops false [⟨some 10,.iaddr 3 (.tmp 6) (.tmp 8),none,[]⟩,⟨some 11,.load (some 3) (.tmp 10),none,[]⟩,⟨some 5,.alloc (.agg [.str [],.int .i64 0,.int .i64 0]) 3,none,[]⟩,⟨none,.store 3 (.tmp 5) (.tmp 11),none,[]⟩]) (.ops false [⟨some 12,.mov (.tmp 3),none,[]⟩,⟨some 13,.load (some 3) (.tmp 5),none,[]⟩,⟨some 14,.lit true 3 1 (.agg [.str [],.int .i64 0,.int .i64 0]) [(0,(.tmp 13))],none,[]⟩,⟨some 15,.append false 3 (.tmp 12) (.tmp 14),none,[]⟩,⟨some 3,.mov (.tmp 15),none,[]⟩]))) (.ops false [⟨some 16,.bin .add (.tmp 8) (.const (.int .i64 1)),none,[]⟩,⟨some 8,.mov (.tmp 16),none,[]⟩]))))
def dk65_0 : Keep := ⟨[(3,3)],[3,6,7,8],[3]⟩
def dc65 : DFunc := ⟨18,1,[.tmp 2],.seq (.ops false [⟨some 2,.mov (.const (.slice none 0 0)),none,[]⟩]) (.seq (.ops false [⟨some 3,.mov (.const (.slice none 0 0)),none,[]⟩]) (.seq (.seq (.ops false [⟨some 6,.mov (.tmp 0),none,[]⟩,⟨some 7,.len (.tmp 6),none,[]⟩,⟨some 8,.mov (.const (.int .i64 0)),none,[]⟩]) (.block 0 (some ⟨[],[3],[3]⟩) (.loop dk65_0 db65_0))) (.seq (.ops false [⟨some 17,.mov (.tmp 3),none,[]⟩,⟨some 2,.mov (.tmp 17),none,[]⟩]) .ret)))⟩
theorem dh65:cProg Go.Proofs.Tryz.prog ⟨[(0,⟨[(3,3)],[3,6,7,8],[3]⟩)],[(0,⟨[],[3],[3]⟩)],[14]⟩ 65=some dc65:=by kernel_rfl
def db66_0 : DC := (.seq (.ops false [⟨some 9,.bin .lss (.tmp 8) (.tmp 7),none,[]⟩]) (.seq (.cond (.tmp 9) .skip (.exit 0)) (.seq (.block 1 none (.seq (.ops false [⟨some 10,.iaddr 2 (.tmp 6) (.tmp 8),none,[]⟩,⟨some 11,.load (some 2) (.tmp 10),none,[]⟩,⟨some 5,.alloc (.agg [.str [],.int .i64 0]) 2,none,[]⟩,⟨none,.store 2 (.tmp 5) (.tmp 11),none,[]⟩]) (.ops false [⟨some 12,.mov (.tmp 3),none,[]⟩,⟨some 13,.load (some 2) (.tmp 5),none,[]⟩,⟨some 14,.lit true 2 1 (.agg [.str [],.int .i64 0]) [(0,(.tmp 13))],none,[]⟩,⟨some 15,.append false 2 (.tmp 12) (.tmp 14),none,[]⟩,⟨some 3,.mov (.tmp 15),none,[]⟩]))) (.ops false [⟨some 16,.bin .add (.tmp 8) (.const (.int .i64 1)),none,[]⟩,⟨some 8,.mov (.tmp 16),none,[]⟩]))))
def dk66_0 : Keep := ⟨[(3,2)],[3,6,7,8],[3]⟩
def dc66 : DFunc := ⟨18,1,[.tmp 2],.seq (.ops false [⟨some 2,.mov (.const (.slice none 0 0)),none,[]⟩]) (.seq (.ops false [⟨some 3,.mov (.const (.slice none 0 0)),none,[]⟩]) (.seq (.seq (.ops false [⟨some 6,.mov (.tmp 0),none,[]⟩,⟨some 7,.len (.tmp 6),none,[]⟩,⟨some 8,.mov (.const (.int .i64 0)),none,[]⟩]) (.block 0 (some ⟨[],[3],[3]⟩) (.loop dk66_0 db66_0))) (.seq (.ops false [⟨some 17,.mov (.tmp 3),none,[]⟩,⟨some 2,.mov (.tmp 17),none,[]⟩]) .ret)))⟩
theorem dh66:cProg Go.Proofs.Tryz.prog ⟨[(0,⟨[(3,2)],[3,6,7,8],[3]⟩)],[(0,⟨[],[3],[3]⟩)],[14]⟩ 66=some dc66:=by kernel_rfl
def db80_0 : DC := (.seq (.seq (.ops false [⟨some 11,.mov (.tmp 5),none,[]⟩,⟨some 12,.mov (.tmp 0),none,[]⟩,⟨some 13,.len (.tmp 12),none,[]⟩,⟨some 14,.bin .lss (.tmp 11) (.tmp 13),none,[]⟩]) (.cond (.tmp 14) .skip (.exit 0))) (.seq (.block 1 none (.seq (.ops true [⟨some 17,.mov (.tmp 0),none,[]⟩,⟨some 18,.mov (.tmp 5),none,[]⟩,⟨some 19,.iaddr 3 (.tmp 17) (.tmp 18),none,[0,1]⟩,⟨some 20,.load (some 3) (.tmp 19),none,[2,0,1]⟩,⟨some 21,.mov (.tmp 1),none,[]⟩,⟨some 22,.mov (.tmp 5),none,[]⟩,⟨some 23,.iaddr 3 (.tmp 21) (.tmp 22),none,[4,5]⟩,⟨some 24,.load (some 3) (.tmp 23),none,[6,4,5]⟩,⟨some 25,.eqA true [1,1,1] (.tmp 20) (.tmp 24),none,[3,2,0,1,7,6,4,5]⟩]) (.cond (.tmp 25) (.seq (.ops false [⟨some 4,.mov (.const (.bool false)),none,[]⟩]) .ret) .skip))) (.ops false [⟨some 15,.mov (.tmp 5),none,[]⟩,⟨some 16,.bin .add (.tmp 15) (.const (.int .i64 1)),none,[]⟩,⟨some 5,.mov (.tmp 16),none,[]⟩])))
def dk80_0 : Keep := ⟨[],[0,1,5],[]⟩
def dc80 : DFunc := ⟨26,2,[.tmp 4],.seq (.ops false [⟨some 4,.mov (.const (.bool false)),none,[]⟩]) (.seq (.seq (.ops false [⟨some 6,.mov (.tmp 0),none,[]⟩,⟨some 7,.len (.tmp 6),none,[]⟩,⟨some 8,.mov (.tmp 1),none,[]⟩,⟨some 9,.len (.tmp 8),none,[]⟩,⟨some 10,.bin .neq (.tmp 7) (.tmp 9),none,[]⟩]) (.cond (.tmp 10) (.seq (.ops false [⟨some 4,.mov (.const (.bool false)),none,[]⟩]) .ret) .skip)) (.seq (.seq (.ops false [⟨some 5,.mov (.const (.int .i64 0)),none,[]⟩]) (.block 0 (some ⟨[],[],[]⟩) (.loop dk80_0 db80_0))) (.seq (.ops false [⟨some 4,.mov (.const (.bool true)),none,[]⟩]) .ret)))⟩
theorem dh80:cProg Go.Proofs.Tryz.prog ⟨[(0,⟨[],[0,1,5],[]⟩)],[(0,⟨[],[],[]⟩)],[]⟩ 80=some dc80:=by kernel_rfl
def db81_0 : DC := (.seq (.ops false [⟨some 9,.bin .lss (.tmp 8) (.tmp 7),none,[]⟩]) (.seq (.cond (.tmp 9) .skip (.exit 0)) (.seq (.block 1 none (.seq (.ops false [⟨some 10,.iaddr 3 (.tmp 6) (.tmp 8),none,[]⟩,⟨some 11,.load (some 3) (.tmp 10),none,[]⟩,⟨some 5,.alloc (.agg [.int .i64 0,.int .i64 0,.int .i64 0]) 3,none,[]⟩,⟨none,.store 3 (.tmp 5) (.tmp 11),none,[]⟩]) (.ops false [⟨some 12,.mov (.tmp 3),none,[]⟩,⟨some 13,.load (some 3) (.tmp 5),none,[]⟩,⟨some 14,.lit true 3 1 (.agg [.int .i64 0,.int .i64 0,.int .i64 0]) [(0,(.tmp 13))],none,[]⟩,⟨some 15,.append false 3 (.tmp 12) (.tmp 14),none,[]⟩,⟨some 3,.mov (.tmp 15),none,[]⟩]))) (.ops false [⟨some 16,.bin .add (.tmp 8) (.const (.int .i64 1)),none,[]⟩,⟨some 8,.mov (.tmp 16),none,[]⟩]))))
def dk81_0 : Keep := ⟨[(3,3)],[3,6,7,8],[3]⟩
def dc81 : DFunc := ⟨18,1,[.tmp 2],.seq (.ops false [⟨some 2,.mov (.const (.slice none 0 0)),none,[]⟩]) (.seq (.ops false [⟨some 3,.mov (.const (.slice none 0 0)),none,[]⟩]) (.seq (.seq (.ops false [⟨some 6,.mov (.tmp 0),none,[]⟩,⟨some 7,.len (.tmp 6),none,[]⟩,⟨some 8,.mov (.const (.int .i64 0)),none,[]⟩]) (.block 0 (some ⟨[],[3],[3]⟩) (.loop dk81_0 db81_0))) (.seq (.ops false [⟨some 17,.mov (.tmp 3),none,[]⟩,⟨some 2,.mov (.tmp 17),none,[]⟩]) .ret)))⟩
theorem dh81:cProg Go.Proofs.Tryz.prog ⟨[(0,⟨[(3,3)],[3,6,7,8],[3]⟩)],[(0,⟨[],[3],[3]⟩)],[14]⟩ 81=some dc81:=by kernel_rfl
def db85_0 : DC := (.seq (.seq (.ops false [⟨some 8,.mov (.tmp 7),none,[]⟩,⟨some 9,.mov (.tmp 0),none,[]⟩,⟨some 10,.lenS (.tmp 9),none,[]⟩,⟨some 11,.bin .lss (.tmp 8) (.tmp 10),none,[]⟩]) (.cond (.tmp 11) .skip (.exit 0))) (.seq (.block 1 none (.seq (.ops false [⟨some 14,.mov (.tmp 0),none,[]⟩,⟨some 15,.mov (.tmp 7),none,[]⟩,⟨some 16,.indexS (.tmp 14) (.tmp 15),none,[]⟩,⟨some 17,.mov (.tmp 1),none,[]⟩,⟨some 18,.bin .eql (.tmp 16) (.tmp 17),none,[]⟩]) (.cond (.tmp 18) (.seq (.ops false [⟨some 19,.mov (.tmp 5),none,[]⟩,⟨some 20,.mov (.tmp 0),none,[]⟩,⟨some 21,.mov (.tmp 6),none,[]⟩,⟨some 22,.mov (.tmp 7),none,[]⟩,⟨some 23,.sliceS (.tmp 20) (some (.tmp 21)) (some (.tmp 22)),none,[]⟩,⟨some 24,.lit true 1 1 (.str []) [(0,(.tmp 23))],none,[]⟩,⟨some 25,.append false 1 (.tmp 19) (.tmp 24),none,[]⟩,⟨some 5,.mov (.tmp 25),none,[]⟩]) (.ops false [⟨some 26,.mov (.tmp 7),none,[]⟩,⟨some 27,.bin .add (.tmp 26) (.const (.int .i64 1)),none,[]⟩,⟨some 6,.mov (.tmp 27),none,[]⟩])) .skip))) (.ops false [⟨some 12,.mov (.tmp 7),none,[]⟩,⟨some 13,.bin .add (.tmp 12) (.const (.int .i64 1)),none,[]⟩,⟨some 7,.mov (.tmp 13),none,[]⟩])))
def dk85_0 : Keep := ⟨[(5,1)],[0,1,5,6,7],[5,32,33]⟩
def dc85 : DFunc := ⟨34,2,[.tmp 4],.seq (.ops false [⟨some 4,.mov (.const (.slice none 0 0)),none,[]⟩]) (.seq (.ops false [⟨some 5,.mov (.const (.slice none 0 0)),none,[]⟩]) (.seq (.ops false [⟨some 6,.mov (.const (.int .i64 0)),none,[]⟩]) (.seq (.seq (.ops false [⟨some 7,.mov (.const (.int .i64 0)),none,[]⟩]) (.block 0 (some ⟨[],[0,5,6],[5,32,33]⟩) (.loop dk85_0 db85_0))) (.seq (.ops false [⟨some 28,.mov (.tmp 5),none,[]⟩,⟨some 29,.mov (.tmp 0),none,[]⟩,⟨some 30,.mov (.tmp 6),none,[]⟩,⟨some 31,.sliceS (.tmp 29) (some (.tmp 30)) none,none,[]⟩,⟨some 32,.lit true 1 1 (.str []) [(0,(.tmp 31))],none,[]⟩,⟨some 33,.append false 1 (.tmp 28) (.tmp 32),none,[]⟩,⟨some 4,.mov (.tmp 33),none,[]⟩]) .ret))))⟩
theorem dh85:cProg Go.Proofs.Tryz.prog ⟨[(0,⟨[(5,1)],[0,1,5,6,7],[5,32,33]⟩)],[(0,⟨[],[0,5,6],[5,32,33]⟩)],[24,32]⟩ 85=some dc85:=by kernel_rfl
end Sh

namespace Sh
open Go
def takenS (l:List Prt) (ts:List Tke):List Prt×Int:=if 16 < ts.length then ([],5) else takenF l ts
end Sh

namespace Sh
open Go Go.Proofs
theorem r_CheckStock (l:List Prt) (hl:l.length < 1073741824) (hn:∀ s ∈ l,s.name.length < 1073741824):PC 68 [qsV l] (DV.int .i64 (chkStk l)):=by
 have e0:((l.map encQ).length:Int)=l.length:=by simp
 refine pureCall_ofR dh68 rfl ?_
 conv=>whnf
 refine ⟨fun hg=>?_,fun hg=>?_⟩
 ·have hg:=of_decide_eq_true hg
  rw [e0] at hg
  conv=>whnf
  exact int_eq (by unfold chkStk;rw [if_pos (by omega)])
 ·have hg:=of_decide_eq_false hg
  rw [e0] at hg
  have hk:chkStk l=chkPs (knQ l 0) (l.drop 0):=by unfold chkStk;rw [if_neg (by omega)];rfl
  rw [hk]
  clear hk
  conv=>whnf
  refine dwp_loopU (P:=Tryz.prog) (G:=GC) (k:=dk68_1) (b:=db68_1) (α:=Nat) (fun i=>[(3,DV.int .i64 (i))]) (fun i=>[]) (fun i=>i≤l.length∧chkPs (knQ l 0) (l.drop 0)=chkPs (knQ l i) (l.drop i)) (fun i=>l.length - i) 0 ⟨Nat.zero_le _,rfl⟩ ?_
  conv=>whnf
  refine ⟨rfl,rfl,?_⟩
  conv=>whnf
  refine ⟨rfl,?_⟩
  intro i ⟨h1,h2⟩
  conv=>whnf
  refine ⟨fun hb=>?_,fun hb=>?_⟩
  ·have hi:i < l.length:=by simpa using hb
   clear hb
   have hd:=chkPs_drop l i hi
   have hnm:=hn _ (getD_in Q0 hi)
   have kN:=q_CheckName (l.getD i Q0).name hnm
   have hte:chkPrt (knQ l i) (l.getD i Q0)=firstE [whenE (!nameB (l.getD i Q0).name) 8,whenE (decide ((l.getD i Q0).name ∈ knQ l i)) 9,withE (l.getD i Q0).count 0 10000,withE (l.getD i Q0).least 0 10000]:=rfl
   conv=>whnf
   rw [getD_enc _ _ (i) Q0 hi]
   refine ⟨idxA hi rfl,?_⟩
   conv=>whnf
   repeat' (first
    |(refine ⟨fun hg=>?_,fun hg=>?_⟩<;>first|contradiction|(conv=>whnf))
    |(refine Or.inl ?_;conv=>whnf)
    |(refine ⟨_,kN ..,?_⟩;conv=>whnf)
    |(refine And.intro ?_ ?_;kernel_rfl;conv=>whnf))
   ·have hg:=of_decide_eq_true hg
    have hq:chkPrt (knQ l i) (l.getD i Q0)=whenE (!nameB (l.getD i Q0).name) 8:=by rw [hte];simp only [firstE];rw [if_pos hg]
    rw [hq,if_pos hg] at hd
    exact int_eq (by rw [h2,hd])
   ·have hg:=of_decide_eq_false hg
    have hte:chkPrt (knQ l i) (l.getD i Q0)=firstE [whenE (decide ((l.getD i Q0).name ∈ knQ l i)) 9,withE (l.getD i Q0).count 0 10000,withE (l.getD i Q0).least 0 10000]:=by rw [hte];simp only [firstE];rw [if_neg hg]
    refine dwp_loopU (P:=Tryz.prog) (G:=GC) (k:=dk68_0) (b:=db68_0) (α:=Nat) (fun k=>[(5,DV.int .i64 (k))]) (fun k=>[]) (fun k=>k≤i∧∀ j,j < k→(l.getD j Q0).name≠(l.getD i Q0).name) (fun k=>i - k) 0 ⟨Nat.zero_le _,fun j h=>by omega⟩ ?_
    conv=>whnf
    refine ⟨rfl,rfl,?_⟩
    conv=>whnf
    refine ⟨rfl,?_⟩
    intro k ⟨h3,h4⟩
    conv=>whnf
    refine ⟨fun hb=>?_,fun hb=>?_⟩
    ·have hk:k < i:=by have:=of_decide_eq_true hb;omega
     clear hb
     conv=>whnf
     rw [getD_enc _ _ (k) Q0 (by omega:k < l.length)]
     refine ⟨idxA (by omega:k < l.length) rfl,?_⟩
     conv=>whnf
     rw [getD_enc _ _ (i) Q0 hi]
     refine ⟨idxA hi rfl,?_⟩
     conv=>whnf
     refine ⟨by kernel_rfl,?_⟩
     conv=>whnf
     refine ⟨fun hg=>?_,fun hg=>?_⟩
     ·have hg:=of_decide_eq_true hg
      conv=>whnf
      have hm:(l.getD i Q0).name ∈ knQ l i:=List.mem_map.2 ⟨l.getD k Q0,by
       have:(l.take i).getD k Q0=l.getD k Q0:=by simp [List.getD_eq_getElem?_getD,hk]
       rw [← this];exact getD_in Q0 (by rw [List.length_take];omega),hg⟩
      have hq:chkPrt (knQ l i) (l.getD i Q0)=9:=by rw [hte,decide_eq_true hm,show whenE true 9=9 from rfl,firstE_nine]
      rw [hq,if_pos (by decide)] at hd
      exact int_eq (by rw [h2,hd])
     ·have hg:=of_decide_eq_false hg
      conv=>whnf
      rw [wrap_succ k (by omega)]
      refine ⟨k+1,rfl,rfl,rfl,⟨hk,fun j hj=>?_⟩,by omega⟩
      by_cases h:j=k
      ·subst h;exact hg
      ·exact h4 j (by omega)
    ·have hk:k=i:=by have:=of_decide_eq_false hb;omega
     subst hk
     clear hb
     have hm:(l.getD k Q0).name ∉ knQ l k:=fun e=>by
      obtain ⟨t,ht,he⟩:=List.mem_map.1 e
      obtain ⟨j,hj,rfl⟩:=List.mem_iff_getElem.1 ht
      have hj':j < k:=by rw [List.length_take] at hj;omega
      refine h4 j hj' ?_
      rw [← he]
      simp [List.getD_eq_getElem?_getD,show j < l.length by omega]
     rw [decide_eq_false hm,show whenE false 9=0 from rfl,firstE_z] at hte
     conv=>whnf
     repeat' (first
      |(refine ⟨fun hg=>?_,fun hg=>?_⟩<;>first|contradiction|(exfalso;revert hg;simp;done)|(exfalso;exact absurd (of_decide_eq_true hg) (by assumption))|(exfalso;exact absurd (by assumption) (of_decide_eq_false hg))|(conv=>whnf))
      |(refine Or.inl ?_;conv=>whnf)
      |(refine ⟨_,q_CheckRange ..,?_⟩;conv=>whnf)
      |(refine ⟨_,q_First [_,_] (by simp),?_⟩;conv=>whnf)
      |(rw [getD_enc _ _ k Q0 hi];refine ⟨idxA hi rfl,?_⟩;conv=>whnf)
      |(refine And.intro ?_ ?_;kernel_rfl;conv=>whnf))
     ·have hg:=of_decide_eq_true hg
      rw [← hte] at hg
      rw [if_pos hg] at hd
      exact int_eq (by rw [h2,hd,hte])
     ·have hg:=of_decide_eq_false hg
      rw [← hte] at hg
      rw [if_neg hg] at hd
      rw [wrap_succ k (by omega)]
      exact ⟨k+1,rfl,rfl,rfl,⟨hi,by rw [h2,hd]⟩,by omega⟩
  ·have hi:i=l.length:=by have:=of_decide_eq_false hb;rw [e0] at this;omega
   clear hb
   conv=>whnf
   exact int_eq (by rw [h2,hi,List.drop_of_length_le (Nat.le_refl _)];rfl)
end Sh

namespace Sh
open Go Go.Proofs
theorem r_SameDays (l:List (Dy)) (hl:l.length < 1073741824):PC 80 [.list (l.map encD),.list (l.map encD)] (.bool true):=by
 have e0:((l.map encD).length:Int)=l.length:=by simp
 refine pureCall_ofR dh80 rfl ?_
 conv=>whnf
 refine ⟨fun hg=>absurd rfl (of_decide_eq_true hg),fun hg=>?_⟩
 clear hg
 conv=>whnf
 refine dwp_loopU (P:=Tryz.prog) (G:=GC) (k:=dk80_0) (b:=db80_0) (α:=Nat) (fun i=>[(5,DV.int .i64 (i))]) (fun _=>[]) (fun i=>i≤l.length) (fun i=>l.length - i) 0 (Nat.zero_le _) ?_
 conv=>whnf
 refine ⟨rfl,rfl,?_⟩
 conv=>whnf
 refine ⟨rfl,?_⟩
 intro i h1
 conv=>whnf
 refine ⟨fun hb=>?_,fun hb=>?_⟩
 ·have hi:i < l.length:=by simpa using hb
  clear hb
  conv=>whnf
  rw [getD_enc _ _ (i) D0 hi]
  refine ⟨idxA hi rfl,?_⟩
  conv=>whnf
  repeat' (first
   |(refine ⟨fun hg=>?_,fun hg=>?_⟩<;>first|contradiction|(conv=>whnf))
   |(refine Or.inl ?_;conv=>whnf)
   |(rw [getD_enc _ _ i D0 hi];refine ⟨idxA hi rfl,?_⟩;conv=>whnf)
   |(refine And.intro ?_ ?_;kernel_rfl;conv=>whnf))
  ·exfalso
   revert hg
   simp
  ·rw [wrap_succ i (by omega)]
   exact ⟨i+1,rfl,rfl,rfl,hi,by omega⟩
 ·clear hb
  conv=>whnf
  rfl
end Sh

namespace Sh
open Go
section
variable {α:Type}
theorem parEG_none {wr:List (List UInt8)→Bool} {rows:List (List UInt8)}:∀ (n i:Nat),parEG wr rows n i=none ↔ ∀ k,i≤k→k < i+n→wr (splitC 32 (rows.getD k []))=false
 |0,i=>⟨fun _ k h1 h2=>by omega,fun _=>rfl⟩
 |n+1,i=>by
  have ih:=parEG_none (wr:=wr) (rows:=rows) n (i+1)
  unfold parEG
  cases hw:wr (splitC 32 (rows.getD i [])) with
  |true =>
   rw [if_pos rfl]
   refine ⟨fun h=>(nomatch h),fun h=>?_⟩
   have:=h i (Nat.le_refl _) (by omega)
   rw [hw] at this;cases this
  |false =>
   rw [if_neg (by decide),ih]
   constructor
   ·intro h k h1 h2
    by_cases e:k=i
    ·subst e;exact hw
    ·exact h k (by omega) (by omega)
   ·intro h k h1 h2
    exact h k (by omega) (by omega)
theorem prtG_rows (ln:α→List UInt8) (l:List α):prtG ln l=(l.map ln).flatMap (·++[10]):=by unfold prtG;rw [List.flatMap_map]
theorem splitG (ln:α→List UInt8) (l:List α) (z:List UInt8) (h:∀ a ∈ l,10 ∉ ln a) (hz:10 ∉ z):splitC 10 (prtG ln l++z)=l.map ln++[z]:=by
 rw [prtG_rows]
 exact split_rows (l.map ln) z (fun r hr=>by obtain ⟨s,hs,rfl⟩:=List.mem_map.1 hr;exact h s hs) hz
theorem getD_mapG (ln:α→List UInt8) (l:List α) (z:List UInt8) (k:Nat) (d:α) (h:k < l.length):(l.map ln++[z]).getD k []=ln (l.getD k d):=by
 simp [List.getD_eq_getElem?_getD,h,List.getElem?_append]
theorem linesG_back {wr:List (List UInt8)→Bool} {rd:List (List UInt8)→α} {ln:α→List UInt8} {l:List α} (hb:∀ a ∈ l,wr (splitC 32 (ln a))=false∧rd (splitC 32 (ln a))=a) (z:List UInt8) :
  parEG wr (l.map ln++[z]) l.length 0=none∧outG rd (l.map ln++[z]) l.length=l:=by
 refine ⟨(parEG_none l.length 0).2 fun k _ hk=>?_,?_⟩
 ·have hk:k < l.length:=by omega
  rw [getD_mapG ln l z k (l[k]'hk) hk]
  exact (hb _ (getD_in _ hk)).1
 ·unfold outG
  rw [List.take_left' (by simp),List.map_map]
  conv=>rhs;rw [← List.map_id l]
  exact List.map_congr_left fun a ha=>(hb a ha).2
theorem par_prtG {wr:List (List UInt8)→Bool} {rd:List (List UInt8)→α} {chk:List α→Int} {ln:α→List UInt8} {l:List α} (hb:∀ a ∈ l,wr (splitC 32 (ln a))=false∧rd (splitC 32 (ln a))=a) (hn:∀ a ∈ l,10 ∉ ln a) (hl:(prtG ln l).length≤4096) (h:chk l=0) :
  parG wr rd chk (prtG ln l)=(l,0,0):=by
 obtain ⟨b1,b2⟩:=linesG_back hb []
 have hs:=splitG ln l [] hn (by simp)
 rw [List.append_nil] at hs
 unfold parG
 rw [if_neg (by omega),hs,show (l.map ln++[([]:List UInt8)]).length - 1=l.length by simp,b1,b2]
 have e:(l.map ln++[[]]).getD l.length []=[]:=by simp [List.getD_eq_getElem?_getD]
 rw [e]
 simp [h]
theorem par_cutG {wr:List (List UInt8)→Bool} {rd:List (List UInt8)→α} {chk:List α→Int} {ln:α→List UInt8} {l:List α} (hb:∀ a ∈ l,wr (splitC 32 (ln a))=false∧rd (splitC 32 (ln a))=a) (hn:∀ a ∈ l,10 ∉ ln a) (hne:∀ a ∈ l,ln a≠[]) (hl:(prtG ln l).length≤4097) (h0:l≠[]) :
  parG wr rd chk ((prtG ln l).take ((prtG ln l).length - 1))=([],((l.length - 1:Nat):Int),25):=by
 obtain ⟨t,s,rfl⟩:∃ t s,l=t++[s]:=⟨l.dropLast,l.getLast h0,(List.dropLast_concat_getLast h0).symm⟩
 have e1:prtG ln (t++[s])=(prtG ln t++ln s)++[10]:=by unfold prtG;simp
 have e2:(prtG ln (t++[s])).take ((prtG ln (t++[s])).length - 1)=prtG ln t++ln s:=by
  rw [e1]
  generalize prtG ln t++ln s=u
  rw [List.length_append];simp
 have e3:=splitG ln t (ln s) (fun a ha=>hn a (List.mem_append_left _ ha)) (hn s (by simp))
 have b1:=(linesG_back (wr:=wr) (rd:=rd) (fun x hx=>hb x (List.mem_append_left _ hx)) (ln s)).1
 have e4:(t.map ln++[ln s]).getD t.length []=ln s:=by simp [List.getD_eq_getElem?_getD]
 rw [e2]
 have hl2:¬ 4096 < (prtG ln t++ln s).length:=by
  have:=congrArg List.length e1
  rw [List.length_append] at this
  simp only [List.length_cons,List.length_nil] at this
  omega
 unfold parG
 rw [if_neg hl2,e3,show (t.map ln++[ln s]).length - 1=t.length by simp,b1,e4]
 simp [hne s (by simp)]
theorem prt_parG {wr:List (List UInt8)→Bool} {rd:List (List UInt8)→α} {chk:List α→Int} {ln:α→List UInt8} (hs:∀ r,wr (splitC 32 r)=false→ln (rd (splitC 32 r))=r) {s:List UInt8} (h:(parG wr rd chk s).2.2=0) :
  chk (parG wr rd chk s).1=0∧prtG ln (parG wr rd chk s).1=s:=by
 unfold parG at h ⊢
 split at h
 ·exact absurd h (show ¬ (26:Int)=0 by decide)
 rename_i h4
 rw [if_neg h4]
 have hu:=unsplit_split 10 s
 have hn:=splitC_ne 10 s
 generalize splitC 10 s=rows at *
 obtain ⟨m,hm⟩:∃ m,rows.length=m+1:=⟨rows.length - 1,by have:=List.length_pos_iff.2 hn;omega⟩
 rw [hm,Nat.add_sub_cancel] at h ⊢
 cases hp:parEG wr rows m 0 with
 |some i=>rw [hp] at h;exact absurd h (by simp)
 |none =>
  rw [hp] at h
  simp only at h ⊢
  by_cases hz:rows.getD m []≠[]
  ·rw [if_pos hz] at h;exact absurd h (by simp)
  ·rw [if_neg hz] at h ⊢
   by_cases hc:chk (outG rd rows m)≠0
   ·rw [if_pos hc] at h;exact absurd h hc
   ·rw [if_neg hc]
    refine ⟨Classical.not_not.1 hc,?_⟩
    have hz:=Classical.not_not.1 hz
    rw [unsplit_lines rows m hm,hz,List.append_nil] at hu
    have hall:=(parEG_none m 0).1 hp
    have:prtG ln (outG rd rows m)=(rows.take m).flatMap (·++[10]):=by
     rw [prtG_rows]
     congr 1
     unfold outG
     rw [List.map_map]
     apply List.ext_getElem
     ·simp
     ·intro i i1 i2
      have hi:i < m:=by simp at i1;omega
      have e:=hall i (Nat.zero_le _) (by omega)
      have g1:rows.getD i []=rows[i]'(by omega):=by simp [List.getD_eq_getElem?_getD,show i < rows.length by omega]
      rw [g1] at e
      rw [List.getElem_map,List.getElem_take]
      exact hs _ e
    show prtG ln (outG rd rows m)=s
    rw [this,hu]
end
end Sh

namespace Sh
open Go
theorem split_linD (d:Dy):splitC 32 (linD d)=dayB :: (numsD d).map Lib.itoa:=split_wnZ dayB (numsD d) (by decide)
theorem linD_not (d:Dy):10 ∉ linD d:=by
 unfold linD
 rw [List.mem_append,not_or]
 exact ⟨by decide,wn_notZ (by decide) (by decide) (by decide) _⟩
theorem linD_back {d:Dy} (h:OkDy d):wrongD (splitC 32 (linD d))=false∧dayW (splitC 32 (linD d))=d:=by
 rw [split_linD]
 have e1:=digS_itoa h.d0 (by have:=h.d1;omega)
 have e2:=digS_itoa h.r0 (by have:=h.r1;omega)
 have e3:=digS_itoa h.l0 (by have:=h.l1;omega)
 refine ⟨?_,?_⟩
 ·unfold wrongD numsD
  simp [e1,e2,e3]
 ·unfold dayW numsD
  simp [e1,e2,e3]
theorem linD_same {r:List UInt8} (h:wrongD (splitC 32 r)=false):linD (dayW (splitC 32 r))=r:=by
 have hu:=unsplit_split 32 r
 generalize splitC 32 r=w at *
 unfold wrongD at h
 rw [Bool.not_eq_false',Bool.and_eq_true,Bool.and_eq_true,decide_eq_true_eq,decide_eq_true_eq] at h
 obtain ⟨⟨h1,h2⟩,h3⟩:=h
 match w,h1 with
 |[a,x,y,z],_ =>
  have h2:a=dayB:=h2
  subst h2
  simp only [List.drop_succ_cons,List.drop_zero,List.all_cons,List.all_nil,Bool.and_true,Bool.and_eq_true] at h3
  obtain ⟨g1,g2,g3⟩:=h3
  rw [unsplit_words] at hu
  rw [← hu]
  show dayB++wn [(digS x).1,(digS y).1,(digS z).1]=_
  unfold wn
  rw [List.map_cons,List.map_cons,List.map_cons,List.map_nil,(itoa_digS g1).2,(itoa_digS g2).2,(itoa_digS g3).2]
theorem linD_ne (d:Dy):linD d≠[]:=by unfold linD dayB;simp
end Sh

namespace Sh
open Go Go.Proofs
theorem q_Split (s:List UInt8) (b:UInt8) (hs:s.length < 1073741824):PC 85 [.str s,.int .u8 (b.toNat)] (.list ((splitC b s).map DV.str)):=by
 refine pureCall_ofR dh85 rfl ?_
 conv=>whnf
 refine dwp_loopR (P:=Tryz.prog) (G:=GC) (k:=dk85_0) (b:=db85_0) (α:=List (List UInt8)×Nat×Nat) (fun a=>[(0,.str s),(1,.int .u8 (b.toNat)),(5,.own 5 0 (a.1.map DV.str).length (a.1.map DV.str).length),(6,DV.int .i64 ((a.2.1:Nat))),(7,DV.int .i64 ((a.2.2:Nat)))]) (fun a=>[(5,.row 1 (a.1.map DV.str) false)]) (fun a=>a.1.length≤a.2.2∧a.2.1≤a.2.2∧a.2.2≤s.length∧splitC b s=a.1++glue (window s a.2.1 (a.2.2 - a.2.1)) (splitC b (s.drop a.2.2))) (fun a=>s.length - a.2.2) ([],0,0) ⟨rfl,rfl,rfl⟩ ⟨Nat.le_refl _,Nat.le_refl _,Nat.zero_le _,(glue_nil (splitC_ne b s)).symm⟩ ?_
 intro ⟨O,f,i⟩ ⟨h0,h1,h2,h3⟩
 have h0:O.length≤i:=h0
 have h1:f≤i:=h1
 have h2:i≤s.length:=h2
 have h3:splitC b s=O++glue (window s f (i - f)) (splitC b (s.drop i)):=h3
 dsimp only
 conv=>whnf
 refine ⟨fun hb=>?_,fun hb=>?_⟩
 ·have hi:i < s.length:=by have:(i:Int) < s.length:=of_decide_eq_true hb;omega
  clear hb
  conv=>whnf
  refine ⟨⟨by omega,by omega⟩,?_⟩
  conv=>whnf
  refine ⟨fun hq=>?_,fun hq=>?_⟩
  ·have hq:((s.getD i 0).toNat:Int)=(b.toNat:Int):=of_decide_eq_true hq
   have hq:s.getD i 0=b:=UInt8.toNat_inj.1 (by omega)
   conv=>whnf
   refine ⟨⟨by omega,by omega,by omega⟩,?_⟩
   conv=>whnf
   rw [show Int.toNat ((i:Int) - (f:Int))=i - f by omega,Int.toNat_natCast]
   refine ⟨⟨rfl,rfl,rfl,by simp;omega,fun e he=>by simp at he;subst he;rfl⟩,?_⟩
   conv=>whnf
   rw [wrap_succ i (by omega)]
   have hO:(O++[window s f (i - f)]).map DV.str=O.map DV.str++[DV.str (window s f (i - f))]:=by simp
   refine ⟨(O++[window s f (i - f)],i+1,i+1),rfl,?_,?_,⟨?_,Nat.le_refl _,hi,?_⟩,?_⟩
   ·dsimp only;rw [hO];rfl
   ·dsimp only;rw [hO];rfl
   ·show (O++[window s f (i - f)]).length≤i+1;simp;omega
   ·show splitC b s=(O++[window s f (i - f)])++glue (window s (i+1) (i+1 - (i+1))) (splitC b (s.drop (i+1)))
    rw [h3,splitC_yes hi hq,Nat.sub_self]
    have e1:window s (i+1) 0=[]:=by simp [window]
    rw [e1,glue_nil (splitC_ne _ _)]
    simp
   ·show s.length - (i+1) < s.length - i;omega
  ·have hq:¬ ((s.getD i 0).toNat:Int)=(b.toNat:Int):=of_decide_eq_false hq
   have hq:¬ s.getD i 0=b:=fun e=>hq (by rw [e])
   conv=>whnf
   rw [wrap_succ i (by omega)]
   refine ⟨(O,f,i+1),rfl,rfl,rfl,⟨?_,?_,hi,?_⟩,?_⟩
   ·show O.length≤i+1;omega
   ·show f≤i+1;omega
   ·show splitC b s=O++glue (window s f (i+1 - f)) (splitC b (s.drop (i+1)))
    rw [h3,splitC_no hi hq,window_snoc s f i h1 hi]
   ·show s.length - (i+1) < s.length - i;omega
 ·have hi:i=s.length:=by have:¬ (i:Int) < s.length:=of_decide_eq_false hb;omega
  clear hb
  conv=>whnf
  refine ⟨⟨by omega,by omega,by omega⟩,?_⟩
  conv=>whnf
  rw [show Int.toNat ((s.length:Int) - (f:Int))=s.length - f by omega,Int.toNat_natCast]
  refine ⟨⟨rfl,rfl,rfl,by simp;omega,fun e he=>by simp at he;subst he;rfl⟩,?_⟩
  conv=>whnf
  refine ⟨rfl,?_⟩
  rw [window_full]
  have hO:(O++[window s f (s.length - f)]).map DV.str=O.map DV.str++[DV.str (window s f (s.length - f))]:=by simp
  have hS:splitC b s=O++[window s f (s.length - f)]:=by
   rw [h3,hi,List.drop_length]
   simp [splitC,glue]
  rw [hS,hO]
  rfl
end Sh

namespace Sh
open Go Go.Proofs
theorem l_given (l:List Dy) (hl:l.length < 1073741824):PC 29 [.list (l.map encD)] (.list (l.map encD)):=by
 have e0:((l.map encD).length:Int)=l.length:=by simp
 refine pureCall_ofR dh29 rfl ?_
 conv=>whnf
 refine dwp_loopU (P:=Tryz.prog) (G:=GC) (k:=dk29_0) (b:=db29_0) (α:=Nat) (fun i=>[(3,.own 3 0 ((l.take i).map encD).length ((l.take i).map encD).length),(8,DV.int .i64 (i))]) (fun i=>[(3,.row 3 ((l.take i).map encD) false)]) (fun i=>i≤l.length) (fun i=>l.length - i) 0 (Nat.zero_le _) ?_
 conv=>whnf
 refine ⟨rfl,rfl,?_⟩
 conv=>whnf
 refine ⟨rfl,?_⟩
 intro i h1
 conv=>whnf
 refine ⟨fun hb=>?_,fun hb=>?_⟩
 ·have hi:i < l.length:=by simpa using hb
  clear hb
  have hs:(l.take (i+1)).map encD=(l.take i).map encD++[encD (l.getD i D0)]:=by rw [take_snoc l i D0 hi,List.map_append];rfl
  have hln:((l.take i).map encD).length=i:=by simp;omega
  generalize hR':(l.take (i+1)).map encD=R' at *
  generalize hR:(l.take i).map encD=R at *
  conv=>whnf
  rw [getD_enc _ _ (i) D0 hi]
  refine ⟨idxA hi rfl,?_⟩
  conv=>whnf
  refine ⟨⟨rfl,rfl,rfl,by rw [hln];simp;omega,fun e he=>by simp at he;subst he;rfl⟩,?_⟩
  conv=>whnf
  rw [wrap_succ i (by omega)]
  refine ⟨i+1,rfl,?_,?_,hi,by omega⟩
  ·rw [hR',hs];rfl
  ·rw [hR',hs];rfl
 ·have hi:i=l.length:=by have:=of_decide_eq_false hb;rw [e0] at this;omega
  clear hb
  rw [hi,List.take_length]
  conv=>whnf
  refine ⟨rfl,?_⟩
  rw [window_full]
  first|rfl|(show DV.list _=_;rfl)
theorem l_days (l:List Dy) (hl:l.length < 1073741824):PC 81 [.list (l.map encD)] (.list (l.map encD)):=by
 have e0:((l.map encD).length:Int)=l.length:=by simp
 refine pureCall_ofR dh81 rfl ?_
 conv=>whnf
 refine dwp_loopU (P:=Tryz.prog) (G:=GC) (k:=dk81_0) (b:=db81_0) (α:=Nat) (fun i=>[(3,.own 3 0 ((l.take i).map encD).length ((l.take i).map encD).length),(8,DV.int .i64 (i))]) (fun i=>[(3,.row 3 ((l.take i).map encD) false)]) (fun i=>i≤l.length) (fun i=>l.length - i) 0 (Nat.zero_le _) ?_
 conv=>whnf
 refine ⟨rfl,rfl,?_⟩
 conv=>whnf
 refine ⟨rfl,?_⟩
 intro i h1
 conv=>whnf
 refine ⟨fun hb=>?_,fun hb=>?_⟩
 ·have hi:i < l.length:=by simpa using hb
  clear hb
  have hs:(l.take (i+1)).map encD=(l.take i).map encD++[encD (l.getD i D0)]:=by rw [take_snoc l i D0 hi,List.map_append];rfl
  have hln:((l.take i).map encD).length=i:=by simp;omega
  generalize hR':(l.take (i+1)).map encD=R' at *
  generalize hR:(l.take i).map encD=R at *
  conv=>whnf
  rw [getD_enc _ _ (i) D0 hi]
  refine ⟨idxA hi rfl,?_⟩
  conv=>whnf
  refine ⟨⟨rfl,rfl,rfl,by rw [hln];simp;omega,fun e he=>by simp at he;subst he;rfl⟩,?_⟩
  conv=>whnf
  rw [wrap_succ i (by omega)]
  refine ⟨i+1,rfl,?_,?_,hi,by omega⟩
  ·rw [hR',hs];rfl
  ·rw [hR',hs];rfl
 ·have hi:i=l.length:=by have:=of_decide_eq_false hb;rw [e0] at this;omega
  clear hb
  rw [hi,List.take_length]
  conv=>whnf
  refine ⟨rfl,?_⟩
  rw [window_full]
  first|rfl|(show DV.list _=_;rfl)
theorem l_shelf (l:List Prt) (hl:l.length < 1073741824):PC 65 [.list (l.map encQ)] (.list (l.map encQ)):=by
 have e0:((l.map encQ).length:Int)=l.length:=by simp
 refine pureCall_ofR dh65 rfl ?_
 conv=>whnf
 refine dwp_loopU (P:=Tryz.prog) (G:=GC) (k:=dk65_0) (b:=db65_0) (α:=Nat) (fun i=>[(3,.own 3 0 ((l.take i).map encQ).length ((l.take i).map encQ).length),(8,DV.int .i64 (i))]) (fun i=>[(3,.row 3 ((l.take i).map encQ) false)]) (fun i=>i≤l.length) (fun i=>l.length - i) 0 (Nat.zero_le _) ?_
 conv=>whnf
 refine ⟨rfl,rfl,?_⟩
 conv=>whnf
 refine ⟨rfl,?_⟩
 intro i h1
 conv=>whnf
 refine ⟨fun hb=>?_,fun hb=>?_⟩
 ·have hi:i < l.length:=by simpa using hb
  clear hb
  have hs:(l.take (i+1)).map encQ=(l.take i).map encQ++[encQ (l.getD i Q0)]:=by rw [take_snoc l i Q0 hi,List.map_append];rfl
  have hln:((l.take i).map encQ).length=i:=by simp;omega
  generalize hR':(l.take (i+1)).map encQ=R' at *
  generalize hR:(l.take i).map encQ=R at *
  conv=>whnf
  rw [getD_enc _ _ (i) Q0 hi]
  refine ⟨idxA hi rfl,?_⟩
  conv=>whnf
  refine ⟨⟨rfl,rfl,rfl,by rw [hln];simp;omega,fun e he=>by simp at he;subst he;rfl⟩,?_⟩
  conv=>whnf
  rw [wrap_succ i (by omega)]
  refine ⟨i+1,rfl,?_,?_,hi,by omega⟩
  ·rw [hR',hs];rfl
  ·rw [hR',hs];rfl
 ·have hi:i=l.length:=by have:=of_decide_eq_false hb;rw [e0] at this;omega
  clear hb
  rw [hi,List.take_length]
  conv=>whnf
  refine ⟨rfl,?_⟩
  rw [window_full]
  first|rfl|(show DV.list _=_;rfl)
theorem l_asked (l:List Tke) (hl:l.length < 1073741824):PC 66 [.list (l.map encK)] (.list (l.map encK)):=by
 have e0:((l.map encK).length:Int)=l.length:=by simp
 refine pureCall_ofR dh66 rfl ?_
 conv=>whnf
 refine dwp_loopU (P:=Tryz.prog) (G:=GC) (k:=dk66_0) (b:=db66_0) (α:=Nat) (fun i=>[(3,.own 3 0 ((l.take i).map encK).length ((l.take i).map encK).length),(8,DV.int .i64 (i))]) (fun i=>[(3,.row 2 ((l.take i).map encK) false)]) (fun i=>i≤l.length) (fun i=>l.length - i) 0 (Nat.zero_le _) ?_
 conv=>whnf
 refine ⟨rfl,rfl,?_⟩
 conv=>whnf
 refine ⟨rfl,?_⟩
 intro i h1
 conv=>whnf
 refine ⟨fun hb=>?_,fun hb=>?_⟩
 ·have hi:i < l.length:=by simpa using hb
  clear hb
  have hs:(l.take (i+1)).map encK=(l.take i).map encK++[encK (l.getD i K0)]:=by rw [take_snoc l i K0 hi,List.map_append];rfl
  have hln:((l.take i).map encK).length=i:=by simp;omega
  generalize hR':(l.take (i+1)).map encK=R' at *
  generalize hR:(l.take i).map encK=R at *
  conv=>whnf
  rw [getD_enc _ _ (i) K0 hi]
  refine ⟨idxA hi rfl,?_⟩
  conv=>whnf
  refine ⟨⟨rfl,rfl,rfl,by rw [hln];simp;omega,fun e he=>by simp at he;subst he;rfl⟩,?_⟩
  conv=>whnf
  rw [wrap_succ i (by omega)]
  refine ⟨i+1,rfl,?_,?_,hi,by omega⟩
  ·rw [hR',hs];rfl
  ·rw [hR',hs];rfl
 ·have hi:i=l.length:=by have:=of_decide_eq_false hb;rw [e0] at this;omega
  clear hb
  rw [hi,List.take_length]
  conv=>whnf
  refine ⟨rfl,?_⟩
  rw [window_full]
  first|rfl|(show DV.list _=_;rfl)
end Sh

namespace Sh
open Go
end Sh

set_option maxHeartbeats 2000000
namespace Sh
open Go Go.Proofs
end Sh

namespace Sh
open Go
end Sh

set_option maxHeartbeats 4000000
namespace Sh
open Go Go.Proofs
theorem tkn_ok {l:List Prt} (h:chkStk l=0) (ts:List Tke):tknP l ts=takenS l ts:=by
 unfold tknP takenS tkE
 rw [h,firstE_z,firstE_one]
 by_cases h2:16 < ts.length
 ·rw [decide_eq_true h2,if_pos h2,if_pos (by decide)];rfl
 ·rw [decide_eq_false h2,if_neg h2,if_neg (by decide)]
end Sh

namespace Sh
open Go
end Sh

namespace Sh
open Go Go.Proofs
theorem parDs_len {s:List UInt8} (hs:s.length≤4097):(parDs s).1.length < 1073741824:=by
 have hl:=splitC_len 10 s
 unfold parDs parG
 split
 ·exact Nat.zero_lt_succ _
 ·split
  ·exact Nat.zero_lt_succ _
  ·split
   ·exact Nat.zero_lt_succ _
   ·split
    ·exact Nat.zero_lt_succ _
    ·show (outG dayW (splitC 10 s) ((splitC 10 s).length - 1)).length < _
     rw [outG_len _ _ _ (by omega)];omega
end Sh

namespace Sh
open Go
def db14_0 : DC := (.seq (.ops false [⟨some 104,.bin .lss (.tmp 103) (.tmp 102),none,[]⟩]) (.seq (.cond (.tmp 104) .skip (.exit 2)) (.seq (.block 3 none (.seq (.ops false [⟨some 105,.iaddr 2 (.tmp 101) (.tmp 103),none,[]⟩,⟨some 106,.load (some 2) (.tmp 105),none,[]⟩,⟨some 13,.alloc (.agg [.str [],.int .i64 0]) 2,none,[]⟩,⟨none,.store 2 (.tmp 13) (.tmp 106),none,[]⟩]) (.seq (.ops false [⟨some 107,.faddr 0 1 false (.tmp 13),none,[]⟩,⟨some 108,.load none (.tmp 107),none,[]⟩,⟨some 109,.faddr 0 1 false (.tmp 10),none,[]⟩,⟨some 110,.load none (.tmp 109),none,[]⟩,⟨some 111,.bin .eql (.tmp 108) (.tmp 110),none,[]⟩]) (.cond (.tmp 111) (.ops false [⟨some 112,.mov (.tmp 11),none,[]⟩,⟨some 113,.faddr 1 1 false (.tmp 13),none,[]⟩,⟨some 114,.load none (.tmp 113),none,[]⟩,⟨some 115,.bin .add (.tmp 112) (.tmp 114),none,[]⟩,⟨some 11,.mov (.tmp 115),none,[]⟩]) .skip)))) (.ops false [⟨some 116,.bin .add (.tmp 103) (.const (.int .i64 1)),none,[]⟩,⟨some 103,.mov (.tmp 116),none,[]⟩]))))
def dk14_0 : Keep := ⟨[],[0,1,5,9,10,11,92,93,94,101,102,103],[5,10,19,165,167]⟩
def db14_1 : DC := (.seq (.ops false [⟨some 95,.bin .lss (.tmp 94) (.tmp 93),none,[]⟩]) (.seq (.cond (.tmp 95) .skip (.exit 0)) (.seq (.block 1 (some ⟨[],[0,1,5,92,93,94],[5,19,165,167]⟩) (.seq (.ops false [⟨some 96,.mov (.tmp 94),none,[]⟩,⟨some 97,.iaddr 3 (.tmp 92) (.tmp 94),none,[]⟩,⟨some 98,.load (some 3) (.tmp 97),none,[]⟩,⟨some 10,.alloc (.agg [.str [],.int .i64 0,.int .i64 0]) 3,none,[]⟩,⟨some 9,.mov (.tmp 96),none,[]⟩,⟨none,.store 3 (.tmp 10) (.tmp 98),none,[]⟩]) (.seq (.ops false [⟨some 99,.faddr 1 1 false (.tmp 10),none,[]⟩,⟨some 100,.load none (.tmp 99),none,[]⟩,⟨some 11,.mov (.tmp 100),none,[]⟩]) (.seq (.seq (.ops false [⟨some 101,.mov (.tmp 1),none,[]⟩,⟨some 102,.len (.tmp 101),none,[]⟩,⟨some 103,.mov (.const (.int .i64 0)),none,[]⟩]) (.block 2 (some ⟨[],[0,1,5,9,10,11,92,93,94],[5,10,19,165,167]⟩) (.loop dk14_0 db14_0))) (.seq (.ops true [⟨some 117,.faddr 0 1 false (.tmp 10),none,[]⟩,⟨some 118,.load none (.tmp 117),none,[0]⟩,⟨some 119,.mov (.tmp 0),none,[]⟩,⟨some 120,.mov (.tmp 9),none,[]⟩,⟨some 121,.iaddr 3 (.tmp 119) (.tmp 120),none,[2,3]⟩,⟨some 122,.faddr 0 1 false (.tmp 121),none,[4,2,3]⟩,⟨some 123,.load none (.tmp 122),none,[5,4,2,3]⟩,⟨some 124,.bin .neq (.tmp 118) (.tmp 123),none,[1,0,6,5,4,2,3]⟩,⟨some 125,.mov (.tmp 124),none,[7,1,0,6,5,4,2,3]⟩,⟨some 126,.faddr 2 1 false (.tmp 10),some (125,false),[8,7,1,0,6,5,4,2,3]⟩,⟨some 127,.load none (.tmp 126),some (125,false),[9,8,7,1,0,6,5,4,2,3]⟩,⟨some 128,.mov (.tmp 0),some (125,false),[8,7,1,0,6,5,4,2,3]⟩,⟨some 129,.mov (.tmp 9),some (125,false),[8,7,1,0,6,5,4,2,3]⟩,⟨some 130,.iaddr 3 (.tmp 128) (.tmp 129),some (125,false),[11,8,7,1,0,6,5,4,2,3,12]⟩,⟨some 131,.faddr 2 1 false (.tmp 130),some (125,false),[13,11,8,7,1,0,6,5,4,2,3,12]⟩,⟨some 132,.load none (.tmp 131),some (125,false),[14,13,11,8,7,1,0,6,5,4,2,3,12]⟩,⟨some 133,.bin .neq (.tmp 127) (.tmp 132),some (125,false),[10,9,8,7,1,0,6,5,4,2,3,15,14,13,11,12]⟩,⟨some 134,.pick (.tmp 125) (.const (.bool true)) (.tmp 133),none,[8,7,1,0,6,5,4,2,3,16,10,9,15,14,13,11,12]⟩,⟨some 135,.mov (.tmp 134),none,[17,8,7,1,0,6,5,4,2,3,16,10,9,15,14,13,11,12]⟩,⟨some 136,.mov (.tmp 11),some (135,false),[18,17,8,7,1,0,6,5,4,2,3,16,10,9,15,14,13,11,12]⟩,⟨some 137,.mov (.tmp 0),some (135,false),[18,17,8,7,1,0,6,5,4,2,3,16,10,9,15,14,13,11,12]⟩,⟨some 138,.mov (.tmp 9),some (135,false),[18,17,8,7,1,0,6,5,4,2,3,16,10,9,15,14,13,11,12]⟩,⟨some 139,.iaddr 3 (.tmp 137) (.tmp 138),some (135,false),[20,18,17,8,7,1,0,6,5,4,2,3,16,10,9,15,14,13,11,12,21]⟩,⟨some 140,.faddr 1 1 false (.tmp 139),some (135,false),[22,20,18,17,8,7,1,0,6,5,4,2,3,16,10,9,15,14,13,11,12,21]⟩,⟨some 141,.load none (.tmp 140),some (135,false),[23,22,20,18,17,8,7,1,0,6,5,4,2,3,16,10,9,15,14,13,11,12,21]⟩,⟨some 142,.bin .neq (.tmp 136) (.tmp 141),some (135,false),[19,18,17,8,7,1,0,6,5,4,2,3,16,10,9,15,14,13,11,12,24,23,22,20,21]⟩,⟨some 143,.pick (.tmp 135) (.const (.bool true)) (.tmp 142),none,[18,17,8,7,1,0,6,5,4,2,3,16,10,9,15,14,13,11,12,25,19,24,23,22,20,21]⟩,⟨some 144,.mov (.tmp 143),none,[26,18,17,8,7,1,0,6,5,4,2,3,16,10,9,15,14,13,11,12,25,19,24,23,22,20,21]⟩,⟨some 145,.faddr 1 1 false (.tmp 10),some (144,false),[27,26,18,17,8,7,1,0,6,5,4,2,3,16,10,9,15,14,13,11,12,25,19,24,23,22,20,21]⟩,⟨some 146,.load none (.tmp 145),some (144,false),[28,27,26,18,17,8,7,1,0,6,5,4,2,3,16,10,9,15,14,13,11,12,25,19,24,23,22,20,21]⟩,⟨some 147,.bin .lss (.tmp 146) (.const (.int .i64 0)),some (144,false),[29,28,27,26,18,17,8,7,1,0,6,5,4,2,3,16,10,9,15,14,13,11,12,25,19,24,23,22,20,21]⟩,⟨some 148,.pick (.tmp 144) (.const (.bool true)) (.tmp 147),none,[27,26,18,17,8,7,1,0,6,5,4,2,3,16,10,9,15,14,13,11,12,25,19,24,23,22,20,21,30,29,28]⟩]) (.cond (.tmp 148) (.seq (.ops false [⟨some 6,.mov (.const (.bool false)),none,[]⟩]) .ret) .skip)))))) (.ops false [⟨some 149,.bin .add (.tmp 94) (.const (.int .i64 1)),none,[]⟩,⟨some 94,.mov (.tmp 149),none,[]⟩]))))
def dk14_1 : Keep := ⟨[],[0,1,5,92,93,94],[5,19,165,167]⟩
def db14_2 : DC := (.seq (.ops false [⟨some 171,.bin .lss (.tmp 170) (.tmp 169),none,[]⟩]) (.seq (.cond (.tmp 171) .skip (.exit 4)) (.seq (.block 5 none (.seq (.ops false [⟨some 172,.mov (.tmp 170),none,[]⟩,⟨some 173,.iaddr 3 (.tmp 168) (.tmp 170),none,[]⟩,⟨some 174,.load (some 3) (.tmp 173),none,[]⟩,⟨some 19,.alloc (.agg [.str [],.int .i64 0,.int .i64 0]) 3,none,[]⟩,⟨some 18,.mov (.tmp 172),none,[]⟩,⟨none,.store 3 (.tmp 19) (.tmp 174),none,[]⟩]) (.seq (.seq (.ops false [⟨some 175,.faddr 1 1 false (.tmp 19),none,[]⟩,⟨some 176,.load none (.tmp 175),none,[]⟩,⟨some 177,.faddr 2 1 false (.tmp 19),none,[]⟩,⟨some 178,.load none (.tmp 177),none,[]⟩,⟨some 179,.bin .geq (.tmp 176) (.tmp 178),none,[]⟩]) (.cond (.tmp 179) (.exit 5) .skip)) (.seq (.seq (.ops true [⟨some 180,.mov (.tmp 17),none,[]⟩,⟨some 181,.mov (.tmp 14),none,[]⟩,⟨some 182,.len (.tmp 181),none,[1]⟩,⟨some 183,.bin .geq (.tmp 180) (.tmp 182),none,[0,2,1]⟩,⟨some 184,.mov (.tmp 183),none,[3,0,2,1]⟩,⟨some 185,.mov (.tmp 14),some (184,false),[4,3,0,2,1]⟩,⟨some 186,.mov (.tmp 17),some (184,false),[4,3,0,2,1]⟩,⟨some 187,.iaddr 2 (.tmp 185) (.tmp 186),some (184,false),[5,4,3,0,2,1,6]⟩,⟨some 188,.faddr 0 1 false (.tmp 187),some (184,false),[7,5,4,3,0,2,1,6]⟩,⟨some 189,.load none (.tmp 188),some (184,false),[8,7,5,4,3,0,2,1,6]⟩,⟨some 190,.faddr 0 1 false (.tmp 19),some (184,false),[4,3,0,2,1]⟩,⟨some 191,.load none (.tmp 190),some (184,false),[10,4,3,0,2,1]⟩,⟨some 192,.bin .neq (.tmp 189) (.tmp 191),some (184,false),[9,8,7,5,4,3,0,2,1,6,11,10]⟩,⟨some 193,.pick (.tmp 184) (.const (.bool true)) (.tmp 192),none,[4,3,0,2,1,12,9,8,7,5,6,11,10]⟩,⟨some 194,.mov (.tmp 193),none,[13,4,3,0,2,1,12,9,8,7,5,6,11,10]⟩,⟨some 195,.mov (.tmp 14),some (194,false),[14,13,4,3,0,2,1,12,9,8,7,5,6,11,10]⟩,⟨some 196,.mov (.tmp 17),some (194,false),[14,13,4,3,0,2,1,12,9,8,7,5,6,11,10]⟩,⟨some 197,.iaddr 2 (.tmp 195) (.tmp 196),some (194,false),[15,14,13,4,3,0,2,1,12,9,8,7,5,6,11,10,16]⟩,⟨some 198,.faddr 1 1 false (.tmp 197),some (194,false),[17,15,14,13,4,3,0,2,1,12,9,8,7,5,6,11,10,16]⟩,⟨some 199,.load none (.tmp 198),some (194,false),[18,17,15,14,13,4,3,0,2,1,12,9,8,7,5,6,11,10,16]⟩,⟨some 200,.faddr 2 1 false (.tmp 19),some (194,false),[14,13,4,3,0,2,1,12,9,8,7,5,6,11,10]⟩,⟨some 201,.load none (.tmp 200),some (194,false),[20,14,13,4,3,0,2,1,12,9,8,7,5,6,11,10]⟩,⟨some 202,.faddr 1 1 false (.tmp 19),some (194,false),[14,13,4,3,0,2,1,12,9,8,7,5,6,11,10]⟩,⟨some 203,.load none (.tmp 202),some (194,false),[22,14,13,4,3,0,2,1,12,9,8,7,5,6,11,10]⟩,⟨some 204,.bin .sub (.tmp 201) (.tmp 203),some (194,false),[21,20,14,13,4,3,0,2,1,12,9,8,7,5,6,11,10,23,22]⟩,⟨some 205,.bin .neq (.tmp 199) (.tmp 204),some (194,false),[19,18,17,15,14,13,4,3,0,2,1,12,9,8,7,5,6,11,10,16,24,21,20,23,22]⟩,⟨some 206,.pick (.tmp 194) (.const (.bool true)) (.tmp 205),none,[14,13,4,3,0,2,1,12,9,8,7,5,6,11,10,25,19,18,17,15,16,24,21,20,23,22]⟩]) (.cond (.tmp 206) (.seq (.ops false [⟨some 6,.mov (.const (.bool false)),none,[]⟩]) .ret) .skip)) (.seq (.ops false [⟨some 207,.mov (.tmp 16),none,[]⟩,⟨some 208,.mov (.tmp 18),none,[]⟩,⟨some 209,.faddr 2 1 false (.tmp 19),none,[]⟩,⟨some 210,.load none (.tmp 209),none,[]⟩,⟨some 211,.iaddr 3 (.tmp 207) (.tmp 208),none,[]⟩,⟨some 212,.faddr 1 1 false (.tmp 211),none,[]⟩,⟨none,.store 1 (.tmp 212) (.tmp 210),none,[]⟩]) (.ops false [⟨some 213,.mov (.tmp 17),none,[]⟩,⟨some 214,.bin .add (.tmp 213) (.const (.int .i64 1)),none,[]⟩,⟨some 17,.mov (.tmp 214),none,[]⟩])))))) (.ops false [⟨some 215,.bin .add (.tmp 170) (.const (.int .i64 1)),none,[]⟩,⟨some 170,.mov (.tmp 215),none,[]⟩]))))
def dk14_2 : Keep := ⟨[],[5,14,16,17,168,169,170],[5,10,13,165,167]⟩
def dc14 : DFunc := ⟨321,3,[.tmp 6],.seq (.ops false [⟨some 5,.box 2 (.tmp 2),none,[]⟩,⟨some 6,.mov (.const (.bool false)),none,[]⟩]) (.seq (.seq (.ops false [⟨some 35,.mov (.tmp 0),none,[]⟩,⟨some 36,.call (.func 62) [.tmp 35],none,[]⟩,⟨some 37,.un .not (.tmp 36),none,[]⟩,⟨some 38,.mov (.tmp 37),none,[]⟩,⟨some 39,.mov (.tmp 0),some (38,false),[]⟩,⟨some 40,.len (.tmp 39),some (38,false),[]⟩,⟨some 41,.bin .gtr (.tmp 40) (.const (.int .i64 6)),some (38,false),[]⟩,⟨some 42,.pick (.tmp 38) (.const (.bool true)) (.tmp 41),none,[]⟩,⟨some 43,.mov (.tmp 42),none,[]⟩,⟨some 44,.mov (.tmp 0),some (43,false),[]⟩,⟨some 45,.call (.func 68) [.tmp 44],some (43,false),[]⟩,⟨some 46,.bin .neq (.tmp 45) (.const (.int .i64 0)),some (43,false),[]⟩,⟨some 47,.pick (.tmp 43) (.const (.bool true)) (.tmp 46),none,[]⟩,⟨some 48,.mov (.tmp 47),none,[]⟩,⟨some 49,.mov (.tmp 1),some (48,false),[]⟩,⟨some 50,.call (.func 63) [.tmp 49],some (48,false),[]⟩,⟨some 51,.un .not (.tmp 50),some (48,false),[]⟩,⟨some 52,.pick (.tmp 48) (.const (.bool true)) (.tmp 51),none,[]⟩,⟨some 53,.mov (.tmp 52),none,[]⟩,⟨some 54,.mov (.tmp 1),some (53,false),[]⟩,⟨some 55,.len (.tmp 54),some (53,false),[]⟩,⟨some 56,.bin .gtr (.tmp 55) (.const (.int .i64 6)),some (53,false),[]⟩,⟨some 57,.pick (.tmp 53) (.const (.bool true)) (.tmp 56),none,[]⟩,⟨some 58,.mov (.tmp 57),none,[]⟩,⟨some 59,.faddr 0 1 false (.tmp 5),some (58,false),[]⟩,⟨some 60,.load none (.tmp 59),some (58,false),[]⟩,⟨some 61,.len (.tmp 60),some (58,false),[]⟩,⟨some 62,.bin .gtr (.tmp 61) (.const (.int .i64 12)),some (58,false),[]⟩,⟨some 63,.pick (.tmp 58) (.const (.bool true)) (.tmp 62),none,[]⟩,⟨some 64,.mov (.tmp 63),none,[]⟩,⟨some 65,.faddr 0 1 false (.tmp 5),some (64,false),[]⟩,⟨some 66,.load none (.tmp 65),some (64,false),[]⟩,⟨some 67,.call (.func 30) [.tmp 66],some (64,false),[]⟩,⟨some 68,.bin .neq (.tmp 67) (.const (.int .i64 0)),some (64,false),[]⟩,⟨some 69,.pick (.tmp 64) (.const (.bool true)) (.tmp 68),none,[]⟩,⟨some 70,.mov (.tmp 69),none,[]⟩,⟨some 71,.faddr 1 1 false (.tmp 5),some (70,false),[]⟩,⟨some 72,.load none (.tmp 71),some (70,false),[]⟩,⟨some 73,.lenS (.tmp 72),some (70,false),[]⟩,⟨some 74,.bin .gtr (.tmp 73) (.const (.int .i64 300)),some (70,false),[]⟩,⟨some 75,.pick (.tmp 70) (.const (.bool true)) (.tmp 74),none,[]⟩]) (.cond (.tmp 75) (.seq (.ops false [⟨some 76,.call (.func 17) [],none,[]⟩,⟨some 6,.mov (.tmp 76),none,[]⟩]) .ret) .skip)) (.seq (.ops false [⟨some 78,.mov (.tmp 0),none,[]⟩,⟨some 79,.call (.func 65) [.tmp 78],none,[]⟩,⟨some 80,.mov (.tmp 1),none,[]⟩,⟨some 81,.call (.func 66) [.tmp 80],none,[]⟩,⟨some 82,.call (.func 64) [.tmp 79,.tmp 81],none,[]⟩,⟨some 77,.mov (.tmp 82),none,[]⟩,⟨some 83,.extract (.tmp 77) 0,none,[]⟩,⟨some 84,.extract (.tmp 77) 1,none,[]⟩,⟨some 7,.mov (.tmp 83),none,[]⟩,⟨some 8,.mov (.tmp 84),none,[]⟩]) (.seq (.seq (.ops false [⟨some 85,.mov (.tmp 8),none,[]⟩,⟨some 86,.bin .eql (.tmp 85) (.const (.int .i64 0)),none,[]⟩]) (.cond (.tmp 86) (.seq (.seq (.ops false [⟨some 87,.mov (.tmp 7),none,[]⟩,⟨some 88,.len (.tmp 87),none,[]⟩,⟨some 89,.mov (.tmp 0),none,[]⟩,⟨some 90,.len (.tmp 89),none,[]⟩,⟨some 91,.bin .neq (.tmp 88) (.tmp 90),none,[]⟩]) (.cond (.tmp 91) (.seq (.ops false [⟨some 6,.mov (.const (.bool false)),none,[]⟩]) .ret) .skip)) (.seq (.ops false [⟨some 92,.mov (.tmp 7),none,[]⟩,⟨some 93,.len (.tmp 92),none,[]⟩,⟨some 94,.mov (.const (.int .i64 0)),none,[]⟩]) (.block 0 (some ⟨[],[0,5],[5,19,165,167]⟩) (.loop dk14_1 db14_1)))) .skip)) (.seq (.ops false [⟨some 151,.mov (.tmp 0),none,[]⟩,⟨some 152,.call (.func 65) [.tmp 151],none,[]⟩,⟨some 153,.call (.func 67) [.tmp 152],none,[]⟩,⟨some 150,.mov (.tmp 153),none,[]⟩,⟨some 154,.extract (.tmp 150) 0,none,[]⟩,⟨some 155,.extract (.tmp 150) 1,none,[]⟩,⟨some 14,.mov (.tmp 154),none,[]⟩,⟨some 15,.mov (.tmp 155),none,[]⟩]) (.seq (.seq (.ops false [⟨some 156,.mov (.tmp 15),none,[]⟩,⟨some 157,.bin .neq (.tmp 156) (.const (.int .i64 0)),none,[]⟩,⟨some 158,.mov (.tmp 157),none,[]⟩,⟨some 159,.mov (.tmp 14),some (158,false),[]⟩,⟨some 160,.len (.tmp 159),some (158,false),[]⟩,⟨some 161,.mov (.tmp 0),some (158,false),[]⟩,⟨some 162,.len (.tmp 161),some (158,false),[]⟩,⟨some 163,.bin .gtr (.tmp 160) (.tmp 162),some (158,false),[]⟩,⟨some 164,.pick (.tmp 158) (.const (.bool true)) (.tmp 163),none,[]⟩]) (.cond (.tmp 164) (.seq (.ops false [⟨some 6,.mov (.const (.bool false)),none,[]⟩]) .ret) .skip)) (.seq (.ops false [⟨some 165,.lit false 3 0 (.agg [.str [],.int .i64 0,.int .i64 0]) [],none,[]⟩,⟨some 166,.mov (.tmp 0),none,[]⟩,⟨some 167,.append false 3 (.tmp 165) (.tmp 166),none,[]⟩,⟨some 16,.mov (.tmp 167),none,[]⟩]) (.seq (.ops false [⟨some 17,.mov (.const (.int .i64 0)),none,[]⟩]) (.seq (.seq (.ops false [⟨some 168,.mov (.tmp 16),none,[]⟩,⟨some 169,.len (.tmp 168),none,[]⟩,⟨some 170,.mov (.const (.int .i64 0)),none,[]⟩]) (.block 4 (some ⟨[],[5,14,16,17],[5,10,13,165,167]⟩) (.loop dk14_2 db14_2))) (.seq (.ops false [⟨some 217,.mov (.tmp 16),none,[]⟩,⟨some 218,.call (.func 65) [.tmp 217],none,[]⟩,⟨some 219,.call (.func 67) [.tmp 218],none,[]⟩,⟨some 216,.mov (.tmp 219),none,[]⟩,⟨some 220,.extract (.tmp 216) 0,none,[]⟩,⟨some 221,.extract (.tmp 216) 1,none,[]⟩,⟨some 20,.mov (.tmp 220),none,[]⟩,⟨some 21,.mov (.tmp 221),none,[]⟩]) (.seq (.seq (.ops false [⟨some 222,.mov (.tmp 17),none,[]⟩,⟨some 223,.mov (.tmp 14),none,[]⟩,⟨some 224,.len (.tmp 223),none,[]⟩,⟨some 225,.bin .neq (.tmp 222) (.tmp 224),none,[]⟩,⟨some 226,.mov (.tmp 225),none,[]⟩,⟨some 227,.mov (.tmp 21),some (226,false),[]⟩,⟨some 228,.bin .neq (.tmp 227) (.const (.int .i64 0)),some (226,false),[]⟩,⟨some 229,.pick (.tmp 226) (.const (.bool true)) (.tmp 228),none,[]⟩,⟨some 230,.mov (.tmp 229),none,[]⟩,⟨some 231,.mov (.tmp 20),some (230,false),[]⟩,⟨some 232,.len (.tmp 231),some (230,false),[]⟩,⟨some 233,.bin .gtr (.tmp 232) (.const (.int .i64 0)),some (230,false),[]⟩,⟨some 234,.pick (.tmp 230) (.const (.bool true)) (.tmp 233),none,[]⟩]) (.cond (.tmp 234) (.seq (.ops false [⟨some 6,.mov (.const (.bool false)),none,[]⟩]) .ret) .skip)) (.seq (.ops false [⟨some 236,.faddr 0 1 false (.tmp 5),none,[]⟩,⟨some 237,.load none (.tmp 236),none,[]⟩,⟨some 238,.call (.func 29) [.tmp 237],none,[]⟩,⟨some 239,.call (.func 76) [.tmp 238],none,[]⟩,⟨some 235,.mov (.tmp 239),none,[]⟩,⟨some 240,.extract (.tmp 235) 0,none,[]⟩,⟨some 241,.extract (.tmp 235) 1,none,[]⟩,⟨some 22,.mov (.tmp 240),none,[]⟩,⟨some 23,.mov (.tmp 241),none,[]⟩]) (.seq (.ops false [⟨some 243,.mov (.tmp 22),none,[]⟩,⟨some 244,.call (.func 77) [.tmp 243],none,[]⟩,⟨some 242,.mov (.tmp 244),none,[]⟩,⟨some 245,.extract (.tmp 242) 0,none,[]⟩,⟨some 246,.extract (.tmp 242) 1,none,[]⟩,⟨some 247,.extract (.tmp 242) 2,none,[]⟩,⟨some 24,.mov (.tmp 245),none,[]⟩,⟨some 25,.mov (.tmp 246),none,[]⟩,⟨some 26,.mov (.tmp 247),none,[]⟩]) (.seq (.seq (.ops true [⟨some 248,.mov (.tmp 23),none,[]⟩,⟨some 249,.bin .neq (.tmp 248) (.const (.int .i64 0)),none,[0]⟩,⟨some 250,.mov (.tmp 249),none,[1,0]⟩,⟨some 251,.mov (.tmp 26),some (250,false),[2,1,0]⟩,⟨some 252,.bin .neq (.tmp 251) (.const (.int .i64 0)),some (250,false),[3,2,1,0]⟩,⟨some 253,.pick (.tmp 250) (.const (.bool true)) (.tmp 252),none,[2,1,0,4,3]⟩,⟨some 254,.mov (.tmp 253),none,[5,2,1,0,4,3]⟩,⟨some 255,.mov (.tmp 25),some (254,false),[6,5,2,1,0,4,3]⟩,⟨some 256,.bin .neq (.tmp 255) (.const (.int .i64 0)),some (254,false),[7,6,5,2,1,0,4,3]⟩,⟨some 257,.pick (.tmp 254) (.const (.bool true)) (.tmp 256),none,[6,5,2,1,0,4,3,8,7]⟩,⟨some 258,.mov (.tmp 257),none,[9,6,5,2,1,0,4,3,8,7]⟩,⟨some 259,.mov (.tmp 24),some (258,false),[10,9,6,5,2,1,0,4,3,8,7]⟩,⟨some 260,.call (.func 81) [.tmp 259],some (258,false),[11,10,9,6,5,2,1,0,4,3,8,7]⟩,⟨some 261,.faddr 0 1 false (.tmp 5),some (258,false),[10,9,6,5,2,1,0,4,3,8,7]⟩,⟨some 262,.load none (.tmp 261),some (258,false),[13,10,9,6,5,2,1,0,4,3,8,7]⟩,⟨some 263,.call (.func 80) [.tmp 260,.tmp 262],some (258,false),[12,11,10,9,6,5,2,1,0,4,3,8,7,14,13]⟩,⟨some 264,.un .not (.tmp 263),some (258,false),[15,12,11,10,9,6,5,2,1,0,4,3,8,7,14,13]⟩,⟨some 265,.pick (.tmp 258) (.const (.bool true)) (.tmp 264),none,[10,9,6,5,2,1,0,4,3,8,7,16,15,12,11,14,13]⟩,⟨some 266,.mov (.tmp 265),none,[17,10,9,6,5,2,1,0,4,3,8,7,16,15,12,11,14,13]⟩,⟨some 267,.mov (.tmp 22),some (266,false),[18,17,10,9,6,5,2,1,0,4,3,8,7,16,15,12,11,14,13]⟩,⟨some 268,.call (.func 85) [.tmp 267,.const (.int .u8 10)],some (266,false),[19,18,17,10,9,6,5,2,1,0,4,3,8,7,16,15,12,11,14,13]⟩,⟨some 269,.len (.tmp 268),some (266,false),[20,19,18,17,10,9,6,5,2,1,0,4,3,8,7,16,15,12,11,14,13]⟩,⟨some 270,.faddr 0 1 false (.tmp 5),some (266,false),[18,17,10,9,6,5,2,1,0,4,3,8,7,16,15,12,11,14,13]⟩,⟨some 271,.load none (.tmp 270),some (266,false),[22,18,17,10,9,6,5,2,1,0,4,3,8,7,16,15,12,11,14,13]⟩,⟨some 272,.len (.tmp 271),some (266,false),[23,22,18,17,10,9,6,5,2,1,0,4,3,8,7,16,15,12,11,14,13]⟩,⟨some 273,.bin .add (.tmp 272) (.const (.int .i64 1)),some (266,false),[24,23,22,18,17,10,9,6,5,2,1,0,4,3,8,7,16,15,12,11,14,13]⟩,⟨some 274,.bin .neq (.tmp 269) (.tmp 273),some (266,false),[21,20,19,18,17,10,9,6,5,2,1,0,4,3,8,7,16,15,12,11,14,13,25,24,23,22]⟩,⟨some 275,.pick (.tmp 266) (.const (.bool true)) (.tmp 274),none,[18,17,10,9,6,5,2,1,0,4,3,8,7,16,15,12,11,14,13,26,21,20,19,25,24,23,22]⟩]) (.cond (.tmp 275) (.seq (.ops false [⟨some 6,.mov (.const (.bool false)),none,[]⟩]) .ret) .skip)) (.seq (.seq (.ops false [⟨some 277,.faddr 1 1 false (.tmp 5),none,[]⟩,⟨some 278,.load none (.tmp 277),none,[]⟩,⟨some 279,.call (.func 77) [.tmp 278],none,[]⟩,⟨some 276,.mov (.tmp 279),none,[]⟩,⟨some 280,.extract (.tmp 276) 0,none,[]⟩,⟨some 281,.extract (.tmp 276) 1,none,[]⟩,⟨some 282,.extract (.tmp 276) 2,none,[]⟩,⟨some 27,.mov (.tmp 280),none,[]⟩,⟨some 28,.mov (.tmp 281),none,[]⟩,⟨some 29,.mov (.tmp 282),none,[]⟩]) (.seq (.ops false [⟨some 283,.mov (.tmp 29),none,[]⟩,⟨some 284,.bin .eql (.tmp 283) (.const (.int .i64 0)),none,[]⟩]) (.cond (.tmp 284) (.seq (.ops false [⟨some 286,.mov (.tmp 27),none,[]⟩,⟨some 287,.call (.func 76) [.tmp 286],none,[]⟩,⟨some 285,.mov (.tmp 287),none,[]⟩,⟨some 288,.extract (.tmp 285) 0,none,[]⟩,⟨some 289,.extract (.tmp 285) 1,none,[]⟩,⟨some 30,.mov (.tmp 288),none,[]⟩,⟨some 31,.mov (.tmp 289),none,[]⟩]) (.seq (.ops false [⟨some 290,.mov (.tmp 31),none,[]⟩,⟨some 291,.bin .neq (.tmp 290) (.const (.int .i64 0)),none,[]⟩,⟨some 292,.mov (.tmp 291),none,[]⟩,⟨some 293,.mov (.tmp 30),some (292,false),[]⟩,⟨some 294,.faddr 1 1 false (.tmp 5),some (292,false),[]⟩,⟨some 295,.load none (.tmp 294),some (292,false),[]⟩,⟨some 296,.bin .neq (.tmp 293) (.tmp 295),some (292,false),[]⟩,⟨some 297,.pick (.tmp 292) (.const (.bool true)) (.tmp 296),none,[]⟩]) (.cond (.tmp 297) (.seq (.ops false [⟨some 6,.mov (.const (.bool false)),none,[]⟩]) .ret) .skip))) .skip))) (.seq (.ops false [⟨some 299,.mov (.tmp 22),none,[]⟩,⟨some 300,.mov (.tmp 22),none,[]⟩,⟨some 301,.lenS (.tmp 300),none,[]⟩,⟨some 302,.bin .sub (.tmp 301) (.const (.int .i64 1)),none,[]⟩,⟨some 303,.sliceS (.tmp 299) none (some (.tmp 302)),none,[]⟩,⟨some 304,.call (.func 77) [.tmp 303],none,[]⟩,⟨some 298,.mov (.tmp 304),none,[]⟩,⟨some 305,.extract (.tmp 298) 0,none,[]⟩,⟨some 306,.extract (.tmp 298) 1,none,[]⟩,⟨some 307,.extract (.tmp 298) 2,none,[]⟩,⟨some 32,.mov (.tmp 305),none,[]⟩,⟨some 33,.mov (.tmp 306),none,[]⟩,⟨some 34,.mov (.tmp 307),none,[]⟩]) (.seq (.ops false [⟨some 308,.mov (.tmp 34),none,[]⟩,⟨some 309,.bin .eql (.tmp 308) (.const (.int .i64 25)),none,[]⟩,⟨some 310,.mov (.tmp 309),none,[]⟩,⟨some 311,.mov (.tmp 33),some (310,true),[]⟩,⟨some 312,.faddr 0 1 false (.tmp 5),some (310,true),[]⟩,⟨some 313,.load none (.tmp 312),some (310,true),[]⟩,⟨some 314,.len (.tmp 313),some (310,true),[]⟩,⟨some 315,.bin .sub (.tmp 314) (.const (.int .i64 1)),some (310,true),[]⟩,⟨some 316,.bin .eql (.tmp 311) (.tmp 315),some (310,true),[]⟩,⟨some 317,.pick (.tmp 310) (.tmp 316) (.const (.bool false)),none,[]⟩,⟨some 318,.mov (.tmp 317),none,[]⟩,⟨some 319,.call (.func 17) [],some (318,true),[]⟩,⟨some 320,.pick (.tmp 318) (.tmp 319) (.const (.bool false)),none,[]⟩,⟨some 6,.mov (.tmp 320),none,[]⟩]) .ret))))))))))))))))⟩
theorem dh14:cProg Go.Proofs.Tryz.prog ⟨[(0,⟨[],[0,1,5,92,93,94],[5,19,165,167]⟩),(2,⟨[],[0,1,5,9,10,11,92,93,94,101,102,103],[5,10,19,165,167]⟩),(4,⟨[],[5,14,16,17,168,169,170],[5,10,13,165,167]⟩)],[(2,⟨[],[0,1,5,9,10,11,92,93,94],[5,10,19,165,167]⟩),(1,⟨[],[0,1,5,92,93,94],[5,19,165,167]⟩),(0,⟨[],[0,5],[5,19,165,167]⟩),(4,⟨[],[5,14,16,17],[5,10,13,165,167]⟩)],[]⟩ 14=some dc14:=by kernel_rfl
end Sh

namespace Sh
open Go
def sumK (nm:List UInt8):List Tke→Int
 |[]=>0
 |t :: r=>(if t.name=nm then t.count else 0)+sumK nm r
theorem sumK_app (nm:List UInt8):∀ a b:List Tke,sumK nm (a++b)=sumK nm a+sumK nm b
 |[],b=>by simp [sumK]
 |t :: r,b=>by
  show _+sumK nm (r++b)=_+sumK nm r+_
  rw [sumK_app nm r b];omega
theorem sumK_succ (nm:List UInt8) (x:List Tke) (j:Nat) (h:j < x.length):sumK nm (x.take (j+1))=sumK nm (x.take j)+(if (x.getD j K0).name=nm then (x.getD j K0).count else 0):=by
 rw [take_snoc x j K0 h,sumK_app]
 show _+(_+0)=_
 omega
theorem sumK_le (nm:List UInt8):∀ x:List Tke,(∀ t ∈ x,1≤t.count∧t.count≤10000)→0≤sumK nm x∧sumK nm x≤10000 * x.length
 |[],_=>⟨Int.le_refl _,Int.le_refl _⟩
 |t :: r,h=>by
  have h1:=h t (List.mem_cons_self ..)
  have h2:=sumK_le nm r fun t ht=>h t (List.mem_cons_of_mem _ ht)
  show 0≤_+sumK nm r∧_+sumK nm r≤10000 * ((r.length+1:Nat):Int)
  split<;>omega
theorem idxP_name {nm:List UInt8}:∀ {l:List Prt},idxP nm l < l.length→(l.getD (idxP nm l) Q0).name=nm
 |[],h=>absurd h (Nat.not_lt_zero _)
 |s :: r,h=>by
  unfold idxP at h ⊢
  split
  ·rename_i e;exact e
  ·rename_i e
   rw [if_neg e] at h
   exact idxP_name (Nat.lt_of_succ_lt_succ h)
theorem getD_set_prt (l:List Prt) (k i:Nat) (p:Prt) (hk:k < l.length):(l.set k p).getD i Q0=if i=k then p else l.getD i Q0:=by
 simp only [List.getD_eq_getElem?_getD,List.getElem?_set]
 by_cases h:k=i
 ·subst h;simp [hk]
 ·rw [if_neg h,if_neg (fun e=>h e.symm)]
theorem nodup_name {l:List Prt} (h:(l.map (·.name)).Nodup) {i j:Nat} (hi:i < l.length) (hj:j < l.length) (e:(l.getD i Q0).name=(l.getD j Q0).name):i=j:=by
 have h2:=List.pairwise_iff_getElem.1 h
 have g:∀ k (hk:k < l.length),(l.map (·.name))[k]'(by simpa using hk)=(l.getD k Q0).name:=fun k hk=>by simp [List.getD_eq_getElem?_getD,hk]
 rcases Nat.lt_trichotomy i j with h1|h1|h1
 ·exact absurd (by rw [g i hi,g j hj];exact e) (h2 i j (by simpa using hi) (by simpa using hj) h1)
 ·exact h1
 ·exact absurd (by rw [g i hi,g j hj];exact e.symm) (h2 j i (by simpa using hj) (by simpa using hi) h1)
theorem taken_sums:∀ (x:List Tke) (l:List Prt),(l.map (·.name)).Nodup→(∀ p ∈ l,0≤p.count)→(takenF l x).2=0 →
  (takenF l x).1.length=l.length∧(∀ t ∈ x,1≤t.count∧t.count≤10000) ∧
  ∀ i,i < l.length→((takenF l x).1.getD i Q0).name=(l.getD i Q0).name∧((takenF l x).1.getD i Q0).least=(l.getD i Q0).least ∧
   ((takenF l x).1.getD i Q0).count+sumK (l.getD i Q0).name x=(l.getD i Q0).count∧0≤((takenF l x).1.getD i Q0).count
 |[],l,_,hc,_=>⟨rfl,fun t ht=>(by cases ht),fun i hi=>⟨rfl,rfl,Int.add_zero _,hc _ (getD_in Q0 hi)⟩⟩
 |t :: r,l,hd,hc,h=>by
  unfold takenF at h ⊢
  by_cases he:takeE l t≠0
  ·rw [if_pos he] at h;exact absurd h he
  ·rw [if_neg he] at h ⊢
   have he:=Classical.not_not.1 he
   have hm:=firstE_mem he
   have m1:=of_decide_eq_false (whenE_zero (hm _ (by simp:whenE (decide (idxP t.name l=l.length)) 10 ∈ _)) (by decide))
   have m2:=withE_zero (hm _ (by simp:withE t.count 1 10000 ∈ _))
   have m3:=of_decide_eq_false (whenE_zero (hm _ (by simp:whenE (decide ((l.getD (idxP t.name l) Q0).count < t.count)) 16 ∈ _)) (by decide))
   have hlt:idxP t.name l < l.length:=by have:=idxP_le t.name l;omega
   have hnm:=idxP_name hlt
   generalize hX:idxP t.name l=X at *
   have hn':∀ i,((l.set X (lessP (l.getD X Q0) t.count)).getD i Q0).name=(l.getD i Q0).name:=fun i=>by
    rw [getD_set_prt _ _ _ _ hlt];split
    ·rename_i e;subst e;rfl
    ·rfl
   have hd':((l.set X (lessP (l.getD X Q0) t.count)).map (·.name)).Nodup:=by
    have:(l.set X (lessP (l.getD X Q0) t.count)).map (·.name)=l.map (·.name):=by
     apply List.ext_getElem (by simp)
     intro i h1 h2
     have:=hn' i
     have g1:i < (l.set X (lessP (l.getD X Q0) t.count)).length:=by rw [List.length_map] at h1;exact h1
     have g2:i < l.length:=by rw [List.length_map] at h2;exact h2
     rw [List.getD_eq_getElem?_getD (l:=l.set X _),List.getElem?_eq_getElem g1,List.getD_eq_getElem?_getD (l:=l) (i:=i),List.getElem?_eq_getElem g2] at this
     rw [List.getElem_map,List.getElem_map]
     exact this
    rw [this];exact hd
   have hc':∀ p ∈ l.set X (lessP (l.getD X Q0) t.count),0≤p.count:=fun p hp=>by
    rcases List.mem_or_eq_of_mem_set hp with hp|rfl
    ·exact hc p hp
    ·show 0≤(l.getD X Q0).count - t.count;omega
   obtain ⟨i1,i2,i3⟩:=taken_sums r _ hd' hc' h
   rw [List.length_set] at i1 i3
   refine ⟨i1,fun u hu=>?_,fun i hi=>?_⟩
   ·rcases List.mem_cons.1 hu with rfl|hu
    ·exact m2
    ·exact i2 u hu
   ·obtain ⟨j1,j2,j3,j4⟩:=i3 i hi
    rw [hn'] at j1 j3
    refine ⟨j1,?_,?_,j4⟩
    ·rw [j2,getD_set_prt _ _ _ _ hlt];split
     ·rename_i e;subst e;rfl
     ·rfl
    ·rw [getD_set_prt _ _ _ _ hlt] at j3
     show _+((if t.name=_ then t.count else 0)+sumK _ r)=_
     by_cases e:i=X
     ·subst e
      rw [if_pos rfl] at j3
      rw [if_pos hnm.symm]
      have:(lessP (l.getD i Q0) t.count).count=(l.getD i Q0).count - t.count:=rfl
      omega
     ·rw [if_neg e] at j3
      rw [if_neg (fun e2=>e (nodup_name hd hi hlt (by rw [hnm,e2])))]
      omega
def upP (p:Prt):Prt:=if p.count < p.least then ⟨p.name,p.least,p.least⟩ else p
theorem reS_app (a b:List Prt):reS (a++b)=reS a++reS b:=by unfold reS;rw [List.filter_append,List.map_append]
theorem reS_at (l:List Prt) (i:Nat) (h:i < l.length) (hp:(l.getD i Q0).count < (l.getD i Q0).least) :
  (reS (l.take i)).length < (reS l).length∧(reS l).getD (reS (l.take i)).length K0=⟨(l.getD i Q0).name,(l.getD i Q0).least - (l.getD i Q0).count⟩:=by
 have e1:reS l=reS (l.take (i+1))++reS (l.drop (i+1)):=by rw [← reS_app,List.take_append_drop]
 rw [reS_succ l i h,if_pos hp] at e1
 rw [e1]
 generalize reS (l.take i)=A
 generalize reS (l.drop (i+1))=B
 refine ⟨by simp,?_⟩
 simp [List.getD_eq_getElem?_getD]
theorem reS_up:∀ l:List Prt,reS (l.map upP)=[]
 |[]=>rfl
 |p :: r=>by
  have ih:=reS_up r
  unfold reS at *
  rw [List.map_cons,List.filter_cons]
  have:¬ (upP p).count < (upP p).least:=by unfold upP;split<;>simp_all
  rw [decide_eq_false this]
  exact ih
theorem chkPs_up:∀ {l:List Prt} {kn:List (List UInt8)},chkPs kn l=0→chkPs kn (l.map upP)=0
 |[],_,_=>rfl
 |s :: r,kn,h=>by
  unfold chkPs at h
  split at h
  ·rename_i h1;exact absurd h h1
  ·rename_i h1
   have h1:=Classical.not_not.1 h1
   have h0:=firstE_mem h1
   have a3:=withE_zero (h0 _ (by simp:withE s.count 0 10000 ∈ _))
   have a4:=withE_zero (h0 _ (by simp:withE s.least 0 10000 ∈ _))
   have hnm:(upP s).name=s.name:=by unfold upP;split<;>rfl
   have hz:chkPrt kn (upP s)=0:=by
    unfold upP
    split
    ·have hw:withE s.least 0 10000=0:=h0 _ (by simp)
     have hw2:withE s.count 0 10000=0:=h0 _ (by simp)
     unfold chkPrt at h1 ⊢
     rw [hw2,hw] at h1
     show firstE [_,_,withE s.least 0 10000,withE s.least 0 10000]=0
     rw [hw];exact h1
    ·exact h1
   rw [List.map_cons]
   unfold chkPs
   rw [hz,if_neg (by decide),hnm]
   exact chkPs_up h
theorem chkStk_up {l:List Prt} (h:chkStk l=0):chkStk (l.map upP)=0:=by
 unfold chkStk at *
 rw [List.length_map]
 split at h
 ·cases h
 ·rename_i h1;rw [if_neg h1];exact chkPs_up h
theorem chkStk_names {l:List Prt} (h:chkStk l=0):(l.map (·.name)).Nodup:=by
 unfold chkStk at h
 split at h
 ·cases h
 ·exact (chkPs_zero h).2
def upTo (l:List Prt) (i:Nat):List Prt:=(l.take i).map upP++l.drop i
theorem upTo_len (l:List Prt) (i:Nat):(upTo l i).length=l.length:=by unfold upTo;simp;omega
theorem upTo_get (l:List Prt) (i:Nat) (h:i < l.length):(upTo l i).getD i Q0=l.getD i Q0:=by
 unfold upTo
 have hl:((l.take i).map upP).length=i:=by simp;omega
 rw [List.getD_eq_getElem?_getD,List.getElem?_append_right (by omega),hl,Nat.sub_self,List.getElem?_drop,Nat.add_zero,← List.getD_eq_getElem?_getD]
theorem upTo_succ (l:List Prt) (i:Nat) (h:i < l.length):upTo l (i+1)=(upTo l i).set i (upP (l.getD i Q0)):=by
 unfold upTo
 have hl:((l.take i).map upP).length=i:=by simp;omega
 rw [take_snoc l i Q0 h,List.map_append,drop_getD l i Q0 h,List.set_append_right _ _ (by omega),hl,Nat.sub_self]
 simp
theorem upTo_all (l:List Prt):upTo l l.length=l.map upP:=by unfold upTo;simp
theorem upTo_same (l:List Prt) (i:Nat) (h:i < l.length) (hp:¬ (l.getD i Q0).count < (l.getD i Q0).least):upTo l (i+1)=upTo l i:=by
 rw [upTo_succ l i h,show upP (l.getD i Q0)=l.getD i Q0 from if_neg hp]
 apply List.ext_getElem (by simp)
 intro j h1 h2
 rw [List.getElem_set]
 split
 ·rename_i e;subst e
  have:=upTo_get l i h
  rw [List.getD_eq_getElem?_getD,List.getElem?_eq_getElem h2] at this
  exact this.symm
 ·rfl
end Sh

set_option maxHeartbeats 8000000
namespace Sh
open Go Go.Proofs
theorem parDs_back {l:List Dy} (h:chkDs l=0) (h12:l.length≤12):parDs (prtG linD l)=(l,0,0):=by
 obtain ⟨_,h64,hok⟩:=chkDs_zero h
 exact par_prtG (fun d hd=>linD_back (hok d hd)) (fun d _=>linD_not d) (by have:=prtD_len hok;omega) h
theorem parDs_cut {l:List Dy} (h:chkDs l=0) (h12:l.length≤12):parDs ((prtG linD l).take ((prtG linD l).length - 1))=([],((l.length - 1:Nat):Int),25):=by
 obtain ⟨h0,h64,hok⟩:=chkDs_zero h
 exact par_cutG (fun d hd=>linD_back (hok d hd)) (fun d _=>linD_not d) (fun d _=>linD_ne d) (by have:=prtD_len hok;omega) (by intro e;rw [e] at h0;exact absurd h0 (by decide))
theorem prtDs_par {s:List UInt8} (h:(parDs s).2.2=0):prtDs (parDs s).1=(s,0):=by
 obtain ⟨h1,h2⟩:=prt_parG (ln:=linD) (fun r hr=>linD_same hr) h
 unfold prtDs
 rw [show chkDs (parDs s).1=0 from h1,if_neg (by decide)]
 exact congrArg (·,0) h2
theorem l_WashBack (aw:PC 17 [] (.bool true)) (l:List Prt) (hU:l.length≤9223372036854775807) (x:List Tke) (hV:x.length≤9223372036854775807) (y:List Dy×List UInt8) (hY:y.1.length≤9223372036854775807):PC 14 [qsV l,ksV x,.agg [dysV y.1,.str y.2]] (.bool true):=by
 have e0:((l.map encQ).length:Int)=l.length:=by simp
 have e1:((x.map encK).length:Int)=x.length:=by simp
 have e2:((y.1.map encD).length:Int)=y.1.length:=by simp
 have kS:PC 62 [qsV l] _:=r_ShortStockU l hU
 have kT:PC 63 [ksV x] _:=r_ShortTakesU x hV
 by_cases hsh:ShortStockB l=true
 case neg =>
  have hsh:ShortStockB l=false:=by simpa using hsh
  rw [hsh] at kS
  refine pureCall_ofR dh14 rfl ?_
  conv=>whnf
  repeat' (first
   |(refine ⟨fun hg=>?_,fun hg=>?_⟩<;>first|contradiction|(replace hg:=of_decide_eq_true hg;first|(exfalso;omega;done)|(conv=>whnf))|(replace hg:=of_decide_eq_false hg;first|(exfalso;omega;done)|(conv=>whnf))|(skip;conv=>whnf)|(conv=>whnf))
   |(refine Or.inl ?_;conv=>whnf)
   |(refine ⟨_,kS ..,?_⟩;conv=>whnf)
   |(refine ⟨_,aw ..,?_⟩;conv=>whnf)
   |(refine And.intro ?_ ?_;kernel_rfl;conv=>whnf))
  all_goals rfl
 case pos =>
 rw [hsh] at kS
 by_cases hl6:(6:Int) < ((l.map encQ).length:Int)
 case pos =>
  refine pureCall_ofR dh14 rfl ?_
  conv=>whnf
  repeat' (first
   |(refine ⟨fun hg=>?_,fun hg=>?_⟩<;>first|contradiction|(replace hg:=of_decide_eq_true hg;first|(exfalso;omega;done)|(conv=>whnf))|(replace hg:=of_decide_eq_false hg;first|(exfalso;omega;done)|(conv=>whnf))|(skip;conv=>whnf)|(conv=>whnf))
   |(refine Or.inl ?_;conv=>whnf)
   |(refine ⟨_,kS ..,?_⟩;conv=>whnf)
   |(refine ⟨_,aw ..,?_⟩;conv=>whnf)
   |(refine And.intro ?_ ?_;kernel_rfl;conv=>whnf))
  all_goals rfl
 case neg =>
 obtain ⟨hl17,hnm⟩:=ShortStockB_spec hsh
 have hnm:∀ s ∈ l,s.name.length < 1073741824:=fun s hs=>by have:=hnm s hs;omega
 have kC:=r_CheckStock l (by omega) hnm
 by_cases h1:chkStk l=0
 case neg =>
  generalize chkStk l=E at *
  refine pureCall_ofR dh14 rfl ?_
  conv=>whnf
  repeat' (first
   |(refine ⟨fun hg=>?_,fun hg=>?_⟩<;>first|contradiction|(replace hg:=of_decide_eq_true hg;first|(exfalso;omega;done)|(conv=>whnf))|(replace hg:=of_decide_eq_false hg;first|(exfalso;omega;done)|(conv=>whnf))|(skip;conv=>whnf)|(conv=>whnf))
   |(refine Or.inl ?_;conv=>whnf)
   |(refine ⟨_,kS ..,?_⟩;conv=>whnf)
   |(refine ⟨_,kC ..,?_⟩;conv=>whnf)
   |(refine ⟨_,aw ..,?_⟩;conv=>whnf)
   |(refine And.intro ?_ ?_;kernel_rfl;conv=>whnf))
  all_goals rfl
 case pos =>
 have h1k:=h1
 rw [h1] at kC
 by_cases hsx:ShortTakesB x=true
 case neg =>
  have hsx:ShortTakesB x=false:=by simpa using hsx
  rw [hsx] at kT
  refine pureCall_ofR dh14 rfl ?_
  conv=>whnf
  repeat' (first
   |(refine ⟨fun hg=>?_,fun hg=>?_⟩<;>first|contradiction|(replace hg:=of_decide_eq_true hg;first|(exfalso;omega;done)|(conv=>whnf))|(replace hg:=of_decide_eq_false hg;first|(exfalso;omega;done)|(conv=>whnf))|(skip;conv=>whnf)|(conv=>whnf))
   |(refine Or.inl ?_;conv=>whnf)
   |(refine ⟨_,kS ..,?_⟩;conv=>whnf)
   |(refine ⟨_,kC ..,?_⟩;conv=>whnf)
   |(refine ⟨_,kT ..,?_⟩;conv=>whnf)
   |(refine ⟨_,aw ..,?_⟩;conv=>whnf)
   |(refine And.intro ?_ ?_;kernel_rfl;conv=>whnf))
  all_goals rfl
 case pos =>
 rw [hsx] at kT
 by_cases hx6:(6:Int) < ((x.map encK).length:Int)
 case pos =>
  refine pureCall_ofR dh14 rfl ?_
  conv=>whnf
  repeat' (first
   |(refine ⟨fun hg=>?_,fun hg=>?_⟩<;>first|contradiction|(replace hg:=of_decide_eq_true hg;first|(exfalso;omega;done)|(conv=>whnf))|(replace hg:=of_decide_eq_false hg;first|(exfalso;omega;done)|(conv=>whnf))|(skip;conv=>whnf)|(conv=>whnf))
   |(refine Or.inl ?_;conv=>whnf)
   |(refine ⟨_,kS ..,?_⟩;conv=>whnf)
   |(refine ⟨_,kC ..,?_⟩;conv=>whnf)
   |(refine ⟨_,kT ..,?_⟩;conv=>whnf)
   |(refine ⟨_,aw ..,?_⟩;conv=>whnf)
   |(refine And.intro ?_ ?_;kernel_rfl;conv=>whnf))
  all_goals rfl
 case neg =>
 by_cases hy12:(12:Int) < ((y.1.map encD).length:Int)
 case pos =>
  refine pureCall_ofR dh14 rfl ?_
  conv=>whnf
  repeat' (first
   |(refine ⟨fun hg=>?_,fun hg=>?_⟩<;>first|contradiction|(replace hg:=of_decide_eq_true hg;first|(exfalso;omega;done)|(conv=>whnf))|(replace hg:=of_decide_eq_false hg;first|(exfalso;omega;done)|(conv=>whnf))|(skip;conv=>whnf)|(conv=>whnf))
   |(refine Or.inl ?_;conv=>whnf)
   |(refine ⟨_,kS ..,?_⟩;conv=>whnf)
   |(refine ⟨_,kC ..,?_⟩;conv=>whnf)
   |(refine ⟨_,kT ..,?_⟩;conv=>whnf)
   |(refine ⟨_,aw ..,?_⟩;conv=>whnf)
   |(refine And.intro ?_ ?_;kernel_rfl;conv=>whnf))
  all_goals rfl
 case neg =>
 have kD:=r_CheckDays y.1 (by omega)
 by_cases h2:chkDs y.1=0
 case neg =>
  generalize chkDs y.1=E at *
  refine pureCall_ofR dh14 rfl ?_
  conv=>whnf
  repeat' (first
   |(refine ⟨fun hg=>?_,fun hg=>?_⟩<;>first|contradiction|(replace hg:=of_decide_eq_true hg;first|(exfalso;omega;done)|(conv=>whnf))|(replace hg:=of_decide_eq_false hg;first|(exfalso;omega;done)|(conv=>whnf))|(skip;conv=>whnf)|(conv=>whnf))
   |(refine Or.inl ?_;conv=>whnf)
   |(refine ⟨_,kS ..,?_⟩;conv=>whnf)
   |(refine ⟨_,kC ..,?_⟩;conv=>whnf)
   |(refine ⟨_,kT ..,?_⟩;conv=>whnf)
   |(refine ⟨_,kD ..,?_⟩;conv=>whnf)
   |(refine ⟨_,aw ..,?_⟩;conv=>whnf)
   |(refine And.intro ?_ ?_;kernel_rfl;conv=>whnf))
  all_goals rfl
 case pos =>
 have h2k:=h2
 rw [h2] at kD
 by_cases hs3:(300:Int) < (y.2.length:Int)
 case pos =>
  refine pureCall_ofR dh14 rfl ?_
  conv=>whnf
  repeat' (first
   |(refine ⟨fun hg=>?_,fun hg=>?_⟩<;>first|contradiction|(replace hg:=of_decide_eq_true hg;first|(exfalso;omega;done)|(conv=>whnf))|(replace hg:=of_decide_eq_false hg;first|(exfalso;omega;done)|(conv=>whnf))|(skip;conv=>whnf)|(conv=>whnf))
   |(refine Or.inl ?_;conv=>whnf)
   |(refine ⟨_,kS ..,?_⟩;conv=>whnf)
   |(refine ⟨_,kC ..,?_⟩;conv=>whnf)
   |(refine ⟨_,kT ..,?_⟩;conv=>whnf)
   |(refine ⟨_,kD ..,?_⟩;conv=>whnf)
   |(refine ⟨_,aw ..,?_⟩;conv=>whnf)
   |(refine And.intro ?_ ?_;kernel_rfl;conv=>whnf))
  all_goals rfl
 case neg =>
 obtain ⟨hp0,h64,hok⟩:=chkDs_zero h2k
 obtain ⟨h16,hokl⟩:=chkStk_zero h1k
 have hx6n:x.length≤6:=by omega
 have hl6n:l.length≤6:=by omega
 have a1:PC 65 [qsV l] (qsV l):=l_shelf l (by omega)
 have a2:PC 66 [ksV x] (ksV x):=l_asked x (by omega)
 have b1:=c_Taken l x (by omega) hnm (by omega)
 rw [tkn_ok h1k,show takenS l x=takenF l x from if_neg (by omega)] at b1
 have b2:=c_Reordered l (by omega) hnm
 rw [h1k,if_neg (by decide)] at b2
 have hrl:=reS_len l
 have hsum:=taken_sums x l (chkStk_names h1k) (fun p hp=>(hokl p hp).c0)
 have u1:PC 65 [.list (qD (l.map upP))] (qsV (l.map upP)):=l_shelf _ (by rw [List.length_map];omega)
 have u2:=c_Reordered (l.map upP) (by rw [List.length_map];omega) (fun s hs=>by obtain ⟨p,hp,rfl⟩:=List.mem_map.1 hs;have:=hnm p hp;unfold upP;split<;>exact this)
 rw [chkStk_up h1k,if_neg (by decide),reS_up] at u2
 have d1:PC 29 [dysV y.1] (dysV y.1):=l_given y.1 (by omega)
 have d2:=c_Print y.1 (by omega)
 rw [show prtDs y.1=(prtG linD y.1,0) from if_neg (fun h=>h h2k)] at d2
 have hpl:(prtG linD y.1).length≤840:=by have:=prtD_len hok;omega
 have d3:=c_Parse (prtG linD y.1) (by omega)
 rw [parDs_back h2k (by omega)] at d3
 have d4:=l_days y.1 (by omega)
 have d5:=r_SameDays y.1 (by omega)
 have d6:=q_Split (prtG linD y.1) 10 (by omega)
 have hspl:=splitG linD y.1 [] (fun d _=>linD_not d) (by simp)
 rw [List.append_nil] at hspl
 rw [hspl] at d6
 have d7:=c_Parse y.2 (by omega)
 have d8:(parDs y.2).2.2=0→PC 76 [dysV (parDs y.2).1] (.tuple [.str y.2,DV.int .i64 (0)]):=by
  intro h
  have:=c_Print (parDs y.2).1 (parDs_len (by omega))
  rwa [prtDs_par h] at this
 have d9:=c_Parse ((prtG linD y.1).take ((prtG linD y.1).length - 1)) (by rw [List.length_take];omega)
 rw [parDs_cut h2k (by omega)] at d9
 have n4:¬ (((((y.1.map linD)++[[]]).map DV.str).length:Nat):Int)≠IntKind.i64.wrap (((y.1.map encD).length:Int)+1):=by
  rw [e2,wrap_in (by omega) (by omega)];simp
 have n5:(((y.1.length - 1:Nat):Int))=IntKind.i64.wrap (((y.1.map encD).length:Int) - 1):=by
  rw [e2,wrap_in (by omega) (by omega)];omega
 have hpp:0 < (prtG linD y.1).length:=by
  match hy:y.1,hp0 with
  |a :: r,_=>show 0 < (_++_:List UInt8).length;rw [List.length_append,List.length_append];simp only [List.length_cons];omega
 have w1:IntKind.i64.wrap (((prtG linD y.1).length:Int) - 1)=(((prtG linD y.1).length - 1:Nat):Int):=by rw [wrap_in (by omega) (by omega)];omega
 have w2:window (prtG linD y.1) (Int.toNat 0) (Int.toNat ((((prtG linD y.1).length - 1:Nat):Int) - 0))=(prtG linD y.1).take ((prtG linD y.1).length - 1):=by
  rw [Int.sub_zero,Int.toNat_natCast];rfl
 unfold encPar at d3 d7 d9
 generalize hR:parDs y.2=R at *
 obtain ⟨R1,R2,R3⟩:=R
 dsimp only at d3 d7 d8 d9
 generalize hT:takenF l x=T at *
 obtain ⟨T1,T2⟩:=T
 dsimp only at b1 hsum
 generalize hP:prtG linD y.1=P at *
 generalize hrs:reS l=S at *
 have f0:((S.map encK).length:Int)=S.length:=by simp
 have hSl:S.length≤l.length:=hrl
 have nS:decide (((l.map encQ).length:Int) < ((S.map encK).length:Int))=false:=decide_eq_false (by omega)
 have y4:decide (((S.length:Nat):Int)≠((S.map encK).length:Int))=false:=by rw [f0];simp
 have y6:decide ((((y.1.length - 1:Nat)):Int)=IntKind.i64.wrap (((y.1.map encD).length:Int) - 1))=true:=decide_eq_true n5
 have y5:decide ((0:Int) < ((([]:List Tke).map encK).length:Int))=false:=rfl
 refine pureCall_ofR dh14 rfl ?_
 conv=>whnf
 repeat' (first
  |(refine ⟨fun hg=>?_,fun hg=>?_⟩<;>first|contradiction|(replace hg:=of_decide_eq_true hg;first|(exfalso;omega;done)|(conv=>whnf))|(replace hg:=of_decide_eq_false hg;first|(exfalso;omega;done)|(conv=>whnf))|(skip;conv=>whnf)|(conv=>whnf))
  |(refine Or.inl ?_;conv=>whnf)
  |(refine ⟨_,kS ..,?_⟩;conv=>whnf)
  |(refine ⟨_,kC ..,?_⟩;conv=>whnf)
  |(refine ⟨_,kT ..,?_⟩;conv=>whnf)
  |(refine ⟨_,kD ..,?_⟩;conv=>whnf)
  |(refine ⟨_,a1 ..,?_⟩;conv=>whnf)
  |(refine ⟨_,a2 ..,?_⟩;conv=>whnf)
  |(refine ⟨_,b1 ..,?_⟩;conv=>whnf)
  |(refine And.intro ?_ ?_;kernel_rfl;conv=>whnf))
 ·rename_i hg0
  have hg0:T2=0:=hg0
  exact absurd (by rw [e0,List.length_map,(hsum hg0).1]) hg
 ·rename_i hg0
  have hg0:T2=0:=hg0
  obtain ⟨s1,s2,s3⟩:=hsum hg0
  have eT:((T1.map encQ).length:Int)=T1.length:=by simp
  refine dwp_loopU (P:=Tryz.prog) (G:=GC) (k:=dk14_1) (b:=db14_1) (α:=Nat) (fun i=>[(94,DV.int .i64 (i))]) (fun _=>[(5,.box 2 (.agg [dysV y.1,.str y.2]))]) (fun i=>i≤T1.length) (fun i=>T1.length - i) 0 (Nat.zero_le _) ?_
  conv=>whnf
  refine ⟨rfl,rfl,?_⟩
  conv=>whnf
  refine ⟨rfl,?_⟩
  intro i h1
  conv=>whnf
  refine ⟨fun hb=>?_,fun hb=>?_⟩
  ·have hi:i < T1.length:=by have:=of_decide_eq_true hb;rw [eT] at this;omega
   clear hb
   conv=>whnf
   rw [getD_enc _ _ (i) Q0 hi]
   refine ⟨idxA hi rfl,?_⟩
   conv=>whnf
   have hil:i < l.length:=by omega
   obtain ⟨q1,q2,q3,q4⟩:=s3 i hil
   have hlc:=(hokl _ (getD_in Q0 hil)).c1
   refine dwp_loopU (P:=Tryz.prog) (G:=GC) (k:=dk14_0) (b:=db14_0) (α:=Nat×Int) (fun a=>[(11,DV.int .i64 (a.2)),(103,DV.int .i64 (a.1))]) (fun _=>[(5,.box 2 (.agg [dysV y.1,.str y.2])),(10,.box 3 (encQ (T1.getD i Q0)))]) (fun a=>a.1≤x.length∧a.2=(T1.getD i Q0).count+sumK (T1.getD i Q0).name (x.take a.1)) (fun a=>x.length - a.1) (0,(T1.getD i Q0).count) ⟨Nat.zero_le _,(Int.add_zero _).symm⟩ ?_
   conv=>whnf
   refine ⟨rfl,rfl,?_⟩
   conv=>whnf
   refine ⟨rfl,?_⟩
   intro ⟨j,n⟩ ⟨h2,h3⟩
   have h2:j≤x.length:=h2
   have h3:n=(T1.getD i Q0).count+sumK (T1.getD i Q0).name (x.take j):=h3
   have hle:=sumK_le (T1.getD i Q0).name (x.take j) fun t ht=>s2 t (List.mem_of_mem_take ht)
   have hle2:=sumK_le (l.getD i Q0).name x s2
   have htl:(x.take j).length≤6:=by rw [List.length_take];omega
   conv=>whnf
   refine ⟨fun hb=>?_,fun hb=>?_⟩
   ·have hj:j < x.length:=by have:=of_decide_eq_true hb;rw [e1] at this;omega
    clear hb
    have hsu:=sumK_succ (T1.getD i Q0).name x j hj
    have hxj:=s2 _ (getD_in K0 hj)
    conv=>whnf
    rw [getD_enc _ _ (j) K0 hj]
    refine ⟨idxA hj rfl,?_⟩
    conv=>whnf
    refine ⟨fun hg=>?_,fun hg=>?_⟩
    ·have hg:(x.getD j K0).name=(T1.getD i Q0).name:=of_decide_eq_true hg
     rw [if_pos hg] at hsu
     conv=>whnf
     rw [wrap_in (n:=n+(x.getD j K0).count) (by omega) (by omega),wrap_succ j (by omega)]
     exact ⟨(j+1,n+(x.getD j K0).count),rfl,rfl,rfl,⟨hj,by show _=_+sumK _ (x.take (j+1));rw [hsu,h3];omega⟩,by show x.length - (j+1) < x.length - j;omega⟩
    ·have hg:¬ (x.getD j K0).name=(T1.getD i Q0).name:=of_decide_eq_false hg
     rw [if_neg hg] at hsu
     conv=>whnf
     rw [wrap_succ j (by omega)]
     exact ⟨(j+1,n),rfl,rfl,rfl,⟨hj,by show n=_+sumK _ (x.take (j+1));rw [hsu,h3];omega⟩,by show x.length - (j+1) < x.length - j;omega⟩
   ·have hj:j=x.length:=by have:=of_decide_eq_false hb;rw [e1] at this;omega
    clear hb
    have hn:n=(l.getD i Q0).count:=by rw [h3,hj,List.take_length,q1];omega
    subst hn
    have z1:decide ((T1.getD i Q0).name≠(l.getD i Q0).name)=false:=by rw [q1];simp
    have z2:decide ((T1.getD i Q0).least≠(l.getD i Q0).least)=false:=by rw [q2];simp
    have z3:decide ((l.getD i Q0).count≠(l.getD i Q0).count)=false:=by simp
    have z4:decide ((T1.getD i Q0).count < 0)=false:=decide_eq_false (by omega)
    conv=>whnf
    repeat' (first
     |(rw [z1];conv=>whnf)
     |(rw [z2];conv=>whnf)
     |(rw [z3];conv=>whnf)
     |(rw [z4];conv=>whnf)
     |(refine ⟨fun hg=>?_,fun hg=>?_⟩<;>first|contradiction|(exfalso;revert hg;simp;done)|(exfalso;exact absurd (of_decide_eq_true hg) (by assumption))|(exfalso;exact absurd (by assumption) (of_decide_eq_false hg))|(conv=>whnf))
     |(refine Or.inl ?_;conv=>whnf)
     |(rw [getD_enc _ _ i Q0 hil];refine ⟨idxA hil rfl,?_⟩;conv=>whnf)
     |(refine And.intro ?_ ?_;kernel_rfl;conv=>whnf))
    rw [wrap_succ i (by omega)]
    exact ⟨i+1,rfl,rfl,rfl,hi,by omega⟩
  ·have hi:i=T1.length:=by have:=of_decide_eq_false hb;rw [eT] at this;omega
   clear hb
   conv=>whnf
   repeat' (first
    |(rw [nS];conv=>whnf)
    |(refine ⟨fun hg=>?_,fun hg=>?_⟩<;>first|contradiction|(exfalso;revert hg;simp;done)|(exfalso;exact absurd (of_decide_eq_true hg) (by assumption))|(exfalso;exact absurd (by assumption) (of_decide_eq_false hg))|(conv=>whnf))
    |(refine Or.inl ?_;conv=>whnf)
    |(refine ⟨_,a1,?_⟩;conv=>whnf)
    |(refine ⟨_,b2,?_⟩;conv=>whnf)
    |(refine And.intro ?_ ?_;kernel_rfl;conv=>whnf))
   refine ⟨⟨rfl,rfl,rfl,by simp;omega,fun e he=>qD_ok l e he⟩,?_⟩
   conv=>whnf
   refine ⟨rfl,?_⟩
   conv=>whnf
   refine dwp_loopU (P:=Tryz.prog) (G:=GC) (k:=dk14_2) (b:=db14_2) (α:=Nat) (fun i=>[(17,DV.int .i64 ((reS (l.take i)).length)),(170,DV.int .i64 (i))]) (fun i=>[(5,.box 2 (.agg [dysV y.1,.str y.2])),(165,.row 3 (qD (upTo l i)) false)]) (fun i=>i≤l.length) (fun i=>l.length - i) 0 (Nat.zero_le _) ?_
   conv=>whnf
   refine ⟨rfl,rfl,?_⟩
   conv=>whnf
   refine ⟨rfl,?_⟩
   intro i h5
   have h5:i≤l.length:=h5
   have hlq:([]++List.map encQ l).length=(qD (upTo l i)).length:=by rw [qD_len,upTo_len,List.nil_append,List.length_map]
   have hlq2:(([]++List.map encQ l).length:Int)=l.length:=by simp
   conv=>whnf
   refine ⟨fun hb=>?_,fun hb=>?_⟩
   ·have hi:i < l.length:=by have:=of_decide_eq_true hb;replace this:((i:Nat):Int) < (([]++List.map encQ l).length:Int):=this;rw [hlq2] at this;omega
    clear hb
    have hgx:(qD (upTo l i)).getD i .undef=encQ (l.getD i Q0):=by rw [qD_get _ _ (by rw [upTo_len];exact hi),upTo_get l i hi]
    have hgx0:(qD (upTo l i)).getD (0+i) .undef=encQ (l.getD i Q0):=by rw [Nat.zero_add];exact hgx
    conv=>whnf
    refine ⟨⟨hlq,by omega,by rw [hlq2];omega⟩,?_⟩
    rw [Int.toNat_natCast,Nat.zero_add]
    conv=>whnf
    rw [hgx]
    refine ⟨⟨hlq,rfl⟩,?_⟩
    conv=>whnf
    refine ⟨fun hg=>?_,fun hg=>?_⟩
    ·have hg:(l.getD i Q0).least≤(l.getD i Q0).count:=of_decide_eq_true hg
     have er:reS (l.take (i+1))=reS (l.take i):=by rw [reS_succ l i hi,if_neg (by omega)]
     have eu:=upTo_same l i hi (by omega)
     conv=>whnf
     rw [wrap_succ i (by omega)]
     refine ⟨i+1,rfl,by rw [er];rfl,by rw [eu];rfl,hi,by omega⟩
    ·have hg:¬ (l.getD i Q0).least≤(l.getD i Q0).count:=of_decide_eq_false hg
     obtain ⟨k1,k2⟩:=reS_at l i hi (by omega)
     have er:(reS (l.take (i+1))).length=(reS (l.take i)).length+1:=by rw [reS_succ l i hi,if_pos (by omega)];simp
     have eu:=upTo_succ l i hi
     rw [show upP (l.getD i Q0)=⟨(l.getD i Q0).name,(l.getD i Q0).least,(l.getD i Q0).least⟩ from if_pos (by omega)] at eu
     rw [hrs] at k1 k2
     have hc0:=hokl _ (getD_in Q0 hi)
     have hcc:=hc0.c0
     have hcd:=hc0.c1
     have hce:=hc0.l0
     have hcf:=hc0.l1
     have y1:decide (((S.map encK).length:Int)≤(((reS (l.take i)).length:Nat):Int))=false:=decide_eq_false (by omega)
     have y2:decide ((l.getD i Q0).name≠(l.getD i Q0).name)=false:=by simp
     have y3:decide ((l.getD i Q0).least - (l.getD i Q0).count≠IntKind.i64.wrap ((l.getD i Q0).least - (l.getD i Q0).count))=false:=by rw [wrap_in (by omega) (by omega)];simp
     have hset:(qD (upTo l i)).set i (.agg (setCells ((qD (upTo l i)).getD i .undef).cells 1 [DV.int .i64 ((l.getD i Q0).least)]))=qD (upTo l (i+1)):=by
      rw [hgx,eu,← qD_set];rfl
     generalize hK:(reS (l.take i)).length=K at *
     conv=>whnf
     repeat' (first
      |(rw [y1];conv=>whnf)
      |(rw [y2];conv=>whnf)
      |(rw [y3];conv=>whnf)
      |(refine ⟨fun hg=>?_,fun hg=>?_⟩<;>first|contradiction|(exfalso;revert hg;simp;done)|(exfalso;exact absurd (of_decide_eq_true hg) (by assumption))|(exfalso;exact absurd (by assumption) (of_decide_eq_false hg))|(conv=>whnf))
      |(refine Or.inl ?_;conv=>whnf)
      |(rw [getD_enc _ _ K K0 k1,k2];refine ⟨idxA k1 rfl,?_⟩;conv=>whnf)
      |(refine And.intro ?_ ?_;kernel_rfl;conv=>whnf))
     refine ⟨⟨hlq,by omega,by rw [hlq2];omega⟩,?_⟩
     rw [Int.toNat_natCast,Nat.zero_add]
     conv=>whnf
     refine ⟨hlq,?_⟩
     conv=>whnf
     refine ⟨⟨hlq,by decide,rfl⟩,?_⟩
     conv=>whnf
     rw [wrap_succ i (by omega),wrap_succ K (by omega)]
     refine ⟨i+1,rfl,?_,?_,hi,by omega⟩
     ·rw [er];rfl
     ·rw [← hset]
      show [(5,.box 2 (.agg [dysV y.1,.str y.2])),(165,DObj.row 3 ((qD (upTo l i)).set (0+i) _) false)]=_
      rw [Nat.zero_add]
      rfl
   ·have hi:i=l.length:=by have:=of_decide_eq_false hb;replace this:¬ ((i:Nat):Int) < (([]++List.map encQ l).length:Int):=this;rw [hlq2] at this;omega
    clear hb
    have hwin:window (qD (upTo l i)) 0 ([]++List.map encQ l).length=qD (l.map upP):=by rw [hlq,window_full,hi,upTo_all]
    have hK:reS (l.take i)=S:=by rw [hi,List.take_length];exact hrs
    conv=>whnf
    rw [hK]
    refine .inl ?_
    conv=>whnf
    rw [hwin]
    refine ⟨hlq,_,u1,?_⟩
    conv=>whnf
    repeat' (first
     |(rw [y4];conv=>whnf)
     |(rw [y5];conv=>whnf)
     |(refine ⟨fun hg=>?_,fun hg=>?_⟩<;>first|contradiction|(exfalso;revert hg;simp;done)|(exfalso;exact absurd (of_decide_eq_true hg) (by assumption))|(exfalso;exact absurd (by assumption) (of_decide_eq_false hg))|(conv=>whnf))
     |(refine Or.inl ?_;conv=>whnf)
     |(refine ⟨_,u2,?_⟩;conv=>whnf)
     |(refine ⟨_,d1,?_⟩;conv=>whnf)
     |(refine ⟨_,d2,?_⟩;conv=>whnf)
     |(refine ⟨_,d3,?_⟩;conv=>whnf)
     |(refine ⟨_,d4,?_⟩;conv=>whnf)
     |(refine ⟨_,d5,?_⟩;conv=>whnf)
     |(refine ⟨_,d6,?_⟩;conv=>whnf)
     |(refine And.intro ?_ ?_;kernel_rfl;conv=>whnf))
    by_cases hz:R3=0
    ·have d8:=d8 hz
     repeat' (first
      |(refine ⟨fun hg=>?_,fun hg=>?_⟩<;>first|contradiction|(exfalso;revert hg;simp;done)|(exfalso;exact absurd (of_decide_eq_true hg) (by assumption))|(exfalso;exact absurd (by assumption) (of_decide_eq_false hg))|(conv=>whnf))
      |(refine Or.inl ?_;conv=>whnf)
      |(refine ⟨_,d7,?_⟩;conv=>whnf)
      |(refine ⟨_,d8,?_⟩;conv=>whnf)
      |(refine And.intro ?_ ?_;kernel_rfl;conv=>whnf))
     rw [w1]
     refine ⟨⟨by omega,by omega,by show _≤(P.length:Int);omega⟩,?_⟩
     conv=>whnf
     rw [w2]
     conv=>whnf
     repeat' (first
      |(rw [y6];conv=>whnf)
      |(refine ⟨fun hg=>?_,fun hg=>?_⟩<;>first|contradiction|(exfalso;revert hg;simp;done)|(exfalso;exact absurd (of_decide_eq_true hg) (by assumption))|(exfalso;exact absurd (by assumption) (of_decide_eq_false hg))|(conv=>whnf))
      |(refine Or.inl ?_;conv=>whnf)
      |(refine ⟨_,d9,?_⟩;conv=>whnf)
      |(refine ⟨_,aw,?_⟩;conv=>whnf)
      |(refine And.intro ?_ ?_;kernel_rfl;conv=>whnf))
     all_goals rfl
    ·repeat' (first
      |(refine ⟨fun hg=>?_,fun hg=>?_⟩<;>first|contradiction|(exfalso;revert hg;simp;done)|(exfalso;exact absurd (of_decide_eq_true hg) (by assumption))|(exfalso;exact absurd (by assumption) (of_decide_eq_false hg))|(conv=>whnf))
      |(refine Or.inl ?_;conv=>whnf)
      |(refine ⟨_,d7,?_⟩;conv=>whnf)
      |(refine And.intro ?_ ?_;kernel_rfl;conv=>whnf))
     rw [w1]
     refine ⟨⟨by omega,by omega,by show _≤(P.length:Int);omega⟩,?_⟩
     conv=>whnf
     rw [w2]
     conv=>whnf
     repeat' (first
      |(rw [y6];conv=>whnf)
      |(refine ⟨fun hg=>?_,fun hg=>?_⟩<;>first|contradiction|(exfalso;revert hg;simp;done)|(exfalso;exact absurd (of_decide_eq_true hg) (by assumption))|(exfalso;exact absurd (by assumption) (of_decide_eq_false hg))|(conv=>whnf))
      |(refine Or.inl ?_;conv=>whnf)
      |(refine ⟨_,d9,?_⟩;conv=>whnf)
      |(refine ⟨_,aw,?_⟩;conv=>whnf)
      |(refine And.intro ?_ ?_;kernel_rfl;conv=>whnf))
     all_goals rfl
 ·rename_i hg1
  clear hg1
  repeat' (first
   |(rw [nS];conv=>whnf)
   |(refine ⟨fun hg=>?_,fun hg=>?_⟩<;>first|contradiction|(exfalso;revert hg;simp;done)|(exfalso;exact absurd (of_decide_eq_true hg) (by assumption))|(exfalso;exact absurd (by assumption) (of_decide_eq_false hg))|(conv=>whnf))
   |(refine Or.inl ?_;conv=>whnf)
   |(refine ⟨_,a1,?_⟩;conv=>whnf)
   |(refine ⟨_,b2,?_⟩;conv=>whnf)
   |(refine And.intro ?_ ?_;kernel_rfl;conv=>whnf))
  refine ⟨⟨rfl,rfl,rfl,by simp;omega,fun e he=>qD_ok l e he⟩,?_⟩
  conv=>whnf
  refine ⟨rfl,?_⟩
  conv=>whnf
  refine dwp_loopU (P:=Tryz.prog) (G:=GC) (k:=dk14_2) (b:=db14_2) (α:=Nat) (fun i=>[(17,DV.int .i64 ((reS (l.take i)).length)),(170,DV.int .i64 (i))]) (fun i=>[(5,.box 2 (.agg [dysV y.1,.str y.2])),(165,.row 3 (qD (upTo l i)) false)]) (fun i=>i≤l.length) (fun i=>l.length - i) 0 (Nat.zero_le _) ?_
  conv=>whnf
  refine ⟨rfl,rfl,?_⟩
  conv=>whnf
  refine ⟨rfl,?_⟩
  intro i h5
  have h5:i≤l.length:=h5
  have hlq:([]++List.map encQ l).length=(qD (upTo l i)).length:=by rw [qD_len,upTo_len,List.nil_append,List.length_map]
  have hlq2:(([]++List.map encQ l).length:Int)=l.length:=by simp
  conv=>whnf
  refine ⟨fun hb=>?_,fun hb=>?_⟩
  ·have hi:i < l.length:=by have:=of_decide_eq_true hb;replace this:((i:Nat):Int) < (([]++List.map encQ l).length:Int):=this;rw [hlq2] at this;omega
   clear hb
   have hgx:(qD (upTo l i)).getD i .undef=encQ (l.getD i Q0):=by rw [qD_get _ _ (by rw [upTo_len];exact hi),upTo_get l i hi]
   have hgx0:(qD (upTo l i)).getD (0+i) .undef=encQ (l.getD i Q0):=by rw [Nat.zero_add];exact hgx
   conv=>whnf
   refine ⟨⟨hlq,by omega,by rw [hlq2];omega⟩,?_⟩
   rw [Int.toNat_natCast,Nat.zero_add]
   conv=>whnf
   rw [hgx]
   refine ⟨⟨hlq,rfl⟩,?_⟩
   conv=>whnf
   refine ⟨fun hg=>?_,fun hg=>?_⟩
   ·have hg:(l.getD i Q0).least≤(l.getD i Q0).count:=of_decide_eq_true hg
    have er:reS (l.take (i+1))=reS (l.take i):=by rw [reS_succ l i hi,if_neg (by omega)]
    have eu:=upTo_same l i hi (by omega)
    conv=>whnf
    rw [wrap_succ i (by omega)]
    refine ⟨i+1,rfl,by rw [er];rfl,by rw [eu];rfl,hi,by omega⟩
   ·have hg:¬ (l.getD i Q0).least≤(l.getD i Q0).count:=of_decide_eq_false hg
    obtain ⟨k1,k2⟩:=reS_at l i hi (by omega)
    have er:(reS (l.take (i+1))).length=(reS (l.take i)).length+1:=by rw [reS_succ l i hi,if_pos (by omega)];simp
    have eu:=upTo_succ l i hi
    rw [show upP (l.getD i Q0)=⟨(l.getD i Q0).name,(l.getD i Q0).least,(l.getD i Q0).least⟩ from if_pos (by omega)] at eu
    rw [hrs] at k1 k2
    have hc0:=hokl _ (getD_in Q0 hi)
    have hcc:=hc0.c0
    have hcd:=hc0.c1
    have hce:=hc0.l0
    have hcf:=hc0.l1
    have y1:decide (((S.map encK).length:Int)≤(((reS (l.take i)).length:Nat):Int))=false:=decide_eq_false (by omega)
    have y2:decide ((l.getD i Q0).name≠(l.getD i Q0).name)=false:=by simp
    have y3:decide ((l.getD i Q0).least - (l.getD i Q0).count≠IntKind.i64.wrap ((l.getD i Q0).least - (l.getD i Q0).count))=false:=by rw [wrap_in (by omega) (by omega)];simp
    have hset:(qD (upTo l i)).set i (.agg (setCells ((qD (upTo l i)).getD i .undef).cells 1 [DV.int .i64 ((l.getD i Q0).least)]))=qD (upTo l (i+1)):=by
     rw [hgx,eu,← qD_set];rfl
    generalize hK:(reS (l.take i)).length=K at *
    conv=>whnf
    repeat' (first
     |(rw [y1];conv=>whnf)
     |(rw [y2];conv=>whnf)
     |(rw [y3];conv=>whnf)
     |(refine ⟨fun hg=>?_,fun hg=>?_⟩<;>first|contradiction|(exfalso;revert hg;simp;done)|(exfalso;exact absurd (of_decide_eq_true hg) (by assumption))|(exfalso;exact absurd (by assumption) (of_decide_eq_false hg))|(conv=>whnf))
     |(refine Or.inl ?_;conv=>whnf)
     |(rw [getD_enc _ _ K K0 k1,k2];refine ⟨idxA k1 rfl,?_⟩;conv=>whnf)
     |(refine And.intro ?_ ?_;kernel_rfl;conv=>whnf))
    refine ⟨⟨hlq,by omega,by rw [hlq2];omega⟩,?_⟩
    rw [Int.toNat_natCast,Nat.zero_add]
    conv=>whnf
    refine ⟨hlq,?_⟩
    conv=>whnf
    refine ⟨⟨hlq,by decide,rfl⟩,?_⟩
    conv=>whnf
    rw [wrap_succ i (by omega),wrap_succ K (by omega)]
    refine ⟨i+1,rfl,?_,?_,hi,by omega⟩
    ·rw [er];rfl
    ·rw [← hset]
     show [(5,.box 2 (.agg [dysV y.1,.str y.2])),(165,DObj.row 3 ((qD (upTo l i)).set (0+i) _) false)]=_
     rw [Nat.zero_add]
     rfl
  ·have hi:i=l.length:=by have:=of_decide_eq_false hb;replace this:¬ ((i:Nat):Int) < (([]++List.map encQ l).length:Int):=this;rw [hlq2] at this;omega
   clear hb
   have hwin:window (qD (upTo l i)) 0 ([]++List.map encQ l).length=qD (l.map upP):=by rw [hlq,window_full,hi,upTo_all]
   have hK:reS (l.take i)=S:=by rw [hi,List.take_length];exact hrs
   conv=>whnf
   rw [hK]
   refine .inl ?_
   conv=>whnf
   rw [hwin]
   refine ⟨hlq,_,u1,?_⟩
   conv=>whnf
   repeat' (first
    |(rw [y4];conv=>whnf)
    |(rw [y5];conv=>whnf)
    |(refine ⟨fun hg=>?_,fun hg=>?_⟩<;>first|contradiction|(exfalso;revert hg;simp;done)|(exfalso;exact absurd (of_decide_eq_true hg) (by assumption))|(exfalso;exact absurd (by assumption) (of_decide_eq_false hg))|(conv=>whnf))
    |(refine Or.inl ?_;conv=>whnf)
    |(refine ⟨_,u2,?_⟩;conv=>whnf)
    |(refine ⟨_,d1,?_⟩;conv=>whnf)
    |(refine ⟨_,d2,?_⟩;conv=>whnf)
    |(refine ⟨_,d3,?_⟩;conv=>whnf)
    |(refine ⟨_,d4,?_⟩;conv=>whnf)
    |(refine ⟨_,d5,?_⟩;conv=>whnf)
    |(refine ⟨_,d6,?_⟩;conv=>whnf)
    |(refine And.intro ?_ ?_;kernel_rfl;conv=>whnf))
   by_cases hz:R3=0
   ·have d8:=d8 hz
    repeat' (first
     |(refine ⟨fun hg=>?_,fun hg=>?_⟩<;>first|contradiction|(exfalso;revert hg;simp;done)|(exfalso;exact absurd (of_decide_eq_true hg) (by assumption))|(exfalso;exact absurd (by assumption) (of_decide_eq_false hg))|(conv=>whnf))
     |(refine Or.inl ?_;conv=>whnf)
     |(refine ⟨_,d7,?_⟩;conv=>whnf)
     |(refine ⟨_,d8,?_⟩;conv=>whnf)
     |(refine And.intro ?_ ?_;kernel_rfl;conv=>whnf))
    rw [w1]
    refine ⟨⟨by omega,by omega,by show _≤(P.length:Int);omega⟩,?_⟩
    conv=>whnf
    rw [w2]
    conv=>whnf
    repeat' (first
     |(rw [y6];conv=>whnf)
     |(refine ⟨fun hg=>?_,fun hg=>?_⟩<;>first|contradiction|(exfalso;revert hg;simp;done)|(exfalso;exact absurd (of_decide_eq_true hg) (by assumption))|(exfalso;exact absurd (by assumption) (of_decide_eq_false hg))|(conv=>whnf))
     |(refine Or.inl ?_;conv=>whnf)
     |(refine ⟨_,d9,?_⟩;conv=>whnf)
     |(refine ⟨_,aw,?_⟩;conv=>whnf)
     |(refine And.intro ?_ ?_;kernel_rfl;conv=>whnf))
    all_goals rfl
   ·repeat' (first
     |(refine ⟨fun hg=>?_,fun hg=>?_⟩<;>first|contradiction|(exfalso;revert hg;simp;done)|(exfalso;exact absurd (of_decide_eq_true hg) (by assumption))|(exfalso;exact absurd (by assumption) (of_decide_eq_false hg))|(conv=>whnf))
     |(refine Or.inl ?_;conv=>whnf)
     |(refine ⟨_,d7,?_⟩;conv=>whnf)
     |(refine And.intro ?_ ?_;kernel_rfl;conv=>whnf))
    rw [w1]
    refine ⟨⟨by omega,by omega,by show _≤(P.length:Int);omega⟩,?_⟩
    conv=>whnf
    rw [w2]
    conv=>whnf
    repeat' (first
     |(rw [y6];conv=>whnf)
     |(refine ⟨fun hg=>?_,fun hg=>?_⟩<;>first|contradiction|(exfalso;revert hg;simp;done)|(exfalso;exact absurd (of_decide_eq_true hg) (by assumption))|(exfalso;exact absurd (by assumption) (of_decide_eq_false hg))|(conv=>whnf))
     |(refine Or.inl ?_;conv=>whnf)
     |(refine ⟨_,d9,?_⟩;conv=>whnf)
     |(refine ⟨_,aw,?_⟩;conv=>whnf)
     |(refine And.intro ?_ ?_;kernel_rfl;conv=>whnf))
    all_goals rfl
end Sh
