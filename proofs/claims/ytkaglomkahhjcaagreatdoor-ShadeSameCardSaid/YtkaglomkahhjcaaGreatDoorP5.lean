/-
  Chapter 3's functions, walked over pure data: the library of the walk, the functions' code over data, and what each computes. (part 5)
-/
import Derived.Test.YtkaglomkahhjcaaGreatDoorP4
import Derived.Test.YtkaglomkahhjcaaGreatDoorProg
import Derived.Shelf.LaysM
import Derived.Shelf.Strconv.Itoa3
import Derived.Shelf.Small.Strs
import Derived.Shelf.Small.Wraps
import Derived.Shelf.Strings.Split
import Derived.Shelf.Strings.BuilderK
import Derived.WalkKit
import Derived.BigCall
set_option linter.unusedVariables false
set_option linter.unusedSimpArgs false
set_option maxRecDepth 100000
namespace Sh
open Go Go.Proofs
abbrev GB:Int:=1000000000000000000
theorem absG {n:Int} (h : -GB≤n∧n≤GB):minmaxI true n (IntKind.i64.wrap (-n))=(n.natAbs:Int):=by
 unfold GB at h
 show (if IntKind.i64.wrap (-n) > n then IntKind.i64.wrap (-n) else n)=_
 rw [wrap_in (by omega) (by omega)];split<;>omega
theorem div_wI {n g:Int} (hn : -GB≤n∧n≤GB):IntKind.i64.wrap (n.tdiv g)=n.tdiv g:=by
 have h:(n.tdiv g).natAbs≤n.natAbs:=by rw [Int.natAbs_tdiv];exact Nat.div_le_self _ _
 unfold GB at hn
 exact wrap_in (by omega) (by omega)
theorem div_w {n:Int} {a:Nat} (hn : -GB≤n∧n≤GB):IntKind.i64.wrap (n.tdiv ((a,0):Nat×Nat).1)=n.tdiv a:=div_wI hn
theorem c_lowest (n d:Int) (hn : -GB≤n∧n≤GB) (hd:0 < d∧d≤GB):PC 114 [DV.int .i64 (n),DV.int .i64 (d)] (encR (lowR n d)):=by
 have w1:=absG hn
 refine pureCall_ofR dh114 rfl ?_
 conv=>whnf
 rw [w1]
 refine dwp_loopU (P:=Tryz.prog) (G:=GC) (k:=dk114_0) (b:=db114_0) (α:=Nat×Nat) (fun a=>[(5,DV.int .i64 (a.1)),(6,DV.int .i64 (a.2))]) (fun _=>[(4,.box 2 (.agg [DV.int .i64 (0),DV.int .i64 (0)]))]) (fun a=>Nat.gcd a.1 a.2=Int.gcd n d) (fun a=>a.2) (n.natAbs,d.toNat) (by show Nat.gcd n.natAbs d.toNat=Nat.gcd n.natAbs d.natAbs;congr 1;omega) ?_
 conv=>whnf
 refine ⟨rfl,rfl,?_⟩
 conv=>whnf
 refine ⟨by rw [show ((n.natAbs,d.toNat).2:Int)=d by show ((d.toNat:Nat):Int)=d;omega];rfl,?_⟩
 intro ⟨a,b⟩ h
 conv=>whnf
 refine ⟨fun hb=>?_,fun hb=>?_⟩
 ·have hb0:b≠0:=by have:=of_decide_eq_true hb;dsimp only at this;omega
  clear hb
  conv=>whnf
  refine ⟨by show (b:Int)≠0;omega,?_⟩
  conv=>whnf
  refine ⟨by kernel_rfl,?_⟩
  conv=>whnf
  have hm:((a:Int)).tmod (b:Int)=((a % b:Nat):Int):=rfl
  exact ⟨(b,a % b),rfl,rfl,rfl,(gcd_step hb0).trans h,Nat.mod_lt _ (by omega)⟩
 ·have hb0:b=0:=by have:=of_decide_eq_false hb;dsimp only at this;omega
  clear hb
  conv=>whnf
  subst hb0
  have hg:gcdI n d=(a:Int):=by unfold gcdI;rw [← h];simp
  have hp:=gcdI_pos (n:=n) hd.1
  refine ⟨by show (a:Int)≠0;omega,?_⟩
  conv=>whnf
  refine ⟨by show (a:Int)≠0;omega,?_⟩
  conv=>whnf
  rw [div_w (a:=a) hn,div_w (a:=a) ⟨by omega,hd.2⟩]
  repeat' (first
   |(refine ⟨fun hg=>?_,fun hg=>?_⟩<;>first|contradiction|(conv=>whnf))
   |(refine Or.inl ?_;conv=>whnf)
   |(refine And.intro ?_ ?_;kernel_rfl;conv=>whnf))
  unfold lowR;rw [hg];rfl
def sdS (t p:Pt) (sun:V3):(Int×Int)×Int:=if frE t p sun≠0 then ((0,0),frE t p sun) else (shdR t p sun,0)
theorem wid_bd {t p:Pt} {sun:V3} (h1:OkP t) (h2:OkP p) (h3:bdV 1000 sun):0≤widI t sun∧widI t sun≤4000000∧0≤roomI p sun∧roomI p sun≤2000000:=by
 have a:=acr_bd h1.1 h1.2 h3
 have b:=acr_bd h2.1 h2.2 h3
 unfold widI roomI
 rw [absI_eq,absI_eq];omega
theorem c_Shaded (t p:Pt) (sun:V3):PC 58 [encPt t,encPt p,encV sun] (.tuple [encR (sdS t p sun).1,DV.int .i64 ((sdS t p sun).2)]):=by
 have k1:=c_checkTilt t
 have k2:=c_checkPitch p
 have k3:=c_CheckSun sun
 have k4:=c_first [chkTilt t,chkPitch p,chkSun sun] (by simp)
 refine pureCall_ofR dh58 rfl ?_
 conv=>whnf
 repeat' (first
  |(refine ⟨fun hg=>?_,fun hg=>?_⟩<;>first|contradiction|(conv=>whnf))
  |(refine Or.inl ?_;conv=>whnf)
  |(refine ⟨_,k1,?_⟩;conv=>whnf)
  |(refine ⟨_,k2,?_⟩;conv=>whnf)
  |(refine ⟨_,k3,?_⟩;conv=>whnf)
  |(refine ⟨_,k4,?_⟩;conv=>whnf)
  |(refine And.intro ?_ ?_;kernel_rfl;conv=>whnf))
 ·have e:sdS t p sun=((0,0),frE t p sun):=if_pos (of_decide_eq_true hg)
  rw [e];rfl
 ·have hg:=of_decide_eq_false hg
  have e:sdS t p sun=(shdR t p sun,0):=if_neg hg
  obtain ⟨h1,h2,h3,h4⟩:=frE_zero (show frE t p sun=0 from Classical.not_not.1 hg)
  have k5:=c_chosen t 0 sun h1 h3
  have k6:=c_width t 0 _ (acr_bd h1.1 h1.2 h3)
  have k7:=c_room p sun h2 h3
  have hb:=wid_bd h1 h2 h3
  have hf:shdR t p sun=if freeB t p sun then (0,1) else lowR (widI t sun - roomI p sun) (widI t sun):=rfl
  clear hg
  repeat' (first
   |(refine ⟨fun hg=>?_,fun hg=>?_⟩<;>first|contradiction|(conv=>whnf))
   |(refine Or.inl ?_;conv=>whnf)
   |(refine ⟨_,k5,?_⟩;conv=>whnf)
   |(refine ⟨_,k6,?_⟩;conv=>whnf)
   |(refine ⟨_,k7,?_⟩;conv=>whnf)
   |(refine And.intro ?_ ?_;kernel_rfl;conv=>whnf))
  ·have hg:freeB t p sun=true:=hg
   rw [hg] at hf
   rw [e,hf];rfl
  ·have hg:freeB t p sun=false:=hg
   have hlt:¬ widI t sun≤roomI p sun:=of_decide_eq_false hg
   rw [hg] at hf
   have hw:IntKind.i64.wrap (2 * absI (acr t sun) - roomI p sun)=widI t sun - roomI p sun:=wrap_in (by show -9223372036854775808≤widI t sun - roomI p sun;omega) (by show widI t sun - roomI p sun≤9223372036854775807;omega)
   have k8:=c_lowest (widI t sun - roomI p sun) (widI t sun) (by unfold GB;omega) (by unfold GB;omega)
   rw [hw]
   repeat' (first
    |(refine ⟨fun hg=>?_,fun hg=>?_⟩<;>first|contradiction|(conv=>whnf))
    |(refine Or.inl ?_;conv=>whnf)
    |(refine ⟨_,k8,?_⟩;conv=>whnf)
    |(refine And.intro ?_ ?_;kernel_rfl;conv=>whnf))
   rw [e,hf];rfl
end Sh

namespace Sh
open Go
def dc214 : DFunc := ⟨5,1,[.tmp 2],.seq (.ops false [⟨some 1,.box 3 (.tmp 0),none,[]⟩,⟨some 2,.mov (.const (.int .i64 0)),none,[]⟩]) (.seq (.ops false [⟨some 3,.faddr 0 1 false (.tmp 1),none,[]⟩,⟨some 4,.load none (.tmp 3),none,[]⟩,⟨some 2,.mov (.tmp 4),none,[]⟩]) .ret)⟩
theorem dh214:cProg Go.Proofs.Tryz.prog ⟨[],[],[]⟩ 214=some dc214:=by kernel_rfl
def dc215 : DFunc := ⟨5,1,[.tmp 2],.seq (.ops false [⟨some 1,.box 3 (.tmp 0),none,[]⟩,⟨some 2,.mov (.const (.int .i64 0)),none,[]⟩]) (.seq (.ops false [⟨some 3,.faddr 1 1 false (.tmp 1),none,[]⟩,⟨some 4,.load none (.tmp 3),none,[]⟩,⟨some 2,.mov (.tmp 4),none,[]⟩]) .ret)⟩
theorem dh215:cProg Go.Proofs.Tryz.prog ⟨[],[],[]⟩ 215=some dc215:=by kernel_rfl
end Sh

namespace Sh
open Go Go.Proofs
theorem c_axX (v:V3):PC 214 [encV v] (DV.int .i64 (v.x)):=by
 refine pureCall_ofR dh214 rfl ?_
 conv=>whnf
 rfl
theorem c_axY (v:V3):PC 215 [encV v] (DV.int .i64 (v.y)):=by
 refine pureCall_ofR dh215 rfl ?_
 conv=>whnf
 rfl
theorem cast_w {a b c d:Int} (h1 : -1000≤a∧a≤1000) (h2 : -1000≤b∧b≤1000) (h3 : -1000≤c∧c≤1000) (h4 : -1000≤d∧d≤1000):IntKind.i64.wrap (IntKind.i64.wrap (a * b) - IntKind.i64.wrap (c * d))=a * b - c * d:=by
 have p1:=mul_bd h1.1 h1.2 h2.1 h2.2
 have p2:=mul_bd h3.1 h3.2 h4.1 h4.2
 rw [wrap_in (n:=a * b) (by omega) (by omega),wrap_in (n:=c * d) (by omega) (by omega),wrap_in (by omega) (by omega)]
theorem c_castX (v sun:V3) (hv:bdV 1000 v) (hs:bdV 1000 sun):PC 119 [.agg [.func 214 []],encV v,encV sun] (DV.int .i64 (castX v sun)):=by
 have k1:=c_axX v
 have k2:=c_axX sun
 refine pureCall_ofR dh119 rfl ?_
 conv=>whnf
 repeat' (first
  |(refine ⟨fun hg=>?_,fun hg=>?_⟩<;>first|contradiction|(conv=>whnf))
  |(refine Or.inl ?_;conv=>whnf)
  |(refine ⟨_,k1,?_⟩;conv=>whnf)
  |(refine ⟨_,k2,?_⟩;conv=>whnf)
  |(refine And.intro ?_ ?_;kernel_rfl;conv=>whnf))
 exact int_eq (cast_w hv.1 hs.2.2 hv.2.2 hs.1)
theorem c_castY (v sun:V3) (hv:bdV 1000 v) (hs:bdV 1000 sun):PC 119 [.agg [.func 215 []],encV v,encV sun] (DV.int .i64 (castY v sun)):=by
 have k1:=c_axY v
 have k2:=c_axY sun
 refine pureCall_ofR dh119 rfl ?_
 conv=>whnf
 repeat' (first
  |(refine ⟨fun hg=>?_,fun hg=>?_⟩<;>first|contradiction|(conv=>whnf))
  |(refine Or.inl ?_;conv=>whnf)
  |(refine ⟨_,k1,?_⟩;conv=>whnf)
  |(refine ⟨_,k2,?_⟩;conv=>whnf)
  |(refine And.intro ?_ ?_;kernel_rfl;conv=>whnf))
 exact int_eq (cast_w hv.2.1 hs.2.2 hv.2.2 hs.2.1)
def encCn (q:(Int×Int)×(Int×Int)):DV:=.agg [DV.int .i64 (q.1.1),DV.int .i64 (q.1.2),DV.int .i64 (q.2.1),DV.int .i64 (q.2.2)]
theorem c_Outline1 (v sun:V3) (hv:bdV 1000 v) (hs:bdV 1000 sun) (hz:1≤sun.z):PC 118 [encV v,.ip (encV sun)] (encCn (cornR v sun)):=by
 have k1:=c_castX v sun hv hs
 have k2:=c_castY v sun hv hs
 have b1:=castX_bd hv hs
 have b2:=castY_bd hv hs
 have hz2:=hs.2.2.2
 have k3:=c_lowest (castX v sun) sun.z (by unfold GB;omega) (by unfold GB;omega)
 have k4:=c_lowest (castY v sun) sun.z (by unfold GB;omega) (by unfold GB;omega)
 refine pureCall_ofR dh118 rfl ?_
 conv=>whnf
 repeat' (first
  |(refine ⟨fun hg=>?_,fun hg=>?_⟩<;>first|contradiction|(conv=>whnf))
  |(refine Or.inl ?_;conv=>whnf)
  |(refine ⟨_,k1,?_⟩;conv=>whnf)
  |(refine ⟨_,k2,?_⟩;conv=>whnf)
  |(refine ⟨_,k3,?_⟩;conv=>whnf)
  |(refine ⟨_,k4,?_⟩;conv=>whnf)
  |(refine ⟨⟨by decide,by decide,rfl,rfl⟩,?_⟩;conv=>whnf)
  |(refine And.intro ?_ ?_;kernel_rfl;conv=>whnf))
 rfl
def oC (f:V3→(Int×Int)×(Int×Int)) (l:List V3) (i:Nat):List DV:=(l.take i).map fun v=>encCn (f v)
theorem oC_len (f:V3→(Int×Int)×(Int×Int)) (l:List V3) (i:Nat) (h:i≤l.length):(oC f l i).length=i:=by simp [oC];omega
theorem oC_succ (f:V3→(Int×Int)×(Int×Int)) (l:List V3) (i:Nat) (h:i < l.length):oC f l (i+1)=oC f l i++[encCn (f (l.getD i V0))]:=take_map_succ _ l i V0 h
theorem c_mapC (l:List V3) (f:FuncId) (sun:V3) (g:V3→(Int×Int)×(Int×Int)) (hl:l.length < 1073741824) (hf:∀ v ∈ l,PC f [encV v,.ip (encV sun)] (encCn (g v))):PC 117 [.list (l.map encV),.func f [.ip (encV sun)]] (.list (l.map fun v=>encCn (g v))):=by
 have e0:((l.map encV).length:Int)=l.length:=by simp
 refine pureCall_ofR dh117 rfl ?_
 conv=>whnf
 refine dwp_loopU (P:=Tryz.prog) (G:=GC) (k:=dk117_0) (b:=db117_0) (α:=Nat) (fun i=>[(5,.own 5 0 (oC g l i).length (oC g l i).length),(10,DV.int .i64 (i))]) (fun i=>[(5,.row 4 (oC g l i) false)]) (fun i=>i≤l.length) (fun i=>l.length - i) 0 (Nat.zero_le _) ?_
 conv=>whnf
 refine ⟨rfl,rfl,?_⟩
 conv=>whnf
 refine ⟨rfl,?_⟩
 intro i h1
 conv=>whnf
 refine ⟨fun hb=>?_,fun hb=>?_⟩
 ·have hi:i < l.length:=by simpa using hb
  have k1:=hf _ (getD_in V0 hi)
  have hln:=oC_len g l i h1
  clear hb
  conv=>whnf
  rw [getD_enc _ _ (i) V0 hi]
  refine ⟨idxA hi rfl,?_⟩
  conv=>whnf
  repeat' (first
   |(refine ⟨fun hg=>?_,fun hg=>?_⟩<;>first|contradiction|(conv=>whnf))
   |(refine Or.inl ?_;conv=>whnf)
   |(refine ⟨_,k1,?_⟩;conv=>whnf)
   |(refine ⟨⟨rfl,rfl,rfl,by rw [hln];simp;omega,fun e he=>by simp at he;subst he;rfl⟩,?_⟩;conv=>whnf)
   |(refine And.intro ?_ ?_;kernel_rfl;conv=>whnf))
  rw [wrap_succ i (by omega)]
  refine ⟨i+1,rfl,?_,?_,hi,by omega⟩
  ·rw [oC_succ g l i hi];rfl
  ·rw [oC_succ g l i hi];rfl
 ·have hi:i=l.length:=by have:=of_decide_eq_false hb;rw [e0] at this;omega
  clear hb
  conv=>whnf
  exact ⟨rfl,by rw [window_full,hi];unfold oC;rw [List.take_length];rfl⟩
def olE (s:List V3) (sun:V3):Int:=firstE [chkShp s,chkSun sun]
def outL (s:List V3) (sun:V3):List ((Int×Int)×(Int×Int)):=s.map fun v=>cornR v sun
def crns (l:List ((Int×Int)×(Int×Int))):DV:=.list (l.map encCn)
def olS (s:List V3) (sun:V3):List ((Int×Int)×(Int×Int))×Int:=if olE s sun≠0 then ([],olE s sun) else (outL s sun,0)
theorem olE_zero {s:List V3} {sun:V3} (h:olE s sun=0):OkS s∧bdV 1000 sun∧1≤sun.z:=by
 unfold olE at h
 obtain ⟨z1,h⟩:=firstE_cons h
 obtain ⟨z2,h⟩:=firstE_cons h
 exact ⟨chkShp_zero z1,chkSun_zero z2⟩
theorem OkS.mem {s:List V3} (h:OkS s):∀ v ∈ s,bdV 1000 v:=fun v hv=>(h.2.2 v hv).1
theorem c_Outline (s:List V3) (sun:V3) (hl:s.length < 1073741824):PC 45 [shp s,encV sun] (.tuple [crns (olS s sun).1,DV.int .i64 ((olS s sun).2)]):=by
 have k1:=c_CheckShape s hl
 have k2:=c_CheckSun sun
 have k3:=c_first [chkShp s,chkSun sun] (by simp)
 refine pureCall_ofR dh45 rfl ?_
 conv=>whnf
 repeat' (first
  |(refine ⟨fun hg=>?_,fun hg=>?_⟩<;>first|contradiction|(conv=>whnf))
  |(refine Or.inl ?_;conv=>whnf)
  |(refine ⟨_,k1,?_⟩;conv=>whnf)
  |(refine ⟨_,k2,?_⟩;conv=>whnf)
  |(refine ⟨_,k3,?_⟩;conv=>whnf)
  |(refine And.intro ?_ ?_;kernel_rfl;conv=>whnf))
 ·have e:olS s sun=([],olE s sun):=if_pos (of_decide_eq_true hg)
  rw [e];rfl
 ·have hg:=of_decide_eq_false hg
  have e:olS s sun=(outL s sun,0):=if_neg hg
  obtain ⟨h1,h2,h3⟩:=olE_zero (show olE s sun=0 from Classical.not_not.1 hg)
  have k4:=c_mapC s 118 sun (fun v=>cornR v sun) hl (fun v hv=>c_Outline1 v sun (h1.mem v hv) h2 h3)
  repeat' (first
   |(refine ⟨fun hg=>?_,fun hg=>?_⟩<;>first|contradiction|(conv=>whnf))
   |(refine Or.inl ?_;conv=>whnf)
   |(refine ⟨_,k4,?_⟩;conv=>whnf)
   |(refine And.intro ?_ ?_;kernel_rfl;conv=>whnf))
  rw [e]
  show DV.tuple [DV.list _,_]=DV.tuple [DV.list _,_]
  unfold outL
  rw [List.map_map]
  rfl
end Sh

namespace Sh
open Go Go.Proofs
def arS (s:List V3) (sun:V3):(Int×Int)×Int:=if olE s sun≠0 then ((0,0),olE s sun) else (areaR s sun,0)
theorem arT_w {s:List V3} {sun:V3} (h1:OkS s) (h2:bdV 1000 sun) {i:Nat} (hi:i < s.length):IntKind.i64.wrap (IntKind.i64.wrap (castX (s.getD i V0) sun * castY (aft s i) sun) - IntKind.i64.wrap (castX (aft s i) sun * castY (s.getD i V0) sun))=areaT s sun i:=by
 have a:=castX_bd (h1.at hi) h2
 have b:=castY_bd (h1.aft i) h2
 have c:=castX_bd (h1.aft i) h2
 have d:=castY_bd (h1.at hi) h2
 have p1:=mul_bd a.1 a.2 b.1 b.2
 have p2:=mul_bd c.1 c.2 d.1 d.2
 rw [wrap_in (n:=castX (s.getD i V0) sun * castY (aft s i) sun) (by omega) (by omega),wrap_in (n:=castX (aft s i) sun * castY (s.getD i V0) sun) (by omega) (by omega),wrap_in (by omega) (by omega)]
 rfl
theorem zz_w {sun:V3} (h2:bdV 1000 sun) (hz:1≤sun.z):IntKind.i64.wrap (IntKind.i64.wrap (2 * sun.z) * sun.z)=2 * sun.z * sun.z∧0 < 2 * sun.z * sun.z∧2 * sun.z * sun.z≤GB:=by
 have:=h2.2.2
 have hm:=mul_bd (a:=2 * sun.z) (b:=sun.z) (A:=2000) (B:=1000) (by omega) (by omega) (by omega) (by omega)
 have hp:0 < 2 * sun.z * sun.z:=Int.mul_pos (by omega) (by omega)
 rw [wrap_in (n:=2 * sun.z) (by omega) (by omega),wrap_in (by omega) (by omega)]
 exact ⟨rfl,hp,by unfold GB;omega⟩
theorem c_Area (s:List V3) (sun:V3) (hl:s.length < 1073741824):PC 46 [shp s,encV sun] (.tuple [encR (arS s sun).1,DV.int .i64 ((arS s sun).2)]):=by
 have e0:((s.map encV).length:Int)=s.length:=by simp
 have k1:=c_CheckShape s hl
 have k2:=c_CheckSun sun
 have k3:=c_first [chkShp s,chkSun sun] (by simp)
 refine pureCall_ofR dh46 rfl ?_
 conv=>whnf
 repeat' (first
  |(refine ⟨fun hg=>?_,fun hg=>?_⟩<;>first|contradiction|(conv=>whnf))
  |(refine Or.inl ?_;conv=>whnf)
  |(refine ⟨_,k1,?_⟩;conv=>whnf)
  |(refine ⟨_,k2,?_⟩;conv=>whnf)
  |(refine ⟨_,k3,?_⟩;conv=>whnf)
  |(refine And.intro ?_ ?_;kernel_rfl;conv=>whnf))
 ·have e:arS s sun=((0,0),olE s sun):=if_pos (of_decide_eq_true hg)
  rw [e];rfl
 ·have hg:=of_decide_eq_false hg
  have e:arS s sun=(areaR s sun,0):=if_neg hg
  obtain ⟨h1,h2,h3⟩:=olE_zero (show olE s sun=0 from Classical.not_not.1 hg)
  have h6:=h1.2.1
  refine dwp_loopU (P:=Tryz.prog) (G:=GC) (k:=dk46_0) (b:=db46_0) (α:=Nat) (fun i=>[(7,DV.int .i64 (areaI s sun i)),(23,DV.int .i64 (i))]) (fun i=>[(3,.box 3 (encV sun)),(4,.box 2 (.agg [DV.int .i64 (0),DV.int .i64 (0)]))]) (fun i=>i≤s.length) (fun i=>s.length - i) 0 (Nat.zero_le _) ?_
  conv=>whnf
  refine ⟨rfl,rfl,?_⟩
  conv=>whnf
  refine ⟨rfl,?_⟩
  intro i j1
  conv=>whnf
  refine ⟨fun hb=>?_,fun hb=>?_⟩
  ·have hi:i < s.length:=by simpa using hb
   have bv:=h1.at hi
   have ba:=h1.aft i
   have k4:=c_after s (by omega) i (by omega)
   have k5:=c_castX _ sun bv h2
   have k6:=c_castY _ sun ba h2
   have k7:=c_castX _ sun ba h2
   have k8:=c_castY _ sun bv h2
   have hw:=arT_w h1 h2 hi
   have b1:=areaT_bd h1 h2 hi
   have b2:=areaI_bd h1 h2 (k:=i) (by omega)
   clear hb
   conv=>whnf
   rw [getD_enc _ _ (i) V0 hi]
   refine ⟨idxA hi rfl,?_⟩
   conv=>whnf
   repeat' (first
    |(refine ⟨fun hg=>?_,fun hg=>?_⟩<;>first|contradiction|(conv=>whnf))
    |(refine Or.inl ?_;conv=>whnf)
    |(refine ⟨_,k4,?_⟩;conv=>whnf)
    |(refine ⟨_,k5,?_⟩;conv=>whnf)
    |(refine ⟨_,k6,?_⟩;conv=>whnf)
    |(refine ⟨_,k7,?_⟩;conv=>whnf)
    |(refine ⟨_,k8,?_⟩;conv=>whnf)
    |(refine ⟨⟨by decide,by decide,rfl,rfl⟩,?_⟩;conv=>whnf)
    |(refine And.intro ?_ ?_;kernel_rfl;conv=>whnf))
   rw [hw,wrap_succ i (by omega),wrap_in (n:=areaI s sun i+areaT s sun i) (by omega) (by omega),← areaI_succ]
   exact ⟨i+1,rfl,rfl,rfl,hi,by omega⟩
  ·have hi:i=s.length:=by have:=of_decide_eq_false hb;rw [e0] at this;omega
   have b2:=areaI_bd h1 h2 (k:=s.length) (Nat.le_refl _)
   have hab:=absI_eq (areaI s sun s.length)
   have hz:=zz_w h2 h3
   have k9:=c_lowest (absI (areaI s sun s.length)) (2 * sun.z * sun.z) (by unfold GB;omega) hz.2
   have hm:minmaxI true (areaI s sun s.length) (IntKind.i64.wrap (-areaI s sun s.length))=absI (areaI s sun s.length):=by
    rw [wrap_in (by omega) (by omega)];rfl
   clear hb
   conv=>whnf
   rw [hi,hm,hz.1]
   repeat' (first
    |(refine ⟨fun hg=>?_,fun hg=>?_⟩<;>first|contradiction|(conv=>whnf))
    |(refine Or.inl ?_;conv=>whnf)
    |(refine ⟨_,k9,?_⟩;conv=>whnf)
    |(refine And.intro ?_ ?_;kernel_rfl;conv=>whnf))
   rw [e];rfl
end Sh

namespace Sh
open Go Go.Proofs
def chkBy (v:V3):Int:=firstE [withE v.x (-2000) 2000,withE v.y (-2000) 2000,withE v.z (-2000) 2000]
theorem chkBy_zero {v:V3} (h:chkBy v=0):bdV 2000 v:=by
 unfold chkBy at h
 obtain ⟨h1,h⟩:=firstE_cons h
 obtain ⟨h2,h⟩:=firstE_cons h
 obtain ⟨h3,h⟩:=firstE_cons h
 exact ⟨withE_zero h1,withE_zero h2,withE_zero h3⟩
theorem c_checkBy (v:V3):PC 121 [encV v,DV.int .i64 (2000)] (DV.int .i64 (chkBy v)):=c_checkParts v 2000 (by omega)
theorem add_w {a b:Int} (h1 : -1000≤a∧a≤1000) (h2 : -2000≤b∧b≤2000):IntKind.i64.wrap (a+b)=a+b:=wrap_in (by omega) (by omega)
def mvE (s:List V3) (d:V3):Int:=firstE [chkShp s,chkBy d]
def mvS (s:List V3) (d:V3):List V3×Int:=if mvE s d≠0 then ([],mvE s d) else movR s d
def mxR (s:List V3) (d:V3) (i:Nat):List DV:=rng s.length fun m=>encV (if m < i then addV (s.getD m V0) d else s.getD m V0)
theorem mxR_zero (s:List V3) (d:V3):mxR s d 0=s.map encV:=by
 refine List.ext_getElem (by unfold mxR;rw [rng_len,List.length_map]) fun i h1 h2=>?_
 rw [List.length_map] at h2
 simp [mxR,rng,List.getD_eq_getElem?_getD,h2]
theorem mxR_all (s:List V3) (d:V3):mxR s d s.length=(movS s d).map encV:=by
 refine List.ext_getElem (by unfold mxR;rw [rng_len,List.length_map,movS_len]) fun i h1 h2=>?_
 rw [List.length_map,movS_len] at h2
 simp [mxR,rng,movS,List.getD_eq_getElem?_getD,h2]
theorem mxR_get (s:List V3) (d:V3) {i:Nat} (h:i < s.length):(mxR s d i).getD i .undef=encV (s.getD i V0):=by
 unfold mxR;rw [rng_getD _ _ h,if_neg (by omega)]
theorem mxR_set (s:List V3) (d:V3) (i:Nat):(mxR s d i).set i (encV (addV (s.getD i V0) d))=mxR s d (i+1):=by
 unfold mxR
 rw [rng_set]
 refine rng_congr fun m _=>?_
 by_cases e:m=i
 ·subst e;rw [if_pos rfl,if_pos (by omega)]
 ·rw [if_neg e]
  by_cases e2:m < i
  ·rw [if_pos e2,if_pos (by omega)]
  ·rw [if_neg e2,if_neg (by omega)]
theorem mxR_len (s:List V3) (d:V3) (i:Nat):(mxR s d i).length=s.length:=rng_len _ _
theorem c_Moved (s:List V3) (d:V3) (hl:s.length < 1073741824):PC 47 [shp s,encV d] (.tuple [shp (mvS s d).1,DV.int .i64 ((mvS s d).2)]):=by
 have e0:((s.map encV).length:Int)=s.length:=by simp
 have k1:=c_CheckShape s hl
 have k2:=c_checkBy d
 have k3:=c_first [chkShp s,chkBy d] (by simp)
 refine pureCall_ofR dh47 rfl ?_
 conv=>whnf
 repeat' (first
  |(refine ⟨fun hg=>?_,fun hg=>?_⟩<;>first|contradiction|(conv=>whnf))
  |(refine Or.inl ?_;conv=>whnf)
  |(refine ⟨_,k1,?_⟩;conv=>whnf)
  |(refine ⟨_,k2,?_⟩;conv=>whnf)
  |(refine ⟨_,k3,?_⟩;conv=>whnf)
  |(refine And.intro ?_ ?_;kernel_rfl;conv=>whnf))
 ·have e:mvS s d=([],mvE s d):=if_pos (of_decide_eq_true hg)
  rw [e];rfl
 ·have hg:=of_decide_eq_false hg
  have e:mvS s d=movR s d:=if_neg hg
  obtain ⟨z1,z2⟩:=firstE_cons (Classical.not_not.1 hg)
  obtain ⟨z2,_⟩:=firstE_cons z2
  have h2:=chkBy_zero z2
  have h1:=chkShp_zero z1
  have h6:=h1.2.1
  clear hg
  refine ⟨⟨by omega,by omega,by omega,rfl,rfl⟩,?_⟩
  conv=>whnf
  refine ⟨⟨by simp,fun e he=>by obtain ⟨v,_,rfl⟩:=List.mem_map.1 he;rfl⟩,?_⟩
  conv=>whnf
  have hrow:List.take 0 (List.replicate ((s.map encV).length:Int).toNat (DV.agg [DV.int .i64 (0),DV.int .i64 (0),DV.int .i64 (0)]))++List.take ((s.map encV).length:Int).toNat (s.map encV)++List.drop (0+min (s.map encV).length ((s.map encV).length:Int).toNat) (List.replicate ((s.map encV).length:Int).toNat (DV.agg [DV.int .i64 (0),DV.int .i64 (0),DV.int .i64 (0)]))=mxR s d 0:=by
   rw [mxR_zero,Int.toNat_natCast,List.take_zero,List.nil_append,List.take_length,Nat.min_self,Nat.zero_add,List.drop_of_length_le (by simp),List.append_nil]
  rw [hrow]
  refine ⟨fun hg=>?_,fun hg=>?_⟩
  ·conv=>whnf
   have hd:d=⟨0,0,0⟩:=by
    have hg:(decide (d.x=0) && (decide (d.y=0) && (decide (d.z=0) && true)))=true:=hg
    simp only [Bool.and_eq_true,decide_eq_true_eq,Bool.and_true] at hg
    exact v3_ext hg.1 hg.2.1 hg.2.2
   have hms:movS s d=s:=by
    subst hd
    unfold movS
    refine (List.map_congr_left fun v _=>?_).trans (List.map_id s)
    exact v3_ext (Int.add_zero _) (Int.add_zero _) (Int.add_zero _)
   have em:movR s d=(movS s d,0):=if_pos ((mov_chk z1 (d:=d)).1 (by rw [hms];exact z1))
   refine ⟨by rw [mxR_len];simp,?_⟩
   rw [mxR_zero,Int.toNat_natCast,window_full,e,em,hms]
   rfl
  ·conv=>whnf
   clear hg hrow
   refine ⟨by rw [mxR_len];simp,?_⟩
   conv=>whnf
   have hN:((s.map encV).length:Int).toNat=(s.map encV).length:=rfl
   refine dwp_loopU (P:=Tryz.prog) (G:=GC) (k:=dk47_0) (b:=db47_0) (α:=Nat) (fun i=>[(30,DV.int .i64 (i))]) (fun i=>[(3,.box 3 (encV d)),(20,.row 3 (mxR s d i) false)]) (fun i=>i≤s.length∧∀ j,j < i→chkCor (addV (s.getD j V0) d)=0) (fun i=>s.length - i) 0 ⟨Nat.zero_le _,fun j hj=>absurd hj (by omega)⟩ ?_
   conv=>whnf
   refine ⟨rfl,rfl,?_⟩
   conv=>whnf
   refine ⟨rfl,?_⟩
   intro i ⟨j1,j2⟩
   conv=>whnf
   refine ⟨fun hb=>?_,fun hb=>?_⟩
   ·have hi:i < s.length:=by have:=of_decide_eq_true hb;rw [e0] at this;omega
    have bv:=h1.at hi
    have w1:=add_w bv.1 h2.1
    have w2:=add_w bv.2.1 h2.2.1
    have w3:=add_w bv.2.2 h2.2.2
    have k4:=c_checkCorner (addV (s.getD i V0) d)
    have hget:(mxR s d i).getD (0+((i:Nat):Int).toNat) .undef=encV (s.getD i V0):=by rw [Int.toNat_natCast,Nat.zero_add];exact mxR_get s d hi
    have hset:(mxR s d i).set (0+((i:Nat):Int).toNat) (bif Nat.beq 0 0 && Nat.beq 3 3 then (.agg [DV.int .i64 ((s.getD i V0).x+d.x),DV.int .i64 ((s.getD i V0).y+d.y),DV.int .i64 ((s.getD i V0).z+d.z)]) else .agg (setCells ((mxR s d i).getD (0+((i:Nat):Int).toNat) .undef).cells 0 (DV.agg [DV.int .i64 ((s.getD i V0).x+d.x),DV.int .i64 ((s.getD i V0).y+d.y),DV.int .i64 ((s.getD i V0).z+d.z)]).cells))=mxR s d (i+1):=by rw [Int.toNat_natCast,Nat.zero_add];exact mxR_set s d i
    have hget2:(mxR s d (i+1)).getD (0+((i:Nat):Int).toNat) .undef=encV (addV (s.getD i V0) d):=by
     rw [Int.toNat_natCast,Nat.zero_add];unfold mxR;rw [rng_getD _ _ hi,if_pos (by omega)]
    have hIdx:((s.map encV).length:Int).toNat=(mxR s d i).length∧0≤(i:Int)∧(i:Int) < (((s.map encV).length:Int).toNat:Int):=⟨by rw [mxR_len];simp,by omega,by rw [hN,List.length_map];omega⟩
    clear hb
    conv=>whnf
    repeat' (first
     |(refine ⟨fun hg=>?_,fun hg=>?_⟩<;>first|contradiction|(conv=>whnf))
     |(refine Or.inl ?_;conv=>whnf)
     |(refine ⟨hIdx,?_⟩;conv=>whnf)
     |(refine ⟨hIdx.1,?_⟩;conv=>whnf)
     |(refine ⟨⟨hIdx.1,by decide⟩,?_⟩;rw [hget];conv=>whnf)
     |(refine And.intro ?_ ?_;kernel_rfl;conv=>whnf))
    rw [w1,w2,w3]
    refine ⟨⟨hIdx.1,by decide,rfl⟩,?_⟩
    conv=>whnf
    refine ⟨by kernel_rfl,?_⟩
    conv=>whnf
    rw [hset]
    have hIdx2:((s.map encV).length:Int).toNat=(mxR s d (i+1)).length∧0≤(i:Int)∧(i:Int) < (((s.map encV).length:Int).toNat:Int):=⟨by rw [mxR_len];simp,hIdx.2⟩
    refine ⟨hIdx2,?_⟩
    conv=>whnf
    rw [hget2]
    refine ⟨⟨hIdx2.1,rfl⟩,?_⟩
    conv=>whnf
    repeat' (first
     |(refine ⟨fun hg=>?_,fun hg=>?_⟩<;>first|contradiction|(conv=>whnf))
     |(refine Or.inl ?_;conv=>whnf)
     |(refine ⟨_,k4,?_⟩;conv=>whnf)
     |(refine And.intro ?_ ?_;kernel_rfl;conv=>whnf))
    ·have hg:chkCor (addV (s.getD i V0) d)≠0:=of_decide_eq_true hg
     have hno:¬ corOk (movS s d)=true:=fun h=>by
      unfold corOk movS at h
      rw [List.all_eq_true] at h
      exact hg (of_decide_eq_true (h _ (List.mem_map_of_mem (getD_in V0 hi))))
     have em:movR s d=([],4):=if_neg hno
     rw [e,em];rfl
    ·have hg:¬ chkCor (addV (s.getD i V0) d)≠0:=of_decide_eq_false hg
     rw [wrap_succ i (by omega)]
     refine ⟨i+1,rfl,rfl,rfl,⟨hi,fun j hj=>?_⟩,by omega⟩
     by_cases ej:j=i
     ·subst ej;exact Classical.not_not.1 hg
     ·exact j2 j (by omega)
   ·have hi:i=s.length:=by have:=of_decide_eq_false hb;rw [e0] at this;omega
    clear hb
    conv=>whnf
    rw [hi]
    have hok:corOk (movS s d)=true:=by
     unfold corOk movS
     rw [List.all_eq_true]
     intro v hv
     obtain ⟨u,hu,rfl⟩:=List.mem_map.1 hv
     obtain ⟨k,hk,rfl⟩:=List.mem_iff_getElem.1 hu
     have:=j2 k (by omega)
     rw [show s.getD k V0=s[k] by simp [List.getD_eq_getElem?_getD,hk]] at this
     exact decide_eq_true this
    have em:movR s d=(movS s d,0):=if_pos hok
    refine ⟨by rw [mxR_len];simp,?_⟩
    rw [mxR_all,e,em,hN,show (s.map encV).length=((movS s d).map encV).length by rw [List.length_map,List.length_map,movS_len],window_full]
    rfl
end Sh

namespace Sh
open Go Go.Proofs
theorem r_SameRatios (l:List (Int×Int)) (hl:l.length < 1073741824):PC 44 [.list (l.map encR),.list (l.map encR)] (.bool true):=by
 have e0:((l.map encR).length:Int)=l.length:=by simp
 refine pureCall_ofR dh44 rfl ?_
 conv=>whnf
 refine ⟨fun hg=>absurd rfl (of_decide_eq_true hg),fun hg=>?_⟩
 clear hg
 conv=>whnf
 refine dwp_loopU (P:=Tryz.prog) (G:=GC) (k:=dk44_0) (b:=db44_0) (α:=Nat) (fun i=>[(5,DV.int .i64 (i))]) (fun _=>[]) (fun i=>i≤l.length) (fun i=>l.length - i) 0 (Nat.zero_le _) ?_
 conv=>whnf
 refine ⟨rfl,rfl,?_⟩
 conv=>whnf
 refine ⟨rfl,?_⟩
 intro i h1
 conv=>whnf
 refine ⟨fun hb=>?_,fun hb=>?_⟩
 ·have hi:i < l.length:=by simpa using hb
  clear hb
  conv=>whnf
  rw [getD_enc _ _ (i) (0,0) hi]
  refine ⟨idxA hi rfl,?_⟩
  conv=>whnf
  repeat' (first
   |(refine ⟨fun hg=>?_,fun hg=>?_⟩<;>first|contradiction|(conv=>whnf))
   |(refine Or.inl ?_;conv=>whnf)
   |(rw [getD_enc _ _ i ((0,0)) hi];refine ⟨idxA hi rfl,?_⟩;conv=>whnf)
   |(refine And.intro ?_ ?_;kernel_rfl;conv=>whnf))
  ·exfalso
   revert hg
   simp
  ·rw [wrap_succ i (by omega)]
   exact ⟨i+1,rfl,rfl,rfl,hi,by omega⟩
 ·clear hb
  conv=>whnf
  rfl
theorem r_SameShape (l:List (V3)) (hl:l.length < 1073741824):PC 54 [.list (l.map encV),.list (l.map encV)] (.bool true):=by
 have e0:((l.map encV).length:Int)=l.length:=by simp
 refine pureCall_ofR dh54 rfl ?_
 conv=>whnf
 refine ⟨fun hg=>absurd rfl (of_decide_eq_true hg),fun hg=>?_⟩
 clear hg
 conv=>whnf
 refine dwp_loopU (P:=Tryz.prog) (G:=GC) (k:=dk54_0) (b:=db54_0) (α:=Nat) (fun i=>[(5,DV.int .i64 (i))]) (fun _=>[]) (fun i=>i≤l.length) (fun i=>l.length - i) 0 (Nat.zero_le _) ?_
 conv=>whnf
 refine ⟨rfl,rfl,?_⟩
 conv=>whnf
 refine ⟨rfl,?_⟩
 intro i h1
 conv=>whnf
 refine ⟨fun hb=>?_,fun hb=>?_⟩
 ·have hi:i < l.length:=by simpa using hb
  clear hb
  conv=>whnf
  rw [getD_enc _ _ (i) V0 hi]
  refine ⟨idxA hi rfl,?_⟩
  conv=>whnf
  repeat' (first
   |(refine ⟨fun hg=>?_,fun hg=>?_⟩<;>first|contradiction|(conv=>whnf))
   |(refine Or.inl ?_;conv=>whnf)
   |(rw [getD_enc _ _ i V0 hi];refine ⟨idxA hi rfl,?_⟩;conv=>whnf)
   |(refine And.intro ?_ ?_;kernel_rfl;conv=>whnf))
  ·exfalso
   revert hg
   simp
  ·rw [wrap_succ i (by omega)]
   exact ⟨i+1,rfl,rfl,rfl,hi,by omega⟩
 ·clear hb
  conv=>whnf
  rfl
theorem r_SameShapes (l:List (List V3)) (hl:l.length < 1073741824) (hs:∀ s ∈ l,s.length < 1073741824):PC 79 [.list (l.map shp),.list (l.map shp)] (.bool true):=by
 have e0:((l.map shp).length:Int)=l.length:=by simp
 refine pureCall_ofR dh79 rfl ?_
 conv=>whnf
 refine ⟨fun hg=>absurd rfl (of_decide_eq_true hg),fun hg=>?_⟩
 clear hg
 conv=>whnf
 refine dwp_loopU (P:=Tryz.prog) (G:=GC) (k:=dk79_0) (b:=db79_0) (α:=Nat) (fun i=>[(5,DV.int .i64 (i))]) (fun _=>[]) (fun i=>i≤l.length) (fun i=>l.length - i) 0 (Nat.zero_le _) ?_
 conv=>whnf
 refine ⟨rfl,rfl,?_⟩
 conv=>whnf
 refine ⟨rfl,?_⟩
 intro i h1
 conv=>whnf
 refine ⟨fun hb=>?_,fun hb=>?_⟩
 ·have hi:i < l.length:=by simpa using hb
  have k1:=r_SameShape _ (hs _ (getD_in [] hi))
  clear hb
  conv=>whnf
  rw [getD_enc _ _ (i) [] hi]
  refine ⟨idxA hi rfl,?_⟩
  conv=>whnf
  repeat' (first
   |(refine ⟨fun hg=>?_,fun hg=>?_⟩<;>first|contradiction|(conv=>whnf))
   |(refine Or.inl ?_;conv=>whnf)
   |(rw [getD_enc _ _ i [] hi];refine ⟨idxA hi rfl,?_⟩;conv=>whnf)
   |(refine ⟨_,k1,?_⟩;conv=>whnf)
   |(refine And.intro ?_ ?_;kernel_rfl;conv=>whnf))
  ·rw [wrap_succ i (by omega)]
   exact ⟨i+1,rfl,rfl,rfl,hi,by omega⟩
 ·clear hb
  conv=>whnf
  rfl
end Sh

namespace Sh
open Go Go.Proofs
def cels (l:List Bx):DV:=.list (l.map encB)
def chkBxs (l:List Bx):Int:=if 16 < (l.length:Int) then 5 else firstE (l.map chkBx)
end Sh

namespace Sh
open Go Go.Proofs
end Sh

namespace Sh
open Go Go.Proofs
theorem c_mapB (l:List (Bx)) (f:FuncId) (g:Bx→Int) (hl:l.length < 1073741824) (hf:∀ c ∈ l,PC f [encB c] (DV.int .i64 (g c))):PC 111 [.list (l.map encB),.func f []] (iL (l.map g)):=by
 have e0:((l.map encB).length:Int)=l.length:=by simp
 refine pureCall_ofR dh111 rfl ?_
 conv=>whnf
 refine dwp_loopU (P:=Tryz.prog) (G:=GC) (k:=dk111_0) (b:=db111_0) (α:=Nat) (fun i=>[(5,.own 5 0 (oI g l i).length (oI g l i).length),(10,DV.int .i64 (i))]) (fun i=>[(5,.row 1 (oI g l i) false)]) (fun i=>i≤l.length) (fun i=>l.length - i) 0 (Nat.zero_le _) ?_
 conv=>whnf
 refine ⟨rfl,rfl,?_⟩
 conv=>whnf
 refine ⟨rfl,?_⟩
 intro i h1
 conv=>whnf
 refine ⟨fun hb=>?_,fun hb=>?_⟩
 ·have hi:i < l.length:=by simpa using hb
  clear hb
  conv=>whnf
  rw [getD_enc _ _ (i) B0 hi]
  refine ⟨idxA hi rfl,?_⟩
  conv=>whnf
  refine .inl ?_
  conv=>whnf
  refine ⟨_,hf _ (getD_in B0 hi),?_⟩
  conv=>whnf
  refine ⟨⟨rfl,rfl,rfl,by rw [oI_len g l i h1];simp;omega,fun e he=>by simp at he;subst he;rfl⟩,?_⟩
  conv=>whnf
  rw [wrap_succ i (by omega)]
  refine ⟨i+1,rfl,?_,?_,hi,by omega⟩
  ·rw [oI_succ g l i B0 hi];rfl
  ·rw [oI_succ g l i B0 hi];rfl
 ·have hi:i=l.length:=by have:=of_decide_eq_false hb;rw [e0] at this;omega
  conv=>whnf
  exact ⟨rfl,by rw [window_full,hi,oI_all];rfl⟩
def shrR (l:List (List V3)) (sun:V3) (c:Bx):Int×Int:=lowR (lightS l sun c) (sizeB c)
theorem light_bd {l:List (List V3)} {sun:V3} {c:Bx} (h:OkB c):0≤lightS l sun c∧lightS l sun c≤4000000:=by
 have:=List.length_filter_le (fun p=>!anyHid l sun p) (spotsL c)
 have:=h.spN
 unfold lightS litL
 omega
theorem OkB.pts {c:Bx} (h:OkB c):((-1000≤c.f.x∧c.f.x≤1000)∧(-1000≤c.f.y∧c.f.y≤1000))∧((-1000≤c.t.x∧c.t.x≤1000)∧(-1000≤c.t.y∧c.t.y≤1000)):=by
 have:=h.x;have:=h.y;have:=h.x0;have:=h.x1;have:=h.y0;have:=h.y1
 omega
theorem c_Shares1 (l:List (List V3)) (sun:V3) (c:Bx) (h8:l.length≤8) (h1:∀ s ∈ l,OkS s) (h2:bdV 1000 sun) (h3:OkB c):PC 113 [encB c,.ip (shps l),.ip (encV sun)] (encR (shrR l sun c)):=by
 have k1:=c_light l sun c h8 h1 h2 h3
 have k2:=c_size c h3.pts.1 h3.pts.2
 have hb:=light_bd (l:=l) (sun:=sun) h3
 have hs:=h3.size
 have k3:=c_lowest (lightS l sun c) (sizeB c) (by unfold GB;omega) (by unfold GB;omega)
 refine pureCall_ofR dh113 rfl ?_
 conv=>whnf
 repeat' (first
  |(refine ⟨fun hg=>?_,fun hg=>?_⟩<;>first|contradiction|(conv=>whnf))
  |(refine Or.inl ?_;conv=>whnf)
  |(refine ⟨_,k1,?_⟩;conv=>whnf)
  |(refine ⟨_,k2,?_⟩;conv=>whnf)
  |(refine ⟨_,k3,?_⟩;conv=>whnf)
  |(refine And.intro ?_ ?_;kernel_rfl;conv=>whnf))
 rfl
def oR {α:Type} (g:α→Int×Int) (l:List α) (i:Nat):List DV:=(l.take i).map fun c=>encR (g c)
theorem oR_len {α:Type} (g:α→Int×Int) (l:List α) (i:Nat) (h:i≤l.length):(oR g l i).length=i:=by simp [oR];omega
theorem oR_succ {α:Type} (g:α→Int×Int) (l:List α) (i:Nat) (d:α) (h:i < l.length):oR g l (i+1)=oR g l i++[encR (g (l.getD i d))]:=take_map_succ _ l i d h
theorem oR_all {α:Type} (g:α→Int×Int) (l:List α):oR g l l.length=(l.map g).map encR:=by unfold oR;rw [List.take_length,List.map_map];rfl
def rats (l:List (Int×Int)):DV:=.list (l.map encR)
theorem c_mapR (l:List Bx) (f:FuncId) (q:List (List V3)) (sun:V3) (g:Bx→Int×Int) (hl:l.length < 1073741824) (hf:∀ v ∈ l,PC f [encB v,.ip (shps q),.ip (encV sun)] (encR (g v))):PC 112 [cels l,.func f [.ip (shps q),.ip (encV sun)]] (rats (l.map g)):=by
 have e0:((l.map encB).length:Int)=l.length:=by simp
 refine pureCall_ofR dh112 rfl ?_
 conv=>whnf
 refine dwp_loopU (P:=Tryz.prog) (G:=GC) (k:=dk112_0) (b:=db112_0) (α:=Nat) (fun i=>[(5,.own 5 0 (oR g l i).length (oR g l i).length),(10,DV.int .i64 (i))]) (fun i=>[(5,.row 2 (oR g l i) false)]) (fun i=>i≤l.length) (fun i=>l.length - i) 0 (Nat.zero_le _) ?_
 conv=>whnf
 refine ⟨rfl,rfl,?_⟩
 conv=>whnf
 refine ⟨rfl,?_⟩
 intro i h1
 conv=>whnf
 refine ⟨fun hb=>?_,fun hb=>?_⟩
 ·have hi:i < l.length:=by simpa using hb
  have k1:=hf _ (getD_in B0 hi)
  have hln:=oR_len g l i h1
  clear hb
  conv=>whnf
  rw [getD_enc _ _ (i) B0 hi]
  refine ⟨idxA hi rfl,?_⟩
  conv=>whnf
  repeat' (first
   |(refine ⟨fun hg=>?_,fun hg=>?_⟩<;>first|contradiction|(conv=>whnf))
   |(refine Or.inl ?_;conv=>whnf)
   |(refine ⟨_,k1,?_⟩;conv=>whnf)
   |(refine ⟨⟨rfl,rfl,rfl,by rw [hln];simp;omega,fun e he=>by simp at he;subst he;rfl⟩,?_⟩;conv=>whnf)
   |(refine And.intro ?_ ?_;kernel_rfl;conv=>whnf))
  rw [wrap_succ i (by omega)]
  refine ⟨i+1,rfl,?_,?_,hi,by omega⟩
  ·rw [oR_succ g l i B0 hi];rfl
  ·rw [oR_succ g l i B0 hi];rfl
 ·have hi:i=l.length:=by have:=of_decide_eq_false hb;rw [e0] at this;omega
  clear hb
  conv=>whnf
  exact ⟨rfl,by rw [window_full,hi,oR_all];rfl⟩
def srE (l:List (List V3)) (sun:V3) (cs:List Bx):Int:=firstE [chkShps l,chkSun sun,chkBxs cs]
def srS (l:List (List V3)) (sun:V3) (cs:List Bx):List (Int×Int)×Int:=if srE l sun cs≠0 then ([],srE l sun cs) else (cs.map (shrR l sun),0)
theorem srE_zero {l:List (List V3)} {sun:V3} {cs:List Bx} (h:srE l sun cs=0):(l.length≤8∧∀ s ∈ l,OkS s)∧bdV 1000 sun∧(cs.length≤16∧∀ c ∈ cs,OkB c):=by
 unfold srE at h
 obtain ⟨h1,h⟩:=firstE_cons h
 obtain ⟨h2,h⟩:=firstE_cons h
 obtain ⟨h3,h⟩:=firstE_cons h
 unfold chkBxs at h3
 split at h3
 ·cases h3
 ·exact ⟨⟨(chkShps_zero h1).1,fun s hs=>chkShp_zero ((chkShps_zero h1).2 s hs)⟩,(chkSun_zero h2).1,by omega,fun c hc=>(chkBx_zero (firstE_mem h3 _ (List.mem_map_of_mem hc))).1⟩
theorem srE_split (l:List (List V3)) (sun:V3) (cs:List Bx):srE l sun cs=if firstE [chkShps l,chkSun sun,whenE (decide (16 < (cs.length:Int))) 5]≠0 then firstE [chkShps l,chkSun sun,whenE (decide (16 < (cs.length:Int))) 5] else firstE (cs.map chkBx):=by
 unfold srE chkBxs whenE
 simp only [firstE]
 by_cases h1:chkShps l=0
 ·by_cases h2:chkSun sun=0
  ·by_cases h3:16 < (cs.length:Int)
   ·simp [h1,h2,h3]
   ·simp [h1,h2,h3]
    intro h;exact h.symm
  ·simp [h1,h2]
 ·simp [h1]
theorem c_Shares (l:List (List V3)) (sun:V3) (cs:List Bx) (hl:l.length < 1073741824) (hs:∀ s ∈ l,s.length < 1073741824) (hc:cs.length < 1073741824):PC 34 [shps l,encV sun,cels cs] (.tuple [rats (srS l sun cs).1,DV.int .i64 ((srS l sun cs).2)]):=by
 have e0:((cs.map encB).length:Int)=cs.length:=by simp
 have k1:=c_checkShapes l hl hs
 have k2:=c_CheckSun sun
 have k3:=c_first [chkShps l,chkSun sun,whenE (decide (16 < (cs.length:Int))) 5] (by simp)
 have k4:=c_mapB cs 42 chkBx hc (fun c _=>c_CheckCell c)
 have k5:=c_first (cs.map chkBx) (by rw [List.length_map];omega)
 have hsp:=srE_split l sun cs
 refine pureCall_ofR dh34 rfl ?_
 conv=>whnf
 repeat' (first
  |(refine ⟨fun hg=>?_,fun hg=>?_⟩<;>first|contradiction|(conv=>whnf))
  |(refine Or.inl ?_;conv=>whnf)
  |(refine ⟨_,k1,?_⟩;conv=>whnf)
  |(refine ⟨_,k2,?_⟩;conv=>whnf)
  |(rw [e0];refine ⟨_,c_when _ _,?_⟩;conv=>whnf)
  |(refine ⟨_,k3,?_⟩;conv=>whnf)
  |(refine ⟨_,k4,?_⟩;conv=>whnf)
  |(refine ⟨_,k5,?_⟩;conv=>whnf)
  |(refine And.intro ?_ ?_;kernel_rfl;conv=>whnf))
 ·have hg:=of_decide_eq_true hg
  rw [if_pos hg] at hsp
  have e:srS l sun cs=([],srE l sun cs):=if_pos (by rw [hsp];exact hg)
  rw [e,hsp];rfl
 ·have hg0:=of_decide_eq_false (show decide (firstE [chkShps l,chkSun sun,whenE (decide (16 < (cs.length:Int))) 5]≠0)=false from ‹_›)
  have hg:=of_decide_eq_true hg
  rw [if_neg hg0] at hsp
  have e:srS l sun cs=([],srE l sun cs):=if_pos (by rw [hsp];exact hg)
  rw [e,hsp];rfl
 ·have hg0:=of_decide_eq_false (show decide (firstE [chkShps l,chkSun sun,whenE (decide (16 < (cs.length:Int))) 5]≠0)=false from ‹_›)
  have hg:=of_decide_eq_false hg
  rw [if_neg hg0] at hsp
  have hz:srE l sun cs=0:=by rw [hsp];exact Classical.not_not.1 hg
  have e:srS l sun cs=(cs.map (shrR l sun),0):=if_neg (fun h=>h hz)
  obtain ⟨⟨h8,h1⟩,h2,h16,h3⟩:=srE_zero hz
  have k6:=c_mapR cs 113 l sun (shrR l sun) hc (fun c hc=>c_Shares1 l sun c h8 h1 h2 (h3 c hc))
  repeat' (first
   |(refine ⟨fun hg=>?_,fun hg=>?_⟩<;>first|contradiction|(conv=>whnf))
   |(refine Or.inl ?_;conv=>whnf)
   |(refine ⟨_,k6,?_⟩;conv=>whnf)
   |(refine And.intro ?_ ?_;kernel_rfl;conv=>whnf))
  rw [e];rfl
end Sh

namespace Sh
open Go Go.Proofs
theorem l_spot (x y:Int):PC 81 [DV.int .i64 (x),DV.int .i64 (y)] (encPt ⟨x,y⟩):=by
 refine pureCall_ofR dh81 rfl ?_
 conv=>whnf
 repeat' (first
  |(refine ⟨fun hg=>?_,fun hg=>?_⟩<;>first|contradiction|(conv=>whnf))
  |(refine Or.inl ?_;conv=>whnf)
  |(refine And.intro ?_ ?_;kernel_rfl;conv=>whnf))
 rfl
theorem l_at (x y z:Int):PC 82 [DV.int .i64 (x),DV.int .i64 (y),DV.int .i64 (z)] (encV ⟨x,y,z⟩):=by
 refine pureCall_ofR dh82 rfl ?_
 conv=>whnf
 repeat' (first
  |(refine ⟨fun hg=>?_,fun hg=>?_⟩<;>first|contradiction|(conv=>whnf))
  |(refine Or.inl ?_;conv=>whnf)
  |(refine And.intro ?_ ?_;kernel_rfl;conv=>whnf))
 rfl
theorem l_ratio (x y:Int):PC 87 [DV.int .i64 (x),DV.int .i64 (y)] (encR (x,y)):=by
 refine pureCall_ofR dh87 rfl ?_
 conv=>whnf
 repeat' (first
  |(refine ⟨fun hg=>?_,fun hg=>?_⟩<;>first|contradiction|(conv=>whnf))
  |(refine Or.inl ?_;conv=>whnf)
  |(refine And.intro ?_ ?_;kernel_rfl;conv=>whnf))
 rfl
def findP (l:List Pt) (p:Pt):Bool:=l.any fun q=>samePt q p
theorem s_Index (l:List Pt) (p:Pt) (hl:l.length < 1073741824):∃ n:Int,PC 155 [pts l,encPt p] (DV.int .i64 (n))∧decide (0≤n)=findP l p:=by
 have e0:((l.map encPt).length:Int)=l.length:=by simp
 cases hf:findP l p with
 |false =>
  refine ⟨-1,?_,rfl⟩
  refine pureCall_ofR dh155 rfl ?_
  conv=>whnf
  refine dwp_loopU (P:=Tryz.prog) (G:=GC) (k:=dk155_0) (b:=db155_0) (α:=Nat) (fun i=>[(8,DV.int .i64 (i))]) (fun _=>[(3,.box 2 (encPt p))]) (fun i=>i≤l.length) (fun i=>l.length - i) 0 (Nat.zero_le _) ?_
  conv=>whnf
  refine ⟨rfl,rfl,?_⟩
  conv=>whnf
  refine ⟨rfl,?_⟩
  intro i h1
  conv=>whnf
  refine ⟨fun hb=>?_,fun hb=>?_⟩
  ·have hi:i < l.length:=by simpa using hb
   have hn:samePt (l.getD i P0) p=false:=by
    unfold findP at hf
    rw [List.any_eq_false] at hf
    simpa using hf _ (getD_in P0 hi)
   clear hb
   conv=>whnf
   repeat' (first
    |(refine ⟨fun hg=>?_,fun hg=>?_⟩<;>first|contradiction|(conv=>whnf))
    |(refine Or.inl ?_;conv=>whnf)
    |(rw [getD_enc _ _ i P0 hi];refine ⟨idxA hi rfl,?_⟩;conv=>whnf)
    |(refine And.intro ?_ ?_;kernel_rfl;conv=>whnf))
   ·exfalso
    have hg:(decide (p.x=(l.getD i P0).x) && (decide (p.y=(l.getD i P0).y) && true))=true:=hg
    simp only [Bool.and_true,Bool.and_eq_true,decide_eq_true_eq] at hg
    unfold samePt at hn
    rw [decide_eq_true hg.1.symm,decide_eq_true hg.2.symm] at hn
    cases hn
   ·rw [wrap_succ i (by omega)]
    exact ⟨i+1,rfl,rfl,rfl,hi,by omega⟩
  ·clear hb
   conv=>whnf
   rfl
 |true =>
  have hex:∃ k,k < l.length∧samePt (l.getD k P0) p=true∧∀ j,j < k→samePt (l.getD j P0) p=false:=by
   clear e0 hl
   unfold findP at hf
   induction l with
   |nil=>cases hf
   |cons a r ih =>
    cases ha:samePt a p with
    |true=>exact ⟨0,by simp,ha,fun j hj=>absurd hj (by omega)⟩
    |false =>
     rw [List.any_cons,ha,Bool.false_or] at hf
     obtain ⟨k,hk,h1,h2⟩:=ih hf
     refine ⟨k+1,by simpa using hk,h1,fun j hj=>?_⟩
     cases j with
     |zero=>exact ha
     |succ j=>exact h2 j (by omega)
  obtain ⟨k,hk,h1,h2⟩:=hex
  refine ⟨(k:Int),?_,decide_eq_true (by omega)⟩
  refine pureCall_ofR dh155 rfl ?_
  conv=>whnf
  refine dwp_loopU (P:=Tryz.prog) (G:=GC) (k:=dk155_0) (b:=db155_0) (α:=Nat) (fun i=>[(8,DV.int .i64 (i))]) (fun _=>[(3,.box 2 (encPt p))]) (fun i=>i≤k) (fun i=>l.length - i) 0 (Nat.zero_le _) ?_
  conv=>whnf
  refine ⟨rfl,rfl,?_⟩
  conv=>whnf
  refine ⟨rfl,?_⟩
  intro i i1
  conv=>whnf
  refine ⟨fun hb=>?_,fun hb=>?_⟩
  ·have hi:i < l.length:=by simpa using hb
   clear hb
   conv=>whnf
   repeat' (first
    |(refine ⟨fun hg=>?_,fun hg=>?_⟩<;>first|contradiction|(conv=>whnf))
    |(refine Or.inl ?_;conv=>whnf)
    |(rw [getD_enc _ _ i P0 hi];refine ⟨idxA hi rfl,?_⟩;conv=>whnf)
    |(refine And.intro ?_ ?_;kernel_rfl;conv=>whnf))
   ·have hg:(decide (p.x=(l.getD i P0).x) && (decide (p.y=(l.getD i P0).y) && true))=true:=hg
    simp only [Bool.and_true,Bool.and_eq_true,decide_eq_true_eq] at hg
    have hik:i=k:=by
     by_cases e:i=k
     ·exact e
     ·have:=h2 i (by omega)
      unfold samePt at this
      rw [decide_eq_true hg.1.symm,decide_eq_true hg.2.symm] at this
      cases this
    subst hik
    rfl
   ·have hg:(decide (p.x=(l.getD i P0).x) && (decide (p.y=(l.getD i P0).y) && true))=false:=hg
    have hik:i≠k:=by
     intro e
     subst e
     unfold samePt at h1
     simp only [Bool.and_eq_true,decide_eq_true_eq] at h1
     rw [decide_eq_true h1.1.symm,decide_eq_true h1.2.symm] at hg
     cases hg
    rw [wrap_succ i (by omega)]
    exact ⟨i+1,rfl,rfl,rfl,by show i+1≤k;omega,by show l.length - (i+1) < l.length - i;omega⟩
  ·have:=of_decide_eq_false hb
   rw [e0] at this
   omega
theorem s_Contains (l:List Pt) (p:Pt) (hl:l.length < 1073741824):PC 133 [pts l,encPt p] (.bool (findP l p)):=by
 obtain ⟨n,k1,hn⟩:=s_Index l p hl
 refine pureCall_ofR dh133 rfl ?_
 conv=>whnf
 repeat' (first
  |(refine ⟨fun hg=>?_,fun hg=>?_⟩<;>first|contradiction|(conv=>whnf))
  |(refine Or.inl ?_;conv=>whnf)
  |(refine ⟨_,k1,?_⟩;conv=>whnf)
  |(refine And.intro ?_ ?_;kernel_rfl;conv=>whnf))
 exact bool_eq hn
end Sh

namespace Sh
open Go Go.Proofs
theorem rng_getDI {m i:Nat} (f:Nat→Int) (h:i < m):(rng m f).getD i 0=f i:=rng_getD f 0 h
theorem win_take {α:Type} (f:α→DV) (l:List α) (i:Nat):window (l.map f) 0 i=(l.take i).map f:=by simp [window,List.map_take]
theorem c_CheckTilts (l:List Pt) (hl:l.length < 1073741824):PC 74 [pts l] (DV.int .i64 (chkTilts l)):=by
 have e0:((l.map encPt).length:Int)=l.length:=by simp
 have k3:=c_first [whenE (decide (((l.map encPt).length:Int)=0)) 12,whenE (decide (16 < ((l.map encPt).length:Int))) 5] (by simp)
 have hS:firstE [whenE (decide (((l.map encPt).length:Int)=0)) 12,whenE (decide (16 < ((l.map encPt).length:Int))) 5]=sizeT_ l:=by rw [e0];rfl
 refine pureCall_ofR dh74 rfl ?_
 conv=>whnf
 repeat' (first
  |(refine ⟨fun hg=>?_,fun hg=>?_⟩<;>first|contradiction|(conv=>whnf))
  |(refine Or.inl ?_;conv=>whnf)
  |(refine ⟨_,c_when ..,?_⟩;conv=>whnf)
  |(refine ⟨_,k3,?_⟩;conv=>whnf)
  |(refine And.intro ?_ ?_;kernel_rfl;conv=>whnf))
 ·have hg:=of_decide_eq_true hg
  rw [hS] at hg ⊢
  exact int_eq (by unfold chkTilts;rw [if_pos hg])
 ·have hg:=of_decide_eq_false hg
  rw [hS] at hg
  have hc:chkTilts l=firstE (rng l.length (tiltI l)):=if_neg hg
  clear hg hS k3
  refine dwp_loopU (P:=Tryz.prog) (G:=GC) (k:=dk74_0) (b:=db74_0) (α:=Nat) (fun i=>[(22,DV.int .i64 (i))]) (fun _=>[]) (fun i=>i≤l.length∧firstE (rng l.length (tiltI l))=firstE ((rng l.length (tiltI l)).drop i)) (fun i=>l.length - i) 0 ⟨Nat.zero_le _,rfl⟩ ?_
  conv=>whnf
  refine ⟨rfl,rfl,?_⟩
  conv=>whnf
  refine ⟨rfl,?_⟩
  intro i ⟨h1,h2⟩
  conv=>whnf
  refine ⟨fun hb=>?_,fun hb=>?_⟩
  ·have hi:i < l.length:=by simpa using hb
   have hd:=firstE_drop (rng l.length (tiltI l)) i (by rw [rng_len];exact hi)
   rw [rng_getDI _ hi] at hd
   have k1:=c_checkTilt (l.getD i P0)
   have k2:=s_Contains (l.take i) (l.getD i P0) (by rw [List.length_take];omega)
   have k4:=c_first [chkTilt (l.getD i P0),whenE (findP (l.take i) (l.getD i P0)) 9] (by simp)
   clear hb
   conv=>whnf
   rw [getD_enc _ _ (i) P0 hi]
   refine ⟨idxA hi rfl,?_⟩
   conv=>whnf
   repeat' (first
    |(refine ⟨fun hg=>?_,fun hg=>?_⟩<;>first|contradiction|(conv=>whnf))
    |(refine Or.inl ?_;conv=>whnf)
    |(refine ⟨_,k1,?_⟩;conv=>whnf)
    |(refine And.intro ?_ ?_;kernel_rfl;conv=>whnf))
   refine ⟨⟨by decide,by omega,by rw [e0];omega,fun e he=>by obtain ⟨v,_,rfl⟩:=List.mem_map.1 he;rfl⟩,?_⟩
   have hwn:window (l.map encPt) (Int.toNat 0) ((i:Int) - 0).toNat=(l.take i).map encPt:=by
    rw [Int.sub_zero,Int.toNat_natCast];exact win_take encPt l i
   rw [hwn]
   conv=>whnf
   repeat' (first
    |(refine ⟨fun hg=>?_,fun hg=>?_⟩<;>first|contradiction|(conv=>whnf))
    |(refine Or.inl ?_;conv=>whnf)
    |(refine ⟨_,k2,?_⟩;conv=>whnf)
    |(refine ⟨_,c_when ..,?_⟩;conv=>whnf)
    |(refine ⟨_,k4,?_⟩;conv=>whnf)
    |(refine And.intro ?_ ?_;kernel_rfl;conv=>whnf))
   ·have hg:tiltI l i≠0:=of_decide_eq_true hg
    rw [if_pos hg] at hd
    exact int_eq (by rw [hc,h2,hd];rfl)
   ·have hg:¬ tiltI l i≠0:=of_decide_eq_false hg
    rw [if_neg hg] at hd
    rw [wrap_succ i (by omega)]
    exact ⟨i+1,rfl,rfl,rfl,⟨hi,h2.trans hd⟩,by omega⟩
  ·have hi:i=l.length:=by have:=of_decide_eq_false hb;rw [e0] at this;omega
   rw [hi,List.drop_of_length_le (by rw [rng_len];exact Nat.le_refl _)] at h2
   clear hb
   conv=>whnf
   exact int_eq (by rw [hc,h2];rfl)
end Sh

namespace Sh
open Go Go.Proofs
end Sh

namespace Sh
open Go Go.Proofs
def rul0 (n:Int):Int:=if n < 0 then 0 else n
end Sh

namespace Sh
open Go Go.Proofs
def trI (l:List Pt) (p:Pt) (v:V3):Int:=if 0 < v.z then ruleS l p v else -1
end Sh

namespace Sh
open Go Go.Proofs
theorem cmp_isNaN (a:Int):PC 173 [DV.int .i64 (a)] (.bool false):=by
 refine pureCall_ofR dh173 rfl ?_
 conv=>whnf
 exact bool_eq (by simp)
theorem cmp_Compare (a b:Int):PC 164 [DV.int .i64 (a),DV.int .i64 (b)] (DV.int .i64 (if a < b then -1 else if b < a then 1 else 0)):=by
 refine pureCall_ofR dh164 rfl ?_
 conv=>whnf
 repeat' (first
  |(refine ⟨fun hg=>?_,fun hg=>?_⟩<;>first|contradiction|(conv=>whnf))
  |(refine Or.inl ?_;conv=>whnf)
  |(refine ⟨_,cmp_isNaN ..,?_⟩;conv=>whnf)
  |(refine And.intro ?_ ?_;kernel_rfl;conv=>whnf))
 all_goals simp only [decide_eq_true_eq,decide_eq_false_iff_not] at hg
 ·exact int_eq (by rw [if_pos hg])
 ·rename_i hq
  have hq:=of_decide_eq_false hq
  exact int_eq (by rw [if_neg hq,if_pos hg])
 ·rename_i hq
  have hq:=of_decide_eq_false hq
  exact int_eq (by rw [if_neg hq,if_neg hg])
theorem c_compare (p q:Pt) (k m a b:Int):PC 153 [encCh p k a,encCh q m b] (DV.int .i64 (if a < b then -1 else if b < a then 1 else 0)):=by
 refine pureCall_ofR dh153 rfl ?_
 conv=>whnf
 repeat' (first
  |(refine ⟨fun hg=>?_,fun hg=>?_⟩<;>first|contradiction|(conv=>whnf))
  |(refine Or.inl ?_;conv=>whnf)
  |(refine ⟨_,cmp_Compare ..,?_⟩;conv=>whnf)
  |(refine And.intro ?_ ?_;kernel_rfl;conv=>whnf))
 rfl
def chD (l:List Pt) (sun:V3) (k:Nat):DV:=encCh (l.getD k P0) k (acr (l.getD k P0) sun)
def mxF (l:List Pt) (sun:V3) (ks:List Nat):Nat→Nat
 |0=>ks.getD 0 0
 |i+1=>if acr (l.getD (mxF l sun ks i) P0) sun < acr (l.getD (ks.getD (i+1) 0) P0) sun then ks.getD (i+1) 0 else mxF l sun ks i
theorem s_MaxFunc (l:List Pt) (sun:V3) (ks:List Nat) (hn:0 < ks.length) (hl:ks.length < 1073741824):PC 154 [.list (ks.map (chD l sun)),.func 153 []] (chD l sun (mxF l sun ks (ks.length - 1))):=by
 have e0:((ks.map (chD l sun)).length:Int)=ks.length:=by simp
 refine pureCall_ofR dh154 rfl ?_
 conv=>whnf
 refine ⟨fun hb=>?_,fun hb=>?_⟩
 ·have:=of_decide_eq_true hb;rw [e0] at this;omega
 clear hb
 conv=>whnf
 rw [getD_enc' _ _ 0 0 (by decide) (by omega)]
 refine ⟨idxB (by decide) (by omega) rfl,?_⟩
 conv=>whnf
 refine dwp_loopU (P:=Tryz.prog) (G:=GC) (k:=dk154_0) (b:=db154_0) (α:=Nat) (fun i=>[(6,DV.int .i64 ((i+1:Nat)))]) (fun i=>[(4,.box 4 (.agg [DV.int .i64 (0),DV.int .i64 (0),DV.int .i64 (0),DV.int .i64 (0)])),(5,.box 4 (chD l sun (mxF l sun ks i)))]) (fun i=>i+1≤ks.length) (fun i=>ks.length - i) 0 hn ?_
 conv=>whnf
 refine ⟨rfl,rfl,?_⟩
 conv=>whnf
 refine ⟨rfl,?_⟩
 intro i h1
 conv=>whnf
 refine ⟨fun hb=>?_,fun hb=>?_⟩
 ·have hi:i+1 < ks.length:=by have:=of_decide_eq_true hb;rw [e0] at this;omega
  have hm:mxF l sun ks (i+1)=if acr (l.getD (mxF l sun ks i) P0) sun < acr (l.getD (ks.getD (i+1) 0) P0) sun then ks.getD (i+1) 0 else mxF l sun ks i:=rfl
  have k1:=c_compare (l.getD (ks.getD (i+1) 0) P0) (l.getD (mxF l sun ks i) P0) (ks.getD (i+1) 0:Nat) (mxF l sun ks i:Nat) (acr (l.getD (ks.getD (i+1) 0) P0) sun) (acr (l.getD (mxF l sun ks i) P0) sun)
  clear hb
  conv=>whnf
  rw [getD_enc _ _ (i+1) 0 hi]
  refine ⟨idxA hi rfl,?_⟩
  conv=>whnf
  repeat' (first
   |(refine ⟨fun hg=>?_,fun hg=>?_⟩<;>first|contradiction|(conv=>whnf))
   |(refine Or.inl ?_;conv=>whnf)
   |(refine ⟨_,k1,?_⟩;conv=>whnf)
   |(rw [getD_enc _ _ (i+1) 0 hi];refine ⟨idxA hi rfl,?_⟩;conv=>whnf)
   |(refine And.intro ?_ ?_;kernel_rfl;conv=>whnf))
  ·have hg:=of_decide_eq_true hg
   have hlt:acr (l.getD (mxF l sun ks i) P0) sun < acr (l.getD (ks.getD (i+1) 0) P0) sun:=by
    split at hg
    ·omega
    ·split at hg
     ·assumption
     ·omega
   rw [if_pos hlt] at hm
   rw [wrap_succ (i+1) (by omega)]
   refine ⟨i+1,rfl,rfl,?_,hi,by omega⟩
   rw [hm];rfl
  ·have hg:=of_decide_eq_false hg
   have hlt:¬ acr (l.getD (mxF l sun ks i) P0) sun < acr (l.getD (ks.getD (i+1) 0) P0) sun:=fun h=>by
    rw [if_neg (by omega),if_pos h] at hg
    omega
   rw [if_neg hlt] at hm
   rw [wrap_succ (i+1) (by omega)]
   refine ⟨i+1,rfl,rfl,?_,hi,by omega⟩
   rw [hm];rfl
 ·have hi:i=ks.length - 1:=by have:=of_decide_eq_false hb;rw [e0] at this;omega
  clear hb
  conv=>whnf
  rw [hi]
  repeat' (first
   |(refine ⟨fun hg=>?_,fun hg=>?_⟩<;>first|contradiction|(conv=>whnf))
   |(refine Or.inl ?_;conv=>whnf)
   |(refine And.intro ?_ ?_;kernel_rfl;conv=>whnf))
  rfl
end Sh

namespace Sh
open Go Go.Proofs
def frL (l:List Pt) (p:Pt) (sun:V3) (i:Nat):List Nat:=(List.range i).filter fun k=>freeB (l.getD k P0) p sun
theorem frL_len (l:List Pt) (p:Pt) (sun:V3) (i:Nat):(frL l p sun i).length≤i:=by
 have:=List.length_filter_le (fun k=>freeB (l.getD k P0) p sun) (List.range i)
 rwa [List.length_range] at this
theorem frL_yes {l:List Pt} {p:Pt} {sun:V3} {i:Nat} (h:freeB (l.getD i P0) p sun=true):frL l p sun (i+1)=frL l p sun i++[i]:=by
 unfold frL;rw [List.range_succ,List.filter_append,List.filter_cons,h];simp
theorem frL_no {l:List Pt} {p:Pt} {sun:V3} {i:Nat} (h:freeB (l.getD i P0) p sun=false):frL l p sun (i+1)=frL l p sun i:=by
 unfold frL;rw [List.range_succ,List.filter_append,List.filter_cons,h];simp
theorem mxF_app (l:List Pt) (sun:V3) (ks:List Nat) (x:Nat):∀ i,i < ks.length→mxF l sun (ks++[x]) i=mxF l sun ks i
 |0,h=>by unfold mxF;simp [List.getD_eq_getElem?_getD,List.getElem?_append,h]
 |i+1,h=>by
  have hx:(ks++[x]).getD (i+1) 0=ks.getD (i+1) 0:=by simp [List.getD_eq_getElem?_getD,List.getElem?_append,h]
  unfold mxF
  rw [mxF_app l sun ks x i (by omega),hx]
theorem rulB_mx (l:List Pt) (p:Pt) (sun:V3):∀ i,rulB l p sun i=if (frL l p sun i).length=0 then (-1:Int) else ((mxF l sun (frL l p sun i) ((frL l p sun i).length - 1):Nat):Int)
 |0=>rfl
 |i+1=>by
  have ih:=rulB_mx l p sun i
  have hr:rulB l p sun (i+1)=if freeB (l.getD i P0) p sun && (decide (rulB l p sun i < 0) || decide (acr (l.getD (rulB l p sun i).toNat P0) sun < acr (l.getD i P0) sun)) then (i:Int) else rulB l p sun i:=rfl
  rw [hr]
  cases hf:freeB (l.getD i P0) p sun with
  |false=>rw [frL_no hf,← ih];rfl
  |true =>
   rw [frL_yes hf]
   generalize frL l p sun i=ks at *
   rw [List.length_append,List.length_singleton,if_neg (show ¬ ks.length+1=0 by omega),Nat.add_sub_cancel]
   by_cases hk:ks.length=0
   ·have:ks=[]:=List.length_eq_zero_iff.1 hk
    subst this
    have ih:rulB l p sun i = -1:=ih
    rw [ih];rfl
   ·rw [if_neg hk] at ih
    obtain ⟨m,hm⟩:∃ m,ks.length=m+1:=⟨ks.length - 1,by omega⟩
    rw [hm,Nat.add_sub_cancel] at ih
    have hx:(ks++[i]).getD (m+1) 0=i:=by simp [List.getD_eq_getElem?_getD,← hm]
    rw [hm]
    unfold mxF
    rw [mxF_app l sun ks i m (by omega),hx,ih,Int.toNat_natCast,decide_eq_false (show ¬ ((mxF l sun ks m:Nat):Int) < 0 by omega),Bool.false_or,Bool.true_and]
    by_cases h:acr (l.getD (mxF l sun ks m) P0) sun < acr (l.getD i P0) sun
    ·rw [decide_eq_true h,if_pos rfl,if_pos h]
    ·rw [decide_eq_false h,if_neg (by decide),if_neg h]
end Sh

namespace Sh
open Go Go.Proofs
def chR (l:List Pt) (p:Pt) (sun:V3) (i:Nat):List DV:=(frL l p sun i).map (chD l sun)
theorem chR_yes {l:List Pt} {p:Pt} {sun:V3} {i:Nat} (h:freeB (l.getD i P0) p sun=true):chR l p sun (i+1)=chR l p sun i++[chD l sun i]:=by unfold chR;rw [frL_yes h,List.map_append];rfl
theorem chR_no {l:List Pt} {p:Pt} {sun:V3} {i:Nat} (h:freeB (l.getD i P0) p sun=false):chR l p sun (i+1)=chR l p sun i:=by unfold chR;rw [frL_no h]
theorem chR_len (l:List Pt) (p:Pt) (sun:V3) (i:Nat):(chR l p sun i).length≤i:=by unfold chR;rw [List.length_map];exact frL_len l p sun i
theorem c_rule (l:List Pt) (p:Pt) (sun:V3) (h0:chkTilts l=0) (hp:OkP p) (hs:bdV 1000 sun):PC 129 [pts l,encPt p,encV sun] (DV.int .i64 (ruleS l p sun)):=by
 have e0:((l.map encPt).length:Int)=l.length:=by simp
 have h16:=(chkTilts_zero h0).2.1
 have hT:∀ q ∈ l,OkP q:=fun q hq=>chkTilt_ok ((chkTilts_zero h0).2.2 q hq)
 have hmx:ruleS l p sun=_:=rulB_mx l p sun l.length
 refine pureCall_ofR dh129 rfl ?_
 conv=>whnf
 refine dwp_loopU (P:=Tryz.prog) (G:=GC) (k:=dk129_0) (b:=db129_0) (α:=Nat) (fun i=>[(7,.own 7 0 (chR l p sun i).length (chR l p sun i).length),(14,DV.int .i64 (i))]) (fun i=>[(4,.box 2 (encPt p)),(5,.box 3 (encV sun)),(7,.row 4 (chR l p sun i) false)]) (fun i=>i≤l.length) (fun i=>l.length - i) 0 (Nat.zero_le _) ?_
 conv=>whnf
 refine ⟨rfl,rfl,?_⟩
 conv=>whnf
 refine ⟨rfl,?_⟩
 intro i j1
 conv=>whnf
 refine ⟨fun hb=>?_,fun hb=>?_⟩
 ·have hi:i < l.length:=by simpa using hb
  have hq:=hT _ (getD_in P0 hi)
  have hln:=chR_len l p sun i
  have k1:=c_chosen _ (i:Int) sun hq hs
  have k2:=c_width (l.getD i P0) (i:Int) _ (acr_bd hq.1 hq.2 hs)
  have k3:=c_room p sun hp hs
  clear hb
  conv=>whnf
  rw [getD_enc _ _ (i) P0 hi]
  refine ⟨idxA hi rfl,?_⟩
  conv=>whnf
  repeat' (first
   |(refine ⟨fun hg=>?_,fun hg=>?_⟩<;>first|contradiction|(conv=>whnf))
   |(refine Or.inl ?_;conv=>whnf)
   |(refine ⟨_,k1,?_⟩;conv=>whnf)
   |(refine ⟨_,k2,?_⟩;conv=>whnf)
   |(refine ⟨_,k3,?_⟩;conv=>whnf)
   |(refine ⟨⟨rfl,rfl,rfl,by simp;omega,fun e he=>by simp at he;subst he;rfl⟩,?_⟩;conv=>whnf)
   |(refine And.intro ?_ ?_;kernel_rfl;conv=>whnf))
  ·have hg:freeB (l.getD i P0) p sun=true:=hg
   rw [wrap_succ i (by omega)]
   refine ⟨i+1,rfl,?_,?_,hi,by omega⟩
   ·rw [chR_yes hg];rfl
   ·rw [chR_yes hg];rfl
  ·have hg:freeB (l.getD i P0) p sun=false:=hg
   rw [wrap_succ i (by omega)]
   refine ⟨i+1,rfl,?_,?_,hi,by omega⟩
   ·rw [chR_no hg];rfl
   ·rw [chR_no hg];rfl
 ·have hi:i=l.length:=by have:=of_decide_eq_false hb;rw [e0] at this;omega
  have hlc:(chR l p sun l.length).length=(frL l p sun l.length).length:=by unfold chR;rw [List.length_map]
  have hfl:=frL_len l p sun l.length
  clear hb
  conv=>whnf
  rw [hi]
  repeat' (first
   |(refine ⟨fun hg=>?_,fun hg=>?_⟩<;>first|contradiction|(conv=>whnf))
   |(refine Or.inl ?_;conv=>whnf)
   |(refine And.intro ?_ ?_;kernel_rfl;conv=>whnf))
  ·have hg:=of_decide_eq_true hg
   rw [hlc] at hg
   exact int_eq (by rw [hmx,if_pos (by omega)])
  ·have hg:=of_decide_eq_false hg
   rw [hlc] at hg
   have kM:=s_MaxFunc l sun (frL l p sun l.length) (by omega) (by omega)
   rw [window_full]
   refine ⟨_,kM,?_⟩
   conv=>whnf
   repeat' (first
    |(refine ⟨fun hg=>?_,fun hg=>?_⟩<;>first|contradiction|(conv=>whnf))
    |(refine Or.inl ?_;conv=>whnf)
    |(refine And.intro ?_ ?_;kernel_rfl;conv=>whnf))
   exact int_eq (by rw [hmx,if_neg (by omega)])
end Sh

namespace Sh
open Go Go.Proofs
def rlE (l:List Pt) (p:Pt) (sun:V3):Int:=firstE [chkTilts l,chkPitch p,chkSun sun]
def rlS (l:List Pt) (p:Pt) (sun:V3):Int×Int:=if rlE l p sun≠0 then (0,rlE l p sun) else (rul0 (ruleS l p sun),if ruleS l p sun < 0 then 7 else 0)
theorem c_Rule (l:List Pt) (p:Pt) (sun:V3) (hl:l.length < 1073741824):PC 65 [pts l,encPt p,encV sun] (.tuple [DV.int .i64 ((rlS l p sun).1),DV.int .i64 ((rlS l p sun).2)]):=by
 have k1:=c_CheckTilts l hl
 have k2:=c_checkPitch p
 have k3:=c_CheckSun sun
 have k4:=c_first [chkTilts l,chkPitch p,chkSun sun] (by simp)
 refine pureCall_ofR dh65 rfl ?_
 conv=>whnf
 repeat' (first
  |(refine ⟨fun hg=>?_,fun hg=>?_⟩<;>first|contradiction|(conv=>whnf))
  |(refine Or.inl ?_;conv=>whnf)
  |(refine ⟨_,k1,?_⟩;conv=>whnf)
  |(refine ⟨_,k2,?_⟩;conv=>whnf)
  |(refine ⟨_,k3,?_⟩;conv=>whnf)
  |(refine ⟨_,k4,?_⟩;conv=>whnf)
  |(refine And.intro ?_ ?_;kernel_rfl;conv=>whnf))
 ·have e:rlS l p sun=(0,rlE l p sun):=if_pos (of_decide_eq_true hg)
  rw [e];rfl
 ·have hg:=of_decide_eq_false hg
  have e:rlS l p sun=(rul0 (ruleS l p sun),if ruleS l p sun < 0 then 7 else 0):=if_neg hg
  obtain ⟨z1,h⟩:=firstE_cons (Classical.not_not.1 hg)
  obtain ⟨z2,h⟩:=firstE_cons h
  obtain ⟨z3,h⟩:=firstE_cons h
  have k5:=c_rule l p sun z1 (chkPitch_ok z2) (chkSun_zero z3).1
  have hbd:=rulB_bd l p sun l.length
  change -1≤ruleS l p sun∧ruleS l p sun < _ at hbd
  clear hg h
  repeat' (first
   |(refine ⟨fun hg=>?_,fun hg=>?_⟩<;>first|contradiction|(conv=>whnf))
   |(refine Or.inl ?_;conv=>whnf)
   |(refine ⟨_,k5,?_⟩;conv=>whnf)
   |(refine And.intro ?_ ?_;kernel_rfl;conv=>whnf))
  ·have hg:ruleS l p sun = -1:=of_decide_eq_true hg
   rw [e,hg];rfl
  ·have hg:¬ ruleS l p sun = -1:=of_decide_eq_false hg
   rw [e]
   unfold rul0
   rw [if_neg (by omega),if_neg (by omega)];rfl
end Sh

namespace Sh
open Go Go.Proofs
def wallL:List V3:=[⟨0,0,0⟩,⟨4,0,0⟩,⟨4,0,4⟩,⟨0,0,4⟩]
theorem l_wall:PC 84 [] (shp wallL):=by
 refine pureCall_ofR dh84 rfl ?_
 conv=>whnf
 repeat' (first
  |(refine ⟨fun hg=>?_,fun hg=>?_⟩<;>first|contradiction|(conv=>whnf))
  |(refine Or.inl ?_;conv=>whnf)
  |(refine ⟨_,l_at ..,?_⟩;conv=>whnf)
  |(refine And.intro ?_ ?_;kernel_rfl;conv=>whnf))
 rfl
def tiltL:List Pt:=[⟨5,0⟩,⟨4,-3⟩,⟨3,-4⟩]
theorem l_tilts:PC 88 [] (pts tiltL):=by
 refine pureCall_ofR dh88 rfl ?_
 conv=>whnf
 repeat' (first
  |(refine ⟨fun hg=>?_,fun hg=>?_⟩<;>first|contradiction|(conv=>whnf))
  |(refine Or.inl ?_;conv=>whnf)
  |(refine ⟨_,l_spot ..,?_⟩;conv=>whnf)
  |(refine And.intro ?_ ?_;kernel_rfl;conv=>whnf))
 rfl
def sqrB:Bx:=⟨⟨0,0⟩,⟨6,6⟩⟩
theorem l_square:PC 85 [] (encB sqrB):=by
 refine pureCall_ofR dh85 rfl ?_
 conv=>whnf
 repeat' (first
  |(refine ⟨fun hg=>?_,fun hg=>?_⟩<;>first|contradiction|(conv=>whnf))
  |(refine Or.inl ?_;conv=>whnf)
  |(refine ⟨_,l_spot ..,?_⟩;conv=>whnf)
  |(refine And.intro ?_ ?_;kernel_rfl;conv=>whnf))
 rfl
end Sh

namespace Sh
open Go Go.Proofs
def inB (l:List Pt) (n:Int):Bool:=decide (n < 0) || decide ((l.length:Int)≤n)
def crE (l:List Pt) (p:Pt) (sun:V3) (n:Int):Int:=firstE [chkTilts l,chkPitch p,chkSun sun,whenE (inB l n) 10]
def crS (l:List Pt) (p:Pt) (sun:V3) (n:Int):Int:=if crE l p sun n≠0 then crE l p sun n else firstE [whenE (!freeB (l.getD n.toNat P0) p sun) 32,whenE (decide (ruleS l p sun≠n)) 19]
theorem c_CheckRule (l:List Pt) (p:Pt) (sun:V3) (n:Int) (hl:l.length < 1073741824):PC 67 [pts l,encPt p,encV sun,DV.int .i64 (n)] (DV.int .i64 (crS l p sun n)):=by
 have e0:((l.map encPt).length:Int)=l.length:=by simp
 have k1:=c_CheckTilts l hl
 have k2:=c_checkPitch p
 have k3:=c_CheckSun sun
 have hB:inB l n=(decide (n < 0) || decide (((l.map encPt).length:Int)≤n)):=by rw [e0];rfl
 have hE:crE l p sun n=firstE [chkTilts l,chkPitch p,chkSun sun,whenE (inB l n) 10]:=rfl
 refine pureCall_ofR dh67 rfl ?_
 conv=>whnf
 repeat' (first
  |(refine ⟨fun hg=>?_,fun hg=>?_⟩<;>first|contradiction|(conv=>whnf))
  |(refine Or.inl ?_;conv=>whnf)
  |(refine ⟨_,k1,?_⟩;conv=>whnf)
  |(refine ⟨_,k2,?_⟩;conv=>whnf)
  |(refine ⟨_,k3,?_⟩;conv=>whnf)
  |(refine ⟨_,c_when ..,?_⟩;conv=>whnf)
  |(refine ⟨_,c_first [_,_,_,_] (by simp),?_⟩;conv=>whnf)
  |(refine And.intro ?_ ?_;kernel_rfl;conv=>whnf))
 ·rw [‹decide (n < 0)=false›,Bool.false_or] at hB
  have hg:=of_decide_eq_true hg
  have hx:crE l p sun n≠0:=by rw [hE,hB];exact hg
  exact int_eq (by unfold crS;rw [if_pos hx,hE,hB];rfl)
 ·have hn:¬ n < 0:=of_decide_eq_false ‹decide (n < 0)=false›
  rw [‹decide (n < 0)=false›,Bool.false_or] at hB
  have hg:=of_decide_eq_false hg
  have hx:¬ crE l p sun n≠0:=by rw [hE,hB];exact hg
  have hz:=Classical.not_not.1 hx
  have hS:crS l p sun n=firstE [whenE (!freeB (l.getD n.toNat P0) p sun) 32,whenE (decide (ruleS l p sun≠n)) 19]:=by unfold crS;rw [if_neg hx]
  rw [hE] at hz
  obtain ⟨z1,h⟩:=firstE_cons hz
  obtain ⟨z2,h⟩:=firstE_cons h
  obtain ⟨z3,h⟩:=firstE_cons h
  obtain ⟨z4,h⟩:=firstE_cons h
  have hlt:=of_decide_eq_false (hB.symm.trans (whenE_zero z4 (by decide)))
  rw [e0] at hlt
  have hm:=getD_in (l:=l) P0 (i:=n.toNat) (by omega)
  have hf0:frE (l.getD n.toNat P0) p sun=0:=by unfold frE;rw [(chkTilts_zero z1).2.2 _ hm,z2,z3];rfl
  have hfs:frS (l.getD n.toNat P0) p sun=(freeB (l.getD n.toNat P0) p sun,0):=if_neg (fun h=>h hf0)
  have k5:=c_Free (l.getD n.toNat P0) p sun
  rw [hfs] at k5
  have k6:=c_rule l p sun z1 (chkPitch_ok z2) (chkSun_zero z3).1
  have k7:=c_first [whenE (!freeB (l.getD n.toNat P0) p sun) 32,whenE (decide (ruleS l p sun≠n)) 19] (by simp)
  clear hg hx h hz
  rw [getD_enc' _ _ n P0 (by omega) (by omega)]
  refine ⟨idxB (by omega) (by omega) rfl,?_⟩
  conv=>whnf
  repeat' (first
   |(refine ⟨fun hg=>?_,fun hg=>?_⟩<;>first|contradiction|(conv=>whnf))
   |(refine Or.inl ?_;conv=>whnf)
   |(refine ⟨_,k5,?_⟩;conv=>whnf)
   |(refine ⟨_,k6,?_⟩;conv=>whnf)
   |(refine ⟨_,c_when ..,?_⟩;conv=>whnf)
   |(refine ⟨_,k7,?_⟩;conv=>whnf)
   |(refine And.intro ?_ ?_;kernel_rfl;conv=>whnf))
  rw [hS];rfl
 all_goals
  have hn:decide (n < 0)=true:=by first|assumption|exact ‹decide (n < 0)=!false›
  rw [hn,Bool.true_or] at hB
 ·have hg:=of_decide_eq_true hg
  have hx:crE l p sun n≠0:=by rw [hE,hB];exact hg
  exact int_eq (by unfold crS;rw [if_pos hx,hE,hB])
 ·exfalso
  have hg:=Classical.not_not.1 (of_decide_eq_false hg)
  obtain ⟨_,h⟩:=firstE_cons hg
  obtain ⟨_,h⟩:=firstE_cons h
  obtain ⟨_,h⟩:=firstE_cons h
  obtain ⟨h,_⟩:=firstE_cons h
  exact absurd h (by decide)
end Sh

namespace Sh
open Go Go.Proofs
def chkTv (v:V3):Int:=firstE [withE v.x (-1000) 1000,withE v.y (-1000) 1000,withE v.z (-1000) 1000]
theorem c_Tracked1 (v:V3):PC 130 [encV v] (DV.int .i64 (chkTv v)):=by
 have k1:=c_checkParts v 1000 (by omega)
 refine pureCall_ofR dh130 rfl ?_
 conv=>whnf
 repeat' (first
  |(refine ⟨fun hg=>?_,fun hg=>?_⟩<;>first|contradiction|(conv=>whnf))
  |(refine Or.inl ?_;conv=>whnf)
  |(refine ⟨_,k1,?_⟩;conv=>whnf)
  |(refine And.intro ?_ ?_;kernel_rfl;conv=>whnf))
 rfl
theorem c_Tracked2 (l:List Pt) (p:Pt) (v:V3) (h0:chkTilts l=0) (hp:OkP p) (hs:bdV 1000 v):PC 132 [encV v,.ip (pts l),.ip (encPt p)] (DV.int .i64 (trI l p v)):=by
 have k1:=c_rule l p v h0 hp hs
 have hv:trI l p v=if 0 < v.z then ruleS l p v else -1:=rfl
 refine pureCall_ofR dh132 rfl ?_
 conv=>whnf
 repeat' (first
  |(refine ⟨fun hg=>?_,fun hg=>?_⟩<;>first|contradiction|(conv=>whnf))
  |(refine Or.inl ?_;conv=>whnf)
  |(refine ⟨_,k1,?_⟩;conv=>whnf)
  |(refine And.intro ?_ ?_;kernel_rfl;conv=>whnf))
 ·have hg:v.z≤0:=of_decide_eq_true hg
  rw [hv,if_neg (by omega)];rfl
 ·have hg:¬ v.z≤0:=of_decide_eq_false hg
  rw [hv,if_pos (by omega)];rfl
theorem c_mapT (vs:List V3) (f:FuncId) (l:List Pt) (p:Pt) (g:V3→Int) (hl:vs.length < 1073741824) (hf:∀ v ∈ vs,PC f [encV v,.ip (pts l),.ip (encPt p)] (DV.int .i64 (g v))):PC 131 [.list (vs.map encV),.func f [.ip (pts l),.ip (encPt p)]] (iL (vs.map g)):=by
 have e0:((vs.map encV).length:Int)=vs.length:=by simp
 refine pureCall_ofR dh131 rfl ?_
 conv=>whnf
 refine dwp_loopU (P:=Tryz.prog) (G:=GC) (k:=dk131_0) (b:=db131_0) (α:=Nat) (fun i=>[(5,.own 5 0 (oI g vs i).length (oI g vs i).length),(10,DV.int .i64 (i))]) (fun i=>[(5,.row 1 (oI g vs i) false)]) (fun i=>i≤vs.length) (fun i=>vs.length - i) 0 (Nat.zero_le _) ?_
 conv=>whnf
 refine ⟨rfl,rfl,?_⟩
 conv=>whnf
 refine ⟨rfl,?_⟩
 intro i h1
 conv=>whnf
 refine ⟨fun hb=>?_,fun hb=>?_⟩
 ·have hi:i < vs.length:=by simpa using hb
  have k1:=hf _ (getD_in V0 hi)
  have hln:=oI_len g vs i h1
  clear hb
  conv=>whnf
  rw [getD_enc _ _ (i) V0 hi]
  refine ⟨idxA hi rfl,?_⟩
  conv=>whnf
  repeat' (first
   |(refine ⟨fun hg=>?_,fun hg=>?_⟩<;>first|contradiction|(conv=>whnf))
   |(refine Or.inl ?_;conv=>whnf)
   |(refine ⟨_,k1,?_⟩;conv=>whnf)
   |(refine ⟨⟨rfl,rfl,rfl,by rw [hln];simp;omega,fun e he=>by simp at he;subst he;rfl⟩,?_⟩;conv=>whnf)
   |(refine And.intro ?_ ?_;kernel_rfl;conv=>whnf))
  rw [wrap_succ i (by omega)]
  refine ⟨i+1,rfl,?_,?_,hi,by omega⟩
  ·rw [oI_succ g vs i V0 hi];rfl
  ·rw [oI_succ g vs i V0 hi];rfl
 ·have hi:i=vs.length:=by have:=of_decide_eq_false hb;rw [e0] at this;omega
  clear hb
  conv=>whnf
  exact ⟨rfl,by rw [window_full,hi,oI_all];rfl⟩
theorem l_low:PC 86 [] (shp [⟨2,0,0⟩,⟨6,0,0⟩,⟨6,0,2⟩,⟨2,0,2⟩]):=by
 refine pureCall_ofR dh86 rfl ?_
 conv=>whnf
 repeat' (first
  |(refine ⟨fun hg=>?_,fun hg=>?_⟩<;>first|contradiction|(conv=>whnf))
  |(refine Or.inl ?_;conv=>whnf)
  |(refine ⟨_,l_at ..,?_⟩;conv=>whnf)
  |(refine And.intro ?_ ?_;kernel_rfl;conv=>whnf))
 rfl
end Sh

namespace Sh
open Go Go.Proofs
theorem chkTv_zero {v:V3} (h:chkTv v=0):bdV 1000 v:=by
 unfold chkTv at h
 obtain ⟨h1,h⟩:=firstE_cons h
 obtain ⟨h2,h⟩:=firstE_cons h
 obtain ⟨h3,h⟩:=firstE_cons h
 exact ⟨withE_zero h1,withE_zero h2,withE_zero h3⟩
def tkE (l:List Pt) (p:Pt) (vs:List V3):Int:=firstE [chkTilts l,chkPitch p,whenE (decide ((vs.length:Int)=0)) 12,whenE (decide (64 < (vs.length:Int))) 5]
def tkS (l:List Pt) (p:Pt) (vs:List V3):List Int×Int:=if tkE l p vs≠0 then ([],tkE l p vs) else if firstE (vs.map chkTv)≠0 then ([],firstE (vs.map chkTv)) else (vs.map (trI l p),0)
theorem c_Tracked (l:List Pt) (p:Pt) (vs:List V3) (hl:l.length < 1073741824) (hv:vs.length < 1073741824):PC 68 [pts l,encPt p,.list (vs.map encV)] (.tuple [iL (tkS l p vs).1,DV.int .i64 ((tkS l p vs).2)]):=by
 have e0:((vs.map encV).length:Int)=vs.length:=by simp
 have k1:=c_CheckTilts l hl
 have k2:=c_checkPitch p
 have hE:firstE [chkTilts l,chkPitch p,whenE (decide (((vs.map encV).length:Int)=0)) 12,whenE (decide (64 < ((vs.map encV).length:Int))) 5]=tkE l p vs:=by rw [e0];rfl
 have k3:=c_first [chkTilts l,chkPitch p,whenE (decide (((vs.map encV).length:Int)=0)) 12,whenE (decide (64 < ((vs.map encV).length:Int))) 5] (by simp)
 have k4:=c_mapV vs 130 chkTv hv (fun v _=>c_Tracked1 v)
 have k5:=c_first (vs.map chkTv) (by rw [List.length_map];omega)
 rw [hE] at k3
 refine pureCall_ofR dh68 rfl ?_
 conv=>whnf
 repeat' (first
  |(refine ⟨fun hg=>?_,fun hg=>?_⟩<;>first|contradiction|(conv=>whnf))
  |(refine Or.inl ?_;conv=>whnf)
  |(refine ⟨_,k1,?_⟩;conv=>whnf)
  |(refine ⟨_,k2,?_⟩;conv=>whnf)
  |(refine ⟨_,c_when ..,?_⟩;conv=>whnf)
  |(refine ⟨_,k3,?_⟩;conv=>whnf)
  |(refine ⟨_,k4,?_⟩;conv=>whnf)
  |(refine ⟨_,k5,?_⟩;conv=>whnf)
  |(refine And.intro ?_ ?_;kernel_rfl;conv=>whnf))
 ·have hg:=of_decide_eq_true hg
  have e:tkS l p vs=([],tkE l p vs):=if_pos hg
  rw [e];rfl
 ·have hg0:=of_decide_eq_false (show decide (tkE l p vs≠0)=false from ‹_›)
  have hg:=of_decide_eq_true hg
  have e:tkS l p vs=([],firstE (vs.map chkTv)):=(if_neg hg0).trans (if_pos hg)
  rw [e];rfl
 ·have hg0:=of_decide_eq_false (show decide (tkE l p vs≠0)=false from ‹_›)
  have hg:=of_decide_eq_false hg
  have e:tkS l p vs=(vs.map (trI l p),0):=(if_neg hg0).trans (if_neg hg)
  have hz:=Classical.not_not.1 hg0
  unfold tkE at hz
  obtain ⟨z1,h⟩:=firstE_cons hz
  obtain ⟨z2,h⟩:=firstE_cons h
  have k6:=c_mapT vs 132 l p (trI l p) hv (fun v hm=>c_Tracked2 l p v z1 (chkPitch_ok z2) (chkTv_zero (firstE_mem (Classical.not_not.1 hg) _ (List.mem_map_of_mem hm))))
  repeat' (first
   |(refine ⟨fun hg=>?_,fun hg=>?_⟩<;>first|contradiction|(conv=>whnf))
   |(refine Or.inl ?_;conv=>whnf)
   |(refine ⟨_,k6,?_⟩;conv=>whnf)
   |(refine And.intro ?_ ?_;kernel_rfl;conv=>whnf))
  rw [e];rfl
end Sh

namespace Sh
open Go
def sgnS (s:List UInt8):Int×Bool:=if s.getD 0 0=45 then (0 - (digS (s.drop 1)).1,(digS (s.drop 1)).2 && decide (0 < (digS (s.drop 1)).1)) else digS s
theorem valD_ge:∀ (s:List UInt8) (n:Int),s.all isD=true→0≤n→n≤valD s n
 |[],n,_,_=>Int.le_refl _
 |c :: r,n,h,h0=>by
  rw [List.all_cons,Bool.and_eq_true] at h
  have hc:=(isD_iff c).1 h.1
  have:=valD_ge r (10 * n+((c.toNat:Int) - 48)) h.2 (by omega)
  show n≤valD r _
  omega
theorem valD_pos {s:List UInt8} (h:s.all isD=true) (h0:s≠[]) (h48:s.getD 0 0≠48):0 < valD s 0:=by
 cases s with
 |nil=>exact absurd rfl h0
 |cons c r =>
  rw [List.all_cons,Bool.and_eq_true] at h
  have hc:=(isD_iff c).1 h.1
  have hne:c≠48:=h48
  have hcn:c.toNat≠48:=fun e=>hne (UInt8.toNat_inj.1 e)
  have:=valD_ge r (10 * 0+((c.toNat:Int) - 48)) h.2 (by omega)
  show 0 < valD r _
  omega
theorem digS_true {s:List UInt8} (h:(digS s).2=true):s.all isD=true∧s≠[]∧s.length≤9∧(s.length=1∨s.getD 0 0≠48)∧(digS s).1=valD s 0:=by
 unfold digS at h ⊢
 cases hb:badD s with
 |true=>rw [hb] at h;exact absurd h (by simp)
 |false =>
  cases ha:s.all isD with
  |false=>rw [hb,ha] at h;exact absurd h (by simp)
  |true =>
   unfold badD at hb
   rw [Bool.or_eq_false_iff,Bool.or_eq_false_iff,decide_eq_false_iff_not,decide_eq_false_iff_not,Bool.and_eq_false_iff,decide_eq_false_iff_not,decide_eq_false_iff_not] at hb
   have h0:=List.length_pos_iff.2 hb.1.1
   refine ⟨rfl,hb.1.1,by omega,?_,rfl⟩
   rcases hb.2 with h1|h1
   ·left;omega
   ·exact .inr h1
def nmS (b:List UInt8) (m:Bool):Int×Bool:=if b.all isD && decide (b.length≤9) && decide (b≠[]) && !(decide (b.getD 0 0=48) && (decide (1 < b.length) || m)) then (if m then -(valD b 0) else valD b 0,true) else (0,false)
theorem nmS_dig (b:List UInt8):nmS b false=digS b:=by
 unfold nmS digS badD
 have h0:b=[] ↔ b.length=0:=List.length_eq_zero_iff.symm
 have e0:decide (b=[])=decide (b.length=0):=by simp only [h0]
 have e00:decide (b≠[])=!decide (b.length=0):=by simp only [ne_eq,h0,decide_not]
 have e9:decide (9 < b.length)=!decide (b.length≤9):=by rw [← decide_not];congr 1;apply propext;omega
 rw [e0,e00,e9]
 generalize b.all isD=A
 generalize decide (b.getD 0 0=48)=Z
 generalize decide (b.length≤9)=N
 generalize decide (b.length=0)=E
 generalize decide (1 < b.length)=O
 cases A<;>cases Z<;>cases N<;>cases E<;>cases O<;>rfl
theorem valD_zero {b:List UInt8} (h:b.all isD=true) (h0:b.length=1) (h48:b.getD 0 0=48):valD b 0=0:=by
 obtain ⟨c,rfl⟩:=List.length_eq_one_iff.1 h0
 have:c=48:=h48
 subst this;rfl
theorem nmS_neg (b:List UInt8):nmS b true=(0 - (digS b).1,(digS b).2 && decide (0 < (digS b).1)):=by
 cases hd:(digS b).2 with
 |false =>
  have h1:(digS b).1=0:=by
   unfold digS at hd ⊢
   split
   ·rfl
   ·rename_i h1;rw [if_neg h1] at hd;cases hd
  have hn:(nmS b false).2=false:=by rw [nmS_dig];exact hd
  have:nmS b true=(0,false):=by
   unfold nmS at hn ⊢
   rw [if_neg]
   intro h
   rw [if_pos] at hn
   ·cases hn
   ·revert h
    generalize b.all isD=A
    generalize decide (b.getD 0 0=48)=Z
    generalize decide (b.length≤9)=N
    generalize decide (b≠[])=E
    generalize decide (1 < b.length)=O
    cases A<;>cases Z<;>cases N<;>cases E<;>cases O<;>simp
  rw [this,h1];rfl
 |true =>
  obtain ⟨h1,h2,h3,h4,h5⟩:=digS_true hd
  have hl:=List.length_pos_iff.2 h2
  rw [h5]
  unfold nmS
  rw [h1,decide_eq_true h3,decide_eq_true h2]
  by_cases h48:b.getD 0 0=48
  ·have hl1:b.length=1:=by rcases h4 with h|h;exact h;exact absurd h48 h
   rw [valD_zero h1 hl1 h48,decide_eq_true h48]
   simp
  ·have:=valD_pos h1 h2 h48
   rw [decide_eq_false h48,decide_eq_true this]
   simp
theorem sgn_nm (s:List UInt8):sgnS s=nmS (Lib.trimPrefix s [45]) (Lib.hasPrefix s [45]):=by
 cases s with
 |nil =>
  show digS []=_
  rw [show Lib.hasPrefix ([]:List UInt8) [45]=false from rfl,nmS_dig];rfl
 |cons c r =>
  by_cases h:c=45
  ·subst h
   have e1:Lib.hasPrefix (45 :: r) [45]=true:=by simp [Lib.hasPrefix,List.isPrefixOf]
   have e2:Lib.trimPrefix (45 :: r) [45]=r:=by unfold Lib.trimPrefix;rw [e1];rfl
   rw [e1,e2,nmS_neg]
   unfold sgnS
   rw [if_pos (show (45 :: r).getD 0 0=45 from rfl)];rfl
  ·have e1:Lib.hasPrefix (c :: r) [45]=false:=by
    have:((45:UInt8) == c)=false:=beq_eq_false_iff_ne.2 (fun e=>h e.symm)
    simp [Lib.hasPrefix,List.isPrefixOf,this]
    try exact fun e=>h e.symm
   have e2:Lib.trimPrefix (c :: r) [45]=c :: r:=by unfold Lib.trimPrefix;rw [e1];rfl
   rw [e1,e2,nmS_dig]
   unfold sgnS
   rw [if_neg (by exact h)]
theorem trimP_len (s p:List UInt8):(Lib.trimPrefix s p).length≤s.length:=by
 unfold Lib.trimPrefix;split<;>simp
end Sh

namespace Sh
open Go Go.Proofs
theorem all_take {α:Type} (p:α→Bool) (l:List α) (i:Nat) (d:α) (hi:i < l.length) (h:(l.take i).all p=true) (h2:p (l.getD i d)=true):(l.take (i+1)).all p=true:=by
 rw [take_snoc l i d hi,List.all_append,h,List.all_cons,h2];rfl
end Sh

namespace Sh
open Go
def shpB:List UInt8:=[115,104,97,112,101]
def numsV (s:List V3):List Int:=s.flatMap fun v=>[v.x,v.y,v.z]
def linB (s:List V3):List UInt8:=shpB++wn (numsV s)
def prtH (l:List (List V3)):List UInt8:=l.flatMap fun s=>linB s++[10]
def prtS (l:List (List V3)):List UInt8×Int:=if chkShps l≠0 then ([],chkShps l) else (prtH l,0)
def numsW (w:List (List UInt8)):List Int:=(w.drop 1).map fun x=>(sgnS x).1
def badW (w:List (List UInt8)):Bool:=!(decide (w.getD 0 []=shpB) && decide (w.length % 3=1))
def wrongW (w:List (List UInt8)):Bool:=badW w || !((w.drop 1).all fun x=>(sgnS x).2)
def vecs:List Int→List V3
 |x :: y :: z :: r=>⟨x,y,z⟩ :: vecs r
 |_=>[]
def shpW (w:List (List UInt8)):List V3:=vecs (numsW w)
def parE (rows:List (List UInt8)):Nat→Nat→Option Nat
 |0,_=>none
 |n+1,i=>if wrongW (splitC 32 (rows.getD i [])) then some i else parE rows n (i+1)
def outW (rows:List (List UInt8)) (m:Nat):List (List V3):=(rows.take m).map fun r=>shpW (splitC 32 r)
def parS (s:List UInt8):List (List V3)×Int×Int :=
 if 4096 < s.length then ([],0,26) else
 match parE (splitC 10 s) ((splitC 10 s).length - 1) 0 with
 |some i=>([],(i:Int),25)
 |none=>if (splitC 10 s).getD ((splitC 10 s).length - 1) []≠[] then ([],((splitC 10 s).length - 1:Nat),25)
  else if chkShps (outW (splitC 10 s) ((splitC 10 s).length - 1))≠0 then ([],((splitC 10 s).length - 1:Nat),chkShps (outW (splitC 10 s) ((splitC 10 s).length - 1)))
  else (outW (splitC 10 s) ((splitC 10 s).length - 1),0,0)
theorem numsV_len (s:List V3):(numsV s).length=3 * s.length:=by
 induction s with
 |nil=>rfl
 |cons a r ih=>unfold numsV at *;rw [List.flatMap_cons,List.length_append,ih];simp;omega
theorem vecs_len:∀ l:List Int,(vecs l).length=l.length / 3
 |[]=>rfl
 |[x]=>by simp [vecs]
 |[x,y]=>by simp [vecs]
 |x :: y :: z :: r=>by
  have:=vecs_len r
  simp only [vecs,List.length_cons,this];omega
theorem chkShps_oks {l:List (List V3)} (h:chkShps l=0):l.length≤8∧(∀ s ∈ l,OkS s)∧∀ s ∈ l,chkShp s=0 :=
 ⟨(chkShps_zero h).1,fun s hs=>chkShp_zero ((chkShps_zero h).2 s hs),(chkShps_zero h).2⟩
theorem numsV_bd {s:List V3} (h:OkS s):∀ n ∈ numsV s,-1000≤n∧n≤1000:=by
 intro n hn
 obtain ⟨v,hv,hn⟩:=List.mem_flatMap.1 hn
 obtain ⟨⟨h1,h2,h3⟩,_⟩:=h.2.2 v hv
 simp only [List.mem_cons,List.not_mem_nil,or_false] at hn
 rcases hn with rfl|rfl|rfl
 ·exact h1
 ·exact h2
 ·exact h3
theorem linB_len {s:List V3} (h:OkS s):(linB s).length≤401:=by
 have h1:∀ ns:List Int,(∀ n ∈ ns,-1000≤n∧n≤1000)→(wn ns).length≤ns.length * 22:=by
  intro ns
  induction ns with
  |nil=>intro _;rw [wn_nil];simp
  |cons n r ih =>
   intro hh
   have i1:=ih (fun m hm=>hh m (List.mem_cons_of_mem _ hm))
   have i2:=hh n (List.mem_cons_self ..)
   have i3:=Lib.itoa_length_le n (by omega) (by omega)
   rw [wn_cons]
   simp only [List.length_cons,List.length_append]
   omega
 have h2:=h1 _ (numsV_bd h)
 rw [numsV_len] at h2
 have:=h.2.1
 unfold linB
 rw [List.length_append]
 have e5:shpB.length=5:=rfl
 omega
theorem prtH_len {l:List (List V3)} (h8:l.length≤8) (h:∀ s ∈ l,OkS s):(prtH l).length≤402 * l.length:=by
 clear h8
 induction l with
 |nil=>exact Nat.le_refl _
 |cons s r ih =>
  have i1:=ih (fun t ht=>h t (List.mem_cons_of_mem _ ht))
  have i2:=linB_len (h s (List.mem_cons_self ..))
  unfold prtH at *
  rw [List.flatMap_cons,List.length_append,List.length_append,List.length_cons]
  simp only [List.length_cons,List.length_nil]
  omega
def numT:List (List UInt8)→Int
 |[]=>0
 |w :: _=>(sgnS w).1
def wrT (wr:Bool):List (List UInt8)→Bool
 |[]=>true
 |w :: _=>bif wr then true else !(sgnS w).2
def wrK (D:List (List UInt8)):Nat→Bool
 |0=>false
 |k+1=>wrT (wrK D k) (D.drop k)
def numK (D:List (List UInt8)) (k:Nat):Int:=numT (D.drop k)
theorem wrK_false:∀ {D:List (List UInt8)} {k:Nat},wrK D k=false ↔ k≤D.length∧(D.take k).all (fun x=>(sgnS x).2)=true
 |D,0=>by simp [wrK]
 |D,k+1=>by
  have ih:=wrK_false (D:=D) (k:=k)
  by_cases hk:k < D.length
  ·have hd:=drop_getD D k [] hk
   have e1:wrK D (k+1)=(bif wrK D k then true else !(sgnS (D.getD k [])).2):=by rw [wrK,hd];rfl
   have e2:(D.take (k+1)).all (fun x=>(sgnS x).2)=((D.take k).all (fun x=>(sgnS x).2) && (sgnS (D.getD k [])).2):=by
    rw [take_snoc D k [] hk,List.all_append];simp [List.all]
   rw [e1,e2]
   cases hw:wrK D k with
   |true =>
    refine ⟨fun h=>Bool.noConfusion h,fun h=>?_⟩
    rw [Bool.and_eq_true] at h
    have:=ih.2 ⟨by omega,h.2.1⟩
    rw [hw] at this;cases this
   |false =>
    have h1:=ih.1 hw
    rw [h1.2]
    cases (sgnS (D.getD k [])).2<;>simp<;>omega
  ·refine ⟨fun h=>?_,fun h=>by omega⟩
   have:D.drop k=[]:=List.drop_eq_nil_iff.2 (by omega)
   rw [wrK,this] at h;cases h
def vcK (D:List (List UInt8)) (j:Nat):List V3:=rng j fun t=>⟨numK D (3 * t),numK D (3 * t+1),numK D (3 * t+2)⟩
theorem vcK_succ (D:List (List UInt8)) (j:Nat):vcK D (j+1)=vcK D j++[⟨numK D (3 * j),numK D (3 * j+1),numK D (3 * j+2)⟩]:=rng_succ _ _
theorem vcK_len (D:List (List UInt8)) (j:Nat):(vcK D j).length=j:=rng_len _ _
theorem numK_get {D:List (List UInt8)} {k:Nat} (hk:k < D.length):numK D k=(sgnS (D.getD k [])).1:=by
 unfold numK
 rw [drop_getD D k [] hk];rfl
theorem vecs_rng:∀ (j:Nat) (f:Nat→Int),vecs (rng (3 * j) f)=rng j fun t=>⟨f (3 * t),f (3 * t+1),f (3 * t+2)⟩
 |0,f=>rfl
 |j+1,f=>by
  have e1:rng (3 * (j+1)) f=f 0 :: f 1 :: f 2 :: rng (3 * j) (fun t=>f (t+3)):=by
   unfold rng
   rw [show 3 * (j+1)=3 * j+1+1+1 by omega,List.range_succ_eq_map,List.range_succ_eq_map,List.range_succ_eq_map]
   simp [Function.comp_def]
  have e2:rng (j+1) (fun t=>(⟨f (3 * t),f (3 * t+1),f (3 * t+2)⟩:V3))=⟨f 0,f 1,f 2⟩ :: rng j (fun t=>⟨f (3 * t+3),f (3 * t+1+3),f (3 * t+2+3)⟩):=by
   unfold rng
   rw [List.range_succ_eq_map,List.map_cons,List.map_map]
   congr 1
  rw [e1,e2]
  simp only [vecs]
  rw [vecs_rng j (fun t=>f (t+3))]
theorem shp_read (w:List (List UInt8)) (j:Nat) (h1:(w.drop 1).length≤3 * j) (h2:wrK (w.drop 1) (3 * j)=false):shpW w=vcK (w.drop 1) j:=by
 obtain ⟨h3,h4⟩:=wrK_false.1 h2
 have hl:(w.drop 1).length=3 * j:=by omega
 have hnum:numsW w=rng (3 * j) (numK (w.drop 1)):=by
  show (w.drop 1).map (fun x=>(sgnS x).1)=(List.range (3 * j)).map (numK (w.drop 1))
  apply List.ext_getElem
  ·rw [List.length_map,List.length_map,List.length_range];exact hl
  ·intro i i1 i2
   have hi:i < (w.drop 1).length:=by rw [List.length_map] at i1;exact i1
   rw [List.getElem_map,List.getElem_map,List.getElem_range,numK_get hi,List.getD_eq_getElem?_getD,List.getElem?_eq_getElem hi]
   rfl
 unfold shpW
 rw [hnum,vecs_rng]
 rfl
theorem wrong_read (w:List (List UInt8)) (j:Nat) (h1:(w.drop 1).length≤3 * j) (h0:j=0∨3 * j < (w.drop 1).length+3) (hw0:1≤w.length):wrongW w=(decide (w.getD 0 []≠shpB) || wrK (w.drop 1) (3 * j)):=by
 unfold wrongW badW
 have hl:(w.drop 1).length=w.length - 1:=List.length_drop ..
 rw [Bool.not_and,← decide_not,← decide_not]
 cases hw:wrK (w.drop 1) (3 * j) with
 |false =>
  obtain ⟨h3,h4⟩:=wrK_false.1 hw
  rw [List.take_of_length_le (by omega)] at h4
  rw [h4,decide_eq_false (show ¬ ¬ w.length % 3=1 by omega)]
  simp
 |true =>
  rw [Bool.or_true]
  by_cases h6:w.length % 3=1
  ·have h7:(w.drop 1).all (fun x=>(sgnS x).2)=false:=by
    cases h8:(w.drop 1).all (fun x=>(sgnS x).2) with
    |false=>rfl
    |true =>
     have:=(wrK_false (D:=w.drop 1) (k:=3 * j)).2 ⟨by omega,by rw [List.take_of_length_le (by omega)];exact h8⟩
     rw [hw] at this;cases this
   rw [h7];simp
  ·rw [decide_eq_true h6];simp
end Sh

namespace Sh
open Go Go.Proofs
theorem numsV_take (s:List V3) (k:Nat) (h:k < s.length):numsV (s.take (k+1))=numsV (s.take k)++[(s.getD k V0).x,(s.getD k V0).y,(s.getD k V0).z]:=by
 unfold numsV;rw [take_snoc s k V0 h,List.flatMap_append];rfl
theorem prtH_succ (l:List (List V3)) (i:Nat) (h:i < l.length):prtH (l.take (i+1))=prtH (l.take i)++(linB (l.getD i [])++[10]):=by
 unfold prtH;rw [take_snoc l i [] h,List.flatMap_append];simp
theorem wn_lenB:∀ {ns:List Int},(∀ n ∈ ns,-1000≤n∧n≤1000)→(wn ns).length≤ns.length * 22
 |[],_=>by rw [wn_nil];simp
 |n :: r,hh=>by
  have i1:=wn_lenB (ns:=r) (fun m hm=>hh m (List.mem_cons_of_mem _ hm))
  have i2:=hh n (List.mem_cons_self ..)
  have i3:=Lib.itoa_length_le n (by omega) (by omega)
  rw [wn_cons]
  simp only [List.length_cons,List.length_append]
  omega
theorem okS_take {s:List V3} (h:OkS s) (k:Nat):(numsV (s.take k)).length≤18∧(wn (numsV (s.take k))).length≤396:=by
 have hl:=h.2.1
 have h1:(numsV (s.take k)).length≤18:=by rw [numsV_len,List.length_take];omega
 have h2:=wn_lenB (ns:=numsV (s.take k)) (fun n hn=>numsV_bd h n (by
  obtain ⟨v,hv,hn⟩:=List.mem_flatMap.1 hn
  exact List.mem_flatMap.2 ⟨v,List.mem_of_mem_take hv,hn⟩))
 exact ⟨h1,by omega⟩
end Sh

namespace Sh
open Go Go.Proofs
def strs (l:List (List UInt8)):DV:=.list (l.map DV.str)
theorem parE_step (rows:List (List UInt8)) (n i:Nat) (hi:i < n) (h:wrongW (splitC 32 (rows.getD i []))=false):parE rows (n - i) i=parE rows (n - (i+1)) (i+1):=by
 rw [show n - i=(n - (i+1))+1 by omega,parE,h];rfl
theorem parE_at (rows:List (List UInt8)) (n i:Nat) (hi:i < n) (h:wrongW (splitC 32 (rows.getD i []))=true):parE rows (n - i) i=some i:=by
 rw [show n - i=(n - (i+1))+1 by omega,parE,h];rfl
theorem outW_succ (rows:List (List UInt8)) (i:Nat) (h:i < rows.length):outW rows (i+1)=outW rows i++[shpW (splitC 32 (rows.getD i []))]:=take_map_succ _ _ _ _ h
theorem outW_len (rows:List (List UInt8)) (i:Nat) (h:i≤rows.length):(outW rows i).length=i:=by unfold outW;simp;omega
theorem all_no {α:Type} {f:α→Bool} {l:List α} {j:Nat} (d:α) (h:j < l.length) (hf:f (l.getD j d)=false):l.all f=false:=by
 rw [List.all_eq_false]
 exact ⟨_,getD_in d h,by rw [hf];exact Bool.false_ne_true⟩
def nd (w:List (List UInt8)) (j:Nat):List DV:=((numsW w).take j).map (DV.int .i64)
theorem numsW_len (w:List (List UInt8)):(numsW w).length=w.length - 1:=by simp [numsW]
theorem shpW_tb (w:List (List UInt8)):(shpW w).length≤w.length:=by
 unfold shpW;rw [vecs_len,numsW_len];omega
theorem outW_tb (rows:List (List UInt8)) (m n:Nat) (h:∀ r ∈ rows,r.length≤n):∀ c ∈ outW rows m,c.length≤n+1:=by
 intro c hc
 obtain ⟨r,hr,rfl⟩:=List.mem_map.1 hc
 have h1:=shpW_tb (splitC 32 r)
 have h2:=(splitC_len 32 r).1
 have h3:=h r (List.mem_of_mem_take hr)
 omega
theorem parS_bad {s:List UInt8} {rows:List (List UInt8)} {m i:Nat} (h:¬ 4096 < s.length) (hr:splitC 10 s=rows) (hm:rows.length=m+1) (he:parE rows m 0=some i):parS s=([],(i:Int),25):=by
 unfold parS
 rw [if_neg h,hr,hm,Nat.add_sub_cancel,he]
theorem parS_ok {s:List UInt8} {rows:List (List UInt8)} {m:Nat} (h:¬ 4096 < s.length) (hr:splitC 10 s=rows) (hm:rows.length=m+1) (he:parE rows m 0=none) :
  parS s=if rows.getD m []≠[] then ([],(m:Int),25) else if chkShps (outW rows m)≠0 then ([],(m:Int),chkShps (outW rows m)) else (outW rows m,0,0):=by
 unfold parS
 rw [if_neg h,hr,hm,Nat.add_sub_cancel,he]
def encPar (r:List (List V3)×Int×Int):DV:=.tuple [shps r.1,DV.int .i64 (r.2.1),DV.int .i64 (r.2.2)]
end Sh

namespace Go.Proofs
open Go.Shelf
def Tryz.lays103_ren:Go.Shelf.Ren:=⟨fun|103=>172|210=>183|206=>193|n=>n,fun|9=>9|4=>4|24=>193|3=>3|n=>n,fun|n=>n⟩
theorem Tryz.lays103:Go.Proofs.Lays.n103 Tryz.prog Tryz.lays103_ren:={
 mixed:=by kernel_rfl
 f103:=Tryz.func172.trans (congrArg some (by kernel_rfl))
 f206:=Tryz.func193.trans (congrArg some (by kernel_rfl))
 f210:=Tryz.func183.trans (congrArg some (by kernel_rfl))
 t3:=Tryz.underlying3
 a3:=Tryz.isAgg3
 z3:=Tryz.sizeOf3
 v3:=Tryz.zeroValue3
 t4:=Tryz.underlying4
 a4:=Tryz.isAgg4
 z4:=Tryz.sizeOf4
 v4:=Tryz.zeroValue4
 t9:=Tryz.underlying9
 a9:=Tryz.isAgg9
 z9:=Tryz.sizeOf9
 v9:=Tryz.zeroValue9
 t24:=Tryz.underlying193
 a24:=Tryz.isAgg193
 z24:=Tryz.sizeOf193
 v24:=Tryz.zeroValue193 }
def Tryz.lays104_ren:Go.Shelf.Ren:=⟨fun|104=>138|211=>160|207=>168|n=>n,fun|9=>9|4=>4|24=>193|3=>3|n=>n,fun|n=>n⟩
theorem Tryz.lays104:Go.Proofs.Lays.n104 Tryz.prog Tryz.lays104_ren:={
 mixed:=by kernel_rfl
 f104:=Tryz.func138.trans (congrArg some (by kernel_rfl))
 f207:=Tryz.func168.trans (congrArg some (by kernel_rfl))
 f211:=Tryz.func160.trans (congrArg some (by kernel_rfl))
 t3:=Tryz.underlying3
 a3:=Tryz.isAgg3
 z3:=Tryz.sizeOf3
 v3:=Tryz.zeroValue3
 t4:=Tryz.underlying4
 a4:=Tryz.isAgg4
 z4:=Tryz.sizeOf4
 v4:=Tryz.zeroValue4
 t9:=Tryz.underlying9
 a9:=Tryz.isAgg9
 z9:=Tryz.sizeOf9
 v9:=Tryz.zeroValue9
 t24:=Tryz.underlying193
 a24:=Tryz.isAgg193
 z24:=Tryz.sizeOf193
 v24:=Tryz.zeroValue193 }
def Tryz.lays137_ren:Go.Shelf.Ren:=⟨fun|137=>159|217=>167|266=>178|n=>n,fun|9=>9|5=>5|3=>3|n=>n,fun|n=>n⟩
theorem Tryz.lays137:Go.Proofs.Lays.n137 Tryz.prog Tryz.lays137_ren:={
 mixed:=by kernel_rfl
 f137:=Tryz.func159.trans (congrArg some (by kernel_rfl))
 f217:=Tryz.func167.trans (congrArg some (by kernel_rfl))
 f266:=Tryz.func178.trans (congrArg some (by kernel_rfl))
 t3:=Tryz.underlying3
 a3:=Tryz.isAgg3
 z3:=Tryz.sizeOf3
 v3:=Tryz.zeroValue3
 t5:=Tryz.underlying5
 a5:=Tryz.isAgg5
 z5:=Tryz.sizeOf5
 v5:=Tryz.zeroValue5
 t9:=Tryz.underlying9
 a9:=Tryz.isAgg9
 z9:=Tryz.sizeOf9
 v9:=Tryz.zeroValue9 }
def Tryz.lays146_ren:Go.Shelf.Ren:=⟨fun|146=>139|221=>161|268=>169|138=>170|143=>171|195=>179|197=>180|218=>181|219=>182|260=>189|217=>167|225=>190|224=>191|267=>192|266=>178|314=>196|n=>n,fun|9=>9|31=>134|3=>3|4=>4|0=>0|105=>229|21=>21|5=>5|46=>235|119=>238|139=>241|138=>240|146=>242|51=>233|n=>n,fun|1=>2|3=>3|4=>4|n=>n⟩
theorem Tryz.lays146:Go.Proofs.Lays.n146 Tryz.prog Tryz.lays146_ren:={
 mixed:=by kernel_rfl
 f138:=Tryz.func170.trans (congrArg some (by kernel_rfl))
 f143:=Tryz.func171.trans (congrArg some (by kernel_rfl))
 f146:=Tryz.func139.trans (congrArg some (by kernel_rfl))
 f195:=Tryz.func179.trans (congrArg some (by kernel_rfl))
 f197:=Tryz.func180.trans (congrArg some (by kernel_rfl))
 f217:=Tryz.func167.trans (congrArg some (by kernel_rfl))
 f218:=Tryz.func181.trans (congrArg some (by kernel_rfl))
 f219:=Tryz.func182.trans (congrArg some (by kernel_rfl))
 f221:=Tryz.func161.trans (congrArg some (by kernel_rfl))
 f224:=Tryz.func191.trans (congrArg some (by kernel_rfl))
 f225:=Tryz.func190.trans (congrArg some (by kernel_rfl))
 f260:=Tryz.func189.trans (congrArg some (by kernel_rfl))
 f266:=Tryz.func178.trans (congrArg some (by kernel_rfl))
 f267:=Tryz.func192.trans (congrArg some (by kernel_rfl))
 f268:=Tryz.func169.trans (congrArg some (by kernel_rfl))
 f314:=Tryz.func196.trans (congrArg some (by kernel_rfl))
 t0:=Tryz.underlying0
 a0:=Tryz.isAgg0
 z0:=Tryz.sizeOf0
 v0:=Tryz.zeroValue0
 t3:=Tryz.underlying3
 a3:=Tryz.isAgg3
 z3:=Tryz.sizeOf3
 v3:=Tryz.zeroValue3
 t4:=Tryz.underlying4
 a4:=Tryz.isAgg4
 z4:=Tryz.sizeOf4
 v4:=Tryz.zeroValue4
 t5:=Tryz.underlying5
 a5:=Tryz.isAgg5
 z5:=Tryz.sizeOf5
 v5:=Tryz.zeroValue5
 t9:=Tryz.underlying9
 a9:=Tryz.isAgg9
 z9:=Tryz.sizeOf9
 v9:=Tryz.zeroValue9
 t21:=Tryz.underlying21
 a21:=Tryz.isAgg21
 z21:=Tryz.sizeOf21
 v21:=Tryz.zeroValue21
 t31:=Tryz.underlying134
 a31:=Tryz.isAgg134
 z31:=Tryz.sizeOf134
 v31:=Tryz.zeroValue134
 t46:=Tryz.underlying235
 a46:=Tryz.isAgg235
 z46:=Tryz.sizeOf235
 v46:=Tryz.zeroValue235
 t51:=Tryz.underlying233
 a51:=Tryz.isAgg233
 z51:=Tryz.sizeOf233
 v51:=Tryz.zeroValue233
 t105:=Tryz.underlying229
 a105:=Tryz.isAgg229
 z105:=Tryz.sizeOf229
 v105:=Tryz.zeroValue229
 t119:=Tryz.underlying238
 a119:=Tryz.isAgg238
 z119:=Tryz.sizeOf238
 t138:=Tryz.underlying240
 a138:=Tryz.isAgg240
 z138:=Tryz.sizeOf240
 v138:=Tryz.zeroValue240
 t139:=Tryz.underlying241
 a139:=Tryz.isAgg241
 z139:=Tryz.sizeOf241
 v139:=Tryz.zeroValue241
 t146:=Tryz.underlying242
 a146:=Tryz.isAgg242
 z146:=Tryz.sizeOf242
 v146:=Tryz.zeroValue242
 g1:=by kernel_rfl
 g3:=by kernel_rfl
 g4:=by kernel_rfl }
def Tryz.lays169_ren:Go.Shelf.Ren:=⟨fun|169=>136|n=>n,fun|70=>181|9=>9|0=>0|72=>184|37=>182|127=>211|3=>3|5=>5|n=>n,fun|n=>n⟩
theorem Tryz.lays169:Go.Proofs.Lays.n169 Tryz.prog Tryz.lays169_ren:={
 mixed:=by kernel_rfl
 f169:=Tryz.func136.trans (congrArg some (by kernel_rfl))
 t0:=Tryz.underlying0
 a0:=Tryz.isAgg0
 z0:=Tryz.sizeOf0
 v0:=Tryz.zeroValue0
 t3:=Tryz.underlying3
 a3:=Tryz.isAgg3
 z3:=Tryz.sizeOf3
 v3:=Tryz.zeroValue3
 t9:=Tryz.underlying9
 a9:=Tryz.isAgg9
 z9:=Tryz.sizeOf9
 v9:=Tryz.zeroValue9
 t37:=Tryz.underlying182
 a37:=Tryz.isAgg182
 z37:=Tryz.sizeOf182
 v37:=Tryz.zeroValue182
 t70:=Tryz.underlying181
 a70:=Tryz.isAgg181
 z70:=Tryz.sizeOf181
 v70:=Tryz.zeroValue181
 t72:=Tryz.underlying184
 a72:=Tryz.isAgg184
 z72:=Tryz.sizeOf184
 v72:=Tryz.zeroValue184
 t127:=Tryz.underlying211
 a127:=Tryz.isAgg211
 z127:=Tryz.sizeOf211
 v127:=Tryz.zeroValue211 }
def Tryz.laysM171_ren:Go.Shelf.Ren:=⟨fun|171=>134|243=>156|246=>165|283=>174|284=>175|285=>176|286=>177|129=>185|317=>184|318=>186|319=>187|320=>188|337=>194|338=>195|n=>n,fun|3=>3|9=>9|2=>2|4=>4|171=>222|0=>0|53=>223|37=>182|5=>5|173=>226|212=>232|51=>233|20=>20|213=>234|46=>235|232=>244|233=>245|n=>n,fun|17=>1|18=>5|19=>6|n=>n⟩
theorem Tryz.laysM171:Go.Proofs.LaysM.n171 Tryz.prog Tryz.laysM171_ren:={
 mixed:=by kernel_rfl
 f129:=Tryz.func185.trans (congrArg some (by kernel_rfl))
 f171:=Tryz.func134.trans (congrArg some (by kernel_rfl))
 f243:=Tryz.func156.trans (congrArg some (by kernel_rfl))
 f246:=Tryz.func165.trans (congrArg some (by kernel_rfl))
 f283:=Tryz.func174.trans (congrArg some (by kernel_rfl))
 f284:=Tryz.func175.trans (congrArg some (by kernel_rfl))
 f285:=Tryz.func176.trans (congrArg some (by kernel_rfl))
 f286:=Tryz.func177.trans (congrArg some (by kernel_rfl))
 f317:=Tryz.func184.trans (congrArg some (by kernel_rfl))
 f318:=Tryz.func186.trans (congrArg some (by kernel_rfl))
 f319:=Tryz.func187.trans (congrArg some (by kernel_rfl))
 f320:=Tryz.func188.trans (congrArg some (by kernel_rfl))
 f337:=Tryz.func194.trans (congrArg some (by kernel_rfl))
 f338:=Tryz.func195.trans (congrArg some (by kernel_rfl))
 t0:=Tryz.underlying0
 a0:=Tryz.isAgg0
 z0:=Tryz.sizeOf0
 v0:=Tryz.zeroValue0
 t2:=Tryz.underlying2
 a2:=Tryz.isAgg2
 z2:=Tryz.sizeOf2
 v2:=Tryz.zeroValue2
 t3:=Tryz.underlying3
 a3:=Tryz.isAgg3
 z3:=Tryz.sizeOf3
 v3:=Tryz.zeroValue3
 t4:=Tryz.underlying4
 a4:=Tryz.isAgg4
 z4:=Tryz.sizeOf4
 v4:=Tryz.zeroValue4
 t5:=Tryz.underlying5
 a5:=Tryz.isAgg5
 z5:=Tryz.sizeOf5
 v5:=Tryz.zeroValue5
 t9:=Tryz.underlying9
 a9:=Tryz.isAgg9
 z9:=Tryz.sizeOf9
 v9:=Tryz.zeroValue9
 t20:=Tryz.underlying20
 a20:=Tryz.isAgg20
 z20:=Tryz.sizeOf20
 v20:=Tryz.zeroValue20
 t37:=Tryz.underlying182
 a37:=Tryz.isAgg182
 z37:=Tryz.sizeOf182
 v37:=Tryz.zeroValue182
 t46:=Tryz.underlying235
 a46:=Tryz.isAgg235
 z46:=Tryz.sizeOf235
 v46:=Tryz.zeroValue235
 t51:=Tryz.underlying233
 a51:=Tryz.isAgg233
 z51:=Tryz.sizeOf233
 v51:=Tryz.zeroValue233
 t53:=Tryz.underlying223
 a53:=Tryz.isAgg223
 z53:=Tryz.sizeOf223
 v53:=Tryz.zeroValue223
 t171:=Tryz.underlying222
 a171:=Tryz.isAgg222
 z171:=Tryz.sizeOf222
 v171:=Tryz.zeroValue222
 t173:=Tryz.underlying226
 a173:=Tryz.isAgg226
 z173:=Tryz.sizeOf226
 v173:=Tryz.zeroValue226
 t212:=Tryz.underlying232
 a212:=Tryz.isAgg232
 z212:=Tryz.sizeOf232
 v212:=Tryz.zeroValue232
 t213:=Tryz.underlying234
 a213:=Tryz.isAgg234
 z213:=Tryz.sizeOf234
 t232:=Tryz.underlying244
 a232:=Tryz.isAgg244
 z232:=Tryz.sizeOf244
 v232:=Tryz.zeroValue244
 t233:=Tryz.underlying245
 a233:=Tryz.isAgg245
 z233:=Tryz.sizeOf245
 v233:=Tryz.zeroValue245
 g17:=by kernel_rfl
 g18:=by kernel_rfl
 g19:=by kernel_rfl
 i0:=by kernel_rfl
 i2:=by kernel_rfl
 i3:=by kernel_rfl
 i4:=by kernel_rfl
 i5:=by kernel_rfl
 i9:=by kernel_rfl
 i20:=by kernel_rfl
 i37:=by kernel_rfl
 i46:=by kernel_rfl
 i51:=by kernel_rfl
 i53:=by kernel_rfl
 i171:=by kernel_rfl
 i173:=by kernel_rfl
 i212:=by kernel_rfl
 i232:=by kernel_rfl
 i233:=by kernel_rfl
 m17:=by kernel_rfl
 m18:=by kernel_rfl
 m19:=by kernel_rfl }
def Tryz.lays166_ren:Go.Shelf.Ren:=⟨fun|166=>135|240=>157|276=>166|n=>n,fun|0=>0|3=>3|4=>4|9=>9|20=>20|37=>182|70=>181|72=>184|75=>186|164=>216|5=>5|76=>187|80=>189|n=>n,fun|n=>n⟩
theorem Tryz.lays166:Go.Proofs.Lays.n166 Tryz.prog Tryz.lays166_ren:={
 mixed:=by kernel_rfl
 f166:=Tryz.func135.trans (congrArg some (by kernel_rfl))
 f240:=Tryz.func157.trans (congrArg some (by kernel_rfl))
 f276:=Tryz.func166.trans (congrArg some (by kernel_rfl))
 t0:=Tryz.underlying0
 a0:=Tryz.isAgg0
 z0:=Tryz.sizeOf0
 v0:=Tryz.zeroValue0
 t3:=Tryz.underlying3
 a3:=Tryz.isAgg3
 z3:=Tryz.sizeOf3
 v3:=Tryz.zeroValue3
 t4:=Tryz.underlying4
 a4:=Tryz.isAgg4
 z4:=Tryz.sizeOf4
 v4:=Tryz.zeroValue4
 t9:=Tryz.underlying9
 a9:=Tryz.isAgg9
 z9:=Tryz.sizeOf9
 v9:=Tryz.zeroValue9
 t20:=Tryz.underlying20
 a20:=Tryz.isAgg20
 z20:=Tryz.sizeOf20
 v20:=Tryz.zeroValue20
 t37:=Tryz.underlying182
 a37:=Tryz.isAgg182
 z37:=Tryz.sizeOf182
 v37:=Tryz.zeroValue182
 t70:=Tryz.underlying181
 a70:=Tryz.isAgg181
 z70:=Tryz.sizeOf181
 v70:=Tryz.zeroValue181
 t72:=Tryz.underlying184
 a72:=Tryz.isAgg184
 z72:=Tryz.sizeOf184
 v72:=Tryz.zeroValue184
 t75:=Tryz.underlying186
 a75:=Tryz.isAgg186
 z75:=Tryz.sizeOf186
 v75:=Tryz.zeroValue186
 t164:=Tryz.underlying216
 a164:=Tryz.isAgg216
 z164:=Tryz.sizeOf216
 v164:=Tryz.zeroValue216 }
theorem Tryz.extra166:Builder.Extra Tryz.prog Tryz.lays166_ren:={
 sizeBuilder:=by kernel_rfl
 liesBuilder:=by kernel_rfl
 t5:=Tryz.underlying5
 a5:=Tryz.isAgg5
 z5:=Tryz.sizeOf5
 v5:=Tryz.zeroValue5
 infoByte:=by kernel_rfl
 cellsByte:=by kernel_rfl
 sizeByte:=by kernel_rfl
 neB5:=by decide }
theorem Tryz.extra169:Builder.Extra Tryz.prog Tryz.lays169_ren:={
 sizeBuilder:=by kernel_rfl
 liesBuilder:=by kernel_rfl
 t5:=Tryz.underlying5
 a5:=Tryz.isAgg5
 z5:=Tryz.sizeOf5
 v5:=Tryz.zeroValue5
 infoByte:=by kernel_rfl
 cellsByte:=by kernel_rfl
 sizeByte:=by kernel_rfl
 neB5:=by decide }
theorem Tryz.calls_Itoa (n:Int) (h0 : -9223372036854775808≤n) (h1:n≤9223372036854775807) (w:World) (htab:Lib.TabIs Tryz.prog w "internal/strconv.uint64pow10" .u64 Lib.pow10Tab) :
  Calls Tryz.prog 134 #[.int .i64 n] w fun e w'=>e=.returned (.string ⟨(Lib.itoa n).toArray⟩)∧∃ k os,w'=Go.Sort.grow (w.drewN k) os:=Any.strconv_Itoa Tryz.laysM171 n h0 h1 w htab
theorem Tryz.enters_Itoa:Sh.Enters Tryz.prog 134:=enters_of Tryz.laysM171.f171 (by kernel_rfl) rfl
theorem Tryz.enters_CutSuffix:Sh.Enters Tryz.prog 138:=enters_of Tryz.lays104.f104 (by kernel_rfl) rfl
theorem Tryz.enters_CutPrefix:Sh.Enters Tryz.prog 172:=enters_of Tryz.lays103.f103 (by kernel_rfl) rfl
theorem Tryz.enters_IndexByte:Sh.Enters Tryz.prog 159:=enters_of Tryz.lays137.f137 (by kernel_rfl) rfl
theorem Tryz.enters_Split:Sh.Enters Tryz.prog 139:=enters_of Tryz.lays146.f146 (by kernel_rfl) rfl
end Go.Proofs
namespace Sh
open Go Go.Proofs
theorem s_Itoa (n:Int) (h0 : -9223372036854775808≤n) (h1:n≤9223372036854775807):PC 134 [DV.int .i64 (n)] (.str (Lib.itoa n)):=by
 refine pure_of_calls Tryz.enters_Itoa (fun M w vs hG hT hM hr=>?_)
 have hv:vs=#[.int .i64 n]:=by
  obtain ⟨r1,r2⟩:=hr
  have r3:=r2 0 (by simp)
  apply Array.ext
  ·simpa using r1.symm
  ·intro i i1 i2
   have:i=0:=by simp at i2;omega
   subst this
   have e:vs.getD 0 Go.undef=vs[0]:=by simp [Array.getD_eq_getD_getElem?,i1]
   rw [e] at r3
   generalize vs[0]=x at r3
   cases r3
   rfl
 subst hv
 refine (Tryz.calls_Itoa n h0 h1 w (tabIs_of (g:=1) (by kernel_rfl) rfl (by decide) hG hT hM)).mono ?_
 rintro e w' ⟨rfl,k,os,rfl⟩
 exact after_flat hM (Lib.below_grow _ w (Nat.le_refl _) k os) (.str _)
theorem flat_strs (l:List (List UInt8)):flat (l.map DV.str)=l.map DV.str:=by
 induction l with
 |nil=>rfl
 |cons a r ih=>rw [List.map_cons,show DV.str a :: r.map DV.str=[DV.str a]++r.map DV.str from rfl,flat_append,ih];rfl
theorem relPs_two {M:Mem} {a b:DV} {vs:Array Value} (h:RelPs M [a,b] vs):∃ x y,vs=#[x,y]∧RelP M a x∧RelP M b y:=by
 obtain ⟨r1,r2⟩:=h
 simp only [List.length_cons,List.length_nil] at r1
 refine ⟨vs.getD 0 Go.undef,vs.getD 1 Go.undef,?_,r2 0 (by simp),r2 1 (by simp)⟩
 apply Array.ext
 ·simpa using r1.symm
 ·intro i i1 i2
  have:i=0∨i=1:=by simp at i2;omega
  rcases this with rfl|rfl<;>simp [Array.getD_eq_getD_getElem?,i1]
theorem relP_str {M:Mem} {s:List UInt8} {v:Value} (h:RelP M (.str s) v):v=.string ⟨s.toArray⟩:=by cases h;rfl
theorem relP_int {M:Mem} {k:IntKind} {n:Int} {v:Value} (h:RelP M (.int k n) v):v=.int k n:=by cases h;rfl
theorem s_CutSuffix (s p:List UInt8) (hs:s.length≤1073741824):PC 138 [.str s,.str p] (.tuple [.str (Lib.trimSuffix s p),.bool (Lib.hasSuffix s p)]):=by
 refine pure_of_calls Tryz.enters_CutSuffix (fun M w vs hG hT hM hr=>?_)
 obtain ⟨x,y,rfl,h1,h2⟩:=relPs_two hr
 rw [relP_str h1,relP_str h2]
 refine Calls.mono (Any.strings_CutSuffix Tryz.lays104 ⟨s.toArray⟩ ⟨p.toArray⟩ w (by show s.toArray.size≤_;simp;omega)) ?_
 rintro e w' ⟨rfl,rfl⟩
 refine after_flat hM (RowKit.Below.refl _ _) (.tuple _ _ rfl (fun i hi=>?_))
 have hi:i < 2:=hi
 have:i=0∨i=1:=by omega
 rcases this with rfl|rfl
 ·exact .str _
 ·exact .bool _
theorem s_CutPrefix (s p:List UInt8) (hs:s.length≤1073741824):PC 172 [.str s,.str p] (.tuple [.str (Lib.trimPrefix s p),.bool (Lib.hasPrefix s p)]):=by
 refine pure_of_calls Tryz.enters_CutPrefix (fun M w vs hG hT hM hr=>?_)
 obtain ⟨x,y,rfl,h1,h2⟩:=relPs_two hr
 rw [relP_str h1,relP_str h2]
 refine Calls.mono (Any.strings_CutPrefix Tryz.lays103 ⟨s.toArray⟩ ⟨p.toArray⟩ w) ?_
 rintro e w' ⟨rfl,rfl⟩
 refine after_flat hM (RowKit.Below.refl _ _) (.tuple _ _ rfl (fun i hi=>?_))
 have hi:i < 2:=hi
 have:i=0∨i=1:=by omega
 rcases this with rfl|rfl
 ·exact .str _
 ·exact .bool _
theorem s_IndexByte (s:List UInt8) (c:UInt8):PC 159 [.str s,.int .u8 (c.toNat)] (DV.int .i64 (Lib.indexByte s c)):=by
 refine pure_of_calls Tryz.enters_IndexByte (fun M w vs hG hT hM hr=>?_)
 obtain ⟨x,y,rfl,h1,h2⟩:=relPs_two hr
 rw [relP_str h1,relP_int h2]
 refine Calls.mono (Any.strings_IndexByte Tryz.lays137 ⟨s.toArray⟩ (c.toNat:Int) w) ?_
 rintro e w' ⟨rfl,rfl⟩
 have ec:((c.toNat:Int)).toNat.toUInt8=c:=by simp
 rw [ec]
 exact after_flat hM (RowKit.Below.refl _ _) (.int _ _)
theorem splitK_C (c:UInt8):∀ s:List UInt8,Lib.splitK [c] 0 (Lib.count s [c]) s=splitC c s
 |[]=>by rw [Lib.count_one];rfl
 |b :: l=>by
  have ih:=splitK_C c l
  have hp:∀ k (s:List UInt8),Lib.splitK [c] 0 (k+1) s=if Lib.index s [c] == -1 then [s] else s.take ((Lib.index s [c]).toNat+0) :: Lib.splitK [c] 0 k (s.drop ((Lib.index s [c]).toNat+[c].length)):=fun k s=>rfl
  by_cases h:b=c
  ·subst h
   rw [Lib.count_cons_eq,Nat.add_comm,hp]
   have hix:Lib.index (b :: l) [b]=0:=by rw [Lib.index];simp [List.isPrefixOf]
   rw [hix,splitC,if_pos rfl,← ih]
   rfl
  ·rw [Lib.count_cons_ne b c l h,splitC,if_neg h,← ih]
   have hpre:([c]:List UInt8).isPrefixOf (b :: l)=false:=by simp [List.isPrefixOf,Ne.symm h]
   have hix:Lib.index (b :: l) [c]=if Lib.index l [c] == -1 then -1 else Lib.index l [c]+1:=by rw [Lib.index,hpre];simp
   by_cases hm:Lib.index l [c] = -1
   ·rw [Lib.count_miss hm];rfl
   ·have hge:=Lib.index_ge l [c]
    obtain ⟨i,hi⟩:∃ i:Nat,Lib.index l [c]=i:=⟨(Lib.index l [c]).toNat,by omega⟩
    rw [Lib.count_hit (by simp) hi,Nat.add_comm,hp,hp,hix,hi]
    have hn1:((i:Int) == -1)=false:=beq_eq_false_iff_ne.2 (by omega)
    have hn2:((i:Int)+1 == -1)=false:=beq_eq_false_iff_ne.2 (by omega)
    simp only [hn1,hn2,Bool.false_eq_true,if_false,Int.toNat_natCast,show ((i:Int)+1).toNat=i+1 by omega,Nat.add_zero,List.take_succ_cons,glue,List.singleton_append,List.length_cons,List.length_nil]
    rfl
theorem s_Split (s:List UInt8) (c:UInt8) (hs:s.length≤1073741824):PC 139 [.str s,.str [c]] (strs (splitC c s)):=by
 refine pure_of_calls Tryz.enters_Split (fun M w vs hG hT hM hr=>?_)
 obtain ⟨x,y,rfl,h1,h2⟩:=relPs_two hr
 rw [relP_str h1,relP_str h2]
 obtain ⟨m,hm⟩:=(hT 2 _ rfl).2 rfl
 refine Calls.mono (Any.strings_Split Tryz.lays146 (by kernel_rfl) ⟨s.toArray⟩ ⟨#[c]⟩ m w (by show s.toArray.size < _;simp;omega) hm (Nat.le_refl 1)) ?_
 have hd:=Lib.splitB_data ⟨#[c]⟩ 0 (Lib.countB ⟨s.toArray⟩ ⟨#[c]⟩) ⟨s.toArray⟩
 have hd:(Lib.splitB ⟨#[c]⟩ 0 (Lib.countB ⟨s.toArray⟩ ⟨#[c]⟩) ⟨s.toArray⟩).map (·.data.toList)=splitC c s:=by
  rw [hd];exact splitK_C c s
 have hl:=Lib.splitB_all ⟨#[c]⟩ (Nat.le_refl 1) 0 _ ⟨s.toArray⟩ rfl
 generalize Lib.splitB ⟨#[c]⟩ 0 (Lib.countB ⟨s.toArray⟩ ⟨#[c]⟩) ⟨s.toArray⟩=L at *
 rw [← hl,← hd]
 clear hd hl
 rintro e w' ⟨rfl,rfl⟩
 have hold:∀ b o v,M b o=some v→b≠w.heap.size:=fun b o v e e2=>by
  have h1:b < w.heap.size:=World.block_lt_of_cell? (a:=⟨b,o,none⟩) _ (hM b o v e)
  omega
 have hnew:(w.alloc (.cells (L.map Value.string).toArray (Tryz.lays146_ren.t 9))).heap[w.heap.size]?=some (.cells (L.map Value.string).toArray (Tryz.lays146_ren.t 9)):=World.alloc_heap_new w _
 refine ⟨_,fun b o=>if b=w.heap.size then (L.map Value.string).toArray[o]? else M b o,rfl,fun b o v e=>?_,fun b o v e=>?_,?_,(RowKit.Below.refl _ _).alloc (Nat.le_refl _) _,fun b o v e e0=>?_⟩
 ·show (if b=w.heap.size then _ else _)=_
  rw [if_neg (hold b o v e)];exact e
 ·by_cases hb:b=w.heap.size
  ·subst hb
   have e:(if w.heap.size=w.heap.size then (L.map Value.string).toArray[o]? else M w.heap.size o)=some v:=e
   rw [if_pos rfl] at e
   rw [cell_of_heap hnew];exact e
  ·have e:(if b=w.heap.size then (L.map Value.string).toArray[o]? else M b o)=some v:=e
   rw [if_neg hb] at e
   have h1:=hM b o v e
   rw [World.cell?_alloc_old _ _ _ hb];exact h1
 ·have hlen:((L.map (·.data.toList)).map DV.str).length=L.length:=by simp
  have hfl:flat ((L.map (·.data.toList)).map DV.str)=(L.map (·.data.toList)).map DV.str:=by
   exact flat_strs _
  have hget:∀ i,i < L.length→((L.map (·.data.toList)).map DV.str).getD i .undef=.str (L.getD i ByteArray.empty).data.toList:=fun i hi=>by simp [List.getD_eq_getElem?_getD,hi]
  have:=RelP.list (M:=fun b o=>if b=w.heap.size then (L.map Value.string).toArray[o]? else M b o) ((L.map (·.data.toList)).map DV.str) (some ⟨w.heap.size,0,none⟩) L.length 1 w.heap.size 0 (fun i=>.string (L.getD i ByteArray.empty)) (by rw [hlen];exact Nat.le_refl _) (.inr rfl) (fun e he=>by
    obtain ⟨x,_,rfl⟩:=List.mem_map.1 he;rfl) (fun i hi=>by
    rw [hfl,hlen] at hi
    show (if w.heap.size=w.heap.size then _ else _)=_
    rw [if_pos rfl];simp [List.getD_eq_getElem?_getD,hi]) (fun i hi=>by
    rw [hfl,hlen] at hi
    rw [hfl,hget i hi]
    have e:=RelP.str (M:=fun b o=>if b=w.heap.size then (L.map Value.string).toArray[o]? else M b o) (L.getD i ByteArray.empty).data.toList
    simpa using e)
  rw [hlen] at this
  exact this
 ·by_cases hb:b=w.heap.size
  ·omega
  ·have e:(if b=w.heap.size then (L.map Value.string).toArray[o]? else M b o)=some v:=e
   rw [if_neg hb,e0] at e;cases e
end Sh

namespace Sh
open Go Go.Lib Go.RowKit
def BRow (w:World) (e:TypeId) (v:Value) (bs:List Value):Prop :=
 (v=.slice none 0 0∧bs=[])∨∃ g cap cur,v=.slice (some ⟨g,0,none⟩) bs.length cap∧w.heap[g]?=some (.cells cur e (0,0))∧bs.length≤cap∧cur.size=cap∧cur.toList.take bs.length=bs
theorem append_x {P:Program} (w:World) (t u ty e:TypeId) (i:TypeInfo) (ht:P.underlying t=some (.slice e)) (hu:P.underlying u=some .string) (hi:P.info? e=some i) (hz:i.zero=some (.int .u8 0))
  (hsize:i.size=1) (hby:i.bytes=1) (v:Value) (bs:List Value) (hr:BRow w e v bs) (s:ByteArray) (h0:0 < s.size) (hl:bs.length+s.size≤1073741824) :
  ∃ g cap cur w',(Builtin.append_ #[t,u] ty #[v,.string s]).run P w=.ok (.slice (some ⟨g,0,none⟩) (bs.length+s.size) cap) w'∧w'.heap[g]?=some (.cells cur e (0,0))∧bs.length+s.size≤cap∧cur.size=cap ∧
   cur.toList.take (bs.length+s.size)=bs++strCells s∧w.grownBy w' v.ownBlock∧(v.ownBlock=some g∨w.heap.size≤g):=by
 have hml:(1073741824:Nat)≤maxLen:=by unfold maxLen;decide
 rcases hr with ⟨rfl,rfl⟩|⟨g,cap,cur,rfl,hg,hnc,hcs,htake⟩
 ·obtain ⟨v',w',h1,h2,h3,h4⟩:=run_append_own_string (P:=P) w w.heap.size t u ty e i ht hu hi hz hsize hby (.slice none 0 0) 0 [] ⟨rfl,.inl ⟨rfl,rfl⟩⟩ s (by simp at hl;omega) (by simp at hl;omega) (Nat.le_refl _)
  rcases h2.2 with ⟨_,h5⟩|⟨g,cap,cur,rfl,hb,hg,hnc,_,hcs,ht'⟩
  ·omega
  ·exact ⟨g,cap,cur,w',by simpa using h1,hg,by simpa using hnc,by simpa using hcs,by simpa using ht',h3,.inr hb⟩
 ·have hlen:(bs++strCells s).length=bs.length+s.size:=by rw [List.length_append,strCells_length]
  by_cases hroom:bs.length+s.size≤cap
  ·have hr:=run_append_room_stringF (P:=P) w t u ty e i ht hu hi hsize g bs.length cap cur (0,0) hg (Nat.zero_le _) s hroom (by omega)
   refine ⟨g,cap,_,_,hr,setRow_heap w g cur _ e _ hg,hroom,?_,?_,⟨rfl,rfl,rfl,by simp,fun k _ hk=>setRow_other w g k _ (fun e=>hk (by simp [Value.ownBlock,e]))⟩,.inl (by simp [Value.ownBlock])⟩
   ·simp only [List.size_toArray,List.length_append,List.length_take,List.length_drop,Array.length_toList,strCells_length]
    omega
   ·rw [htake,← hlen]
    exact List.take_left
  ·have holds:∀ j u,bs[j]?=some u→w.cell? ((⟨g,0,none⟩:Addr).add j)=some u:=by
    intro j u hj
    have hadd:(⟨g,0,none⟩:Addr).add j=⟨g,j,none⟩:=by unfold Addr.add;split<;>simp_all
    rw [hadd]
    have hjl:=(List.getElem?_eq_some_iff.1 hj).1
    rw [← htake,List.getElem?_take] at hj
    rw [if_pos hjl] at hj
    simp only [World.cell?,hg]
    simpa using hj
   have hr:=run_append_grow_string (P:=P) w t u ty e i (.int .u8 0) ht hu hi hz ⟨g,0,none⟩ bs.length cap bs (by rw [hsize,Nat.mul_one]) holds s (by omega) (by omega) (by rw [hby];exact growslice_fits (by omega) (by omega))
   have hge:=grownCap_ge w (bs.length+s.size) cap e
   refine ⟨w.heap.size,_,_,_,hr,heap_alloc_new w.drew _,hge,?_,?_,⟨rfl,rfl,rfl,by simp,fun k hk _=>heap_alloc_old w.drew _ hk⟩,.inr (Nat.le_refl _)⟩
   ·have hz1:(Value.int IntKind.u8 0).cells.size=1:=rfl
    simp only [Array.size_append,List.size_toArray,size_zeroCells,hz1,strCells_length]
    omega
   ·simp only [Array.toList_append,List.append_assoc]
    rw [← List.append_assoc,← hlen]
    exact List.take_left
structure WAfter (w:World) (b:Nat) (v:Value) (bs:List Value) (s:ByteArray) (T e:TypeId) (g cap:Nat) (cur:Array Value) (w':World):Prop where
 box:w'.heap[b]?=some (.cells #[.pointer (some ⟨b,0,none⟩),.slice (some ⟨g,0,none⟩) (bs.length+s.size) cap] T (0,0))
 row:w'.heap[g]?=some (.cells cur e (0,0))
 fits:bs.length+s.size≤cap
 size:cur.size=cap
 take:cur.toList.take (bs.length+s.size)=bs++strCells s
 new:v.ownBlock=some g∨w.heap.size≤g
 grow:w.heap.size≤w'.heap.size
 os:w'.os=w.os
 tape:w'.tape=w.tape
 output:w'.output=w.output
 block:∀ k,k < w.heap.size→k≠b→some k≠v.ownBlock→w'.heap[k]?=w.heap[k]?
def WS (P:Program) (f:FuncId) (T e:TypeId):Prop:=∀ (b:Nat) (p v:Value) (bs:List Value) (s:ByteArray) (w:World),(p=.pointer none∨p=.pointer (some ⟨b,0,none⟩))→w.heap[b]?=some (.cells #[p,v] T (0,0))→BRow w e v bs→0 < s.size→bs.length+s.size≤1073741824 →
 Calls P f #[.pointer (some ⟨b,0,none⟩),.string s] w fun en w'=>(∃ r,en=.returned r)∧∃ g cap cur,WAfter w b v bs s T e g cap cur w'
def byD (s:List UInt8):List DV:=s.map fun c=>DV.int .u8 (c.toNat:Int)
end Sh

namespace Sh
open Go Go.Lib Go.RowKit
theorem okE_bptr (n m l:Nat):okE 2 (.agg [.bptr n 0,.own m 0 l l])=true:=rfl
theorem flat_byD (s:List UInt8):flat (byD s)=byD s:=by
 induction s with
 |nil=>rfl
 |cons a r ih =>
  show flat ([DV.int .u8 (a.toNat:Int)]++byD r)=_
  rw [flat_append,ih];rfl
theorem byD_get (s:List UInt8) (i:Nat) (h:i < s.length):(byD s).getD i .undef=.int .u8 ((s.getD i 0).toNat:Int):=by
 unfold byD;simp [List.getD_eq_getElem?_getD,h]
theorem byD_len (s:List UInt8):(byD s).length=s.length:=by unfold byD;simp
theorem byteCells_append' (a b:List UInt8):byteCells (a++b)=byteCells a++byteCells b:=by unfold byteCells;simp
theorem strCells_eq (s:List UInt8):strCells ⟨s.toArray⟩=byteCells s:=by unfold strCells byteCells;simp
theorem byteCells_get (u:List UInt8) (i:Nat) (h:i < u.length):(byteCells u)[i]?=some (.int .u8 ((u.getD i 0).toNat:Int)):=by
 unfold byteCells;simp [List.getD_eq_getElem?_getD,h]
theorem w_after {M:Mem} {ρ:Locs} {w w':World} {h:Heap} {n m b c g cap:Nat} {d0:DV} {T e:TypeId} {v r:Value} {bs s:List UInt8} {cur:Array Value} (hin:HeapIn M ρ h w) (hn:∀ t,tyN n t=T) (hm:∀ t,tyN m t=e) (hnm:n≠m) (hTe:T≠e)
  (hbox:hlook h n=some (.box 2 d0)) (hρ:ρ n=some (b,c)) (hids:∀ k o,hlook h k=some o→k=n∨k=m) (hown:∀ k,v.ownBlock=some k→∃ c' es,ρ m=some (k,c')∧hlook h m=some (.row 1 es false))
  (hrow:∀ o,hlook h m=some o→∃ es,o=.row 1 es false∧es.length < bs.length+s.length) (A:WAfter w b v (byteCells bs) ⟨s.toArray⟩ T e g cap cur w') :
  HAfter M ρ w h .undef [(n,.box 2 (.agg [.bptr n 0,.own m 0 (bs++s).length (bs++s).length])),(m,.row 1 (byD (bs++s)) false)] (.returned r) w':=by
 have hL:(byteCells bs).length+(⟨s.toArray⟩:ByteArray).size=(bs++s).length:=by
  rw [byteCells_length,List.length_append];rfl
 have A1:=A.box
 have A2:=A.fits
 have A3:=A.take
 rw [hL] at A1 A2 A3
 rw [strCells_eq,← byteCells_append'] at A3
 have hMb:∀ o,M b o=none:=by
  obtain ⟨b',c',h1,_,_,_,_,_,_,_,h2⟩:=hin.obj n _ hbox
  rw [hρ] at h1;cases h1;exact h2
 have hMv:∀ k,v.ownBlock=some k→∀ o,M k o=none:=fun k hk=>by
  obtain ⟨c',es,h1,h2⟩:=hown k hk
  have h3:=hin.obj m _ h2
  simp only [ObjRel,h1] at h3
  obtain ⟨_,cs,t,_,_,_,_,_,_,h4⟩:=h3
  exact h4 trivial
 have hold:∀ k o x,M k o=some x→k < w.heap.size:=fun k o x hk=>World.block_lt_of_cell? (a:=⟨k,o,none⟩) _ (hin.mem k o x hk)
 have hMg:∀ o,M g o=none:=fun o=>by
  rcases A.new with h1|h1
  ·exact hMv g h1 o
  ·cases hx:M g o with
   |none=>rfl
   |some x=>have:=hold g o x hx;omega
 have hbg:b≠g:=fun h1=>by
  subst h1
  have h2:=A1.symm.trans A.row
  simp only [Option.some.injEq,Obj.cells.injEq] at h2
  exact hTe h2.2.1
 have hloc:(fun k=>if k=m then some (g,cap) else ρ k) m=some (g,cap):=if_pos rfl
 have hlocn:(fun k=>if k=m then some (g,cap) else ρ k) n=some (b,c):=(if_neg hnm).trans hρ
 have hl1:hlook [(n,DObj.box 2 (.agg [.bptr n 0,.own m 0 (bs++s).length (bs++s).length])),(m,.row 1 (byD (bs++s)) false)] n=some (.box 2 (.agg [.bptr n 0,.own m 0 (bs++s).length (bs++s).length])):=by rw [hlook_cons,if_pos rfl]
 have hl2:hlook [(n,DObj.box 2 (.agg [.bptr n 0,.own m 0 (bs++s).length (bs++s).length])),(m,.row 1 (byD (bs++s)) false)] m=some (.row 1 (byD (bs++s)) false):=by rw [hlook_cons,if_neg hnm,hlook_cons,if_pos rfl]
 have hl3:∀ k o,hlook [(n,DObj.box 2 (.agg [.bptr n 0,.own m 0 (bs++s).length (bs++s).length])),(m,.row 1 (byD (bs++s)) false)] k=some o→k=n∨k=m:=fun k o hk=>by
  rw [hlook_cons] at hk
  by_cases h1:n=k
  ·exact .inl h1.symm
  ·rw [if_neg h1,hlook_cons] at hk
   by_cases h2:m=k
   ·exact .inr h2.symm
   ·rw [if_neg h2] at hk;cases hk
 refine ⟨r,M,fun k=>if k=m then some (g,cap) else ρ k,rfl,⟨fun k o x hk=>?_,fun k o hk=>?_,fun k k' o o' b1 c1 b2 c2 hne hk hk' h1 h2=>?_⟩,⟨M.le_refl,fun k sz es fr hk=>?_,fun k o hk hr=>?_⟩,.pure (.undef _),⟨A.os,A.tape,A.output,A.grow,fun k hk=>?_⟩,fun k o x h1 h2=>(by rw [h1] at h2;cases h2),fun k o b' c' hk h1=>?_⟩
 ·have h1:=hin.mem k o x hk
  rw [World.cell?_of_block (w:=w) (w':=w') (a:=⟨k,o,none⟩) (A.block k (hold k o x hk) (fun e1=>by subst e1;rw [hMb] at hk;cases hk) (fun e1=>by rw [hMv k e1.symm] at hk;cases hk))]
  exact h1
 ·rcases hl3 k o hk with rfl|rfl
  ·rw [hl1] at hk;cases hk
   refine ⟨b,c,hlocn,wr_any b,_,T,by rw [hn];exact A1,rfl,okE_bptr _ _ _,fun i hi=>?_,hMb⟩
   match i,hi with
   |0,_=>exact .bptr k 0 2 b c _ hl1 hlocn
   |1,_ =>
    refine .own m 0 _ _ 1 _ false _ hl2 (by rw [byD_len];exact Nat.le_refl _) ⟨_,_,_,rfl⟩ (fun _=>?_)
    unfold SliceIs
    rw [if_pos rfl]
    exact ⟨by omega,_,rfl,.inl (by rw [Nat.zero_mul])⟩
  ·rw [hl2] at hk;cases hk
   simp only [ObjRel,if_true]
   refine ⟨⟨wr_any g,by decide⟩,cur,e,RowAt.of (by rw [hm];exact A.row),by rw [Nat.mul_one];exact A.size,by rw [byD_len];exact A2,fun x hx=>?_,fun i hi=>?_,fun h1=>by simp at h1,fun _=>hMg⟩
   ·unfold byD at hx
    obtain ⟨y,_,rfl⟩:=List.mem_map.1 hx;rfl
   ·rw [flat_byD,byD_len] at hi
    rw [flat_byD,byD_get _ _ hi]
    have h1:(cur.toList.take (bs++s).length)[i]?=(byteCells (bs++s))[i]?:=by rw [A3]
    rw [List.getElem?_take,if_pos hi] at h1
    have h2:cur.getD i Go.undef=.int .u8 (((bs++s).getD i 0).toNat:Int):=by
     rw [Array.getD_eq_getD_getElem?,← Array.getElem?_toList,h1,byteCells_get _ _ hi]
     rfl
    rw [h2]
    exact .int _ _
 ·rcases hl3 k o hk with rfl|rfl
  ·rcases hl3 k' o' hk' with rfl|rfl
   ·exact absurd rfl hne
   ·cases h1.symm.trans hlocn;cases h2.symm.trans hloc;exact hbg
  ·rcases hl3 k' o' hk' with rfl|rfl
   ·cases h1.symm.trans hloc;cases h2.symm.trans hlocn;exact hbg.symm
   ·exact absurd rfl hne
 ·rcases hids k _ hk with rfl|rfl
  ·rw [hbox] at hk;cases hk
  ·obtain ⟨es',h1,h2⟩:=hrow _ hk
   cases h1
   refine ⟨1,_,false,hl2,by rw [byD_len,List.length_append];omega,fun h3=>?_⟩
   rw [byD_len,List.length_append] at h3;omega
 ·rcases hids k _ hk with rfl|rfl
  ·rw [hbox] at hk;cases hk
   exact ⟨if_neg hnm,_,hl1,rfl⟩
  ·obtain ⟨es',h1,_⟩:=hrow _ hk
   subst h1;cases hr
 ·have h1:k < w.heap.size:=Nat.lt_of_not_le (fun h1=>hk (.inl h1))
  refine A.block k h1 (fun h2=>hk (.inr ⟨n,_,c,hbox,by rw [h2];exact hρ⟩)) (fun h2=>?_)
  obtain ⟨c',es,h3,h4⟩:=hown k h2.symm
  exact hk (.inr ⟨m,_,c',h4,h3⟩)
 ·rcases hl3 k o hk with rfl|rfl
  ·cases h1.symm.trans hlocn
   exact .inr ⟨k,_,c,hbox,hρ⟩
  ·cases h1.symm.trans hloc
   rcases A.new with h2|h2
   ·obtain ⟨c',es,h3,h4⟩:=hown _ h2
    exact .inr ⟨k,_,c',h4,h3⟩
   ·exact .inl h2
theorem relVs_two {M:Mem} {ρ:Locs} {h:Heap} {a b:DV} {vs:Array Value} (hr:RelVs M ρ h [a,b] vs):∃ x y,vs=#[x,y]∧RelV M ρ h a x∧RelV M ρ h b y:=by
 obtain ⟨r1,r2⟩:=hr
 simp only [List.length_cons,List.length_nil] at r1
 refine ⟨vs.getD 0 Go.undef,vs.getD 1 Go.undef,?_,r2 0 (by simp),r2 1 (by simp)⟩
 apply Array.ext
 ·simpa using r1.symm
 ·intro i i1 i2
  have:i=0∨i=1:=by simp at i2;omega
  rcases this with rfl|rfl<;>simp [Array.getD_eq_getD_getElem?,i1]
theorem box_two {M:Mem} {ρ:Locs} {h:Heap} {w:World} {n:Nat} {T:TypeId} {x y:DV} (hn:∀ t,tyN n t=T) (ho:ObjRel anyB M ρ h w n (.box 2 (.agg [x,y]))):∃ b c p v,ρ n=some (b,c)∧w.heap[b]?=some (.cells #[p,v] T (0,0))∧RelV M ρ h x p∧RelV M ρ h y v:=by
 obtain ⟨b,c,h1,_,cs,t,h2,h3,_,h4,_⟩:=ho
 rw [hn] at h2
 refine ⟨b,c,cs.getD 0 Go.undef,cs.getD 1 Go.undef,h1,?_,h4 0 (by decide),h4 1 (by decide)⟩
 rw [h2]
 congr 2
 apply Array.ext
 ·exact h3
 ·intro i i1 i2
  have:i=0∨i=1:=by simp at i2;omega
  rcases this with rfl|rfl<;>simp [Array.getD_eq_getD_getElem?,i1]
theorem hW0 {P:Program} {G:Nat→Option DV} {f:FuncId} {T e:TypeId} (hen:Enters P f) (hx:WS P f T e) (hTe:T≠e) {n m:Nat} (hn:∀ t,tyN n t=T) (hm:∀ t,tyN m t=e) (hnm:n≠m) (s:List UInt8) (h0:s≠[]) (hl:s.length≤1073741824) :
  HCall P G f [.bptr n 0,.str s] [(n,.box 2 (.agg [.nilptr,.nilsl]))] .undef [(n,.box 2 (.agg [.bptr n 0,.own m 0 s.length s.length])),(m,.row 1 (byD s) false)]:=by
 refine ⟨hen,fun F k hF hd hr M ρ w vs hG hT hin hrel=>calls_open hF hd ?_⟩
 obtain ⟨x,y,rfl,q1,q2⟩:=relVs_two hrel
 have hl0:hlook [(n,DObj.box 2 (.agg [.nilptr,.nilsl]))] n=some (.box 2 (.agg [.nilptr,.nilsl])):=by rw [hlook_cons,if_pos rfl]
 have hids:∀ k o,hlook [(n,DObj.box 2 (.agg [.nilptr,.nilsl]))] k=some o→k=n:=fun k o hk=>by
  rw [hlook_cons] at hk
  by_cases h1:n=k
  ·exact h1.symm
  ·rw [if_neg h1] at hk;cases hk
 obtain ⟨b,c,p,v,hρ,hb,r1,r2⟩:=box_two hn (hin.obj n _ hl0)
 obtain ⟨sz,b',c',d',rfl,_,hρ'⟩:=q1.inv_bptr
 rw [hρ] at hρ';cases hρ'
 have hy:=q2.inv_str
 subst hy
 have hp:p=.pointer none:=by cases r1 with|pure hp=>cases hp;rfl
 have hv:v=.slice none 0 0:=by cases r2 with|pure hp=>cases hp;rfl
 subst hp hv
 have hsz:0 < (⟨s.toArray⟩:ByteArray).size:=by have:=List.length_pos_iff.2 h0;show 0 < s.toArray.size;simpa using this
 have hsl:(⟨s.toArray⟩:ByteArray).size≤1073741824:=by show s.toArray.size≤_;simpa using hl
 refine (hx b _ _ [] ⟨s.toArray⟩ w (.inl rfl) hb (.inl ⟨rfl,rfl⟩) hsz (by simpa using hsl)).mono ?_
 rintro en w' ⟨⟨r,rfl⟩,g,cap,cur,A⟩
 exact w_after (bs:=[]) hin hn hm hnm hTe hl0 hρ (fun k o hk=>.inl (hids k o hk)) (fun k hk=>by simp [Value.ownBlock] at hk) (fun o hk=>absurd (hids m o hk) (Ne.symm hnm)) A
theorem hW1 {P:Program} {G:Nat→Option DV} {f:FuncId} {T e:TypeId} (hen:Enters P f) (hx:WS P f T e) (hTe:T≠e) {n m:Nat} (hn:∀ t,tyN n t=T) (hm:∀ t,tyN m t=e) (hnm:n≠m) (bs s:List UInt8) (hbs:bs≠[]) (h0:s≠[]) (hl:bs.length+s.length≤1073741824) :
  HCall P G f [.bptr n 0,.str s] [(n,.box 2 (.agg [.bptr n 0,.own m 0 bs.length bs.length])),(m,.row 1 (byD bs) false)] .undef [(n,.box 2 (.agg [.bptr n 0,.own m 0 (bs++s).length (bs++s).length])),(m,.row 1 (byD (bs++s)) false)]:=by
 refine ⟨hen,fun F k hF hd hr M ρ w vs hG hT hin hrel=>calls_open hF hd ?_⟩
 obtain ⟨x,y,rfl,q1,q2⟩:=relVs_two hrel
 have hl1:hlook [(n,DObj.box 2 (.agg [.bptr n 0,.own m 0 bs.length bs.length])),(m,.row 1 (byD bs) false)] n=some (.box 2 (.agg [.bptr n 0,.own m 0 bs.length bs.length])):=by rw [hlook_cons,if_pos rfl]
 have hl2:hlook [(n,DObj.box 2 (.agg [.bptr n 0,.own m 0 bs.length bs.length])),(m,.row 1 (byD bs) false)] m=some (.row 1 (byD bs) false):=by rw [hlook_cons,if_neg hnm,hlook_cons,if_pos rfl]
 have hids:∀ k o,hlook [(n,DObj.box 2 (.agg [.bptr n 0,.own m 0 bs.length bs.length])),(m,.row 1 (byD bs) false)] k=some o→k=n∨k=m:=fun k o hk=>by
  rw [hlook_cons] at hk
  by_cases h1:n=k
  ·exact .inl h1.symm
  ·rw [if_neg h1,hlook_cons] at hk
   by_cases h2:m=k
   ·exact .inr h2.symm
   ·rw [if_neg h2] at hk;cases hk
 obtain ⟨b,c,p,v,hρ,hb,r1,r2⟩:=box_two hn (hin.obj n _ hl1)
 obtain ⟨sz,b',c',d',rfl,_,hρ'⟩:=q1.inv_bptr
 rw [hρ] at hρ';cases hρ'
 have hy:=q2.inv_str
 subst hy
 obtain ⟨sz',b',c',d',rfl,_,hρ'⟩:=r1.inv_bptr
 rw [hρ] at hρ';cases hρ'
 obtain ⟨_,hs⟩:=r2.inv_own hl2
 obtain ⟨_,hs⟩:=hs (byD_len bs).symm
 have hrow:=hin.obj m _ hl2
 have hbl:=List.length_pos_iff.2 hbs
 cases hρm:ρ m with
 |none =>
  simp only [ObjRel,hρm] at hrow
  have:=congrArg List.length hrow
  rw [byD_len] at this;simp at this;exact absurd this hbs
 |some gc =>
  obtain ⟨g,cap⟩:=gc
  simp only [ObjRel,hρm] at hrow
  obtain ⟨_,cs,t,ht,hcs,hle,_,hrr,_,_⟩:=hrow
  rw [hm] at ht
  have ht:=ht.plain
  rw [hρm] at hs
  obtain ⟨a,rfl,ha⟩:=hs
  have ha:a=some ⟨g,0,none⟩:=by
   rcases ha with ha|ha
   ·rw [ha,Nat.zero_mul]
   ·omega
  subst ha
  rw [byD_len] at hle
  have hsz:0 < (⟨s.toArray⟩:ByteArray).size:=by have:=List.length_pos_iff.2 h0;show 0 < s.toArray.size;simpa using this
  have hss:(⟨s.toArray⟩:ByteArray).size=s.length:=by show s.toArray.size=_;simp
  have hcl:cs.toList.length=cap:=by rw [Array.length_toList,hcs,Nat.mul_one]
  have hinv:∀ (z:Int) (x:Value),RelP M (.int .u8 z) x→x=.int .u8 z:=fun z x hx=>by cases hx;rfl
  have htk:cs.toList.take bs.length=byteCells bs:=by
   apply List.ext_getElem?
   intro i
   by_cases i2:i < bs.length
   ·have h1:=hrr i (by rw [flat_byD,byD_len];exact i2)
    rw [flat_byD,byD_get _ _ i2] at h1
    have hic:i < cs.size:=by rw [Array.length_toList] at hcl;omega
    have h2:cs.toList[i]?=some (cs.getD i Go.undef):=by simp [Array.getD_eq_getD_getElem?,hic]
    rw [List.getElem?_take,if_pos i2,byteCells_get _ _ i2,h2,hinv _ _ h1]
   ·rw [List.getElem?_eq_none (by rw [List.length_take];omega),List.getElem?_eq_none (by rw [byteCells_length];omega)]
  refine (hx b _ _ (byteCells bs) ⟨s.toArray⟩ w (.inr rfl) hb (.inr ⟨g,_,cs,by rw [byteCells_length],ht,by rw [byteCells_length];simpa using hle,by rw [hcs];simp,by rw [byteCells_length];exact htk⟩) hsz (by rw [byteCells_length,hss];exact hl)).mono ?_
  rintro en w' ⟨⟨r,rfl⟩,g',cap',cur,A⟩
  refine w_after hin hn hm hnm hTe hl1 hρ hids (fun k hk=>?_) (fun o hk=>?_) A
  ·simp [Value.ownBlock] at hk
   subst hk
   exact ⟨_,_,hρm,hl2⟩
  ·rw [hl2] at hk;cases hk
   exact ⟨_,rfl,by rw [byD_len];have:=List.length_pos_iff.2 h0;omega⟩
structure SAfter (w w':World) (g:Option Nat):Prop where
 size:w'.heap.size=w.heap.size
 os:w'.os=w.os
 tape:w'.tape=w.tape
 output:w'.output=w.output
 block:∀ k,some k≠g→w'.heap[k]?=w.heap[k]?
 froze:∀ k cs t fz,some k=g→w.heap[k]?=some (.cells cs t fz)→∃ fz',w'.heap[k]?=some (.cells cs t fz')
def SS (P:Program) (f:FuncId) (T e:TypeId):Prop:=∀ (b:Nat) (p v:Value) (bs:List UInt8) (w:World),w.heap[b]?=some (.cells #[p,v] T (0,0))→BRow w e v (byteCells bs)→bs.length≤1073741824→(bs=[]→v=.slice none 0 0) →
 Calls P f #[.pointer (some ⟨b,0,none⟩)] w fun en w'=>en=.returned (.string ⟨bs.toArray⟩)∧SAfter w w' v.ownBlock
theorem relVs_one {M:Mem} {ρ:Locs} {h:Heap} {a:DV} {vs:Array Value} (hr:RelVs M ρ h [a] vs):∃ x,vs=#[x]∧RelV M ρ h a x:=by
 obtain ⟨r1,r2⟩:=hr
 simp only [List.length_cons,List.length_nil] at r1
 refine ⟨vs.getD 0 Go.undef,?_,r2 0 (by simp)⟩
 apply Array.ext
 ·simpa using r1.symm
 ·intro i i1 i2
  have:i=0:=by simp at i2;omega
  subst this;simp [Array.getD_eq_getD_getElem?,i1]
theorem hS0 {P:Program} {G:Nat→Option DV} {f:FuncId} {T e:TypeId} (hen:Enters P f) (hx:SS P f T e) {n:Nat} (hn:∀ t,tyN n t=T) :
  HCall P G f [.bptr n 0] [(n,.box 2 (.agg [.nilptr,.nilsl]))] (.str []) [(n,.box 2 (.agg [.nilptr,.nilsl]))]:=by
 refine ⟨hen,fun F k hF hd hr M ρ w vs hG hT hin hrel=>calls_open hF hd ?_⟩
 obtain ⟨x,rfl,q1⟩:=relVs_one hrel
 have hl0:hlook [(n,DObj.box 2 (.agg [.nilptr,.nilsl]))] n=some (.box 2 (.agg [.nilptr,.nilsl])):=by rw [hlook_cons,if_pos rfl]
 obtain ⟨b,c,p,v,hρ,hb,r1,r2⟩:=box_two hn (hin.obj n _ hl0)
 obtain ⟨sz,b',c',d',rfl,_,hρ'⟩:=q1.inv_bptr
 rw [hρ] at hρ';cases hρ'
 have hv:v=.slice none 0 0:=by cases r2 with|pure hp=>cases hp;rfl
 subst hv
 refine (hx b _ _ [] w hb (.inl ⟨rfl,rfl⟩) (by decide) (fun _=>rfl)).mono ?_
 rintro en w' ⟨rfl,A⟩
 have hall:∀ k,w'.heap[k]?=w.heap[k]?:=fun k=>A.block k (by simp [Value.ownBlock])
 refine ⟨_,M,ρ,rfl,⟨fun k o x hk=>?_,fun k o hk=>?_,hin.dis⟩,Ext.refl _ _ _,.pure (.str []),⟨A.os,A.tape,A.output,Nat.le_of_eq A.size.symm,fun k _=>hall k⟩,fun k o x h1 h2=>(by rw [h1] at h2;cases h2),fun k o b' c' hk h1=>.inr ⟨k,o,c',hk,h1⟩⟩
 ·rw [World.cell?_of_block (w:=w) (w':=w') (a:=⟨k,o,none⟩) (hall k)];exact hin.mem k o x hk
 ·exact (hin.obj k o hk).moved (fun _ _ r=>r) (fun b' c' _=>⟨wr_any b',hall b'⟩) id
theorem hS1 {P:Program} {G:Nat→Option DV} {f:FuncId} {T e:TypeId} (hen:Enters P f) (hx:SS P f T e) {n m:Nat} (hn:∀ t,tyN n t=T) (hm:∀ t,tyN m t=e) (hnm:n≠m) (bs:List UInt8) (hbs:bs≠[]) (hl:bs.length≤1073741824) :
  HCall P G f [.bptr n 0] [(n,.box 2 (.agg [.bptr n 0,.own m 0 bs.length bs.length])),(m,.row 1 (byD bs) false)] (.str bs) [(n,.box 2 (.agg [.bptr n 0,.own m 0 bs.length bs.length])),(m,.row 1 (byD bs) true)]:=by
 refine ⟨hen,fun F k hF hd hr M ρ w vs hG hT hin hrel=>calls_open hF hd ?_⟩
 obtain ⟨x,rfl,q1⟩:=relVs_one hrel
 have hl1:hlook [(n,DObj.box 2 (.agg [.bptr n 0,.own m 0 bs.length bs.length])),(m,.row 1 (byD bs) false)] n=some (.box 2 (.agg [.bptr n 0,.own m 0 bs.length bs.length])):=by rw [hlook_cons,if_pos rfl]
 have hl2:hlook [(n,DObj.box 2 (.agg [.bptr n 0,.own m 0 bs.length bs.length])),(m,.row 1 (byD bs) false)] m=some (.row 1 (byD bs) false):=by rw [hlook_cons,if_neg hnm,hlook_cons,if_pos rfl]
 have hids:∀ k o (fr:Bool),hlook [(n,DObj.box 2 (.agg [.bptr n 0,.own m 0 bs.length bs.length])),(m,.row 1 (byD bs) fr)] k=some o→(k=n∧o=.box 2 (.agg [.bptr n 0,.own m 0 bs.length bs.length]))∨(k=m∧o=.row 1 (byD bs) fr):=fun k o fr hk=>by
  rw [hlook_cons] at hk
  by_cases h1:n=k
  ·rw [if_pos h1] at hk;cases hk;exact .inl ⟨h1.symm,rfl⟩
  ·rw [if_neg h1,hlook_cons] at hk
   by_cases h2:m=k
   ·rw [if_pos h2] at hk;cases hk;exact .inr ⟨h2.symm,rfl⟩
   ·rw [if_neg h2] at hk;cases hk
 have hl3:hlook [(n,DObj.box 2 (.agg [.bptr n 0,.own m 0 bs.length bs.length])),(m,.row 1 (byD bs) true)] n=some (.box 2 (.agg [.bptr n 0,.own m 0 bs.length bs.length])):=by rw [hlook_cons,if_pos rfl]
 have hl4:hlook [(n,DObj.box 2 (.agg [.bptr n 0,.own m 0 bs.length bs.length])),(m,.row 1 (byD bs) true)] m=some (.row 1 (byD bs) true):=by rw [hlook_cons,if_neg hnm,hlook_cons,if_pos rfl]
 obtain ⟨b,c,p,v,hρ,hb,r1,r2⟩:=box_two hn (hin.obj n _ hl1)
 obtain ⟨sz,b',c',d',rfl,_,hρ'⟩:=q1.inv_bptr
 rw [hρ] at hρ';cases hρ'
 obtain ⟨_,hs⟩:=r2.inv_own hl2
 obtain ⟨_,hs⟩:=hs (byD_len bs).symm
 have hrow:=hin.obj m _ hl2
 have hobn:=hin.obj n _ hl1
 have hbl:=List.length_pos_iff.2 hbs
 cases hρm:ρ m with
 |none =>
  simp only [ObjRel,hρm] at hrow
  have:=congrArg List.length hrow
  rw [byD_len] at this;simp at this;exact absurd this hbs
 |some gc =>
  obtain ⟨g,cap⟩:=gc
  simp only [ObjRel,hρm] at hrow
  obtain ⟨hwr,cs,t,ht,hcs,hle,hok,hrr,_,hMg⟩:=hrow
  have hMg:=hMg trivial
  have ht2:=ht
  rw [hm] at ht
  have ht:=ht.plain
  rw [hρm] at hs
  obtain ⟨a,rfl,ha⟩:=hs
  have ha:a=some ⟨g,0,none⟩:=by
   rcases ha with ha|ha
   ·rw [ha,Nat.zero_mul]
   ·omega
  subst ha
  rw [byD_len] at hle
  have hcl:cs.toList.length=cap:=by rw [Array.length_toList,hcs,Nat.mul_one]
  have hinv:∀ (z:Int) (x:Value),RelP M (.int .u8 z) x→x=.int .u8 z:=fun z x hx=>by cases hx;rfl
  have htk:cs.toList.take bs.length=byteCells bs:=by
   apply List.ext_getElem?
   intro i
   by_cases i2:i < bs.length
   ·have h1:=hrr i (by rw [flat_byD,byD_len];exact i2)
    rw [flat_byD,byD_get _ _ i2] at h1
    have hic:i < cs.size:=by rw [Array.length_toList] at hcl;omega
    have h2:cs.toList[i]?=some (cs.getD i Go.undef):=by simp [Array.getD_eq_getD_getElem?,hic]
    rw [List.getElem?_take,if_pos i2,byteCells_get _ _ i2,h2,hinv _ _ h1]
   ·rw [List.getElem?_eq_none (by rw [List.length_take];omega),List.getElem?_eq_none (by rw [byteCells_length];omega)]
  have hbg:b≠g:=hin.dis n m _ _ b c g cap hnm hl1 hl2 hρ hρm
  refine (hx b _ _ bs w hb (.inr ⟨g,_,cs,by rw [byteCells_length],ht,by rw [byteCells_length];simpa using hle,by rw [hcs];simp,by rw [byteCells_length];exact htk⟩) hl (fun h0=>absurd h0 hbs)).mono ?_
  rintro en w' ⟨rfl,A⟩
  have hown:(Value.slice (some ⟨g,0,none⟩) bs.length (cap - 0)).ownBlock=some g:=by simp [Value.ownBlock]
  rw [hown] at A
  obtain ⟨fz',hg'⟩:=A.froze g cs _ _ rfl ht
  have hother:∀ k,k≠g→w'.heap[k]?=w.heap[k]?:=fun k hk=>A.block k (fun e=>hk (Option.some.inj e))
  have hle':M.le (fun k o=>if k=g then cs[o]? else M k o):=fun k o x hk=>by
   show (if k=g then _ else _)=_
   rw [if_neg (fun e=>by subst e;rw [hMg] at hk;cases hk)];exact hk
  have hgM:∀ i,i < (flat (byD bs)).length→(fun k o=>if k=g then cs[o]? else M k o) g i=some (cs.getD i Go.undef):=fun i hi=>by
   rw [flat_byD,byD_len] at hi
   have hic:i < cs.size:=by rw [Array.length_toList] at hcl;omega
   show (if g=g then cs[i]? else M g i)=_
   rw [if_pos rfl];simp [Array.getD_eq_getD_getElem?,hic]
  refine ⟨_,fun k o=>if k=g then cs[o]? else M k o,ρ,rfl,⟨fun k o x hk=>?_,fun k o hk=>?_,fun k k' o o' b1 c1 b2 c2 hne hk hk'=>?_⟩,⟨hle',fun k sz es fr hk=>?_,fun k o hk hr=>?_⟩,.pure (.str bs),⟨A.os,A.tape,A.output,Nat.le_of_eq A.size.symm,fun k hk=>?_⟩,fun k o x h1 h2=>?_,fun k o b' c' hk h1=>?_⟩
  ·by_cases hkg:k=g
   ·subst hkg
    have hk:(if k=k then cs[o]? else M k o)=some x:=hk
    rw [if_pos rfl] at hk
    simp only [World.cell?,hg'];exact hk
   ·have hk:(if k=g then cs[o]? else M k o)=some x:=hk
    rw [if_neg hkg] at hk
    rw [World.cell?_of_block (w:=w) (w':=w') (a:=⟨k,o,none⟩) (hother k hkg)];exact hin.mem k o x hk
  ·rcases hids k o true hk with ⟨rfl,rfl⟩|⟨rfl,rfl⟩
   ·obtain ⟨b1,c1,q1,q2,cs1,t1,q3,q4,q5,q6,q7⟩:=hobn
    rw [hρ] at q1;cases q1
    have hx1:Ext M ρ [(k,DObj.box 2 (.agg [.bptr k 0,.own m 0 bs.length bs.length])),(m,.row 1 (byD bs) false)] (fun k o=>if k=g then cs[o]? else M k o) ρ [(k,DObj.box 2 (.agg [.bptr k 0,.own m 0 bs.length bs.length])),(m,.row 1 (byD bs) true)]:=by
     refine ⟨hle',fun j sz es fr hj=>?_,fun j o hj hr=>?_⟩
     ·rcases hids j _ false hj with ⟨rfl,h⟩|⟨rfl,h⟩
      ·cases h
      ·cases h;exact ⟨1,_,true,hl4,Nat.le_refl _,fun _=>⟨.inl rfl,rfl⟩⟩
     ·rcases hids j _ false hj with ⟨rfl,rfl⟩|⟨rfl,rfl⟩
      ·exact ⟨rfl,_,hl3,rfl⟩
      ·cases hr
    refine ⟨b,c,hρ,q2,cs1,t1,by rw [hother b hbg];exact q3,q4,q5,fun i hi=>(q6 i hi).ext hx1,fun o=>?_⟩
    show (if b=g then _ else _)=_
    rw [if_neg hbg];exact q7 o
   ·simp only [ObjRel,hρm]
    refine ⟨hwr,cs,t,⟨fz',by rw [hm];exact hg',fun h=>by cases h⟩,hcs,by rw [byD_len];exact hle,hok,fun i hi=>(hrr i hi).mono hle',fun _ i hi=>by have h:=hgM i hi;simp only [if_true] at h ⊢;exact h,fun h=>by simp at h⟩
  ·intro e1 e2
   rcases hids k o true hk with ⟨rfl,rfl⟩|⟨rfl,rfl⟩
   ·rcases hids k' o' true hk' with ⟨rfl,rfl⟩|⟨rfl,rfl⟩
    ·exact absurd rfl hne
    ·exact hin.dis _ _ _ _ _ _ _ _ hne hl1 hl2 e1 e2
   ·rcases hids k' o' true hk' with ⟨rfl,rfl⟩|⟨rfl,rfl⟩
    ·exact hin.dis _ _ _ _ _ _ _ _ hne hl2 hl1 e1 e2
    ·exact absurd rfl hne
  ·rcases hids k _ false hk with ⟨rfl,h⟩|⟨rfl,h⟩
   ·cases h
   ·cases h;exact ⟨1,_,true,hl4,Nat.le_refl _,fun _=>⟨.inl rfl,rfl⟩⟩
  ·rcases hids k _ false hk with ⟨rfl,rfl⟩|⟨rfl,rfl⟩
   ·exact ⟨rfl,_,hl3,rfl⟩
   ·cases hr
  ·exact hother k (fun e=>hk (.inr ⟨m,_,cap,hl2,by rw [e];exact hρm⟩))
  ·by_cases hkg:k=g
   ·exact .inr ⟨m,_,cap,hl2,by rw [hkg];exact hρm⟩
   ·have h1:(if k=g then cs[o]? else M k o)=some x:=h1
    rw [if_neg hkg,h2] at h1;cases h1
  ·rcases hids k o true hk with ⟨rfl,rfl⟩|⟨rfl,rfl⟩
   ·exact .inr ⟨k,_,c',hl1,h1⟩
   ·exact .inr ⟨k,_,c',hl2,h1⟩
end Sh

set_option maxRecDepth 1000000
namespace Go.Proofs
open Go.Shelf Go.RowKit
theorem Tryz.copyCheck_x (b:Nat) (p v:Value) (w:World) (hp:p=.pointer none∨p=.pointer (some ⟨b,0,none⟩)) (hb:w.heap[b]?=some (.cells #[p,v] 184 (0,0))) :
  Calls Tryz.prog 157 #[.pointer (some ⟨b,0,none⟩)] w fun e w'=>e=.returned (.tuple #[])∧w'.heap[b]?=some (.cells #[.pointer (some ⟨b,0,none⟩),v] 184 (0,0))∧w'.heap.size=w.heap.size∧w'.os=w.os∧w'.tape=w.tape∧w'.output=w.output∧∀ k,k≠b→w'.heap[k]?=w.heap[k]?:=by
 have c0:w.cell? ⟨b,0,none⟩=some p:=by rw [Lib.cell_of_heap hb];rfl
 rcases hp with rfl|rfl
 ·refine (Any.Builder_copyCheck_fresh { Tryz.lays166 with } Tryz.extra166.toX72 b w c0 (by simp [World.shape?,hb];rfl) (Lib.frozen_of_heap hb 0)).mono ?_
  rintro e w' ⟨rfl,rfl⟩
  refine ⟨rfl,?_,by simp [World.setCell],rfl,rfl,rfl,fun k hk=>Below.heap_setCell _ _ _ _ hk⟩
  rw [setCell_eq_setRow w b 0 _ _ _ _ hb]
  exact setRow_heap w b _ _ _ _ hb
 ·refine (Any.Builder_copyCheck_used { Tryz.lays166 with } Tryz.extra166.toX72 b w c0).mono ?_
  rintro e w' ⟨rfl,rfl⟩
  exact ⟨rfl,hb,rfl,rfl,rfl,rfl,fun _ _=>rfl⟩
theorem append_step {P:Program} {ops:Array Oper} {rest:List Oper} {o:Oper} {a:Act} {w w':World} {Q:Exit→Act→World→Prop} (hgd:o.guard=none) (sl x:Operand) (t u:TypeId) (ho:o.op=.call ⟨.builtin .append,#[sl,x],#[t,u]⟩)
  (v v':Value) (s:ByteArray) (hs:a.eval sl=v) (hx:a.eval x=.string s) (hrun:(Builtin.append_ #[t,u] o.type #[v,.string s]).run P w=.ok v' w') (h:wpList P ops Q rest (a.put o.dst v') w'):wpList P ops Q (o :: rest) a w:=by
 refine wpList_plain hgd fun K hK=>?_
 unfold Oper.wp execOp
 simp only [ho,resolve,invoke,builtin,Sem.run_bind,Sem.run_pure,Result.andThen_ok,List.map_toArray,List.map_cons,List.map_nil,hs,hx,hrun]
 exact hK _ _ h
set_option maxHeartbeats 2000000 in
theorem Tryz.ws_x:Sh.WS Tryz.prog 135 184 5:=by
 intro b p v bs s w hp hb hr h0 hl
 obtain ⟨i0,hi,hz0,hz1,hz2⟩:=info_parts Tryz.extra166.infoByte
 go_enter Tryz.func135,Tryz.ntmps135
 go_wp2_with (go_at_call 157;refine (Tryz.copyCheck_x b p v w hp hb).mono ?_)
 rintro e w1 ⟨rfl,hb1,hs1,ho1,ht1,hu1,hk1⟩
 have c0:w1.cell? ⟨b,0,none⟩=some (.pointer (some ⟨b,0,none⟩)):=by rw [Lib.cell_of_heap hb1];rfl
 have c1:w1.cell? ⟨b,1,none⟩=some v:=by rw [Lib.cell_of_heap hb1];rfl
 have hvb:v.ownBlock≠some b:=by
  rcases hr with ⟨rfl,_⟩|⟨g,cap,cur,rfl,hg,_⟩
  ·simp [Value.ownBlock]
  ·intro e
   simp [Value.ownBlock] at e
   subst e
   rw [hb] at hg
   simp at hg
 have hr1:Sh.BRow w1 5 v bs:=by
  rcases hr with h|⟨g,cap,cur,rfl,hg,h⟩
  ·exact .inl h
  ·exact .inr ⟨g,cap,cur,rfl,by rw [hk1 g (fun e=>hvb (by simp [Value.ownBlock,e]))];exact hg,h⟩
 obtain ⟨g,cap,cur,w2,hrun,hg,hfit,hcs,htk,hgr,hnew⟩:=Sh.append_x (P:=Tryz.prog) w1 182 9 182 5 i0 Tryz.underlying182 Tryz.underlying9 hi hz0 hz1 hz2 v bs hr1 s h0 hl
 have hlt:b < w1.heap.size:=(Array.getElem?_eq_some_iff.1 hb1).1
 have hb2:w2.heap[b]?=some (.cells #[.pointer (some ⟨b,0,none⟩),v] 184 (0,0)):=by
  rw [hgr.block b hlt (fun e=>hvb e.symm)]
  exact hb1
 have d0:w2.cell? ⟨b,0,none⟩=some (.pointer (some ⟨b,0,none⟩)):=by rw [Lib.cell_of_heap hb2];rfl
 have d1:w2.cell? ⟨b,1,none⟩=some v:=by rw [Lib.cell_of_heap hb2];rfl
 have f1:w2.frozen? ⟨b,1,none⟩=false:=Lib.frozen_of_heap hb2 1
 go_wp2_with (at_builtin;refine append_step rfl _ _ _ _ rfl v _ s rfl rfl hrun ?_)
 go_ret2
 have hgb:g≠b:=fun e=>by
  subst e
  rw [hb2] at hg
  simp at hg
 have hw:∀ k x,k≠b→(w2.setCell ⟨b,1,none⟩ x).heap[k]?=w2.heap[k]?:=fun k x hk=>Below.heap_setCell _ _ _ _ hk
 refine ⟨⟨_,rfl⟩,g,cap,cur,⟨?_,by rw [hw g _ hgb];exact hg,hfit,hcs,htk,by rw [← hs1];exact hnew,?_,hgr.os.trans ho1,hgr.tape.trans ht1,hgr.output.trans hu1,fun k h1 h2 h3=>?_⟩⟩
 ·rw [setCell_eq_setRow w2 b 1 _ _ _ _ hb2]
  exact setRow_heap w2 b _ _ _ _ hb2
 ·have:=hgr.size
  simp [World.setCell]
  omega
 ·rw [hw k _ h2,hgr.block k (by omega) h3,hk1 k h2]
theorem freeze_size (w:World) (g n:Nat):(w.freeze ⟨g,0,none⟩ n).heap.size=w.heap.size:=by
 unfold World.freeze;split<;>simp
theorem freeze_rest (w:World) (g n:Nat):(w.freeze ⟨g,0,none⟩ n).os=w.os∧(w.freeze ⟨g,0,none⟩ n).tape=w.tape∧(w.freeze ⟨g,0,none⟩ n).output=w.output:=by
 unfold World.freeze;split<;>exact ⟨rfl,rfl,rfl⟩
theorem freeze_other (w:World) (g k n:Nat) (h:k≠g):(w.freeze ⟨g,0,none⟩ n).heap[k]?=w.heap[k]?:=by
 unfold World.freeze
 split
 ·rfl
 ·simp [Array.getElem?_modify,Ne.symm h]
theorem freeze_own (w:World) (g n:Nat) {cs:Array Value} {t:TypeId} {fz:Nat×Nat} (h:w.heap[g]?=some (.cells cs t fz)):∃ fz',(w.freeze ⟨g,0,none⟩ n).heap[g]?=some (.cells cs t fz'):=by
 unfold World.freeze
 split
 ·exact ⟨fz,h⟩
 ·obtain ⟨lo,hi⟩:=fz
  simp [Array.getElem?_modify,h]
set_option maxHeartbeats 2000000 in
theorem Tryz.str_x:Sh.SS Tryz.prog 136 184 5:=by
 intro b p v bs w hb hr hl hn
 rcases hr with ⟨rfl,hbs⟩|⟨g,cap,cur,rfl,hg,hnc,hcs,htk⟩
 ·have hbs:bs=[]:=by
   have:=congrArg List.length hbs
   rw [Lib.byteCells_length] at this
   exact List.eq_nil_of_length_eq_zero this
  subst hbs
  have c1:w.drew.cell? ⟨b,1,none⟩=some (.slice none 0 0):=by
   have:w.drew.heap[b]?=some (.cells #[p,.slice none 0 0] 184 (0,0)):=hb
   rw [Lib.cell_of_heap this];rfl
  have c2:w.cell? ⟨b,1,none⟩=some (.slice none 0 0):=c1
  have hSD:(Builtin.unsafeSliceData_ #[182] 211 #[.slice none 0 0]).run Tryz.prog w.drew=.ok (.pointer none) w.drew:=rfl
  have hUS:(Builtin.unsafeString_ #[211,3] 9 #[.pointer none,.int .i64 0]).run Tryz.prog w.drew=.ok (.string .empty) w.drew:=Any.unsafeString_none Tryz.lays169 Tryz.extra169 _ _
  go_enter Tryz.func136,Tryz.ntmps136
  go_wp2
  go_region
  all_goals (go_wp2;go_ret;exact ⟨rfl,rfl,rfl,rfl,rfl,fun _ _=>rfl,fun k cs t fz h _=>by simp [Value.ownBlock] at h⟩)
 ·rw [Lib.byteCells_length] at hnc htk
  have hl0:bs≠[]:=fun e=>by have:=hn e;cases this
  have hlp:=List.length_pos_iff.2 hl0
  have hbl:(Lib.byteCells bs).length=bs.length:=Lib.byteCells_length bs
  rw [hbl] at hb
  have c1:w.drew.cell? ⟨b,1,none⟩=some (.slice (some ⟨g,0,none⟩) bs.length cap):=by
   have:w.drew.heap[b]?=some (.cells #[p,.slice (some ⟨g,0,none⟩) bs.length cap] 184 (0,0)):=hb
   rw [Lib.cell_of_heap this];rfl
  have c2:w.cell? ⟨b,1,none⟩=some (.slice (some ⟨g,0,none⟩) bs.length cap):=c1
  have hSD:(Builtin.unsafeSliceData_ #[182] 211 #[.slice (some ⟨g,0,none⟩) bs.length cap]).run Tryz.prog w.drew=.ok (.pointer (some ⟨g,0,none⟩)) w.drew :=
   Lib.run_unsafeSliceData_row _ _ _ _ _ _ (by omega)
  have hUS:(Builtin.unsafeString_ #[211,3] 9 #[.pointer (some ⟨g,0,none⟩),.int .i64 bs.length]).run Tryz.prog w.drew=.ok (.string ⟨bs.toArray⟩) (w.drew.freeze ⟨g,0,none⟩ bs.length):=by
   refine Lib.run_unsafeString_row w.drew 211 3 9 5 Tryz.underlying211 Tryz.extra169.cellsByte g cur.size (by have hg':w.drew.heap[g]?=some (.cells cur 5 (0,0)):=hg;simp [World.shape?,hg']) bs hl0 (by omega) (by omega) ?_
   intro j x hx
   have hadd:(⟨g,0,none⟩:Addr).add j=⟨g,j,none⟩:=by unfold Addr.add;split<;>simp_all
   have hjl:=(List.getElem?_eq_some_iff.1 hx).1
   rw [hadd]
   have h1:(cur.toList.take bs.length)[j]?=(Lib.byteCells bs)[j]?:=by rw [htk]
   rw [List.getElem?_take,if_pos hjl,Array.getElem?_toList] at h1
   have hg':w.drew.heap[g]?=some (.cells cur 5 (0,0)):=hg
   rw [Lib.cell_of_heap hg']
   show cur[j]?=_
   rw [h1]
   unfold Lib.byteCells
   rw [List.getElem?_map,hx];rfl
  go_enter Tryz.func136,Tryz.ntmps136
  go_wp2
  go_region
  all_goals
   go_wp2
   go_ret
   have hown:(Value.slice (some ⟨g,0,none⟩) (Lib.byteCells bs).length cap).ownBlock=some g:=by simp [Value.ownBlock]
   rw [hown]
   obtain ⟨r1,r2,r3⟩:=freeze_rest w.drew g bs.length
   refine ⟨rfl,?_,r1,r2,r3,fun k hk=>?_,fun k cs t fz h1 h2=>?_⟩
   ·rw [freeze_size];rfl
   ·exact (freeze_other w.drew g k bs.length (fun e=>hk (by rw [e])))
   ·have h1:k=g:=Option.some.inj h1
    subst h1
    exact freeze_own w.drew k bs.length h2
end Go.Proofs
namespace Sh
open Go Go.Proofs
theorem ty184 (t:TypeId):tyN 185000006 t=184:=rfl
theorem ty5 (t:TypeId):tyN 6000090 t=5:=rfl
theorem ent_ws:Enters Tryz.prog 135:=enters_of Tryz.lays166.f166 (by kernel_rfl) rfl
theorem ent_str:Enters Tryz.prog 136:=enters_of Tryz.lays169.f169 (by kernel_rfl) rfl
abbrev bN:Nat:=185000006
abbrev rN:Nat:=6000090
theorem s_W0 (s:List UInt8) (h0:s≠[]) (hl:s.length≤1073741824):HCall Tryz.prog GC 135 [.bptr bN 0,.str s] [(bN,.box 2 (.agg [.nilptr,.nilsl]))] .undef [(bN,.box 2 (.agg [.bptr bN 0,.own rN 0 s.length s.length])),(rN,.row 1 (byD s) false)] :=
 hW0 ent_ws Tryz.ws_x (by decide) ty184 ty5 (by decide) s h0 hl
theorem s_W1 (bs s:List UInt8) (hbs:bs≠[]) (h0:s≠[]) (hl:bs.length+s.length≤1073741824):HCall Tryz.prog GC 135 [.bptr bN 0,.str s] [(bN,.box 2 (.agg [.bptr bN 0,.own rN 0 bs.length bs.length])),(rN,.row 1 (byD bs) false)] .undef [(bN,.box 2 (.agg [.bptr bN 0,.own rN 0 (bs++s).length (bs++s).length])),(rN,.row 1 (byD (bs++s)) false)] :=
 hW1 ent_ws Tryz.ws_x (by decide) ty184 ty5 (by decide) bs s hbs h0 hl
theorem s_S0:HCall Tryz.prog GC 136 [.bptr bN 0] [(bN,.box 2 (.agg [.nilptr,.nilsl]))] (.str []) [(bN,.box 2 (.agg [.nilptr,.nilsl]))]:=hS0 ent_str Tryz.str_x ty184
theorem s_S1 (bs:List UInt8) (hbs:bs≠[]) (hl:bs.length≤1073741824):HCall Tryz.prog GC 136 [.bptr bN 0] [(bN,.box 2 (.agg [.bptr bN 0,.own rN 0 bs.length bs.length])),(rN,.row 1 (byD bs) false)] (.str bs) [(bN,.box 2 (.agg [.bptr bN 0,.own rN 0 bs.length bs.length])),(rN,.row 1 (byD bs) true)]:=hS1 ent_str Tryz.str_x ty184 ty5 (by decide) bs hbs hl
end Sh

set_option maxRecDepth 100000
namespace Sh
open Go
def db75_0 : DC := (.seq (.ops false [⟨some 26,.bin .lss (.tmp 25) (.tmp 24),none,[]⟩]) (.seq (.cond (.tmp 26) .skip (.exit 2)) (.seq (.block 3 none (.seq (.ops false [⟨some 27,.iaddr 3 (.tmp 23) (.tmp 25),none,[]⟩,⟨some 28,.load (some 3) (.tmp 27),none,[]⟩,⟨some 10,.alloc (.agg [.int .i64 0,.int .i64 0,.int .i64 0]) 3,none,[]⟩,⟨none,.store 3 (.tmp 10) (.tmp 28),none,[]⟩]) (.ops true [⟨some 29,.mov (.tmp 5),none,[]⟩,⟨some 30,.faddr 0 1 false (.tmp 10),none,[]⟩,⟨some 31,.load none (.tmp 30),none,[1]⟩,⟨some 32,.call (.tmp 29) [.tmp 31],none,[0,2,1]⟩,⟨some 33,.bin .add (.const (.string ⟨#[32]⟩)) (.tmp 32),none,[3,0,2,1]⟩,⟨some 34,.bin .add (.tmp 33) (.const (.string ⟨#[32]⟩)),none,[4,3,0,2,1]⟩,⟨some 35,.mov (.tmp 5),none,[]⟩,⟨some 36,.faddr 1 1 false (.tmp 10),none,[]⟩,⟨some 37,.load none (.tmp 36),none,[7]⟩,⟨some 38,.call (.tmp 35) [.tmp 37],none,[6,8,7,3,0,2,1]⟩,⟨some 39,.bin .add (.tmp 34) (.tmp 38),none,[5,4,3,0,2,1,9,6,8,7]⟩,⟨some 40,.bin .add (.tmp 39) (.const (.string ⟨#[32]⟩)),none,[10,5,4,3,0,2,1,9,6,8,7]⟩,⟨some 41,.mov (.tmp 5),none,[]⟩,⟨some 42,.faddr 2 1 false (.tmp 10),none,[]⟩,⟨some 43,.load none (.tmp 42),none,[13]⟩,⟨some 44,.call (.tmp 41) [.tmp 43],none,[12,14,13,9,6,8,7,3,0,2,1]⟩,⟨some 45,.bin .add (.tmp 40) (.tmp 44),none,[11,10,5,4,3,0,2,1,9,6,8,7,15,12,14,13]⟩,⟨some 46,.call (.func 135) [.tmp 6,.tmp 45],none,[16,11,10,5,4,3,0,2,1,9,6,8,7,15,12,14,13]⟩]))) (.ops false [⟨some 47,.bin .add (.tmp 25) (.const (.int .i64 1)),none,[]⟩,⟨some 25,.mov (.tmp 47),none,[]⟩]))))
def dk75_0 : Keep := ⟨[],[5,6,16,17,18,23,24,25],[185000006,6000090]⟩
def db75_1 : DC := (.seq (.ops false [⟨some 19,.bin .lss (.tmp 18) (.tmp 17),none,[]⟩]) (.seq (.cond (.tmp 19) .skip (.exit 0)) (.seq (.block 1 (some ⟨[],[5,6,16,17,18],[185000006,6000090]⟩) (.seq (.ops false [⟨some 20,.iaddr 1 (.tmp 16) (.tmp 18),none,[]⟩,⟨some 21,.load none (.tmp 20),none,[]⟩,⟨some 8,.mov (.tmp 21),none,[]⟩]) (.seq (.ops false [⟨some 22,.call (.func 135) [.tmp 6,.const (.string ⟨#[115,104,97,112,101]⟩)],none,[]⟩]) (.seq (.seq (.ops false [⟨some 23,.mov (.tmp 8),none,[]⟩,⟨some 24,.len (.tmp 23),none,[]⟩,⟨some 25,.mov (.const (.int .i64 0)),none,[]⟩]) (.block 2 (some ⟨[],[5,6,16,17,18],[185000006,6000090]⟩) (.loop dk75_0 db75_0))) (.ops false [⟨some 48,.call (.func 135) [.tmp 6,.const (.string ⟨#[10]⟩)],none,[]⟩]))))) (.ops false [⟨some 49,.bin .add (.tmp 18) (.const (.int .i64 1)),none,[]⟩,⟨some 18,.mov (.tmp 49),none,[]⟩]))))
def dk75_1 : Keep := ⟨[],[5,6,16,17,18],[185000006,6000090]⟩
def dc75 : DFunc := ⟨51,1,[.tmp 2,.tmp 3],.seq (.ops false [⟨some 2,.mov (.const (.string ⟨#[]⟩)),none,[]⟩,⟨some 3,.mov (.const (.int .i64 0)),none,[]⟩]) (.seq (.seq (.ops false [⟨some 11,.mov (.tmp 0),none,[]⟩,⟨some 12,.call (.func 92) [.tmp 11],none,[]⟩,⟨some 4,.mov (.tmp 12),none,[]⟩]) (.seq (.ops false [⟨some 13,.mov (.tmp 4),none,[]⟩,⟨some 14,.bin .neq (.tmp 13) (.const (.int .i64 0)),none,[]⟩]) (.cond (.tmp 14) (.seq (.ops false [⟨some 15,.mov (.tmp 4),none,[]⟩,⟨some 2,.mov (.const (.string ⟨#[]⟩)),none,[]⟩,⟨some 3,.mov (.tmp 15),none,[]⟩]) .ret) .skip))) (.seq (.ops false [⟨some 5,.mov (.func 134),none,[]⟩]) (.seq (.ops false [⟨some 6,.alloc (.agg [.nilptr,.nilsl]) 185000002,none,[]⟩]) (.seq (.seq (.ops false [⟨some 16,.mov (.tmp 0),none,[]⟩,⟨some 17,.len (.tmp 16),none,[]⟩,⟨some 18,.mov (.const (.int .i64 0)),none,[]⟩]) (.block 0 (some ⟨[],[6],[185000006,6000090]⟩) (.loop dk75_1 db75_1))) (.seq (.ops false [⟨some 50,.call (.func 136) [.tmp 6],none,[]⟩,⟨some 2,.mov (.tmp 50),none,[]⟩,⟨some 3,.mov (.const (.int .i64 0)),none,[]⟩]) .ret)))))⟩
theorem dh75:cProg Go.Proofs.Tryz.prog ⟨[(0,⟨[],[5,6,16,17,18],[185000006,6000090]⟩),(2,⟨[],[5,6,16,17,18,23,24,25],[185000006,6000090]⟩)],[(2,⟨[],[5,6,16,17,18],[185000006,6000090]⟩),(1,⟨[],[5,6,16,17,18],[185000006,6000090]⟩),(0,⟨[],[6],[185000006,6000090]⟩)],[]⟩ 75=some dc75:=by kernel_rfl
end Sh

namespace Sh
open Go Go.Proofs
def bH:List UInt8→Heap
 |[]=>[(bN,.box 2 (.agg [.nilptr,.nilsl]))]
 |c :: r=>[(bN,.box 2 (.agg [.bptr bN 0,.own rN 0 (c :: r).length (c :: r).length])),(rN,.row 1 (byD (c :: r)) false)]
theorem bH_ne {bs:List UInt8} (h:bs≠[]):bH bs=[(bN,.box 2 (.agg [.bptr bN 0,.own rN 0 bs.length bs.length])),(rN,.row 1 (byD bs) false)]:=by
 cases bs with
 |nil=>exact absurd rfl h
 |cons c r=>rfl
theorem c_Print (l:List (List V3)) (hl:l.length < 1073741824) (hs:∀ s ∈ l,s.length < 1073741824):PC 75 [shps l] (.tuple [.str (prtS l).1,DV.int .i64 ((prtS l).2)]):=by
 have e0:((l.map shp).length:Int)=l.length:=by simp
 have k1:=c_checkShapes l hl hs
 refine pureCall_ofR dh75 rfl ?_
 conv=>whnf
 repeat' (first
  |(refine ⟨fun hg=>?_,fun hg=>?_⟩<;>first|contradiction|(conv=>whnf))
  |(refine Or.inl ?_;conv=>whnf)
  |(refine ⟨_,k1,?_⟩;conv=>whnf)
  |(refine And.intro ?_ ?_;kernel_rfl;conv=>whnf))
 ·have hg:chkShps l≠0:=of_decide_eq_true hg
  have e:prtS l=([],chkShps l):=if_pos hg
  rw [e];rfl
 ·have hg:¬ chkShps l≠0:=of_decide_eq_false hg
  have e:prtS l=(prtH l,0):=if_neg hg
  rw [e]
  clear e k1
  obtain ⟨h8,hS,_⟩:=chkShps_oks (Classical.not_not.1 hg)
  clear hg
  refine dwp_loopU (P:=Tryz.prog) (G:=GC) (k:=dk75_1) (b:=db75_1) (α:=Nat) (fun i=>[(18,DV.int .i64 (i))]) (fun i=>bH (prtH (l.take i))) (fun i=>i≤l.length) (fun i=>l.length - i) 0 (Nat.zero_le _) ?_
  conv=>whnf
  refine ⟨rfl,rfl,?_⟩
  conv=>whnf
  refine ⟨rfl,?_⟩
  intro i h1
  have hpl:=prtH_len (l:=l.take i) (by simp;omega) (fun c hc=>hS c (List.mem_of_mem_take hc))
  have hpl2:(l.take i).length≤8:=by simp;omega
  by_cases hi:i < l.length
  ·have hSi:=hS _ (getD_in [] hi)
   have hs6:=hSi.2.1
   have hsu:=prtH_succ l i hi
   have hpp:∃ bs,prtH (l.take i)=bs:=⟨_,rfl⟩
   obtain ⟨bs,hbs⟩:=hpp
   rw [hbs] at hsu hpl ⊢
   generalize hss:l.getD i []=s at hSi hs6 hsu
   have e1:((s.map encV).length:Int)=s.length:=by simp
   rcases bs with _|⟨c0,bs⟩
   ·conv=>whnf
    refine ⟨fun hb=>?_,fun hb=>?_⟩
    ·clear hb
     conv=>whnf
     rw [getD_enc _ _ i [] hi,hss]
     refine ⟨idxA hi rfl,?_⟩
     conv=>whnf
     refine .inr ⟨[(185000006,185000006),(6000090,6000090)],_,_,_,_,s_W0 shpB (by decide) (by decide),⟨rfl,by kernel_rfl,?_,?_⟩,?_⟩
     ·exact ⟨rfl,trivial⟩
     ·exact ⟨.inl rfl,.inr rfl,trivial⟩
     conv=>whnf
     refine dwp_loopU (P:=Tryz.prog) (G:=GC) (k:=dk75_0) (b:=db75_0) (α:=Nat) (fun k=>[(25,DV.int .i64 (k))]) (fun k=>[(bN,.box 2 (.agg [.bptr bN 0,.own rN 0 (([]:List UInt8)++shpB++wn (numsV (s.take k))).length (([]:List UInt8)++shpB++wn (numsV (s.take k))).length])),(rN,.row 1 (byD (([]:List UInt8)++shpB++wn (numsV (s.take k)))) false)]) (fun k=>k≤s.length) (fun k=>s.length - k) 0 (Nat.zero_le _) ?_
     conv=>whnf
     refine ⟨rfl,by show _=[(bN,DObj.box 2 (.agg [.bptr bN 0,.own rN 0 ((([]:List UInt8)++shpB)++[]).length ((([]:List UInt8)++shpB)++[]).length])),(rN,.row 1 (byD ((([]:List UInt8)++shpB)++[])) false)];rw [List.append_nil];rfl,?_⟩
     conv=>whnf
     refine ⟨rfl,?_⟩
     intro k hk1
     have hpk:=okS_take hSi k
     have e5:shpB.length=5:=rfl
     conv=>whnf
     refine ⟨fun hb=>?_,fun hb=>?_⟩
     ·have hk:k < s.length:=by have:=of_decide_eq_true hb;rw [e1] at this;omega
      have hv:=(hSi.2.2 _ (getD_in V0 hk)).1
      have hsk:=numsV_take s k hk
      clear hb
      conv=>whnf
      rw [getD_enc _ _ k V0 hk]
      refine ⟨idxA hk rfl,?_⟩
      generalize hpp:s.getD k V0=v at *
      obtain ⟨hx,hy,hz⟩:=hv
      have t1:=Lib.itoa_length_le v.x (by omega) (by omega)
      have t2:=Lib.itoa_length_le v.y (by omega) (by omega)
      have t3:=Lib.itoa_length_le v.z (by omega) (by omega)
      have k1:=s_Itoa v.x (by omega) (by omega)
      have k2:=s_Itoa v.y (by omega) (by omega)
      have k3:=s_Itoa v.z (by omega) (by omega)
      have hS1:(([]:List UInt8)++shpB++wn (numsV (s.take k)))++([32]++Lib.itoa v.x++[32]++Lib.itoa v.y++[32]++Lib.itoa v.z)=([]:List UInt8)++shpB++wn (numsV (s.take (k+1))):=by
       rw [hsk,wn_append]
       simp [wn,Lib.joinTail]
      have hVne:(([]:List UInt8)++shpB++wn (numsV (s.take k)))≠[]:=by unfold shpB;simp
      have hVl:(([]:List UInt8)++shpB++wn (numsV (s.take k))).length≤5000:=by simp only [List.length_append,List.length_cons,List.length_nil] at hpl ⊢;omega
      generalize hV:(([]:List UInt8)++shpB++wn (numsV (s.take k)))=V at *
      conv=>whnf
      refine .inl ?_
      conv=>whnf
      refine ⟨_,k1 ..,?_⟩
      conv=>whnf
      refine ⟨by simp only [List.length_append,List.length_cons,List.length_nil];omega,?_⟩
      conv=>whnf
      refine ⟨by simp only [List.length_append,List.length_cons,List.length_nil];omega,?_⟩
      conv=>whnf
      refine .inl ?_
      conv=>whnf
      refine ⟨_,k2 ..,?_⟩
      conv=>whnf
      refine ⟨by simp only [List.length_append,List.length_cons,List.length_nil];omega,?_⟩
      conv=>whnf
      refine ⟨by simp only [List.length_append,List.length_cons,List.length_nil];omega,?_⟩
      conv=>whnf
      refine .inl ?_
      conv=>whnf
      refine ⟨_,k3 ..,?_⟩
      conv=>whnf
      refine ⟨by simp only [List.length_append,List.length_cons,List.length_nil];omega,?_⟩
      conv=>whnf
      refine .inr ⟨[(185000006,185000006),(6000090,6000090)],_,_,_,_,s_W1 V ([32]++Lib.itoa v.x++[32]++Lib.itoa v.y++[32]++Lib.itoa v.z) hVne (by simp) (by simp only [List.length_append,List.length_cons,List.length_nil];omega),⟨rfl,by kernel_rfl,?_,?_⟩,?_⟩
      ·exact ⟨rfl,rfl,trivial⟩
      ·exact ⟨.inl rfl,.inl rfl,trivial⟩
      rw [hS1]
      conv=>whnf
      refine ⟨by kernel_rfl,?_⟩
      conv=>whnf
      rw [wrap_succ k (by omega)]
      exact ⟨k+1,rfl,rfl,rfl,hk,by omega⟩
     ·have hk:k=s.length:=by have:=of_decide_eq_false hb;rw [e1] at this;omega
      clear hb
      have hVne:(([]:List UInt8)++shpB++wn (numsV (s.take k)))≠[]:=by unfold shpB;simp
      have hVl:(([]:List UInt8)++shpB++wn (numsV (s.take k))).length≤5000:=by simp only [List.length_append,List.length_cons,List.length_nil] at hpl ⊢;omega
      have hS1:(([]:List UInt8)++shpB++wn (numsV (s.take k)))++[10]=prtH (l.take (i+1)):=by
       rw [hsu,hk,List.take_length]
       unfold linB
       simp
      have hne:prtH (l.take (i+1))≠[]:=by rw [← hS1];simp
      generalize hV:(([]:List UInt8)++shpB++wn (numsV (s.take k)))=V at *
      conv=>whnf
      refine .inr ⟨[(185000006,185000006),(6000090,6000090)],_,_,_,_,s_W1 V [10] hVne (by simp) (by simp only [List.length_append,List.length_cons,List.length_nil];omega),⟨rfl,by kernel_rfl,?_,?_⟩,?_⟩
      ·exact ⟨rfl,rfl,trivial⟩
      ·exact ⟨.inl rfl,.inl rfl,trivial⟩
      rw [hS1]
      conv=>whnf
      rw [wrap_succ i (by omega)]
      refine ⟨i+1,rfl,rfl,?_,hi,by omega⟩
      rw [bH_ne hne]
      rfl
    ·have:=of_decide_eq_false hb
     rw [e0] at this
     omega
   ·conv=>whnf
    refine ⟨fun hb=>?_,fun hb=>?_⟩
    ·clear hb
     conv=>whnf
     rw [getD_enc _ _ i [] hi,hss]
     refine ⟨idxA hi rfl,?_⟩
     conv=>whnf
     refine .inr ⟨[(185000006,185000006),(6000090,6000090)],_,_,_,_,s_W1 (c0 :: bs) shpB (by simp) (by decide) (by have:shpB.length=5:=rfl;omega),⟨rfl,by kernel_rfl,?_,?_⟩,?_⟩
     ·exact ⟨rfl,rfl,trivial⟩
     ·exact ⟨.inl rfl,.inl rfl,trivial⟩
     conv=>whnf
     refine dwp_loopU (P:=Tryz.prog) (G:=GC) (k:=dk75_0) (b:=db75_0) (α:=Nat) (fun k=>[(25,DV.int .i64 (k))]) (fun k=>[(bN,.box 2 (.agg [.bptr bN 0,.own rN 0 ((c0 :: bs)++shpB++wn (numsV (s.take k))).length ((c0 :: bs)++shpB++wn (numsV (s.take k))).length])),(rN,.row 1 (byD ((c0 :: bs)++shpB++wn (numsV (s.take k)))) false)]) (fun k=>k≤s.length) (fun k=>s.length - k) 0 (Nat.zero_le _) ?_
     conv=>whnf
     refine ⟨rfl,by show _=[(bN,DObj.box 2 (.agg [.bptr bN 0,.own rN 0 (((c0 :: bs)++shpB)++[]).length (((c0 :: bs)++shpB)++[]).length])),(rN,.row 1 (byD (((c0 :: bs)++shpB)++[])) false)];rw [List.append_nil];rfl,?_⟩
     conv=>whnf
     refine ⟨rfl,?_⟩
     intro k hk1
     have hpk:=okS_take hSi k
     have e5:shpB.length=5:=rfl
     conv=>whnf
     refine ⟨fun hb=>?_,fun hb=>?_⟩
     ·have hk:k < s.length:=by have:=of_decide_eq_true hb;rw [e1] at this;omega
      have hv:=(hSi.2.2 _ (getD_in V0 hk)).1
      have hsk:=numsV_take s k hk
      clear hb
      conv=>whnf
      rw [getD_enc _ _ k V0 hk]
      refine ⟨idxA hk rfl,?_⟩
      generalize hpp:s.getD k V0=v at *
      obtain ⟨hx,hy,hz⟩:=hv
      have t1:=Lib.itoa_length_le v.x (by omega) (by omega)
      have t2:=Lib.itoa_length_le v.y (by omega) (by omega)
      have t3:=Lib.itoa_length_le v.z (by omega) (by omega)
      have k1:=s_Itoa v.x (by omega) (by omega)
      have k2:=s_Itoa v.y (by omega) (by omega)
      have k3:=s_Itoa v.z (by omega) (by omega)
      have hS1:((c0 :: bs)++shpB++wn (numsV (s.take k)))++([32]++Lib.itoa v.x++[32]++Lib.itoa v.y++[32]++Lib.itoa v.z)=(c0 :: bs)++shpB++wn (numsV (s.take (k+1))):=by
       rw [hsk,wn_append]
       simp [wn,Lib.joinTail]
      have hVne:((c0 :: bs)++shpB++wn (numsV (s.take k)))≠[]:=by unfold shpB;simp
      have hVl:((c0 :: bs)++shpB++wn (numsV (s.take k))).length≤5000:=by simp only [List.length_append,List.length_cons,List.length_nil] at hpl ⊢;omega
      generalize hV:((c0 :: bs)++shpB++wn (numsV (s.take k)))=V at *
      conv=>whnf
      refine .inl ?_
      conv=>whnf
      refine ⟨_,k1 ..,?_⟩
      conv=>whnf
      refine ⟨by simp only [List.length_append,List.length_cons,List.length_nil];omega,?_⟩
      conv=>whnf
      refine ⟨by simp only [List.length_append,List.length_cons,List.length_nil];omega,?_⟩
      conv=>whnf
      refine .inl ?_
      conv=>whnf
      refine ⟨_,k2 ..,?_⟩
      conv=>whnf
      refine ⟨by simp only [List.length_append,List.length_cons,List.length_nil];omega,?_⟩
      conv=>whnf
      refine ⟨by simp only [List.length_append,List.length_cons,List.length_nil];omega,?_⟩
      conv=>whnf
      refine .inl ?_
      conv=>whnf
      refine ⟨_,k3 ..,?_⟩
      conv=>whnf
      refine ⟨by simp only [List.length_append,List.length_cons,List.length_nil];omega,?_⟩
      conv=>whnf
      refine .inr ⟨[(185000006,185000006),(6000090,6000090)],_,_,_,_,s_W1 V ([32]++Lib.itoa v.x++[32]++Lib.itoa v.y++[32]++Lib.itoa v.z) hVne (by simp) (by simp only [List.length_append,List.length_cons,List.length_nil];omega),⟨rfl,by kernel_rfl,?_,?_⟩,?_⟩
      ·exact ⟨rfl,rfl,trivial⟩
      ·exact ⟨.inl rfl,.inl rfl,trivial⟩
      rw [hS1]
      conv=>whnf
      refine ⟨by kernel_rfl,?_⟩
      conv=>whnf
      rw [wrap_succ k (by omega)]
      exact ⟨k+1,rfl,rfl,rfl,hk,by omega⟩
     ·have hk:k=s.length:=by have:=of_decide_eq_false hb;rw [e1] at this;omega
      clear hb
      have hVne:((c0 :: bs)++shpB++wn (numsV (s.take k)))≠[]:=by unfold shpB;simp
      have hVl:((c0 :: bs)++shpB++wn (numsV (s.take k))).length≤5000:=by simp only [List.length_append,List.length_cons,List.length_nil] at hpl ⊢;omega
      have hS1:((c0 :: bs)++shpB++wn (numsV (s.take k)))++[10]=prtH (l.take (i+1)):=by
       rw [hsu,hk,List.take_length]
       unfold linB
       simp
      have hne:prtH (l.take (i+1))≠[]:=by rw [← hS1];simp
      generalize hV:((c0 :: bs)++shpB++wn (numsV (s.take k)))=V at *
      conv=>whnf
      refine .inr ⟨[(185000006,185000006),(6000090,6000090)],_,_,_,_,s_W1 V [10] hVne (by simp) (by simp only [List.length_append,List.length_cons,List.length_nil];omega),⟨rfl,by kernel_rfl,?_,?_⟩,?_⟩
      ·exact ⟨rfl,rfl,trivial⟩
      ·exact ⟨.inl rfl,.inl rfl,trivial⟩
      rw [hS1]
      conv=>whnf
      rw [wrap_succ i (by omega)]
      refine ⟨i+1,rfl,rfl,?_,hi,by omega⟩
      rw [bH_ne hne]
      rfl
    ·have:=of_decide_eq_false hb
     rw [e0] at this
     omega
  ·have hi:i=l.length:=by omega
   rw [hi,List.take_length]
   have hpl:=prtH_len h8 hS
   generalize prtH l=bs at *
   rcases bs with _|⟨c0,bs⟩
   ·conv=>whnf
    refine ⟨fun hb=>?_,fun hb=>?_⟩
    ·have:=of_decide_eq_true hb;rw [e0] at this;omega
    ·clear hb
     conv=>whnf
     refine .inr ⟨[(185000006,185000006)],_,_,_,_,s_S0,⟨rfl,by kernel_rfl,?_,?_⟩,?_⟩
     ·exact ⟨rfl,trivial⟩
     ·exact ⟨.inl rfl,trivial⟩
     conv=>whnf
     rfl
   ·conv=>whnf
    refine ⟨fun hb=>?_,fun hb=>?_⟩
    ·have:=of_decide_eq_true hb;rw [e0] at this;omega
    ·clear hb
     conv=>whnf
     refine .inr ⟨[(185000006,185000006),(6000090,6000090)],_,_,_,_,s_S1 (c0 :: bs) (by simp) (by omega),⟨rfl,by kernel_rfl,?_,?_⟩,?_⟩
     ·exact ⟨rfl,rfl,trivial⟩
     ·exact ⟨.inl rfl,.inl rfl,trivial⟩
     conv=>whnf
     rfl
end Sh

namespace Sh
open Go Go.Proofs
theorem bad_nm {b:List UInt8} {m:Bool} (h:(b.all isD && decide (b.length≤9))=false):nmS b m=(0,false):=by
 unfold nmS;rw [h];rfl
theorem c_number (s:List UInt8) (hs:s.length < 1073741824):PC 162 [.str s] (.tuple [DV.int .i64 ((sgnS s).1),.bool (sgnS s).2]):=by
 have hb:=trimP_len s [45]
 have k1:=s_CutPrefix s [45] (by omega)
 rw [sgn_nm s]
 generalize Lib.trimPrefix s [45]=b at *
 generalize Lib.hasPrefix s [45]=m at *
 refine pureCall_ofR dh162 rfl ?_
 conv=>whnf
 repeat' (first
  |(refine ⟨fun hg=>?_,fun hg=>?_⟩<;>first|contradiction|(conv=>whnf))
  |(refine Or.inl ?_;conv=>whnf)
  |(refine ⟨_,k1,?_⟩;conv=>whnf)
  |(refine And.intro ?_ ?_;kernel_rfl;conv=>whnf))
 refine dwp_loopU (P:=Tryz.prog) (G:=GC) (k:=dk162_0) (b:=db162_0) (α:=Nat) (fun k=>[(6,DV.int .i64 (valD (b.take k) 0))]) (fun k=>[(15,.siter b k)]) (fun k=>k≤b.length∧(b.take k).all isD=true∧(0 < k→b.length≤9)) (fun k=>b.length - k) 0 ⟨Nat.zero_le _,rfl,fun h=>absurd h (by omega)⟩ ?_
 conv=>whnf
 refine ⟨rfl,rfl,?_⟩
 conv=>whnf
 refine ⟨rfl,?_⟩
 intro k ⟨h1,h2,h3⟩
 by_cases hk:k < b.length
 ·have hb:Nat.blt k b.length=true:=Nat.ble_eq_true_of_le hk
  dsimp only
  conv=>whnf
  generalize hE:evalOp _ _ _ _=E
  have:E=.ok none (.tuple [.bool true,DV.int .i64 ((k:Nat)),.int .i32 ((sdecode b k).1:Nat)]) [(15,.siter b (k+(sdecode b k).2))]:=by
   rw [← hE]
   show (match Nat.blt k b.length with
    |true=>Ev.ok none (.tuple [.bool true,DV.int .i64 ((k:Nat)),.int .i32 ((sdecode b k).1:Nat)]) [(15,.siter b (k+(sdecode b k).2))]
    |false=>Ev.ok none (.tuple [.bool false]) [])=_
   rw [hb]
  subst this
  clear hE
  cases hd:isD (b.getD k 0) with
  |true =>
   rw [rune_yes b k hd]
   dsimp only
   have hd2:=(isD_iff _).1 hd
   have hst:valD (b.take (k+1)) 0=10 * valD (b.take k) 0+(((b.getD k 0).toNat:Int) - 48):=by
    rw [take_snoc b k 0 hk,valD_append];rfl
   have hall:(b.take (k+1)).all isD=true:=all_take isD b k 0 hk h2 hd
   generalize hcc:(b.getD k 0).toNat=c at *
   conv=>whnf
   repeat' (first
    |(refine ⟨fun hg=>?_,fun hg=>?_⟩<;>first|contradiction|(conv=>whnf))
    |(refine Or.inl ?_;conv=>whnf)
    |(refine And.intro ?_ ?_;kernel_rfl;conv=>whnf))
   any_goals
    rw [show nmS b m=(0,false) from by
     refine bad_nm ?_
     cases hq:(b.all isD && decide (b.length≤9)) with
     |false=>rfl
     |true =>
     exfalso
     have h:=hq
     rw [Bool.and_eq_true,decide_eq_true_eq] at h
     first
     |(have:=of_decide_eq_true (show decide ((9:Int) < (b.length:Int))=true from ‹(bif false then true else decide ((9:Int) < (b.length:Int)))=true›);omega)
     |(have:=of_decide_eq_true (show decide ((57:Int) < (c:Int))=true from ‹(bif false then true else decide ((57:Int) < (c:Int)))=!false›);omega)
     |(have:=of_decide_eq_true (show decide ((c:Int) < 48)=true from ‹decide ((c:Int) < 48)=!false›);omega)]
    rfl
   have h9:=of_decide_eq_false (show decide ((9:Int) < (b.length:Int))=false from hg)
   have hv:=valD_bd (b.take k) 0 0 h2 (Int.le_refl _) (by decide)
   have hp:(10:Int) ^ (0+(b.take k).length)≤10 ^ 9:=by
    have:(10:Nat) ^ (0+(b.take k).length)≤10 ^ 9:=Nat.pow_le_pow_right (by decide) (by simp;omega)
    exact_mod_cast this
   have hp9:(10:Int) ^ 9=1000000000:=by decide
   have ew:IntKind.i64.wrap (IntKind.i64.wrap (10 * valD (b.take k) 0)+IntKind.i64.wrap (IntKind.i32.wrap ((c:Int) - 48)))=valD (b.take (k+1)) 0:=by
    rw [hst,wrap_i32 (by omega) (by omega),wrap_in (n:=(c:Int) - 48) (by omega) (by omega),wrap_in (n:=10 * valD (b.take k) 0) (by omega) (by omega),wrap_in (by omega) (by omega)]
   rw [ew]
   exact ⟨k+1,rfl,rfl,rfl,⟨hk,hall,fun _=>by omega⟩,by omega⟩
  |false =>
   have hr:=rune_no b k hd
   generalize (sdecode b k).1=r at *
   generalize (sdecode b k).2=q at *
   have hno:b.all isD=false:=all_no 0 hk hd
   conv=>whnf
   repeat' (first
    |(refine ⟨fun hg=>?_,fun hg=>?_⟩<;>first|contradiction|(conv=>whnf))
    |(refine Or.inl ?_;conv=>whnf)
    |(refine And.intro ?_ ?_;kernel_rfl;conv=>whnf))
   any_goals
    rw [show nmS b m=(0,false) from bad_nm (by rw [hno];rfl)]
    rfl
   exfalso
   have h57:=of_decide_eq_false (show decide ((57:Int) < (r:Int))=false from ‹(bif false then true else decide ((57:Int) < (r:Int)))=false›)
   have h48:=of_decide_eq_false ‹decide ((r:Int) < 48)=false›
   omega
 ·have hb:Nat.blt k b.length=false:=by
   cases h:Nat.blt k b.length with
   |false=>rfl
   |true=>exact absurd (Nat.le_of_ble_eq_true h) hk
  have hks:k=b.length:=by omega
  subst hks
  dsimp only
  conv=>whnf
  generalize hE:evalOp _ _ _ _=E
  have:E=.ok none (.tuple [.bool false]) []:=by
   rw [← hE]
   show (match Nat.blt b.length b.length with
    |true=>Ev.ok none (.tuple [.bool true,DV.int .i64 ((b.length:Nat)),.int .i32 ((sdecode b b.length).1:Nat)]) [(15,.siter b (b.length+(sdecode b b.length).2))]
    |false=>Ev.ok none (.tuple [.bool false]) [])=_
   rw [hb]
  subst this
  clear hE
  rw [List.take_length] at h2
  have hl9:b.length≤9:=by
   by_cases h0:0 < b.length
   ·exact h3 h0
   ·omega
  have hcond:(b.all isD && decide (b.length≤9))=true:=by rw [h2,decide_eq_true hl9];rfl
  have hv:=valD_bd b 0 0 h2 (Int.le_refl _) (by decide)
  have hp:(10:Int) ^ (0+b.length)≤10 ^ 9:=by
   have:(10:Nat) ^ (0+b.length)≤10 ^ 9:=Nat.pow_le_pow_right (by decide) (by omega)
   exact_mod_cast this
  have hp9:(10:Int) ^ 9=1000000000:=by decide
  have hneg:IntKind.i64.wrap (-(valD b 0)) = -(valD b 0):=wrap_in (by omega) (by omega)
  rw [List.take_length]
  by_cases h0:b=[]
  ·have hnm:nmS b m=(0,false):=by unfold nmS;rw [hcond,decide_eq_false (show ¬ b≠[] from fun h=>h h0)];rfl
   rw [hnm]
   clear hnm hneg hv hp hcond
   subst h0
   conv=>whnf
   repeat' (first
    |(refine ⟨fun hg=>?_,fun hg=>?_⟩<;>first|contradiction|(conv=>whnf))
    |(refine Or.inl ?_;conv=>whnf)
    |(refine And.intro ?_ ?_;kernel_rfl;conv=>whnf))
   all_goals rfl
  ·have hl0:=List.length_pos_iff.2 h0
   have hnm:nmS b m=if (decide (b.getD 0 0=48) && (decide (1 < b.length) || m)) then (0,false) else (if m then -(valD b 0) else valD b 0,true):=by
    unfold nmS;rw [hcond,decide_eq_true h0]
    cases (decide (b.getD 0 0=48) && (decide (1 < b.length) || m))<;>rfl
   have h48:decide (((b.getD 0 0).toNat:Int)=48)=decide (b.getD 0 0=48):=by
    have h48:(48:UInt8).toNat=48:=rfl
    congr 1;apply propext
    exact ⟨fun h=>UInt8.toNat_inj.1 (by omega),fun h=>by rw [h];rfl⟩
   have h1l:decide ((1:Int) < (b.length:Int))=decide (1 < b.length):=by congr 1;apply propext;omega
   have hbe:decide (b=(⟨#[]⟩:ByteArray).data.toList)=false:=decide_eq_false h0
   clear hcond hv hp hp9 hbe
   cases m
   all_goals
    conv=>whnf
    repeat' (first
     |(refine ⟨fun hg=>?_,fun hg=>?_⟩<;>first|contradiction|(conv=>whnf))
     |(refine Or.inl ?_;conv=>whnf)
     |(refine ⟨⟨by decide,by omega⟩,?_⟩;conv=>whnf)
     |(refine And.intro ?_ ?_;kernel_rfl;conv=>whnf))
    all_goals
     first
     |(exfalso;exact h0 (of_decide_eq_true (show decide (b=[])=true from ‹decide (b=(⟨#[]⟩:ByteArray).data.toList)=!false›)))
     |(exfalso;exact h0 (of_decide_eq_true (show decide (b=[])=true from ‹decide (b=(⟨#[]⟩:ByteArray).data.toList)=true›)))
     |(rw [hnm]
       first
       |(have hX:decide (b.getD 0 0=48)=false:=by (rw [← h48];(first|exact ‹decide (((b.getD (Int.toNat 0) 0).toNat:Int)=48)=false›|exact ‹decide (((b.getD (Int.toNat 0) 0).toNat:Int)=48)=!true›))
         rw [hX]
         first|rfl|(rw [hneg];rfl))
       |(have hX:decide (b.getD 0 0=48)=true:=by (rw [← h48];(first|exact ‹decide (((b.getD (Int.toNat 0) 0).toNat:Int)=48)=true›|exact ‹decide (((b.getD (Int.toNat 0) 0).toNat:Int)=48)=!false›))
         rw [hX]
         first
         |rfl
         |(have hY:decide (1 < b.length)=true:=by (rw [← h1l];(first|exact ‹decide ((1:Int) < (b.length:Int))=true›|exact ‹decide ((1:Int) < (b.length:Int))=!false›))
           rw [hY];rfl)
         |(have hY:decide (1 < b.length)=false:=by (rw [← h1l];(first|exact ‹decide ((1:Int) < (b.length:Int))=false›|exact ‹decide ((1:Int) < (b.length:Int))=!true›))
           rw [hY]
           first|rfl|(rw [hneg];rfl))))
end Sh

namespace Sh
open Go Go.Proofs
def takO (ws:List (List UInt8)) (wr:Bool):DObj:=.box 2 (.agg [strs ws,.bool wr])
theorem window_tail {α β:Type} (f:α→β) (a:α) (l:List α):window ((a :: l).map f) (Int.toNat 1) (Int.toNat ((((a :: l).map f).length:Int) - 1))=l.map f:=by
 unfold window
 rw [show Int.toNat 1=1 from rfl,List.map_cons,List.drop_succ_cons,List.drop_zero,List.take_of_length_le (by simp)]
theorem c_take (ws:List (List UInt8)) (wr:Bool) (h:∀ w ∈ ws,w.length < 1073741824):HCall Tryz.prog GC 140 [.bptr 1 0] [(1,takO ws wr)] (DV.int .i64 (numT ws)) [(1,takO (ws.drop 1) (wrT wr ws))]:=by
 refine hCall_ofR dh140 rfl (by kernel_rfl) (by kernel_rfl) ?_
 conv=>whnf
 cases ws with
 |nil =>
  refine ⟨fun _=>?_,fun hg=>?_⟩
  ·conv=>whnf
   exact ⟨rfl,rfl⟩
  ·exact absurd hg (by decide)
 |cons w r =>
  have hw:=h w (List.mem_cons_self ..)
  refine ⟨fun hg=>?_,fun hg=>?_⟩
  ·exfalso
   have:=of_decide_eq_true hg
   simp only [List.map_cons,List.length_cons] at this
   omega
  ·conv=>whnf
   refine ⟨⟨by decide,by simp,rfl⟩,?_⟩
   repeat' (first
    |(refine ⟨fun hg=>?_,fun hg=>?_⟩<;>first|contradiction|(conv=>whnf))
    |(refine Or.inl ?_;conv=>whnf)
    |(refine ⟨_,c_number w hw,?_⟩;conv=>whnf)
    |(refine And.intro ?_ ?_;kernel_rfl;conv=>whnf))
   refine ⟨⟨by decide,by simp;omega,by omega,fun e he=>by obtain ⟨x,_,rfl⟩:=List.mem_map.1 he;rfl⟩,?_⟩
   rw [window_tail]
   conv=>whnf
   refine ⟨fun hg=>?_,fun hg=>?_⟩
   ·have hg:wr=false:=hg
    subst hg
    conv=>whnf
    exact ⟨rfl,rfl⟩
   ·have hg:wr=true:=hg
    subst hg
    conv=>whnf
    exact ⟨rfl,rfl⟩
end Sh

namespace Sh
open Go
def db76_0 : DC := (.seq (.seq (.ops false [⟨some 34,.mov (.tmp 10),none,[]⟩,⟨some 35,.nilCheck (.tmp 34),none,[]⟩,⟨some 36,.faddr 0 1 false (.tmp 35),none,[]⟩,⟨some 37,.load none (.tmp 36),none,[]⟩,⟨some 38,.len (.tmp 37),none,[]⟩,⟨some 39,.bin .gtr (.tmp 38) (.const (.int .i64 0)),none,[]⟩]) (.cond (.tmp 39) .skip (.exit 2))) (.block 3 none (.seq (.ops false [⟨some 40,.mov (.tmp 11),none,[]⟩,⟨some 41,.call (.tmp 40) [],none,[]⟩,⟨some 42,.build [.int .i64 0,.int .i64 0,.int .i64 0] [(0,(1,(.tmp 41)))],none,[]⟩,⟨some 13,.alloc (.agg [.int .i64 0,.int .i64 0,.int .i64 0]) 3,none,[]⟩,⟨none,.store 3 (.tmp 13) (.tmp 42),none,[]⟩]) (.seq (.ops false [⟨some 43,.mov (.tmp 11),none,[]⟩,⟨some 44,.call (.tmp 43) [],none,[]⟩,⟨some 45,.faddr 1 1 false (.tmp 13),none,[]⟩,⟨none,.store 1 (.tmp 45) (.tmp 44),none,[]⟩]) (.seq (.ops false [⟨some 46,.mov (.tmp 11),none,[]⟩,⟨some 47,.call (.tmp 46) [],none,[]⟩,⟨some 48,.faddr 2 1 false (.tmp 13),none,[]⟩,⟨none,.store 1 (.tmp 48) (.tmp 47),none,[]⟩]) (.ops false [⟨some 49,.mov (.tmp 12),none,[]⟩,⟨some 50,.load (some 3) (.tmp 13),none,[]⟩,⟨some 51,.lit true 3 1 (.agg [.int .i64 0,.int .i64 0,.int .i64 0]) [(0,(.tmp 50))],none,[]⟩,⟨some 52,.append false 3 (.tmp 49) (.tmp 51),none,[]⟩,⟨some 12,.mov (.tmp 52),none,[]⟩]))))))
def dk76_0 : Keep := ⟨[(12,3)],[2,3,4,5,8,9,10,11,12],[2,3,4,5,12,31,71,72]⟩
def db76_1x : DC := (.ops false [⟨some 6,.mov (.tmp 20),none,[]⟩])
def db76_1 : DC := (.block 1 (some ⟨[],[],[2,3,4,5,72]⟩) (.seq (.ops false [⟨some 22,.mov (.tmp 6),none,[]⟩,⟨some 23,.call (.func 138) [.tmp 22,.const (.string ⟨#[10]⟩)],none,[]⟩,⟨some 21,.mov (.tmp 23),none,[]⟩,⟨some 24,.extract (.tmp 21) 0,none,[]⟩,⟨some 25,.extract (.tmp 21) 1,none,[]⟩,⟨some 7,.mov (.tmp 24),none,[]⟩,⟨some 8,.mov (.tmp 25),none,[]⟩]) (.seq (.ops false [⟨some 26,.mov (.tmp 7),none,[]⟩,⟨some 27,.call (.func 139) [.tmp 26,.const (.string ⟨#[32]⟩)],none,[]⟩,⟨some 9,.mov (.tmp 27),none,[]⟩]) (.seq (.ops false [⟨some 28,.mov (.tmp 9),none,[]⟩,⟨some 29,.slice 1 (.tmp 28) (some (.const (.int .i64 1))) none none,none,[]⟩,⟨some 30,.build [.full [],.bool false] [(0,(1,(.tmp 29)))],none,[]⟩,⟨some 31,.box 2 (.tmp 30),none,[]⟩,⟨some 10,.mov (.tmp 31),none,[]⟩]) (.seq (.ops false [⟨some 32,.mov (.tmp 10),none,[]⟩,⟨some 33,.mkmeth 140 [.tmp 32],none,[]⟩,⟨some 11,.mov (.tmp 33),none,[]⟩]) (.seq (.ops false [⟨some 12,.mov (.const (.slice none 0 0)),none,[]⟩]) (.seq (.block 2 (some ⟨[],[2,3,4,5,8,9,10,12],[2,3,4,5,12,31,71,72]⟩) (.loop dk76_0 db76_0)) (.seq (.seq (.ops false [⟨some 53,.mov (.tmp 8),none,[]⟩,⟨some 54,.un .not (.tmp 53),none,[]⟩,⟨some 55,.mov (.tmp 54),none,[]⟩,⟨some 56,.mov (.tmp 9),some (55,false),[]⟩,⟨some 57,.iaddr 1 (.tmp 56) (.const (.int .i64 0)),some (55,false),[]⟩,⟨some 58,.load none (.tmp 57),some (55,false),[]⟩,⟨some 59,.bin .neq (.tmp 58) (.const (.string ⟨#[115,104,97,112,101]⟩)),some (55,false),[]⟩,⟨some 60,.pick (.tmp 55) (.const (.bool true)) (.tmp 59),none,[]⟩,⟨some 61,.mov (.tmp 60),none,[]⟩,⟨some 62,.mov (.tmp 10),some (61,false),[]⟩,⟨some 63,.nilCheck (.tmp 62),some (61,false),[]⟩,⟨some 64,.faddr 1 1 false (.tmp 63),some (61,false),[]⟩,⟨some 65,.load none (.tmp 64),some (61,false),[]⟩,⟨some 66,.pick (.tmp 61) (.const (.bool true)) (.tmp 65),none,[]⟩]) (.cond (.tmp 66) (.seq (.ops true [⟨some 67,.load none (.tmp 5),none,[]⟩,⟨some 68,.len (.tmp 67),none,[0]⟩,⟨none,.store 1 (.tmp 2) (.const (.slice none 0 0)),none,[]⟩,⟨none,.store 1 (.tmp 3) (.tmp 68),none,[1,0,2]⟩,⟨none,.store 1 (.tmp 4) (.const (.int .i64 25)),none,[3,1,0,2]⟩]) .ret) .skip)) (.ops false [⟨some 69,.load none (.tmp 5),none,[]⟩,⟨some 70,.mov (.tmp 12),none,[]⟩,⟨some 71,.lit true 1 1 (.full []) [(0,(.tmp 70))],none,[]⟩,⟨some 72,.append false 1 (.tmp 69) (.tmp 71),none,[]⟩,⟨none,.store 1 (.tmp 5) (.tmp 72),none,[]⟩])))))))))
def dk76_1 : Keep := ⟨[],[2,3,4,5],[2,3,4,5,72]⟩
def dc76 : DFunc := ⟨81,1,[.cell 2 none,.cell 3 none,.cell 4 none],.seq (.ops false [⟨some 2,.alloc (.full []) 1,none,[]⟩,⟨some 3,.alloc (.int .i64 0) 1,none,[]⟩,⟨some 4,.alloc (.int .i64 0) 1,none,[]⟩]) (.seq (.seq (.ops false [⟨some 15,.mov (.tmp 0),none,[]⟩,⟨some 16,.lenS (.tmp 15),none,[]⟩,⟨some 17,.bin .gtr (.tmp 16) (.const (.int .i64 4096)),none,[]⟩]) (.cond (.tmp 17) (.seq (.ops false [⟨none,.store 1 (.tmp 2) (.const (.slice none 0 0)),none,[]⟩,⟨none,.store 1 (.tmp 3) (.const (.int .i64 0)),none,[]⟩,⟨none,.store 1 (.tmp 4) (.const (.int .i64 26)),none,[]⟩]) .ret) .skip)) (.seq (.ops false [⟨some 5,.alloc (.full []) 1,none,[]⟩]) (.seq (.seq (.ops false [⟨some 18,.mov (.tmp 0),none,[]⟩,⟨some 19,.call (.func 137) [.tmp 18],none,[]⟩]) (.block 0 (some ⟨[],[2,3,4,5],[2,3,4,5,72]⟩) (.rangeF dk76_1 (.tmp 19) [20] db76_1x db76_1))) (.seq (.seq (.ops false [⟨some 73,.load none (.tmp 5),none,[]⟩,⟨some 74,.call (.func 92) [.tmp 73],none,[]⟩,⟨some 14,.mov (.tmp 74),none,[]⟩]) (.seq (.ops false [⟨some 75,.mov (.tmp 14),none,[]⟩,⟨some 76,.bin .neq (.tmp 75) (.const (.int .i64 0)),none,[]⟩]) (.cond (.tmp 76) (.seq (.ops true [⟨some 77,.load none (.tmp 5),none,[]⟩,⟨some 78,.len (.tmp 77),none,[0]⟩,⟨some 79,.mov (.tmp 14),none,[]⟩,⟨none,.store 1 (.tmp 2) (.const (.slice none 0 0)),none,[]⟩,⟨none,.store 1 (.tmp 3) (.tmp 78),none,[1,0,3]⟩,⟨none,.store 1 (.tmp 4) (.tmp 79),none,[2,4,1,0,3]⟩]) .ret) .skip))) (.seq (.ops false [⟨some 80,.load none (.tmp 5),none,[]⟩,⟨none,.store 1 (.tmp 2) (.tmp 80),none,[]⟩,⟨none,.store 1 (.tmp 3) (.const (.int .i64 0)),none,[]⟩,⟨none,.store 1 (.tmp 4) (.const (.int .i64 0)),none,[]⟩]) .ret)))))⟩
theorem dh76:cProg Go.Proofs.Tryz.prog ⟨[(0,⟨[],[2,3,4,5],[2,3,4,5,72]⟩),(2,⟨[(12,3)],[2,3,4,5,8,9,10,11,12],[2,3,4,5,12,31,71,72]⟩)],[(2,⟨[],[2,3,4,5,8,9,10,12],[2,3,4,5,12,31,71,72]⟩),(1,⟨[],[],[2,3,4,5,72]⟩),(0,⟨[],[2,3,4,5],[2,3,4,5,72]⟩)],[51,71]⟩ 76=some dc76:=by kernel_rfl
def dc137 : DFunc := ⟨4,1,[.tmp 2],.seq (.ops false [⟨some 1,.box 1 (.tmp 0),none,[]⟩,⟨some 2,.mov (.const .nilFunc),none,[]⟩]) (.seq (.ops false [⟨some 3,.mkfunc 158 [.tmp 1],none,[]⟩,⟨some 2,.mov (.tmp 3),none,[]⟩]) .ret)⟩
theorem dh137:cProg Go.Proofs.Tryz.prog ⟨[],[],[]⟩ 137=some dc137:=by kernel_rfl
end Sh

namespace Sh
open Go Go.Proofs
def lns (s:List UInt8):List (List DV):=(linesC s).map fun l=>[DV.str l]
theorem linesIt (s:List UInt8) (hs:s.length < 1073741824):ISeqW Tryz.prog GC 158 [.bptr 19 0] [(19,.box 1 (.str s))] (lns s):=by
 refine iseqW_of dh158 rfl rfl (by kernel_rfl) rfl (fun x hx=>by obtain ⟨v,_,rfl⟩:=List.mem_map.1 hx;rfl) (fun gl=>?_)
 conv=>whnf
 refine dwp_loopY (P:=Tryz.prog) (G:=GC) (k:=dk158_0) (b:=db158_0) (α:=List UInt8) (fun r=>[(0,.dict 0),(1,.bptr 19 0)]) (fun r=>[(0,.ghost (lns r) true gl),(19,.box 1 (.str r))]) (fun r=>r.length < 1073741824) (fun r=>r.length) s ⟨rfl,rfl,rfl⟩ hs ?_
 intro r hr
 conv=>whnf
 refine ⟨fun hb=>?_,fun hb=>?_⟩
 ·have hl:0 < r.length:=by have:(0:Int) < r.length:=of_decide_eq_true hb;omega
  clear hb
  have hix:=lines_idx r (List.length_pos_iff.1 hl)
  conv=>whnf
  repeat' (first
   |(refine ⟨fun hg=>?_,fun hg=>?_⟩<;>first|contradiction|(conv=>whnf))
   |(refine Or.inl ?_;conv=>whnf)
   |(refine ⟨_,s_IndexByte r 10,?_⟩;conv=>whnf)
   |(refine And.intro ?_ ?_;kernel_rfl;conv=>whnf))
  ·have hg:0≤Lib.indexByte r 10:=of_decide_eq_true hg
   obtain ⟨i,h1,h2,h3⟩:∃ i:Nat,Lib.indexByte r 10=i∧i < r.length∧linesC r=r.take (i+1) :: linesC (r.drop (i+1)):=by
    rcases hix with ⟨h1,_⟩|h
    ·omega
    ·exact h
   have hL:lns r=[DV.str (r.take (i+1))] :: lns (r.drop (i+1)):=by unfold lns;rw [h3];rfl
   have hdl:(r.drop (i+1)).length < r.length:=by simp;omega
   rw [hL,h1,wrap_succ i (by omega)]
   refine ⟨⟨by decide,by omega,by omega⟩,?_⟩
   rw [show (((i+1:Nat):Int) - 0).toNat=i+1 by omega,show Int.toNat 0=0 from rfl,window_take r (i+1) (by omega)]
   conv=>whnf
   rw [wrap_succ i (by omega)]
   refine ⟨⟨by omega,by omega,by omega⟩,?_⟩
   rw [show ((r.length:Int) - ((i+1:Nat):Int)).toNat=r.length - (i+1) by omega,Int.toNat_natCast,window_drop]
   conv=>whnf
   generalize r.take (i+1)=u at *
   generalize r.drop (i+1)=q at *
   refine ⟨?_,?_⟩
   ·kernel_rfl
   conv=>whnf
   refine ⟨rfl,fun b=>?_⟩
   conv=>whnf
   refine ⟨fun hg=>?_,fun hg=>?_⟩
   ·have hg:b=false:=by simpa using hg
    subst hg
    conv=>whnf
    intro e;cases e
   ·have hg:b=true:=by simpa using hg
    subst hg
    conv=>whnf
    exact ⟨q,rfl,rfl,rfl,by omega,hdl⟩
  ·have hg:¬ 0≤Lib.indexByte r 10:=of_decide_eq_false hg
   have h3:linesC r=[r]:=by
    rcases hix with ⟨_,h⟩|⟨i,h1,_⟩
    ·exact h
    ·omega
   have hL:lns r=[DV.str r] :: lns []:=by unfold lns;rw [h3];rfl
   rw [hL]
   refine ⟨rfl,fun b=>?_⟩
   conv=>whnf
   refine ⟨fun hg=>?_,fun hg=>?_⟩
   ·have hg:b=false:=by simpa using hg
    subst hg
    conv=>whnf
    intro e;cases e
   ·have hg:b=true:=by simpa using hg
    subst hg
    conv=>whnf
    exact ⟨[],rfl,rfl,rfl,by simp,hl⟩
 ·have hl:r=[]:=by have:¬ (0:Int) < r.length:=of_decide_eq_false hb;exact List.eq_nil_of_length_eq_zero (by omega)
  subst hl
  conv=>whnf
  intro _
  rfl
theorem s_Lines (s:List UInt8):HCall Tryz.prog GC 137 [.str s] [] (.func 158 [.bptr 1 0]) [(1,.box 1 (.str s))]:=by
 refine hCall_ofR dh137 rfl (by kernel_rfl) (by kernel_rfl) ?_
 conv=>whnf
 exact ⟨rfl,rfl⟩
theorem rounds_invI {body:(DExit→SP)→SP} {kh ps:List Nat} {Q:DExit→SP} {t:Tmps} {xs:List (List DV)} (H:Nat→Heap) (inv:Nat→Prop) (h0:inv 0)
  (mono:∀ (R R':DExit→SP) (t:Tmps) (s:Heap),(∀ e t s,R e t s→R' e t s)→body R t s→body R' t s)
  (step:∀ i x,xs[i]?=some x→inv i→body (fun e _ h'=>boxesOk kh (hlook h') kh=true∧match e with
    |.normal=>keepH kh (hlook h') kh=H (i+1)∧inv (i+1)
    |e=>Q e t (keepH kh (hlook h') kh)) (setPs ps x t) (H i))
  (fin:inv xs.length→Q .normal t (H xs.length)):roundsN body kh ps Q t xs (H 0):=by
 have key:∀ (r:List (List DV)) (i:Nat),i≤xs.length→xs.drop i=r→inv i→roundsN body kh ps Q t r (H i):=by
  intro r
  induction r with
  |nil =>
   intro i hl hi hv
   have hle:xs.length≤i:=List.drop_eq_nil_iff.1 hi
   have e:i=xs.length:=by omega
   subst e;exact fin hv
  |cons x r ih =>
   intro i hl hi hv
   have hx:xs[i]?=some x:=by
    have:=congrArg (fun l=>l[0]?) hi
    simpa using this
   unfold roundsN
   refine mono _ _ _ _ (fun e t' s' hh=>⟨hh.1,?_⟩) (step i x hx hv)
   have hh2:=hh.2
   cases e with
   |normal =>
    simp only at hh2 ⊢
    rw [hh2.1]
    refine ih (i+1) (List.getElem?_eq_some_iff.1 hx).1 ?_ hh2.2
    have:=congrArg (List.drop 1) hi
    simpa [List.drop_drop,Nat.add_comm] using this
   |ret=>exact hh2
   |exit j=>exact hh2
 exact key xs 0 (Nat.zero_le _) rfl h0
theorem range_WI {P:Program} {G:Nat→Option DV} {g:FuncId} {n sz:Nat} {d:DV} {k:Keep} {ps:List Nat} {Q:DExit→SP} {t:Tmps} {h:Heap} {x y:DC} (xs:List (List DV)) (H:Nat→Heap) (T:Tmps) (inv:Nat→Prop) (h0:inv 0) (hi:ISeqW P G g [.bptr n 0] [(n,.box sz d)] xs)
  (hp:hlook h n=some (.box sz d)∧pureB d=true) (hn:n≠0) (hk:memB n k.kh=false∧freeOf n h=true) (hl:∀ z ∈ xs,z.length=ps.length)
  (hb:boxesOk k.kh (hlook (cutH n h)) k.kh=true) (hv:livH (keepH k.kh (hlook (cutH n h)) k.kh)=true) (hT:keepT k.kh (hlook (cutH n h)) (cutT n t) k.kt=T) (hH:keepH k.kh (hlook (cutH n h)) k.kh=H 0)
  (step:∀ i z,xs[i]?=some z→inv i→dwpR P G x (seqQ (dwpR P G y (fun e _ h'=>boxesOk k.kh (hlook h') k.kh=true∧match e with
    |.normal=>keepH k.kh (hlook h') k.kh=H (i+1)∧inv (i+1)
    |e=>Q e T (keepH k.kh (hlook h') k.kh))) (fun _ _ _=>False)) (setPs ps z T) (H i))
  (fin:inv xs.length→Q .normal T (H xs.length)):rangeWp P G (fun R=>dwpR P G x (seqQ (dwpR P G y R) (fun _ _ _=>False))) k ps Q (.func g [.bptr n 0]) t h:=by
 unfold rangeWp
 refine .inr ⟨n,sz,d,xs,⟨by simp [capsB],hp.1,hp.2,hn,hk.1,hk.2⟩,hi,hl,hb,hv,?_⟩
 rw [hT,hH]
 refine rounds_invI H inv h0 (fun R R' t s hr hb=>?_) step fin
 rw [dwpR_eq,dwpR_eq] at *
 refine dwp_mono (fun e t s hh=>?_) hb
 cases e with
 |normal=>exact dwp_mono hr hh
 |ret=>exact hh
 |exit i=>exact hh
end Sh

namespace Sh
open Go Go.Proofs
theorem c_numK (D:List (List UInt8)) (k:Nat) (h:∀ w ∈ D,w.length < 1073741824):HCall Tryz.prog GC 140 [.bptr 1 0] [(1,takO (D.drop k) (wrK D k))] (DV.int .i64 (numK D k)) [(1,takO (D.drop (k+1)) (wrK D (k+1)))]:=by
 have:=c_take (D.drop k) (wrK D k) (fun w hw=>h w (List.mem_of_mem_drop hw))
 rw [List.drop_drop] at this
 exact this
def oSW (rows:List (List UInt8)) (i:Nat):List DV:=(outW rows i).map shp
def paH (rows:List (List UInt8)):Nat→Heap
 |0=>[(2,.box 1 (.full [])),(3,.box 1 (DV.int .i64 (0))),(4,.box 1 (DV.int .i64 (0))),(5,.box 1 (.full []))]
 |i+1=>[(2,.box 1 (.full [])),(3,.box 1 (DV.int .i64 (0))),(4,.box 1 (DV.int .i64 (0))),(5,.box 1 (.own 72 0 (oSW rows (i+1)).length (oSW rows (i+1)).length)),(72,.row 1 (oSW rows (i+1)) false)]
set_option maxHeartbeats 1000000 in
theorem c_Parse (s:List UInt8) (hs:s.length≤4097):PC 76 [.str s] (encPar (parS s)):=by
 refine pureCall_ofR dh76 rfl ?_
 conv=>whnf
 refine ⟨fun hg=>?_,fun hg=>?_⟩
 ·have hg:(4096:Int) < s.length:=of_decide_eq_true hg
  conv=>whnf
  unfold parS
  rw [if_pos (by omega)];rfl
 ·have hg:¬ (4096:Int) < s.length:=of_decide_eq_false hg
  have hl:=splitC_len 10 s
  have hn:=splitC_ne 10 s
  have hno:=splitC_not 10 s
  have hls:=lines_split s
  conv=>whnf
  refine .inr ⟨[(1,19)],_,_,_,_,s_Lines s,⟨rfl,by kernel_rfl,?_,?_⟩,?_⟩
  ·exact trivial
  ·exact ⟨.inr rfl,trivial⟩
  conv=>whnf
  generalize hr:splitC 10 s=rows at *
  obtain ⟨m,hm⟩:∃ m,rows.length=m+1:=⟨rows.length - 1,by have:=List.length_pos_iff.2 hn;omega⟩
  have hbad:∀ i,parE rows m 0=some i→parS s=([],(i:Int),25):=fun i he=>parS_bad (by omega) hr hm he
  have hok:=fun he=>parS_ok (by omega) hr hm he
  have hll:=linesOf_len rows m hm
  generalize parS s=R at *
  refine range_WI (P:=Tryz.prog) (G:=GC) (x:=db76_1x) (y:=db76_1) (k:=dk76_1) (lns s) (paH rows) [(2,.bptr 2 0),(3,.bptr 3 0),(4,.bptr 4 0),(5,.bptr 5 0)] (fun i=>i≤m∧parE rows m 0=parE rows (m - i) i) ⟨Nat.zero_le _,rfl⟩ (linesIt s (by omega)) ⟨rfl,rfl⟩ (by decide) ⟨rfl,rfl⟩ (fun z hz=>by obtain ⟨v,_,rfl⟩:=List.mem_map.1 hz;rfl) rfl rfl rfl rfl ?_ ?_
  ·intro i z hz ⟨h1,h2⟩
   obtain ⟨L,hz0,rfl,hc1,hc2,hL4⟩:∃ L,(linesOf rows)[i]?=some L∧z=[DV.str L]∧Lib.trimSuffix L [10]=rows.getD i []∧Lib.hasSuffix L [10]=decide (i < m)∧L.length≤1073741824:=by
    unfold lns at hz
    rw [hls,List.getElem?_map,Option.map_eq_some_iff] at hz
    obtain ⟨L,hz1,rfl⟩:=hz
    have hgd:(linesOf rows).getD i []=L:=by rw [List.getD_eq_getElem?_getD,hz1];rfl
    have hil:=(List.getElem?_eq_some_iff.1 hz1).1
    have hrl:(rows.getD i []).length≤s.length:=hl.2 _ (getD_in [] (by omega))
    refine ⟨L,hz1,rfl,?_⟩
    by_cases hi:i < m
    ·rw [linesOf_get rows m i hm hi] at hgd
     subst hgd
     rw [decide_eq_true hi]
     exact ⟨(cut_yes _).1,(cut_yes _).2,by rw [List.length_append];show _+1≤_;omega⟩
    ·have hi:i=m:=by omega
     subst hi
     have hne:rows.getD i []≠[]:=fun e=>by rw [if_pos e] at hll;omega
     rw [linesOf_last rows i hm hne] at hgd
     subst hgd
     have:=cut_no _ (hno _ (getD_in [] (show i < rows.length by omega)))
     rw [decide_eq_false hi]
     exact ⟨this.1,this.2,by omega⟩
   clear hz
   have hrl:(rows.getD i []).length≤s.length:=hl.2 _ (getD_in [] (by omega))
   rcases i with _|i
   ·obtain ⟨w0,D,hw⟩:∃ w0 D,splitC 32 (rows.getD 0 [])=w0 :: D:=by
     cases h:splitC 32 (rows.getD 0 []) with
     |nil=>exact absurd h (splitC_ne _ _)
     |cons a r=>exact ⟨a,r,rfl⟩
    have hwl:=splitC_len 32 (rows.getD 0 [])
    rw [hw] at hwl
    have hDl:D.length≤4097:=by have:=hwl.1;simp only [List.length_cons] at this;omega
    have hDw:∀ x ∈ D,x.length < 1073741824:=fun x hx=>by have:=hwl.2 x (List.mem_cons_of_mem _ hx);omega
    conv=>whnf
    repeat' (first
     |(refine ⟨fun hg=>?_,fun hg=>?_⟩<;>first|contradiction|(conv=>whnf))
     |(refine Or.inl ?_;conv=>whnf)
     |(refine ⟨_,s_CutSuffix L [10] hL4,?_⟩;conv=>whnf)
     |(refine And.intro ?_ ?_;kernel_rfl;conv=>whnf))
    rw [hc1,hc2]
    conv=>whnf
    repeat' (first
     |(refine ⟨fun hg=>?_,fun hg=>?_⟩<;>first|contradiction|(conv=>whnf))
     |(refine Or.inl ?_;conv=>whnf)
     |(refine ⟨_,s_Split (rows.getD 0 []) 32 (by omega),?_⟩;conv=>whnf)
     |(refine And.intro ?_ ?_;kernel_rfl;conv=>whnf))
    rw [hw]
    refine ⟨⟨by decide,by simp;omega,by omega,fun e he=>by obtain ⟨x,_,rfl⟩:=List.mem_map.1 he;rfl⟩,?_⟩
    rw [window_tail]
    conv=>whnf
    refine dwp_loopU (P:=Tryz.prog) (G:=GC) (k:=dk76_0) (b:=db76_0) (α:=Nat) (fun j=>[(12,.own 12 0 ((vcK D j).map encV).length ((vcK D j).map encV).length)]) (fun j=>[(2,.box 1 (.full [])),(3,.box 1 (DV.int .i64 (0))),(4,.box 1 (DV.int .i64 (0))),(5,.box 1 (.full [])),(12,.row 3 ((vcK D j).map encV) false),(31,takO (D.drop (3 * j)) (wrK D (3 * j)))]) (fun j=>j=0∨3 * j < D.length+3) (fun j=>D.length+1 - j) 0 (.inl rfl) ?_
    conv=>whnf
    refine ⟨rfl,rfl,?_⟩
    conv=>whnf
    refine ⟨rfl,?_⟩
    intro j hj
    have hdl:((D.drop (3 * j)).map DV.str).length=D.length - 3 * j:=by simp
    have hpl:=vcK_len D j
    conv=>whnf
    refine ⟨fun hb=>?_,fun hb=>?_⟩
    ·have hb:(0:Int) < (((D.drop (3 * j)).map DV.str).length:Nat):=of_decide_eq_true hb
     have hp:(vcK D (j+1)).map encV=(vcK D j).map encV++[encV ⟨numK D (3 * j),numK D (3 * j+1),numK D (3 * j+2)⟩]:=by rw [vcK_succ,List.map_append];rfl
     conv=>whnf
     refine .inr ⟨[(1,31)],_,_,_,_,c_numK D (3 * j) hDw,⟨rfl,by kernel_rfl,?_,?_⟩,?_⟩
     ·exact ⟨rfl,trivial⟩
     ·exact ⟨.inl rfl,trivial⟩
     conv=>whnf
     refine .inr ⟨[(1,31)],_,_,_,_,c_numK D (3 * j+1) hDw,⟨rfl,by kernel_rfl,?_,?_⟩,?_⟩
     ·exact ⟨rfl,trivial⟩
     ·exact ⟨.inl rfl,trivial⟩
     conv=>whnf
     refine .inr ⟨[(1,31)],_,_,_,_,c_numK D (3 * j+2) hDw,⟨rfl,by kernel_rfl,?_,?_⟩,?_⟩
     ·exact ⟨rfl,trivial⟩
     ·exact ⟨.inl rfl,trivial⟩
     conv=>whnf
     refine ⟨⟨rfl,rfl,rfl,by rw [List.length_map,hpl];simp;omega,fun e he=>by simp at he;subst he;rfl⟩,?_⟩
     conv=>whnf
     refine ⟨j+1,rfl,?_,?_,.inr (by omega),by omega⟩
     ·rw [hp];rfl
     ·rw [hp];rfl
    ·have hb:¬ (0:Int) < (((D.drop (3 * j)).map DV.str).length:Nat):=of_decide_eq_false hb
     have hend:((w0 :: D).drop 1).length≤3 * j:=by show D.length≤_;omega
     have hce:=shp_read (w0 :: D) j hend
     have hwr:=wrong_read (w0 :: D) j hend hj (by simp)
     have hO:wrK D (3 * j)=false→oSW rows (0+1)=oSW rows 0++[shp (vcK D j)]:=fun h=>by
      unfold oSW
      rw [outW_succ rows 0 (by omega),hw,hce h,List.map_append];rfl
     have hgo:0 < m→wrongW (w0 :: D)=false→0+1≤m∧parE rows m 0=parE rows (m - (0+1)) (0+1):=fun h e=>⟨h,h2.trans (parE_step rows m _ h (by rw [hw];exact e))⟩
     have hRw:0 < m→wrongW (w0 :: D)=true→R=([],((0:Nat):Int),25):=fun h e=>hbad _ (h2.trans (parE_at rows m _ h (by rw [hw];exact e)))
     have hRn:¬ 0 < m→R=([],((0:Nat):Int),25):=fun h=>by
      have e:0=m:=by omega
      have h3:parE rows m 0=none:=by rw [h2,← e,Nat.sub_self];rfl
      have h4:=(List.getElem?_eq_some_iff.1 hz0).1
      have h5:rows.getD m []≠[]:=fun h6=>by rw [if_pos h6] at hll;omega
      have h6:=hok h3
      rw [if_pos h5] at h6
      rw [h6,e]
     have hwin:shp (vcK D j)=.list (window ((vcK D j).map encV) 0 ((vcK D j).map encV).length):=by rw [window_full];rfl
     have hol:(oSW rows 0).length=0:=by unfold oSW;rw [List.length_map,outW_len rows 0 (by omega)]
     have hwr2:wrongW (w0 :: D)=(decide (w0≠shpB) || wrK D (3 * j)):=hwr
     conv=>whnf
     repeat' (first
      |(refine ⟨fun hg=>?_,fun hg=>?_⟩<;>first|contradiction|(conv=>whnf))
      |(refine Or.inl ?_;conv=>whnf)
      |(refine ⟨⟨by decide,by rw [List.length_map,List.length_cons];omega,rfl⟩,?_⟩;conv=>whnf)
      |(refine And.intro ?_ ?_;kernel_rfl;conv=>whnf))
     any_goals
      have hR:R=([],((0:Nat):Int),25):=by
       by_cases him:0 < m
       ·refine hRw him ?_
        rw [hwr2]
        first
        |(rw [show wrK D _=true from ‹(bif false then true else wrK D _)=true›,Bool.or_true])
        |(rw [show decide (w0≠shpB)=true from ‹(bif false then true else decide (w0≠_))=!false›,Bool.true_or])
        |(have h8:(!decide (0 < m))=true:=‹(!decide (0 < m))=!false›
          rw [decide_eq_true him] at h8;cases h8)
       ·exact hRn him
      rw [hR]
      first|rfl|(rw [hol];rfl)
     have hwk:wrK D _=false:=hg
     have him:0 < m:=by
      have h8:(!decide (0 < m))=false:=‹(!decide (0 < m))=false›
      exact of_decide_eq_true (by simpa using h8)
     have hgood:=hgo him (by rw [hwr2,hwk,show decide (w0≠shpB)=false from ‹(bif false then true else decide (w0≠_))=false›];rfl)
     have hO:=hO hwk
     refine ⟨⟨by simp,fun e he=>by simp at he;subst he;rfl,fun e he=>by simp at he,.inl rfl⟩,?_⟩
     conv=>whnf
     refine ⟨rfl,?_,hgood⟩
     show _=[(2,_),(3,_),(4,_),(5,DObj.box 1 (.own 72 0 (oSW rows (0+1)).length (oSW rows (0+1)).length)),(72,.row 1 (oSW rows (0+1)) false)]
     rw [hO]
     first|rfl|(rw [hwin];rfl)
   ·obtain ⟨w0,D,hw⟩:∃ w0 D,splitC 32 (rows.getD (i+1) [])=w0 :: D:=by
     cases h:splitC 32 (rows.getD (i+1) []) with
     |nil=>exact absurd h (splitC_ne _ _)
     |cons a r=>exact ⟨a,r,rfl⟩
    have hwl:=splitC_len 32 (rows.getD (i+1) [])
    rw [hw] at hwl
    have hDl:D.length≤4097:=by have:=hwl.1;simp only [List.length_cons] at this;omega
    have hDw:∀ x ∈ D,x.length < 1073741824:=fun x hx=>by have:=hwl.2 x (List.mem_cons_of_mem _ hx);omega
    conv=>whnf
    repeat' (first
     |(refine ⟨fun hg=>?_,fun hg=>?_⟩<;>first|contradiction|(conv=>whnf))
     |(refine Or.inl ?_;conv=>whnf)
     |(refine ⟨_,s_CutSuffix L [10] hL4,?_⟩;conv=>whnf)
     |(refine And.intro ?_ ?_;kernel_rfl;conv=>whnf))
    rw [hc1,hc2]
    conv=>whnf
    repeat' (first
     |(refine ⟨fun hg=>?_,fun hg=>?_⟩<;>first|contradiction|(conv=>whnf))
     |(refine Or.inl ?_;conv=>whnf)
     |(refine ⟨_,s_Split (rows.getD (i+1) []) 32 (by omega),?_⟩;conv=>whnf)
     |(refine And.intro ?_ ?_;kernel_rfl;conv=>whnf))
    rw [hw]
    refine ⟨⟨by decide,by simp;omega,by omega,fun e he=>by obtain ⟨x,_,rfl⟩:=List.mem_map.1 he;rfl⟩,?_⟩
    rw [window_tail]
    conv=>whnf
    refine dwp_loopU (P:=Tryz.prog) (G:=GC) (k:=dk76_0) (b:=db76_0) (α:=Nat) (fun j=>[(12,.own 12 0 ((vcK D j).map encV).length ((vcK D j).map encV).length)]) (fun j=>[(2,.box 1 (.full [])),(3,.box 1 (DV.int .i64 (0))),(4,.box 1 (DV.int .i64 (0))),(5,.box 1 (.own 72 0 (oSW rows (i+1)).length (oSW rows (i+1)).length)),(12,.row 3 ((vcK D j).map encV) false),(31,takO (D.drop (3 * j)) (wrK D (3 * j)))]++[(72,.row 1 (oSW rows (i+1)) false)]) (fun j=>j=0∨3 * j < D.length+3) (fun j=>D.length+1 - j) 0 (.inl rfl) ?_
    conv=>whnf
    refine ⟨rfl,rfl,?_⟩
    conv=>whnf
    refine ⟨rfl,?_⟩
    intro j hj
    have hdl:((D.drop (3 * j)).map DV.str).length=D.length - 3 * j:=by simp
    have hpl:=vcK_len D j
    conv=>whnf
    refine ⟨fun hb=>?_,fun hb=>?_⟩
    ·have hb:(0:Int) < (((D.drop (3 * j)).map DV.str).length:Nat):=of_decide_eq_true hb
     have hp:(vcK D (j+1)).map encV=(vcK D j).map encV++[encV ⟨numK D (3 * j),numK D (3 * j+1),numK D (3 * j+2)⟩]:=by rw [vcK_succ,List.map_append];rfl
     conv=>whnf
     refine .inr ⟨[(1,31)],_,_,_,_,c_numK D (3 * j) hDw,⟨rfl,by kernel_rfl,?_,?_⟩,?_⟩
     ·exact ⟨rfl,trivial⟩
     ·exact ⟨.inl rfl,trivial⟩
     conv=>whnf
     refine .inr ⟨[(1,31)],_,_,_,_,c_numK D (3 * j+1) hDw,⟨rfl,by kernel_rfl,?_,?_⟩,?_⟩
     ·exact ⟨rfl,trivial⟩
     ·exact ⟨.inl rfl,trivial⟩
     conv=>whnf
     refine .inr ⟨[(1,31)],_,_,_,_,c_numK D (3 * j+2) hDw,⟨rfl,by kernel_rfl,?_,?_⟩,?_⟩
     ·exact ⟨rfl,trivial⟩
     ·exact ⟨.inl rfl,trivial⟩
     conv=>whnf
     refine ⟨⟨rfl,rfl,rfl,by rw [List.length_map,hpl];simp;omega,fun e he=>by simp at he;subst he;rfl⟩,?_⟩
     conv=>whnf
     refine ⟨j+1,rfl,?_,?_,.inr (by omega),by omega⟩
     ·rw [hp];rfl
     ·rw [hp];rfl
    ·have hb:¬ (0:Int) < (((D.drop (3 * j)).map DV.str).length:Nat):=of_decide_eq_false hb
     have hend:((w0 :: D).drop 1).length≤3 * j:=by show D.length≤_;omega
     have hce:=shp_read (w0 :: D) j hend
     have hwr:=wrong_read (w0 :: D) j hend hj (by simp)
     have hO:wrK D (3 * j)=false→oSW rows ((i+1)+1)=oSW rows (i+1)++[shp (vcK D j)]:=fun h=>by
      unfold oSW
      rw [outW_succ rows (i+1) (by omega),hw,hce h,List.map_append];rfl
     have hgo:(i+1) < m→wrongW (w0 :: D)=false→(i+1)+1≤m∧parE rows m 0=parE rows (m - ((i+1)+1)) ((i+1)+1):=fun h e=>⟨h,h2.trans (parE_step rows m _ h (by rw [hw];exact e))⟩
     have hRw:(i+1) < m→wrongW (w0 :: D)=true→R=([],(((i+1):Nat):Int),25):=fun h e=>hbad _ (h2.trans (parE_at rows m _ h (by rw [hw];exact e)))
     have hRn:¬ (i+1) < m→R=([],(((i+1):Nat):Int),25):=fun h=>by
      have e:(i+1)=m:=by omega
      have h3:parE rows m 0=none:=by rw [h2,← e,Nat.sub_self];rfl
      have h4:=(List.getElem?_eq_some_iff.1 hz0).1
      have h5:rows.getD m []≠[]:=fun h6=>by rw [if_pos h6] at hll;omega
      have h6:=hok h3
      rw [if_pos h5] at h6
      rw [h6,e]
     have hwin:shp (vcK D j)=.list (window ((vcK D j).map encV) 0 ((vcK D j).map encV).length):=by rw [window_full];rfl
     have hol:(oSW rows (i+1)).length=(i+1):=by unfold oSW;rw [List.length_map,outW_len rows (i+1) (by omega)]
     have hwr2:wrongW (w0 :: D)=(decide (w0≠shpB) || wrK D (3 * j)):=hwr
     conv=>whnf
     repeat' (first
      |(refine ⟨fun hg=>?_,fun hg=>?_⟩<;>first|contradiction|(conv=>whnf))
      |(refine Or.inl ?_;conv=>whnf)
      |(refine ⟨⟨by decide,by rw [List.length_map,List.length_cons];omega,rfl⟩,?_⟩;conv=>whnf)
      |(refine And.intro ?_ ?_;kernel_rfl;conv=>whnf))
     any_goals
      have hR:R=([],(((i+1):Nat):Int),25):=by
       by_cases him:(i+1) < m
       ·refine hRw him ?_
        rw [hwr2]
        first
        |(rw [show wrK D _=true from ‹(bif false then true else wrK D _)=true›,Bool.or_true])
        |(rw [show decide (w0≠shpB)=true from ‹(bif false then true else decide (w0≠_))=!false›,Bool.true_or])
        |(have h8:(!decide ((i+1) < m))=true:=‹(!decide ((i+1) < m))=!false›
          rw [decide_eq_true him] at h8;cases h8)
       ·exact hRn him
      rw [hR]
      first|rfl|(rw [hol];rfl)
     have hwk:wrK D _=false:=hg
     have him:(i+1) < m:=by
      have h8:(!decide ((i+1) < m))=false:=‹(!decide ((i+1) < m))=false›
      exact of_decide_eq_true (by simpa using h8)
     have hgood:=hgo him (by rw [hwr2,hwk,show decide (w0≠shpB)=false from ‹(bif false then true else decide (w0≠_))=false›];rfl)
     have hO:=hO hwk
     refine ⟨⟨rfl,rfl,rfl,by rw [hol];simp;omega,fun e he=>by simp at he;subst he;rfl⟩,?_⟩
     conv=>whnf
     refine ⟨rfl,?_,hgood⟩
     show _=[(2,_),(3,_),(4,_),(5,DObj.box 1 (.own 72 0 (oSW rows ((i+1)+1)).length (oSW rows ((i+1)+1)).length)),(72,.row 1 (oSW rows ((i+1)+1)) false)]
     rw [hO]
     first|rfl|(rw [hwin];rfl)
  ·intro ⟨h1,h2⟩
   have hlen:(lns s).length=(linesOf rows).length:=by unfold lns;rw [List.length_map,hls]
   have hz:rows.getD m []=[]:=by
    by_cases hz:rows.getD m []=[]
    ·exact hz
    ·rw [if_neg hz] at hll;omega
   rw [if_pos hz,Nat.add_zero] at hll
   rw [hlen,hll] at h2
   rw [hlen,hll]
   have hR:=hok (h2.trans (by rw [Nat.sub_self];rfl))
   rw [if_neg (fun h=>h hz)] at hR
   have hcs:=outW_tb rows m s.length (fun r hr=>hl.2 r hr)
   have hol:=outW_len rows m (by omega)
   clear hok h2 h1 hlen hbad hll hls
   rcases m with _|m
   ·conv=>whnf
    repeat' (first
     |(refine ⟨fun hg=>?_,fun hg=>?_⟩<;>first|contradiction|(conv=>whnf))
     |(refine Or.inl ?_;conv=>whnf)
     |(refine ⟨_,c_checkShapes (outW rows 0) (by omega) (fun c hc=>by have:=hcs c hc;omega),?_⟩;conv=>whnf)
     |(refine And.intro ?_ ?_;kernel_rfl;conv=>whnf))
    all_goals
     first
     |(have hg:chkShps (outW rows 0)≠0:=of_decide_eq_true hg
       rw [if_pos hg] at hR
       rw [hR];rfl)
     |(have hg:¬ chkShps (outW rows 0)≠0:=of_decide_eq_false hg
       rw [if_neg hg] at hR
       rw [hR];rfl)
     |(have hg:¬ chkShps (outW rows 0)≠0:=of_decide_eq_false ‹decide (chkShps (outW rows 0)≠0)=false›
       rw [if_neg hg] at hR
       rw [hR];rfl)
   ·have hol2:(oSW rows (m+1)).length=m+1:=by unfold oSW;rw [List.length_map,hol]
    have hcc:PC 92 [DV.list (oSW rows (m+1))] (DV.int .i64 (chkShps (outW rows (m+1)))):=c_checkShapes (outW rows (m+1)) (by omega) (fun c hc=>by have:=hcs c hc;omega)
    conv=>whnf
    refine .inl ?_
    conv=>whnf
    refine ⟨rfl,?_⟩
    rw [window_full]
    refine ⟨_,hcc,?_⟩
    conv=>whnf
    repeat' (first
     |(refine ⟨fun hg=>?_,fun hg=>?_⟩<;>first|contradiction|(conv=>whnf))
     |(refine Or.inl ?_;conv=>whnf)
     |(refine And.intro ?_ ?_;kernel_rfl;conv=>whnf))
    ·have hg:chkShps (outW rows (m+1))≠0:=of_decide_eq_true hg
     rw [if_pos hg] at hR
     rw [hR,hol2];rfl
    all_goals
     have hg:¬ chkShps (outW rows (m+1))≠0:=of_decide_eq_false hg
     rw [if_neg hg] at hR
     rw [hR,window_full];rfl
end Sh

namespace Sh
open Go Go.Proofs
theorem pt_ext {p q:Pt} (h1:p.x=q.x) (h2:p.y=q.y):p=q:=by cases p;cases q;simp_all
theorem flatMap_nodup {α:Type} (f:α→List Pt) (key:α→Pt→Prop):∀ (l:List α),(∀ a ∈ l,(f a).Nodup)→l.Nodup→(∀ a ∈ l,∀ b ∈ l,∀ p,p ∈ f a→p ∈ f b→a=b)→(l.flatMap f).Nodup
 |[],_,_,_=>List.nodup_nil
 |a :: r,h1,h2,h3=>by
  rw [List.flatMap_cons,List.nodup_append]
  have hn:=List.nodup_cons.1 h2
  refine ⟨h1 a (by simp),flatMap_nodup f key r (fun b hb=>h1 b (by simp [hb])) hn.2 (fun b hb c hc=>h3 b (by simp [hb]) c (by simp [hc])),?_⟩
  intro p hp q hq e
  subst e
  obtain ⟨b,hb,hpb⟩:=List.mem_flatMap.1 hq
  exact hn.1 (h3 a (by simp) b (by simp [hb]) p hp hpb ▸ hb)
theorem spots_nodup (c:Bx):(spotsL c).Nodup:=by
 have hr:∀ j,(rowB c j 0).Nodup:=fun j=>by
  unfold rowB
  refine List.pairwise_map.2 (List.Pairwise.imp (fun hne e=>hne ?_) (List.nodup_range' (step:=1)))
  have:=congrArg Pt.x e
  unfold spotB at this
  simp at this;omega
 unfold spotsL restB
 refine flatMap_nodup _ (fun _ _=>True) _ (fun a _=>hr a) List.nodup_range' ?_
 intro a _ b _ p ha hb
 unfold rowB at ha hb
 obtain ⟨i,_,rfl⟩:=List.mem_map.1 ha
 obtain ⟨j,_,e⟩:=List.mem_map.1 hb
 have:=congrArg Pt.y e
 unfold spotB at this
 simp at this;omega
def seenK (l:List (List V3)) (sun:V3) (ps:List Pt) (i k:Nat):List Pt:=((List.range i).flatMap fun i=>cutI l sun i ps)++cutI l sun i (ps.take k)
theorem seenK_zero (l:List (List V3)) (sun:V3) (ps:List Pt) (i:Nat):seenK l sun ps i ps.length=seenK l sun ps (i+1) 0:=by
 unfold seenK
 rw [List.take_length,List.range_succ,List.flatMap_append]
 simp [cutI]
theorem any_take {l:List (List V3)} {sun:V3} {p:Pt}:∀ {i:Nat},i≤l.length→(anyHid (l.take i) sun p=true ↔ ∃ j,j < i∧anyHid (l.take j) sun p=false∧hidB (l.getD j []) sun p=true)
 |0,_=>by simp [anyHid]
 |i+1,h=>by
  have ih:=any_take (l:=l) (sun:=sun) (p:=p) (show i≤l.length by omega)
  cases ha:anyHid (l.take i) sun p with
  |true =>
   have hx:anyHid (l.take (i+1)) sun p=true:=by
    unfold anyHid at *
    rw [take_snoc l i [] (by omega),List.any_append,ha];rfl
   refine ⟨fun _=>?_,fun _=>hx⟩
   obtain ⟨j,h1,h2⟩:=ih.1 ha
   exact ⟨j,by omega,h2⟩
  |false =>
   rw [any_snoc (by omega) ha]
   refine ⟨fun hh=>⟨i,by omega,ha,hh⟩,fun ⟨j,h1,h2⟩=>?_⟩
   by_cases e:j=i
   ·subst e;exact h2.2
   ·exact absurd (ih.2 ⟨j,by omega,h2⟩) (by rw [ha];simp)
theorem seen_mem {l:List (List V3)} {sun:V3} {ps:List Pt} (hd:ps.Nodup) {i k:Nat} (hi:i < l.length) (hk:k < ps.length):ps.getD k P0 ∈ seenK l sun ps i k ↔ anyHid (l.take i) sun (ps.getD k P0)=true:=by
 have hp:=getD_in P0 hk
 have hnt:ps.getD k P0 ∉ ps.take k:=by
  intro hm
  obtain ⟨j,hj,e⟩:=List.mem_iff_getElem.1 hm
  rw [List.length_take] at hj
  rw [List.getElem_take] at e
  have e2:ps.getD k P0=ps[k]:=by simp [List.getD_eq_getElem?_getD,hk]
  rw [e2] at e
  exact (List.pairwise_iff_getElem.1 hd) j k (by omega) hk (by omega) e
 unfold seenK
 rw [any_take (by omega),List.mem_append,List.mem_flatMap]
 constructor
 ·rintro (⟨j,hj,hm⟩|hm)
  ·have:=(List.mem_filter.1 hm).2
   rw [Bool.and_eq_true,Bool.not_eq_true'] at this
   exact ⟨j,List.mem_range.1 hj,this.1,this.2⟩
  ·exact absurd (List.mem_filter.1 hm).1 hnt
 ·rintro ⟨j,hj,h1,h2⟩
  refine .inl ⟨j,List.mem_range.2 hj,List.mem_filter.2 ⟨hp,?_⟩⟩
  rw [h1,h2];rfl
def entP (ks:List Pt):List (DV×DV):=ks.map fun p=>(encPt p,DV.bool true)
theorem keyP (p q:Pt):keyEq 3 [1,1] (encPt p) (encPt q)=some (decide (p.x=q.x) && (decide (p.y=q.y) && true)):=rfl
theorem find_yes {p:Pt}:∀ {ks:List Pt} (i:Nat),p ∈ ks→∃ j,dfind (keyEq 3 [1,1]) (encPt p) (entP ks) i=some (some (j,.bool true))
 |[],i,h=>absurd h List.not_mem_nil
 |q :: r,i,h=>by
  unfold entP
  rw [List.map_cons]
  unfold dfind
  rw [keyP]
  by_cases e:p=q
  ·subst e;simp
  ·have hr:p ∈ r:=by rcases List.mem_cons.1 h with h|h;exact absurd h e;exact h
   have:(decide (p.x=q.x) && (decide (p.y=q.y) && true))=false:=by
    rw [Bool.and_true,← Bool.not_eq_true,Bool.and_eq_true,decide_eq_true_eq,decide_eq_true_eq]
    exact fun ⟨h1,h2⟩=>e (pt_ext h1 h2)
   rw [this]
   exact find_yes (i+1) hr
theorem find_no {p:Pt}:∀ {ks:List Pt} (i:Nat),p ∉ ks→dfind (keyEq 3 [1,1]) (encPt p) (entP ks) i=some none
 |[],i,h=>rfl
 |q :: r,i,h=>by
  unfold entP
  rw [List.map_cons]
  unfold dfind
  rw [keyP]
  have:(decide (p.x=q.x) && (decide (p.y=q.y) && true))=false:=by
   rw [Bool.and_true,← Bool.not_eq_true,Bool.and_eq_true,decide_eq_true_eq,decide_eq_true_eq]
   exact fun ⟨h1,h2⟩=>h (by rw [pt_ext h1 h2];simp)
  rw [this]
  exact find_no (i+1) (fun hh=>h (by simp [hh]))
end Sh

namespace Sh
open Go Go.Proofs
def ctM (l:List (List V3)) (sun:V3) (ps:List Pt) (i k m:Nat):Int:=if m < i then ((cutI l sun m ps).length:Int) else if m=i then ctN l sun ps i k else 0
def ctX (l:List (List V3)) (sun:V3) (ps:List Pt) (i k:Nat):List DV:=rng l.length fun m=>DV.int .i64 (ctM l sun ps i k m)
theorem ctX_zero (l:List (List V3)) (sun:V3) (ps:List Pt):ctX l sun ps 0 0=List.replicate (l.map shp).length (DV.int .i64 (0)):=by
 rw [List.length_map,rng_const]
 unfold ctX
 refine rng_congr fun m _=>int_eq ?_
 unfold ctM
 rw [if_neg (by omega)]
 by_cases e:m=0
 ·rw [if_pos e];rfl
 ·rw [if_neg e]
theorem ctX_next (l:List (List V3)) (sun:V3) (ps:List Pt) (i:Nat):ctX l sun ps i ps.length=ctX l sun ps (i+1) 0:=by
 unfold ctX
 refine rng_congr fun m _=>int_eq ?_
 unfold ctM
 by_cases e:m < i
 ·rw [if_pos e,if_pos (by omega)]
 ·by_cases e2:m=i
  ·subst e2
   rw [if_neg e,if_pos rfl,if_pos (by omega)]
   unfold ctN;rw [List.take_length]
  ·rw [if_neg e,if_neg e2,if_neg (by omega)]
   by_cases e3:m=i+1
   ·rw [if_pos e3];rfl
   ·rw [if_neg e3]
theorem ctX_all (l:List (List V3)) (sun:V3) (ps:List Pt):ctX l sun ps l.length 0=(rng l.length fun i=>((cutI l sun i ps).length:Int)).map (DV.int .i64):=by
 rw [rng_map]
 unfold ctX
 refine rng_congr fun m h=>int_eq ?_
 unfold ctM
 rw [if_pos h]
theorem ctX_len (l:List (List V3)) (sun:V3) (ps:List Pt) (i k:Nat):(ctX l sun ps i k).length=l.length:=rng_len _ _
theorem ctX_get {l:List (List V3)} {sun:V3} {ps:List Pt} {i k:Nat} (h:i < l.length):(ctX l sun ps i k).getD i .undef=DV.int .i64 (ctN l sun ps i k):=by
 unfold ctX
 rw [rng_getD _ _ h]
 unfold ctM
 rw [if_neg (by omega),if_pos rfl]
def ctC (l:List (List V3)) (sun:V3) (i:Nat) (p:Pt):Bool:=!anyHid (l.take i) sun p && hidB (l.getD i []) sun p
theorem ctN_yes {l:List (List V3)} {sun:V3} {ps:List Pt} {i k:Nat} (hk:k < ps.length) (h:ctC l sun i (ps.getD k P0)=true):ctN l sun ps i (k+1)=ctN l sun ps i k+1∧seenK l sun ps i (k+1)=seenK l sun ps i k++[ps.getD k P0]:=by
 unfold ctC at h
 unfold ctN seenK cutI
 rw [take_snoc ps k P0 hk,List.filter_append,List.length_append,List.filter_cons,h]
 simp
theorem ctN_no {l:List (List V3)} {sun:V3} {ps:List Pt} {i k:Nat} (hk:k < ps.length) (h:ctC l sun i (ps.getD k P0)=false):ctN l sun ps i (k+1)=ctN l sun ps i k∧seenK l sun ps i (k+1)=seenK l sun ps i k:=by
 unfold ctC at h
 unfold ctN seenK cutI
 rw [take_snoc ps k P0 hk,List.filter_append,List.length_append,List.filter_cons,h]
 simp
theorem ctX_same {l:List (List V3)} {sun:V3} {ps:List Pt} {i k:Nat} (h:ctN l sun ps i (k+1)=ctN l sun ps i k):ctX l sun ps i (k+1)=ctX l sun ps i k:=by
 unfold ctX ctM;rw [h]
theorem ctX_set {l:List (List V3)} {sun:V3} {ps:List Pt} {i k:Nat} (h:ctN l sun ps i (k+1)=ctN l sun ps i k+1):(ctX l sun ps i k).set i (DV.int .i64 (ctN l sun ps i k+1))=ctX l sun ps i (k+1):=by
 unfold ctX
 rw [rng_set]
 refine rng_congr fun m _=>?_
 unfold ctM
 by_cases e:m=i
 ·subst e;rw [if_pos rfl,if_neg (by omega),if_pos rfl,h]
 ·rw [if_neg e]
  by_cases e2:m < i
  ·rw [if_pos e2,if_pos e2]
  ·rw [if_neg e2,if_neg e2,if_neg e,if_neg e]
theorem entP_snoc (ks:List Pt) (p:Pt):entP ks++[(encPt p,DV.bool true)]=entP (ks++[p]):=by unfold entP;rw [List.map_append];rfl
theorem c_cut (l:List (List V3)) (sun:V3) (c:Bx) (h8:l.length≤8) (h1:∀ s ∈ l,OkS s) (h2:bdV 1000 sun) (h3:OkB c):PC 109 [shps l,encV sun,encB c] (iL (cutS l sun c)):=by
 have e0:((l.map shp).length:Int)=l.length:=by simp
 have hn:=h3.spN
 have hsp:∀ p ∈ spotsL c,(-1000≤p.x∧p.x≤1000)∧(-1000≤p.y∧p.y≤1000):=fun p hp=>h3.spot hp
 have hit:=spotsIt c h3
 have hnd:=spots_nodup c
 have k6:=c_spots c
 unfold cutS
 generalize spotsL c=ps at *
 refine pureCall_ofR dh109 rfl ?_
 conv=>whnf
 refine ⟨⟨by omega,by omega,by omega,rfl,rfl⟩,?_⟩
 conv=>whnf
 refine dwp_loopU (P:=Tryz.prog) (G:=GC) (k:=dk109_1) (b:=db109_1) (α:=Nat) (fun i=>[(18,DV.int .i64 (i))]) (fun i=>[(4,.box 3 (encV sun)),(5,.box 4 (encB c)),(7,.box 1 (.dict 12)),(8,.box 1 (.own 15 0 (l.map shp).length (l.map shp).length)),(12,.dict (entP (seenK l sun ps i 0))),(15,.row 1 (ctX l sun ps i 0) false)]) (fun i=>i≤l.length) (fun i=>l.length - i) 0 (Nat.zero_le _) ?_
 conv=>whnf
 refine ⟨rfl,by rw [ctX_zero];rfl,?_⟩
 conv=>whnf
 refine ⟨rfl,?_⟩
 intro i j1
 conv=>whnf
 refine ⟨fun hb=>?_,fun hb=>?_⟩
 ·have hi:i < l.length:=by simpa using hb
  have hS:=h1 _ (getD_in [] hi)
  clear hb
  conv=>whnf
  rw [getD_enc _ _ (i) [] hi]
  refine ⟨idxA hi rfl,?_⟩
  conv=>whnf
  repeat' (first
   |(refine ⟨fun hg=>?_,fun hg=>?_⟩<;>first|contradiction|(conv=>whnf))
   |(refine Or.inl ?_;conv=>whnf)
   |(refine ⟨_,k6,?_⟩;conv=>whnf)
   |(refine And.intro ?_ ?_;kernel_rfl;conv=>whnf))
  generalize hss:l.getD i []=s at *
  refine range_R (P:=Tryz.prog) (G:=GC) (x:=db109_0x) (y:=db109_0) (k:=dk109_0) (one1 ps) (fun k=>[(4,.box 3 (encV sun)),(5,.box 4 (encB c)),(7,.box 1 (.dict 12)),(8,.box 1 (.own 15 0 (l.map shp).length (l.map shp).length)),(9,.box 1 (DV.int .i64 (i))),(10,.box 1 (shp s)),(12,.dict (entP (seenK l sun ps i k))),(15,.row 1 (ctX l sun ps i k) false)]) [(4,.bptr 4 0),(5,.bptr 5 0),(6,.full []),(7,.bptr 7 0),(8,.bptr 8 0),(9,.bptr 9 0),(10,.bptr 10 0),(16,shps l),(17,DV.int .i64 ((l.map shp).length)),(18,DV.int .i64 (i))] hit rfl one1_len rfl rfl rfl rfl ?_ ?_
  ·intro k z hz
   obtain ⟨hk,rfl⟩:=one1_get hz
   have hpp:=hsp _ (getD_in P0 hk)
   have hsm:=seen_mem (l:=l) (sun:=sun) hnd hi hk
   have hyes:=ctN_yes (l:=l) (sun:=sun) (i:=i) hk
   have hno:=ctN_no (l:=l) (sun:=sun) (i:=i) hk
   dsimp only
   generalize hpk:ps.getD k P0=p at *
   have k5:=c_hides s sun p hS h2 hpp
   unfold ctC at hyes hno
   rw [hss] at hyes hno
   cases hA:anyHid (l.take i) sun p with
   |true =>
    rw [hA] at hsm hyes hno
    obtain ⟨j,hj⟩:=find_yes 0 (hsm.2 rfl)
    conv=>whnf
    rw [ev_lookup_some (q:=12) (es:=entP (seenK l sun ps i k)) rfl rfl rfl hj]
    conv=>whnf
    refine ⟨fun h=>absurd h (by decide),fun _=>?_⟩
    conv=>whnf
    refine ⟨fun h=>absurd h (by decide),fun _=>?_⟩
    conv=>whnf
    obtain ⟨q1,q2⟩:=hno rfl
    refine ⟨rfl,?_⟩
    rw [q2,ctX_same q1]
    rfl
   |false =>
    rw [hA] at hsm hyes hno
    have hj:=find_no 0 (show p ∉ seenK l sun ps i k from fun h=>by have:=hsm.1 h;cases this)
    conv=>whnf
    rw [ev_lookup_none (q:=12) (es:=entP (seenK l sun ps i k)) rfl rfl rfl hj]
    conv=>whnf
    refine ⟨fun _=>?_,fun h=>absurd h (by decide)⟩
    conv=>whnf
    refine .inl ?_
    conv=>whnf
    refine ⟨_,k5 ..,?_⟩
    conv=>whnf
    refine ⟨fun hg=>?_,fun hg=>?_⟩
    ·have hg:hidB s sun p=true:=hg
     obtain ⟨q1,q2⟩:=hyes (by rw [hg];rfl)
     have hlx:=ctX_len l sun ps i k
     have e3:((ctX l sun ps i k).length:Int)=l.length:=by rw [hlx]
     have hget:(ctX l sun ps i k).getD (0+Int.toNat (i:Int)) .undef=DV.int .i64 (ctN l sun ps i k):=by rw [Nat.zero_add,Int.toNat_natCast];exact ctX_get hi
     have hb1:0≤ctN l sun ps i k∧ctN l sun ps i k≤4000000:=by
      unfold ctN
      refine ⟨by omega,?_⟩
      have h1:=List.length_filter_le (fun p=>!anyHid (l.take i) sun p && hidB (l.getD i []) sun p) (ps.take k)
      have h2:(ps.take k).length≤ps.length:=List.length_take_le' _ _
      unfold cutI
      omega
     conv=>whnf
     rw [ev_mapset_none (q:=12) (es:=entP (seenK l sun ps i k)) (kv:=encPt p) (vv:=.bool true) rfl rfl rfl rfl rfl hj,entP_snoc,← q2]
     conv=>whnf
     refine ⟨⟨by rw [hlx,List.length_map],by omega,by rw [e0];omega⟩,?_⟩
     conv=>whnf
     refine ⟨⟨by rw [hlx,List.length_map],by decide⟩,?_⟩
     rw [hget]
     conv=>whnf
     refine ⟨⟨by rw [hlx,List.length_map],by omega,by rw [e0];omega⟩,?_⟩
     conv=>whnf
     rw [wrap_in (by omega) (by omega)]
     refine ⟨⟨by rw [hlx,List.length_map],by decide,rfl⟩,?_⟩
     conv=>whnf
     refine ⟨rfl,?_⟩
     have hset:(ctX l sun ps i k).set (0+Int.toNat (i:Int)) (DV.int .i64 (ctN l sun ps i k+1))=ctX l sun ps i (k+1):=by rw [Nat.zero_add,Int.toNat_natCast];exact ctX_set q1
     rw [← hset]
     rfl
    ·have hg:hidB s sun p=false:=hg
     obtain ⟨q1,q2⟩:=hno (by rw [hg];rfl)
     conv=>whnf
     refine ⟨rfl,?_⟩
     rw [q2,ctX_same q1]
     rfl
  ·rw [show (one1 ps).length=ps.length from List.length_map _]
   rw [seenK_zero,ctX_next]
   conv=>whnf
   rw [wrap_succ i (by omega)]
   exact ⟨i+1,rfl,rfl,rfl,hi,by omega⟩
 ·have hi:i=l.length:=by have:=of_decide_eq_false hb;rw [e0] at this;omega
  clear hb
  rw [hi,ctX_all]
  conv=>whnf
  have hlen:(l.map shp).length=((rng l.length fun i=>((cutI l sun i ps).length:Int)).map (DV.int .i64)).length:=by rw [List.length_map,List.length_map,rng_len]
  refine ⟨hlen,?_⟩
  rw [hlen,window_full]
  rfl
def cuS (l:List (List V3)) (sun:V3) (c:Bx):List Int×Int:=if lgE l sun c≠0 then ([],lgE l sun c) else (cutS l sun c,0)
theorem c_Cut (l:List (List V3)) (sun:V3) (c:Bx) (hl:l.length < 1073741824) (hs:∀ s ∈ l,s.length < 1073741824):PC 32 [shps l,encV sun,encB c] (.tuple [iL (cuS l sun c).1,DV.int .i64 ((cuS l sun c).2)]):=by
 have k1:=c_checkShapes l hl hs
 have k2:=c_CheckSun sun
 have k3:=c_CheckCell c
 have k4:=c_first [chkShps l,chkSun sun,chkBx c] (by simp)
 refine pureCall_ofR dh32 rfl ?_
 conv=>whnf
 repeat' (first
  |(refine ⟨fun hg=>?_,fun hg=>?_⟩<;>first|contradiction|(conv=>whnf))
  |(refine Or.inl ?_;conv=>whnf)
  |(refine ⟨_,k1,?_⟩;conv=>whnf)
  |(refine ⟨_,k2,?_⟩;conv=>whnf)
  |(refine ⟨_,k3,?_⟩;conv=>whnf)
  |(refine ⟨_,k4,?_⟩;conv=>whnf)
  |(refine And.intro ?_ ?_;kernel_rfl;conv=>whnf))
 ·have hg:lgE l sun c≠0:=of_decide_eq_true hg
  have e:cuS l sun c=([],lgE l sun c):=if_pos hg
  rw [e];rfl
 ·have hg:¬ lgE l sun c≠0:=of_decide_eq_false hg
  have e:cuS l sun c=(cutS l sun c,0):=if_neg hg
  obtain ⟨⟨h8,h1⟩,h2,h3⟩:=lgE_zero (Classical.not_not.1 hg)
  have k5:=c_cut l sun c h8 h1 h2 h3
  repeat' (first
   |(refine ⟨fun hg=>?_,fun hg=>?_⟩<;>first|contradiction|(conv=>whnf))
   |(refine Or.inl ?_;conv=>whnf)
   |(refine ⟨_,k5,?_⟩;conv=>whnf)
   |(refine And.intro ?_ ?_;kernel_rfl;conv=>whnf))
  rw [e];rfl
end Sh
