/-
  Chapter 3's functions, walked over pure data: the library of the walk, the functions' code over data, and what each computes. (part 7)
-/
import Derived.Test.YtkaglomkahhjcaaGreatDoorP6
import Derived.Test.YtkaglomkahhjcaaGreatDoorProg
set_option linter.unusedVariables false
set_option linter.unusedSimpArgs false
set_option maxRecDepth 100000
namespace Sh
open Go
def dc59 : DFunc := ⟨11,1,[.tmp 2],.seq (.ops false [⟨some 1,.box 2 (.tmp 0),none,[]⟩,⟨some 2,.mov (.const (.int .i64 0)),none,[]⟩]) (.seq (.ops true [⟨some 3,.faddr 0 1 false (.tmp 1),none,[]⟩,⟨some 4,.load none (.tmp 3),none,[0]⟩,⟨some 5,.call (.func 96) [.tmp 4,.const (.int .i64 1),.const (.int .i64 100)],none,[1,0]⟩,⟨some 6,.faddr 1 1 false (.tmp 1),none,[]⟩,⟨some 7,.load none (.tmp 6),none,[3]⟩,⟨some 8,.call (.func 96) [.tmp 7,.const (.int .i64 (-100)),.const (.int .i64 100)],none,[4,3,2,1,0]⟩,⟨some 9,.lit true 1 2 (.int .i64 0) [(0,(.tmp 5)),(1,(.tmp 8))],none,[2,1,0,5,4,3]⟩,⟨some 10,.call (.func 94) [.tmp 9],none,[6,2,1,0,5,4,3]⟩,⟨some 2,.mov (.tmp 10),none,[7,6,2,1,0,5,4,3]⟩]) .ret)⟩
theorem dh59 : cProg Go.Proofs.Tryz.prog ⟨[], [], [9]⟩ 59 = some dc59 := by kernel_rfl
def dc60 : DFunc := ⟨11,1,[.tmp 2],.seq (.ops false [⟨some 1,.box 2 (.tmp 0),none,[]⟩,⟨some 2,.mov (.const (.int .i64 0)),none,[]⟩]) (.seq (.ops true [⟨some 3,.faddr 0 1 false (.tmp 1),none,[]⟩,⟨some 4,.load none (.tmp 3),none,[0]⟩,⟨some 5,.call (.func 96) [.tmp 4,.const (.int .i64 1),.const (.int .i64 1000)],none,[1,0]⟩,⟨some 6,.faddr 1 1 false (.tmp 1),none,[]⟩,⟨some 7,.load none (.tmp 6),none,[3]⟩,⟨some 8,.call (.func 96) [.tmp 7,.const (.int .i64 (-1000)),.const (.int .i64 1000)],none,[4,3,2,1,0]⟩,⟨some 9,.lit true 1 2 (.int .i64 0) [(0,(.tmp 5)),(1,(.tmp 8))],none,[2,1,0,5,4,3]⟩,⟨some 10,.call (.func 94) [.tmp 9],none,[6,2,1,0,5,4,3]⟩,⟨some 2,.mov (.tmp 10),none,[7,6,2,1,0,5,4,3]⟩]) .ret)⟩
theorem dh60 : cProg Go.Proofs.Tryz.prog ⟨[], [], [9]⟩ 60 = some dc60 := by kernel_rfl
def dc66 : DFunc := ⟨6,1,[.tmp 2],.seq (.ops false [⟨some 2,.mov (.const (.slice none 0 0)),none,[]⟩]) (.seq (.ops false [⟨some 3,.lit true 2 0 (.agg [.int .i64 0,.int .i64 0]) [],none,[]⟩,⟨some 4,.mov (.tmp 0),none,[]⟩,⟨some 5,.append true 2 (.tmp 3) (.tmp 4),none,[]⟩,⟨some 2,.mov (.tmp 5),none,[]⟩]) .ret)⟩
theorem dh66 : cProg Go.Proofs.Tryz.prog ⟨[], [], [3, 5]⟩ 66 = some dc66 := by kernel_rfl
def db69_0 : DC := (.seq (.seq (.ops false [⟨some 34,.mov (.tmp 6),none,[]⟩,⟨some 35,.mov (.tmp 4),none,[]⟩,⟨some 36,.bin .lss (.tmp 34) (.tmp 35),none,[]⟩]) (.cond (.tmp 36) .skip (.exit 2))) (.seq (.block 3 none (.seq (.ops true [⟨some 39,.mov (.tmp 0),none,[]⟩,⟨some 40,.mov (.tmp 6),none,[]⟩,⟨some 41,.iaddr 2 (.tmp 39) (.tmp 40),none,[0,1]⟩,⟨some 42,.load (some 2) (.tmp 41),none,[2,0,1]⟩,⟨some 43,.mov (.tmp 0),none,[]⟩,⟨some 44,.mov (.tmp 4),none,[]⟩,⟨some 45,.iaddr 2 (.tmp 43) (.tmp 44),none,[4,5]⟩,⟨some 46,.load (some 2) (.tmp 45),none,[6,4,5]⟩,⟨some 47,.eqA false [1,1] (.tmp 42) (.tmp 46),none,[3,2,0,1,7,6,4,5]⟩]) (.cond (.tmp 47) (.seq (.ops false [⟨some 2,.mov (.const (.int .i64 9)),none,[]⟩]) .ret) .skip))) (.ops false [⟨some 37,.mov (.tmp 6),none,[]⟩,⟨some 38,.bin .add (.tmp 37) (.const (.int .i64 1)),none,[]⟩,⟨some 6,.mov (.tmp 38),none,[]⟩])))
def dk69_0 : Keep := ⟨[],[0,4,6],[15]⟩
def db69_1 : DC := (.seq (.seq (.ops false [⟨some 20,.mov (.tmp 4),none,[]⟩,⟨some 21,.mov (.tmp 0),none,[]⟩,⟨some 22,.len (.tmp 21),none,[]⟩,⟨some 23,.bin .lss (.tmp 20) (.tmp 22),none,[]⟩]) (.cond (.tmp 23) .skip (.exit 0))) (.seq (.block 1 (some ⟨[],[0,4],[15]⟩) (.seq (.seq (.ops false [⟨some 26,.mov (.tmp 0),none,[]⟩,⟨some 27,.mov (.tmp 4),none,[]⟩,⟨some 28,.iaddr 2 (.tmp 26) (.tmp 27),none,[]⟩,⟨some 29,.load (some 2) (.tmp 28),none,[]⟩,⟨some 30,.call (.func 59) [.tmp 29],none,[]⟩,⟨some 5,.mov (.tmp 30),none,[]⟩]) (.seq (.ops false [⟨some 31,.mov (.tmp 5),none,[]⟩,⟨some 32,.bin .neq (.tmp 31) (.const (.int .i64 0)),none,[]⟩]) (.cond (.tmp 32) (.seq (.ops false [⟨some 33,.mov (.tmp 5),none,[]⟩,⟨some 2,.mov (.tmp 33),none,[]⟩]) .ret) .skip))) (.seq (.ops false [⟨some 6,.mov (.const (.int .i64 0)),none,[]⟩]) (.block 2 (some ⟨[],[0,4],[15]⟩) (.loop dk69_0 db69_0))))) (.ops false [⟨some 24,.mov (.tmp 4),none,[]⟩,⟨some 25,.bin .add (.tmp 24) (.const (.int .i64 1)),none,[]⟩,⟨some 4,.mov (.tmp 25),none,[]⟩])))
def dk69_1 : Keep := ⟨[],[0,4],[15]⟩
def dc69 : DFunc := ⟨48,1,[.tmp 2],.seq (.ops false [⟨some 2,.mov (.const (.int .i64 0)),none,[]⟩]) (.seq (.seq (.ops false [⟨some 7,.mov (.tmp 0),none,[]⟩,⟨some 8,.len (.tmp 7),none,[]⟩,⟨some 9,.bin .eql (.tmp 8) (.const (.int .i64 0)),none,[]⟩,⟨some 10,.call (.func 95) [.tmp 9,.const (.int .i64 12)],none,[]⟩,⟨some 11,.mov (.tmp 0),none,[]⟩,⟨some 12,.len (.tmp 11),none,[]⟩,⟨some 13,.bin .gtr (.tmp 12) (.const (.int .i64 16)),none,[]⟩,⟨some 14,.call (.func 95) [.tmp 13,.const (.int .i64 5)],none,[]⟩,⟨some 15,.lit true 1 2 (.int .i64 0) [(0,(.tmp 10)),(1,(.tmp 14))],none,[]⟩,⟨some 16,.call (.func 94) [.tmp 15],none,[]⟩,⟨some 3,.mov (.tmp 16),none,[]⟩]) (.seq (.ops false [⟨some 17,.mov (.tmp 3),none,[]⟩,⟨some 18,.bin .neq (.tmp 17) (.const (.int .i64 0)),none,[]⟩]) (.cond (.tmp 18) (.seq (.ops false [⟨some 19,.mov (.tmp 3),none,[]⟩,⟨some 2,.mov (.tmp 19),none,[]⟩]) .ret) .skip))) (.seq (.seq (.ops false [⟨some 4,.mov (.const (.int .i64 0)),none,[]⟩]) (.block 0 (some ⟨[],[],[15]⟩) (.loop dk69_1 db69_1))) (.seq (.ops false [⟨some 2,.mov (.const (.int .i64 0)),none,[]⟩]) .ret)))⟩
theorem dh69 : cProg Go.Proofs.Tryz.prog ⟨[(0, ⟨[], [0, 4], [15]⟩), (2, ⟨[], [0, 4, 6], [15]⟩)], [(2, ⟨[], [0, 4], [15]⟩), (1, ⟨[], [0, 4], [15]⟩), (0, ⟨[], [], [15]⟩)], [15]⟩ 69 = some dc69 := by kernel_rfl
def db70_0 : DC := (.seq (.seq (.ops false [⟨some 19,.mov (.tmp 4),none,[]⟩,⟨some 20,.mov (.tmp 0),none,[]⟩,⟨some 21,.len (.tmp 20),none,[]⟩,⟨some 22,.bin .lss (.tmp 19) (.tmp 21),none,[]⟩]) (.cond (.tmp 22) .skip (.exit 0))) (.seq (.block 1 none (.seq (.ops true [⟨some 25,.mov (.tmp 0),none,[]⟩,⟨some 26,.mov (.tmp 4),none,[]⟩,⟨some 27,.iaddr 3 (.tmp 25) (.tmp 26),none,[0,1]⟩,⟨some 28,.faddr 0 1 false (.tmp 27),none,[2,0,1]⟩,⟨some 29,.load none (.tmp 28),none,[3,2,0,1]⟩,⟨some 30,.call (.func 96) [.tmp 29,.const (.int .i64 (-1000)),.const (.int .i64 1000)],none,[4,3,2,0,1]⟩,⟨some 31,.mov (.tmp 0),none,[]⟩,⟨some 32,.mov (.tmp 4),none,[]⟩,⟨some 33,.iaddr 3 (.tmp 31) (.tmp 32),none,[6,7]⟩,⟨some 34,.faddr 1 1 false (.tmp 33),none,[8,6,7]⟩,⟨some 35,.load none (.tmp 34),none,[9,8,6,7]⟩,⟨some 36,.call (.func 96) [.tmp 35,.const (.int .i64 (-1000)),.const (.int .i64 1000)],none,[10,9,8,6,7,5,4,3,2,0,1]⟩,⟨some 37,.mov (.tmp 0),none,[]⟩,⟨some 38,.mov (.tmp 4),none,[]⟩,⟨some 39,.iaddr 3 (.tmp 37) (.tmp 38),none,[12,13]⟩,⟨some 40,.faddr 2 1 false (.tmp 39),none,[14,12,13]⟩,⟨some 41,.load none (.tmp 40),none,[15,14,12,13]⟩,⟨some 42,.call (.func 96) [.tmp 41,.const (.int .i64 (-1000)),.const (.int .i64 1000)],none,[16,15,14,12,13,11,10,9,8,6,7,5,4,3,2,0,1]⟩,⟨some 43,.lit true 1 3 (.int .i64 0) [(0,(.tmp 30)),(1,(.tmp 36)),(2,(.tmp 42))],none,[5,4,3,2,0,1,11,10,9,8,6,7,17,16,15,14,12,13]⟩,⟨some 44,.call (.func 94) [.tmp 43],none,[18,5,4,3,2,0,1,11,10,9,8,6,7,17,16,15,14,12,13]⟩,⟨some 5,.mov (.tmp 44),none,[19,18,5,4,3,2,0,1,11,10,9,8,6,7,17,16,15,14,12,13]⟩]) (.seq (.ops false [⟨some 45,.mov (.tmp 5),none,[]⟩,⟨some 46,.bin .neq (.tmp 45) (.const (.int .i64 0)),none,[]⟩]) (.cond (.tmp 46) (.seq (.ops false [⟨some 47,.mov (.tmp 5),none,[]⟩,⟨some 2,.mov (.tmp 47),none,[]⟩]) .ret) .skip)))) (.ops false [⟨some 23,.mov (.tmp 4),none,[]⟩,⟨some 24,.bin .add (.tmp 23) (.const (.int .i64 1)),none,[]⟩,⟨some 4,.mov (.tmp 24),none,[]⟩])))
def dk70_0 : Keep := ⟨[],[0,4],[14]⟩
def dc70 : DFunc := ⟨48,1,[.tmp 2],.seq (.ops false [⟨some 2,.mov (.const (.int .i64 0)),none,[]⟩]) (.seq (.seq (.ops false [⟨some 6,.mov (.tmp 0),none,[]⟩,⟨some 7,.len (.tmp 6),none,[]⟩,⟨some 8,.bin .eql (.tmp 7) (.const (.int .i64 0)),none,[]⟩,⟨some 9,.call (.func 95) [.tmp 8,.const (.int .i64 12)],none,[]⟩,⟨some 10,.mov (.tmp 0),none,[]⟩,⟨some 11,.len (.tmp 10),none,[]⟩,⟨some 12,.bin .gtr (.tmp 11) (.const (.int .i64 64)),none,[]⟩,⟨some 13,.call (.func 95) [.tmp 12,.const (.int .i64 5)],none,[]⟩,⟨some 14,.lit true 1 2 (.int .i64 0) [(0,(.tmp 9)),(1,(.tmp 13))],none,[]⟩,⟨some 15,.call (.func 94) [.tmp 14],none,[]⟩,⟨some 3,.mov (.tmp 15),none,[]⟩]) (.seq (.ops false [⟨some 16,.mov (.tmp 3),none,[]⟩,⟨some 17,.bin .neq (.tmp 16) (.const (.int .i64 0)),none,[]⟩]) (.cond (.tmp 17) (.seq (.ops false [⟨some 18,.mov (.tmp 3),none,[]⟩,⟨some 2,.mov (.tmp 18),none,[]⟩]) .ret) .skip))) (.seq (.seq (.ops false [⟨some 4,.mov (.const (.int .i64 0)),none,[]⟩]) (.block 0 (some ⟨[],[],[14]⟩) (.loop dk70_0 db70_0))) (.seq (.ops false [⟨some 2,.mov (.const (.int .i64 0)),none,[]⟩]) .ret)))⟩
theorem dh70 : cProg Go.Proofs.Tryz.prog ⟨[(0, ⟨[], [0, 4], [14]⟩)], [(0, ⟨[], [], [14]⟩)], [14, 43]⟩ 70 = some dc70 := by kernel_rfl
end Sh

set_option maxRecDepth 100000
namespace Sh
open Go
def db94_0 : DC := (.seq (.seq (.ops false [⟨some 4,.mov (.tmp 3),none,[]⟩,⟨some 5,.mov (.tmp 0),none,[]⟩,⟨some 6,.len (.tmp 5),none,[]⟩,⟨some 7,.bin .lss (.tmp 4) (.tmp 6),none,[]⟩]) (.cond (.tmp 7) .skip (.exit 0))) (.seq (.block 1 none (.seq (.ops false [⟨some 10,.mov (.tmp 0),none,[]⟩,⟨some 11,.mov (.tmp 3),none,[]⟩,⟨some 12,.iaddr 1 (.tmp 10) (.tmp 11),none,[]⟩,⟨some 13,.load none (.tmp 12),none,[]⟩,⟨some 14,.bin .neq (.tmp 13) (.const (.int .i64 0)),none,[]⟩]) (.cond (.tmp 14) (.seq (.ops false [⟨some 15,.mov (.tmp 0),none,[]⟩,⟨some 16,.mov (.tmp 3),none,[]⟩,⟨some 17,.iaddr 1 (.tmp 15) (.tmp 16),none,[]⟩,⟨some 18,.load none (.tmp 17),none,[]⟩,⟨some 2,.mov (.tmp 18),none,[]⟩]) .ret) .skip))) (.ops false [⟨some 8,.mov (.tmp 3),none,[]⟩,⟨some 9,.bin .add (.tmp 8) (.const (.int .i64 1)),none,[]⟩,⟨some 3,.mov (.tmp 9),none,[]⟩])))
def dk94_0 : Keep := ⟨[],[0,3],[]⟩
def dc94 : DFunc := ⟨19,1,[.tmp 2],.seq (.ops false [⟨some 2,.mov (.const (.int .i64 0)),none,[]⟩]) (.seq (.seq (.ops false [⟨some 3,.mov (.const (.int .i64 0)),none,[]⟩]) (.block 0 (some ⟨[],[],[]⟩) (.loop dk94_0 db94_0))) (.seq (.ops false [⟨some 2,.mov (.const (.int .i64 0)),none,[]⟩]) .ret))⟩
theorem dh94 : cProg Go.Proofs.Tryz.prog ⟨[(0, ⟨[], [0, 3], []⟩)], [(0, ⟨[], [], []⟩)], []⟩ 94 = some dc94 := by kernel_rfl
def dc95 : DFunc := ⟨7,2,[.tmp 4],.seq (.ops false [⟨some 4,.mov (.const (.int .i64 0)),none,[]⟩]) (.seq (.seq (.ops false [⟨some 5,.mov (.tmp 0),none,[]⟩]) (.cond (.tmp 5) (.seq (.ops false [⟨some 6,.mov (.tmp 1),none,[]⟩,⟨some 4,.mov (.tmp 6),none,[]⟩]) .ret) .skip)) (.seq (.ops false [⟨some 4,.mov (.const (.int .i64 0)),none,[]⟩]) .ret))⟩
theorem dh95 : cProg Go.Proofs.Tryz.prog ⟨[], [], []⟩ 95 = some dc95 := by kernel_rfl
def dc96 : DFunc := ⟨16,3,[.tmp 6],.seq (.ops false [⟨some 6,.mov (.const (.int .i64 0)),none,[]⟩]) (.seq (.ops false [⟨some 7,.mov (.tmp 0),none,[]⟩,⟨some 8,.mov (.tmp 1),none,[]⟩,⟨some 9,.bin .lss (.tmp 7) (.tmp 8),none,[]⟩,⟨some 10,.mov (.tmp 9),none,[]⟩,⟨some 11,.mov (.tmp 0),some (10,false),[]⟩,⟨some 12,.mov (.tmp 2),some (10,false),[]⟩,⟨some 13,.bin .gtr (.tmp 11) (.tmp 12),some (10,false),[]⟩,⟨some 14,.pick (.tmp 10) (.const (.bool true)) (.tmp 13),none,[]⟩,⟨some 15,.call (.func 95) [.tmp 14,.const (.int .i64 3)],none,[]⟩,⟨some 6,.mov (.tmp 15),none,[]⟩]) .ret)⟩
theorem dh96 : cProg Go.Proofs.Tryz.prog ⟨[], [], []⟩ 96 = some dc96 := by kernel_rfl
end Sh

set_option maxRecDepth 100000
namespace Sh
open Go
def dc16 : DFunc := ⟨6,1,[.tmp 2],.seq (.ops false [⟨some 2,.mov (.const (.slice none 0 0)),none,[]⟩]) (.seq (.ops false [⟨some 3,.lit true 3 0 (.agg [.int .i64 0,.int .i64 0,.int .i64 0]) [],none,[]⟩,⟨some 4,.mov (.tmp 0),none,[]⟩,⟨some 5,.append true 3 (.tmp 3) (.tmp 4),none,[]⟩,⟨some 2,.mov (.tmp 5),none,[]⟩]) .ret)⟩
theorem dh16 : cProg Go.Proofs.Tryz.prog ⟨[], [], [3, 5]⟩ 16 = some dc16 := by kernel_rfl
end Sh

set_option maxRecDepth 100000
set_option linter.unusedSimpArgs false
set_option linter.unusedVariables false
namespace Sh
open Go Go.Proofs
theorem q_When (b : Bool) (e : Int) : PC 95 [.bool b, DV.int .i64 (e)] (DV.int .i64 (whenE b e)) := by
 refine pureCall_ofR dh95 rfl ?_
 conv => whnf
 refine ⟨fun hb => ?_, fun hb => ?_⟩ <;> try (exact absurd hb (by decide))
 all_goals conv => whnf
 all_goals subst hb; rfl
theorem q_CheckRange (n l h : Int) : PC 96 [DV.int .i64 (n), DV.int .i64 (l), DV.int .i64 (h)] (DV.int .i64 (withE n l h)) := by
 refine pureCall_ofR dh96 rfl ?_
 conv => whnf
 refine ⟨fun hb => ?_, fun hb => ?_⟩ <;> try (exact absurd hb (by decide))
 all_goals conv => whnf
 ·refine .inl ?_
  conv => whnf
  refine ⟨_, q_When .., ?_⟩
  conv => whnf
  exact int_eq (by simp_all [withE, whenE]; split <;> split <;> omega)
 ·refine .inl ?_
  conv => whnf
  refine ⟨_, q_When .., ?_⟩
  conv => whnf
  exact int_eq (by simp_all [withE, whenE])
theorem q_First (l : List Int) (hl : l.length < 4611686018427387904) : PC 94 [iL l] (DV.int .i64 (firstE l)) := by
 refine pureCall_ofR dh94 rfl ?_
 conv => whnf
 refine dwp_loopR (P := Tryz.prog) (G := GC) (k := dk94_0) (b := db94_0) (α := Nat) (fun i => [(0, iL l), (3, DV.int .i64 (i))]) (fun _ => []) (fun i => i ≤ l.length ∧ firstE l = firstE (l.drop i)) (fun i => l.length - i) 0 ⟨rfl, rfl, rfl⟩ ⟨Nat.zero_le _, rfl⟩ ?_
 intro i ⟨h1, h2⟩
 conv => whnf
 refine ⟨fun hb => ?_, fun hb => ?_⟩ <;> try (exact absurd hb (by decide))
 ·have hi : i < l.length := by simpa using hb
  have hd := firstE_drop l i hi
  conv => whnf
  rw [getD_enc _ _ (i) 0 hi]
  refine ⟨idxA hi rfl, ?_⟩
  conv => whnf
  refine ⟨fun hb => ?_, fun hb => ?_⟩ <;> try (exact absurd hb (by decide))
  ·conv => whnf
   rw [getD_enc _ _ (i) 0 hi]
   refine ⟨idxA hi rfl, ?_⟩
   conv => whnf
   exact int_eq (by simp_all)
  ·conv => whnf
   rw [wrap_succ i (by omega)]
   exact ⟨i + 1, rfl, rfl, rfl, ⟨hi, by simp_all⟩, by omega⟩
 ·conv => whnf
  have : i = l.length := by simp at hb; omega
  subst this
  exact int_eq (by rw [h2]; simp [firstE])
end Sh

set_option linter.unusedSimpArgs false
set_option linter.unusedVariables false
namespace Sh
open Go
theorem chkPitch_zero {p : Pt} (h : chkPitch p = 0) : (1 ≤ p.x ∧ p.x ≤ 1000) ∧ (-1000 ≤ p.y ∧ p.y ≤ 1000) := by
 unfold chkPitch at h
 obtain ⟨h1, h⟩ := firstE_cons h
 obtain ⟨h2, h⟩ := firstE_cons h
 exact ⟨withE_zero h1, withE_zero h2⟩
end Sh

set_option linter.unusedSimpArgs false
set_option linter.unusedVariables false
namespace Sh
open Go
theorem rulB_spec (l : List Pt) (p : Pt) (sun : V3) : ∀ k : Nat, (rulB l p sun k = -1 ∧ ∀ i, i < k → freeB (l.getD i P0) p sun = false) ∨
  (∃ n : Nat, rulB l p sun k = n ∧ n < k ∧ freeB (l.getD n P0) p sun = true ∧ ∀ i, i < k → freeB (l.getD i P0) p sun = true → acr (l.getD i P0) sun ≤ acr (l.getD n P0) sun ∧ (acr (l.getD i P0) sun = acr (l.getD n P0) sun → n ≤ i))
 |0 => .inl ⟨rfl, fun i h => by omega⟩
 |k + 1 => by
  unfold rulB
  cases hf : freeB (l.getD k P0) p sun with
  |false =>
   rw [Bool.false_and]
   rw [if_neg (by simp)]
   rcases rulB_spec l p sun k with ⟨h1, h2⟩ | ⟨n, h1, h2, h3, h4⟩
   ·refine .inl ⟨h1, fun i hi => ?_⟩
    by_cases e : i = k
    ·subst e; exact hf
    ·exact h2 i (by omega)
   ·refine .inr ⟨n, h1, by omega, h3, fun i hi hfi => ?_⟩
    by_cases e : i = k
    ·subst e; rw [hf] at hfi; cases hfi
    ·exact h4 i (by omega) hfi
  |true =>
   rw [Bool.true_and]
   rcases rulB_spec l p sun k with ⟨h1, h2⟩ | ⟨n, h1, h2, h3, h4⟩
   ·rw [h1, if_pos (by simp)]
    refine .inr ⟨k, rfl, by omega, hf, fun i hi hfi => ?_⟩
    by_cases e : i = k
    ·subst e; exact ⟨Int.le_refl _, fun _ => Nat.le_refl _⟩
    ·rw [h2 i (by omega)] at hfi; cases hfi
   ·rw [h1, Int.toNat_natCast]
    by_cases hg : acr (l.getD n P0) sun < acr (l.getD k P0) sun
    ·rw [if_pos (by rw [decide_eq_true hg, Bool.or_true])]
     refine .inr ⟨k, rfl, by omega, hf, fun i hi hfi => ?_⟩
     by_cases e : i = k
     ·subst e; exact ⟨Int.le_refl _, fun _ => Nat.le_refl _⟩
     ·have := h4 i (by omega) hfi
      exact ⟨by omega, fun h => by omega⟩
    ·rw [if_neg (by rw [decide_eq_false hg, decide_eq_false (by omega : ¬ (n : Int) < 0)]; decide)]
     refine .inr ⟨n, rfl, by omega, h3, fun i hi hfi => ?_⟩
     by_cases e : i = k
     ·subst e; exact ⟨by omega, fun _ => by omega⟩
     ·exact h4 i (by omega) hfi
theorem absI_pos (n : Int) : 0 ≤ absI n := by unfold absI; split <;> omega
theorem lowR_share {a b : Int} (h0 : 0 < a) (h1 : a ≤ b) : 0 < (lowR a b).1 ∧ (lowR a b).1 ≤ (lowR a b).2 := by
 have hg := gcdI_pos (n := a) (d := b) (by omega)
 have hd : gcdI a b ∣ a := Int.gcd_dvd_left a b
 obtain ⟨q, hq⟩ := hd
 unfold lowR
 simp only
 have ea : 0 ≤ a := Int.le_of_lt h0
 have eb : 0 ≤ b := Int.le_trans ea h1
 rw [Int.tdiv_eq_ediv_of_nonneg ea, Int.tdiv_eq_ediv_of_nonneg eb]
 have hg0 : 0 < gcdI a b := by omega
 refine ⟨?_, Int.ediv_le_ediv hg0 h1⟩
 generalize gcdI a b = g at *
 have : a / g = q := by
  rw [hq]
  exact Int.mul_ediv_cancel_left _ (by omega)
 rw [this]
 rcases Int.lt_trichotomy q 0 with h | h | h
 ·have := Int.mul_neg_of_pos_of_neg (a := g) (b := q) (by omega) h
  omega
 ·rw [h, Int.mul_zero] at hq; omega
 ·exact h
theorem shdR_spec (t p : Pt) (sun : V3) : decide ((shdR t p sun).1 = 0) = freeB t p sun ∧ 0 ≤ (shdR t p sun).1 ∧ (shdR t p sun).1 ≤ (shdR t p sun).2 := by
 unfold shdR
 have h1 : 0 ≤ roomI p sun := absI_pos _
 cases hf : freeB t p sun with
 |true => simp
 |false =>
  have h2 : roomI p sun < widI t sun := by
   unfold freeB at hf
   have := of_decide_eq_false hf
   omega
  have := lowR_share (a := widI t sun - roomI p sun) (b := widI t sun) (by omega) (by omega)
  simp only [Bool.false_eq_true, if_false]
  refine ⟨decide_eq_false (by omega), by omega, this.2⟩
theorem acr_twice (p : Pt) (sun : V3) : acr ⟨2 * p.x, 2 * p.y⟩ sun = 2 * acr p sun := by
 unfold acr
 simp only
 rw [Int.mul_assoc, Int.mul_assoc]; omega
theorem free_wide {t p : Pt} {sun : V3} (h : freeB t p sun = true) : freeB t ⟨2 * p.x, 2 * p.y⟩ sun = true := by
 unfold freeB roomI at *
 rw [acr_twice]
 have h := of_decide_eq_true h
 refine decide_eq_true ?_
 unfold absI at *
 split <;> split at h <;> omega
theorem rule_wide {l : List Pt} {p : Pt} {sun : V3} {n : Nat} (hn : n < l.length) (h : ruleS l p sun = n) : ∃ m : Nat, m < l.length ∧ ruleS l ⟨2 * p.x, 2 * p.y⟩ sun = m ∧ acr (l.getD n P0) sun ≤ acr (l.getD m P0) sun := by
 unfold ruleS at *
 have hf : freeB (l.getD n P0) p sun = true := by
  rcases rulB_spec l p sun l.length with ⟨h1, _⟩ | ⟨k, h1, _, h3, _⟩
  ·omega
  ·have : k = n := by omega
   subst this; exact h3
 have hf := free_wide hf
 rcases rulB_spec l ⟨2 * p.x, 2 * p.y⟩ sun l.length with ⟨_, h2⟩ | ⟨m, h1, h2, h3, h4⟩
 ·rw [h2 n hn] at hf; cases hf
 ·exact ⟨m, h2, h1, (h4 n hn hf).1⟩
end Sh

set_option maxRecDepth 100000
set_option linter.unusedSimpArgs false
set_option linter.unusedVariables false
namespace Sh
open Go Go.Proofs
theorem r_CheckTilt (p : Pt) : PC 59 [encPt p] (DV.int .i64 (chkTilt p)) := by
 refine pureCall_ofR dh59 rfl ?_
 conv => whnf
 repeat' (first
  |(refine ⟨fun hg => ?_, fun hg => ?_⟩ <;> first | contradiction | (conv => whnf))
  |(refine Or.inl ?_; conv => whnf)
  |(refine ⟨_, q_CheckRange .., ?_⟩; conv => whnf)
  |(refine ⟨_, q_First [_, _] (by simp), ?_⟩; conv => whnf)
  |(refine And.intro ?_ ?_; kernel_rfl; conv => whnf))
 rfl
theorem r_CheckPitch (p : Pt) : PC 60 [encPt p] (DV.int .i64 (chkPitch p)) := by
 refine pureCall_ofR dh60 rfl ?_
 conv => whnf
 repeat' (first
  |(refine ⟨fun hg => ?_, fun hg => ?_⟩ <;> first | contradiction | (conv => whnf))
  |(refine Or.inl ?_; conv => whnf)
  |(refine ⟨_, q_CheckRange .., ?_⟩; conv => whnf)
  |(refine ⟨_, q_First [_, _] (by simp), ?_⟩; conv => whnf)
  |(refine And.intro ?_ ?_; kernel_rfl; conv => whnf))
 rfl
end Sh

set_option maxRecDepth 100000
set_option linter.unusedSimpArgs false
set_option linter.unusedVariables false
namespace Sh
open Go Go.Proofs
theorem map_getD {α : Type} (g : α → Int) (l : List α) (i : Nat) (d : α) (h : i < l.length) : (l.map g).getD i 0 = g (l.getD i d) := by simp [List.getD_eq_getElem?_getD, h]
end Sh

set_option maxRecDepth 100000
set_option linter.unusedSimpArgs false
set_option linter.unusedVariables false
namespace Sh
open Go Go.Proofs
theorem l_own (s : List V3) (hl : s.length < 1073741824) : PC 16 [shp s] (shp s) := by
 refine pureCall_ofR dh16 rfl ?_
 conv => whnf
 refine ⟨⟨by simp; omega, fun e he => by obtain ⟨v, _, rfl⟩ := List.mem_map.1 he; rfl, fun e he => absurd he List.not_mem_nil⟩, ?_⟩
 conv => whnf
 rfl
theorem l_points (l : List Pt) (hl : l.length < 1073741824) : PC 66 [pts l] (pts l) := by
 refine pureCall_ofR dh66 rfl ?_
 conv => whnf
 refine ⟨⟨by simp; omega, fun e he => by obtain ⟨v, _, rfl⟩ := List.mem_map.1 he; rfl, fun e he => absurd he List.not_mem_nil⟩, ?_⟩
 conv => whnf
 rfl
end Sh

set_option maxRecDepth 100000
set_option linter.unusedSimpArgs false
set_option linter.unusedVariables false
namespace Sh
open Go Go.Proofs
theorem r_CheckTilts (l : List Pt) (hl : l.length < 1073741824) : PC 69 [pts l] (DV.int .i64 (chkTilts l)) := by
 have e0 : ((l.map encPt).length : Int) = l.length := by simp
 have k3 := q_First [whenE (decide (((l.map encPt).length : Int) = 0)) 12, whenE (decide (16 < ((l.map encPt).length : Int))) 5] (by simp)
 have hS : firstE [whenE (decide (((l.map encPt).length : Int) = 0)) 12, whenE (decide (16 < ((l.map encPt).length : Int))) 5] = sizeT_ l := by rw [e0]; rfl
 refine pureCall_ofR dh69 rfl ?_
 conv => whnf
 repeat' (first
  |(refine ⟨fun hg => ?_, fun hg => ?_⟩ <;> first | contradiction | (conv => whnf))
  |(refine Or.inl ?_; conv => whnf)
  |(refine ⟨_, q_When .., ?_⟩; conv => whnf)
  |(refine ⟨_, k3, ?_⟩; conv => whnf)
  |(refine And.intro ?_ ?_; kernel_rfl; conv => whnf))
 ·have hg := of_decide_eq_true hg
  rw [hS] at hg ⊢
  exact int_eq (by unfold chkTilts; rw [if_pos hg])
 ·have hg := of_decide_eq_false hg
  rw [hS] at hg
  have hc : chkTilts l = firstE (rng l.length (tiltI l)) := if_neg hg
  clear hg hS k3
  refine dwp_loopU (P := Tryz.prog) (G := GC) (k := dk69_1) (b := db69_1) (α := Nat) (fun i => [(4, DV.int .i64 (i))]) (fun _ => []) (fun i => i ≤ l.length ∧ firstE (rng l.length (tiltI l)) = firstE ((rng l.length (tiltI l)).drop i)) (fun i => l.length - i) 0 ⟨Nat.zero_le _, rfl⟩ ?_
  conv => whnf
  refine ⟨rfl, rfl, ?_⟩
  conv => whnf
  refine ⟨rfl, ?_⟩
  intro i ⟨h1, h2⟩
  conv => whnf
  refine ⟨fun hb => ?_, fun hb => ?_⟩
  ·have hi : i < l.length := by simpa using hb
   have hd := firstE_drop (rng l.length (tiltI l)) i (by rw [rng_len]; exact hi)
   rw [rng_getDI _ hi] at hd
   have k1 := r_CheckTilt (l.getD i P0)
   have hT : tiltI l i = firstE [chkTilt (l.getD i P0), whenE (findP (l.take i) (l.getD i P0)) 9] := rfl
   clear hb
   conv => whnf
   rw [getD_enc _ _ (i) P0 hi]
   refine ⟨idxA hi rfl, ?_⟩
   conv => whnf
   repeat' (first
    |(refine ⟨fun hg => ?_, fun hg => ?_⟩ <;> first | contradiction | (conv => whnf))
    |(refine Or.inl ?_; conv => whnf)
    |(refine ⟨_, k1, ?_⟩; conv => whnf)
    |(refine And.intro ?_ ?_; kernel_rfl; conv => whnf))
   ·have hg : chkTilt (l.getD i P0) ≠ 0 := of_decide_eq_true hg
    have hv : tiltI l i = chkTilt (l.getD i P0) := by rw [hT]; simp only [firstE]; rw [if_pos hg]
    rw [hv, if_pos hg] at hd
    exact int_eq (by rw [hc, h2, hd])
   ·have hg : ¬ chkTilt (l.getD i P0) ≠ 0 := of_decide_eq_false hg
    have hv : tiltI l i = whenE (findP (l.take i) (l.getD i P0)) 9 := by
     rw [hT]; simp only [firstE]; rw [if_neg hg]
     generalize whenE (findP (l.take i) (l.getD i P0)) 9 = w
     by_cases e : w = 0
     ·rw [if_neg (fun h => h e), e]
     ·rw [if_pos e]
    clear hg hT
    refine dwp_loopU (P := Tryz.prog) (G := GC) (k := dk69_0) (b := db69_0) (α := Nat) (fun j => [(6, DV.int .i64 (j))]) (fun _ => []) (fun j => j ≤ i ∧ findP (l.take j) (l.getD i P0) = false) (fun j => i - j) 0 ⟨Nat.zero_le _, rfl⟩ ?_
    conv => whnf
    refine ⟨rfl, rfl, ?_⟩
    conv => whnf
    refine ⟨rfl, ?_⟩
    intro j ⟨j1, j2⟩
    conv => whnf
    refine ⟨fun hb => ?_, fun hb => ?_⟩
    ·have hj : j < i := by have := of_decide_eq_true hb; omega
     have hjl : j < l.length := by omega
     have hs : findP (l.take (j + 1)) (l.getD i P0) = samePt (l.getD j P0) (l.getD i P0) := by
      unfold findP at *
      rw [take_snoc l j P0 hjl, List.any_append, j2]; simp
     clear hb
     conv => whnf
     repeat' (first
      |(refine ⟨fun hg => ?_, fun hg => ?_⟩ <;> first | contradiction | (conv => whnf))
      |(refine Or.inl ?_; conv => whnf)
      |(rw [getD_enc _ _ j P0 hjl]; refine ⟨idxA hjl rfl, ?_⟩; conv => whnf)
      |(rw [getD_enc _ _ i P0 hi]; refine ⟨idxA hi rfl, ?_⟩; conv => whnf)
      |(refine And.intro ?_ ?_; kernel_rfl; conv => whnf))
     ·have hg : (decide ((l.getD j P0).x = (l.getD i P0).x) && (decide ((l.getD j P0).y = (l.getD i P0).y) && true)) = true := hg
      have hgt : samePt (l.getD j P0) (l.getD i P0) = true := by unfold samePt; rw [Bool.and_true] at hg; exact hg
      have hF : findP (l.take i) (l.getD i P0) = true := by
       unfold findP
       rw [List.any_eq_true]
       refine ⟨l.getD j P0, ?_, hgt⟩
       rw [← show (l.take i).getD j P0 = l.getD j P0 by simp [List.getD_eq_getElem?_getD, List.getElem?_take, hj]]
       exact getD_in P0 (by rw [List.length_take]; omega)
      rw [hF] at hv
      rw [hv, if_pos (by decide)] at hd
      exact int_eq (by rw [hc, h2, hd]; rfl)
     ·have hg : (decide ((l.getD j P0).x = (l.getD i P0).x) && (decide ((l.getD j P0).y = (l.getD i P0).y) && true)) = false := hg
      have hgf : samePt (l.getD j P0) (l.getD i P0) = false := by unfold samePt; rw [Bool.and_true] at hg; exact hg
      rw [wrap_succ j (by omega)]
      exact ⟨j + 1, rfl, rfl, rfl, ⟨hj, by rw [hs]; exact hgf⟩, by omega⟩
    ·have hj : j = i := by have := of_decide_eq_false hb; omega
     rw [hj] at j2
     rw [j2] at hv
     rw [hv, if_neg (by decide)] at hd
     clear hb
     conv => whnf
     rw [wrap_succ i (by omega)]
     exact ⟨i + 1, rfl, rfl, rfl, ⟨hi, h2.trans hd⟩, by omega⟩
  ·have hi : i = l.length := by have := of_decide_eq_false hb; rw [e0] at this; omega
   rw [hi, List.drop_of_length_le (by rw [rng_len]; exact Nat.le_refl _)] at h2
   clear hb
   conv => whnf
   exact int_eq (by rw [hc, h2]; rfl)
end Sh

set_option maxRecDepth 100000
set_option linter.unusedSimpArgs false
set_option linter.unusedVariables false
namespace Sh
open Go Go.Proofs
def crI (l : List Pt) (p : Pt) (sun : V3) (n : Int) : Int := if n < 0 ∨ (l.length : Int) ≤ n then 10 else if freeB (l.getD n.toNat P0) p sun = false then 32 else whenE (decide (rul0 (ruleS l p sun) ≠ n)) 19
end Sh

set_option maxRecDepth 100000
set_option maxHeartbeats 2000000
set_option linter.unusedSimpArgs false
set_option linter.unusedVariables false
namespace Sh
open Go Go.Proofs
def dayN (vs : List V3) : Int := firstE [whenE (decide ((vs.length : Int) = 0)) 12, whenE (decide (64 < (vs.length : Int))) 5]
def chkDay (vs : List V3) : Int := if dayN vs ≠ 0 then dayN vs else firstE (vs.map chkTv)
theorem r_CheckDay (vs : List V3) : PC 70 [.list (vs.map encV)] (DV.int .i64 (chkDay vs)) := by
 have e0 : ((vs.map encV).length : Int) = vs.length := by simp
 have hE : firstE [whenE (decide (((vs.map encV).length : Int) = 0)) 12, whenE (decide (64 < ((vs.map encV).length : Int))) 5] = dayN vs := by rw [e0]; rfl
 have k3 := q_First [whenE (decide (((vs.map encV).length : Int) = 0)) 12, whenE (decide (64 < ((vs.map encV).length : Int))) 5] (by simp)
 rw [hE] at k3
 refine pureCall_ofR dh70 rfl ?_
 conv => whnf
 repeat' (first
  |(refine ⟨fun hg => ?_, fun hg => ?_⟩ <;> first | contradiction | (conv => whnf))
  |(refine Or.inl ?_; conv => whnf)
  |(refine ⟨_, q_When .., ?_⟩; conv => whnf)
  |(refine ⟨_, k3, ?_⟩; conv => whnf)
  |(refine And.intro ?_ ?_; kernel_rfl; conv => whnf))
 ·have hg := of_decide_eq_true hg
  exact int_eq (by unfold chkDay; rw [if_pos hg])
 ·have hg := of_decide_eq_false hg
  have hc : chkDay vs = firstE (vs.map chkTv) := if_neg hg
  have hl : vs.length ≤ 64 := by
   have hz := Classical.not_not.1 hg
   unfold dayN at hz
   obtain ⟨z1, h⟩ := firstE_cons hz
   obtain ⟨z2, h⟩ := firstE_cons h
   have := of_decide_eq_false (whenE_zero z2 (by decide))
   omega
  clear hg hE k3
  refine dwp_loopU (P := Tryz.prog) (G := GC) (k := dk70_0) (b := db70_0) (α := Nat) (fun i => [(4, DV.int .i64 (i))]) (fun _ => []) (fun i => i ≤ vs.length ∧ firstE (vs.map chkTv) = firstE ((vs.map chkTv).drop i)) (fun i => vs.length - i) 0 ⟨Nat.zero_le _, rfl⟩ ?_
  conv => whnf
  refine ⟨rfl, rfl, ?_⟩
  conv => whnf
  refine ⟨rfl, ?_⟩
  intro i ⟨h1, h2⟩
  conv => whnf
  refine ⟨fun hb => ?_, fun hb => ?_⟩
  ·have hi : i < vs.length := by simpa using hb
   have hd := firstE_drop (vs.map chkTv) i (by rw [List.length_map]; exact hi)
   rw [map_getD chkTv vs i V0 hi] at hd
   clear hb
   conv => whnf
   repeat' (first
    |(refine ⟨fun hg => ?_, fun hg => ?_⟩ <;> first | contradiction | (conv => whnf))
    |(refine Or.inl ?_; conv => whnf)
    |(rw [getD_enc _ _ i V0 hi]; refine ⟨idxA hi rfl, ?_⟩; conv => whnf)
    |(refine ⟨_, q_CheckRange .., ?_⟩; conv => whnf)
    |(refine ⟨_, q_First [_, _, _] (by simp), ?_⟩; conv => whnf)
    |(refine And.intro ?_ ?_; kernel_rfl; conv => whnf))
   ·have hg := of_decide_eq_true (show decide (chkTv (vs.getD i V0) ≠ 0) = true from hg)
    rw [if_pos hg] at hd
    exact int_eq (by rw [hc, h2, hd]; rfl)
   ·have hg := of_decide_eq_false (show decide (chkTv (vs.getD i V0) ≠ 0) = false from hg)
    rw [if_neg hg] at hd
    rw [wrap_succ i (by omega)]
    exact ⟨i + 1, rfl, rfl, rfl, ⟨hi, h2.trans hd⟩, by omega⟩
  ·have hi : i = vs.length := by have := of_decide_eq_false hb; rw [e0] at this; omega
   rw [hi, List.drop_of_length_le (by rw [List.length_map]; exact Nat.le_refl _)] at h2
   clear hb
   conv => whnf
   exact int_eq (by rw [hc, h2]; rfl)
def tdE (l : List Pt) (p : Pt) (vs : List V3) : Int := firstE [chkTilts l, chkPitch p, chkDay vs]
theorem tkS_eq (l : List Pt) (p : Pt) (vs : List V3) : tkS l p vs = if tdE l p vs ≠ 0 then ([], tdE l p vs) else (vs.map (trI l p), 0) := by
 unfold tkS tkE tdE chkDay dayN
 simp only [firstE]
 generalize whenE (decide ((vs.length : Int) = 0)) 12 = x
 generalize whenE (decide (64 < (vs.length : Int))) 5 = y
 generalize firstE (vs.map chkTv) = z
 by_cases h1 : chkTilts l = 0
 ·by_cases h2 : chkPitch p = 0
  ·by_cases h3 : x = 0
   ·by_cases h4 : y = 0
    ·by_cases h5 : z = 0
     ·simp [h1, h2, h3, h4, h5]
     ·simp [h1, h2, h3, h4, h5]
    ·simp [h1, h2, h3, h4]
   ·simp [h1, h2, h3]
  ·simp [h1, h2]
 ·simp [h1]
theorem tdE_zero {l : List Pt} {p : Pt} {vs : List V3} (h : tdE l p vs = 0) : chkTilts l = 0 ∧ OkP p ∧ ∀ v ∈ vs, bdV 1000 v := by
 unfold tdE at h
 obtain ⟨z1, h⟩ := firstE_cons h
 obtain ⟨z2, h⟩ := firstE_cons h
 obtain ⟨z3, h⟩ := firstE_cons h
 refine ⟨z1, chkPitch_ok z2, fun v hv => ?_⟩
 unfold chkDay at z3
 by_cases hd : dayN vs ≠ 0
 ·rw [if_pos hd] at z3; exact absurd z3 hd
 ·rw [if_neg hd] at z3
  exact chkTv_zero (firstE_mem z3 _ (List.mem_map_of_mem hv))
theorem crS_ok {l : List Pt} {p : Pt} {sun : V3} {n : Int} (h : rlE l p sun = 0) : crS l p sun n = crI l p sun n := by
 have e : crE l p sun n = whenE (inB l n) 10 := by
  unfold rlE at h
  obtain ⟨z1, h⟩ := firstE_cons h
  obtain ⟨z2, h⟩ := firstE_cons h
  obtain ⟨z3, h⟩ := firstE_cons h
  unfold crE
  simp only [firstE]
  simp [z1, z2, z3]
  intro h; exact h.symm
 unfold crS crI
 rw [e]
 unfold inB
 by_cases h1 : n < 0 ∨ (l.length : Int) ≤ n
 ·rw [if_pos h1, show (decide (n < 0) || decide ((l.length : Int) ≤ n)) = true by simpa using h1]; rfl
 ·rw [if_neg h1, show (decide (n < 0) || decide ((l.length : Int) ≤ n)) = false by simp; omega]
  rw [if_neg (show ¬ whenE false 10 ≠ 0 from fun h => h rfl)]
  cases hf : freeB (l.getD n.toNat P0) p sun with
  |false => rfl
  |true =>
   rw [if_neg (by decide)]
   have hr : rul0 (ruleS l p sun) = ruleS l p sun := by
    rcases rulB_spec l p sun l.length with ⟨_, h2⟩ | ⟨k, h1, _⟩
    ·have := h2 n.toNat (by omega); rw [hf] at this; exact absurd this (by decide)
    ·unfold rul0 ruleS; rw [h1, if_neg (by omega)]
   rw [hr]
   simp only [firstE, whenE]
   by_cases h5 : ruleS l p sun = n <;> simp [h5]
end Sh

set_option maxRecDepth 100000
namespace Sh
open Go
def db11_0 : DC := (.seq (.ops false [⟨some 135,.bin .lss (.tmp 134) (.tmp 133),none,[]⟩]) (.seq (.cond (.tmp 135) .skip (.exit 2)) (.seq (.block 3 none (.seq (.ops false [⟨some 136,.mov (.tmp 134),none,[]⟩,⟨some 137,.iaddr 2 (.tmp 132) (.tmp 134),none,[]⟩,⟨some 138,.load (some 2) (.tmp 137),none,[]⟩,⟨some 17,.alloc (.agg [.int .i64 0,.int .i64 0]) 2,none,[]⟩,⟨some 16,.mov (.tmp 136),none,[]⟩,⟨none,.store 2 (.tmp 17) (.tmp 138),none,[]⟩]) (.seq (.ops false [⟨some 140,.load (some 2) (.tmp 17),none,[]⟩,⟨some 141,.load (some 2) (.tmp 4),none,[]⟩,⟨some 142,.load (some 3) (.tmp 11),none,[]⟩,⟨some 143,.call (.func 57) [.tmp 140,.tmp 141,.tmp 142],none,[]⟩,⟨some 139,.mov (.tmp 143),none,[]⟩,⟨some 144,.extract (.tmp 139) 0,none,[]⟩,⟨some 145,.extract (.tmp 139) 1,none,[]⟩,⟨some 18,.mov (.tmp 144),none,[]⟩,⟨some 19,.mov (.tmp 145),none,[]⟩]) (.seq (.ops false [⟨some 147,.load (some 2) (.tmp 17),none,[]⟩,⟨some 148,.load (some 2) (.tmp 4),none,[]⟩,⟨some 149,.load (some 3) (.tmp 11),none,[]⟩,⟨some 150,.call (.func 58) [.tmp 147,.tmp 148,.tmp 149],none,[]⟩,⟨some 146,.mov (.tmp 150),none,[]⟩,⟨some 151,.extract (.tmp 146) 0,none,[]⟩,⟨some 152,.extract (.tmp 146) 1,none,[]⟩,⟨some 20,.alloc (.agg [.int .i64 0,.int .i64 0]) 2,none,[]⟩,⟨none,.store 2 (.tmp 20) (.tmp 151),none,[]⟩,⟨some 21,.mov (.tmp 152),none,[]⟩]) (.seq (.ops false [⟨some 154,.load (some 2) (.tmp 17),none,[]⟩,⟨some 155,.load (some 3) (.tmp 11),none,[]⟩,⟨some 156,.call (.func 55) [.tmp 154,.tmp 155],none,[]⟩,⟨some 153,.mov (.tmp 156),none,[]⟩,⟨some 157,.extract (.tmp 153) 0,none,[]⟩,⟨some 158,.extract (.tmp 153) 1,none,[]⟩,⟨some 22,.mov (.tmp 157),none,[]⟩,⟨some 23,.mov (.tmp 158),none,[]⟩]) (.seq (.seq (.ops false [⟨some 159,.mov (.tmp 19),none,[]⟩,⟨some 160,.bin .neq (.tmp 159) (.const (.int .i64 0)),none,[]⟩,⟨some 161,.mov (.tmp 160),none,[]⟩,⟨some 162,.mov (.tmp 21),some (161,false),[]⟩,⟨some 163,.bin .neq (.tmp 162) (.const (.int .i64 0)),some (161,false),[]⟩,⟨some 164,.pick (.tmp 161) (.const (.bool true)) (.tmp 163),none,[]⟩,⟨some 165,.mov (.tmp 164),none,[]⟩,⟨some 166,.mov (.tmp 23),some (165,false),[]⟩,⟨some 167,.bin .neq (.tmp 166) (.const (.int .i64 0)),some (165,false),[]⟩,⟨some 168,.pick (.tmp 165) (.const (.bool true)) (.tmp 167),none,[]⟩,⟨some 169,.mov (.tmp 168),none,[]⟩,⟨some 170,.mov (.tmp 18),some (169,false),[]⟩,⟨some 171,.faddr 0 1 false (.tmp 20),some (169,false),[]⟩,⟨some 172,.load none (.tmp 171),some (169,false),[]⟩,⟨some 173,.bin .eql (.tmp 172) (.const (.int .i64 0)),some (169,false),[]⟩,⟨some 174,.eqB true (.tmp 170) (.tmp 173),some (169,false),[]⟩,⟨some 175,.pick (.tmp 169) (.const (.bool true)) (.tmp 174),none,[]⟩,⟨some 176,.mov (.tmp 175),none,[]⟩,⟨some 177,.faddr 0 1 false (.tmp 20),some (176,false),[]⟩,⟨some 178,.load none (.tmp 177),some (176,false),[]⟩,⟨some 179,.bin .lss (.tmp 178) (.const (.int .i64 0)),some (176,false),[]⟩,⟨some 180,.pick (.tmp 176) (.const (.bool true)) (.tmp 179),none,[]⟩,⟨some 181,.mov (.tmp 180),none,[]⟩,⟨some 182,.faddr 0 1 false (.tmp 20),some (181,false),[]⟩,⟨some 183,.load none (.tmp 182),some (181,false),[]⟩,⟨some 184,.faddr 1 1 false (.tmp 20),some (181,false),[]⟩,⟨some 185,.load none (.tmp 184),some (181,false),[]⟩,⟨some 186,.bin .gtr (.tmp 183) (.tmp 185),some (181,false),[]⟩,⟨some 187,.pick (.tmp 181) (.const (.bool true)) (.tmp 186),none,[]⟩]) (.cond (.tmp 187) (.seq (.ops false [⟨some 6,.mov (.const (.bool false)),none,[]⟩]) .ret) .skip)) (.seq (.ops false [⟨some 188,.faddr 0 1 false (.tmp 17),none,[]⟩,⟨some 189,.load none (.tmp 188),none,[]⟩,⟨some 190,.faddr 2 1 false (.tmp 11),none,[]⟩,⟨some 191,.load none (.tmp 190),none,[]⟩,⟨some 192,.bin .mul (.tmp 189) (.tmp 191),none,[]⟩,⟨some 193,.faddr 1 1 false (.tmp 17),none,[]⟩,⟨some 194,.load none (.tmp 193),none,[]⟩,⟨some 195,.faddr 1 1 false (.tmp 11),none,[]⟩,⟨some 196,.load none (.tmp 195),none,[]⟩,⟨some 197,.bin .mul (.tmp 194) (.tmp 196),none,[]⟩,⟨some 198,.bin .sub (.tmp 192) (.tmp 197),none,[]⟩,⟨some 24,.mov (.tmp 198),none,[]⟩]) (.seq (.ops false [⟨some 199,.faddr 0 1 false (.tmp 4),none,[]⟩,⟨some 200,.load none (.tmp 199),none,[]⟩,⟨some 201,.faddr 2 1 false (.tmp 11),none,[]⟩,⟨some 202,.load none (.tmp 201),none,[]⟩,⟨some 203,.bin .mul (.tmp 200) (.tmp 202),none,[]⟩,⟨some 204,.faddr 1 1 false (.tmp 4),none,[]⟩,⟨some 205,.load none (.tmp 204),none,[]⟩,⟨some 206,.faddr 1 1 false (.tmp 11),none,[]⟩,⟨some 207,.load none (.tmp 206),none,[]⟩,⟨some 208,.bin .mul (.tmp 205) (.tmp 207),none,[]⟩,⟨some 209,.bin .sub (.tmp 203) (.tmp 208),none,[]⟩,⟨some 25,.mov (.tmp 209),none,[]⟩]) (.seq (.ops false [⟨some 210,.mov (.tmp 24),none,[]⟩,⟨some 211,.mov (.tmp 24),none,[]⟩,⟨some 212,.un .neg (.tmp 211),none,[]⟩,⟨some 213,.minmax true (.tmp 210) [.tmp 212],none,[]⟩,⟨some 214,.mov (.tmp 24),none,[]⟩,⟨some 215,.mov (.tmp 24),none,[]⟩,⟨some 216,.un .neg (.tmp 215),none,[]⟩,⟨some 217,.minmax true (.tmp 214) [.tmp 216],none,[]⟩,⟨some 218,.bin .add (.tmp 213) (.tmp 217),none,[]⟩,⟨some 219,.mov (.tmp 25),none,[]⟩,⟨some 220,.mov (.tmp 25),none,[]⟩,⟨some 221,.un .neg (.tmp 220),none,[]⟩,⟨some 222,.minmax true (.tmp 219) [.tmp 221],none,[]⟩,⟨some 223,.bin .leq (.tmp 218) (.tmp 222),none,[]⟩,⟨some 26,.mov (.tmp 223),none,[]⟩]) (.seq (.ops false [⟨some 224,.mov (.tmp 18),none,[]⟩,⟨some 225,.mov (.tmp 26),none,[]⟩,⟨some 226,.eqB true (.tmp 224) (.tmp 225),none,[]⟩,⟨some 227,.mov (.tmp 226),none,[]⟩,⟨some 228,.mov (.tmp 22),some (227,false),[]⟩,⟨some 229,.mov (.tmp 24),some (227,false),[]⟩,⟨some 230,.bin .neq (.tmp 228) (.tmp 229),some (227,false),[]⟩,⟨some 231,.pick (.tmp 227) (.const (.bool true)) (.tmp 230),none,[]⟩,⟨some 232,.mov (.tmp 231),none,[]⟩,⟨some 233,.mov (.tmp 12),some (232,false),[]⟩,⟨some 234,.bin .eql (.tmp 233) (.const (.int .i64 (-1))),some (232,false),[]⟩,⟨some 235,.mov (.tmp 234),some (232,false),[]⟩,⟨some 236,.mov (.tmp 18),some (235,true),[]⟩,⟨some 237,.pick (.tmp 235) (.tmp 236) (.const (.bool false)),some (232,false),[]⟩,⟨some 238,.pick (.tmp 232) (.const (.bool true)) (.tmp 237),none,[]⟩,⟨some 239,.mov (.tmp 238),none,[]⟩,⟨some 240,.mov (.tmp 12),some (239,false),[]⟩,⟨some 241,.bin .neq (.tmp 240) (.const (.int .i64 (-1))),some (239,false),[]⟩,⟨some 242,.mov (.tmp 241),some (239,false),[]⟩,⟨some 243,.mov (.tmp 18),some (242,true),[]⟩,⟨some 244,.pick (.tmp 242) (.tmp 243) (.const (.bool false)),some (239,false),[]⟩,⟨some 245,.mov (.tmp 244),some (239,false),[]⟩,⟨some 246,.mov (.tmp 22),some (245,true),[]⟩,⟨some 247,.mov (.tmp 13),some (245,true),[]⟩,⟨some 248,.bin .gtr (.tmp 246) (.tmp 247),some (245,true),[]⟩,⟨some 249,.mov (.tmp 248),some (245,true),[]⟩,⟨some 250,.mov (.tmp 22),some (249,false),[]⟩,⟨some 251,.mov (.tmp 13),some (249,false),[]⟩,⟨some 252,.bin .eql (.tmp 250) (.tmp 251),some (249,false),[]⟩,⟨some 253,.mov (.tmp 252),some (249,false),[]⟩,⟨some 254,.mov (.tmp 16),some (253,true),[]⟩,⟨some 255,.mov (.tmp 12),some (253,true),[]⟩,⟨some 256,.bin .lss (.tmp 254) (.tmp 255),some (253,true),[]⟩,⟨some 257,.pick (.tmp 253) (.tmp 256) (.const (.bool false)),some (249,false),[]⟩,⟨some 258,.pick (.tmp 249) (.const (.bool true)) (.tmp 257),some (245,true),[]⟩,⟨some 259,.pick (.tmp 245) (.tmp 258) (.const (.bool false)),some (239,false),[]⟩,⟨some 260,.pick (.tmp 239) (.const (.bool true)) (.tmp 259),none,[]⟩,⟨some 261,.mov (.tmp 260),none,[]⟩,⟨some 262,.mov (.tmp 16),some (261,false),[]⟩,⟨some 263,.mov (.tmp 12),some (261,false),[]⟩,⟨some 264,.bin .eql (.tmp 262) (.tmp 263),some (261,false),[]⟩,⟨some 265,.mov (.tmp 264),some (261,false),[]⟩,⟨some 266,.mov (.tmp 18),some (265,true),[]⟩,⟨some 267,.un .not (.tmp 266),some (265,true),[]⟩,⟨some 268,.pick (.tmp 265) (.tmp 267) (.const (.bool false)),some (261,false),[]⟩,⟨some 269,.pick (.tmp 261) (.const (.bool true)) (.tmp 268),none,[]⟩]) (.cond (.tmp 269) (.seq (.ops false [⟨some 6,.mov (.const (.bool false)),none,[]⟩]) .ret) .skip))))))))))) (.ops false [⟨some 270,.bin .add (.tmp 134) (.const (.int .i64 1)),none,[]⟩,⟨some 134,.mov (.tmp 270),none,[]⟩]))))
def dk11_0 : Keep := ⟨[],[0,4,7,9,11,12,13,81,82,83,132,133,134],[4,9,11]⟩
def db11_1 : DC := (.seq (.ops false [⟨some 84,.bin .lss (.tmp 83) (.tmp 82),none,[]⟩]) (.seq (.cond (.tmp 84) .skip (.exit 0)) (.seq (.block 1 (some ⟨[],[0,4,7,9,81,82,83],[4,9]⟩) (.seq (.ops false [⟨some 85,.mov (.tmp 83),none,[]⟩,⟨some 86,.iaddr 3 (.tmp 81) (.tmp 83),none,[]⟩,⟨some 87,.load (some 3) (.tmp 86),none,[]⟩,⟨some 11,.alloc (.agg [.int .i64 0,.int .i64 0,.int .i64 0]) 3,none,[]⟩,⟨some 10,.mov (.tmp 85),none,[]⟩,⟨none,.store 3 (.tmp 11) (.tmp 87),none,[]⟩]) (.seq (.ops false [⟨some 88,.mov (.tmp 7),none,[]⟩,⟨some 89,.mov (.tmp 10),none,[]⟩,⟨some 90,.iaddr 1 (.tmp 88) (.tmp 89),none,[]⟩,⟨some 91,.load none (.tmp 90),none,[]⟩,⟨some 12,.mov (.tmp 91),none,[]⟩]) (.seq (.seq (.ops false [⟨some 92,.faddr 2 1 false (.tmp 11),none,[]⟩,⟨some 93,.load none (.tmp 92),none,[]⟩,⟨some 94,.bin .leq (.tmp 93) (.const (.int .i64 0)),none,[]⟩]) (.cond (.tmp 94) (.seq (.seq (.ops false [⟨some 95,.mov (.tmp 12),none,[]⟩,⟨some 96,.bin .neq (.tmp 95) (.const (.int .i64 (-1))),none,[]⟩]) (.cond (.tmp 96) (.seq (.ops false [⟨some 6,.mov (.const (.bool false)),none,[]⟩]) .ret) .skip)) (.exit 1)) .skip)) (.seq (.seq (.ops false [⟨some 97,.mov (.tmp 12),none,[]⟩,⟨some 98,.bin .neq (.tmp 97) (.const (.int .i64 (-1))),none,[]⟩,⟨some 99,.mov (.tmp 98),none,[]⟩,⟨some 100,.mov (.tmp 12),some (99,true),[]⟩,⟨some 101,.bin .lss (.tmp 100) (.const (.int .i64 0)),some (99,true),[]⟩,⟨some 102,.mov (.tmp 101),some (99,true),[]⟩,⟨some 103,.mov (.tmp 12),some (102,false),[]⟩,⟨some 104,.mov (.tmp 0),some (102,false),[]⟩,⟨some 105,.len (.tmp 104),some (102,false),[]⟩,⟨some 106,.bin .geq (.tmp 103) (.tmp 105),some (102,false),[]⟩,⟨some 107,.pick (.tmp 102) (.const (.bool true)) (.tmp 106),some (99,true),[]⟩,⟨some 108,.pick (.tmp 99) (.tmp 107) (.const (.bool false)),none,[]⟩]) (.cond (.tmp 108) (.seq (.ops false [⟨some 6,.mov (.const (.bool false)),none,[]⟩]) .ret) .skip)) (.seq (.ops false [⟨some 13,.mov (.const (.int .i64 0)),none,[]⟩]) (.seq (.seq (.ops false [⟨some 109,.mov (.tmp 12),none,[]⟩,⟨some 110,.bin .neq (.tmp 109) (.const (.int .i64 (-1))),none,[]⟩]) (.cond (.tmp 110) (.seq (.ops true [⟨some 112,.mov (.tmp 0),none,[]⟩,⟨some 113,.mov (.tmp 12),none,[]⟩,⟨some 114,.iaddr 2 (.tmp 112) (.tmp 113),none,[0,1]⟩,⟨some 115,.load (some 2) (.tmp 114),none,[2,0,1]⟩,⟨some 116,.load (some 3) (.tmp 11),none,[]⟩,⟨some 117,.call (.func 55) [.tmp 115,.tmp 116],none,[3,2,0,1,4]⟩,⟨some 111,.mov (.tmp 117),none,[5,3,2,0,1,4]⟩,⟨some 118,.extract (.tmp 111) 0,none,[6,5,3,2,0,1,4]⟩,⟨some 119,.extract (.tmp 111) 1,none,[6,5,3,2,0,1,4]⟩,⟨some 14,.mov (.tmp 118),none,[7,6,5,3,2,0,1,4]⟩,⟨some 15,.mov (.tmp 119),none,[8,6,5,3,2,0,1,4,9,7]⟩]) (.seq (.seq (.ops true [⟨some 120,.mov (.tmp 15),none,[]⟩,⟨some 121,.bin .neq (.tmp 120) (.const (.int .i64 0)),none,[0]⟩,⟨some 122,.mov (.tmp 121),none,[1,0]⟩,⟨some 123,.mov (.tmp 0),some (122,false),[2,1,0]⟩,⟨some 124,.call (.func 66) [.tmp 123],some (122,false),[3,2,1,0]⟩,⟨some 125,.load (some 2) (.tmp 4),some (122,false),[2,1,0]⟩,⟨some 126,.load (some 3) (.tmp 11),some (122,false),[2,1,0]⟩,⟨some 127,.mov (.tmp 12),some (122,false),[2,1,0]⟩,⟨some 128,.call (.func 67) [.tmp 124,.tmp 125,.tmp 126,.tmp 127],some (122,false),[4,3,2,1,0,5,6,7]⟩,⟨some 129,.bin .neq (.tmp 128) (.const (.int .i64 0)),some (122,false),[8,4,3,2,1,0,5,6,7]⟩,⟨some 130,.pick (.tmp 122) (.const (.bool true)) (.tmp 129),none,[2,1,0,9,8,4,3,5,6,7]⟩]) (.cond (.tmp 130) (.seq (.ops false [⟨some 6,.mov (.const (.bool false)),none,[]⟩]) .ret) .skip)) (.ops false [⟨some 131,.mov (.tmp 14),none,[]⟩,⟨some 13,.mov (.tmp 131),none,[]⟩]))) .skip)) (.seq (.seq (.ops false [⟨some 132,.mov (.tmp 0),none,[]⟩,⟨some 133,.len (.tmp 132),none,[]⟩,⟨some 134,.mov (.const (.int .i64 0)),none,[]⟩]) (.block 2 (some ⟨[],[0,4,7,9,11,12,13,81,82,83],[4,9,11]⟩) (.loop dk11_0 db11_0))) (.seq (.seq (.ops false [⟨some 271,.faddr 0 1 false (.tmp 4),none,[]⟩,⟨some 272,.load none (.tmp 271),none,[]⟩,⟨some 273,.bin .mul (.const (.int .i64 2)) (.tmp 272),none,[]⟩,⟨some 274,.bin .gtr (.tmp 273) (.const (.int .i64 1000)),none,[]⟩,⟨some 275,.mov (.tmp 274),none,[]⟩,⟨some 276,.faddr 1 1 false (.tmp 9),some (275,false),[]⟩,⟨some 277,.load none (.tmp 276),some (275,false),[]⟩,⟨some 278,.faddr 1 1 false (.tmp 9),some (275,false),[]⟩,⟨some 279,.load none (.tmp 278),some (275,false),[]⟩,⟨some 280,.un .neg (.tmp 279),some (275,false),[]⟩,⟨some 281,.minmax true (.tmp 277) [.tmp 280],some (275,false),[]⟩,⟨some 282,.bin .gtr (.tmp 281) (.const (.int .i64 1000)),some (275,false),[]⟩,⟨some 283,.pick (.tmp 275) (.const (.bool true)) (.tmp 282),none,[]⟩,⟨some 284,.mov (.tmp 283),none,[]⟩,⟨some 285,.mov (.tmp 12),some (284,false),[]⟩,⟨some 286,.bin .eql (.tmp 285) (.const (.int .i64 (-1))),some (284,false),[]⟩,⟨some 287,.pick (.tmp 284) (.const (.bool true)) (.tmp 286),none,[]⟩]) (.cond (.tmp 287) (.exit 1) .skip)) (.seq (.ops true [⟨some 289,.mov (.tmp 0),none,[]⟩,⟨some 290,.call (.func 66) [.tmp 289],none,[0]⟩,⟨some 291,.load (some 2) (.tmp 9),none,[]⟩,⟨some 292,.load (some 3) (.tmp 11),none,[]⟩,⟨some 293,.call (.func 65) [.tmp 290,.tmp 291,.tmp 292],none,[1,0,2,3]⟩,⟨some 288,.mov (.tmp 293),none,[4,1,0,2,3]⟩,⟨some 294,.extract (.tmp 288) 0,none,[5,4,1,0,2,3]⟩,⟨some 295,.extract (.tmp 288) 1,none,[5,4,1,0,2,3]⟩,⟨some 27,.mov (.tmp 294),none,[6,5,4,1,0,2,3]⟩,⟨some 28,.mov (.tmp 295),none,[7,5,4,1,0,2,3,8,6]⟩]) (.seq (.seq (.ops false [⟨some 296,.mov (.tmp 28),none,[]⟩,⟨some 297,.bin .neq (.tmp 296) (.const (.int .i64 0)),none,[]⟩,⟨some 298,.mov (.tmp 297),none,[]⟩,⟨some 299,.mov (.tmp 27),some (298,false),[]⟩,⟨some 300,.bin .lss (.tmp 299) (.const (.int .i64 0)),some (298,false),[]⟩,⟨some 301,.pick (.tmp 298) (.const (.bool true)) (.tmp 300),none,[]⟩,⟨some 302,.mov (.tmp 301),none,[]⟩,⟨some 303,.mov (.tmp 27),some (302,false),[]⟩,⟨some 304,.mov (.tmp 0),some (302,false),[]⟩,⟨some 305,.len (.tmp 304),some (302,false),[]⟩,⟨some 306,.bin .geq (.tmp 303) (.tmp 305),some (302,false),[]⟩,⟨some 307,.pick (.tmp 302) (.const (.bool true)) (.tmp 306),none,[]⟩]) (.cond (.tmp 307) (.seq (.ops false [⟨some 6,.mov (.const (.bool false)),none,[]⟩]) .ret) .skip)) (.seq (.ops true [⟨some 309,.mov (.tmp 0),none,[]⟩,⟨some 310,.mov (.tmp 27),none,[]⟩,⟨some 311,.iaddr 2 (.tmp 309) (.tmp 310),none,[0,1]⟩,⟨some 312,.load (some 2) (.tmp 311),none,[2,0,1]⟩,⟨some 313,.load (some 3) (.tmp 11),none,[]⟩,⟨some 314,.call (.func 55) [.tmp 312,.tmp 313],none,[3,2,0,1,4]⟩,⟨some 308,.mov (.tmp 314),none,[5,3,2,0,1,4]⟩,⟨some 315,.extract (.tmp 308) 0,none,[6,5,3,2,0,1,4]⟩,⟨some 316,.extract (.tmp 308) 1,none,[6,5,3,2,0,1,4]⟩,⟨some 29,.mov (.tmp 315),none,[7,6,5,3,2,0,1,4]⟩,⟨some 30,.mov (.tmp 316),none,[8,6,5,3,2,0,1,4,9,7]⟩]) (.seq (.ops false [⟨some 317,.mov (.tmp 30),none,[]⟩,⟨some 318,.bin .neq (.tmp 317) (.const (.int .i64 0)),none,[]⟩,⟨some 319,.mov (.tmp 318),none,[]⟩,⟨some 320,.mov (.tmp 29),some (319,false),[]⟩,⟨some 321,.mov (.tmp 13),some (319,false),[]⟩,⟨some 322,.bin .lss (.tmp 320) (.tmp 321),some (319,false),[]⟩,⟨some 323,.pick (.tmp 319) (.const (.bool true)) (.tmp 322),none,[]⟩]) (.cond (.tmp 323) (.seq (.ops false [⟨some 6,.mov (.const (.bool false)),none,[]⟩]) .ret) .skip)))))))))))))) (.ops false [⟨some 324,.bin .add (.tmp 83) (.const (.int .i64 1)),none,[]⟩,⟨some 83,.mov (.tmp 324),none,[]⟩]))))
def dk11_1 : Keep := ⟨[],[0,4,7,9,81,82,83],[4,9]⟩
def dc11 : DFunc := ⟨326,3,[.tmp 6],.seq (.ops false [⟨some 4,.box 2 (.tmp 1),none,[]⟩,⟨some 6,.mov (.const (.bool false)),none,[]⟩]) (.seq (.seq (.ops false [⟨some 31,.mov (.tmp 0),none,[]⟩,⟨some 32,.len (.tmp 31),none,[]⟩,⟨some 33,.bin .gtr (.tmp 32) (.const (.int .i64 6)),none,[]⟩,⟨some 34,.mov (.tmp 33),none,[]⟩,⟨some 35,.mov (.tmp 0),some (34,false),[]⟩,⟨some 36,.call (.func 69) [.tmp 35],some (34,false),[]⟩,⟨some 37,.bin .neq (.tmp 36) (.const (.int .i64 0)),some (34,false),[]⟩,⟨some 38,.pick (.tmp 34) (.const (.bool true)) (.tmp 37),none,[]⟩,⟨some 39,.mov (.tmp 38),none,[]⟩,⟨some 40,.load (some 2) (.tmp 4),some (39,false),[]⟩,⟨some 41,.call (.func 60) [.tmp 40],some (39,false),[]⟩,⟨some 42,.bin .neq (.tmp 41) (.const (.int .i64 0)),some (39,false),[]⟩,⟨some 43,.pick (.tmp 39) (.const (.bool true)) (.tmp 42),none,[]⟩,⟨some 44,.mov (.tmp 43),none,[]⟩,⟨some 45,.mov (.tmp 2),some (44,false),[]⟩,⟨some 46,.len (.tmp 45),some (44,false),[]⟩,⟨some 47,.bin .gtr (.tmp 46) (.const (.int .i64 8)),some (44,false),[]⟩,⟨some 48,.pick (.tmp 44) (.const (.bool true)) (.tmp 47),none,[]⟩,⟨some 49,.mov (.tmp 48),none,[]⟩,⟨some 50,.mov (.tmp 2),some (49,false),[]⟩,⟨some 51,.call (.func 70) [.tmp 50],some (49,false),[]⟩,⟨some 52,.bin .neq (.tmp 51) (.const (.int .i64 0)),some (49,false),[]⟩,⟨some 53,.pick (.tmp 49) (.const (.bool true)) (.tmp 52),none,[]⟩]) (.cond (.tmp 53) (.seq (.ops false [⟨some 54,.call (.func 14) [],none,[]⟩,⟨some 6,.mov (.tmp 54),none,[]⟩]) .ret) .skip)) (.seq (.ops true [⟨some 56,.mov (.tmp 0),none,[]⟩,⟨some 57,.call (.func 66) [.tmp 56],none,[0]⟩,⟨some 58,.load (some 2) (.tmp 4),none,[]⟩,⟨some 59,.mov (.tmp 2),none,[]⟩,⟨some 60,.call (.func 16) [.tmp 59],none,[3,1,0]⟩,⟨some 61,.call (.func 68) [.tmp 57,.tmp 58,.tmp 60],none,[1,0,2,4,3]⟩,⟨some 55,.mov (.tmp 61),none,[5,1,0,2,4,3]⟩,⟨some 62,.extract (.tmp 55) 0,none,[6,5,1,0,2,4,3]⟩,⟨some 63,.extract (.tmp 55) 1,none,[6,5,1,0,2,4,3]⟩,⟨some 7,.mov (.tmp 62),none,[7,6,5,1,0,2,4,3]⟩,⟨some 8,.mov (.tmp 63),none,[8,6,5,1,0,2,4,3,9,7]⟩]) (.seq (.seq (.ops false [⟨some 64,.mov (.tmp 8),none,[]⟩,⟨some 65,.bin .neq (.tmp 64) (.const (.int .i64 0)),none,[]⟩,⟨some 66,.mov (.tmp 65),none,[]⟩,⟨some 67,.mov (.tmp 7),some (66,false),[]⟩,⟨some 68,.len (.tmp 67),some (66,false),[]⟩,⟨some 69,.mov (.tmp 2),some (66,false),[]⟩,⟨some 70,.len (.tmp 69),some (66,false),[]⟩,⟨some 71,.bin .neq (.tmp 68) (.tmp 70),some (66,false),[]⟩,⟨some 72,.pick (.tmp 66) (.const (.bool true)) (.tmp 71),none,[]⟩]) (.cond (.tmp 72) (.seq (.ops false [⟨some 6,.mov (.const (.bool false)),none,[]⟩]) .ret) .skip)) (.seq (.ops false [⟨some 73,.faddr 0 1 false (.tmp 4),none,[]⟩,⟨some 74,.load none (.tmp 73),none,[]⟩,⟨some 75,.bin .mul (.const (.int .i64 2)) (.tmp 74),none,[]⟩,⟨some 76,.minmax false (.const (.int .i64 1000)) [.tmp 75],none,[]⟩,⟨some 77,.faddr 1 1 false (.tmp 4),none,[]⟩,⟨some 78,.load none (.tmp 77),none,[]⟩,⟨some 79,.bin .mul (.const (.int .i64 2)) (.tmp 78),none,[]⟩,⟨some 80,.call (.func 81) [.tmp 76,.tmp 79],none,[]⟩,⟨some 9,.alloc (.agg [.int .i64 0,.int .i64 0]) 2,none,[]⟩,⟨none,.store 2 (.tmp 9) (.tmp 80),none,[]⟩]) (.seq (.seq (.ops false [⟨some 81,.mov (.tmp 2),none,[]⟩,⟨some 82,.len (.tmp 81),none,[]⟩,⟨some 83,.mov (.const (.int .i64 0)),none,[]⟩]) (.block 0 (some ⟨[],[],[4,9]⟩) (.loop dk11_1 db11_1))) (.seq (.ops false [⟨some 325,.call (.func 14) [],none,[]⟩,⟨some 6,.mov (.tmp 325),none,[]⟩]) .ret))))))⟩
theorem dh11 : cProg Go.Proofs.Tryz.prog ⟨[(0, ⟨[], [0, 4, 7, 9, 81, 82, 83], [4, 9]⟩), (2, ⟨[], [0, 4, 7, 9, 11, 12, 13, 81, 82, 83, 132, 133, 134], [4, 9, 11]⟩)], [(2, ⟨[], [0, 4, 7, 9, 11, 12, 13, 81, 82, 83], [4, 9, 11]⟩), (1, ⟨[], [0, 4, 7, 9, 81, 82, 83], [4, 9]⟩), (0, ⟨[], [], [4, 9]⟩)], []⟩ 11 = some dc11 := by kernel_rfl
end Sh

set_option maxRecDepth 100000
set_option maxHeartbeats 4000000
set_option linter.unusedSimpArgs false
set_option linter.unusedVariables false
namespace Sh
open Go Go.Proofs
theorem trI_get (l : List Pt) (p : Pt) (vs : List V3) (i : Nat) (h : i < vs.length) : ((vs.map (trI l p)).map (DV.int .i64)).getD (Int.toNat (i : Int)) .undef = DV.int .i64 (trI l p (vs.getD i V0)) := by
 rw [List.map_map]; exact getD_enc _ vs i V0 h
theorem withE_in {n l h : Int} (h1 : l ≤ n) (h2 : n ≤ h) : withE n l h = 0 := if_neg (by omega)
theorem chkSun_in {v : V3} (h : bdV 1000 v) (hz : 1 ≤ v.z) : chkSun v = 0 := by
 unfold chkSun
 rw [withE_in h.1.1 h.1.2, withE_in h.2.1.1 h.2.1.2, withE_in hz h.2.2.2]; rfl
theorem gn_ok {t : Pt} {v : V3} (h1 : chkTilt t = 0) (h2 : chkSun v = 0) : gnS t v = (acr t v, 0) := if_neg (fun h => h (by rw [h1, h2]; rfl))
theorem fr_zero {t p : Pt} {v : V3} (h1 : chkTilt t = 0) (h2 : chkPitch p = 0) (h3 : chkSun v = 0) : frE t p v = 0 := by unfold frE; rw [h1, h2, h3]; rfl
theorem fr_ok {t p : Pt} {v : V3} (h : frE t p v = 0) : frS t p v = (freeB t p v, 0) := if_neg (fun h2 => h2 h)
theorem sd_ok {t p : Pt} {v : V3} (h : frE t p v = 0) : sdS t p v = (shdR t p v, 0) := if_neg (fun h2 => h2 h)
theorem mm_abs {n : Int} (h : -2000000 ≤ n ∧ n ≤ 2000000) : minmaxI true n (IntKind.i64.wrap (-n)) = absI n := abs_w h
theorem wid_add (t : Pt) {v : V3} (h : -2000000 ≤ acr t v ∧ acr t v ≤ 2000000) : IntKind.i64.wrap (absI (acr t v) + absI (acr t v)) = widI t v := by
 have := absI_eq (acr t v)
 unfold widI
 rw [wrap_in (by omega) (by omega)]; omega
theorem l_ShadeTracked (aw : PC 14 [] (.bool true)) (l : List Pt) (p : Pt) (vs : List V3) : PC 11 [pts l, encPt p, .list (vs.map encV)] (.bool true) := by
 have e0 : ((l.map encPt).length : Int) = l.length := by simp
 have e1 : ((vs.map encV).length : Int) = vs.length := by simp
 by_cases n1 : (6 : Int) < ((l.map encPt).length : Int)
 ·refine pureCall_ofR dh11 rfl ?_
  conv => whnf
  conv => whnf
  repeat' (first
   |(refine ⟨fun hg => ?_, fun hg => ?_⟩ <;> first | contradiction | (exfalso; revert hg; simp; done) | (exfalso; exact absurd (of_decide_eq_true hg) (by assumption)) | (exfalso; exact absurd (by assumption) (of_decide_eq_false hg)) | (conv => whnf))
   |(refine Or.inl ?_; conv => whnf)
   |(refine ⟨_, aw, ?_⟩; conv => whnf)
   |(refine And.intro ?_ ?_; kernel_rfl; conv => whnf))
  all_goals rfl
 have hl : l.length < 1073741824 := by omega
 have kT := r_CheckTilts l hl
 have kP := r_CheckPitch p
 have kD := r_CheckDay vs
 by_cases z1 : chkTilts l = 0
 case neg =>
  generalize chkTilts l = E1 at *
  refine pureCall_ofR dh11 rfl ?_
  conv => whnf
  conv => whnf
  repeat' (first
   |(refine ⟨fun hg => ?_, fun hg => ?_⟩ <;> first | contradiction | (exfalso; revert hg; simp; done) | (exfalso; exact absurd (of_decide_eq_true hg) (by assumption)) | (exfalso; exact absurd (by assumption) (of_decide_eq_false hg)) | (conv => whnf))
   |(refine Or.inl ?_; conv => whnf)
   |(refine ⟨_, kT, ?_⟩; conv => whnf)
   |(refine ⟨_, aw, ?_⟩; conv => whnf)
   |(refine And.intro ?_ ?_; kernel_rfl; conv => whnf))
  all_goals rfl
 rw [z1] at kT
 by_cases z2 : chkPitch p = 0
 case neg =>
  generalize chkPitch p = E1 at *
  refine pureCall_ofR dh11 rfl ?_
  conv => whnf
  conv => whnf
  repeat' (first
   |(refine ⟨fun hg => ?_, fun hg => ?_⟩ <;> first | contradiction | (exfalso; revert hg; simp; done) | (exfalso; exact absurd (of_decide_eq_true hg) (by assumption)) | (exfalso; exact absurd (by assumption) (of_decide_eq_false hg)) | (conv => whnf))
   |(refine Or.inl ?_; conv => whnf)
   |(refine ⟨_, kT, ?_⟩; conv => whnf)
   |(refine ⟨_, kP, ?_⟩; conv => whnf)
   |(refine ⟨_, aw, ?_⟩; conv => whnf)
   |(refine And.intro ?_ ?_; kernel_rfl; conv => whnf))
  all_goals rfl
 rw [z2] at kP
 by_cases n2 : (8 : Int) < ((vs.map encV).length : Int)
 ·refine pureCall_ofR dh11 rfl ?_
  conv => whnf
  conv => whnf
  repeat' (first
   |(refine ⟨fun hg => ?_, fun hg => ?_⟩ <;> first | contradiction | (exfalso; revert hg; simp; done) | (exfalso; exact absurd (of_decide_eq_true hg) (by assumption)) | (exfalso; exact absurd (by assumption) (of_decide_eq_false hg)) | (conv => whnf))
   |(refine Or.inl ?_; conv => whnf)
   |(refine ⟨_, kT, ?_⟩; conv => whnf)
   |(refine ⟨_, kP, ?_⟩; conv => whnf)
   |(refine ⟨_, aw, ?_⟩; conv => whnf)
   |(refine And.intro ?_ ?_; kernel_rfl; conv => whnf))
  all_goals rfl
 by_cases z3 : chkDay vs = 0
 case neg =>
  generalize chkDay vs = E1 at *
  refine pureCall_ofR dh11 rfl ?_
  conv => whnf
  conv => whnf
  repeat' (first
   |(refine ⟨fun hg => ?_, fun hg => ?_⟩ <;> first | contradiction | (exfalso; revert hg; simp; done) | (exfalso; exact absurd (of_decide_eq_true hg) (by assumption)) | (exfalso; exact absurd (by assumption) (of_decide_eq_false hg)) | (conv => whnf))
   |(refine Or.inl ?_; conv => whnf)
   |(refine ⟨_, kT, ?_⟩; conv => whnf)
   |(refine ⟨_, kP, ?_⟩; conv => whnf)
   |(refine ⟨_, kD, ?_⟩; conv => whnf)
   |(refine ⟨_, aw, ?_⟩; conv => whnf)
   |(refine And.intro ?_ ?_; kernel_rfl; conv => whnf))
  all_goals rfl
 rw [z3] at kD
 have hv : vs.length < 1073741824 := by omega
 have hz : tdE l p vs = 0 := by unfold tdE; rw [z1, z2, z3]; rfl
 have hbd := (tdE_zero hz).2.2
 have hp := chkPitch_ok z2
 have hT : ∀ q ∈ l, OkP q := fun q hq => chkTilt_ok ((chkTilts_zero z1).2.2 q hq)
 have a1 := l_points l hl
 have a2 : PC 16 [.list (vs.map encV)] (.list (vs.map encV)) := l_own vs hv
 have b1 := c_Tracked l p vs hl hv
 rw [tkS_eq, if_neg (show ¬ tdE l p vs ≠ 0 from fun h => h hz)] at b1
 have n3 : ¬ (((vs.map (trI l p)).map (DV.int .i64)).length : Int) ≠ ((vs.map encV).length : Int) := by simp
 have e3 : (((vs.map (trI l p)).map (DV.int .i64)).length : Int) = vs.length := by simp
 have w1 : IntKind.i64.wrap (2 * p.x) = 2 * p.x := by have := hp.1; exact wrap_in (by omega) (by omega)
 have w2 : IntKind.i64.wrap (2 * p.y) = 2 * p.y := by have := hp.2; exact wrap_in (by omega) (by omega)
 refine pureCall_ofR dh11 rfl ?_
 conv => whnf
 conv => whnf
 repeat' (first
  |(refine ⟨fun hg => ?_, fun hg => ?_⟩ <;> first | contradiction | (exfalso; revert hg; simp; done) | (exfalso; exact absurd (of_decide_eq_true hg) (by assumption)) | (exfalso; exact absurd (by assumption) (of_decide_eq_false hg)) | (conv => whnf))
  |(refine Or.inl ?_; conv => whnf)
  |(refine ⟨_, kT, ?_⟩; conv => whnf)
  |(refine ⟨_, kP, ?_⟩; conv => whnf)
  |(refine ⟨_, kD, ?_⟩; conv => whnf)
  |(refine ⟨_, a1, ?_⟩; conv => whnf)
  |(refine ⟨_, a2, ?_⟩; conv => whnf)
  |(refine ⟨_, b1, ?_⟩; conv => whnf)
  |(refine ⟨_, l_spot .., ?_⟩; conv => whnf)
  |(refine And.intro ?_ ?_; kernel_rfl; conv => whnf))
 rw [w1, w2]
 generalize hmx : minmaxI false 1000 (2 * p.x) = mx
 refine dwp_loopU (P := Tryz.prog) (G := GC) (k := dk11_1) (b := db11_1) (α := Nat) (fun i => [(83, DV.int .i64 (i))]) (fun _ => [(4, .box 2 (encPt p)), (9, .box 2 (encPt ⟨mx, 2 * p.y⟩))]) (fun i => i ≤ vs.length) (fun i => vs.length - i) 0 (Nat.zero_le _) ?_
 conv => whnf
 refine ⟨rfl, rfl, ?_⟩
 conv => whnf
 refine ⟨rfl, ?_⟩
 intro i h1
 conv => whnf
 refine ⟨fun hb => ?_, fun hb => ?_⟩
 case refine_2 =>
  conv => whnf
  repeat' (first
   |(refine ⟨fun hg => ?_, fun hg => ?_⟩ <;> first | contradiction | (exfalso; revert hg; simp; done) | (exfalso; exact absurd (of_decide_eq_true hg) (by assumption)) | (exfalso; exact absurd (by assumption) (of_decide_eq_false hg)) | (conv => whnf))
   |(refine Or.inl ?_; conv => whnf)
   |(refine ⟨_, aw, ?_⟩; conv => whnf)
   |(refine And.intro ?_ ?_; kernel_rfl; conv => whnf))
  all_goals rfl
 have hi : i < vs.length := by simpa using hb
 have hvb := hbd _ (getD_in V0 hi)
 have hge := trI_get l p vs i hi
 have htr : trI l p (vs.getD i V0) = if 0 < (vs.getD i V0).z then ruleS l p (vs.getD i V0) else -1 := rfl
 clear hb
 conv => whnf
 rw [getD_enc _ _ (i) V0 hi]
 refine ⟨idxA hi rfl, ?_⟩
 conv => whnf
 conv => whnf
 generalize vs.getD i V0 = v at *
 rw [hge]
 refine ⟨⟨by omega, by rw [e3]; omega, rfl⟩, ?_⟩
 conv => whnf
 refine ⟨fun hg => ?_, fun hg => ?_⟩
 ·have hz0 : v.z ≤ 0 := of_decide_eq_true hg
  rw [if_neg (by omega)] at htr
  rw [htr]
  conv => whnf
  repeat' (first
   |(refine ⟨fun hg => ?_, fun hg => ?_⟩ <;> first | contradiction | (exfalso; revert hg; simp; done) | (exfalso; exact absurd (of_decide_eq_true hg) (by assumption)) | (exfalso; exact absurd (by assumption) (of_decide_eq_false hg)) | (conv => whnf))
   |(refine Or.inl ?_; conv => whnf)
   |(refine ⟨_, aw, ?_⟩; conv => whnf)
   |(refine And.intro ?_ ?_; kernel_rfl; conv => whnf))
  rw [wrap_succ i (by omega)]
  refine ⟨i + 1, rfl, ?_, ?_, hi, by omega⟩
  ·rfl
  ·rfl
 ·have hz0 : ¬ v.z ≤ 0 := of_decide_eq_false hg
  rw [if_pos (by omega)] at htr
  rw [htr]
  clear hg
  have hsp := rulB_spec l p v l.length
  have hru : ruleS l p v = rulB l p v l.length := rfl
  have hsu := chkSun_in hvb (by omega)
  have hTc := (chkTilts_zero z1).2.2
  have w4 := acr_w hp hvb
  have m4 := mm_abs (acr_bd hp.1 hp.2 hvb)
  rcases hsp with ⟨hn, hall⟩ | ⟨m, hn, hm, hfm, hmax⟩
  ·rw [hru, hn]
   conv => whnf
   repeat' (first
    |(refine ⟨fun hg => ?_, fun hg => ?_⟩ <;> first | contradiction | (exfalso; revert hg; simp; done) | (exfalso; exact absurd (of_decide_eq_true hg) (by assumption)) | (exfalso; exact absurd (by assumption) (of_decide_eq_false hg)) | (conv => whnf))
    |(refine Or.inl ?_; conv => whnf)
    |(refine And.intro ?_ ?_; kernel_rfl; conv => whnf))
   refine dwp_loopU (P := Tryz.prog) (G := GC) (k := dk11_0) (b := db11_0) (α := Nat) (fun k => [(134, DV.int .i64 (k))]) (fun _ => [(4, .box 2 (encPt p)), (9, .box 2 (encPt ⟨mx, 2 * p.y⟩)), (11, .box 3 (encV v))]) (fun k => k ≤ l.length) (fun k => l.length - k) 0 (Nat.zero_le _) ?_
   conv => whnf
   refine ⟨rfl, rfl, ?_⟩
   conv => whnf
   refine ⟨rfl, ?_⟩
   intro k j1
   conv => whnf
   refine ⟨fun hb => ?_, fun hb => ?_⟩
   ·have hk : k < l.length := by simpa using hb
    have kF := c_Free (l.getD k P0) p v
    have kS := c_Shaded (l.getD k P0) p v
    have kG := c_Gain (l.getD k P0) v
    have hf := fr_zero (hTc _ (getD_in P0 hk)) z2 hsu
    rw [fr_ok hf] at kF
    rw [sd_ok hf] at kS
    rw [gn_ok (hTc _ (getD_in P0 hk)) hsu] at kG
    have hsd := shdR_spec (l.getD k P0) p v
    have hpt := hT _ (getD_in P0 hk)
    have w3 := acr_w hpt hvb
    have m3 := mm_abs (acr_bd hpt.1 hpt.2 hvb)
    have wd := wid_add _ (acr_bd hpt.1 hpt.2 hvb)
    have hap : decide (widI (l.getD k P0) v ≤ absI (acr p v)) = freeB (l.getD k P0) p v := rfl
    clear hb
    have hF := hall k hk
    rw [hF] at kF hap hsd
    have s0 : (shdR (l.getD k P0) p v).1 ≠ 0 := of_decide_eq_false hsd.1
    have hs1 : decide (((shdR (l.getD k P0) p v, (0 : Int)).fst).fst = 0) = false := hsd.1
    have s1 : ¬ (shdR (l.getD k P0) p v).1 < 0 := by omega
    have s2 : ¬ (shdR (l.getD k P0) p v).2 < (shdR (l.getD k P0) p v).1 := by omega
    have k0 : ¬ (k : Int) = -1 := by omega
    generalize shdR (l.getD k P0) p v = S at *
    conv => whnf
    rw [getD_enc _ _ (k) P0 hk]
    refine ⟨idxA hk rfl, ?_⟩
    conv => whnf
    conv => whnf
    repeat' (first
     |(rw [w3]; conv => whnf)
     |(rw [w4]; conv => whnf)
     |(rw [m3]; conv => whnf)
     |(rw [m4]; conv => whnf)
     |(rw [wd]; conv => whnf)
     |(rw [hap]; conv => whnf)
     |(rw [hs1]; conv => whnf)
     |(refine ⟨fun hg => ?_, fun hg => ?_⟩ <;> first | contradiction | (exfalso; revert hg; simp; done) | (exfalso; exact absurd (of_decide_eq_true hg) (by assumption)) | (exfalso; exact absurd (by assumption) (of_decide_eq_false hg)) | (conv => whnf))
     |(refine Or.inl ?_; conv => whnf)
     |(refine ⟨_, kF, ?_⟩; conv => whnf)
     |(refine ⟨_, kS, ?_⟩; conv => whnf)
     |(refine ⟨_, kG, ?_⟩; conv => whnf)
     |(refine And.intro ?_ ?_; kernel_rfl; conv => whnf))
    all_goals
     rw [wrap_succ k (by omega)]
     exact ⟨k + 1, rfl, rfl, rfl, hk, by omega⟩
   ·clear hb
    conv => whnf
    repeat' (first
     |(rw [w1]; conv => whnf)
     |(refine ⟨fun hg => ?_, fun hg => ?_⟩ <;> first | contradiction | (exfalso; revert hg; simp; done) | (exfalso; exact absurd (of_decide_eq_true hg) (by assumption)) | (exfalso; exact absurd (by assumption) (of_decide_eq_false hg)) | (conv => whnf))
     |(refine Or.inl ?_; conv => whnf)
     |(refine ⟨_, aw, ?_⟩; conv => whnf)
     |(refine And.intro ?_ ?_; kernel_rfl; conv => whnf))
    all_goals
     rw [wrap_succ i (by omega)]
     exact ⟨i + 1, rfl, rfl, rfl, hi, by omega⟩
  ·have hmT := getD_in P0 hm
   have kM := c_Gain (l.getD m P0) v
   rw [gn_ok (hTc _ hmT) hsu] at kM
   have kC := c_CheckRule l p v m hl
   have hrl : rlE l p v = 0 := by unfold rlE; rw [z1, z2, hsu]; rfl
   have hcr : crS l p v m = 0 := by
    rw [crS_ok hrl]
    unfold crI
    rw [if_neg (by omega), Int.toNat_natCast, hfm, if_neg (by decide), hru, hn]
    rw [show rul0 (m : Int) = m from if_neg (by omega)]
    simp [whenE]
   rw [hcr] at kC
   have m1 : (m : Int) ≠ -1 := by omega
   have m1' : ¬ (m : Int) = -1 := by omega
   have m2 : ¬ (m : Int) < 0 := by omega
   have m3' : ¬ (m : Int) ≥ ((l.map encPt).length : Int) := by omega
   have hwr : 2 * p.x ≤ 1000 ∧ absI (2 * p.y) ≤ 1000 → ∃ q : Nat, q < l.length ∧ PC 65 [pts l, encPt ⟨2 * p.x, 2 * p.y⟩, encV v] (.tuple [DV.int .i64 (q), DV.int .i64 (0)]) ∧ acr (l.getD m P0) v ≤ acr (l.getD q P0) v := by
    intro ⟨h1, h2⟩
    obtain ⟨q, hq1, hq2, hq3⟩ := rule_wide hm (hru.trans hn)
    have hpx := chkPitch_zero z2
    have hpw : chkPitch ⟨2 * p.x, 2 * p.y⟩ = 0 := by
     rw [absI_eq] at h2
     unfold chkPitch
     rw [withE_in (by show 1 ≤ 2 * p.x; omega) (by show 2 * p.x ≤ 1000; omega), withE_in (by show -1000 ≤ 2 * p.y; omega) (by show 2 * p.y ≤ 1000; omega)]; rfl
    have hr := c_Rule l ⟨2 * p.x, 2 * p.y⟩ v hl
    rw [show rlS l ⟨2 * p.x, 2 * p.y⟩ v = (rul0 (ruleS l ⟨2 * p.x, 2 * p.y⟩ v), if ruleS l ⟨2 * p.x, 2 * p.y⟩ v < 0 then 7 else 0) from if_neg (fun h => h (by unfold rlE; rw [z1, hpw, hsu]; rfl)), hq2] at hr
    unfold rul0 at hr
    rw [if_neg (by omega), if_neg (by omega)] at hr
    exact ⟨q, hq1, hr, hq3⟩
   have mw := mm_abs (n := 2 * p.y) (by have := hp.2; omega)
   rw [hru, hn]
   conv => whnf
   repeat' (first
    |(refine ⟨fun hg => ?_, fun hg => ?_⟩ <;> first | contradiction | (exfalso; revert hg; simp; done) | (exfalso; exact absurd (of_decide_eq_true hg) (by assumption)) | (exfalso; exact absurd (by assumption) (of_decide_eq_false hg)) | (conv => whnf))
    |(refine Or.inl ?_; conv => whnf)
    |(rw [getD_enc _ _ m P0 hm]; refine ⟨idxA hm rfl, ?_⟩; conv => whnf)
    |(refine ⟨_, a1, ?_⟩; conv => whnf)
    |(refine ⟨_, kM, ?_⟩; conv => whnf)
    |(refine ⟨_, kC, ?_⟩; conv => whnf)
    |(refine And.intro ?_ ?_; kernel_rfl; conv => whnf))
   refine dwp_loopU (P := Tryz.prog) (G := GC) (k := dk11_0) (b := db11_0) (α := Nat) (fun k => [(134, DV.int .i64 (k))]) (fun _ => [(4, .box 2 (encPt p)), (9, .box 2 (encPt ⟨mx, 2 * p.y⟩)), (11, .box 3 (encV v))]) (fun k => k ≤ l.length) (fun k => l.length - k) 0 (Nat.zero_le _) ?_
   conv => whnf
   refine ⟨rfl, rfl, ?_⟩
   conv => whnf
   refine ⟨rfl, ?_⟩
   intro k j1
   conv => whnf
   refine ⟨fun hb => ?_, fun hb => ?_⟩
   ·have hk : k < l.length := by simpa using hb
    have kF := c_Free (l.getD k P0) p v
    have kS := c_Shaded (l.getD k P0) p v
    have kG := c_Gain (l.getD k P0) v
    have hf := fr_zero (hTc _ (getD_in P0 hk)) z2 hsu
    rw [fr_ok hf] at kF
    rw [sd_ok hf] at kS
    rw [gn_ok (hTc _ (getD_in P0 hk)) hsu] at kG
    have hsd := shdR_spec (l.getD k P0) p v
    have hpt := hT _ (getD_in P0 hk)
    have w3 := acr_w hpt hvb
    have m3 := mm_abs (acr_bd hpt.1 hpt.2 hvb)
    have wd := wid_add _ (acr_bd hpt.1 hpt.2 hvb)
    have hap : decide (widI (l.getD k P0) v ≤ absI (acr p v)) = freeB (l.getD k P0) p v := rfl
    clear hb
    have hmx' := hmax k hk
    have hkm : k = m → freeB (l.getD k P0) p v = true := fun h => h ▸ hfm
    generalize shdR (l.getD k P0) p v = S at *
    have s1 : ¬ S.1 < 0 := by omega
    have s2 : ¬ S.2 < S.1 := by omega
    cases hF : freeB (l.getD k P0) p v with
    |false =>
     rw [hF] at kF hap hsd
     have s0 : S.1 ≠ 0 := of_decide_eq_false hsd.1
     have hs1 : decide (((S, (0 : Int)).fst).fst = 0) = false := hsd.1
     have k0 : ¬ (k : Int) = (m : Int) := fun h => by
      have := hkm (by omega); rw [hF] at this; exact absurd this (by decide)
     conv => whnf
     rw [getD_enc _ _ (k) P0 hk]
     refine ⟨idxA hk rfl, ?_⟩
     conv => whnf
     conv => whnf
     repeat' (first
      |(rw [w3]; conv => whnf)
      |(rw [w4]; conv => whnf)
      |(rw [m3]; conv => whnf)
      |(rw [m4]; conv => whnf)
      |(rw [wd]; conv => whnf)
      |(rw [hap]; conv => whnf)
      |(rw [hs1]; conv => whnf)
      |(refine ⟨fun hg => ?_, fun hg => ?_⟩ <;> first | contradiction | (exfalso; revert hg; simp; done) | (exfalso; exact absurd (of_decide_eq_true hg) (by assumption)) | (exfalso; exact absurd (by assumption) (of_decide_eq_false hg)) | (conv => whnf))
      |(refine Or.inl ?_; conv => whnf)
      |(refine ⟨_, kF, ?_⟩; conv => whnf)
      |(refine ⟨_, kS, ?_⟩; conv => whnf)
      |(refine ⟨_, kG, ?_⟩; conv => whnf)
      |(refine And.intro ?_ ?_; kernel_rfl; conv => whnf))
     all_goals
      rw [wrap_succ k (by omega)]
      exact ⟨k + 1, rfl, rfl, rfl, hk, by omega⟩
    |true =>
     rw [hF] at kF hap hsd
     have s0 : S.1 = 0 := of_decide_eq_true hsd.1
     have hs1 : decide (((S, (0 : Int)).fst).fst = 0) = true := hsd.1
     obtain ⟨hle, hei⟩ := hmx' hF
     have g1 : ¬ acr (l.getD m P0) v < acr (l.getD k P0) v := by omega
     by_cases hge3 : acr (l.getD k P0) v = acr (l.getD m P0) v
     ·have g2 : ¬ (k : Int) < (m : Int) := by have := hei hge3; omega
      conv => whnf
      rw [getD_enc _ _ (k) P0 hk]
      refine ⟨idxA hk rfl, ?_⟩
      conv => whnf
      conv => whnf
      repeat' (first
       |(rw [w3]; conv => whnf)
       |(rw [w4]; conv => whnf)
       |(rw [m3]; conv => whnf)
       |(rw [m4]; conv => whnf)
       |(rw [wd]; conv => whnf)
       |(rw [hap]; conv => whnf)
       |(rw [hs1]; conv => whnf)
       |(refine ⟨fun hg => ?_, fun hg => ?_⟩ <;> first | contradiction | (exfalso; revert hg; simp; done) | (exfalso; exact absurd (of_decide_eq_true hg) (by assumption)) | (exfalso; exact absurd (by assumption) (of_decide_eq_false hg)) | (conv => whnf))
       |(refine Or.inl ?_; conv => whnf)
       |(refine ⟨_, kF, ?_⟩; conv => whnf)
       |(refine ⟨_, kS, ?_⟩; conv => whnf)
       |(refine ⟨_, kG, ?_⟩; conv => whnf)
       |(refine And.intro ?_ ?_; kernel_rfl; conv => whnf))
      all_goals
       rw [wrap_succ k (by omega)]
       exact ⟨k + 1, rfl, rfl, rfl, hk, by omega⟩
     ·conv => whnf
      rw [getD_enc _ _ (k) P0 hk]
      refine ⟨idxA hk rfl, ?_⟩
      conv => whnf
      conv => whnf
      repeat' (first
       |(rw [w3]; conv => whnf)
       |(rw [w4]; conv => whnf)
       |(rw [m3]; conv => whnf)
       |(rw [m4]; conv => whnf)
       |(rw [wd]; conv => whnf)
       |(rw [hap]; conv => whnf)
       |(rw [hs1]; conv => whnf)
       |(refine ⟨fun hg => ?_, fun hg => ?_⟩ <;> first | contradiction | (exfalso; revert hg; simp; done) | (exfalso; exact absurd (of_decide_eq_true hg) (by assumption)) | (exfalso; exact absurd (by assumption) (of_decide_eq_false hg)) | (conv => whnf))
       |(refine Or.inl ?_; conv => whnf)
       |(refine ⟨_, kF, ?_⟩; conv => whnf)
       |(refine ⟨_, kS, ?_⟩; conv => whnf)
       |(refine ⟨_, kG, ?_⟩; conv => whnf)
       |(refine And.intro ?_ ?_; kernel_rfl; conv => whnf))
      all_goals
       rw [wrap_succ k (by omega)]
       exact ⟨k + 1, rfl, rfl, rfl, hk, by omega⟩
   ·clear hb
    by_cases hw1 : (1000 : Int) < 2 * p.x
    ·conv => whnf
     repeat' (first
      |(rw [w1]; conv => whnf)
      |(refine ⟨fun hg => ?_, fun hg => ?_⟩ <;> first | contradiction | (exfalso; revert hg; simp; done) | (exfalso; exact absurd (of_decide_eq_true hg) (by assumption)) | (exfalso; exact absurd (by assumption) (of_decide_eq_false hg)) | (conv => whnf))
      |(refine Or.inl ?_; conv => whnf)
      |(refine ⟨_, aw, ?_⟩; conv => whnf)
      |(refine And.intro ?_ ?_; kernel_rfl; conv => whnf))
     all_goals
      rw [wrap_succ i (by omega)]
      exact ⟨i + 1, rfl, rfl, rfl, hi, by omega⟩
    ·by_cases hw2 : (1000 : Int) < absI (2 * p.y)
     ·conv => whnf
      repeat' (first
       |(rw [w1]; conv => whnf)
       |(rw [mw]; conv => whnf)
       |(refine ⟨fun hg => ?_, fun hg => ?_⟩ <;> first | contradiction | (exfalso; revert hg; simp; done) | (exfalso; exact absurd (of_decide_eq_true hg) (by assumption)) | (exfalso; exact absurd (by assumption) (of_decide_eq_false hg)) | (conv => whnf))
       |(refine Or.inl ?_; conv => whnf)
       |(refine ⟨_, aw, ?_⟩; conv => whnf)
       |(refine And.intro ?_ ?_; kernel_rfl; conv => whnf))
      all_goals
       rw [wrap_succ i (by omega)]
       exact ⟨i + 1, rfl, rfl, rfl, hi, by omega⟩
     ·obtain ⟨q, hq, kR, hge2⟩ := hwr ⟨by omega, by omega⟩
      have hmx2 : mx = 2 * p.x := by rw [← hmx]; show (if 2 * p.x < 1000 then 2 * p.x else 1000) = 2 * p.x; split <;> omega
      subst hmx2
      have q1 : ¬ (q : Int) < 0 := by omega
      have q2 : ¬ (q : Int) ≥ ((l.map encPt).length : Int) := by omega
      have q3 : ¬ acr (l.getD q P0) v < acr (l.getD m P0) v := by omega
      have kQ := c_Gain (l.getD q P0) v
      rw [gn_ok (hTc _ (getD_in P0 hq)) hsu] at kQ
      conv => whnf
      repeat' (first
       |(rw [w1]; conv => whnf)
       |(rw [mw]; conv => whnf)
       |(refine ⟨fun hg => ?_, fun hg => ?_⟩ <;> first | contradiction | (exfalso; revert hg; simp; done) | (exfalso; exact absurd (of_decide_eq_true hg) (by assumption)) | (exfalso; exact absurd (by assumption) (of_decide_eq_false hg)) | (conv => whnf))
       |(refine Or.inl ?_; conv => whnf)
       |(refine ⟨_, a1, ?_⟩; conv => whnf)
       |(refine ⟨_, kR, ?_⟩; conv => whnf)
       |(rw [getD_enc _ _ q P0 hq]; refine ⟨idxA hq rfl, ?_⟩; conv => whnf)
       |(refine ⟨_, kQ, ?_⟩; conv => whnf)
       |(refine ⟨_, aw, ?_⟩; conv => whnf)
       |(refine And.intro ?_ ?_; kernel_rfl; conv => whnf))
      all_goals
       rw [wrap_succ i (by omega)]
       exact ⟨i + 1, rfl, rfl, rfl, hi, by omega⟩
end Sh
