/-
  Chapter 3's functions, walked over pure data: the library of the walk, the functions' code over data, and what each computes. (part 6)
-/
import Derived.Test.YtkaglomkahhjcaaGreatDoorP5
import Derived.Test.YtkaglomkahhjcaaGreatDoorProg
import Derived.Lay
import Derived.Test.YtkaglomkahhjcaaGreatDoorRows
import Derived.Test.YtkaglomkahhjcaaGreatDoorCards
import Derived.Test.YtkaglomkahhjcaaGreatDoorTie
set_option linter.unusedVariables false
set_option linter.unusedSimpArgs false
set_option maxRecDepth 100000
set_option linter.unusedSimpArgs false
set_option linter.unusedVariables false
namespace Sh
open Go Go.Proofs
def ctM (l : List (List V3)) (sun : V3) (ps : List Pt) (i k m : Nat) : Int := if m < i then ((cutI l sun m ps).length : Int) else if m = i then ctN l sun ps i k else 0
def ctX (l : List (List V3)) (sun : V3) (ps : List Pt) (i k : Nat) : List DV := rng l.length fun m => DV.int .i64 (ctM l sun ps i k m)
theorem ctX_zero (l : List (List V3)) (sun : V3) (ps : List Pt) : ctX l sun ps 0 0 = List.replicate (l.map shp).length (DV.int .i64 (0)) := by
 rw [List.length_map, rng_const]
 unfold ctX
 refine rng_congr fun m _ => int_eq ?_
 unfold ctM
 rw [if_neg (by omega)]
 by_cases e : m = 0
 ·rw [if_pos e]; rfl
 ·rw [if_neg e]
theorem ctX_next (l : List (List V3)) (sun : V3) (ps : List Pt) (i : Nat) : ctX l sun ps i ps.length = ctX l sun ps (i + 1) 0 := by
 unfold ctX
 refine rng_congr fun m _ => int_eq ?_
 unfold ctM
 by_cases e : m < i
 ·rw [if_pos e, if_pos (by omega)]
 ·by_cases e2 : m = i
  ·subst e2
   rw [if_neg e, if_pos rfl, if_pos (by omega)]
   unfold ctN; rw [List.take_length]
  ·rw [if_neg e, if_neg e2, if_neg (by omega)]
   by_cases e3 : m = i + 1
   ·rw [if_pos e3]; rfl
   ·rw [if_neg e3]
theorem ctX_all (l : List (List V3)) (sun : V3) (ps : List Pt) : ctX l sun ps l.length 0 = (rng l.length fun i => ((cutI l sun i ps).length : Int)).map (DV.int .i64) := by
 rw [rng_map]
 unfold ctX
 refine rng_congr fun m h => int_eq ?_
 unfold ctM
 rw [if_pos h]
theorem ctX_len (l : List (List V3)) (sun : V3) (ps : List Pt) (i k : Nat) : (ctX l sun ps i k).length = l.length := rng_len _ _
theorem ctX_get {l : List (List V3)} {sun : V3} {ps : List Pt} {i k : Nat} (h : i < l.length) : (ctX l sun ps i k).getD i .undef = DV.int .i64 (ctN l sun ps i k) := by
 unfold ctX
 rw [rng_getD _ _ h]
 unfold ctM
 rw [if_neg (by omega), if_pos rfl]
def ctC (l : List (List V3)) (sun : V3) (i : Nat) (p : Pt) : Bool := !anyHid (l.take i) sun p && hidB (l.getD i []) sun p
theorem ctN_yes {l : List (List V3)} {sun : V3} {ps : List Pt} {i k : Nat} (hk : k < ps.length) (h : ctC l sun i (ps.getD k P0) = true) : ctN l sun ps i (k + 1) = ctN l sun ps i k + 1 ∧ seenK l sun ps i (k + 1) = seenK l sun ps i k ++ [ps.getD k P0] := by
 unfold ctC at h
 unfold ctN seenK cutI
 rw [take_snoc ps k P0 hk, List.filter_append, List.length_append, List.filter_cons, h]
 simp
theorem ctN_no {l : List (List V3)} {sun : V3} {ps : List Pt} {i k : Nat} (hk : k < ps.length) (h : ctC l sun i (ps.getD k P0) = false) : ctN l sun ps i (k + 1) = ctN l sun ps i k ∧ seenK l sun ps i (k + 1) = seenK l sun ps i k := by
 unfold ctC at h
 unfold ctN seenK cutI
 rw [take_snoc ps k P0 hk, List.filter_append, List.length_append, List.filter_cons, h]
 simp
theorem ctX_same {l : List (List V3)} {sun : V3} {ps : List Pt} {i k : Nat} (h : ctN l sun ps i (k + 1) = ctN l sun ps i k) : ctX l sun ps i (k + 1) = ctX l sun ps i k := by
 unfold ctX ctM; rw [h]
theorem ctX_set {l : List (List V3)} {sun : V3} {ps : List Pt} {i k : Nat} (h : ctN l sun ps i (k + 1) = ctN l sun ps i k + 1) : (ctX l sun ps i k).set i (DV.int .i64 (ctN l sun ps i k + 1)) = ctX l sun ps i (k + 1) := by
 unfold ctX
 rw [rng_set]
 refine rng_congr fun m _ => ?_
 unfold ctM
 by_cases e : m = i
 ·subst e; rw [if_pos rfl, if_neg (by omega), if_pos rfl, h]
 ·rw [if_neg e]
  by_cases e2 : m < i
  ·rw [if_pos e2, if_pos e2]
  ·rw [if_neg e2, if_neg e2, if_neg e, if_neg e]
theorem entP_snoc (ks : List Pt) (p : Pt) : entP ks ++ [(encPt p, DV.bool true)] = entP (ks ++ [p]) := by unfold entP; rw [List.map_append]; rfl
theorem c_cut (l : List (List V3)) (sun : V3) (c : Bx) (h8 : l.length ≤ 8) (h1 : ∀ s ∈ l, OkS s) (h2 : bdV 1000 sun) (h3 : OkB c) : PC 109 [shps l, encV sun, encB c] (iL (cutS l sun c)) := by
 have e0 : ((l.map shp).length : Int) = l.length := by simp
 have hn := h3.spN
 have hsp : ∀ p ∈ spotsL c, (-1000 ≤ p.x ∧ p.x ≤ 1000) ∧ (-1000 ≤ p.y ∧ p.y ≤ 1000) := fun p hp => h3.spot hp
 have hit := spotsIt c h3
 have hnd := spots_nodup c
 have k6 := c_spots c
 unfold cutS
 generalize spotsL c = ps at *
 refine pureCall_ofR dh109 rfl ?_
 conv => whnf
 refine ⟨⟨by omega, by omega, by omega, rfl, rfl⟩, ?_⟩
 conv => whnf
 refine dwp_loopU (P := Tryz.prog) (G := GC) (k := dk109_1) (b := db109_1) (α := Nat) (fun i => [(18, DV.int .i64 (i))]) (fun i => [(4, .box 3 (encV sun)), (5, .box 4 (encB c)), (7, .box 1 (.dict 12)), (8, .box 1 (.own 15 0 (l.map shp).length (l.map shp).length)), (12, .dict (entP (seenK l sun ps i 0))), (15, .row 1 (ctX l sun ps i 0) false)]) (fun i => i ≤ l.length) (fun i => l.length - i) 0 (Nat.zero_le _) ?_
 conv => whnf
 refine ⟨rfl, by rw [ctX_zero]; rfl, ?_⟩
 conv => whnf
 refine ⟨rfl, ?_⟩
 intro i j1
 conv => whnf
 refine ⟨fun hb => ?_, fun hb => ?_⟩
 ·have hi : i < l.length := by simpa using hb
  have hS := h1 _ (getD_in [] hi)
  clear hb
  conv => whnf
  rw [getD_enc _ _ (i) [] hi]
  refine ⟨idxA hi rfl, ?_⟩
  conv => whnf
  repeat' (first
   |(refine ⟨fun hg => ?_, fun hg => ?_⟩ <;> first | contradiction | (conv => whnf))
   |(refine Or.inl ?_; conv => whnf)
   |(refine ⟨_, k6, ?_⟩; conv => whnf)
   |(refine And.intro ?_ ?_; kernel_rfl; conv => whnf))
  generalize hss : l.getD i [] = s at *
  refine range_R (P := Tryz.prog) (G := GC) (x := db109_0x) (y := db109_0) (k := dk109_0) (one1 ps) (fun k => [(4, .box 3 (encV sun)), (5, .box 4 (encB c)), (7, .box 1 (.dict 12)), (8, .box 1 (.own 15 0 (l.map shp).length (l.map shp).length)), (9, .box 1 (DV.int .i64 (i))), (10, .box 1 (shp s)), (12, .dict (entP (seenK l sun ps i k))), (15, .row 1 (ctX l sun ps i k) false)]) [(4, .bptr 4 0), (5, .bptr 5 0), (6, .full []), (7, .bptr 7 0), (8, .bptr 8 0), (9, .bptr 9 0), (10, .bptr 10 0), (16, shps l), (17, DV.int .i64 ((l.map shp).length)), (18, DV.int .i64 (i))] hit rfl one1_len rfl rfl rfl rfl ?_ ?_
  ·intro k z hz
   obtain ⟨hk, rfl⟩ := one1_get hz
   have hpp := hsp _ (getD_in P0 hk)
   have hsm := seen_mem (l := l) (sun := sun) hnd hi hk
   have hyes := ctN_yes (l := l) (sun := sun) (i := i) hk
   have hno := ctN_no (l := l) (sun := sun) (i := i) hk
   dsimp only
   generalize hpk : ps.getD k P0 = p at *
   have k5 := c_hides s sun p hS h2 hpp
   unfold ctC at hyes hno
   rw [hss] at hyes hno
   cases hA : anyHid (l.take i) sun p with
   |true =>
    rw [hA] at hsm hyes hno
    obtain ⟨j, hj⟩ := find_yes 0 (hsm.2 rfl)
    conv => whnf
    rw [ev_lookup_some (q := 12) (es := entP (seenK l sun ps i k)) rfl rfl rfl hj]
    conv => whnf
    refine ⟨fun h => absurd h (by decide), fun _ => ?_⟩
    conv => whnf
    refine ⟨fun h => absurd h (by decide), fun _ => ?_⟩
    conv => whnf
    obtain ⟨q1, q2⟩ := hno rfl
    refine ⟨rfl, ?_⟩
    rw [q2, ctX_same q1]
    rfl
   |false =>
    rw [hA] at hsm hyes hno
    have hj := find_no 0 (show p ∉ seenK l sun ps i k from fun h => by have := hsm.1 h; cases this)
    conv => whnf
    rw [ev_lookup_none (q := 12) (es := entP (seenK l sun ps i k)) rfl rfl rfl hj]
    conv => whnf
    refine ⟨fun _ => ?_, fun h => absurd h (by decide)⟩
    conv => whnf
    refine .inl ?_
    conv => whnf
    refine ⟨_, k5 .., ?_⟩
    conv => whnf
    refine ⟨fun hg => ?_, fun hg => ?_⟩
    ·have hg : hidB s sun p = true := hg
     obtain ⟨q1, q2⟩ := hyes (by rw [hg]; rfl)
     have hlx := ctX_len l sun ps i k
     have e3 : ((ctX l sun ps i k).length : Int) = l.length := by rw [hlx]
     have hget : (ctX l sun ps i k).getD (0 + Int.toNat (i : Int)) .undef = DV.int .i64 (ctN l sun ps i k) := by rw [Nat.zero_add, Int.toNat_natCast]; exact ctX_get hi
     have hb1 : 0 ≤ ctN l sun ps i k ∧ ctN l sun ps i k ≤ 4000000 := by
      unfold ctN
      refine ⟨by omega, ?_⟩
      have h1 := List.length_filter_le (fun p => !anyHid (l.take i) sun p && hidB (l.getD i []) sun p) (ps.take k)
      have h2 : (ps.take k).length ≤ ps.length := List.length_take_le' _ _
      unfold cutI
      omega
     conv => whnf
     rw [ev_mapset_none (q := 12) (es := entP (seenK l sun ps i k)) (kv := encPt p) (vv := .bool true) rfl rfl rfl rfl rfl hj, entP_snoc, ← q2]
     conv => whnf
     refine ⟨⟨by rw [hlx, List.length_map], by omega, by rw [e0]; omega⟩, ?_⟩
     conv => whnf
     refine ⟨⟨by rw [hlx, List.length_map], by decide⟩, ?_⟩
     rw [hget]
     conv => whnf
     refine ⟨⟨by rw [hlx, List.length_map], by omega, by rw [e0]; omega⟩, ?_⟩
     conv => whnf
     rw [wrap_in (by omega) (by omega)]
     refine ⟨⟨by rw [hlx, List.length_map], by decide, rfl⟩, ?_⟩
     conv => whnf
     refine ⟨rfl, ?_⟩
     have hset : (ctX l sun ps i k).set (0 + Int.toNat (i : Int)) (DV.int .i64 (ctN l sun ps i k + 1)) = ctX l sun ps i (k + 1) := by rw [Nat.zero_add, Int.toNat_natCast]; exact ctX_set q1
     rw [← hset]
     rfl
    ·have hg : hidB s sun p = false := hg
     obtain ⟨q1, q2⟩ := hno (by rw [hg]; rfl)
     conv => whnf
     refine ⟨rfl, ?_⟩
     rw [q2, ctX_same q1]
     rfl
  ·rw [show (one1 ps).length = ps.length from List.length_map _]
   rw [seenK_zero, ctX_next]
   conv => whnf
   rw [wrap_succ i (by omega)]
   exact ⟨i + 1, rfl, rfl, rfl, hi, by omega⟩
 ·have hi : i = l.length := by have := of_decide_eq_false hb; rw [e0] at this; omega
  clear hb
  rw [hi, ctX_all]
  conv => whnf
  have hlen : (l.map shp).length = ((rng l.length fun i => ((cutI l sun i ps).length : Int)).map (DV.int .i64)).length := by rw [List.length_map, List.length_map, rng_len]
  refine ⟨hlen, ?_⟩
  rw [hlen, window_full]
  rfl
def cuS (l : List (List V3)) (sun : V3) (c : Bx) : List Int × Int := if lgE l sun c ≠ 0 then ([], lgE l sun c) else (cutS l sun c, 0)
theorem c_Cut (l : List (List V3)) (sun : V3) (c : Bx) (hl : l.length < 1073741824) (hs : ∀ s ∈ l, s.length < 1073741824) : PC 32 [shps l, encV sun, encB c] (.tuple [iL (cuS l sun c).1, DV.int .i64 ((cuS l sun c).2)]) := by
 have k1 := c_checkShapes l hl hs
 have k2 := c_CheckSun sun
 have k3 := c_CheckCell c
 have k4 := c_first [chkShps l, chkSun sun, chkBx c] (by simp)
 refine pureCall_ofR dh32 rfl ?_
 conv => whnf
 repeat' (first
  |(refine ⟨fun hg => ?_, fun hg => ?_⟩ <;> first | contradiction | (conv => whnf))
  |(refine Or.inl ?_; conv => whnf)
  |(refine ⟨_, k1, ?_⟩; conv => whnf)
  |(refine ⟨_, k2, ?_⟩; conv => whnf)
  |(refine ⟨_, k3, ?_⟩; conv => whnf)
  |(refine ⟨_, k4, ?_⟩; conv => whnf)
  |(refine And.intro ?_ ?_; kernel_rfl; conv => whnf))
 ·have hg : lgE l sun c ≠ 0 := of_decide_eq_true hg
  have e : cuS l sun c = ([], lgE l sun c) := if_pos hg
  rw [e]; rfl
 ·have hg : ¬ lgE l sun c ≠ 0 := of_decide_eq_false hg
  have e : cuS l sun c = (cutS l sun c, 0) := if_neg hg
  obtain ⟨⟨h8, h1⟩, h2, h3⟩ := lgE_zero (Classical.not_not.1 hg)
  have k5 := c_cut l sun c h8 h1 h2 h3
  repeat' (first
   |(refine ⟨fun hg => ?_, fun hg => ?_⟩ <;> first | contradiction | (conv => whnf))
   |(refine Or.inl ?_; conv => whnf)
   |(refine ⟨_, k5, ?_⟩; conv => whnf)
   |(refine And.intro ?_ ?_; kernel_rfl; conv => whnf))
  rw [e]; rfl
end Sh

set_option maxRecDepth 100000
namespace Sh
open Go
def dc14 : DFunc := ⟨417,0,[.tmp 0],.seq (.ops false [⟨some 0,.mov (.const (.bool false)),none,[]⟩]) (.seq (.ops false [⟨some 53,.call (.func 82) [.const (.int .i64 0),.const (.int .i64 (-1)),.const (.int .i64 1)],none,[]⟩,⟨some 54,.call (.func 82) [.const (.int .i64 1),.const (.int .i64 (-1)),.const (.int .i64 2)],none,[]⟩,⟨some 1,.alloc (.agg [.int .i64 0,.int .i64 0,.int .i64 0]) 3,none,[]⟩,⟨some 2,.alloc (.agg [.int .i64 0,.int .i64 0,.int .i64 0]) 3,none,[]⟩,⟨none,.store 3 (.tmp 1) (.tmp 53),none,[]⟩,⟨none,.store 3 (.tmp 2) (.tmp 54),none,[]⟩]) (.seq (.ops true [⟨some 56,.call (.func 84) [],none,[]⟩,⟨some 57,.load (some 3) (.tmp 1),none,[]⟩,⟨some 58,.call (.func 81) [.const (.int .i64 2),.const (.int .i64 4)],none,[0]⟩,⟨some 59,.call (.func 15) [.tmp 56,.tmp 57,.tmp 58],none,[0,1,2]⟩,⟨some 55,.mov (.tmp 59),none,[3,0,1,2]⟩,⟨some 60,.extract (.tmp 55) 0,none,[4,3,0,1,2]⟩,⟨some 61,.extract (.tmp 55) 1,none,[4,3,0,1,2]⟩,⟨some 3,.mov (.tmp 60),none,[5,4,3,0,1,2]⟩,⟨some 4,.mov (.tmp 61),none,[6,4,3,0,1,2,7,5]⟩]) (.seq (.ops true [⟨some 63,.call (.func 84) [],none,[]⟩,⟨some 64,.load (some 3) (.tmp 1),none,[]⟩,⟨some 65,.call (.func 81) [.const (.int .i64 2),.const (.int .i64 5)],none,[0]⟩,⟨some 66,.call (.func 15) [.tmp 63,.tmp 64,.tmp 65],none,[0,1,2]⟩,⟨some 62,.mov (.tmp 66),none,[3,0,1,2]⟩,⟨some 67,.extract (.tmp 62) 0,none,[4,3,0,1,2]⟩,⟨some 68,.extract (.tmp 62) 1,none,[4,3,0,1,2]⟩,⟨some 5,.mov (.tmp 67),none,[5,4,3,0,1,2]⟩,⟨some 6,.mov (.tmp 68),none,[6,4,3,0,1,2,7,5]⟩]) (.seq (.ops true [⟨some 70,.call (.func 84) [],none,[]⟩,⟨some 71,.load (some 3) (.tmp 1),none,[]⟩,⟨some 72,.call (.func 81) [.const (.int .i64 2),.const (.int .i64 (-1))],none,[0]⟩,⟨some 73,.call (.func 15) [.tmp 70,.tmp 71,.tmp 72],none,[0,1,2]⟩,⟨some 69,.mov (.tmp 73),none,[3,0,1,2]⟩,⟨some 74,.extract (.tmp 69) 0,none,[4,3,0,1,2]⟩,⟨some 75,.extract (.tmp 69) 1,none,[4,3,0,1,2]⟩,⟨some 7,.mov (.tmp 74),none,[5,4,3,0,1,2]⟩,⟨some 8,.mov (.tmp 75),none,[6,4,3,0,1,2,7,5]⟩]) (.seq (.ops true [⟨some 77,.call (.func 84) [],none,[]⟩,⟨some 78,.load (some 3) (.tmp 2),none,[]⟩,⟨some 79,.call (.func 81) [.const (.int .i64 0),.const (.int .i64 2)],none,[0]⟩,⟨some 80,.call (.func 15) [.tmp 77,.tmp 78,.tmp 79],none,[0,1,2]⟩,⟨some 76,.mov (.tmp 80),none,[3,0,1,2]⟩,⟨some 81,.extract (.tmp 76) 0,none,[4,3,0,1,2]⟩,⟨some 82,.extract (.tmp 76) 1,none,[4,3,0,1,2]⟩,⟨some 9,.mov (.tmp 81),none,[5,4,3,0,1,2]⟩,⟨some 10,.mov (.tmp 82),none,[6,4,3,0,1,2,7,5]⟩]) (.seq (.ops true [⟨some 84,.call (.func 84) [],none,[]⟩,⟨some 85,.load (some 3) (.tmp 2),none,[]⟩,⟨some 86,.call (.func 81) [.const (.int .i64 4),.const (.int .i64 1)],none,[0]⟩,⟨some 87,.call (.func 15) [.tmp 84,.tmp 85,.tmp 86],none,[0,1,2]⟩,⟨some 83,.mov (.tmp 87),none,[3,0,1,2]⟩,⟨some 88,.extract (.tmp 83) 0,none,[4,3,0,1,2]⟩,⟨some 89,.extract (.tmp 83) 1,none,[4,3,0,1,2]⟩,⟨some 11,.mov (.tmp 88),none,[5,4,3,0,1,2]⟩,⟨some 12,.mov (.tmp 89),none,[6,4,3,0,1,2,7,5]⟩]) (.seq (.ops true [⟨some 91,.call (.func 84) [],none,[]⟩,⟨some 92,.load (some 3) (.tmp 1),none,[]⟩,⟨some 93,.call (.func 85) [],none,[0]⟩,⟨some 94,.call (.func 31) [.tmp 91,.tmp 92,.tmp 93],none,[0,1,2]⟩,⟨some 90,.mov (.tmp 94),none,[3,0,1,2]⟩,⟨some 95,.extract (.tmp 90) 0,none,[4,3,0,1,2]⟩,⟨some 96,.extract (.tmp 90) 1,none,[4,3,0,1,2]⟩,⟨some 13,.mov (.tmp 95),none,[5,4,3,0,1,2]⟩,⟨some 14,.mov (.tmp 96),none,[6,4,3,0,1,2,7,5]⟩]) (.seq (.ops true [⟨some 98,.call (.func 84) [],none,[]⟩,⟨some 99,.call (.func 86) [],none,[0]⟩,⟨some 100,.lit true 1 2 (.full []) [(0,(.tmp 98)),(1,(.tmp 99))],none,[0,1]⟩,⟨some 101,.load (some 3) (.tmp 1),none,[]⟩,⟨some 102,.call (.func 85) [],none,[1,0]⟩,⟨some 103,.call (.func 32) [.tmp 100,.tmp 101,.tmp 102],none,[2,0,1,3,4]⟩,⟨some 97,.mov (.tmp 103),none,[5,2,0,1,3,4]⟩,⟨some 104,.extract (.tmp 97) 0,none,[6,5,2,0,1,3,4]⟩,⟨some 105,.extract (.tmp 97) 1,none,[6,5,2,0,1,3,4]⟩,⟨some 15,.mov (.tmp 104),none,[7,6,5,2,0,1,3,4]⟩,⟨some 16,.mov (.tmp 105),none,[8,6,5,2,0,1,3,4,9,7]⟩]) (.seq (.ops true [⟨some 107,.call (.func 86) [],none,[]⟩,⟨some 108,.call (.func 84) [],none,[0]⟩,⟨some 109,.lit true 1 2 (.full []) [(0,(.tmp 107)),(1,(.tmp 108))],none,[0,1]⟩,⟨some 110,.load (some 3) (.tmp 1),none,[]⟩,⟨some 111,.call (.func 85) [],none,[1,0]⟩,⟨some 112,.call (.func 32) [.tmp 109,.tmp 110,.tmp 111],none,[2,0,1,3,4]⟩,⟨some 106,.mov (.tmp 112),none,[5,2,0,1,3,4]⟩,⟨some 113,.extract (.tmp 106) 0,none,[6,5,2,0,1,3,4]⟩,⟨some 114,.extract (.tmp 106) 1,none,[6,5,2,0,1,3,4]⟩,⟨some 17,.mov (.tmp 113),none,[7,6,5,2,0,1,3,4]⟩,⟨some 18,.mov (.tmp 114),none,[8,6,5,2,0,1,3,4,9,7]⟩]) (.seq (.ops true [⟨some 116,.call (.func 84) [],none,[]⟩,⟨some 117,.call (.func 86) [],none,[0]⟩,⟨some 118,.lit true 1 2 (.full []) [(0,(.tmp 116)),(1,(.tmp 117))],none,[0,1]⟩,⟨some 119,.load (some 3) (.tmp 1),none,[]⟩,⟨some 120,.call (.func 85) [],none,[1,0]⟩,⟨some 121,.call (.func 33) [.tmp 118,.tmp 119,.tmp 120],none,[2,0,1,3,4]⟩,⟨some 115,.mov (.tmp 121),none,[5,2,0,1,3,4]⟩,⟨some 122,.extract (.tmp 115) 0,none,[6,5,2,0,1,3,4]⟩,⟨some 123,.extract (.tmp 115) 1,none,[6,5,2,0,1,3,4]⟩,⟨some 19,.mov (.tmp 122),none,[7,6,5,2,0,1,3,4]⟩,⟨some 20,.mov (.tmp 123),none,[8,6,5,2,0,1,3,4,9,7]⟩]) (.seq (.ops true [⟨some 125,.call (.func 84) [],none,[]⟩,⟨some 126,.lit true 1 1 (.full []) [(0,(.tmp 125))],none,[0]⟩,⟨some 127,.load (some 3) (.tmp 1),none,[]⟩,⟨some 128,.call (.func 85) [],none,[0]⟩,⟨some 129,.lit true 4 1 (.agg [.int .i64 0,.int .i64 0,.int .i64 0,.int .i64 0]) [(0,(.tmp 128))],none,[3,0]⟩,⟨some 130,.call (.func 34) [.tmp 126,.tmp 127,.tmp 129],none,[1,0,2,4,3]⟩,⟨some 124,.mov (.tmp 130),none,[5,1,0,2,4,3]⟩,⟨some 131,.extract (.tmp 124) 0,none,[6,5,1,0,2,4,3]⟩,⟨some 132,.extract (.tmp 124) 1,none,[6,5,1,0,2,4,3]⟩,⟨some 21,.mov (.tmp 131),none,[7,6,5,1,0,2,4,3]⟩,⟨some 22,.mov (.tmp 132),none,[8,6,5,1,0,2,4,3,9,7]⟩]) (.seq (.ops true [⟨some 134,.call (.func 84) [],none,[]⟩,⟨some 135,.call (.func 86) [],none,[0]⟩,⟨some 136,.lit true 1 2 (.full []) [(0,(.tmp 134)),(1,(.tmp 135))],none,[0,1]⟩,⟨some 137,.load (some 3) (.tmp 1),none,[]⟩,⟨some 138,.call (.func 81) [.const (.int .i64 3),.const (.int .i64 1)],none,[1,0]⟩,⟨some 139,.call (.func 18) [.tmp 136,.tmp 137,.tmp 138],none,[2,0,1,3,4]⟩,⟨some 133,.mov (.tmp 139),none,[5,2,0,1,3,4]⟩,⟨some 140,.extract (.tmp 133) 0,none,[6,5,2,0,1,3,4]⟩,⟨some 141,.extract (.tmp 133) 1,none,[6,5,2,0,1,3,4]⟩,⟨some 23,.mov (.tmp 140),none,[7,6,5,2,0,1,3,4]⟩,⟨some 24,.mov (.tmp 141),none,[8,6,5,2,0,1,3,4,9,7]⟩]) (.seq (.seq (.ops true [⟨some 142,.mov (.tmp 4),none,[]⟩,⟨some 143,.mov (.tmp 6),none,[]⟩,⟨some 144,.bin .add (.tmp 142) (.tmp 143),none,[0,1]⟩,⟨some 145,.mov (.tmp 8),none,[]⟩,⟨some 146,.bin .add (.tmp 144) (.tmp 145),none,[2,0,1,3]⟩,⟨some 147,.mov (.tmp 10),none,[]⟩,⟨some 148,.bin .add (.tmp 146) (.tmp 147),none,[4,2,0,1,3,5]⟩,⟨some 149,.mov (.tmp 12),none,[]⟩,⟨some 150,.bin .add (.tmp 148) (.tmp 149),none,[6,4,2,0,1,3,5,7]⟩,⟨some 151,.mov (.tmp 14),none,[]⟩,⟨some 152,.bin .add (.tmp 150) (.tmp 151),none,[8,6,4,2,0,1,3,5,7,9]⟩,⟨some 153,.mov (.tmp 16),none,[]⟩,⟨some 154,.bin .add (.tmp 152) (.tmp 153),none,[10,8,6,4,2,0,1,3,5,7,9,11]⟩,⟨some 155,.mov (.tmp 18),none,[]⟩,⟨some 156,.bin .add (.tmp 154) (.tmp 155),none,[12,10,8,6,4,2,0,1,3,5,7,9,11,13]⟩,⟨some 157,.mov (.tmp 20),none,[]⟩,⟨some 158,.bin .add (.tmp 156) (.tmp 157),none,[14,12,10,8,6,4,2,0,1,3,5,7,9,11,13,15]⟩,⟨some 159,.mov (.tmp 22),none,[]⟩,⟨some 160,.bin .add (.tmp 158) (.tmp 159),none,[16,14,12,10,8,6,4,2,0,1,3,5,7,9,11,13,15,17]⟩,⟨some 161,.mov (.tmp 24),none,[]⟩,⟨some 162,.bin .add (.tmp 160) (.tmp 161),none,[18,16,14,12,10,8,6,4,2,0,1,3,5,7,9,11,13,15,17,19]⟩,⟨some 163,.bin .neq (.tmp 162) (.const (.int .i64 0)),none,[20,18,16,14,12,10,8,6,4,2,0,1,3,5,7,9,11,13,15,17,19]⟩,⟨some 164,.mov (.tmp 163),none,[21,20,18,16,14,12,10,8,6,4,2,0,1,3,5,7,9,11,13,15,17,19]⟩,⟨some 165,.mov (.tmp 3),some (164,false),[22,21,20,18,16,14,12,10,8,6,4,2,0,1,3,5,7,9,11,13,15,17,19]⟩,⟨some 166,.un .not (.tmp 165),some (164,false),[23,22,21,20,18,16,14,12,10,8,6,4,2,0,1,3,5,7,9,11,13,15,17,19]⟩,⟨some 167,.pick (.tmp 164) (.const (.bool true)) (.tmp 166),none,[22,21,20,18,16,14,12,10,8,6,4,2,0,1,3,5,7,9,11,13,15,17,19,24,23]⟩,⟨some 168,.mov (.tmp 167),none,[25,22,21,20,18,16,14,12,10,8,6,4,2,0,1,3,5,7,9,11,13,15,17,19,24,23]⟩,⟨some 169,.mov (.tmp 5),some (168,false),[26,25,22,21,20,18,16,14,12,10,8,6,4,2,0,1,3,5,7,9,11,13,15,17,19,24,23]⟩,⟨some 170,.pick (.tmp 168) (.const (.bool true)) (.tmp 169),none,[26,25,22,21,20,18,16,14,12,10,8,6,4,2,0,1,3,5,7,9,11,13,15,17,19,24,23,27]⟩,⟨some 171,.mov (.tmp 170),none,[28,26,25,22,21,20,18,16,14,12,10,8,6,4,2,0,1,3,5,7,9,11,13,15,17,19,24,23,27]⟩,⟨some 172,.mov (.tmp 7),some (171,false),[29,28,26,25,22,21,20,18,16,14,12,10,8,6,4,2,0,1,3,5,7,9,11,13,15,17,19,24,23,27]⟩,⟨some 173,.pick (.tmp 171) (.const (.bool true)) (.tmp 172),none,[29,28,26,25,22,21,20,18,16,14,12,10,8,6,4,2,0,1,3,5,7,9,11,13,15,17,19,24,23,27,30]⟩,⟨some 174,.mov (.tmp 173),none,[31,29,28,26,25,22,21,20,18,16,14,12,10,8,6,4,2,0,1,3,5,7,9,11,13,15,17,19,24,23,27,30]⟩,⟨some 175,.mov (.tmp 9),some (174,false),[32,31,29,28,26,25,22,21,20,18,16,14,12,10,8,6,4,2,0,1,3,5,7,9,11,13,15,17,19,24,23,27,30]⟩,⟨some 176,.un .not (.tmp 175),some (174,false),[33,32,31,29,28,26,25,22,21,20,18,16,14,12,10,8,6,4,2,0,1,3,5,7,9,11,13,15,17,19,24,23,27,30]⟩,⟨some 177,.pick (.tmp 174) (.const (.bool true)) (.tmp 176),none,[32,31,29,28,26,25,22,21,20,18,16,14,12,10,8,6,4,2,0,1,3,5,7,9,11,13,15,17,19,24,23,27,30,34,33]⟩,⟨some 178,.mov (.tmp 177),none,[35,32,31,29,28,26,25,22,21,20,18,16,14,12,10,8,6,4,2,0,1,3,5,7,9,11,13,15,17,19,24,23,27,30,34,33]⟩,⟨some 179,.mov (.tmp 11),some (178,false),[36,35,32,31,29,28,26,25,22,21,20,18,16,14,12,10,8,6,4,2,0,1,3,5,7,9,11,13,15,17,19,24,23,27,30,34,33]⟩,⟨some 180,.pick (.tmp 178) (.const (.bool true)) (.tmp 179),none,[36,35,32,31,29,28,26,25,22,21,20,18,16,14,12,10,8,6,4,2,0,1,3,5,7,9,11,13,15,17,19,24,23,27,30,34,33,37]⟩,⟨some 181,.mov (.tmp 180),none,[38,36,35,32,31,29,28,26,25,22,21,20,18,16,14,12,10,8,6,4,2,0,1,3,5,7,9,11,13,15,17,19,24,23,27,30,34,33,37]⟩,⟨some 182,.mov (.tmp 13),some (181,false),[39,38,36,35,32,31,29,28,26,25,22,21,20,18,16,14,12,10,8,6,4,2,0,1,3,5,7,9,11,13,15,17,19,24,23,27,30,34,33,37]⟩,⟨some 183,.len (.tmp 182),some (181,false),[40,39,38,36,35,32,31,29,28,26,25,22,21,20,18,16,14,12,10,8,6,4,2,0,1,3,5,7,9,11,13,15,17,19,24,23,27,30,34,33,37]⟩,⟨some 184,.bin .neq (.tmp 183) (.const (.int .i64 20)),some (181,false),[41,40,39,38,36,35,32,31,29,28,26,25,22,21,20,18,16,14,12,10,8,6,4,2,0,1,3,5,7,9,11,13,15,17,19,24,23,27,30,34,33,37]⟩,⟨some 185,.pick (.tmp 181) (.const (.bool true)) (.tmp 184),none,[39,38,36,35,32,31,29,28,26,25,22,21,20,18,16,14,12,10,8,6,4,2,0,1,3,5,7,9,11,13,15,17,19,24,23,27,30,34,33,37,42,41,40]⟩,⟨some 186,.mov (.tmp 185),none,[43,39,38,36,35,32,31,29,28,26,25,22,21,20,18,16,14,12,10,8,6,4,2,0,1,3,5,7,9,11,13,15,17,19,24,23,27,30,34,33,37,42,41,40]⟩,⟨some 187,.mov (.tmp 13),some (186,false),[44,43,39,38,36,35,32,31,29,28,26,25,22,21,20,18,16,14,12,10,8,6,4,2,0,1,3,5,7,9,11,13,15,17,19,24,23,27,30,34,33,37,42,41,40]⟩,⟨some 188,.iaddr 2 (.tmp 187) (.const (.int .i64 0)),some (186,false),[45,44,43,39,38,36,35,32,31,29,28,26,25,22,21,20,18,16,14,12,10,8,6,4,2,0,1,3,5,7,9,11,13,15,17,19,24,23,27,30,34,33,37,42,41,40]⟩,⟨some 189,.load (some 2) (.tmp 188),some (186,false),[46,45,44,43,39,38,36,35,32,31,29,28,26,25,22,21,20,18,16,14,12,10,8,6,4,2,0,1,3,5,7,9,11,13,15,17,19,24,23,27,30,34,33,37,42,41,40]⟩,⟨some 190,.call (.func 81) [.const (.int .i64 0),.const (.int .i64 1)],some (186,false),[44,43,39,38,36,35,32,31,29,28,26,25,22,21,20,18,16,14,12,10,8,6,4,2,0,1,3,5,7,9,11,13,15,17,19,24,23,27,30,34,33,37,42,41,40]⟩,⟨some 191,.eqA true [1,1] (.tmp 189) (.tmp 190),some (186,false),[47,46,45,44,43,39,38,36,35,32,31,29,28,26,25,22,21,20,18,16,14,12,10,8,6,4,2,0,1,3,5,7,9,11,13,15,17,19,24,23,27,30,34,33,37,42,41,40,48]⟩,⟨some 192,.pick (.tmp 186) (.const (.bool true)) (.tmp 191),none,[44,43,39,38,36,35,32,31,29,28,26,25,22,21,20,18,16,14,12,10,8,6,4,2,0,1,3,5,7,9,11,13,15,17,19,24,23,27,30,34,33,37,42,41,40,49,47,46,45,48]⟩,⟨some 193,.mov (.tmp 192),none,[50,44,43,39,38,36,35,32,31,29,28,26,25,22,21,20,18,16,14,12,10,8,6,4,2,0,1,3,5,7,9,11,13,15,17,19,24,23,27,30,34,33,37,42,41,40,49,47,46,45,48]⟩,⟨some 194,.mov (.tmp 15),some (193,false),[51,50,44,43,39,38,36,35,32,31,29,28,26,25,22,21,20,18,16,14,12,10,8,6,4,2,0,1,3,5,7,9,11,13,15,17,19,24,23,27,30,34,33,37,42,41,40,49,47,46,45,48]⟩,⟨some 195,.lit true 1 2 (.int .i64 0) [(0,(.const (.int .i64 20))),(1,(.const (.int .i64 2)))],some (193,false),[51,50,44,43,39,38,36,35,32,31,29,28,26,25,22,21,20,18,16,14,12,10,8,6,4,2,0,1,3,5,7,9,11,13,15,17,19,24,23,27,30,34,33,37,42,41,40,49,47,46,45,48]⟩,⟨some 196,.call (.func 29) [.tmp 194,.tmp 195],some (193,false),[52,51,50,44,43,39,38,36,35,32,31,29,28,26,25,22,21,20,18,16,14,12,10,8,6,4,2,0,1,3,5,7,9,11,13,15,17,19,24,23,27,30,34,33,37,42,41,40,49,47,46,45,48,53]⟩,⟨some 197,.un .not (.tmp 196),some (193,false),[54,52,51,50,44,43,39,38,36,35,32,31,29,28,26,25,22,21,20,18,16,14,12,10,8,6,4,2,0,1,3,5,7,9,11,13,15,17,19,24,23,27,30,34,33,37,42,41,40,49,47,46,45,48,53]⟩,⟨some 198,.pick (.tmp 193) (.const (.bool true)) (.tmp 197),none,[51,50,44,43,39,38,36,35,32,31,29,28,26,25,22,21,20,18,16,14,12,10,8,6,4,2,0,1,3,5,7,9,11,13,15,17,19,24,23,27,30,34,33,37,42,41,40,49,47,46,45,48,55,54,52,53]⟩,⟨some 199,.mov (.tmp 198),none,[56,51,50,44,43,39,38,36,35,32,31,29,28,26,25,22,21,20,18,16,14,12,10,8,6,4,2,0,1,3,5,7,9,11,13,15,17,19,24,23,27,30,34,33,37,42,41,40,49,47,46,45,48,55,54,52,53]⟩,⟨some 200,.mov (.tmp 17),some (199,false),[57,56,51,50,44,43,39,38,36,35,32,31,29,28,26,25,22,21,20,18,16,14,12,10,8,6,4,2,0,1,3,5,7,9,11,13,15,17,19,24,23,27,30,34,33,37,42,41,40,49,47,46,45,48,55,54,52,53]⟩,⟨some 201,.lit true 1 2 (.int .i64 0) [(0,(.const (.int .i64 8))),(1,(.const (.int .i64 14)))],some (199,false),[57,56,51,50,44,43,39,38,36,35,32,31,29,28,26,25,22,21,20,18,16,14,12,10,8,6,4,2,0,1,3,5,7,9,11,13,15,17,19,24,23,27,30,34,33,37,42,41,40,49,47,46,45,48,55,54,52,53]⟩,⟨some 202,.call (.func 29) [.tmp 200,.tmp 201],some (199,false),[58,57,56,51,50,44,43,39,38,36,35,32,31,29,28,26,25,22,21,20,18,16,14,12,10,8,6,4,2,0,1,3,5,7,9,11,13,15,17,19,24,23,27,30,34,33,37,42,41,40,49,47,46,45,48,55,54,52,53,59]⟩,⟨some 203,.un .not (.tmp 202),some (199,false),[60,58,57,56,51,50,44,43,39,38,36,35,32,31,29,28,26,25,22,21,20,18,16,14,12,10,8,6,4,2,0,1,3,5,7,9,11,13,15,17,19,24,23,27,30,34,33,37,42,41,40,49,47,46,45,48,55,54,52,53,59]⟩,⟨some 204,.pick (.tmp 199) (.const (.bool true)) (.tmp 203),none,[57,56,51,50,44,43,39,38,36,35,32,31,29,28,26,25,22,21,20,18,16,14,12,10,8,6,4,2,0,1,3,5,7,9,11,13,15,17,19,24,23,27,30,34,33,37,42,41,40,49,47,46,45,48,55,54,52,53,61,60,58,59]⟩,⟨some 205,.mov (.tmp 204),none,[62,57,56,51,50,44,43,39,38,36,35,32,31,29,28,26,25,22,21,20,18,16,14,12,10,8,6,4,2,0,1,3,5,7,9,11,13,15,17,19,24,23,27,30,34,33,37,42,41,40,49,47,46,45,48,55,54,52,53,61,60,58,59]⟩,⟨some 206,.mov (.tmp 19),some (205,false),[63,62,57,56,51,50,44,43,39,38,36,35,32,31,29,28,26,25,22,21,20,18,16,14,12,10,8,6,4,2,0,1,3,5,7,9,11,13,15,17,19,24,23,27,30,34,33,37,42,41,40,49,47,46,45,48,55,54,52,53,61,60,58,59]⟩,⟨some 207,.bin .neq (.tmp 206) (.const (.int .i64 14)),some (205,false),[64,63,62,57,56,51,50,44,43,39,38,36,35,32,31,29,28,26,25,22,21,20,18,16,14,12,10,8,6,4,2,0,1,3,5,7,9,11,13,15,17,19,24,23,27,30,34,33,37,42,41,40,49,47,46,45,48,55,54,52,53,61,60,58,59]⟩,⟨some 208,.pick (.tmp 205) (.const (.bool true)) (.tmp 207),none,[63,62,57,56,51,50,44,43,39,38,36,35,32,31,29,28,26,25,22,21,20,18,16,14,12,10,8,6,4,2,0,1,3,5,7,9,11,13,15,17,19,24,23,27,30,34,33,37,42,41,40,49,47,46,45,48,55,54,52,53,61,60,58,59,65,64]⟩,⟨some 209,.mov (.tmp 208),none,[66,63,62,57,56,51,50,44,43,39,38,36,35,32,31,29,28,26,25,22,21,20,18,16,14,12,10,8,6,4,2,0,1,3,5,7,9,11,13,15,17,19,24,23,27,30,34,33,37,42,41,40,49,47,46,45,48,55,54,52,53,61,60,58,59,65,64]⟩,⟨some 210,.mov (.tmp 21),some (209,false),[67,66,63,62,57,56,51,50,44,43,39,38,36,35,32,31,29,28,26,25,22,21,20,18,16,14,12,10,8,6,4,2,0,1,3,5,7,9,11,13,15,17,19,24,23,27,30,34,33,37,42,41,40,49,47,46,45,48,55,54,52,53,61,60,58,59,65,64]⟩,⟨some 211,.call (.func 87) [.const (.int .i64 4),.const (.int .i64 9)],some (209,false),[67,66,63,62,57,56,51,50,44,43,39,38,36,35,32,31,29,28,26,25,22,21,20,18,16,14,12,10,8,6,4,2,0,1,3,5,7,9,11,13,15,17,19,24,23,27,30,34,33,37,42,41,40,49,47,46,45,48,55,54,52,53,61,60,58,59,65,64]⟩,⟨some 212,.lit true 2 1 (.agg [.int .i64 0,.int .i64 0]) [(0,(.tmp 211))],some (209,false),[69,67,66,63,62,57,56,51,50,44,43,39,38,36,35,32,31,29,28,26,25,22,21,20,18,16,14,12,10,8,6,4,2,0,1,3,5,7,9,11,13,15,17,19,24,23,27,30,34,33,37,42,41,40,49,47,46,45,48,55,54,52,53,61,60,58,59,65,64]⟩,⟨some 213,.call (.func 44) [.tmp 210,.tmp 212],some (209,false),[68,67,66,63,62,57,56,51,50,44,43,39,38,36,35,32,31,29,28,26,25,22,21,20,18,16,14,12,10,8,6,4,2,0,1,3,5,7,9,11,13,15,17,19,24,23,27,30,34,33,37,42,41,40,49,47,46,45,48,55,54,52,53,61,60,58,59,65,64,70,69]⟩,⟨some 214,.un .not (.tmp 213),some (209,false),[71,68,67,66,63,62,57,56,51,50,44,43,39,38,36,35,32,31,29,28,26,25,22,21,20,18,16,14,12,10,8,6,4,2,0,1,3,5,7,9,11,13,15,17,19,24,23,27,30,34,33,37,42,41,40,49,47,46,45,48,55,54,52,53,61,60,58,59,65,64,70,69]⟩,⟨some 215,.pick (.tmp 209) (.const (.bool true)) (.tmp 214),none,[67,66,63,62,57,56,51,50,44,43,39,38,36,35,32,31,29,28,26,25,22,21,20,18,16,14,12,10,8,6,4,2,0,1,3,5,7,9,11,13,15,17,19,24,23,27,30,34,33,37,42,41,40,49,47,46,45,48,55,54,52,53,61,60,58,59,65,64,72,71,68,70,69]⟩,⟨some 216,.mov (.tmp 215),none,[73,67,66,63,62,57,56,51,50,44,43,39,38,36,35,32,31,29,28,26,25,22,21,20,18,16,14,12,10,8,6,4,2,0,1,3,5,7,9,11,13,15,17,19,24,23,27,30,34,33,37,42,41,40,49,47,46,45,48,55,54,52,53,61,60,58,59,65,64,72,71,68,70,69]⟩,⟨some 217,.mov (.tmp 23),some (216,false),[74,73,67,66,63,62,57,56,51,50,44,43,39,38,36,35,32,31,29,28,26,25,22,21,20,18,16,14,12,10,8,6,4,2,0,1,3,5,7,9,11,13,15,17,19,24,23,27,30,34,33,37,42,41,40,49,47,46,45,48,55,54,52,53,61,60,58,59,65,64,72,71,68,70,69]⟩,⟨some 218,.lit true 1 2 (.int .i64 0) [(0,(.const (.int .i64 0))),(1,(.const (.int .i64 1)))],some (216,false),[74,73,67,66,63,62,57,56,51,50,44,43,39,38,36,35,32,31,29,28,26,25,22,21,20,18,16,14,12,10,8,6,4,2,0,1,3,5,7,9,11,13,15,17,19,24,23,27,30,34,33,37,42,41,40,49,47,46,45,48,55,54,52,53,61,60,58,59,65,64,72,71,68,70,69]⟩,⟨some 219,.call (.func 29) [.tmp 217,.tmp 218],some (216,false),[75,74,73,67,66,63,62,57,56,51,50,44,43,39,38,36,35,32,31,29,28,26,25,22,21,20,18,16,14,12,10,8,6,4,2,0,1,3,5,7,9,11,13,15,17,19,24,23,27,30,34,33,37,42,41,40,49,47,46,45,48,55,54,52,53,61,60,58,59,65,64,72,71,68,70,69,76]⟩,⟨some 220,.un .not (.tmp 219),some (216,false),[77,75,74,73,67,66,63,62,57,56,51,50,44,43,39,38,36,35,32,31,29,28,26,25,22,21,20,18,16,14,12,10,8,6,4,2,0,1,3,5,7,9,11,13,15,17,19,24,23,27,30,34,33,37,42,41,40,49,47,46,45,48,55,54,52,53,61,60,58,59,65,64,72,71,68,70,69,76]⟩,⟨some 221,.pick (.tmp 216) (.const (.bool true)) (.tmp 220),none,[74,73,67,66,63,62,57,56,51,50,44,43,39,38,36,35,32,31,29,28,26,25,22,21,20,18,16,14,12,10,8,6,4,2,0,1,3,5,7,9,11,13,15,17,19,24,23,27,30,34,33,37,42,41,40,49,47,46,45,48,55,54,52,53,61,60,58,59,65,64,72,71,68,70,69,78,77,75,76]⟩]) (.cond (.tmp 221) (.seq (.ops false [⟨some 0,.mov (.const (.bool false)),none,[]⟩]) .ret) .skip)) (.seq (.ops true [⟨some 223,.call (.func 84) [],none,[]⟩,⟨some 224,.load (some 3) (.tmp 2),none,[]⟩,⟨some 225,.call (.func 45) [.tmp 223,.tmp 224],none,[0,1]⟩,⟨some 222,.mov (.tmp 225),none,[2,0,1]⟩,⟨some 226,.extract (.tmp 222) 0,none,[3,2,0,1]⟩,⟨some 227,.extract (.tmp 222) 1,none,[3,2,0,1]⟩,⟨some 25,.mov (.tmp 226),none,[4,3,2,0,1]⟩,⟨some 26,.mov (.tmp 227),none,[5,3,2,0,1,6,4]⟩]) (.seq (.ops true [⟨some 229,.call (.func 84) [],none,[]⟩,⟨some 230,.load (some 3) (.tmp 1),none,[]⟩,⟨some 231,.call (.func 46) [.tmp 229,.tmp 230],none,[0,1]⟩,⟨some 228,.mov (.tmp 231),none,[2,0,1]⟩,⟨some 232,.extract (.tmp 228) 0,none,[3,2,0,1]⟩,⟨some 233,.extract (.tmp 228) 1,none,[3,2,0,1]⟩,⟨some 27,.alloc (.agg [.int .i64 0,.int .i64 0]) 2,none,[]⟩,⟨none,.store 2 (.tmp 27) (.tmp 232),none,[6,4,3,2,0,1]⟩,⟨some 28,.mov (.tmp 233),none,[5,3,2,0,1,7,6,4]⟩]) (.seq (.ops true [⟨some 235,.call (.func 84) [],none,[]⟩,⟨some 236,.load (some 3) (.tmp 2),none,[]⟩,⟨some 237,.call (.func 46) [.tmp 235,.tmp 236],none,[0,1]⟩,⟨some 234,.mov (.tmp 237),none,[2,0,1]⟩,⟨some 238,.extract (.tmp 234) 0,none,[3,2,0,1]⟩,⟨some 239,.extract (.tmp 234) 1,none,[3,2,0,1]⟩,⟨some 29,.alloc (.agg [.int .i64 0,.int .i64 0]) 2,none,[]⟩,⟨none,.store 2 (.tmp 29) (.tmp 238),none,[6,4,3,2,0,1]⟩,⟨some 30,.mov (.tmp 239),none,[5,3,2,0,1,7,6,4]⟩]) (.seq (.seq (.ops true [⟨some 240,.mov (.tmp 26),none,[]⟩,⟨some 241,.mov (.tmp 28),none,[]⟩,⟨some 242,.bin .add (.tmp 240) (.tmp 241),none,[0,1]⟩,⟨some 243,.mov (.tmp 30),none,[]⟩,⟨some 244,.bin .add (.tmp 242) (.tmp 243),none,[2,0,1,3]⟩,⟨some 245,.bin .neq (.tmp 244) (.const (.int .i64 0)),none,[4,2,0,1,3]⟩,⟨some 246,.mov (.tmp 245),none,[5,4,2,0,1,3]⟩,⟨some 247,.mov (.tmp 25),some (246,false),[6,5,4,2,0,1,3]⟩,⟨some 248,.len (.tmp 247),some (246,false),[7,6,5,4,2,0,1,3]⟩,⟨some 249,.bin .neq (.tmp 248) (.const (.int .i64 4)),some (246,false),[8,7,6,5,4,2,0,1,3]⟩,⟨some 250,.pick (.tmp 246) (.const (.bool true)) (.tmp 249),none,[6,5,4,2,0,1,3,9,8,7]⟩,⟨some 251,.mov (.tmp 250),none,[10,6,5,4,2,0,1,3,9,8,7]⟩,⟨some 252,.mov (.tmp 25),some (251,false),[11,10,6,5,4,2,0,1,3,9,8,7]⟩,⟨some 253,.iaddr 4 (.tmp 252) (.const (.int .i64 2)),some (251,false),[12,11,10,6,5,4,2,0,1,3,9,8,7]⟩,⟨some 254,.load (some 4) (.tmp 253),some (251,false),[13,12,11,10,6,5,4,2,0,1,3,9,8,7]⟩,⟨some 255,.call (.func 87) [.const (.int .i64 2),.const (.int .i64 1)],some (251,false),[11,10,6,5,4,2,0,1,3,9,8,7]⟩,⟨some 256,.call (.func 87) [.const (.int .i64 2),.const (.int .i64 1)],some (251,false),[15,11,10,6,5,4,2,0,1,3,9,8,7]⟩,⟨some 257,.build [.int .i64 0,.int .i64 0,.int .i64 0,.int .i64 0] [(0,(2,(.tmp 255))),(2,(2,(.tmp 256)))],some (251,false),[15,11,10,6,5,4,2,0,1,3,9,8,7,16]⟩,⟨some 258,.eqA true [1,1,1,1] (.tmp 254) (.tmp 257),some (251,false),[14,13,12,11,10,6,5,4,2,0,1,3,9,8,7,17,15,16]⟩,⟨some 259,.pick (.tmp 251) (.const (.bool true)) (.tmp 258),none,[11,10,6,5,4,2,0,1,3,9,8,7,18,14,13,12,17,15,16]⟩,⟨some 260,.mov (.tmp 259),none,[19,11,10,6,5,4,2,0,1,3,9,8,7,18,14,13,12,17,15,16]⟩,⟨some 261,.load (some 2) (.tmp 27),some (260,false),[20,19,11,10,6,5,4,2,0,1,3,9,8,7,18,14,13,12,17,15,16]⟩,⟨some 262,.call (.func 87) [.const (.int .i64 16),.const (.int .i64 1)],some (260,false),[20,19,11,10,6,5,4,2,0,1,3,9,8,7,18,14,13,12,17,15,16]⟩,⟨some 263,.eqA true [1,1] (.tmp 261) (.tmp 262),some (260,false),[21,20,19,11,10,6,5,4,2,0,1,3,9,8,7,18,14,13,12,17,15,16,22]⟩,⟨some 264,.pick (.tmp 260) (.const (.bool true)) (.tmp 263),none,[20,19,11,10,6,5,4,2,0,1,3,9,8,7,18,14,13,12,17,15,16,23,21,22]⟩,⟨some 265,.mov (.tmp 264),none,[24,20,19,11,10,6,5,4,2,0,1,3,9,8,7,18,14,13,12,17,15,16,23,21,22]⟩,⟨some 266,.load (some 2) (.tmp 29),some (265,false),[25,24,20,19,11,10,6,5,4,2,0,1,3,9,8,7,18,14,13,12,17,15,16,23,21,22]⟩,⟨some 267,.call (.func 87) [.const (.int .i64 8),.const (.int .i64 1)],some (265,false),[25,24,20,19,11,10,6,5,4,2,0,1,3,9,8,7,18,14,13,12,17,15,16,23,21,22]⟩,⟨some 268,.eqA true [1,1] (.tmp 266) (.tmp 267),some (265,false),[26,25,24,20,19,11,10,6,5,4,2,0,1,3,9,8,7,18,14,13,12,17,15,16,23,21,22,27]⟩,⟨some 269,.pick (.tmp 265) (.const (.bool true)) (.tmp 268),none,[25,24,20,19,11,10,6,5,4,2,0,1,3,9,8,7,18,14,13,12,17,15,16,23,21,22,28,26,27]⟩]) (.cond (.tmp 269) (.seq (.ops false [⟨some 0,.mov (.const (.bool false)),none,[]⟩]) .ret) .skip)) (.seq (.ops false [⟨some 270,.call (.func 82) [.const (.int .i64 0),.const (.int .i64 3),.const (.int .i64 4)],none,[]⟩,⟨some 31,.alloc (.agg [.int .i64 0,.int .i64 0,.int .i64 0]) 3,none,[]⟩,⟨none,.store 3 (.tmp 31) (.tmp 270),none,[]⟩]) (.seq (.ops true [⟨some 272,.call (.func 81) [.const (.int .i64 4),.const (.int .i64 (-3))],none,[]⟩,⟨some 273,.load (some 3) (.tmp 31),none,[]⟩,⟨some 274,.call (.func 55) [.tmp 272,.tmp 273],none,[0,1]⟩,⟨some 271,.mov (.tmp 274),none,[2,0,1]⟩,⟨some 275,.extract (.tmp 271) 0,none,[3,2,0,1]⟩,⟨some 276,.extract (.tmp 271) 1,none,[3,2,0,1]⟩,⟨some 32,.mov (.tmp 275),none,[4,3,2,0,1]⟩,⟨some 33,.mov (.tmp 276),none,[5,3,2,0,1,6,4]⟩]) (.seq (.ops true [⟨some 278,.call (.func 81) [.const (.int .i64 12),.const (.int .i64 0)],none,[]⟩,⟨some 279,.load (some 3) (.tmp 31),none,[]⟩,⟨some 280,.call (.func 56) [.tmp 278,.tmp 279],none,[0,1]⟩,⟨some 277,.mov (.tmp 280),none,[2,0,1]⟩,⟨some 281,.extract (.tmp 277) 0,none,[3,2,0,1]⟩,⟨some 282,.extract (.tmp 277) 1,none,[3,2,0,1]⟩,⟨some 34,.mov (.tmp 281),none,[4,3,2,0,1]⟩,⟨some 35,.mov (.tmp 282),none,[5,3,2,0,1,6,4]⟩]) (.seq (.ops true [⟨some 284,.call (.func 81) [.const (.int .i64 3),.const (.int .i64 (-4))],none,[]⟩,⟨some 285,.call (.func 81) [.const (.int .i64 12),.const (.int .i64 0)],none,[0]⟩,⟨some 286,.load (some 3) (.tmp 31),none,[]⟩,⟨some 287,.call (.func 57) [.tmp 284,.tmp 285,.tmp 286],none,[0,1,2]⟩,⟨some 283,.mov (.tmp 287),none,[3,0,1,2]⟩,⟨some 288,.extract (.tmp 283) 0,none,[4,3,0,1,2]⟩,⟨some 289,.extract (.tmp 283) 1,none,[4,3,0,1,2]⟩,⟨some 36,.mov (.tmp 288),none,[5,4,3,0,1,2]⟩,⟨some 37,.mov (.tmp 289),none,[6,4,3,0,1,2,7,5]⟩]) (.seq (.ops true [⟨some 291,.call (.func 81) [.const (.int .i64 4),.const (.int .i64 (-3))],none,[]⟩,⟨some 292,.call (.func 81) [.const (.int .i64 10),.const (.int .i64 0)],none,[0]⟩,⟨some 293,.load (some 3) (.tmp 31),none,[]⟩,⟨some 294,.call (.func 58) [.tmp 291,.tmp 292,.tmp 293],none,[0,1,2]⟩,⟨some 290,.mov (.tmp 294),none,[3,0,1,2]⟩,⟨some 295,.extract (.tmp 290) 0,none,[4,3,0,1,2]⟩,⟨some 296,.extract (.tmp 290) 1,none,[4,3,0,1,2]⟩,⟨some 38,.alloc (.agg [.int .i64 0,.int .i64 0]) 2,none,[]⟩,⟨none,.store 2 (.tmp 38) (.tmp 295),none,[7,5,4,3,0,1,2]⟩,⟨some 39,.mov (.tmp 296),none,[6,4,3,0,1,2,8,7,5]⟩]) (.seq (.ops true [⟨some 298,.call (.func 88) [],none,[]⟩,⟨some 299,.call (.func 81) [.const (.int .i64 12),.const (.int .i64 0)],none,[0]⟩,⟨some 300,.load (some 3) (.tmp 31),none,[]⟩,⟨some 301,.call (.func 65) [.tmp 298,.tmp 299,.tmp 300],none,[0,1,2]⟩,⟨some 297,.mov (.tmp 301),none,[3,0,1,2]⟩,⟨some 302,.extract (.tmp 297) 0,none,[4,3,0,1,2]⟩,⟨some 303,.extract (.tmp 297) 1,none,[4,3,0,1,2]⟩,⟨some 40,.mov (.tmp 302),none,[5,4,3,0,1,2]⟩,⟨some 41,.mov (.tmp 303),none,[6,4,3,0,1,2,7,5]⟩]) (.seq (.ops true [⟨some 305,.call (.func 88) [],none,[]⟩,⟨some 306,.call (.func 81) [.const (.int .i64 12),.const (.int .i64 0)],none,[0]⟩,⟨some 307,.load (some 3) (.tmp 31),none,[]⟩,⟨some 308,.call (.func 82) [.const (.int .i64 0),.const (.int .i64 0),.const (.int .i64 5)],none,[1,0]⟩,⟨some 309,.call (.func 82) [.const (.int .i64 0),.const (.int .i64 3),.const (.int .i64 0)],none,[3,1,0]⟩,⟨some 310,.lit true 3 3 (.agg [.int .i64 0,.int .i64 0,.int .i64 0]) [(0,(.tmp 307)),(1,(.tmp 308)),(2,(.tmp 309))],none,[2,3,1,0,4]⟩,⟨some 311,.call (.func 68) [.tmp 305,.tmp 306,.tmp 310],none,[0,1,5,2,3,4]⟩,⟨some 304,.mov (.tmp 311),none,[6,0,1,5,2,3,4]⟩,⟨some 312,.extract (.tmp 304) 0,none,[7,6,0,1,5,2,3,4]⟩,⟨some 313,.extract (.tmp 304) 1,none,[7,6,0,1,5,2,3,4]⟩,⟨some 42,.mov (.tmp 312),none,[8,7,6,0,1,5,2,3,4]⟩,⟨some 43,.mov (.tmp 313),none,[9,7,6,0,1,5,2,3,4,10,8]⟩]) (.seq (.ops true [⟨some 314,.call (.func 88) [],none,[]⟩,⟨some 315,.call (.func 81) [.const (.int .i64 12),.const (.int .i64 0)],none,[0]⟩,⟨some 316,.load (some 3) (.tmp 31),none,[]⟩,⟨some 317,.call (.func 67) [.tmp 314,.tmp 315,.tmp 316,.const (.int .i64 1)],none,[0,1,2]⟩,⟨some 44,.mov (.tmp 317),none,[3,0,1,2]⟩]) (.seq (.ops true [⟨some 318,.call (.func 88) [],none,[]⟩,⟨some 319,.call (.func 81) [.const (.int .i64 12),.const (.int .i64 0)],none,[0]⟩,⟨some 320,.load (some 3) (.tmp 31),none,[]⟩,⟨some 321,.call (.func 67) [.tmp 318,.tmp 319,.tmp 320,.const (.int .i64 0)],none,[0,1,2]⟩,⟨some 45,.mov (.tmp 321),none,[3,0,1,2]⟩]) (.seq (.ops false [⟨some 323,.call (.func 84) [],none,[]⟩,⟨some 324,.lit true 1 1 (.full []) [(0,(.tmp 323))],none,[]⟩,⟨some 325,.call (.func 75) [.tmp 324],none,[]⟩,⟨some 322,.mov (.tmp 325),none,[]⟩,⟨some 326,.extract (.tmp 322) 0,none,[]⟩,⟨some 327,.extract (.tmp 322) 1,none,[]⟩,⟨some 46,.mov (.tmp 326),none,[]⟩,⟨some 47,.mov (.tmp 327),none,[]⟩]) (.seq (.ops false [⟨some 329,.mov (.tmp 46),none,[]⟩,⟨some 330,.call (.func 76) [.tmp 329],none,[]⟩,⟨some 328,.mov (.tmp 330),none,[]⟩,⟨some 331,.extract (.tmp 328) 0,none,[]⟩,⟨some 332,.extract (.tmp 328) 1,none,[]⟩,⟨some 333,.extract (.tmp 328) 2,none,[]⟩,⟨some 48,.mov (.tmp 331),none,[]⟩,⟨some 49,.mov (.tmp 332),none,[]⟩,⟨some 50,.mov (.tmp 333),none,[]⟩]) (.seq (.ops false [⟨some 335,.call (.func 84) [],none,[]⟩,⟨some 336,.call (.func 82) [.const (.int .i64 1),.const (.int .i64 2),.const (.int .i64 0)],none,[]⟩,⟨some 337,.call (.func 47) [.tmp 335,.tmp 336],none,[]⟩,⟨some 334,.mov (.tmp 337),none,[]⟩,⟨some 338,.extract (.tmp 334) 0,none,[]⟩,⟨some 339,.extract (.tmp 334) 1,none,[]⟩,⟨some 51,.mov (.tmp 338),none,[]⟩,⟨some 52,.mov (.tmp 339),none,[]⟩]) (.seq (.ops true [⟨some 340,.mov (.tmp 33),none,[]⟩,⟨some 341,.mov (.tmp 35),none,[]⟩,⟨some 342,.bin .add (.tmp 340) (.tmp 341),none,[0,1]⟩,⟨some 343,.mov (.tmp 37),none,[]⟩,⟨some 344,.bin .add (.tmp 342) (.tmp 343),none,[2,0,1,3]⟩,⟨some 345,.mov (.tmp 39),none,[]⟩,⟨some 346,.bin .add (.tmp 344) (.tmp 345),none,[4,2,0,1,3,5]⟩,⟨some 347,.mov (.tmp 41),none,[]⟩,⟨some 348,.bin .add (.tmp 346) (.tmp 347),none,[6,4,2,0,1,3,5,7]⟩,⟨some 349,.mov (.tmp 43),none,[]⟩,⟨some 350,.bin .add (.tmp 348) (.tmp 349),none,[8,6,4,2,0,1,3,5,7,9]⟩,⟨some 351,.mov (.tmp 47),none,[]⟩,⟨some 352,.bin .add (.tmp 350) (.tmp 351),none,[10,8,6,4,2,0,1,3,5,7,9,11]⟩,⟨some 353,.mov (.tmp 50),none,[]⟩,⟨some 354,.bin .add (.tmp 352) (.tmp 353),none,[12,10,8,6,4,2,0,1,3,5,7,9,11,13]⟩,⟨some 355,.mov (.tmp 52),none,[]⟩,⟨some 356,.bin .add (.tmp 354) (.tmp 355),none,[14,12,10,8,6,4,2,0,1,3,5,7,9,11,13,15]⟩,⟨some 357,.bin .eql (.tmp 356) (.const (.int .i64 0)),none,[16,14,12,10,8,6,4,2,0,1,3,5,7,9,11,13,15]⟩,⟨some 358,.mov (.tmp 357),none,[17,16,14,12,10,8,6,4,2,0,1,3,5,7,9,11,13,15]⟩,⟨some 359,.mov (.tmp 44),some (358,true),[18,17,16,14,12,10,8,6,4,2,0,1,3,5,7,9,11,13,15]⟩,⟨some 360,.bin .eql (.tmp 359) (.const (.int .i64 32)),some (358,true),[19,18,17,16,14,12,10,8,6,4,2,0,1,3,5,7,9,11,13,15]⟩,⟨some 361,.pick (.tmp 358) (.tmp 360) (.const (.bool false)),none,[18,17,16,14,12,10,8,6,4,2,0,1,3,5,7,9,11,13,15,20,19]⟩,⟨some 362,.mov (.tmp 361),none,[21,18,17,16,14,12,10,8,6,4,2,0,1,3,5,7,9,11,13,15,20,19]⟩,⟨some 363,.mov (.tmp 45),some (362,true),[22,21,18,17,16,14,12,10,8,6,4,2,0,1,3,5,7,9,11,13,15,20,19]⟩,⟨some 364,.bin .eql (.tmp 363) (.const (.int .i64 19)),some (362,true),[23,22,21,18,17,16,14,12,10,8,6,4,2,0,1,3,5,7,9,11,13,15,20,19]⟩,⟨some 365,.pick (.tmp 362) (.tmp 364) (.const (.bool false)),none,[22,21,18,17,16,14,12,10,8,6,4,2,0,1,3,5,7,9,11,13,15,20,19,24,23]⟩,⟨some 366,.mov (.tmp 365),none,[25,22,21,18,17,16,14,12,10,8,6,4,2,0,1,3,5,7,9,11,13,15,20,19,24,23]⟩,⟨some 367,.mov (.tmp 32),some (366,true),[26,25,22,21,18,17,16,14,12,10,8,6,4,2,0,1,3,5,7,9,11,13,15,20,19,24,23]⟩,⟨some 368,.bin .eql (.tmp 367) (.const (.int .i64 25)),some (366,true),[27,26,25,22,21,18,17,16,14,12,10,8,6,4,2,0,1,3,5,7,9,11,13,15,20,19,24,23]⟩,⟨some 369,.pick (.tmp 366) (.tmp 368) (.const (.bool false)),none,[26,25,22,21,18,17,16,14,12,10,8,6,4,2,0,1,3,5,7,9,11,13,15,20,19,24,23,28,27]⟩,⟨some 370,.mov (.tmp 369),none,[29,26,25,22,21,18,17,16,14,12,10,8,6,4,2,0,1,3,5,7,9,11,13,15,20,19,24,23,28,27]⟩,⟨some 371,.mov (.tmp 34),some (370,true),[30,29,26,25,22,21,18,17,16,14,12,10,8,6,4,2,0,1,3,5,7,9,11,13,15,20,19,24,23,28,27]⟩,⟨some 372,.bin .eql (.tmp 371) (.const (.int .i64 48)),some (370,true),[31,30,29,26,25,22,21,18,17,16,14,12,10,8,6,4,2,0,1,3,5,7,9,11,13,15,20,19,24,23,28,27]⟩,⟨some 373,.pick (.tmp 370) (.tmp 372) (.const (.bool false)),none,[30,29,26,25,22,21,18,17,16,14,12,10,8,6,4,2,0,1,3,5,7,9,11,13,15,20,19,24,23,28,27,32,31]⟩,⟨some 374,.mov (.tmp 373),none,[33,30,29,26,25,22,21,18,17,16,14,12,10,8,6,4,2,0,1,3,5,7,9,11,13,15,20,19,24,23,28,27,32,31]⟩,⟨some 375,.mov (.tmp 36),some (374,true),[34,33,30,29,26,25,22,21,18,17,16,14,12,10,8,6,4,2,0,1,3,5,7,9,11,13,15,20,19,24,23,28,27,32,31]⟩,⟨some 376,.pick (.tmp 374) (.tmp 375) (.const (.bool false)),none,[34,33,30,29,26,25,22,21,18,17,16,14,12,10,8,6,4,2,0,1,3,5,7,9,11,13,15,20,19,24,23,28,27,32,31,35]⟩,⟨some 377,.mov (.tmp 376),none,[36,34,33,30,29,26,25,22,21,18,17,16,14,12,10,8,6,4,2,0,1,3,5,7,9,11,13,15,20,19,24,23,28,27,32,31,35]⟩,⟨some 378,.load (some 2) (.tmp 38),some (377,true),[37,36,34,33,30,29,26,25,22,21,18,17,16,14,12,10,8,6,4,2,0,1,3,5,7,9,11,13,15,20,19,24,23,28,27,32,31,35]⟩,⟨some 379,.call (.func 87) [.const (.int .i64 1),.const (.int .i64 5)],some (377,true),[37,36,34,33,30,29,26,25,22,21,18,17,16,14,12,10,8,6,4,2,0,1,3,5,7,9,11,13,15,20,19,24,23,28,27,32,31,35]⟩,⟨some 380,.eqA false [1,1] (.tmp 378) (.tmp 379),some (377,true),[38,37,36,34,33,30,29,26,25,22,21,18,17,16,14,12,10,8,6,4,2,0,1,3,5,7,9,11,13,15,20,19,24,23,28,27,32,31,35,39]⟩,⟨some 381,.pick (.tmp 377) (.tmp 380) (.const (.bool false)),none,[37,36,34,33,30,29,26,25,22,21,18,17,16,14,12,10,8,6,4,2,0,1,3,5,7,9,11,13,15,20,19,24,23,28,27,32,31,35,40,38,39]⟩,⟨some 382,.mov (.tmp 381),none,[41,37,36,34,33,30,29,26,25,22,21,18,17,16,14,12,10,8,6,4,2,0,1,3,5,7,9,11,13,15,20,19,24,23,28,27,32,31,35,40,38,39]⟩,⟨some 383,.mov (.tmp 40),some (382,true),[42,41,37,36,34,33,30,29,26,25,22,21,18,17,16,14,12,10,8,6,4,2,0,1,3,5,7,9,11,13,15,20,19,24,23,28,27,32,31,35,40,38,39]⟩,⟨some 384,.bin .eql (.tmp 383) (.const (.int .i64 2)),some (382,true),[43,42,41,37,36,34,33,30,29,26,25,22,21,18,17,16,14,12,10,8,6,4,2,0,1,3,5,7,9,11,13,15,20,19,24,23,28,27,32,31,35,40,38,39]⟩,⟨some 385,.pick (.tmp 382) (.tmp 384) (.const (.bool false)),none,[42,41,37,36,34,33,30,29,26,25,22,21,18,17,16,14,12,10,8,6,4,2,0,1,3,5,7,9,11,13,15,20,19,24,23,28,27,32,31,35,40,38,39,44,43]⟩,⟨some 386,.mov (.tmp 385),none,[45,42,41,37,36,34,33,30,29,26,25,22,21,18,17,16,14,12,10,8,6,4,2,0,1,3,5,7,9,11,13,15,20,19,24,23,28,27,32,31,35,40,38,39,44,43]⟩,⟨some 387,.mov (.tmp 42),some (386,true),[46,45,42,41,37,36,34,33,30,29,26,25,22,21,18,17,16,14,12,10,8,6,4,2,0,1,3,5,7,9,11,13,15,20,19,24,23,28,27,32,31,35,40,38,39,44,43]⟩,⟨some 388,.lit true 1 3 (.int .i64 0) [(0,(.const (.int .i64 2))),(1,(.const (.int .i64 0))),(2,(.const (.int .i64 (-1))))],some (386,true),[46,45,42,41,37,36,34,33,30,29,26,25,22,21,18,17,16,14,12,10,8,6,4,2,0,1,3,5,7,9,11,13,15,20,19,24,23,28,27,32,31,35,40,38,39,44,43]⟩,⟨some 389,.call (.func 29) [.tmp 387,.tmp 388],some (386,true),[47,46,45,42,41,37,36,34,33,30,29,26,25,22,21,18,17,16,14,12,10,8,6,4,2,0,1,3,5,7,9,11,13,15,20,19,24,23,28,27,32,31,35,40,38,39,44,43,48]⟩,⟨some 390,.pick (.tmp 386) (.tmp 389) (.const (.bool false)),none,[46,45,42,41,37,36,34,33,30,29,26,25,22,21,18,17,16,14,12,10,8,6,4,2,0,1,3,5,7,9,11,13,15,20,19,24,23,28,27,32,31,35,40,38,39,44,43,49,47,48]⟩,⟨some 391,.mov (.tmp 390),none,[50,46,45,42,41,37,36,34,33,30,29,26,25,22,21,18,17,16,14,12,10,8,6,4,2,0,1,3,5,7,9,11,13,15,20,19,24,23,28,27,32,31,35,40,38,39,44,43,49,47,48]⟩,⟨some 392,.mov (.tmp 46),some (391,true),[51,50,46,45,42,41,37,36,34,33,30,29,26,25,22,21,18,17,16,14,12,10,8,6,4,2,0,1,3,5,7,9,11,13,15,20,19,24,23,28,27,32,31,35,40,38,39,44,43,49,47,48]⟩,⟨some 393,.bin .eql (.tmp 392) (.const (.string ⟨#[115,104,97,112,101,32,48,32,48,32,48,32,52,32,48,32,48,32,52,32,48,32,52,32,48,32,48,32,52,10]⟩)),some (391,true),[52,51,50,46,45,42,41,37,36,34,33,30,29,26,25,22,21,18,17,16,14,12,10,8,6,4,2,0,1,3,5,7,9,11,13,15,20,19,24,23,28,27,32,31,35,40,38,39,44,43,49,47,48]⟩,⟨some 394,.pick (.tmp 391) (.tmp 393) (.const (.bool false)),none,[51,50,46,45,42,41,37,36,34,33,30,29,26,25,22,21,18,17,16,14,12,10,8,6,4,2,0,1,3,5,7,9,11,13,15,20,19,24,23,28,27,32,31,35,40,38,39,44,43,49,47,48,53,52]⟩,⟨some 395,.mov (.tmp 394),none,[54,51,50,46,45,42,41,37,36,34,33,30,29,26,25,22,21,18,17,16,14,12,10,8,6,4,2,0,1,3,5,7,9,11,13,15,20,19,24,23,28,27,32,31,35,40,38,39,44,43,49,47,48,53,52]⟩,⟨some 396,.mov (.tmp 49),some (395,true),[55,54,51,50,46,45,42,41,37,36,34,33,30,29,26,25,22,21,18,17,16,14,12,10,8,6,4,2,0,1,3,5,7,9,11,13,15,20,19,24,23,28,27,32,31,35,40,38,39,44,43,49,47,48,53,52]⟩,⟨some 397,.bin .eql (.tmp 396) (.const (.int .i64 0)),some (395,true),[56,55,54,51,50,46,45,42,41,37,36,34,33,30,29,26,25,22,21,18,17,16,14,12,10,8,6,4,2,0,1,3,5,7,9,11,13,15,20,19,24,23,28,27,32,31,35,40,38,39,44,43,49,47,48,53,52]⟩,⟨some 398,.pick (.tmp 395) (.tmp 397) (.const (.bool false)),none,[55,54,51,50,46,45,42,41,37,36,34,33,30,29,26,25,22,21,18,17,16,14,12,10,8,6,4,2,0,1,3,5,7,9,11,13,15,20,19,24,23,28,27,32,31,35,40,38,39,44,43,49,47,48,53,52,57,56]⟩,⟨some 399,.mov (.tmp 398),none,[58,55,54,51,50,46,45,42,41,37,36,34,33,30,29,26,25,22,21,18,17,16,14,12,10,8,6,4,2,0,1,3,5,7,9,11,13,15,20,19,24,23,28,27,32,31,35,40,38,39,44,43,49,47,48,53,52,57,56]⟩,⟨some 400,.mov (.tmp 48),some (399,true),[59,58,55,54,51,50,46,45,42,41,37,36,34,33,30,29,26,25,22,21,18,17,16,14,12,10,8,6,4,2,0,1,3,5,7,9,11,13,15,20,19,24,23,28,27,32,31,35,40,38,39,44,43,49,47,48,53,52,57,56]⟩,⟨some 401,.call (.func 84) [],some (399,true),[59,58,55,54,51,50,46,45,42,41,37,36,34,33,30,29,26,25,22,21,18,17,16,14,12,10,8,6,4,2,0,1,3,5,7,9,11,13,15,20,19,24,23,28,27,32,31,35,40,38,39,44,43,49,47,48,53,52,57,56]⟩,⟨some 402,.lit true 1 1 (.full []) [(0,(.tmp 401))],some (399,true),[61,59,58,55,54,51,50,46,45,42,41,37,36,34,33,30,29,26,25,22,21,18,17,16,14,12,10,8,6,4,2,0,1,3,5,7,9,11,13,15,20,19,24,23,28,27,32,31,35,40,38,39,44,43,49,47,48,53,52,57,56]⟩,⟨some 403,.call (.func 79) [.tmp 400,.tmp 402],some (399,true),[60,59,58,55,54,51,50,46,45,42,41,37,36,34,33,30,29,26,25,22,21,18,17,16,14,12,10,8,6,4,2,0,1,3,5,7,9,11,13,15,20,19,24,23,28,27,32,31,35,40,38,39,44,43,49,47,48,53,52,57,56,62,61]⟩,⟨some 404,.pick (.tmp 399) (.tmp 403) (.const (.bool false)),none,[59,58,55,54,51,50,46,45,42,41,37,36,34,33,30,29,26,25,22,21,18,17,16,14,12,10,8,6,4,2,0,1,3,5,7,9,11,13,15,20,19,24,23,28,27,32,31,35,40,38,39,44,43,49,47,48,53,52,57,56,63,60,62,61]⟩,⟨some 405,.mov (.tmp 404),none,[64,59,58,55,54,51,50,46,45,42,41,37,36,34,33,30,29,26,25,22,21,18,17,16,14,12,10,8,6,4,2,0,1,3,5,7,9,11,13,15,20,19,24,23,28,27,32,31,35,40,38,39,44,43,49,47,48,53,52,57,56,63,60,62,61]⟩,⟨some 406,.mov (.tmp 51),some (405,true),[65,64,59,58,55,54,51,50,46,45,42,41,37,36,34,33,30,29,26,25,22,21,18,17,16,14,12,10,8,6,4,2,0,1,3,5,7,9,11,13,15,20,19,24,23,28,27,32,31,35,40,38,39,44,43,49,47,48,53,52,57,56,63,60,62,61]⟩,⟨some 407,.len (.tmp 406),some (405,true),[66,65,64,59,58,55,54,51,50,46,45,42,41,37,36,34,33,30,29,26,25,22,21,18,17,16,14,12,10,8,6,4,2,0,1,3,5,7,9,11,13,15,20,19,24,23,28,27,32,31,35,40,38,39,44,43,49,47,48,53,52,57,56,63,60,62,61]⟩,⟨some 408,.bin .eql (.tmp 407) (.const (.int .i64 4)),some (405,true),[67,66,65,64,59,58,55,54,51,50,46,45,42,41,37,36,34,33,30,29,26,25,22,21,18,17,16,14,12,10,8,6,4,2,0,1,3,5,7,9,11,13,15,20,19,24,23,28,27,32,31,35,40,38,39,44,43,49,47,48,53,52,57,56,63,60,62,61]⟩,⟨some 409,.pick (.tmp 405) (.tmp 408) (.const (.bool false)),none,[65,64,59,58,55,54,51,50,46,45,42,41,37,36,34,33,30,29,26,25,22,21,18,17,16,14,12,10,8,6,4,2,0,1,3,5,7,9,11,13,15,20,19,24,23,28,27,32,31,35,40,38,39,44,43,49,47,48,53,52,57,56,63,60,62,61,68,67,66]⟩,⟨some 410,.mov (.tmp 409),none,[69,65,64,59,58,55,54,51,50,46,45,42,41,37,36,34,33,30,29,26,25,22,21,18,17,16,14,12,10,8,6,4,2,0,1,3,5,7,9,11,13,15,20,19,24,23,28,27,32,31,35,40,38,39,44,43,49,47,48,53,52,57,56,63,60,62,61,68,67,66]⟩,⟨some 411,.mov (.tmp 51),some (410,true),[70,69,65,64,59,58,55,54,51,50,46,45,42,41,37,36,34,33,30,29,26,25,22,21,18,17,16,14,12,10,8,6,4,2,0,1,3,5,7,9,11,13,15,20,19,24,23,28,27,32,31,35,40,38,39,44,43,49,47,48,53,52,57,56,63,60,62,61,68,67,66]⟩,⟨some 412,.iaddr 3 (.tmp 411) (.const (.int .i64 2)),some (410,true),[71,70,69,65,64,59,58,55,54,51,50,46,45,42,41,37,36,34,33,30,29,26,25,22,21,18,17,16,14,12,10,8,6,4,2,0,1,3,5,7,9,11,13,15,20,19,24,23,28,27,32,31,35,40,38,39,44,43,49,47,48,53,52,57,56,63,60,62,61,68,67,66]⟩,⟨some 413,.load (some 3) (.tmp 412),some (410,true),[72,71,70,69,65,64,59,58,55,54,51,50,46,45,42,41,37,36,34,33,30,29,26,25,22,21,18,17,16,14,12,10,8,6,4,2,0,1,3,5,7,9,11,13,15,20,19,24,23,28,27,32,31,35,40,38,39,44,43,49,47,48,53,52,57,56,63,60,62,61,68,67,66]⟩,⟨some 414,.call (.func 82) [.const (.int .i64 5),.const (.int .i64 2),.const (.int .i64 4)],some (410,true),[70,69,65,64,59,58,55,54,51,50,46,45,42,41,37,36,34,33,30,29,26,25,22,21,18,17,16,14,12,10,8,6,4,2,0,1,3,5,7,9,11,13,15,20,19,24,23,28,27,32,31,35,40,38,39,44,43,49,47,48,53,52,57,56,63,60,62,61,68,67,66]⟩,⟨some 415,.eqA false [1,1,1] (.tmp 413) (.tmp 414),some (410,true),[73,72,71,70,69,65,64,59,58,55,54,51,50,46,45,42,41,37,36,34,33,30,29,26,25,22,21,18,17,16,14,12,10,8,6,4,2,0,1,3,5,7,9,11,13,15,20,19,24,23,28,27,32,31,35,40,38,39,44,43,49,47,48,53,52,57,56,63,60,62,61,68,67,66,74]⟩,⟨some 416,.pick (.tmp 410) (.tmp 415) (.const (.bool false)),none,[70,69,65,64,59,58,55,54,51,50,46,45,42,41,37,36,34,33,30,29,26,25,22,21,18,17,16,14,12,10,8,6,4,2,0,1,3,5,7,9,11,13,15,20,19,24,23,28,27,32,31,35,40,38,39,44,43,49,47,48,53,52,57,56,63,60,62,61,68,67,66,75,73,72,71,74]⟩,⟨some 0,.mov (.tmp 416),none,[76,70,69,65,64,59,58,55,54,51,50,46,45,42,41,37,36,34,33,30,29,26,25,22,21,18,17,16,14,12,10,8,6,4,2,0,1,3,5,7,9,11,13,15,20,19,24,23,28,27,32,31,35,40,38,39,44,43,49,47,48,53,52,57,56,63,60,62,61,68,67,66,75,73,72,71,74]⟩]) .ret))))))))))))))))))))))))))))))⟩
theorem dh14 : cProg Go.Proofs.Tryz.prog ⟨[], [], [100, 109, 118, 126, 129, 136, 195, 201, 212, 218, 310, 324, 388, 402]⟩ 14 = some dc14 := by kernel_rfl
end Sh

set_option maxRecDepth 100000
set_option linter.unusedSimpArgs false
set_option linter.unusedVariables false
namespace Sh
open Go Go.Proofs
def lowL : List V3 := [⟨2, 0, 0⟩, ⟨6, 0, 0⟩, ⟨6, 0, 2⟩, ⟨2, 0, 2⟩]
def sA : V3 := ⟨0, -1, 1⟩
def sB : V3 := ⟨1, -1, 2⟩
def sC : V3 := ⟨0, 3, 4⟩
def gL : List Pt := [⟨0, 1⟩, ⟨1, 1⟩, ⟨2, 1⟩, ⟨3, 1⟩, ⟨4, 1⟩, ⟨0, 2⟩, ⟨1, 2⟩, ⟨2, 2⟩, ⟨3, 2⟩, ⟨4, 2⟩, ⟨0, 3⟩, ⟨1, 3⟩, ⟨2, 3⟩, ⟨3, 3⟩, ⟨4, 3⟩, ⟨0, 4⟩, ⟨1, 4⟩, ⟨2, 4⟩, ⟨3, 4⟩, ⟨4, 4⟩]
def oL : List ((Int × Int) × (Int × Int)) := [((0, 1), 0, 1), ((4, 1), 0, 1), ((2, 1), 2, 1), ((-2, 1), 2, 1)]
def mvL : List V3 := [⟨1, 2, 0⟩, ⟨5, 2, 0⟩, ⟨5, 2, 4⟩, ⟨1, 2, 4⟩]
def txL : List UInt8 := [115, 104, 97, 112, 101, 32, 48, 32, 48, 32, 48, 32, 52, 32, 48, 32, 48, 32, 52, 32, 48, 32, 52, 32, 48, 32, 48, 32, 52, 10]
theorem one_len : ∀ s ∈ [wallL], s.length < 1073741824 := fun s h => by simp at h; subst h; decide
theorem two_len : ∀ s ∈ [wallL, lowL], s.length < 1073741824 := fun s h => by simp at h; rcases h with rfl | rfl <;> decide
theorem two_len' : ∀ s ∈ [lowL, wallL], s.length < 1073741824 := fun s h => by simp at h; rcases h with rfl | rfl <;> decide
theorem v1 : hdS wallL sA ⟨2, 4⟩ = (true, 0) := by kernel_rfl
theorem v2 : hdS wallL sA ⟨2, 5⟩ = (false, 0) := by kernel_rfl
theorem v3 : hdS wallL sA ⟨2, -1⟩ = (false, 0) := by kernel_rfl
theorem v4 : hdS wallL sB ⟨0, 2⟩ = (true, 0) := by kernel_rfl
theorem v5 : hdS wallL sB ⟨4, 1⟩ = (false, 0) := by kernel_rfl
theorem v6 : shS wallL sA sqrB = (gL, 0) := by kernel_rfl
theorem v7 : cuS [wallL, lowL] sA sqrB = ([20, 2], 0) := by kernel_rfl
theorem v8 : cuS [lowL, wallL] sA sqrB = ([8, 14], 0) := by kernel_rfl
theorem v9 : lgS [wallL, lowL] sA sqrB = (14, 0) := by kernel_rfl
theorem v10 : srS [wallL] sA [sqrB] = ([(4, 9)], 0) := by kernel_rfl
theorem v11 : hgS [wallL, lowL] sA ⟨3, 1⟩ = ([0, 1], 0) := by kernel_rfl
theorem v12 : olS wallL sB = (oL, 0) := by kernel_rfl
theorem v13 : arS wallL sA = ((16, 1), 0) := by kernel_rfl
theorem v14 : arS wallL sB = ((8, 1), 0) := by kernel_rfl
theorem v15 : gnS ⟨4, -3⟩ sC = (25, 0) := by kernel_rfl
theorem v16 : rmS ⟨12, 0⟩ sC = (48, 0) := by kernel_rfl
theorem v17 : frS ⟨3, -4⟩ ⟨12, 0⟩ sC = (true, 0) := by kernel_rfl
theorem v18 : sdS ⟨4, -3⟩ ⟨10, 0⟩ sC = ((1, 5), 0) := by kernel_rfl
theorem v19 : rlS tiltL ⟨12, 0⟩ sC = (2, 0) := by kernel_rfl
theorem v20 : tkS tiltL ⟨12, 0⟩ [sC, ⟨0, 0, 5⟩, ⟨0, 3, 0⟩] = ([2, 0, -1], 0) := by kernel_rfl
theorem v21 : crS tiltL ⟨12, 0⟩ sC 1 = 32 := by kernel_rfl
theorem v22 : crS tiltL ⟨12, 0⟩ sC 0 = 19 := by kernel_rfl
theorem v23 : prtS [wallL] = (txL, 0) := by kernel_rfl
theorem v24 : parS txL = ([wallL], 0, 0) := by kernel_rfl
theorem v25 : mvS wallL ⟨1, 2, 0⟩ = (mvL, 0) := by kernel_rfl
theorem k1 : PC 15 [shp wallL, encV sA, encPt ⟨2, 4⟩] (.tuple [.bool true, DV.int .i64 (0)]) := by have := c_Hides wallL sA ⟨2, 4⟩ (by decide); rwa [v1] at this
theorem k2 : PC 15 [shp wallL, encV sA, encPt ⟨2, 5⟩] (.tuple [.bool false, DV.int .i64 (0)]) := by have := c_Hides wallL sA ⟨2, 5⟩ (by decide); rwa [v2] at this
theorem k3 : PC 15 [shp wallL, encV sA, encPt ⟨2, -1⟩] (.tuple [.bool false, DV.int .i64 (0)]) := by have := c_Hides wallL sA ⟨2, -1⟩ (by decide); rwa [v3] at this
theorem k4 : PC 15 [shp wallL, encV sB, encPt ⟨0, 2⟩] (.tuple [.bool true, DV.int .i64 (0)]) := by have := c_Hides wallL sB ⟨0, 2⟩ (by decide); rwa [v4] at this
theorem k5 : PC 15 [shp wallL, encV sB, encPt ⟨4, 1⟩] (.tuple [.bool false, DV.int .i64 (0)]) := by have := c_Hides wallL sB ⟨4, 1⟩ (by decide); rwa [v5] at this
theorem k6 : PC 31 [shp wallL, encV sA, encB sqrB] (.tuple [pts gL, DV.int .i64 (0)]) := by have := c_Shadow wallL sA sqrB (by decide); rwa [v6] at this
theorem k7 : PC 32 [shps [wallL, lowL], encV sA, encB sqrB] (.tuple [iL [20, 2], DV.int .i64 (0)]) := by have := c_Cut [wallL, lowL] sA sqrB (by decide) two_len; rwa [v7] at this
theorem k8 : PC 32 [shps [lowL, wallL], encV sA, encB sqrB] (.tuple [iL [8, 14], DV.int .i64 (0)]) := by have := c_Cut [lowL, wallL] sA sqrB (by decide) two_len'; rwa [v8] at this
theorem k9 : PC 33 [shps [wallL, lowL], encV sA, encB sqrB] (.tuple [DV.int .i64 (14), DV.int .i64 (0)]) := by have := c_Light [wallL, lowL] sA sqrB (by decide) two_len; rwa [v9] at this
theorem k10 : PC 34 [shps [wallL], encV sA, cels [sqrB]] (.tuple [rats [(4, 9)], DV.int .i64 (0)]) := by have := c_Shares [wallL] sA [sqrB] (by decide) one_len (by decide); rwa [v10] at this
theorem k11 : PC 18 [shps [wallL, lowL], encV sA, encPt ⟨3, 1⟩] (.tuple [iL [0, 1], DV.int .i64 (0)]) := by have := c_Hiding [wallL, lowL] sA ⟨3, 1⟩ (by decide) two_len; rwa [v11] at this
theorem k12 : PC 45 [shp wallL, encV sB] (.tuple [crns oL, DV.int .i64 (0)]) := by have := c_Outline wallL sB (by decide); rwa [v12] at this
theorem k13 : PC 46 [shp wallL, encV sA] (.tuple [encR (16, 1), DV.int .i64 (0)]) := by have := c_Area wallL sA (by decide); rwa [v13] at this
theorem k14 : PC 46 [shp wallL, encV sB] (.tuple [encR (8, 1), DV.int .i64 (0)]) := by have := c_Area wallL sB (by decide); rwa [v14] at this
theorem k15 : PC 55 [encPt ⟨4, -3⟩, encV sC] (.tuple [DV.int .i64 (25), DV.int .i64 (0)]) := by have := c_Gain ⟨4, -3⟩ sC; rwa [v15] at this
theorem k16 : PC 56 [encPt ⟨12, 0⟩, encV sC] (.tuple [DV.int .i64 (48), DV.int .i64 (0)]) := by have := c_Room ⟨12, 0⟩ sC; rwa [v16] at this
theorem k17 : PC 57 [encPt ⟨3, -4⟩, encPt ⟨12, 0⟩, encV sC] (.tuple [.bool true, DV.int .i64 (0)]) := by have := c_Free ⟨3, -4⟩ ⟨12, 0⟩ sC; rwa [v17] at this
theorem k18 : PC 58 [encPt ⟨4, -3⟩, encPt ⟨10, 0⟩, encV sC] (.tuple [encR (1, 5), DV.int .i64 (0)]) := by have := c_Shaded ⟨4, -3⟩ ⟨10, 0⟩ sC; rwa [v18] at this
theorem k19 : PC 65 [pts tiltL, encPt ⟨12, 0⟩, encV sC] (.tuple [DV.int .i64 (2), DV.int .i64 (0)]) := by have := c_Rule tiltL ⟨12, 0⟩ sC (by decide); rwa [v19] at this
theorem k20 : PC 68 [pts tiltL, encPt ⟨12, 0⟩, .list ([sC, ⟨0, 0, 5⟩, ⟨0, 3, 0⟩].map encV)] (.tuple [iL [2, 0, -1], DV.int .i64 (0)]) := by have := c_Tracked tiltL ⟨12, 0⟩ [sC, ⟨0, 0, 5⟩, ⟨0, 3, 0⟩] (by decide) (by decide); rwa [v20] at this
theorem k21 : PC 67 [pts tiltL, encPt ⟨12, 0⟩, encV sC, DV.int .i64 (1)] (DV.int .i64 (32)) := by have := c_CheckRule tiltL ⟨12, 0⟩ sC 1 (by decide); rwa [v21] at this
theorem k22 : PC 67 [pts tiltL, encPt ⟨12, 0⟩, encV sC, DV.int .i64 (0)] (DV.int .i64 (19)) := by have := c_CheckRule tiltL ⟨12, 0⟩ sC 0 (by decide); rwa [v22] at this
theorem k23 : PC 75 [shps [wallL]] (.tuple [.str txL, DV.int .i64 (0)]) := by have := c_Print [wallL] (by decide) one_len; rwa [v23] at this
theorem k24 : PC 76 [.str txL] (.tuple [shps [wallL], DV.int .i64 (0), DV.int .i64 (0)]) := by have := c_Parse txL (by decide); rwa [v24] at this
theorem k25 : PC 47 [shp wallL, encV ⟨1, 2, 0⟩] (.tuple [shp mvL, DV.int .i64 (0)]) := by have := c_Moved wallL ⟨1, 2, 0⟩ (by decide); rwa [v25] at this
end Sh

set_option maxRecDepth 100000
set_option linter.unusedSimpArgs false
set_option linter.unusedVariables false
namespace Sh
open Go Go.Proofs
theorem q_SameInts (a b : List Int) (hl : a.length < 4611686018427387904) : PC 29 [iL a, iL b] (.bool (decide (a = b))) := by
 have e0 : ((a.map (DV.int .i64)).length : Int) = a.length := by simp
 have e1 : ((b.map (DV.int .i64)).length : Int) = b.length := by simp
 refine pureCall_ofR dh29 rfl ?_
 conv => whnf
 repeat' (first
  |(refine ⟨fun hg => ?_, fun hg => ?_⟩ <;> first | contradiction | (conv => whnf))
  |(refine Or.inl ?_; conv => whnf)
  |(refine And.intro ?_ ?_; kernel_rfl; conv => whnf))
 ·have hg := of_decide_eq_true hg
  rw [e0, e1] at hg
  exact bool_eq (by symm; rw [decide_eq_false_iff_not]; intro e; rw [e] at hg; exact hg rfl)
 ·have hg := of_decide_eq_false hg
  rw [e0, e1] at hg
  have hab : a.length = b.length := by omega
  refine dwp_loopR (P := Tryz.prog) (G := GC) (k := dk29_0) (b := db29_0) (α := Nat) (fun i => [(0, iL a), (1, iL b), (5, DV.int .i64 (i))]) (fun _ => []) (fun i => i ≤ a.length ∧ a.take i = b.take i) (fun i => a.length - i) 0 ⟨rfl, rfl, rfl⟩ ⟨Nat.zero_le _, rfl⟩ ?_
  intro i ⟨h1, h2⟩
  conv => whnf
  refine ⟨fun hb => ?_, fun hb => ?_⟩
  ·have hi : i < a.length := by simpa using hb
   conv => whnf
   rw [getD_enc _ _ (i) 0 hi]
   refine ⟨idxA hi rfl, ?_⟩
   conv => whnf
   rw [getD_enc _ _ (i) 0 (by omega : i < b.length)]
   refine ⟨idxA (by omega : i < b.length) rfl, ?_⟩
   conv => whnf
   repeat' (first
    |(refine ⟨fun hg => ?_, fun hg => ?_⟩ <;> first | contradiction | (conv => whnf))
    |(refine Or.inl ?_; conv => whnf)
    |(refine And.intro ?_ ?_; kernel_rfl; conv => whnf))
   ·have hg := of_decide_eq_true hg
    exact bool_eq (by symm; rw [decide_eq_false_iff_not]; intro e; rw [e] at hg; exact hg rfl)
   ·have hg := Classical.not_not.1 (of_decide_eq_false hg)
    rw [wrap_succ i (by omega)]
    exact ⟨i + 1, rfl, rfl, rfl, ⟨hi, by rw [take_snoc a i 0 hi, take_snoc b i 0 (by omega), h2, hg]⟩, by omega⟩
  ·have hi : i = a.length := by have := of_decide_eq_false hb; rw [e0] at this; omega
   conv => whnf
   refine bool_eq ?_
   symm
   rw [decide_eq_true_eq]
   rw [hi, List.take_length, hab, List.take_length] at h2
   exact h2
end Sh

set_option maxRecDepth 100000
set_option maxHeartbeats 8000000
set_option linter.unusedSimpArgs false
set_option linter.unusedVariables false
namespace Sh
open Go Go.Proofs
theorem j1 : PC 29 [iL [20, 2], iL [20, 2]] (.bool true) := by have := q_SameInts [20, 2] [20, 2] (by decide); rwa [decide_eq_true rfl] at this
theorem j2 : PC 29 [iL [8, 14], iL [8, 14]] (.bool true) := by have := q_SameInts [8, 14] [8, 14] (by decide); rwa [decide_eq_true rfl] at this
theorem j3 : PC 29 [iL [0, 1], iL [0, 1]] (.bool true) := by have := q_SameInts [0, 1] [0, 1] (by decide); rwa [decide_eq_true rfl] at this
theorem j4 : PC 29 [iL [2, 0, -1], iL [2, 0, -1]] (.bool true) := by have := q_SameInts [2, 0, -1] [2, 0, -1] (by decide); rwa [decide_eq_true rfl] at this
theorem l_awake : PC 14 [] (.bool true) := by
 refine pureCall_ofR dh14 rfl ?_
 conv => whnf
 repeat' (first
 |(refine ⟨fun hg => ?_, fun hg => ?_⟩ <;> first | contradiction | (exfalso; revert hg; decide) | (clear hg; conv => whnf))
 |(refine Or.inl ?_; conv => whnf)
 |(refine ⟨_, l_at .., ?_⟩; conv => whnf)
 |(refine ⟨_, l_wall, ?_⟩; conv => whnf)
 |(refine ⟨_, l_low, ?_⟩; conv => whnf)
 |(refine ⟨_, l_square, ?_⟩; conv => whnf)
 |(refine ⟨_, l_spot .., ?_⟩; conv => whnf)
 |(refine ⟨_, l_ratio .., ?_⟩; conv => whnf)
 |(refine ⟨_, l_tilts, ?_⟩; conv => whnf)
 |(refine ⟨_, k1, ?_⟩; conv => whnf)
 |(refine ⟨_, k2, ?_⟩; conv => whnf)
 |(refine ⟨_, k3, ?_⟩; conv => whnf)
 |(refine ⟨_, k4, ?_⟩; conv => whnf)
 |(refine ⟨_, k5, ?_⟩; conv => whnf)
 |(refine ⟨_, k6, ?_⟩; conv => whnf)
 |(refine ⟨_, k7, ?_⟩; conv => whnf)
 |(refine ⟨_, k8, ?_⟩; conv => whnf)
 |(refine ⟨_, k9, ?_⟩; conv => whnf)
 |(refine ⟨_, k10, ?_⟩; conv => whnf)
 |(refine ⟨_, k11, ?_⟩; conv => whnf)
 |(refine ⟨_, k12, ?_⟩; conv => whnf)
 |(refine ⟨_, k13, ?_⟩; conv => whnf)
 |(refine ⟨_, k14, ?_⟩; conv => whnf)
 |(refine ⟨_, k15, ?_⟩; conv => whnf)
 |(refine ⟨_, k16, ?_⟩; conv => whnf)
 |(refine ⟨_, k17, ?_⟩; conv => whnf)
 |(refine ⟨_, k18, ?_⟩; conv => whnf)
 |(refine ⟨_, k19, ?_⟩; conv => whnf)
 |(refine ⟨_, k20, ?_⟩; conv => whnf)
 |(refine ⟨_, k21, ?_⟩; conv => whnf)
 |(refine ⟨_, k22, ?_⟩; conv => whnf)
 |(refine ⟨_, k23, ?_⟩; conv => whnf)
 |(refine ⟨_, k24, ?_⟩; conv => whnf)
 |(refine ⟨_, k25, ?_⟩; conv => whnf)
 |(refine ⟨_, j1, ?_⟩; conv => whnf)
 |(refine ⟨_, j2, ?_⟩; conv => whnf)
 |(refine ⟨_, j3, ?_⟩; conv => whnf)
 |(refine ⟨_, j4, ?_⟩; conv => whnf)
 |(refine ⟨_, r_SameRatios [(4, 9)] (by decide), ?_⟩; conv => whnf)
 |(refine ⟨_, r_SameShapes [wallL] (by decide) one_len, ?_⟩; conv => whnf)
 |(refine ⟨⟨by decide, by decide, rfl⟩, ?_⟩; conv => whnf)
 |(refine And.intro ?_ ?_; kernel_rfl; conv => whnf))
 all_goals (first | rfl | kernel_rfl)
end Sh

set_option maxRecDepth 100000
set_option maxHeartbeats 2000000
set_option linter.unusedSimpArgs false
set_option linter.unusedVariables false
namespace Sh
open Go Go.Proofs
structure Rw where
 t : Pt
 p : Pt
 s : V3
 i : Int
def encW (r : Rw) : DV := .agg [DV.int .i64 (r.t.x), DV.int .i64 (r.t.y), DV.int .i64 (r.p.x), DV.int .i64 (r.p.y), DV.int .i64 (r.s.x), DV.int .i64 (r.s.y), DV.int .i64 (r.s.z), DV.int .i64 (r.i)]
def i64P (n : Int) : Prop := -9223372036854775808 ≤ n ∧ n ≤ 9223372036854775807
theorem i64_of {n : Int} (h : (Lit.int .i64 n).wf = true) : i64P n := by
 unfold Lit.wf at h
 unfold i64P
 simpa [IntKind.min, IntKind.max, IntKind.signed, IntKind.bits] using h
def shortB (l : List (List V3)) : Bool := (decide ((l.length : Int) ≤ 4) || decide ((l.length : Int) = 9)) && l.all fun s => !decide (7 < (s.length : Int))
theorem r_ShortU (l : List (List V3)) (hl : l.length ≤ 9223372036854775807) : PC 13 [shps l] (.bool (shortB l)) := by
 unfold shortB
 have e0 : ((l.map shp).length : Int) = l.length := by simp
 refine pureCall_ofR dh13 rfl ?_
 conv => whnf
 refine dwp_loopU (P := Tryz.prog) (G := GC) (k := dk13_0) (b := db13_0) (α := Nat) (fun i => [(3, DV.int .i64 (i))]) (fun _ => []) (fun i => i ≤ l.length ∧ ((l.take i).all fun s => !decide (7 < (s.length : Int))) = true) (fun i => l.length - i) 0 ⟨Nat.zero_le _, rfl⟩ ?_
 conv => whnf
 refine ⟨rfl, rfl, ?_⟩
 conv => whnf
 refine ⟨rfl, ?_⟩
 intro i ⟨h1, h2⟩
 conv => whnf
 refine ⟨fun hb => ?_, fun hb => ?_⟩
 ·have hi : i < l.length := by simpa using hb
  have e1 : (((l.getD i []).map encV).length : Int) = (l.getD i []).length := by simp
  clear hb
  conv => whnf
  rw [getD_enc _ _ (i) [] hi]
  refine ⟨idxA hi rfl, ?_⟩
  conv => whnf
  repeat' (first
   |(refine ⟨fun hg => ?_, fun hg => ?_⟩ <;> first | contradiction | (conv => whnf))
   |(refine Or.inl ?_; conv => whnf)
   |(refine And.intro ?_ ?_; kernel_rfl; conv => whnf))
  ·have hg := of_decide_eq_true hg
   rw [e1] at hg
   have : (l.all fun s => !decide (7 < (s.length : Int))) = false := by
    rw [List.all_eq_false]
    exact ⟨_, getD_in [] hi, by rw [decide_eq_true hg]; simp⟩
   exact bool_eq (by rw [this, Bool.and_false])
  ·have hg := of_decide_eq_false hg
   rw [e1] at hg
   rw [show IntKind.i64.wrap ((i : Int) + 1) = ((i + 1 : Nat) : Int) from by rw [wrap_in (by omega) (by omega)]; omega]
   refine ⟨i + 1, rfl, rfl, rfl, ⟨hi, ?_⟩, by omega⟩
   rw [take_snoc l i [] hi, List.all_append, h2]
   simp only [List.all_cons, List.all_nil, decide_eq_false hg]; rfl
 ·have hi : i = l.length := by have := of_decide_eq_false hb; rw [e0] at this; omega
  rw [hi, List.take_length] at h2
  clear hb
  conv => whnf
  repeat' (first
   |(refine ⟨fun hg => ?_, fun hg => ?_⟩ <;> first | contradiction | (conv => whnf))
   |(refine Or.inl ?_; conv => whnf)
   |(refine And.intro ?_ ?_; kernel_rfl; conv => whnf))
  all_goals
   refine bool_eq ?_
   rw [h2, Bool.and_true]
   rw [e0] at hg
   first
    |(rw [show decide ((l.length : Int) ≤ 4) = true from hg]; rfl)
    |(rw [show decide ((l.length : Int) ≤ 4) = false from hg, e0]; rfl)
theorem short_spec {l : List (List V3)} (h : shortB l = true) : l.length ≤ 9 ∧ ∀ s ∈ l, s.length ≤ 7 := by
 unfold shortB at h
 rw [Bool.and_eq_true, Bool.or_eq_true, decide_eq_true_eq, decide_eq_true_eq, List.all_eq_true] at h
 refine ⟨by omega, fun s hs => ?_⟩
 have := h.2 s hs
 rw [Bool.not_eq_true', decide_eq_false_iff_not] at this
 omega
theorem short_len {l : List (List V3)} (h : shortB l = true) : l.length < 1073741824 ∧ (∀ s ∈ l, s.length < 1073741824) ∧ (l.getD 0 []).length < 1073741824 := by
 obtain ⟨h1, h2⟩ := short_spec h
 refine ⟨by omega, fun s hs => by have := h2 s hs; omega, ?_⟩
 cases l with
 |nil => decide
 |cons a r => have := h2 a (List.mem_cons_self ..); show a.length < _; omega
theorem dec_same {α : Type} [DecidableEq α] (a : α) : decide (a = a) = true := decide_eq_true rfl
end Sh

set_option maxRecDepth 100000
set_option linter.unusedVariables false
namespace Sh
open Go Go.Proofs Go.Proofs.YtkaglomkahhjcaaGreatDoor
section
variable {P : Program} {H : Type} {enc : TypeId × Value → H} {W : World}
theorem opens_struct4 {t : TypeId} {f0 f1 f2 f3 : Field} {α β γ δ : Type} {e0 : α → List DV} {B0 : α → Prop} {e1 : β → List DV} {B1 : β → Prop} {e2 : γ → List DV} {B2 : γ → Prop} {e3 : δ → List DV} {B3 : δ → Prop} (ht : P.underlying t = some (.struct #[f0, f1, f2, f3])) (c0 c1 c2 c3 : Nat)
  (h0 : P.cellsOf f0.type = c0) (h1 : P.cellsOf f1.type = c1) (h2 : P.cellsOf f2.type = c2) (h3 : P.cellsOf f3.type = c3) (hc : P.cellsOf t = c0 + (c1 + (c2 + c3))) (o0 : f0.offset = 0) (o1 : f1.offset = c0) (o2 : f2.offset = c0 + c1) (o3 : f3.offset = c0 + c1 + c2)
  (k0 : Opens enc P W f0.type e0 B0) (k1 : Opens enc P W f1.type e1 B1) (k2 : Opens enc P W f2.type e2 B2) (k3 : Opens enc P W f3.type e3 B3) :
  Opens enc P W t (fun a : α × β × γ × δ => e0 a.1 ++ (e1 a.2.1 ++ (e2 a.2.2.1 ++ e3 a.2.2.2))) (fun a => B0 a.1 ∧ B1 a.2.1 ∧ B2 a.2.2.1 ∧ B3 a.2.2.2) := by
 intro base sp hd fuel cs x hx
 obtain ⟨xs, n, _, _, hl, hlen, hf⟩ := DataW.trod_struct ht hx
 match xs, hlen with
 |[y0, y1, y2, y3], _ =>
  have r0 := hf 0 f0 rfl
  have r1 := hf 1 f1 rfl
  have r2 := hf 2 f2 rfl
  have r3 := hf 3 f3 rfl
  rw [h0, o0] at r0
  rw [h1, o1] at r1
  rw [h2, o2] at r2
  rw [h3, o3] at r3
  rw [hc] at hl
  obtain ⟨a, a1, a2⟩ := k0 _ _ _ _ _ _ r0
  obtain ⟨b, b1, b2⟩ := k1 _ _ _ _ _ _ r1
  obtain ⟨c, d1, d2⟩ := k2 _ _ _ _ _ _ r2
  obtain ⟨d, f1, f2⟩ := k3 _ _ _ _ _ _ r3
  refine ⟨(a, b, c, d), ?_, a2, b2, d2, f2⟩
  have h4 := a1.append (b1.append (d1.append f1))
  have e4 : (cs.drop (c0 + c1)).take c2 ++ (cs.drop (c0 + c1 + c2)).take c3 = cs.drop (c0 + c1) := by
   have := split2 (cs := cs.drop (c0 + c1)) (c0 := c2) (c1 := c3) (by simp; omega)
   rwa [List.drop_drop, List.drop_drop, Nat.add_zero] at this
  have e3 : (cs.drop c0).take c1 ++ cs.drop (c0 + c1) = cs.drop c0 := by
   rw [← List.drop_drop, List.take_append_drop]
  rw [e4, e3, List.drop_zero, List.take_append_drop] at h4
  exact h4
theorem known_struct1 {t : TypeId} {f0 : Field} {x0 : DataW H} {d0 : List DV} (ht : P.underlying t = some (.struct #[f0])) (c0 : Nat)
  (h0 : P.cellsOf f0.type = c0) (hc : P.cellsOf t = c0) (o0 : f0.offset = 0) (k0 : Known enc P W f0.type x0 d0) : Known enc P W t (.agg [x0]) d0 := by
 intro base sp fuel cs p hx
 obtain ⟨y0, n, e, hl, r0⟩ := ChangeShapes.trod_struct1 ht hx
 simp only [Prod.mk.injEq, DataW.agg.injEq, List.cons.injEq, and_true] at e
 obtain ⟨e0, _⟩ := e
 rw [h0, o0] at r0
 rw [hc] at hl
 have a1 := k0 _ _ _ _ y0.2 (by rw [r0, e0])
 rwa [List.drop_zero, List.take_of_length_le (by omega)] at a1
end
theorem A_laid : laidOutB Tryz.prog = true := by kernel_rfl
theorem own : ownKnob Tryz.prog.godebug = none := by kernel_rfl
theorem cl3 : Tryz.prog.cellsOf 3 = 1 := by kernel_rfl
theorem cl41 : Tryz.prog.cellsOf 41 = 1 := by kernel_rfl
theorem cl24 : Tryz.prog.cellsOf 24 = 3 := by kernel_rfl
theorem cl32 : Tryz.prog.cellsOf 32 = 1 := by kernel_rfl
theorem cl26 : Tryz.prog.cellsOf 26 = 2 := by kernel_rfl
theorem cl52 : Tryz.prog.cellsOf 52 = 4 := by kernel_rfl
theorem cl95 : Tryz.prog.cellsOf 95 = 8 := by kernel_rfl
theorem cl168 : Tryz.prog.cellsOf 168 = 1 := by kernel_rfl
theorem cl169 : Tryz.prog.cellsOf 169 = 2 := by kernel_rfl
section
variable {H : Type} {enc : TypeId × Value → H} {W : World}
theorem opPt : Opens enc Tryz.prog W 26 (fun p : Pt => (encPt p).cells) (fun p => i64P p.x ∧ i64P p.y) :=
 (opens_struct2 Tryz.underlying26 1 1 cl3 cl3 cl26 rfl rfl (opens_int Tryz.underlying3) (opens_int Tryz.underlying3)).map (fun a => Pt.mk a.1 a.2) (fun _ => rfl) (fun _ h => ⟨i64_of h.1, i64_of h.2⟩)
theorem opV3 : Opens enc Tryz.prog W 24 (fun v : V3 => (encV v).cells) (fun v => i64P v.x ∧ i64P v.y ∧ i64P v.z) :=
 (opens_struct3 Tryz.underlying24 1 1 1 cl3 cl3 cl3 cl24 rfl rfl rfl (opens_int Tryz.underlying3) (opens_int Tryz.underlying3) (opens_int Tryz.underlying3)).map (fun a => V3.mk a.1 a.2.1 a.2.2) (fun _ => rfl) (fun _ h => ⟨i64_of h.1, i64_of h.2.1, i64_of h.2.2⟩)
theorem opShp : Opens enc Tryz.prog W 32 (fun s : List V3 => [shp s]) (fun s => s.length ≤ 9223372036854775807) :=
 (opens_slice Tryz.underlying32 3 cl24 (by decide) opV3).map id (fun _ => rfl) (fun _ h => h.1)
theorem opShps : Opens enc Tryz.prog W 22 (fun l : List (List V3) => [shps l]) (fun l => l.length ≤ 9223372036854775807) :=
 (opens_slice Tryz.underlying22 1 cl32 (by decide) (f := shp) opShp).map id (fun _ => rfl) (fun _ h => h.1)
theorem opPts : Opens enc Tryz.prog W 54 (fun l : List Pt => [pts l]) (fun l => l.length ≤ 9223372036854775807) :=
 (opens_slice Tryz.underlying54 2 cl26 (by decide) opPt).map id (fun _ => rfl) (fun _ h => h.1)
theorem opBx : Opens enc Tryz.prog W 52 (fun c : Bx => (encB c).cells) (fun _ => True) :=
 (opens_struct2 Tryz.underlying52 2 2 cl26 cl26 cl52 rfl rfl opPt opPt).map (fun a => Bx.mk a.1 a.2) (fun _ => rfl) (fun _ _ => trivial)
theorem opCells : Opens enc Tryz.prog W 50 (fun l : List Bx => [cels l]) (fun l => l.length ≤ 9223372036854775807) :=
 (opens_slice Tryz.underlying50 4 cl52 (by decide) opBx).map id (fun _ => rfl) (fun _ h => h.1)
theorem opRow : Opens enc Tryz.prog W 95 (fun r : Rw => (encW r).cells) (fun r => i64P r.i) :=
 (opens_struct4 Tryz.underlying95 2 2 3 1 cl26 cl26 cl24 cl3 cl95 rfl rfl rfl rfl opPt opPt opV3 (opens_int Tryz.underlying3)).map (fun a => Rw.mk a.1 a.2.1 a.2.2.1 a.2.2.2) (fun _ => rfl) (fun _ h => i64_of h.2.2.2)
end
theorem known_axis {W : World} {b : UInt8} {r : List UInt8} {f0 : FuncId} (hone : ((List.range Tryz.prog.funcs.size).filter fun f => (Tryz.prog.funcs[f]?).any (·.name.toUTF8.data.toList == b :: r)) = [f0]) :
  Known (funcToken Tryz.prog) Tryz.prog W 168 (.agg [.held (b :: r)]) [.func f0 []] :=
 known_struct1 Tryz.underlying168 1 cl41 cl168 rfl (known_func Tryz.underlying41 hone)
def aName (k : UInt8) : List UInt8 := [111, 109, 98, 105, 110, 101, 114, 47, 115, 104, 97, 100, 101, 46, 97, 120, 101, 115, 36, k]
def axesX : List (DataW (List UInt8)) := [.agg [.held (99 :: aName 49)], .agg [.held (99 :: aName 50)]]
def axesD : List (List DV) := [[.func 214 []], [.func 215 []]]
theorem known_axes {W : World} : Known (funcToken Tryz.prog) Tryz.prog W 169 (.agg axesX) axesD.flatten := by
 refine known_array (c := 1) Tryz.underlying169 cl168 cl169 rfl ?_
 intro i x ds e1 e2
 match i, e1, e2 with
 |0, e1, e2 => cases Option.some.inj e1; cases Option.some.inj e2; exact known_axis (by kernel_rfl)
 |1, e1, e2 => cases Option.some.inj e1; cases Option.some.inj e2; exact known_axis (by kernel_rfl)
section
variable {L : List (String × DataW Unit)}
theorem axes_at (hm : ("combiner/shade.axes", Rows.laid_combiner_shade_axes) ∈ L) {W : World} (h : laidMetH Tryz.prog L W) : ∃ cs : Array Value, W.var? Tryz.prog "combiner/shade.axes" = some cs ∧ RelL (memOf W) axesD.flatten cs.toList := by
 obtain ⟨g, t, cs, fuel, p, hg, ht, hv, hd⟩ := h.funcs (n := "combiner/shade.axes") hm
 obtain rfl := Option.some.inj ((show Tryz.prog.globalNamed "combiner/shade.axes" = some 0 by kernel_rfl).symm.trans hg)
 obtain rfl := Option.some.inj ((show (Tryz.prog.globals[0]?).map (·.type) = some 169 by kernel_rfl).symm.trans ht)
 have hd' : DataW.trod (funcToken Tryz.prog) Tryz.prog W 0 (fun _ => true) true fuel 169 cs.toList = some (.agg axesX, p) := hd
 exact ⟨cs, hv, known_axes _ _ _ _ _ hd'⟩
theorem pow_at (e : (L.filter fun x => x.1 == "internal/strconv.uint64pow10") = [("internal/strconv.uint64pow10", Lib.tabData .u64 Lib.pow10Tab)]) {W : World} (h : laidMetH Tryz.prog L W) : Lib.TabIs Tryz.prog W "internal/strconv.uint64pow10" .u64 Lib.pow10Tab := by
 have h1 := h.filter fun x => x.1 == "internal/strconv.uint64pow10"
 rw [e, MakeChecks.laidMetH_plain _ _ _ (by kernel_rfl)] at h1
 exact Lib.tabIs_of_head (g := 1) (t := 232) (e := 223) (n := 20) (by kernel_rfl) (by kernel_rfl) Tryz.underlying232 Tryz.underlying223 (by kernel_rfl) (by kernel_rfl) h1
theorem len_at {W : World} (hsh : W.ShapedOpen Tryz.prog) : (∃ m, W.cell? ⟨2, 0, none⟩ = some (.int .i64 m)) ∧ blockLen W 2 = some 1 :=
 open_var (t := 3) (zero := #[.int .i64 0]) hsh (of_decide_eq_true (by kernel_rfl)) (by kernel_rfl) rfl (by kernel_rfl) (by kernel_rfl) Tryz.underlying3
theorem gokC (hm : ("combiner/shade.axes", Rows.laid_combiner_shade_axes) ∈ L) (e : (L.filter fun x => x.1 == "internal/strconv.uint64pow10") = [("internal/strconv.uint64pow10", Lib.tabData .u64 Lib.pow10Tab)]) {W : World} (h : laidMetH Tryz.prog L W) (hsh : W.ShapedOpen Tryz.prog) : GOk GC (memOf W) ∧ Tabs GC W := by
 obtain ⟨cs, hv, hr⟩ := axes_at hm h
 have hp := pow_at e h
 have hm := len_at hsh
 unfold Lib.TabIs at hp
 have g0 : Tryz.prog.globalNamed "combiner/shade.axes" = some 0 := by kernel_rfl
 have g2 : Tryz.prog.globalNamed "internal/strconv.uint64pow10" = some 1 := by kernel_rfl
 refine ⟨fun g d hg => ?_, fun g d hg => ?_⟩
 all_goals unfold GC at hg
 all_goals split at hg
 ·next e =>
  subst e
  obtain rfl := Option.some.inj hg
  exact gok_of (cs := cs) (fun i => World.var?_cell g0 hv i) hr
 ·split at hg
  ·next e =>
   subst e
   obtain rfl := Option.some.inj hg
   exact gok_of (fun i => World.var?_cell g2 hp i) (by simpa using relL_ints Lib.pow10Tab)
  ·split at hg
   ·next e =>
    subst e
    obtain rfl := Option.some.inj hg
    exact gok_open hm.1
   ·cases hg
 ·next e =>
  subst e
  obtain rfl := Option.some.inj hg
  refine ⟨?_, fun ho => by cases ho⟩
  rw [len_of g0 hv, ← Array.length_toList, ← hr.1]
  rfl
 ·split at hg
  ·next e =>
   subst e
   obtain rfl := Option.some.inj hg
   refine ⟨?_, fun ho => by cases ho⟩
   rw [len_of g2 hp]
   rfl
  ·split at hg
   ·next e =>
    subst e
    obtain rfl := Option.some.inj hg
    exact ⟨hm.2, fun _ => hm.1⟩
   ·cases hg
end
noncomputable def startW (os : Os) : World := (World.doorLaid Tryz.prog 600 os).layVars Tryz.prog [("unicode/utf8.first", Go.Pinned.utf8First)]
end Sh
