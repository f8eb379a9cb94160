import Derived.Test.YtcdhbdhonpddeaaDoorShT8
namespace Sh
open Go Go.Proofs
structure inTab (s h : Int) : Prop where
  s1 : 1 ≤ s
  s2 : s ≤ 50
  h1 : 5 ≤ h
  h2 : h ≤ 54
theorem flat_ok {t : P2} {s h : Int} (ht : isTilt t) (hs : inTab s h) : flatS (tableS t s h) = true := by
  have h1 := List.all_eq_true.1 flat_all t ht
  have := hs.s1; have := hs.s2
  have h2 := List.all_eq_true.1 h1 (s - 1).toNat (List.mem_range.2 (by omega))
  rw [flat_h]
  rw [← h2, show ((s - 1).toNat : Int) + 1 = s by omega]
theorem table_eq {t : P2} {s h : Int} (ht : isTilt t) (hs : inTab s h) : tableS t s h = [⟨-s, -t.x, h - t.y⟩, ⟨s, -t.x, h - t.y⟩, ⟨s, t.x, h + t.y⟩, ⟨-s, t.x, h + t.y⟩] := by
  have := hs.s1; have := hs.s2; have := hs.h1; have := hs.h2
  have ⟨q1, q2, q3, q4⟩ : 3 ≤ t.x ∧ t.x ≤ 12 ∧ -5 ≤ t.y ∧ t.y ≤ 5 := by
    rcases tilt_cases ht with h | h | h | h | h | h <;> subst h <;> decide
  unfold tableS
  have e1 : W (0 - s) = -s := by rw [W_in (by omega) (by omega)]; omega
  have e2 : W (0 - t.x) = -t.x := by rw [W_in (by omega) (by omega)]; omega
  have e3 : W (h - t.y) = h - t.y := W_in (by omega) (by omega)
  have e4 : W (h + t.y) = h + t.y := W_in (by omega) (by omega)
  rw [e1, e2, e3, e4]
theorem corner_ok {x y z : Int} (h : -1000 ≤ x ∧ x ≤ 1000 ∧ -1000 ≤ y ∧ y ≤ 1000 ∧ 0 ≤ z ∧ z ≤ 1000) : cornerE ⟨x, y, z⟩ = 0 := by
  unfold cornerE
  rw [withE_zero.2 ⟨h.1, h.2.1⟩, withE_zero.2 ⟨h.2.2.1, h.2.2.2.1⟩, withE_zero.2 h.2.2.2.2]; rfl
theorem shape_ok {t : P2} {s h : Int} (ht : isTilt t) (hs : inTab s h) : shapeE (tableS t s h) = 0 := by
  have := hs.s1; have := hs.s2; have := hs.h1; have := hs.h2
  have ⟨q1, q2, q3, q4⟩ : 3 ≤ t.x ∧ t.x ≤ 12 ∧ -5 ≤ t.y ∧ t.y ≤ 5 := by
    rcases tilt_cases ht with h | h | h | h | h | h <;> subst h <;> decide
  have e0 : shapeE0 (tableS t s h) = 0 := by
    rw [table_eq ht hs]
    unfold shapeE0
    simp only [List.map_cons, List.map_nil]
    rw [corner_ok (by omega), corner_ok (by omega), corner_ok (by omega), corner_ok (by omega)]
    rfl
  unfold shapeE
  rw [e0, if_neg (by decide), flat_ok ht hs]
  rfl
theorem area_ok {t : P2} {s h : Int} {d : D4} (ht : isTilt t) (hs : inTab s h) (hd : isSun d) : areaE (tableS t s h) d.v = 0 := by
  unfold areaE; rw [shape_ok ht hs, sun_ok hd]; rfl
theorem acc_eq {t : P2} {s h : Int} {d : D4} (ht : isTilt t) (hs : inTab s h) (hd : isSun d) : areaAcc (tableS t s h) d.v 4 = 8 * s * d.v.z * gS t d.v := by
  have hb : -(8 * 50 * 1000 * 17000) ≤ 8 * s * d.v.z * gS t d.v ∧ 8 * s * d.v.z * gS t d.v ≤ 8 * 50 * 1000 * 17000 := by
    have := hs.s1; have := hs.s2; have := hd.w2; have := hd.z1; have := hd.z2
    have h3 := bd2 (a := 8 * s) (b := d.v.z) (A := 8 * 50) (B := 1000) (by omega) (by omega) (by omega) (by omega)
    exact bd2 (A := 8 * 50 * 1000) (B := 17000) (by omega) (by omega) (g_bd ht hd).1 (g_bd ht hd).2
  rw [table_eq ht hs]
  show W (W (W (W (0 + _) + _) + _) + _) = _
  simp only [aftS, List.length_cons, List.length_nil, Nat.zero_add, Nat.reduceAdd, Nat.reduceMod, List.getD_cons_zero, List.getD_cons_succ, castX, castY, W_add_l, W_add_r, W_sub_l, W_sub_r, W_mul_l, W_mul_r]
  rw [W_in]
  · unfold gS; grind
  · unfold gS at hb; grind
  · unfold gS at hb; grind
theorem areaS_eq {t : P2} {s h : Int} {d : D4} (ht : isTilt t) (hs : inTab s h) (hd : isSun d) : areaS (tableS t s h) d.v = lowS (4 * s * (gS t d.v).natAbs) d.v.z := by
  have := hs.s1; have := hd.z1; have := hd.z2; have := hd.w2
  have hz : 0 < 2 * d.v.z := by omega
  have b := bd2 (a := 2 * d.v.z) (b := d.v.z) (A := 2000) (B := 1000) (by omega) (by omega) (by omega) (by omega)
  unfold areaS
  rw [show (tableS t s h).length = 4 from rfl, acc_eq ht hs hd, W_in (n := 2 * d.v.z) (by omega) (by omega), W_in (by omega) (by omega), ← lowS_mul (2 * d.v.z) (4 * s * (gS t d.v).natAbs) d.v.z hz]
  congr 1
  rw [Int.natAbs_mul, Int.natCast_mul, Int.natAbs_of_nonneg (a := 8 * s * d.v.z) (Int.mul_nonneg (by omega) (by omega))]
  grind
theorem den_pos {d : D4} (hd : isSun d) : 0 < W (W (2 * d.v.z) * d.v.z) ∧ W (W (2 * d.v.z) * d.v.z) ≤ 4611686018427387904 := by
  have := hd.z1; have := hd.z2; have := hd.w2
  have b := bd2 (a := 2 * d.v.z) (b := d.v.z) (A := 2000) (B := 1000) (by omega) (by omega) (by omega) (by omega)
  have b2 : 0 < 2 * d.v.z * d.v.z := Int.mul_pos (by omega) (by omega)
  rw [W_in (n := 2 * d.v.z) (by omega) (by omega), W_in (by omega) (by omega)]
  omega
theorem acc_small {t : P2} {s h : Int} {d : D4} (ht : isTilt t) (hs : inTab s h) (hd : isSun d) : Small (areaAcc (tableS t s h) d.v (tableS t s h).length) := by
  have := hs.s1; have := hs.s2; have := hd.w2; have := hd.z1; have := hd.z2
  have h3 := bd2 (a := 8 * s) (b := d.v.z) (A := 8 * 50) (B := 1000) (by omega) (by omega) (by omega) (by omega)
  have h4 := bd2 (a := 8 * s * d.v.z) (b := gS t d.v) (A := 8 * 50 * 1000) (B := 17000) (by omega) (by omega) (g_bd ht hd).1 (g_bd ht hd).2
  rw [show (tableS t s h).length = 4 from rfl, acc_eq ht hs hd]
  unfold Small; omega
theorem law1 (s g z w L : Int) (hz : 0 < z) (hw : 0 < w) (hL : 0 < L) :
    (lowS (4 * s * g) z).x * (lowS z w).x * (lowS g (w * L)).y = 4 * s * L * (lowS g (w * L)).x * (lowS (4 * s * g) z).y * (lowS z w).y := by
  obtain ⟨d1, p1, a1, b1⟩ := lowS_spec (4 * s * g) z hz
  obtain ⟨d2, p2, a2, b2⟩ := lowS_spec z w hw
  obtain ⟨d3, p3, a3, b3⟩ := lowS_spec g (w * L) (Int.mul_pos hw hL)
  apply Int.eq_of_mul_eq_mul_right (a := d1 * d2 * d3) (Int.ne_of_gt (Int.mul_pos (Int.mul_pos p1 p2) p3))
  generalize (lowS (4 * s * g) z).x = A1 at *
  generalize (lowS (4 * s * g) z).y = A2 at *
  generalize (lowS z w).x = B1 at *
  generalize (lowS z w).y = B2 at *
  generalize (lowS g (w * L)).x = C1 at *
  generalize (lowS g (w * L)).y = C2 at *
  have e1 : A1 * B1 * C2 * (d1 * d2 * d3) = (A1 * d1) * (B1 * d2) * (C2 * d3) := by grind
  have e2 : 4 * s * L * C1 * A2 * B2 * (d1 * d2 * d3) = 4 * s * L * (C1 * d3) * (A2 * d1) * (B2 * d2) := by grind
  rw [e1, e2, a1, a2, a3, b1, b2, b3]
  grind
theorem law_free (s g z P : Int) (hs : 0 < s) (hz : 0 < z) : (lowS (4 * s * g) z).x ≤ 2 * s * P * (lowS (4 * s * g) z).y ↔ 2 * g ≤ P * z := by
  obtain ⟨d1, p1, a1, b1⟩ := lowS_spec (4 * s * g) z hz
  generalize (lowS (4 * s * g) z).x = A1 at *
  generalize (lowS (4 * s * g) z).y = A2 at *
  have e1 : A1 ≤ 2 * s * P * A2 ↔ A1 * d1 ≤ 2 * s * P * A2 * d1 := (Int.mul_le_mul_right p1).symm
  have e2 : 2 * g ≤ P * z ↔ 2 * g * (2 * s) ≤ P * z * (2 * s) := (Int.mul_le_mul_right (by omega)).symm
  rw [e1, e2, a1, show 2 * s * P * A2 * d1 = 2 * s * P * (A2 * d1) by grind, b1, show 4 * s * g = 2 * g * (2 * s) by grind, show 2 * s * P * z = P * z * (2 * s) by grind]
theorem law_share (s g z P : Int) (hs : 0 < s) (hz : 0 < z) : lowS ((lowS (4 * s * g) z).x - 2 * s * P * (lowS (4 * s * g) z).y) (lowS (4 * s * g) z).x = lowS (2 * g - P * z) (2 * g) := by
  obtain ⟨d1, p1, a1, b1⟩ := lowS_spec (4 * s * g) z hz
  generalize (lowS (4 * s * g) z).x = A1 at *
  generalize (lowS (4 * s * g) z).y = A2 at *
  rw [← lowS_mul d1 _ _ p1, ← lowS_mul (2 * s) (2 * g - P * z) (2 * g) (by omega)]
  have e1 : d1 * (A1 - 2 * s * P * A2) = 2 * s * (2 * g - P * z) := by
    rw [show d1 * (A1 - 2 * s * P * A2) = A1 * d1 - 2 * s * P * (A2 * d1) by grind, a1, b1]; grind
  have e2 : d1 * A1 = 2 * s * (2 * g) := by rw [Int.mul_comm, a1]; grind
  rw [e1, e2]
theorem low_bd (m n : Int) (hm : 0 ≤ m) (hn : 0 < n) : 0 ≤ (lowS m n).x ∧ (lowS m n).x ≤ m ∧ 0 < (lowS m n).y ∧ (lowS m n).y ≤ n := by
  obtain ⟨d1, p1, a1, b1⟩ := lowS_spec m n hn
  generalize (lowS m n).x = A1 at *
  generalize (lowS m n).y = A2 at *
  have h1 : 0 ≤ A1 := by
    false_or_by_contra
    have := Int.mul_neg_of_neg_of_pos (show A1 < 0 by omega) p1; omega
  have h2 : 0 < A2 := by
    false_or_by_contra
    have := Int.mul_nonneg (show 0 ≤ -A2 by omega) (show 0 ≤ d1 by omega)
    rw [Int.neg_mul] at this; omega
  have h3 := Int.mul_le_mul_of_nonneg_left (show 1 ≤ d1 by omega) h1
  have h4 := Int.mul_le_mul_of_nonneg_left (show 1 ≤ d1 by omega) (show 0 ≤ A2 by omega)
  omega
theorem law_sh0 (g q : Int) (hg : 0 < 2 * g ∨ 2 * g ≤ q) : (if 2 * g ≤ q then (⟨0, 1⟩ : P2) else lowS (2 * g - q) (2 * g)).x = 0 ↔ 2 * g ≤ q := by
  split
  · next h => exact ⟨fun _ => h, fun _ => rfl⟩
  · next h =>
    obtain ⟨d1, p1, a1, b1⟩ := lowS_spec (2 * g - q) (2 * g) (by omega)
    constructor
    · intro h0; rw [h0, Int.zero_mul] at a1; omega
    · intro h1; exact absurd h1 h
end Sh
