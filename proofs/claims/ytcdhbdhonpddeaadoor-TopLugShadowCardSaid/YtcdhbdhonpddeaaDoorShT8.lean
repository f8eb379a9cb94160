import Derived.Test.YtcdhbdhonpddeaaDoorShT7
namespace Sh
open Go Go.Proofs
theorem lowS_mul (k m n : Int) (hk : 0 < k) : lowS (k * m) (k * n) = lowS m n := by
  unfold lowS
  rw [Int.gcd_mul_left]
  have : ((k.natAbs * Int.gcd m n : Nat) : Int) = k * (Int.gcd m n : Nat) := by
    rw [Int.natCast_mul, Int.natAbs_of_nonneg (by omega)]
  rw [this, Int.mul_tdiv_mul_of_pos _ _ hk, Int.mul_tdiv_mul_of_pos _ _ hk]
theorem lowS_spec (m n : Int) (hn : 0 < n) : ∃ d : Int, 0 < d ∧ (lowS m n).x * d = m ∧ (lowS m n).y * d = n := by
  refine ⟨(Int.gcd m n : Nat), ?_, ?_, ?_⟩
  · have := Int.gcd_pos_of_ne_zero_right m (show n ≠ 0 by omega); omega
  · exact Int.tdiv_mul_cancel (Int.gcd_dvd_left ..)
  · exact Int.tdiv_mul_cancel (Int.gcd_dvd_right ..)
def isTilt (t : P2) : Prop := t ∈ tiltL
theorem tilt_cases {t : P2} (h : isTilt t) : t = ⟨5, 0⟩ ∨ t = ⟨4, -3⟩ ∨ t = ⟨4, 3⟩ ∨ t = ⟨3, -4⟩ ∨ t = ⟨3, 4⟩ ∨ t = ⟨12, 5⟩ := by
  simpa [isTilt, tiltL] using h
/-- The sun of a direction that is valid and above the ground. -/
structure isSun (d : D4) : Prop where
  w1 : 1 ≤ d.w
  w2 : d.w ≤ 1000
  x1 : -d.w ≤ d.v.x
  x2 : d.v.x ≤ d.w
  y1 : -d.w ≤ d.v.y
  y2 : d.v.y ≤ d.w
  z1 : 1 ≤ d.v.z
  z2 : d.v.z ≤ d.w
  dir : dirE d = 0
theorem withE_zero {n l h : Int} : withE n l h = 0 ↔ l ≤ n ∧ n ≤ h := by
  unfold withE; split <;> omega
theorem sun_of {d : D4} (h : refDirE d = 0) (hz : ¬ d.v.z ≤ 0) : isSun d := by
  unfold refDirE at h
  split at h
  · exact absurd h (by assumption)
  next h1 =>
    have h1 := withE_zero.1 (Classical.not_not.1 h1)
    split at h
    · exact absurd h (by assumption)
    next h2 =>
      have h2 := Classical.not_not.1 h2
      have e : W (0 - d.w) = -d.w := by rw [W_in (by omega) (by omega)]; omega
      have e' : W (-d.w) = -d.w := W_in (by omega) (by omega)
      have h3 : withE d.v.x (-d.w) d.w = 0 ∧ withE d.v.y (-d.w) d.w = 0 ∧ withE d.v.z (-d.w) d.w = 0 := by
        unfold refDirE0 at h2
        rw [e] at h2
        simp only [firstE] at h2
        split at h2
        · exact absurd h2 (by assumption)
        next q1 =>
          split at h2
          · exact absurd h2 (by assumption)
          next q2 =>
            split at h2
            · exact absurd h2 (by assumption)
            next q3 => exact ⟨Classical.not_not.1 q1, Classical.not_not.1 q2, Classical.not_not.1 q3⟩
      obtain ⟨a1, a2, a3⟩ := h3
      have b1 := withE_zero.1 a1
      have b2 := withE_zero.1 a2
      have b3 := withE_zero.1 a3
      refine ⟨h1.1, h1.2, b1.1, b1.2, b2.1, b2.2, by omega, b3.2, ?_⟩
      have e0 : dirE0 d = 0 := by
        unfold dirE0
        rw [e', a1, a2, a3, withE_zero.2 h1]
        rfl
      unfold dirE
      rw [e0, if_neg (by decide)]
      exact h
def gS (t : P2) (v : V3) : Int := t.x * v.z - t.y * v.y
theorem bd2 {a b A B : Int} (h1 : -A ≤ a) (h2 : a ≤ A) (h3 : -B ≤ b) (h4 : b ≤ B) : -(A * B) ≤ a * b ∧ a * b ≤ A * B := by
  have hA : 0 ≤ A := by omega
  have hB : 0 ≤ B := by omega
  have : (a * b).natAbs ≤ (A * B).natAbs := by
    rw [Int.natAbs_mul, Int.natAbs_mul]; exact Nat.mul_le_mul (by omega) (by omega)
  have h5 : 0 ≤ A * B := Int.mul_nonneg hA hB
  omega
theorem g_bd {t : P2} {d : D4} (ht : isTilt t) (hs : isSun d) : -17000 ≤ gS t d.v ∧ gS t d.v ≤ 17000 := by
  have := hs.w1; have := hs.w2; have := hs.y1; have := hs.y2; have := hs.z1; have := hs.z2
  rcases tilt_cases ht with h | h | h | h | h | h <;> subst h <;> unfold gS <;> simp only <;> omega
theorem across_eq {t : P2} {d : D4} (ht : isTilt t) (hs : isSun d) : acrossS t d.v = gS t d.v := by
  have := g_bd ht hs
  exact W_in (n := gS t d.v) (by omega) (by omega)
theorem across_p {P : Int} {d : D4} (h1 : 1 ≤ P) (h2 : P ≤ 256) (hs : isSun d) : acrossS ⟨P, 0⟩ d.v = P * d.v.z ∧ 1 ≤ P * d.v.z ∧ P * d.v.z ≤ 256000 := by
  have := hs.w2; have := hs.z1; have := hs.z2
  have a1 : 0 < P * d.v.z := Int.mul_pos (by omega) (by omega)
  have a2 : P * d.v.z ≤ 256 * 1000 := Int.mul_le_mul h2 (by omega) (by omega) (by omega)
  refine ⟨?_, by omega, by omega⟩
  unfold acrossS
  simp only [Int.zero_mul, Int.sub_zero]
  exact W_in (by omega) (by omega)
theorem tilt_ok {t : P2} (ht : isTilt t) : checkTiltS t = 0 := by
  rcases tilt_cases ht with h | h | h | h | h | h <;> subst h <;> decide
theorem sun_ok {d : D4} (hs : isSun d) : checkSunS d.v = 0 := by
  have := hs.w1; have := hs.w2; have := hs.x1; have := hs.x2; have := hs.y1; have := hs.y2; have := hs.z1; have := hs.z2
  unfold checkSunS
  rw [withE_zero.2 ⟨by omega, by omega⟩, withE_zero.2 ⟨by omega, by omega⟩, withE_zero.2 ⟨by omega, by omega⟩]
  rfl
theorem plane_ok {t : P2} (ht : isTilt t) : planeE (planeS t) = 0 ∧ 0 < (planeS t).w ∧ (planeS t).w ≤ 1000 := by
  rcases tilt_cases ht with h | h | h | h | h | h <;> subst h <;> decide
theorem dot_plane {t : P2} {d : D4} (ht : isTilt t) (hs : isSun d) : dotV d.v (planeS t).v = gS t d.v := by
  have hb := g_bd ht hs
  have e : W (0 - t.y) = -t.y := by
    rcases tilt_cases ht with h | h | h | h | h | h <;> subst h <;> decide
  unfold dotV planeS
  simp only [e]
  have : d.v.x * 0 + d.v.y * -t.y + d.v.z * t.x = gS t d.v := by
    unfold gS; rw [Int.mul_neg, Int.mul_comm t.x, Int.mul_comm t.y]; omega
  rw [this]
  exact W_in (by omega) (by omega)
theorem gain_ok {t : P2} {d : D4} (ht : isTilt t) (hs : isSun d) : gainE t d.v = 0 := by
  unfold gainE; rw [tilt_ok ht, sun_ok hs]; rfl
theorem inc_ok {t : P2} {d : D4} (ht : isTilt t) (hs : isSun d) : incE d (planeS t) = 0 := by
  unfold incE; rw [hs.dir, (plane_ok ht).1]; rfl
theorem level_ok {d : D4} (hs : isSun d) : incE d ⟨⟨0, 0, 1⟩, 1⟩ = 0 := by
  unfold incE; rw [hs.dir]; decide
theorem level_dot {d : D4} (hs : isSun d) : dotV d.v ⟨0, 0, 1⟩ = d.v.z := by
  have := hs.w2; have := hs.z1; have := hs.z2
  unfold dotV
  simp only [Int.mul_zero, Int.zero_add, Int.mul_one]
  exact W_in (by omega) (by omega)
theorem free_ok {t : P2} {d : D4} {P : Int} (ht : isTilt t) (hs : isSun d) (h1 : 1 ≤ P) (h2 : P ≤ 256) : freeE t ⟨P, 0⟩ d.v = 0 := by
  have : pitchE ⟨P, 0⟩ = 0 := by
    unfold pitchE
    rw [withE_zero.2 ⟨h1, (by omega : P ≤ 1000)⟩, withE_zero.2 ⟨(by decide : (-1000 : Int) ≤ 0), (by decide : (0 : Int) ≤ 1000)⟩]; rfl
  unfold freeE; rw [tilt_ok ht, sun_ok hs, this]; rfl
/-- The differences of the corners of a table do not depend on its height. -/
def diffs (c0 c1 c2 c3 : V3) (i j : Nat) : V3 := lessV ([c0, c1, c2, c3].getD i V0) ([c0, c1, c2, c3].getD j V0)
def flatD (d : Nat → Nat → V3) : Bool :=
  [0, 1, 2, 3].all fun i =>
    !decide (dotV (crossV (d 1 0) (d 2 1)) (d i 0) ≠ 0) && (!decide (dotV (crossV (d 1 0) (d 2 1)) (crossV (d ((i + 1) % 4) i) (d ((i + 2) % 4) ((i + 1) % 4))) ≤ 0) &&
      [0, 1, 2, 3].all fun j => !decide (dotV (crossV (d 1 0) (d 2 1)) (crossV (d ((i + 1) % 4) i) (d j i)) < 0))
theorem flat_diffs (c0 c1 c2 c3 : V3) : flatS [c0, c1, c2, c3] = flatD (diffs c0 c1 c2 c3) := by rfl
theorem flatD_congr {d e : Nat → Nat → V3} (h : ∀ i, i < 4 → ∀ j, j < 4 → d i j = e i j) : flatD d = flatD e := by
  unfold flatD
  simp only [List.all_cons, List.all_nil, Nat.reduceAdd, Nat.reduceMod]
  rw [h 0 (by decide) 0 (by decide), h 0 (by decide) 1 (by decide), h 0 (by decide) 2 (by decide), h 0 (by decide) 3 (by decide),
    h 1 (by decide) 0 (by decide), h 1 (by decide) 1 (by decide), h 1 (by decide) 2 (by decide), h 1 (by decide) 3 (by decide),
    h 2 (by decide) 0 (by decide), h 2 (by decide) 1 (by decide), h 2 (by decide) 2 (by decide), h 2 (by decide) 3 (by decide),
    h 3 (by decide) 0 (by decide), h 3 (by decide) 1 (by decide), h 3 (by decide) 2 (by decide), h 3 (by decide) 3 (by decide)]
theorem diff_hh (h y z : Int) : W (W (h + y) - W (h + z)) = W (y - z) := by
  rw [W_sub_l, W_sub_r]; congr 1; omega
theorem flat_h (t : P2) (s h : Int) : flatS (tableS t s h) = flatS (tableS t s 0) := by
  have n1 : ∀ h : Int, h - t.y = h + -t.y := fun h => by omega
  unfold tableS
  rw [flat_diffs, flat_diffs]
  apply flatD_congr
  intro i hi j hj
  rcases i with _ | _ | _ | _ | i <;> first | omega | skip
  all_goals rcases j with _ | _ | _ | _ | j <;> first | omega | skip
  all_goals simp only [diffs, List.getD_cons_zero, List.getD_cons_succ, lessV, n1, diff_hh]
theorem flat_all : (tiltL.all fun t => (List.range 50).all fun k => flatS (tableS t ((k : Int) + 1) 0)) = true := by kernel_rfl
end Sh
