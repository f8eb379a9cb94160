import Derived.Test.YtcdhbdhonpddeaaDoorShT4
namespace Sh
open Go Go.Proofs
theorem pc96 (b : Bool) (e : Int) : PureCall Tryd.prog GD 96 [.bool b, .int .i64 e] (.int .i64 (whenE b e)) := by
  refine pureCall_of dh96 rfl ?_
  conv => whnf
  refine ⟨fun hb => ?_, fun hb => ?_⟩ <;> try (exact absurd hb (by decide))
  all_goals conv => whnf
  all_goals subst hb; rfl
theorem pc95 (n l h : Int) : PureCall Tryd.prog GD 95 [.int .i64 n, .int .i64 l, .int .i64 h] (.int .i64 (withE n l h)) := by
  refine pureCall_of dh95 rfl ?_
  conv => whnf
  refine ⟨fun hb => ?_, fun hb => ?_⟩ <;> try (exact absurd hb (by decide))
  all_goals conv => whnf
  · refine .inl ?_
    conv => whnf
    refine ⟨_, pc96 _ _, ?_⟩
    conv => whnf
    exact int_eq (by simp_all [withE, whenE]; split <;> split <;> omega)
  · refine .inl ?_
    conv => whnf
    refine ⟨_, pc96 _ _, ?_⟩
    conv => whnf
    exact int_eq (by simp_all [withE, whenE])
theorem pc57 (l : List Int) (hl : l.length < 4611686018427387904) : PureCall Tryd.prog GD 57 [iL l] (.int .i64 (firstE l)) := by
  refine pureCall_of dh57 rfl ?_
  conv => whnf
  refine dwp_loop (α := Nat) (fun i => [(5, iL l), (6, .int .i64 (l.map (DV.int .i64)).length), (7, .int .i64 i)]) (fun _ => []) (fun i => i ≤ l.length ∧ firstE l = firstE (l.drop i)) (fun i => l.length - i) 0 ⟨rfl, rfl, rfl⟩ ⟨Nat.zero_le _, rfl⟩ ?_
  intro i ⟨h1, h2⟩
  conv => whnf
  refine ⟨fun hb => ?_, fun hb => ?_⟩ <;> try (exact absurd hb (by decide))
  · have hi : i < l.length := by simpa using hb
    have hd := firstE_drop l i hi
    conv => whnf
    rw [getD_enc _ _ _ 0 hi]
    refine ⟨⟨by omega, by simpa using hi, rfl⟩, ?_⟩
    conv => whnf
    refine ⟨fun hb => ?_, fun hb => ?_⟩ <;> try (exact absurd hb (by decide))
    · conv => whnf
      exact int_eq (by simp_all)
    · conv => whnf
      rw [wrap_succ i (by omega)]
      exact ⟨i + 1, rfl, rfl, rfl, ⟨hi, by simp_all⟩, by omega⟩
  · conv => whnf
    have : i = l.length := by simp at hb; omega
    subst this
    exact int_eq (by rw [h2]; simp [firstE])
theorem pc60 (a b : V3) : PureCall Tryd.prog GD 60 [encV a, encV b] (.int .i64 (dotV a b)) := by
  refine pureCall_of dh60 rfl ?_
  conv => whnf
  exact int_eq (by simp only [wrap_W, dotV, W_add_l, W_add_r])
structure D4 where
  v : V3
  w : Int
def encD (d : D4) : DV := .agg [.int .i64 d.v.x, .int .i64 d.v.y, .int .i64 d.v.z, .int .i64 d.w]
theorem pc94 (n : Int) (d : D4) : PureCall Tryd.prog GD 94 [.int .i64 n, .ip (encD d)] (.int .i64 (withE n (W (-d.w)) d.w)) := by
  refine pureCall_of dh94 rfl ?_
  conv => whnf
  refine .inl ?_
  conv => whnf
  refine ⟨_, pc95 _ _ _, ?_⟩
  conv => whnf
  rfl
def dirE0 (d : D4) : Int := firstE [withE d.w 1 1000, withE d.v.x (W (-d.w)) d.w, withE d.v.y (W (-d.w)) d.w, withE d.v.z (W (-d.w)) d.w]
def dirE (d : D4) : Int := if dirE0 d ≠ 0 then dirE0 d else whenE (decide (dotV d.v d.v ≠ W (d.w * d.w))) 1
theorem pc58 (d : D4) : PureCall Tryd.prog GD 58 [encD d] (.int .i64 (dirE d)) := by
  refine pureCall_of dh58 rfl ?_
  conv => whnf
  refine .inl ?_
  conv => whnf
  refine ⟨_, pc95 _ _ _, ?_⟩
  conv => whnf
  refine .inl ?_
  conv => whnf
  refine ⟨_, pc94 _ d, ?_⟩
  conv => whnf
  refine .inl ?_
  conv => whnf
  refine ⟨_, pc94 _ d, ?_⟩
  conv => whnf
  refine .inl ?_
  conv => whnf
  refine ⟨_, pc94 _ d, ?_⟩
  conv => whnf
  refine .inl ?_
  conv => whnf
  refine ⟨_, pc57 [_, _, _, _] (by simp), ?_⟩
  conv => whnf
  refine ⟨by kernel_rfl, ?_⟩
  conv => whnf
  refine ⟨fun hb => ?_, fun hb => ?_⟩ <;> try (exact absurd hb (by decide))
  · have hb2 : decide (dirE0 d ≠ 0) = true := hb
    conv => whnf
    exact int_eq (by unfold dirE; rw [if_pos (of_decide_eq_true hb2)]; rfl)
  · have hb2 : decide (dirE0 d ≠ 0) = false := hb
    conv => whnf
    refine .inl ?_
    conv => whnf
    refine ⟨_, pc60 _ _, ?_⟩
    conv => whnf
    refine .inl ?_
    conv => whnf
    refine ⟨_, pc96 _ _, ?_⟩
    conv => whnf
    refine ⟨by kernel_rfl, ?_⟩
    conv => whnf
    exact int_eq (by unfold dirE; rw [if_neg (of_decide_eq_false hb2)]; rfl)
def planeE (d : D4) : Int := firstE [dirE d, whenE (decide (d.v.z < 0)) 34]
theorem pc59 (d : D4) : PureCall Tryd.prog GD 59 [encD d] (.int .i64 (planeE d)) := by
  refine pureCall_of dh59 rfl ?_
  conv => whnf
  refine .inl ?_
  conv => whnf
  refine ⟨_, pc58 d, ?_⟩
  conv => whnf
  refine .inl ?_
  conv => whnf
  refine ⟨_, pc96 _ _, ?_⟩
  conv => whnf
  refine .inl ?_
  conv => whnf
  refine ⟨_, pc57 [_, _] (by simp), ?_⟩
  conv => whnf
  refine ⟨by kernel_rfl, ?_⟩
  conv => whnf
  rfl
def incE (a b : D4) : Int := firstE [dirE a, planeE b]
def incS (a b : D4) : P2 := lowS (max 0 (dotV a.v b.v)) (a.w * b.w)
theorem minmax0 (x : Int) : minmaxI true 0 x = ((max 0 x).toNat : Int) := by
  simp only [minmaxI, cond_true]; split <;> omega
theorem pc16 (a b : D4) (ha : 0 < a.w ∧ a.w ≤ 1000) (hb : 0 < b.w ∧ b.w ≤ 1000) (h : Small (dotV a.v b.v)) :
    PureCall Tryd.prog GD 16 [encD a, encD b] (.tuple [encP (if incE a b ≠ 0 then ⟨0, 0⟩ else incS a b), .int .i64 (incE a b)]) := by
  unfold Small at h
  have hw : 0 < a.w * b.w := Int.mul_pos ha.1 hb.1
  have hw2 : a.w * b.w ≤ 1000 * 1000 := Int.mul_le_mul ha.2 hb.2 (by omega) (by omega)
  obtain ⟨k, hk⟩ := Int.eq_ofNat_of_zero_le (show 0 ≤ a.w * b.w by omega)
  refine pureCall_of dh16 rfl ?_
  conv => whnf
  refine .inl ?_
  conv => whnf
  refine ⟨_, pc58 _, ?_⟩
  conv => whnf
  refine .inl ?_
  conv => whnf
  refine ⟨_, pc59 _, ?_⟩
  conv => whnf
  refine .inl ?_
  conv => whnf
  refine ⟨_, pc57 [_, _] (by simp), ?_⟩
  conv => whnf
  refine ⟨by kernel_rfl, ?_⟩
  conv => whnf
  refine ⟨fun hc => ?_, fun hc => ?_⟩
  · have hb2 : decide (incE a b ≠ 0) = true := hc
    conv => whnf
    rw [if_pos (of_decide_eq_true hb2)]
    rfl
  · have hb2 : decide (incE a b ≠ 0) = false := hc
    conv => whnf
    refine .inl ?_
    conv => whnf
    refine ⟨_, pc60 _ _, ?_⟩
    conv => whnf
    refine ⟨by kernel_rfl, ?_⟩
    conv => whnf
    rw [minmax0, wrap_W, W_in (by omega) (by omega), hk]
    refine .inl ?_
    conv => whnf
    refine ⟨_, pc61 _ _, ?_⟩
    conv => whnf
    have hm : ((max 0 (dotV a.v b.v)).toNat : Int) = max 0 (dotV a.v b.v) := by omega
    have hg : ((Nat.gcd (max 0 (dotV a.v b.v)).toNat k : Nat) : Int) ≠ 0 := by
      have := Nat.gcd_pos_of_pos_right (max 0 (dotV a.v b.v)).toNat (show 0 < k by omega)
      omega
    refine ⟨hg, ?_⟩
    conv => whnf
    refine ⟨hg, ?_⟩
    conv => whnf
    refine ⟨by kernel_rfl, ?_⟩
    conv => whnf
    rw [tdiv_bd _ _ (by omega), tdiv_bd _ _ (by omega), if_neg (of_decide_eq_false hb2), Classical.not_not.1 (of_decide_eq_false hb2)]
    unfold incS lowS
    rw [hk, ← hm]
    rfl
end Sh
