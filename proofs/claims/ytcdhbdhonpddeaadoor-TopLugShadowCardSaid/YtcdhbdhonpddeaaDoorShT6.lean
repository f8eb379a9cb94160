import Derived.Test.YtcdhbdhonpddeaaDoorShT5
namespace Sh
open Go Go.Proofs
theorem pc46 (b : Bool) (e : Int) : PureCall Tryd.prog GD 46 [.bool b, .int .i64 e] (.int .i64 (whenE b e)) := by
  refine pureCall_of dh46 rfl ?_
  conv => whnf
  refine ⟨fun hb => ?_, fun hb => ?_⟩ <;> try (exact absurd hb (by decide))
  all_goals conv => whnf
  all_goals subst hb; rfl
theorem pc48 (n l h : Int) : PureCall Tryd.prog GD 48 [.int .i64 n, .int .i64 l, .int .i64 h] (.int .i64 (withE n l h)) := by
  refine pureCall_of dh48 rfl ?_
  conv => whnf
  refine ⟨fun hb => ?_, fun hb => ?_⟩ <;> try (exact absurd hb (by decide))
  all_goals conv => whnf
  · refine .inl ?_
    conv => whnf
    refine ⟨_, pc46 _ _, ?_⟩
    conv => whnf
    have hl : ¬ n < l := by simpa using hb
    exact int_eq (by simp [withE, whenE, hl])
  · refine .inl ?_
    conv => whnf
    refine ⟨_, pc46 _ _, ?_⟩
    conv => whnf
    exact int_eq (by simp_all [withE, whenE])
theorem pc45 (l : List Int) (hl : l.length < 4611686018427387904) : PureCall Tryd.prog GD 45 [iL l] (.int .i64 (firstE l)) := by
  refine pureCall_of dh45 rfl ?_
  conv => whnf
  refine dwp_loop (α := Nat) (fun i => [(0, iL l), (3, .int .i64 i)]) (fun _ => []) (fun i => i ≤ l.length ∧ firstE l = firstE (l.drop i)) (fun i => l.length - i) 0 ⟨rfl, rfl, rfl⟩ ⟨Nat.zero_le _, rfl⟩ ?_
  intro i ⟨h1, h2⟩
  conv => whnf
  refine ⟨fun hb => ?_, fun hb => ?_⟩ <;> try (exact absurd hb (by decide))
  · have hi : i < l.length := by simpa using hb
    have hd := firstE_drop l i hi
    conv => whnf
    rw [getD_enc _ _ (i) 0 hi]
    refine ⟨idxA hi rfl, ?_⟩
    conv => whnf
    refine ⟨fun hb => ?_, fun hb => ?_⟩ <;> try (exact absurd hb (by decide))
    · conv => whnf
      rw [getD_enc _ _ (i) 0 hi]
      refine ⟨idxA hi rfl, ?_⟩
      conv => whnf
      exact int_eq (by simp_all)
    · conv => whnf
      rw [wrap_succ i (by omega)]
      exact ⟨i + 1, rfl, rfl, rfl, ⟨hi, by simp_all⟩, by omega⟩
  · conv => whnf
    have : i = l.length := by simp at hb; omega
    subst this
    exact int_eq (by rw [h2]; simp [firstE])
def refDirE0 (d : D4) : Int := firstE [withE d.v.x (W (0 - d.w)) d.w, withE d.v.y (W (0 - d.w)) d.w, withE d.v.z (W (0 - d.w)) d.w]
def refDirE (d : D4) : Int := if withE d.w 1 1000 ≠ 0 then withE d.w 1 1000 else if refDirE0 d ≠ 0 then refDirE0 d else whenE (decide (dotV d.v d.v ≠ W (d.w * d.w))) 1
theorem pc10 (d : D4) : PureCall Tryd.prog GD 10 [encD d] (.int .i64 (refDirE d)) := by
  refine pureCall_of dh10 rfl ?_
  conv => whnf
  refine .inl ?_
  conv => whnf
  refine ⟨_, pc48 _ _ _, ?_⟩
  conv => whnf
  refine ⟨fun hb => ?_, fun hb => ?_⟩ <;> try (exact absurd hb (by decide))
  · conv => whnf
    exact int_eq (by unfold refDirE; rw [if_pos (of_decide_eq_true hb)])
  · have hb1 := of_decide_eq_false hb
    conv => whnf
    refine .inl ?_
    conv => whnf
    refine ⟨_, pc48 _ _ _, ?_⟩
    conv => whnf
    refine .inl ?_
    conv => whnf
    refine ⟨_, pc48 _ _ _, ?_⟩
    conv => whnf
    refine .inl ?_
    conv => whnf
    refine ⟨_, pc48 _ _ _, ?_⟩
    conv => whnf
    refine .inl ?_
    conv => whnf
    refine ⟨_, pc45 [_, _, _] (by simp), ?_⟩
    conv => whnf
    refine ⟨by kernel_rfl, ?_⟩
    conv => whnf
    refine ⟨fun hb => ?_, fun hb => ?_⟩ <;> try (exact absurd hb (by decide))
    · have hb2 : decide (refDirE0 d ≠ 0) = true := hb
      conv => whnf
      exact int_eq (by unfold refDirE; rw [if_neg hb1, if_pos (of_decide_eq_true hb2)]; rfl)
    · have hb2 : decide (refDirE0 d ≠ 0) = false := hb
      conv => whnf
      refine .inl ?_
      conv => whnf
      refine ⟨_, pc46 _ _, ?_⟩
      conv => whnf
      exact int_eq (by unfold refDirE; rw [if_neg hb1, if_neg (of_decide_eq_false hb2)]; simp only [wrap_W, dotV, W_add_l, W_add_r]; rfl)
theorem pc17 (num den : Int) (hn : -4611686018427387904 ≤ num ∧ num ≤ 4611686018427387904) (hd : 0 < den ∧ den ≤ 4611686018427387904) : PureCall Tryd.prog GD 17 [.int .i64 num, .int .i64 den] (encP (lowS num den)) := by
  refine pureCall_of dh17 rfl ?_
  conv => whnf
  refine ⟨fun hb => ?_, fun hb => ?_⟩ <;> try (exact absurd hb (by decide))
  · exact absurd (of_decide_eq_true hb) (by omega)
  · conv => whnf
    refine .inl ?_
    conv => whnf
    refine ⟨_, pc62 _ _ hn (by omega), ?_⟩
    conv => whnf
    refine ⟨gcd_pos hd.1, ?_⟩
    conv => whnf
    refine ⟨gcd_pos hd.1, ?_⟩
    conv => whnf
    refine ⟨by kernel_rfl, ?_⟩
    conv => whnf
    rw [tdiv_bd num _ hn, tdiv_bd den _ (by omega)]
    rfl
def planeS (t : P2) : D4 := ⟨⟨0, W (0 - t.y), t.x⟩, if t.x = 12 then 13 else 5⟩
theorem pc12 (t : P2) : PureCall Tryd.prog GD 12 [encP t] (encD (planeS t)) := by
  refine pureCall_of dh12 rfl ?_
  conv => whnf
  refine ⟨fun hb => ?_, fun hb => ?_⟩ <;> try (exact absurd hb (by decide))
  · have := of_decide_eq_true hb
    conv => whnf
    unfold planeS
    rw [if_pos this]
    rfl
  · have := of_decide_eq_false hb
    conv => whnf
    unfold planeS
    rw [if_neg this]
    rfl
def tableS (t : P2) (side h : Int) : List V3 := [⟨W (0 - side), W (0 - t.x), W (h - t.y)⟩, ⟨side, W (0 - t.x), W (h - t.y)⟩, ⟨side, t.x, W (h + t.y)⟩, ⟨W (0 - side), t.x, W (h + t.y)⟩]
theorem pc15 (t : P2) (side h : Int) : PureCall Tryd.prog GD 15 [encP t, .int .i64 side, .int .i64 h] (vL (tableS t side h)) := by
  refine pureCall_of dh15 rfl ?_
  conv => whnf
  rfl
def tiltL : List P2 := [⟨5, 0⟩, ⟨4, -3⟩, ⟨4, 3⟩, ⟨3, -4⟩, ⟨3, 4⟩, ⟨12, 5⟩]
theorem pc11 : PureCall Tryd.prog GD 11 [.int .i64 6] (.list (tiltL.map encP)) := by
  refine pureCall_of dh11 rfl ?_
  conv => whnf
  refine ⟨⟨by decide, by decide, by decide, by decide⟩, ?_⟩
  conv => whnf
  refine ⟨⟨by decide, by decide, by intro e he; cases he⟩, ?_⟩
  conv => whnf
  rfl
end Sh
