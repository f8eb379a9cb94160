import Derived.Test.YtcdhbdhonpddeaaDoorShT2
namespace Sh
open Go Go.Proofs
def shapeE0 (l : List V3) : Int := firstE [whenE (decide ((l.length : Int) < 3)) 16, whenE (decide ((l.length : Int) > 6)) 5, firstE (l.map cornerE)]
def shapeE (l : List V3) : Int := if shapeE0 l ≠ 0 then shapeE0 l else whenE (!flatS l) 1
theorem pc53 (l : List V3) (hl : l.length < 1073741824) : PureCall Tryd.prog GD 53 [vL l] (.int .i64 (shapeE l)) := by
  have hlen : (l.map encV).length = l.length := List.length_map _
  refine pureCall_of dh53 rfl ?_
  conv => whnf
  rw [hlen]
  refine .inl ?_
  conv => whnf
  refine ⟨_, pc90 _ _, ?_⟩
  conv => whnf
  rw [hlen]
  refine .inl ?_
  conv => whnf
  refine ⟨_, pc90 _ _, ?_⟩
  conv => whnf
  refine .inl ?_
  conv => whnf
  refine ⟨_, pc91 l hl 92 cornerE pc92, ?_⟩
  conv => whnf
  refine .inl ?_
  conv => whnf
  refine ⟨_, pc49 (l.map cornerE) (by simp; omega), ?_⟩
  conv => whnf
  refine .inl ?_
  conv => whnf
  refine ⟨_, pc49 [_, _, _] (by simp), ?_⟩
  conv => whnf
  refine ⟨fun hb => ?_, fun hb => ?_⟩ <;> try (exact absurd hb (by decide))
  · have hb2 : decide (shapeE0 l ≠ 0) = true := hb
    conv => whnf
    exact int_eq (by unfold shapeE; rw [if_pos (of_decide_eq_true hb2)]; rfl)
  · have hb2 : decide (shapeE0 l ≠ 0) = false := hb
    have h3 : 3 ≤ l.length := by
      false_or_by_contra
      apply of_decide_eq_false hb2
      unfold shapeE0 whenE
      rw [decide_eq_true (by omega : (l.length : Int) < 3)]
      simp [firstE]
    conv => whnf
    refine .inl ?_
    conv => whnf
    refine ⟨_, pc93 l h3 hl, ?_⟩
    conv => whnf
    refine .inl ?_
    conv => whnf
    refine ⟨_, pc90 _ _, ?_⟩
    conv => whnf
    exact int_eq (by unfold shapeE; rw [if_neg (of_decide_eq_false hb2)])
def pitchE (p : P2) : Int := firstE [withE p.x 1 1000, withE p.y (-1000) 1000]
theorem pc63 (p : P2) : PureCall Tryd.prog GD 63 [encP p] (.int .i64 (pitchE p)) := by
  refine pureCall_of dh63 rfl ?_
  conv => whnf
  refine .inl ?_
  conv => whnf
  refine ⟨_, pc89 _ _ _, ?_⟩
  conv => whnf
  refine .inl ?_
  conv => whnf
  refine ⟨_, pc89 _ _ _, ?_⟩
  conv => whnf
  refine .inl ?_
  conv => whnf
  refine ⟨_, pc49 [_, _] (by simp), ?_⟩
  conv => whnf
  refine ⟨by kernel_rfl, ?_⟩
  conv => whnf
  rfl
theorem pc64 (p : P2) (n : Int) (s : V3) : PureCall Tryd.prog GD 64 [encP p, .int .i64 n, encV s] (.agg [.int .i64 p.x, .int .i64 p.y, .int .i64 (acrossS p s), .int .i64 n]) := by
  refine pureCall_of dh64 rfl ?_
  conv => whnf
  rw [show IntKind.i64.wrap (IntKind.i64.wrap (p.x * s.z) - IntKind.i64.wrap (p.y * s.y)) = acrossS p s by unfold acrossS; simp only [wrap_W, W_sub_l, W_sub_r]]
  rfl
theorem pc65 (x y g n : Int) (h : -2305843009213693952 ≤ g ∧ g ≤ 2305843009213693952) : PureCall Tryd.prog GD 65 [.agg [.int .i64 x, .int .i64 y, .int .i64 g, .int .i64 n]] (.int .i64 (2 * (g.natAbs : Int))) := by
  refine pureCall_of dh65 rfl ?_
  conv => whnf
  rw [max_neg g (by omega) (by omega)]
  exact int_eq (by rw [wrap_W, W_in (by omega) (by omega)])
theorem pc66 (p : P2) (s : V3) (h : -2305843009213693952 ≤ acrossS p s ∧ acrossS p s ≤ 2305843009213693952) : PureCall Tryd.prog GD 66 [encP p, encV s] (.int .i64 ((acrossS p s).natAbs : Int)) := by
  refine pureCall_of dh66 rfl ?_
  conv => whnf
  refine .inl ?_
  conv => whnf
  refine ⟨_, pc52 _ _, ?_⟩
  conv => whnf
  rw [max_neg _ (by omega) (by omega)]
  rfl
def freeE (t p : P2) (s : V3) : Int := firstE [checkTiltS t, pitchE p, checkSunS s]
def Small (n : Int) : Prop := -2305843009213693952 ≤ n ∧ n ≤ 2305843009213693952
def freeS (t p : P2) (s : V3) : Bool := decide (2 * ((acrossS t s).natAbs : Int) ≤ (acrossS p s).natAbs)
theorem pc18 (t p : P2) (s : V3) (h1 : Small (acrossS t s)) (h2 : Small (acrossS p s)) :
    PureCall Tryd.prog GD 18 [encP t, encP p, encV s] (.tuple [.bool (if freeE t p s ≠ 0 then false else freeS t p s), .int .i64 (freeE t p s)]) := by
  refine pureCall_of dh18 rfl ?_
  conv => whnf
  refine .inl ?_
  conv => whnf
  refine ⟨_, pc50 _, ?_⟩
  conv => whnf
  refine .inl ?_
  conv => whnf
  refine ⟨_, pc63 _, ?_⟩
  conv => whnf
  refine .inl ?_
  conv => whnf
  refine ⟨_, pc51 _, ?_⟩
  conv => whnf
  refine .inl ?_
  conv => whnf
  refine ⟨_, pc49 [_, _, _] (by simp), ?_⟩
  conv => whnf
  refine ⟨by kernel_rfl, ?_⟩
  conv => whnf
  refine ⟨fun hb => ?_, fun hb => ?_⟩ <;> try (exact absurd hb (by decide))
  · have hb2 : decide (freeE t p s ≠ 0) = true := hb
    conv => whnf
    rw [if_pos (of_decide_eq_true hb2)]
    rfl
  · have hb2 : decide (freeE t p s ≠ 0) = false := hb
    conv => whnf
    refine .inl ?_
    conv => whnf
    refine ⟨_, pc64 _ _ _, ?_⟩
    conv => whnf
    refine .inl ?_
    conv => whnf
    refine ⟨_, pc65 _ _ _ _ h1, ?_⟩
    conv => whnf
    refine .inl ?_
    conv => whnf
    refine ⟨_, pc66 _ _ h2, ?_⟩
    conv => whnf
    refine ⟨by kernel_rfl, ?_⟩
    conv => whnf
    rw [if_neg (of_decide_eq_false hb2), Classical.not_not.1 (of_decide_eq_false hb2)]
    rfl
def shadedS (t p : P2) (s : V3) : P2 :=
  if 2 * ((acrossS t s).natAbs : Int) ≤ (acrossS p s).natAbs then ⟨0, 1⟩ else lowS (2 * ((acrossS t s).natAbs : Int) - (acrossS p s).natAbs) (2 * ((acrossS t s).natAbs : Int))
theorem pc19 (t p : P2) (s : V3) (h1 : Small (acrossS t s)) (h2 : Small (acrossS p s)) :
    PureCall Tryd.prog GD 19 [encP t, encP p, encV s] (.tuple [encP (if freeE t p s ≠ 0 then ⟨0, 0⟩ else shadedS t p s), .int .i64 (freeE t p s)]) := by
  unfold Small at h1 h2
  refine pureCall_of dh19 rfl ?_
  conv => whnf
  refine .inl ?_
  conv => whnf
  refine ⟨_, pc50 _, ?_⟩
  conv => whnf
  refine .inl ?_
  conv => whnf
  refine ⟨_, pc63 _, ?_⟩
  conv => whnf
  refine .inl ?_
  conv => whnf
  refine ⟨_, pc51 _, ?_⟩
  conv => whnf
  refine .inl ?_
  conv => whnf
  refine ⟨_, pc49 [_, _, _] (by simp), ?_⟩
  conv => whnf
  refine ⟨by kernel_rfl, ?_⟩
  conv => whnf
  refine ⟨fun hb => ?_, fun hb => ?_⟩ <;> try (exact absurd hb (by decide))
  · have hb2 : decide (freeE t p s ≠ 0) = true := hb
    conv => whnf
    rw [if_pos (of_decide_eq_true hb2)]
    rfl
  · have hb2 : decide (freeE t p s ≠ 0) = false := hb
    conv => whnf
    refine .inl ?_
    conv => whnf
    refine ⟨_, pc64 _ _ _, ?_⟩
    conv => whnf
    refine .inl ?_
    conv => whnf
    refine ⟨_, pc65 _ _ _ _ h1, ?_⟩
    conv => whnf
    refine .inl ?_
    conv => whnf
    refine ⟨_, pc66 _ _ h2, ?_⟩
    conv => whnf
    refine ⟨by kernel_rfl, ?_⟩
    conv => whnf
    rw [if_neg (of_decide_eq_false hb2), Classical.not_not.1 (of_decide_eq_false hb2)]
    refine ⟨fun hb => ?_, fun hb => ?_⟩ <;> try (exact absurd hb (by decide))
    · have hb3 := of_decide_eq_true hb
      conv => whnf
      unfold shadedS
      rw [if_pos hb3]
      rfl
    · have hb3 := of_decide_eq_false hb
      conv => whnf
      rw [wrap_W, W_in (by omega) (by omega)]
      refine .inl ?_
      conv => whnf
      refine ⟨_, pc56 _ _ ⟨by omega, by omega⟩ ⟨by omega, by omega⟩, ?_⟩
      conv => whnf
      unfold shadedS
      rw [if_neg hb3]
      rfl
end Sh
