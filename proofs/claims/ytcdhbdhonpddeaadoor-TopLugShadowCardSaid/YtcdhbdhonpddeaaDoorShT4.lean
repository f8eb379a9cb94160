import Derived.Test.YtcdhbdhonpddeaaDoorShT3
namespace Sh
open Go Go.Proofs
def areaAcc (l : List V3) (s : V3) : Nat → Int
  | 0 => 0
  | i + 1 => W (areaAcc l s i + W (W (castX (l.getD i V0) s * castY (aftS l i) s) - W (castX (aftS l i) s * castY (l.getD i V0) s)))
def areaE (l : List V3) (s : V3) : Int := firstE [shapeE l, checkSunS s]
def areaS (l : List V3) (s : V3) : P2 := lowS ((areaAcc l s l.length).natAbs : Int) (W (W (2 * s.z) * s.z))
set_option maxHeartbeats 2000000 in
theorem pc14 (l : List V3) (s : V3) (hl : l.length < 1073741824) (h1 : Small (areaAcc l s l.length)) (h2 : 0 < W (W (2 * s.z) * s.z) ∧ W (W (2 * s.z) * s.z) ≤ 4611686018427387904) :
    PureCall Tryd.prog GD 14 [vL l, encV s] (.tuple [encP (if areaE l s ≠ 0 then ⟨0, 0⟩ else areaS l s), .int .i64 (areaE l s)]) := by
  unfold Small at h1
  refine pureCall_of dh14 rfl ?_
  conv => whnf
  refine .inl ?_
  conv => whnf
  refine ⟨_, pc53 l hl, ?_⟩
  conv => whnf
  refine .inl ?_
  conv => whnf
  refine ⟨_, pc51 _, ?_⟩
  conv => whnf
  refine .inl ?_
  conv => whnf
  refine ⟨_, pc49 [_, _] (by simp), ?_⟩
  conv => whnf
  refine ⟨by kernel_rfl, ?_⟩
  conv => whnf
  refine ⟨fun hb => ?_, fun hb => ?_⟩ <;> try (exact absurd hb (by decide))
  · have hb2 : decide (areaE l s ≠ 0) = true := hb
    conv => whnf
    rw [if_pos (of_decide_eq_true hb2)]
    rfl
  · have hb2 : decide (areaE l s ≠ 0) = false := hb
    have hn : l ≠ [] := by
      intro h0
      apply of_decide_eq_false hb2
      subst h0
      unfold areaE shapeE shapeE0 whenE
      simp [firstE]
    conv => whnf
    refine dwp_loop (α := Nat) (fun i => [(0, vL l), (3, .bptr 3 0), (4, .bptr 4 0), (7, .int .i64 (areaAcc l s i)), (21, vL l), (22, .int .i64 (l.map encV).length), (23, .int .i64 i)]) (fun i => [(3, .box 3 (encV s)), (4, .box 2 (.agg [.int .i64 0, .int .i64 0]))]) (fun i => i ≤ l.length) (fun i => l.length - i) 0 ⟨rfl, rfl, rfl⟩ (Nat.zero_le _) ?_
    intro i hi0
    conv => whnf
    refine ⟨fun hb => ?_, fun hb => ?_⟩ <;> try (exact absurd hb (by decide))
    · have hi : i < l.length := by simpa using hb
      conv => whnf
      rw [getD_enc _ _ (i) V0 hi]
      refine ⟨idxA hi rfl, ?_⟩
      conv => whnf
      refine .inl ?_
      conv => whnf
      refine ⟨_, pc54 l i hn hl (by omega), ?_⟩
      conv => whnf
      refine ⟨⟨by decide, by decide, rfl, rfl⟩, ?_⟩
      conv => whnf
      refine .inl ?_
      conv => whnf
      refine ⟨_, pc55x _ _, ?_⟩
      conv => whnf
      refine ⟨⟨by decide, by decide, rfl, rfl⟩, ?_⟩
      conv => whnf
      refine .inl ?_
      conv => whnf
      refine ⟨_, pc55y _ _, ?_⟩
      conv => whnf
      refine ⟨⟨by decide, by decide, rfl, rfl⟩, ?_⟩
      conv => whnf
      refine .inl ?_
      conv => whnf
      refine ⟨_, pc55x _ _, ?_⟩
      conv => whnf
      refine ⟨⟨by decide, by decide, rfl, rfl⟩, ?_⟩
      conv => whnf
      refine .inl ?_
      conv => whnf
      refine ⟨_, pc55y _ _, ?_⟩
      conv => whnf
      refine ⟨by kernel_rfl, ?_⟩
      conv => whnf
      rw [wrap_succ i (by omega)]
      exact ⟨i + 1, rfl, rfl, rfl, hi, by omega⟩
    · conv => whnf
      have : i = l.length := by simp at hb; omega
      subst this
      rw [max_neg _ (by omega) (by omega)]
      refine .inl ?_
      conv => whnf
      refine ⟨_, pc56 _ _ ⟨by omega, by omega⟩ h2, ?_⟩
      conv => whnf
      rw [if_neg (of_decide_eq_false hb2), Classical.not_not.1 (of_decide_eq_false hb2)]
      rfl
end Sh
