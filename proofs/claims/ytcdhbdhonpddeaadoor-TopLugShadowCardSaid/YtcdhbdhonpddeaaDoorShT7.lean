import Derived.Test.YtcdhbdhonpddeaaDoorShT6
namespace Sh
open Go Go.Proofs
theorem pc9 : PureCall Tryd.prog GD 9 [] (.bool true) := by
  refine pureCall_of dh9 rfl ?_
  conv => whnf
  refine .inl ?_
  conv => whnf
  refine ⟨_, pc13 ⟨4, -3⟩ ⟨0, 3, 4⟩, ?_⟩
  conv => whnf
  refine .inl ?_
  conv => whnf
  refine ⟨_, pc12 ⟨4, -3⟩, ?_⟩
  conv => whnf
  refine .inl ?_
  conv => whnf
  refine ⟨_, pc16 ⟨⟨0, 3, 4⟩, 5⟩ (planeS ⟨4, -3⟩) (by decide) (by decide) (by unfold Small; decide), ?_⟩
  conv => whnf
  refine ⟨by kernel_rfl, ?_⟩
  conv => whnf
  refine .inl ?_
  conv => whnf
  refine ⟨_, pc15 ⟨4, -3⟩ 2 3, ?_⟩
  conv => whnf
  refine .inl ?_
  conv => whnf
  refine ⟨_, pc14 (tableS ⟨4, -3⟩ 2 3) ⟨0, 3, 4⟩ (by decide) (by unfold Small; decide) (by decide), ?_⟩
  conv => whnf
  refine ⟨by kernel_rfl, ?_⟩
  conv => whnf
  refine ⟨fun hb => ?_, fun hb => ?_⟩ <;> try (exact absurd hb (by decide))
  conv => whnf
  refine ⟨fun hb => ?_, fun hb => ?_⟩ <;> try (exact absurd hb (by decide))
  conv => whnf
  refine ⟨fun hb => ?_, fun hb => ?_⟩ <;> try (exact absurd hb (by decide))
  conv => whnf
  refine ⟨fun hb => ?_, fun hb => ?_⟩ <;> try (exact absurd hb (by decide))
  conv => whnf
  refine ⟨fun hb => ?_, fun hb => ?_⟩ <;> try (exact absurd hb (by decide))
  conv => whnf
  exact bool_eq (by decide)
end Sh
