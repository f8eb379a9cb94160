import Derived.Test.YtcdhbdhonpddeaaDoorShT9
import Derived.Test.YtcdhbdhonpddeaaDoorShFast
namespace Sh
open Go Go.Proofs
theorem pc13' {t : P2} {d : D4} (ht : isTilt t) (hd : isSun d) : PureCall Tryd.prog GD 13 [encP t, encV d.v] (.tuple [.int .i64 (gS t d.v), .int .i64 0]) := by
  have h := pc13 t d.v
  rw [gain_ok ht hd, across_eq ht hd, if_neg (by decide)] at h
  exact h
theorem pc14' {t : P2} {d : D4} {s h : Int} (ht : isTilt t) (hs : inTab s h) (hd : isSun d) : PureCall Tryd.prog GD 14 [vL (tableS t s h), encV d.v] (.tuple [encP (lowS (4 * s * (gS t d.v).natAbs) d.v.z), .int .i64 0]) := by
  have h := pc14 (tableS t s h) d.v (Nat.lt_trans (show 4 < 5 by decide) (by decide)) (acc_small ht hs hd) (den_pos hd)
  rw [area_ok ht hs hd, areaS_eq ht hs hd, if_neg (by decide)] at h
  exact h
theorem pc16' {t : P2} {d : D4} (ht : isTilt t) (hd : isSun d) : PureCall Tryd.prog GD 16 [encD d, encD (planeS t)] (.tuple [encP (lowS (max 0 (gS t d.v)) (d.w * (planeS t).w)), .int .i64 0]) := by
  have hp := plane_ok ht
  have hw1 := hd.w1
  have h := pc16 d (planeS t) ⟨by omega, hd.w2⟩ ⟨hp.2.1, hp.2.2⟩ (by rw [dot_plane ht hd]; have := g_bd ht hd; unfold Small; omega)
  unfold incS at h
  rw [inc_ok ht hd, dot_plane ht hd, if_neg (by decide)] at h
  exact h
theorem pc16'' {d : D4} (hd : isSun d) : PureCall Tryd.prog GD 16 [encD d, encD ⟨⟨0, 0, 1⟩, 1⟩] (.tuple [encP (lowS d.v.z d.w), .int .i64 0]) := by
  have hw1 := hd.w1
  have hz1 := hd.z1
  have h := pc16 d ⟨⟨0, 0, 1⟩, 1⟩ ⟨by omega, hd.w2⟩ ⟨by decide, by decide⟩ (by rw [level_dot hd]; have := hd.z1; have := hd.z2; have := hd.w2; unfold Small; omega)
  unfold incS at h
  rw [level_ok hd, level_dot hd, if_neg (by decide), show max 0 d.v.z = d.v.z by omega] at h
  simp only [Int.mul_one] at h
  exact h
theorem pc18' {t : P2} {d : D4} {P : Int} (ht : isTilt t) (hd : isSun d) (h1 : 1 ≤ P) (h2 : P ≤ 256) : PureCall Tryd.prog GD 18 [encP t, encP ⟨P, 0⟩, encV d.v] (.tuple [.bool (decide (2 * ((gS t d.v).natAbs : Int) ≤ P * d.v.z)), .int .i64 0]) := by
  have a := across_p h1 h2 hd
  have b := g_bd ht hd
  have h := pc18 t ⟨P, 0⟩ d.v (by rw [across_eq ht hd]; unfold Small; omega) (by rw [a.1]; unfold Small; omega)
  unfold freeS at h
  rw [free_ok ht hd h1 h2, across_eq ht hd, a.1, if_neg (by decide), Int.natAbs_of_nonneg (a := P * d.v.z) (by omega)] at h
  exact h
theorem pc19' {t : P2} {d : D4} {P : Int} (ht : isTilt t) (hd : isSun d) (h1 : 1 ≤ P) (h2 : P ≤ 256) :
    PureCall Tryd.prog GD 19 [encP t, encP ⟨P, 0⟩, encV d.v] (.tuple [encP (if 2 * ((gS t d.v).natAbs : Int) ≤ P * d.v.z then ⟨0, 1⟩ else lowS (2 * ((gS t d.v).natAbs : Int) - P * d.v.z) (2 * ((gS t d.v).natAbs : Int))), .int .i64 0]) := by
  have a := across_p h1 h2 hd
  have b := g_bd ht hd
  have h := pc19 t ⟨P, 0⟩ d.v (by rw [across_eq ht hd]; unfold Small; omega) (by rw [a.1]; unfold Small; omega)
  unfold shadedS at h
  rw [free_ok ht hd h1 h2, across_eq ht hd, a.1, Int.natAbs_of_nonneg (a := P * d.v.z) (by omega)] at h
  rw [if_neg (show ¬ (0 : Int) ≠ 0 by decide)] at h
  exact h
theorem dwp_seq {P : Program} {G : Nat → Option DV} {a b : DC} {Q : DExit → SP} {t : Tmps} {h : Heap} : dwp P G (.seq a b) Q t h ↔ dwp P G a (seqQ (dwp P G b Q) Q) t h := Iff.rfl
theorem u8_64 (n : Nat) (h : n < 256) : IntKind.i64.wrap (n : Int) = n := by rw [wrap_W, W_in (by omega) (by omega)]
set_option maxRecDepth 100000 in
set_option maxHeartbeats 4000000 in
theorem pc4 (d : D4) (n0 n1 n2 n3 : Nat) (h0 : n0 < 256) (h1 : n1 < 256) (h2 : n2 < 256) (h3 : n3 < 256) :
    PureCall Tryd.prog GD 4 [encD d, .agg [.int .u8 n0, .int .u8 n1, .int .u8 n2, .int .u8 n3]] (.bool true) := by
  refine pureCall_ofR dh4 rfl ?_
  conv => whnf
  refine .inl ?_
  conv => whnf
  refine ⟨_, pc9, ?_⟩
  conv => whnf
  refine ⟨fun hb => ?_, fun hb => ?_⟩ <;> try (exact absurd hb (by decide))
  conv => whnf
  refine .inl ?_
  conv => whnf
  refine ⟨_, pc10 d, ?_⟩
  conv => whnf
  refine ⟨fun hb => ?_, fun hb => ?_⟩ <;> try (exact absurd hb (by decide))
  · conv => whnf
    refine ⟨fun hb => ?_, fun hb => ?_⟩ <;> try (exact absurd hb (by decide))
    · conv => whnf
      refine .inl ?_
      conv => whnf
      refine ⟨_, pc9, ?_⟩
      conv => whnf
      rfl
    · have hz := of_decide_eq_false hb
      have hr : refDirE d = 0 := Classical.not_not.1 (of_decide_eq_false (p := refDirE d ≠ 0) (by assumption))
      have hd := sun_of hr hz
      conv => whnf
      refine .inl ?_
      conv => whnf
      refine ⟨_, pc11, ?_⟩
      conv => whnf
      refine ⟨⟨by decide, by decide⟩, ?_⟩
      conv => whnf
      refine ⟨by decide, ?_⟩
      rw [u8_64 n0 h0, show (n0 : Int).tmod 6 = ((n0 % 6 : Nat) : Int) from tmod_nat n0 6]
      have hk : n0 % 6 < tiltL.length := Nat.mod_lt _ (by decide)
      have hT : isTilt (tiltL.getD (n0 % 6) ⟨0, 0⟩) := by
        unfold isTilt
        rw [List.getD_eq_getElem?_getD, List.getElem?_eq_getElem hk]
        exact List.getElem_mem hk
      conv => whnf
      rw [getD_enc _ _ (n0 % 6) ⟨0, 0⟩ hk]
      refine ⟨idxA hk rfl, ?_⟩
      conv => whnf
      generalize tiltL.getD (n0 % 6) ⟨0, 0⟩ = t at hT ⊢
      refine ⟨by kernel_rfl, ?_⟩
      conv => whnf
      refine ⟨⟨by decide, by decide⟩, ?_⟩
      conv => whnf
      refine ⟨by decide, ?_⟩
      rw [u8_64 n1 h1, show (n1 : Int).tmod 50 = ((n1 % 50 : Nat) : Int) from tmod_nat n1 50]
      conv => whnf
      refine ⟨⟨by decide, by decide⟩, ?_⟩
      conv => whnf
      refine ⟨by decide, ?_⟩
      rw [u8_64 n2 h2, show (n2 : Int).tmod 50 = ((n2 % 50 : Nat) : Int) from tmod_nat n2 50]
      conv => whnf
      have m1 := Nat.mod_lt n1 (show 0 < 50 by decide)
      have m2 := Nat.mod_lt n2 (show 0 < 50 by decide)
      have hS : inTab (IntKind.i64.wrap (1 + ((n1 % 50 : Nat) : Int))) (IntKind.i64.wrap (5 + ((n2 % 50 : Nat) : Int))) := by
        rw [wrap_W, wrap_W, W_in (n := 1 + ((n1 % 50 : Nat) : Int)) (by omega) (by omega), W_in (by omega) (by omega)]
        exact ⟨by omega, by omega, by omega, by omega⟩
      generalize IntKind.i64.wrap (1 + ((n1 % 50 : Nat) : Int)) = s at hS ⊢
      generalize IntKind.i64.wrap (5 + ((n2 % 50 : Nat) : Int)) = h at hS ⊢
      refine ⟨by kernel_rfl, ?_⟩
      conv => whnf
      refine .inl ?_
      conv => whnf
      refine ⟨_, pc12 t, ?_⟩
      conv => whnf
      refine .inl ?_
      conv => whnf
      refine ⟨_, pc13' hT hd, ?_⟩
      conv => whnf
      refine .inl ?_
      conv => whnf
      refine ⟨_, pc15 t s h, ?_⟩
      conv => whnf
      refine .inl ?_
      conv => whnf
      refine ⟨_, pc14' hT hS hd, ?_⟩
      conv => whnf
      refine ⟨by kernel_rfl, ?_⟩
      conv => whnf
      refine .inl ?_
      conv => whnf
      refine ⟨_, pc16' hT hd, ?_⟩
      conv => whnf
      have hg := g_bd hT hd
      refine .inl ?_
      conv => whnf
      refine ⟨_, pc16'' hd, ?_⟩
      conv => whnf
      refine ⟨fun hb => ?_, fun hb => ?_⟩ <;> try (exact absurd hb (by decide))
      conv => whnf
      refine ⟨fun hb => ?_, fun hb => ?_⟩ <;> try (exact absurd hb (by decide))
      conv => whnf
      refine ⟨fun hb => ?_, fun hb => ?_⟩ <;> try (exact absurd hb (by decide))
      conv => whnf
      refine ⟨fun hb => ?_, fun hb => ?_⟩ <;> try (exact absurd hb (by decide))
      conv => whnf
      refine ⟨fun hb1 => ?_, fun hb1 => absurd (of_decide_eq_true (p := gS t d.v < -100000) hb1) (by omega)⟩
      conv => whnf
      refine ⟨fun hb2 => ?_, fun hb2 => absurd (of_decide_eq_true (p := gS t d.v > 100000) hb2) (by omega)⟩
      conv => whnf
      rw [max_neg _ (by omega) (by omega)]
      have s1 := hS.s1
      have s2 := hS.s2
      have z1 := hd.z1
      have z2 := hd.z2
      have w1 := hd.w1
      have w2 := hd.w2
      have b1 := bd2 (a := 4 * s) (b := ((gS t d.v).natAbs : Int)) (A := 200) (B := 17000) (by omega) (by omega) (by omega) (by omega)
      have e4 : IntKind.i64.wrap (IntKind.i64.wrap (4 * s) * ((gS t d.v).natAbs : Int)) = 4 * s * ((gS t d.v).natAbs : Int) := by
        rw [wrap_W, wrap_W, W_in (n := 4 * s) (by omega) (by omega), W_in (by omega) (by omega)]
      rw [e4]
      refine .inl ?_
      conv => whnf
      refine ⟨_, pc17 _ _ ⟨by omega, by omega⟩ ⟨by omega, by omega⟩, ?_⟩
      conv => whnf
      refine ⟨fun hb3 => ?_, fun hb3 => by simp at hb3⟩
      conv => whnf
      refine .inl ?_
      conv => whnf
      refine ⟨_, pc17 _ _ ⟨by omega, by omega⟩ ⟨by omega, by omega⟩, ?_⟩
      conv => whnf
      refine ⟨by kernel_rfl, ?_⟩
      conv => whnf
      refine ⟨fun hb4 => by simp at hb4, fun hb4 => ?_⟩
      conv => whnf
      clear hb4 hb3
      have hP : IntKind.i64.wrap (1 + IntKind.i64.wrap (n3 : Int)) = 1 + (n3 : Int) := by
        rw [u8_64 n3 h3, wrap_W, W_in (by omega) (by omega)]
      have hA := low_bd (4 * s * ((gS t d.v).natAbs : Int)) d.v.z (Int.mul_nonneg (by omega) (by omega)) (by omega)
      refine ⟨fun hb5 => ?_, fun hb5 => ?_⟩
      · have hg0 : 0 ≤ gS t d.v := of_decide_eq_true hb5
        conv => whnf
        refine ⟨fun hb6 => ?_, fun hb6 => ?_⟩
        · exfalso
          apply of_decide_eq_true hb6
          have hp := plane_ok hT
          have hl := law1 s (gS t d.v) d.v.z d.w (planeS t).w (by omega) (by omega) hp.2.1
          simp only [wrap_W, W_mul_l, W_mul_r]
          rw [show max 0 (gS t d.v) = gS t d.v by omega, show ((gS t d.v).natAbs : Int) = gS t d.v by omega, hl]
        · conv => whnf
          refine ⟨⟨by decide, by decide⟩, ?_⟩
          conv => whnf
          rw [hP]
          have hn3 : 1 ≤ 1 + (n3 : Int) ∧ 1 + (n3 : Int) ≤ 256 := by omega
          refine .inl ?_
          conv => whnf
          refine ⟨_, pc18' hT hd (P := 1 + n3) hn3.1 hn3.2, ?_⟩
          conv => whnf
          refine .inl ?_
          conv => whnf
          refine ⟨_, pc19' hT hd (P := 1 + n3) hn3.1 hn3.2, ?_⟩
          conv => whnf
          have b2 := bd2 (a := 2 * s) (b := 1 + (n3 : Int)) (A := 100) (B := 256) (by omega) (by omega) (by omega) (by omega)
          have b3 := bd2 (a := 2 * s * (1 + (n3 : Int))) (b := (lowS (4 * s * ((gS t d.v).natAbs : Int)) d.v.z).y) (A := 100 * 256) (B := 1000) (by omega) (by omega) (by omega) (by omega)
          have e6 : IntKind.i64.wrap (IntKind.i64.wrap (IntKind.i64.wrap (2 * s) * (1 + (n3 : Int))) * (lowS (4 * s * ((gS t d.v).natAbs : Int)) d.v.z).y) = 2 * s * (1 + (n3 : Int)) * (lowS (4 * s * ((gS t d.v).natAbs : Int)) d.v.z).y := by
            rw [wrap_W, wrap_W, wrap_W, W_in (n := 2 * s) (by omega) (by omega), W_in (n := 2 * s * (1 + (n3 : Int))) (by omega) (by omega), W_in (by omega) (by omega)]
          have lf := law_free s ((gS t d.v).natAbs : Int) d.v.z (1 + (n3 : Int)) (by omega) (by omega)
          have pz := (across_p (P := 1 + n3) hn3.1 hn3.2 hd).2.1
          have ls := law_sh0 ((gS t d.v).natAbs : Int) ((1 + (n3 : Int)) * d.v.z) (by omega)
          refine ⟨fun hb => ?_, fun hb => ?_⟩ <;> try (exact absurd hb (by decide))
          conv => whnf
          refine ⟨fun hb => ?_, fun hb => ?_⟩ <;> try (exact absurd hb (by decide))
          conv => whnf
          refine ⟨fun hb7 => ?_, fun hb7 => ?_⟩
          · conv => whnf
            refine ⟨fun hb8 => ?_, fun hb8 => ?_⟩
            · exfalso
              have hb8 : (decide (2 * ((gS t d.v).natAbs : Int) ≤ (1 + (n3 : Int)) * d.v.z) != decide ((if 2 * ((gS t d.v).natAbs : Int) ≤ (1 + (n3 : Int)) * d.v.z then (⟨0, 1⟩ : P2) else lowS (2 * ((gS t d.v).natAbs : Int) - (1 + (n3 : Int)) * d.v.z) (2 * ((gS t d.v).natAbs : Int))).x = 0)) = true := hb8
              rw [decide_eq_decide.2 ls] at hb8
              rw [bne_self_eq_false] at hb8; exact Bool.noConfusion hb8
            · conv => whnf
              refine ⟨fun hf => ?_, fun hf => ?_⟩
              · conv => whnf
                rfl
              · have hf0 := of_decide_eq_false (p := 2 * ((gS t d.v).natAbs : Int) ≤ (1 + (n3 : Int)) * d.v.z) hf
                conv => whnf
                have hx : 0 < (lowS (4 * s * ((gS t d.v).natAbs : Int)) d.v.z).x - 2 * s * (1 + (n3 : Int)) * (lowS (4 * s * ((gS t d.v).natAbs : Int)) d.v.z).y := by
                  have := fun hh => hf0 (lf.1 hh); omega
                have h0y : 0 ≤ 2 * s * (1 + (n3 : Int)) * (lowS (4 * s * ((gS t d.v).natAbs : Int)) d.v.z).y := Int.mul_nonneg (Int.mul_nonneg (by omega) (by omega)) (by omega)
                rw [e6, wrap_W, W_in (n := (lowS (4 * s * ((gS t d.v).natAbs : Int)) d.v.z).x - 2 * s * (1 + (n3 : Int)) * (lowS (4 * s * ((gS t d.v).natAbs : Int)) d.v.z).y) (by omega) (by omega)]
                refine .inl ?_
                conv => whnf
                refine ⟨_, pc17 _ _ ⟨by omega, by omega⟩ ⟨by omega, by omega⟩, ?_⟩
                conv => whnf
                refine ⟨by kernel_rfl, ?_⟩
                conv => whnf
                rw [law_share s ((gS t d.v).natAbs : Int) d.v.z (1 + (n3 : Int)) (by omega) (by omega), if_neg hf0]
                exact bool_eq (by simp)
          · exfalso
            have hb7 : (decide (2 * ((gS t d.v).natAbs : Int) ≤ (1 + (n3 : Int)) * d.v.z) != decide ((lowS (4 * s * ((gS t d.v).natAbs : Int)) d.v.z).x ≤ IntKind.i64.wrap (IntKind.i64.wrap (IntKind.i64.wrap (2 * s) * (1 + (n3 : Int))) * (lowS (4 * s * ((gS t d.v).natAbs : Int)) d.v.z).y))) = true := hb7
            rw [e6, decide_eq_decide.2 lf] at hb7
            rw [bne_self_eq_false] at hb7; exact Bool.noConfusion hb7
      · conv => whnf
        refine ⟨fun h => absurd h (by decide), fun _ => ?_⟩
        conv => whnf
        refine ⟨⟨by decide, by decide⟩, ?_⟩
        conv => whnf
        rw [hP]
        have hn3 : 1 ≤ 1 + (n3 : Int) ∧ 1 + (n3 : Int) ≤ 256 := by omega
        refine .inl ?_
        conv => whnf
        refine ⟨_, pc18' hT hd (P := 1 + n3) hn3.1 hn3.2, ?_⟩
        conv => whnf
        refine .inl ?_
        conv => whnf
        refine ⟨_, pc19' hT hd (P := 1 + n3) hn3.1 hn3.2, ?_⟩
        conv => whnf
        have b2 := bd2 (a := 2 * s) (b := 1 + (n3 : Int)) (A := 100) (B := 256) (by omega) (by omega) (by omega) (by omega)
        have b3 := bd2 (a := 2 * s * (1 + (n3 : Int))) (b := (lowS (4 * s * ((gS t d.v).natAbs : Int)) d.v.z).y) (A := 100 * 256) (B := 1000) (by omega) (by omega) (by omega) (by omega)
        have e6 : IntKind.i64.wrap (IntKind.i64.wrap (IntKind.i64.wrap (2 * s) * (1 + (n3 : Int))) * (lowS (4 * s * ((gS t d.v).natAbs : Int)) d.v.z).y) = 2 * s * (1 + (n3 : Int)) * (lowS (4 * s * ((gS t d.v).natAbs : Int)) d.v.z).y := by
          rw [wrap_W, wrap_W, wrap_W, W_in (n := 2 * s) (by omega) (by omega), W_in (n := 2 * s * (1 + (n3 : Int))) (by omega) (by omega), W_in (by omega) (by omega)]
        have lf := law_free s ((gS t d.v).natAbs : Int) d.v.z (1 + (n3 : Int)) (by omega) (by omega)
        have pz := (across_p (P := 1 + n3) hn3.1 hn3.2 hd).2.1
        have ls := law_sh0 ((gS t d.v).natAbs : Int) ((1 + (n3 : Int)) * d.v.z) (by omega)
        refine ⟨fun hb => ?_, fun hb => ?_⟩ <;> try (exact absurd hb (by decide))
        conv => whnf
        refine ⟨fun hb => ?_, fun hb => ?_⟩ <;> try (exact absurd hb (by decide))
        conv => whnf
        refine ⟨fun hb7 => ?_, fun hb7 => ?_⟩
        · conv => whnf
          refine ⟨fun hb8 => ?_, fun hb8 => ?_⟩
          · exfalso
            have hb8 : (decide (2 * ((gS t d.v).natAbs : Int) ≤ (1 + (n3 : Int)) * d.v.z) != decide ((if 2 * ((gS t d.v).natAbs : Int) ≤ (1 + (n3 : Int)) * d.v.z then (⟨0, 1⟩ : P2) else lowS (2 * ((gS t d.v).natAbs : Int) - (1 + (n3 : Int)) * d.v.z) (2 * ((gS t d.v).natAbs : Int))).x = 0)) = true := hb8
            rw [decide_eq_decide.2 ls] at hb8
            rw [bne_self_eq_false] at hb8; exact Bool.noConfusion hb8
          · conv => whnf
            refine ⟨fun hf => ?_, fun hf => ?_⟩
            · conv => whnf
              rfl
            · have hf0 := of_decide_eq_false (p := 2 * ((gS t d.v).natAbs : Int) ≤ (1 + (n3 : Int)) * d.v.z) hf
              conv => whnf
              have hx : 0 < (lowS (4 * s * ((gS t d.v).natAbs : Int)) d.v.z).x - 2 * s * (1 + (n3 : Int)) * (lowS (4 * s * ((gS t d.v).natAbs : Int)) d.v.z).y := by
                have := fun hh => hf0 (lf.1 hh); omega
              have h0y : 0 ≤ 2 * s * (1 + (n3 : Int)) * (lowS (4 * s * ((gS t d.v).natAbs : Int)) d.v.z).y := Int.mul_nonneg (Int.mul_nonneg (by omega) (by omega)) (by omega)
              rw [e6, wrap_W, W_in (n := (lowS (4 * s * ((gS t d.v).natAbs : Int)) d.v.z).x - 2 * s * (1 + (n3 : Int)) * (lowS (4 * s * ((gS t d.v).natAbs : Int)) d.v.z).y) (by omega) (by omega)]
              refine .inl ?_
              conv => whnf
              refine ⟨_, pc17 _ _ ⟨by omega, by omega⟩ ⟨by omega, by omega⟩, ?_⟩
              conv => whnf
              refine ⟨by kernel_rfl, ?_⟩
              conv => whnf
              rw [law_share s ((gS t d.v).natAbs : Int) d.v.z (1 + (n3 : Int)) (by omega) (by omega), if_neg hf0]
              exact bool_eq (by simp)
        · exfalso
          have hb7 : (decide (2 * ((gS t d.v).natAbs : Int) ≤ (1 + (n3 : Int)) * d.v.z) != decide ((lowS (4 * s * ((gS t d.v).natAbs : Int)) d.v.z).x ≤ IntKind.i64.wrap (IntKind.i64.wrap (IntKind.i64.wrap (2 * s) * (1 + (n3 : Int))) * (lowS (4 * s * ((gS t d.v).natAbs : Int)) d.v.z).y))) = true := hb7
          rw [e6, decide_eq_decide.2 lf] at hb7
          rw [bne_self_eq_false] at hb7; exact Bool.noConfusion hb7
  · conv => whnf
    refine ⟨fun hb => ?_, fun hb => ?_⟩ <;> try (exact absurd hb (by decide))
    conv => whnf
    refine .inl ?_
    conv => whnf
    refine ⟨_, pc9, ?_⟩
    conv => whnf
    rfl
end Sh
