import Derived.Test.YtcdhbdhonpddeaaDoorShT1
namespace Sh
open Go Go.Proofs
def cornerE (v : V3) : Int := firstE [withE v.x (-1000) 1000, withE v.y (-1000) 1000, withE v.z 0 1000]
theorem pc92 (v : V3) : PureCall Tryd.prog GD 92 [encV v] (.int .i64 (cornerE v)) := by
  refine pureCall_of dh92 rfl ?_
  conv => whnf
  refine .inl ?_
  conv => whnf
  refine ⟨_, pc89 _ _ _, ?_⟩
  conv => whnf
  refine .inl ?_
  conv => whnf
  refine ⟨_, pc89 _ _ _, ?_⟩
  conv => whnf
  refine .inl ?_
  conv => whnf
  refine ⟨_, pc89 _ _ _, ?_⟩
  conv => whnf
  refine .inl ?_
  conv => whnf
  refine ⟨_, pc49 [_, _, _] (by simp), ?_⟩
  conv => whnf
  refine ⟨by kernel_rfl, ?_⟩
  conv => whnf
  rfl
def V0 : V3 := ⟨0, 0, 0⟩
def aftS (l : List V3) (i : Nat) : V3 := l.getD ((i + 1) % l.length) V0
theorem pc54 (l : List V3) (i : Nat) (h : l ≠ []) (hl : l.length < 1073741824) (hi : i < 4611686018427387904) : PureCall Tryd.prog GD 54 [vL l, .int .i64 (i : Nat)] (encV (aftS l i)) := by
  have h0 : 0 < l.length := List.length_pos_iff.2 h
  refine pureCall_of dh54 rfl ?_
  conv => whnf
  rw [wrap_succ i (by omega), List.length_map, tmod_nat]
  refine ⟨by omega, ?_⟩
  conv => whnf
  have h2 := Nat.mod_lt (i + 1) h0
  rw [getD_enc _ _ ((i+1) % l.length) V0 h2]
  refine ⟨idxA h2 rfl, ?_⟩
  conv => whnf
  rfl
def normS (l : List V3) : V3 := crossV (lessV (l.getD 1 V0) (l.getD 0 V0)) (lessV (l.getD 2 V0) (l.getD 1 V0))
theorem pc115 (l : List V3) (h : 3 ≤ l.length) : PureCall Tryd.prog GD 115 [vL l] (encV (normS l)) := by
  have h0 : (0 : Int) < l.length := by omega
  have h1 : (1 : Int) < l.length := by omega
  have h2 : (2 : Int) < l.length := by omega
  refine pureCall_of dh115 rfl ?_
  conv => whnf
  rw [getD_enc' _ _ (1) V0 (by decide) h1]
  refine ⟨idxB (by decide) h1 rfl, ?_⟩
  conv => whnf
  rw [getD_enc' _ _ (0) V0 (by decide) h0]
  refine ⟨idxB (by decide) h0 rfl, ?_⟩
  conv => whnf
  refine .inl ?_
  conv => whnf
  refine ⟨_, pc116 _ _, ?_⟩
  conv => whnf
  rw [getD_enc' _ _ (2) V0 (by decide) h2]
  refine ⟨idxB (by decide) h2 rfl, ?_⟩
  conv => whnf
  rw [getD_enc' _ _ (1) V0 (by decide) h1]
  refine ⟨idxB (by decide) h1 rfl, ?_⟩
  conv => whnf
  refine .inl ?_
  conv => whnf
  refine ⟨_, pc116 _ _, ?_⟩
  conv => whnf
  refine .inl ?_
  conv => whnf
  refine ⟨_, pc118 _ _, ?_⟩
  conv => whnf
  refine ⟨by kernel_rfl, ?_⟩
  conv => whnf
  rfl
def castX (c s : V3) : Int := W (c.x * s.z - c.z * s.x)
def castY (c s : V3) : Int := W (c.y * s.z - c.z * s.y)
theorem pc55x (c s : V3) : PureCall Tryd.prog GD 55 [.agg [.func 162 []], encV c, encV s] (.int .i64 (castX c s)) := by
  refine pureCall_of dh55 rfl ?_
  conv => whnf
  refine .inl ?_
  conv => whnf
  refine ⟨_, pc162 _, ?_⟩
  conv => whnf
  refine .inl ?_
  conv => whnf
  refine ⟨_, pc162 _, ?_⟩
  conv => whnf
  refine ⟨by kernel_rfl, ?_⟩
  conv => whnf
  exact int_eq (by simp only [wrap_W, W_sub_l, W_sub_r]; rfl)
theorem pc55y (c s : V3) : PureCall Tryd.prog GD 55 [.agg [.func 163 []], encV c, encV s] (.int .i64 (castY c s)) := by
  refine pureCall_of dh55 rfl ?_
  conv => whnf
  refine .inl ?_
  conv => whnf
  refine ⟨_, pc163 _, ?_⟩
  conv => whnf
  refine .inl ?_
  conv => whnf
  refine ⟨_, pc163 _, ?_⟩
  conv => whnf
  refine ⟨by kernel_rfl, ?_⟩
  conv => whnf
  exact int_eq (by simp only [wrap_W, W_sub_l, W_sub_r]; rfl)
def okIn (n c side o : V3) : Bool := !decide (dotV n (crossV side (lessV o c)) < 0)
def sideS (l : List V3) (i : Nat) : V3 := lessV (aftS l i) (l.getD i V0)
def nextS' (l : List V3) (i : Nat) : V3 := lessV (aftS l (i + 1)) (aftS l i)
def okAt (l : List V3) (i : Nat) : Bool :=
  !decide (dotV (normS l) (lessV (l.getD i V0) (l.getD 0 V0)) ≠ 0) && (!decide (dotV (normS l) (crossV (sideS l i) (nextS' l i)) ≤ 0) && l.all (okIn (normS l) (l.getD i V0) (sideS l i)))
def flatS (l : List V3) : Bool := (List.range l.length).all (okAt l)
theorem flat_false {l : List V3} {i : Nat} (hi : i < l.length) (h : okAt l i = false) : flatS l = false := by
  unfold flatS; rw [List.all_eq_false]; exact ⟨i, List.mem_range.2 hi, by simp [h]⟩
theorem range_all (p : Nat → Bool) (i : Nat) (h : (List.range i).all p = true) (h2 : p i = true) : (List.range (i + 1)).all p = true := by
  rw [List.range_succ, List.all_append, h]; simp [h2]
theorem take_all {α : Type} (p : α → Bool) (l : List α) (i : Nat) (d : α) (hi : i < l.length) (h : (l.take i).all p = true) (h2 : p (l.getD i d) = true) : (l.take (i + 1)).all p = true := by
  rw [take_snoc l i d hi, List.all_append, h, List.all_cons, h2]; rfl
theorem all_false {α : Type} (p : α → Bool) (l : List α) (i : Nat) (d : α) (hi : i < l.length) (h2 : p (l.getD i d) = false) : l.all p = false := by
  rw [List.all_eq_false]
  have : l.getD i d = l[i] := by simp [List.getD_eq_getElem?_getD, hi]
  exact ⟨l[i], List.getElem_mem hi, by rw [← this, h2]; simp⟩
theorem bool_eq {a b : Bool} (h : a = b) : DV.bool a = .bool b := by rw [h]
set_option maxHeartbeats 2000000 in
theorem pc93 (l : List V3) (h : 3 ≤ l.length) (hl : l.length < 1073741824) : PureCall Tryd.prog GD 93 [vL l] (.bool (flatS l)) := by
  have hn : l ≠ [] := by intro h0; rw [h0] at h; simp at h
  have h0 : (0 : Int) < l.length := by omega
  refine pureCall_of dh93 rfl ?_
  conv => whnf
  refine .inl ?_
  conv => whnf
  refine ⟨_, pc115 l h, ?_⟩
  conv => whnf
  refine dwp_loop (α := Nat) (fun i => [(0, vL l), (3, .bptr 3 0), (12, vL l), (13, .int .i64 (l.map encV).length), (14, .int .i64 i)]) (fun i => [(3, .box 3 (encV (normS l)))]) (fun i => i ≤ l.length ∧ (List.range i).all (okAt l) = true) (fun i => l.length - i) 0 ⟨rfl, rfl, rfl⟩ ⟨Nat.zero_le _, rfl⟩ ?_
  intro i ⟨hi, hall⟩
  conv => whnf
  refine ⟨fun hb => ?_, fun hb => ?_⟩ <;> try (exact absurd hb (by decide))
  · have hi : i < l.length := by simpa using hb
    conv => whnf
    rw [getD_enc _ _ (i) V0 hi]
    refine ⟨idxA hi rfl, ?_⟩
    conv => whnf
    refine .inl ?_
    conv => whnf
    refine ⟨_, pc54 l i hn hl (by omega), ?_⟩
    conv => whnf
    refine .inl ?_
    conv => whnf
    refine ⟨_, pc116 _ _, ?_⟩
    conv => whnf
    refine ⟨by kernel_rfl, ?_⟩
    conv => whnf
    rw [wrap_succ i (by omega)]
    refine .inl ?_
    conv => whnf
    refine ⟨_, pc54 l (i + 1) hn hl (by omega), ?_⟩
    conv => whnf
    refine .inl ?_
    conv => whnf
    refine ⟨_, pc54 l i hn hl (by omega), ?_⟩
    conv => whnf
    refine .inl ?_
    conv => whnf
    refine ⟨_, pc116 _ _, ?_⟩
    conv => whnf
    rw [getD_enc' _ _ (0) V0 (by decide) h0]
    refine ⟨idxB (by decide) h0 rfl, ?_⟩
    conv => whnf
    refine .inl ?_
    conv => whnf
    refine ⟨_, pc116 _ _, ?_⟩
    conv => whnf
    refine .inl ?_
    conv => whnf
    refine ⟨_, pc117 _ _, ?_⟩
    conv => whnf
    refine ⟨fun hb => ?_, fun hb => ?_⟩ <;> try (exact absurd hb (by decide))
    · have hb1 := hb
      conv => whnf
      refine .inl ?_
      conv => whnf
      refine ⟨_, pc118 _ _, ?_⟩
      conv => whnf
      refine .inl ?_
      conv => whnf
      refine ⟨_, pc117 _ _, ?_⟩
      conv => whnf
      refine ⟨by kernel_rfl, ?_⟩
      conv => whnf
      refine ⟨fun hb => ?_, fun hb => ?_⟩ <;> try (exact absurd hb (by decide))
      · have hb2 : decide (dotV (normS l) (crossV (sideS l i) (nextS' l i)) ≤ 0) = true := hb
        conv => whnf
        exact bool_eq (flat_false hi (by unfold okAt; rw [hb2]; simp)).symm
      · have hb2 : decide (dotV (normS l) (crossV (sideS l i) (nextS' l i)) ≤ 0) = false := hb
        conv => whnf
        refine dwp_loop (α := Nat) (fun j => [(0, vL l), (3, .bptr 3 0), (5, .bptr 5 0), (6, .bptr 6 0), (12, vL l), (13, .int .i64 (l.map encV).length), (14, .int .i64 i), (48, vL l), (49, .int .i64 (l.map encV).length), (50, .int .i64 j)]) (fun j => [(3, .box 3 (encV (normS l))), (5, .box 3 (encV (l.getD i V0))), (6, .box 3 (encV (sideS l i))), (7, .box 3 (encV (nextS' l i)))]) (fun j => j ≤ l.length ∧ (l.take j).all (okIn (normS l) (l.getD i V0) (sideS l i)) = true) (fun j => l.length - j) 0 ⟨rfl, rfl, rfl⟩ ⟨Nat.zero_le _, rfl⟩ ?_
        intro j ⟨hj, hin⟩
        conv => whnf
        refine ⟨fun hb => ?_, fun hb => ?_⟩ <;> try (exact absurd hb (by decide))
        · have hj : j < l.length := by simpa using hb
          conv => whnf
          rw [getD_enc _ _ (j) V0 hj]
          refine ⟨idxA hj rfl, ?_⟩
          conv => whnf
          refine .inl ?_
          conv => whnf
          refine ⟨_, pc116 _ _, ?_⟩
          conv => whnf
          refine .inl ?_
          conv => whnf
          refine ⟨_, pc118 _ _, ?_⟩
          conv => whnf
          refine .inl ?_
          conv => whnf
          refine ⟨_, pc117 _ _, ?_⟩
          conv => whnf
          refine ⟨by kernel_rfl, ?_⟩
          conv => whnf
          refine ⟨fun hb => ?_, fun hb => ?_⟩ <;> try (exact absurd hb (by decide))
          · have hb2 : decide (dotV (normS l) (crossV (sideS l i) (lessV (l.getD j V0) (l.getD i V0))) < 0) = true := hb
            conv => whnf
            exact bool_eq (flat_false hi (by unfold okAt; rw [all_false _ l j V0 hj (by unfold okIn; rw [hb2]; rfl)]; simp)).symm
          · have hb2 : decide (dotV (normS l) (crossV (sideS l i) (lessV (l.getD j V0) (l.getD i V0))) < 0) = false := hb
            conv => whnf
            rw [wrap_succ j (by omega)]
            exact ⟨j + 1, rfl, rfl, rfl, ⟨hj, take_all _ l j V0 hj hin (by unfold okIn; rw [hb2]; rfl)⟩, by omega⟩
        · conv => whnf
          have : j = l.length := by simp at hb; omega
          subst this
          rw [List.take_length] at hin
          rw [wrap_succ i (by omega)]
          exact ⟨i + 1, rfl, rfl, rfl, ⟨hi, range_all _ i hall (by
            have q1 : decide (dotV (normS l) (lessV (l.getD i V0) (l.getD 0 V0)) ≠ 0) = false := hb1
            unfold okAt; rw [q1, hb2, hin]; rfl)⟩, by omega⟩
    · have hb2 : decide (dotV (normS l) (lessV (l.getD i V0) (l.getD 0 V0)) ≠ 0) = true := hb
      conv => whnf
      refine ⟨by kernel_rfl, ?_⟩
      conv => whnf
      refine ⟨fun hb => ?_, fun hb => ?_⟩ <;> try (exact absurd hb (by decide))
      · conv => whnf
        exact bool_eq (flat_false hi (by unfold okAt; rw [hb2]; rfl)).symm
  · conv => whnf
    have : i = l.length := by simp at hb; omega
    subst this
    exact bool_eq hall.symm
end Sh
