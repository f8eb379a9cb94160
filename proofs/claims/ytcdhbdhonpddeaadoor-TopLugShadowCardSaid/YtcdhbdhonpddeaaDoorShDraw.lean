/- Regions: in the order of the text, and in any order. -/
import Derived.Test.YtcdhbdhonpddeaaDoorShStep
set_option linter.unusedVariables false
set_option linter.unusedSectionVars false
set_option linter.unusedSimpArgs false
namespace Sh
open Go

/-! What was compiled. -/

theorem memB_iff (n : Nat) : ∀ l : List Nat, memB n l = true ↔ n ∈ l
  | [] => by simp [memB]
  | k :: r => by
    unfold memB
    rw [natbeq]
    by_cases e : k = n
    · simp [e]
    · simp [e, memB_iff n r, Ne.symm e]

theorem mem_insertN {m n : Nat} {l : List Nat} (h : m ∈ insertN n l) : m = n ∨ m ∈ l := by
  unfold insertN at h
  cases hb : memB n l
  · rw [hb] at h; simp at h; exact h.symm
  · rw [hb] at h; exact .inr h

theorem mem_unionN {m : Nat} : ∀ {b a : List Nat}, m ∈ unionN a b → m ∈ a ∨ m ∈ b
  | [], a, h => .inl h
  | x :: r, a, h => by
    have h' : m ∈ unionN (insertN x a) r := h
    rcases mem_unionN h' with h1 | h1
    · rcases mem_insertN h1 with rfl | h2
      · exact .inr (by simp)
      · exact .inl h2
    · exact .inr (by simp [h1])

theorem mem_befOf {m : Nat} {o : Oper} {befs : List (List Nat)} (h : m ∈ befOf o befs) : ∃ e ∈ o.after, Region.binds .any e = true ∧ (m = e.on ∨ m ∈ befs.getD e.on []) := by
  have key : ∀ (l : List Edge) (s : List Nat), m ∈ l.foldl (fun s e => unionN (insertN e.on s) (befs.getD e.on [])) s → m ∈ s ∨ ∃ e ∈ l, m = e.on ∨ m ∈ befs.getD e.on [] := by
    intro l
    induction l with
    | nil => intro s h; exact .inl h
    | cons e r ih =>
      intro s h
      rcases ih _ h with h1 | ⟨e', h1, h2⟩
      · rcases mem_unionN h1 with h1 | h1
        · rcases mem_insertN h1 with h1 | h1
          · exact .inr ⟨e, by simp, .inl h1⟩
          · exact .inl h1
        · exact .inr ⟨e, by simp, .inr h1⟩
      · exact .inr ⟨e', by simp [h1], h2⟩
  rcases key _ _ h with h1 | ⟨e, h1, h2⟩
  · simp at h1
  · rw [List.mem_filter] at h1
    exact ⟨e, by simpa using h1.1, h1.2, h2⟩

section
variable {P : Program} {ann : Ann} {nt : Nat} {ops : Array Oper}

theorem cOpers_spec : ∀ (l : List Oper) (i : Nat) (befs : List (List Nat)) (dl : List DOper), befs.length = i → cOpers P ann nt ops l i befs = some dl → dl.length = l.length ∧
    ∀ k o dop, l[k]? = some o → dl[k]? = some dop → OperOk P nt ops o dop ∧ (∀ e ∈ o.after, Region.binds .any e = true → e.on < i + k) ∧
      ∀ m ∈ dop.bef, ∃ e ∈ o.after, Region.binds .any e = true ∧ (m = e.on ∨ m ∈ (befs ++ dl.map (·.bef)).getD e.on [])
  | [], i, befs, dl, hl, h => by
    simp only [cOpers, Option.some.injEq] at h; subst h
    exact ⟨rfl, fun k o dop h => by simp at h⟩
  | o :: r, i, befs, dl, hl, h => by
    simp only [cOpers] at h
    split at h
    · rename_i op g r' h1 h2 h3
      obtain ⟨c1, h⟩ := cond_some h
      simp only [Option.some.injEq] at h; subst h
      simp only [Bool.and_eq_true] at c1
      obtain ⟨i1, i2⟩ := cOpers_spec r (i + 1) (befs ++ [befOf o befs]) r' (by simp [hl]) h3
      refine ⟨by simp [i1], fun k o' dop e1 e2 => ?_⟩
      cases k with
      | zero =>
        simp only [List.getElem?_cons_zero, Option.some.injEq] at e1 e2
        subst e1; subst e2
        refine ⟨⟨⟨_, h1⟩, rfl, fun d hd => ?_, h2⟩, fun e he hb => ?_, fun m hm => ?_⟩
        · have := c1.2; rw [hd] at this; exact Nat.le_of_ble_eq_true this
        · have := c1.1
          unfold edgesBack at this
          rw [List.all_eq_true] at this
          exact Nat.le_of_ble_eq_true (this e (List.mem_filter.2 ⟨by simpa using he, hb⟩))
        · obtain ⟨e, he, hb, hm⟩ := mem_befOf hm
          refine ⟨e, he, hb, hm.imp id (fun hm => ?_)⟩
          have hlt : e.on < befs.length := by
            rcases Nat.lt_or_ge e.on befs.length with h | h
            · exact h
            · rw [List.getD_eq_getElem?_getD, List.getElem?_eq_none h] at hm; simp at hm
          rw [List.getD_eq_getElem?_getD, List.getElem?_append_left hlt, ← List.getD_eq_getElem?_getD]; exact hm
      | succ k =>
        simp only [List.getElem?_cons_succ] at e1 e2
        obtain ⟨j1, j2, j3⟩ := i2 k o' dop e1 e2
        refine ⟨j1, fun e he hb => by have := j2 e he hb; omega, fun m hm => ?_⟩
        obtain ⟨e, he, hb, hm⟩ := j3 m hm
        refine ⟨e, he, hb, hm.imp id (fun hm => ?_)⟩
        simpa using hm
    · cases h
end

/-! A state that is written by parts. -/
section
open Classical
variable {V : Type} {N : Nat} {s : Nat → Nat → V} {wr tc : Nat → Nat → Prop} {bef : Nat → Nat → Prop}

structure Parts (N : Nat) (s : Nat → Nat → V) (wr tc : Nat → Nat → Prop) (bef : Nat → Nat → Prop) : Prop where
  frame : ∀ k n, k < N → ¬ wr k n → s (k + 1) n = s k n
  sub : ∀ k n, wr k n → tc k n
  ord : ∀ j k, j < k → k < N → bef k j ∨ ((∀ n, wr j n → ¬ tc k n) ∧ ∀ n, tc j n → ¬ wr k n)

noncomputable def mix (s : Nat → Nat → V) (wr : Nat → Nat → Prop) (S : Nat → Bool) : Nat → Nat → V
  | 0, n => s 0 n
  | k + 1, n => if S k = true ∧ wr k n then s (k + 1) n else mix s wr S k n

theorem Parts.all (T : Parts N s wr tc bef) {S : Nat → Bool} (hS : ∀ j, j < N → S j = true) : ∀ k, k ≤ N → ∀ n, mix s wr S k n = s k n
  | 0, _, _ => rfl
  | k + 1, h, n => by
    unfold mix
    rw [hS k (by omega), T.all hS k (by omega)]
    by_cases e : wr k n
    · simp [e]
    · simp [e, T.frame k n (by omega) e]

theorem mix_none {S : Nat → Bool} (hS : ∀ j, S j = false) (k n : Nat) : mix s wr S k n = s 0 n := by
  induction k with
  | zero => rfl
  | succ k ih => unfold mix; rw [hS k]; simpa using ih

/-- What the operation looks at is as in the order of the text. -/
theorem Parts.agree (T : Parts N s wr tc bef) {S : Nat → Bool} (cl : ∀ k j, k < N → S k = true → bef k j → S j = true) {i n : Nat} (hi : i < N) (hiS : S i = false) (hb : ∀ j, bef i j → S j = true) (ht : tc i n) :
    mix s wr S N n = s i n := by
  have h1 : ∀ k, k ≤ i → mix s wr S k n = s k n := by
    intro k
    induction k with
    | zero => intro _; rfl
    | succ k ih =>
      intro hk
      unfold mix
      rw [ih (by omega)]
      by_cases e : wr k n
      · rcases T.ord k i (by omega) hi with h | h
        · simp [hb k h, e]
        · exact absurd ht (h.1 n e)
      · simp [e, T.frame k n (by omega) e]
  have h2 : ∀ k, i ≤ k → k ≤ N → mix s wr S k n = s i n := by
    intro k
    induction k with
    | zero => intro hk _; have : i = 0 := by omega
              subst this; rfl
    | succ k ih =>
      intro hk hN
      rcases Nat.lt_or_eq_of_le hk with h | h
      · unfold mix
        rw [ih (by omega) (by omega), if_neg]
        rintro ⟨e1, e2⟩
        rcases Nat.lt_or_eq_of_le (Nat.le_of_lt_succ h) with h | h
        · rcases T.ord i k h (by omega) with h' | h'
          · rw [cl k i (by omega) e1 h'] at hiS; cases hiS
          · exact h'.2 n ht e2
        · subst h; rw [e1] at hiS; cases hiS
      · rw [← h]; exact h1 i (Nat.le_refl _)
  exact h2 N (by omega) (Nat.le_refl _)

/-- One operation more. -/
theorem Parts.step (T : Parts N s wr tc bef) {S S' : Nat → Bool} (cl : ∀ k j, k < N → S k = true → bef k j → S j = true) {i : Nat} (hi : i < N) (hiS : S i = false) (hb : ∀ j, bef i j → S j = true)
    (hS : ∀ j, S' j = (decide (j = i) || S j)) (n : Nat) : mix s wr S' N n = if wr i n then s (i + 1) n else mix s wr S N n := by
  by_cases e : wr i n
  · rw [if_pos e]
    have h2 : ∀ k, i < k → k ≤ N → mix s wr S' k n = s (i + 1) n := by
      intro k
      induction k with
      | zero => intro hk; omega
      | succ k ih =>
        intro hk hN
        by_cases hne : k = i
        · subst hne; unfold mix; rw [hS k]; simp [e]
        · unfold mix
          rw [ih (by omega) (by omega), if_neg]
          rintro ⟨e1, e2⟩
          rw [hS k] at e1
          simp only [hne, decide_false, Bool.false_or] at e1
          rcases T.ord i k (by omega) (by omega) with h' | h'
          · rw [cl k i (by omega) e1 h'] at hiS; cases hiS
          · exact h'.2 n (T.sub i n e) e2
    exact h2 N hi (Nat.le_refl _)
  · rw [if_neg e]
    have h2 : ∀ k, mix s wr S' k n = mix s wr S k n := by
      intro k
      induction k with
      | zero => rfl
      | succ k ih =>
        unfold mix
        rw [ih, hS k]
        by_cases hk : k = i
        · subst hk; simp [e]
        · simp [hk]
    exact h2 N
end

/-! The static and the dynamic check. -/

theorem disj_spec {a b : List Nat} (h : disj a b = true) {n : Nat} (h1 : n ∈ a) : n ∉ b := fun h2 => by
  unfold disj at h
  rw [List.all_eq_true] at h
  have := h n h1
  simp only [Bool.not_eq_true', List.any_eq_false] at this
  exact this n h2 (by simp)

theorem footsOk_get {f : Foot} : ∀ {l : List Foot} {j0 : Nat}, footsOk f l j0 = true → ∀ j g, l[j]? = some g → j0 + j ∈ f.bef ∨ ((∀ n ∈ g.wr, n ∉ f.rd ∧ n ∉ f.wr) ∧ ∀ n ∈ g.rd, n ∉ f.wr)
  | [], _, _, _, _, h => by simp at h
  | g :: r, j0, h, j, g', hj => by
    unfold footsOk at h
    simp only [Bool.and_eq_true, Bool.or_eq_true] at h
    cases j with
    | zero =>
      simp only [List.getElem?_cons_zero, Option.some.injEq] at hj; subst hj
      rcases h.1 with ⟨⟨h1, h2⟩, h3⟩ | h1
      · exact .inr ⟨fun n hn => ⟨disj_spec h1 hn, disj_spec h2 hn⟩, fun n hn => disj_spec h3 hn⟩
      · rw [List.any_eq_true] at h1
        obtain ⟨x, hx, e⟩ := h1
        have := Nat.eq_of_beq_eq_true e; subst this
        exact .inl hx
    | succ j =>
      have := footsOk_get h.2 j g' (by simpa using hj)
      rwa [show j0 + 1 + j = j0 + (j + 1) by omega] at this

theorem allFeet_get : ∀ {l pre : List Foot}, allFeet pre l = true → ∀ k f, l[k]? = some f → footsOk f (pre ++ l.take k) 0 = true
  | [], _, _, _, _, h => by simp at h
  | f :: r, pre, h, k, f', hk => by
    unfold allFeet at h
    simp only [Bool.and_eq_true] at h
    cases k with
    | zero => simp only [List.getElem?_cons_zero, Option.some.injEq] at hk; subst hk; simpa using h.1
    | succ k =>
      have := allFeet_get h.2 k f' (by simpa using hk)
      simpa using this

theorem statFrom_get {b : DOper} : ∀ {l : List DOper} {j0 : Nat}, statFrom b l j0 = true → ∀ j a, l[j]? = some a → statPair a (j0 + j) b = true
  | [], _, _, _, _, h => by simp at h
  | g :: r, j0, h, j, g', hj => by
    unfold statFrom at h
    simp only [Bool.and_eq_true] at h
    cases j with
    | zero => simp only [List.getElem?_cons_zero, Option.some.injEq] at hj; subst hj; exact h.1
    | succ j =>
      have := statFrom_get h.2 j g' (by simpa using hj)
      rwa [show j0 + 1 + j = j0 + (j + 1) by omega] at this

theorem statAll_get : ∀ {l pre : List DOper}, statAll pre l = true → ∀ k b, l[k]? = some b → statFrom b (pre ++ l.take k) 0 = true
  | [], _, _, _, _, h => by simp at h
  | f :: r, pre, h, k, f', hk => by
    unfold statAll at h
    simp only [Bool.and_eq_true] at h
    cases k with
    | zero => simp only [List.getElem?_cons_zero, Option.some.injEq] at hk; subst hk; simpa using h.1
    | succ k =>
      have := statAll_get h.2 k f' (by simpa using hk)
      simpa using this

theorem statPair_spec {a b : DOper} {i : Nat} (h : statPair a i b = true) : i ∈ b.bef ∨ ((∀ d, a.dst = some d → d ∉ looksOf b ∧ b.dst ≠ some d) ∧ ∀ d, b.dst = some d → d ∉ looksOf a ∧ a.dst ≠ some d) := by
  unfold statPair at h
  simp only [Bool.or_eq_true, Bool.and_eq_true] at h
  rcases h with h | ⟨⟨h1, h2⟩, h3⟩
  · exact .inl ((memB_iff _ _).1 h)
  · refine .inr ⟨fun d hd => ⟨fun hm => ?_, fun e => ?_⟩, fun d hd => ⟨fun hm => ?_, fun e => ?_⟩⟩
    · rw [hd] at h1; simp [(memB_iff d (looksOf b)).2 hm] at h1
    · rw [hd, e] at h3; simp at h3
    · rw [hd] at h2; simp [(memB_iff d (looksOf a)).2 hm] at h2
    · rw [hd, e] at h3; simp at h3

/-! The heap of a step. -/

theorem hlook_append (a b : Heap) (n : Nat) : hlook (a ++ b) n = (hlook a n).or (hlook b n) := by
  induction a with
  | nil => rfl
  | cons x r ih =>
    obtain ⟨k, v⟩ := x
    rw [List.cons_append, hlook_cons, hlook_cons, ih]
    split <;> rfl

theorem hlook_none {a : Heap} {n : Nat} (h : n ∉ a.map (·.1)) : hlook a n = none := by
  induction a with
  | nil => rfl
  | cons x r ih =>
    obtain ⟨k, v⟩ := x
    simp only [List.map_cons, List.mem_cons, not_or] at h
    rw [hlook_cons, if_neg (Ne.symm h.1)]; exact ih h.2

theorem eff_congr {u h h' : Heap} {ns : List Nat} {n : Nat} (e : hlook h' n = hlook h n) : hlook (u.reverse ++ freeze ns h') n = hlook (u.reverse ++ freeze ns h) n := by
  rw [hlook_append, hlook_append, freeze_look, freeze_look, e]

theorem eff_frame {u h : Heap} {ns : List Nat} {n : Nat} (h1 : n ∉ ns) (h2 : n ∉ u.map (·.1)) : hlook (u.reverse ++ freeze ns h) n = hlook h n := by
  rw [hlook_append, hlook_none (by simpa using h2), freeze_look]
  simp only [Option.none_or]
  cases hlook h n with
  | none => rfl
  | some o => cases o <;> simp [h1]

/-! Regions. -/
section
variable {P : Program} {G : Nat → Option DV} {B : Base} {nt : Nat} {M0 : Mem} {w0 : World} {F : Fence} {n : Nat} {ops : Array Oper} {Q : Exit → Act → World → Prop}

theorem Chain.fun {l : List DOper} {fs : List Foot} {t t2 : Tmps} {h h2 : Heap} (c : Chain P G l fs t h t2 h2) : fs.length = l.length ∧ ∃ (T : Nat → Tmps) (H : Nat → Heap), T 0 = t ∧ H 0 = h ∧ T l.length = t2 ∧ H l.length = h2 ∧
    ∀ k o ft, l[k]? = some o → fs[k]? = some ft → StepTo P G o ft (T k) (H k) (T (k + 1)) (H (k + 1)) := by
  induction c with
  | nil t h => exact ⟨rfl, fun _ => t, fun _ => h, rfl, rfl, rfl, rfl, fun k o ft h => by simp at h⟩
  | cons st c ih =>
    rename_i o r ft fs t h t1 h1 t2 h2
    obtain ⟨e, T, H, e1, e2, e3, e4, e5⟩ := ih
    refine ⟨by simp [e], fun k => match k with | 0 => t | k + 1 => T k, fun k => match k with | 0 => h | k + 1 => H k, rfl, rfl, e3, e4, fun k o' ft' h1 h2 => ?_⟩
    cases k with
    | zero =>
      simp only [List.getElem?_cons_zero, Option.some.injEq] at h1 h2
      subst h1; subst h2
      simpa [e1, e2] using st
    | succ k => exact e5 k o' ft' (by simpa using h1) (by simpa using h2)

theorem plain_run (hG : GOk G M0) (hF : ∀ f, F.fn f) (hd : F.depth = none) {l : List DOper} {fs : List Foot} {t t2 : Tmps} {h h2 : Heap} (c : Chain P G l fs t h t2 h2) :
    ∀ (i : Nat), (∀ k dop, l[k]? = some dop → ∃ o, ops[i + k]? = some o ∧ OperOk P nt ops o dop) → ∀ {M : Mem} {ρ : Locs} {a : Act} {w : World}, Sim B nt M0 w0 M ρ t h a w →
      (∀ M' ρ' a' w', Sim B nt M0 w0 M' ρ' t2 h2 a' w' → Q .normal a' w') → wpOpsIn F n P ops Q (List.range' i l.length) a w := by
  induction c with
  | nil t h => intro i _ M ρ a w S hQ; exact hQ _ _ _ _ S
  | cons st c ih =>
    rename_i o r ft fs t h t1 h1 t2 h2
    intro i hok M ρ a w S hQ
    rw [List.length_cons, List.range'_succ, wpOpsIn_cons]
    obtain ⟨om, ho, ok⟩ := hok 0 o rfl
    obtain ⟨_, d, ns, u, hs, e1, e2, _⟩ := st
    refine step_run hG hF hd ok ho S hs (fun M' ρ' a' w' S' => ?_)
    refine ih (i + 1) (fun k dop hk => ?_) (S'.congr e1 e2) hQ
    obtain ⟨om', ho', ok'⟩ := hok (k + 1) dop (by simpa using hk)
    exact ⟨om', by rw [show i + 1 + k = i + (k + 1) by omega]; exact ho', ok'⟩

def cnt (S : Nat → Bool) : Nat → Nat
  | 0 => 0
  | k + 1 => cnt S k + (if S k = true then 0 else 1)

theorem cnt_zero {S : Nat → Bool} : ∀ {N : Nat}, cnt S N = 0 → ∀ j, j < N → S j = true
  | 0, _, j, h => by omega
  | N + 1, hc, j, h => by
    unfold cnt at hc
    by_cases e : S N = true
    · rcases Nat.lt_or_eq_of_le (Nat.le_of_lt_succ h) with h | h
      · exact cnt_zero (by omega) j h
      · subst h; exact e
    · rw [if_neg e] at hc; omega

theorem cnt_set {S S' : Nat → Bool} {i : Nat} (hi : S i = false) (hS : ∀ j, S' j = (decide (j = i) || S j)) : ∀ N, cnt S' N + (if i < N then 1 else 0) = cnt S N
  | 0 => by simp [cnt]
  | N + 1 => by
    have := cnt_set hi hS N
    unfold cnt
    rw [hS N]
    by_cases e : N = i
    · subst e; simp at this; simp [this, hi]
    · by_cases h : i < N
      · simp [h] at this
        have h2 : i < N + 1 := by omega
        simp [e, h2]; omega
      · simp [h] at this
        have h2 : ¬ i < N + 1 := by omega
        simp [e, h2, this]

theorem draw_run (hG : GOk G M0) (hF : ∀ f, F.fn f) (hd : F.depth = none) {ann : Ann} {dl : List DOper} (hc : cOpers P ann nt ops ops.toList 0 [] = some dl) (hst : statAll [] dl = true)
    {fs : List Foot} {t t2 : Tmps} {h h2 : Heap} (c : Chain P G dl fs t h t2 h2) (hfeet : allFeet [] fs = true) {M : Mem} {ρ : Locs} {a : Act} {w : World} (S0 : Sim B nt M0 w0 M ρ t h a w)
    (hQ : ∀ M' ρ' a' w', Sim B nt M0 w0 M' ρ' t2 h2 a' w' → Q .normal a' w') : wpAnyIn F n P .any ops Q ops.size (Array.replicate ops.size false) a w := by
  obtain ⟨hlen, hops⟩ := cOpers_spec ops.toList 0 [] dl rfl hc
  simp only [Array.length_toList, Nat.zero_add, List.nil_append] at hlen hops
  obtain ⟨hfl, T, H, e1, e2, e3, e4, hsteps⟩ := c.fun
  have hdl : ∀ k, k < ops.size → ∃ o dop ft, ops[k]? = some o ∧ dl[k]? = some dop ∧ fs[k]? = some ft := fun k hk =>
    ⟨ops[k], dl[k]'(by omega), fs[k]'(by omega), by simp [hk], by simp [hlen, hk], by simp [hfl, hlen, hk]⟩
  let bef : Nat → Nat → Prop := fun k j => ∃ dop, dl[k]? = some dop ∧ j ∈ dop.bef
  let wrT : Nat → Nat → Prop := fun k x => ∃ dop, dl[k]? = some dop ∧ dop.dst = some x
  let tcT : Nat → Nat → Prop := fun k x => ∃ dop, dl[k]? = some dop ∧ (dop.dst = some x ∨ x ∈ looksOf dop)
  let wrH : Nat → Nat → Prop := fun k x => ∃ ft, fs[k]? = some ft ∧ x ∈ ft.wr
  let tcH : Nat → Nat → Prop := fun k x => ∃ ft, fs[k]? = some ft ∧ (x ∈ ft.wr ∨ x ∈ ft.rd)
  have PT : Parts ops.size (fun k => tget (T k)) wrT tcT bef := by
    refine ⟨fun k x hk hw => ?_, fun k x ⟨dop, h1, h2⟩ => ⟨dop, h1, .inl h2⟩, fun j k hjk hk => ?_⟩
    · obtain ⟨o, dop, ft, h1, h2, h3⟩ := hdl k hk
      obtain ⟨_, d, ns, u, _, g1, _, _⟩ := hsteps k dop ft h2 h3
      show tget (T (k + 1)) x = tget (T k) x
      rw [g1, tget_putO, if_neg (fun e => hw ⟨dop, h2, e⟩)]
    · obtain ⟨o, dop, ft, h1, h2, h3⟩ := hdl k hk
      obtain ⟨o', dop', ft', h1', h2', h3'⟩ := hdl j (by omega)
      have hs := statFrom_get (statAll_get hst k dop h2) j dop' (by rw [List.nil_append, List.getElem?_take_of_lt hjk]; exact h2')
      rw [Nat.zero_add] at hs
      rcases statPair_spec hs with h | ⟨g1, g2⟩
      · exact .inl ⟨dop, h2, h⟩
      · refine .inr ⟨fun x ⟨d1, q1, q2⟩ ⟨d2, q3, q4⟩ => ?_, fun x ⟨d1, q1, q2⟩ ⟨d2, q3, q4⟩ => ?_⟩
        · rw [h2'] at q1; cases q1; rw [h2] at q3; cases q3
          rcases q4 with q4 | q4
          · exact (g1 x q2).2 q4
          · exact (g1 x q2).1 q4
        · rw [h2'] at q1; cases q1; rw [h2] at q3; cases q3
          rcases q2 with q2 | q2
          · exact (g2 x q4).2 q2
          · exact (g2 x q4).1 q2
  have PH : Parts ops.size (fun k => hlook (H k)) wrH tcH bef := by
    refine ⟨fun k x hk hw => ?_, fun k x ⟨dop, h1, h2⟩ => ⟨dop, h1, .inl h2⟩, fun j k hjk hk => ?_⟩
    · obtain ⟨o, dop, ft, h1, h2, h3⟩ := hdl k hk
      obtain ⟨_, d, ns, u, _, _, g1, g2⟩ := hsteps k dop ft h2 h3
      have hx : x ∉ ft.wr := fun e => hw ⟨ft, h3, e⟩
      rw [g2] at hx
      show hlook (H (k + 1)) x = hlook (H k) x
      rw [g1]
      exact eff_frame (fun e => hx (.inl e)) (fun e => hx (.inr e))
    · obtain ⟨o, dop, ft, h1, h2, h3⟩ := hdl k hk
      obtain ⟨o', dop', ft', h1', h2', h3'⟩ := hdl j (by omega)
      have hs := footsOk_get (allFeet_get hfeet k ft h3) j ft' (by rw [List.nil_append, List.getElem?_take_of_lt hjk]; exact h3')
      rw [Nat.zero_add] at hs
      rcases hs with h | ⟨g1, g2⟩
      · exact .inl ⟨dop, h2, by rw [← (hsteps k dop ft h2 h3).bef]; exact h⟩
      · refine .inr ⟨fun x ⟨d1, q1, q2⟩ ⟨d2, q3, q4⟩ => ?_, fun x ⟨d1, q1, q2⟩ ⟨d2, q3, q4⟩ => ?_⟩
        · rw [h3'] at q1; cases q1; rw [h3] at q3; cases q3
          rcases q4 with q4 | q4
          · exact (g1 x q2).2 q4
          · exact (g1 x q2).1 q4
        · rw [h3'] at q1; cases q1; rw [h3] at q3; cases q3
          rcases q2 with q2 | q2
          · exact (g1 x q2).2 q4
          · exact g2 x q2 q4
  have main : ∀ (fuel : Nat) (L : Nat → Bool) (listed : Array Bool) (t' : Tmps) (h' : Heap) (M : Mem) (ρ : Locs) (a : Act) (w : World), listed.size = ops.size → (∀ j, j < ops.size → listed[j]? = some (L j)) → cnt L ops.size ≤ fuel →
      (∀ k j, k < ops.size → L k = true → bef k j → L j = true) → (∀ x, tget t' x = mix (fun k => tget (T k)) wrT L ops.size x) → (∀ x, hlook h' x = mix (fun k => hlook (H k)) wrH L ops.size x) →
      Sim B nt M0 w0 M ρ t' h' a w → wpAnyIn F n P .any ops Q fuel listed a w := by
    intro fuel
    have done : ∀ (L : Nat → Bool) (t' : Tmps) (h' : Heap) (M : Mem) (ρ : Locs) (a : Act) (w : World), (∀ j, j < ops.size → L j = true) → (∀ x, tget t' x = mix (fun k => tget (T k)) wrT L ops.size x) →
        (∀ x, hlook h' x = mix (fun k => hlook (H k)) wrH L ops.size x) → Sim B nt M0 w0 M ρ t' h' a w → Q .normal a w := by
      intro L t' h' M ρ a w hall ht hh S
      refine hQ M ρ a w (S.congr (fun x => ?_) (fun x => ?_))
      · rw [ht, PT.all hall _ (Nat.le_refl _), ← hlen, e3]
      · rw [hh, PH.all hall _ (Nat.le_refl _), ← hlen, e4]
    induction fuel with
    | zero =>
      intro L listed t' h' M ρ a w hsz hl hcnt hcl ht hh S
      have hall := cnt_zero (S := L) (N := ops.size) (by omega)
      refine ⟨?_, done L t' h' M ρ a w hall ht hh S⟩
      rw [List.eq_nil_iff_forall_not_mem]
      intro j hj
      obtain ⟨h1, o, h2, _⟩ := mem_ready.1 hj
      have hlt : j < ops.size := (Array.getElem?_eq_some_iff.1 h2).1
      rw [Array.getD_eq_getD_getElem?, hl j hlt, hall j hlt] at h1
      simp at h1
    | succ fuel ih =>
      intro L listed t' h' M ρ a w hsz hl hcnt hcl ht hh S
      refine ⟨fun hnil => ?_, fun i hi => ?_⟩
      · refine done L t' h' M ρ a w (fun j => ?_) ht hh S
        induction j using Nat.strongRecOn with
        | _ j ihj =>
          intro hj
          cases hLj : L j with
          | true => rfl
          | false =>
            exfalso
            have : j ∈ Region.ready .any ops listed := by
              refine mem_ready.2 ⟨by rw [Array.getD_eq_getD_getElem?, hl j hj, hLj]; rfl, ops[j], by simp [hj], fun e he hb => ?_⟩
              obtain ⟨o, dop, ft, h1, h2, h3⟩ := hdl j hj
              have ho : ops[j] = o := by simpa [hj] using h1
              have hlt := (hops j o dop (by simpa using h1) h2).2.1 e (by rw [← ho]; exact he) hb
              rw [Array.getD_eq_getD_getElem?, hl e.on (by omega), ihj e.on hlt (by omega)]; rfl
            rw [hnil] at this; cases this
      · obtain ⟨h1, o, h2, h3⟩ := mem_ready.1 hi
        have hlt : i < ops.size := (Array.getElem?_eq_some_iff.1 h2).1
        have hLi : L i = false := by rw [Array.getD_eq_getD_getElem?, hl i hlt] at h1; simpa using h1
        obtain ⟨o', dop, ft, g1, g2, g3⟩ := hdl i hlt
        rw [h2] at g1; cases g1
        obtain ⟨ok, hback, hbef⟩ := hops i o dop (by simpa using h2) g2
        have hbL : ∀ j, bef i j → L j = true := by
          rintro j ⟨dop', q1, q2⟩
          rw [g2] at q1; cases q1
          obtain ⟨e, he, hb, hm⟩ := hbef j q2
          have hon : e.on < ops.size := by have := hback e he hb; omega
          have hLe : L e.on = true := by
            have := h3 e he hb
            rw [Array.getD_eq_getD_getElem?, hl e.on hon] at this; simpa using this
          rcases hm with rfl | hm
          · exact hLe
          · obtain ⟨oe, de, fe, k1, k2, k3⟩ := hdl e.on hon
            refine hcl e.on j hon hLe ⟨de, k2, ?_⟩
            rw [List.getD_eq_getElem?_getD, List.getElem?_map, k2] at hm
            simpa using hm
        obtain ⟨_, d, ns, u, hs, q1, q2, q3⟩ := hsteps i dop ft g2 g3
        have aT : ∀ x, tcT i x → tget t' x = tget (T i) x := fun x hx => by rw [ht]; exact PT.agree hcl hlt hLi hbL hx
        have aH : ∀ x, tcH i x → hlook h' x = hlook (H i) x := fun x hx => by rw [hh]; exact PH.agree hcl hlt hLi hbL hx
        have hs' := hs.congr (t' := t') (h' := h') (fun x hx => aT x ⟨dop, g2, .inr hx⟩) (fun x hx => aH x ⟨ft, g3, .inr hx⟩)
        let L' : Nat → Bool := fun j => decide (j = i) || L j
        refine step_run hG hF hd ok h2 S hs' (fun M' ρ' a' w' S' => ?_)
        refine ih L' (listed.setIfInBounds i true) _ _ M' ρ' a' w' (by simpa using hsz) (fun j hj => ?_) ?_ (fun k j hk hL hb => ?_) (fun x => ?_) (fun x => ?_) S'
        · by_cases e : i = j
          · subst e; simp [hsz, hj, L']
          · rw [Array.getElem?_setIfInBounds_ne e, hl j hj]; simp [L', Ne.symm e]
        · have := cnt_set (S := L) (S' := L') hLi (fun _ => rfl) ops.size
          rw [if_pos hlt] at this; omega
        · show (decide (j = i) || L j) = true
          by_cases e : k = i
          · subst e; rw [hbL j hb]; simp
          · have : L k = true := by simpa [L', e] using hL
            rw [hcl k j hk this hb]; simp
        · rw [PT.step (S' := L') hcl hlt hLi hbL (fun _ => rfl) x, tget_putO]
          by_cases e : dop.dst = some x
          · rw [if_pos e, if_pos ⟨dop, g2, e⟩]
            show d = tget (T (i + 1)) x
            rw [q1, tget_putO, if_pos e]
          · rw [if_neg e, if_neg (fun ⟨dop', k1, k2⟩ => by rw [g2] at k1; cases k1; exact e k2)]
            exact ht x
        · rw [PH.step (S' := L') hcl hlt hLi hbL (fun _ => rfl) x]
          by_cases e : x ∈ ft.wr
          · rw [if_pos ⟨ft, g3, e⟩]
            show _ = hlook (H (i + 1)) x
            rw [q2]
            exact eff_congr (aH x ⟨ft, g3, .inl e⟩)
          · rw [if_neg (fun ⟨ft', k1, k2⟩ => by rw [g3] at k1; cases k1; exact e k2)]
            rw [q3] at e
            rw [eff_frame (fun h => e (.inl h)) (fun h => e (.inr h))]
            exact hh x
  refine main ops.size (fun _ => false) _ t h M ρ a w (by simp) (fun j hj => by simp [hj]) ?_ (fun k j _ h => by cases h) (fun x => ?_) (fun x => ?_) S0
  · have : ∀ N, cnt (fun _ => false) N ≤ N := fun N => by
      induction N with
      | zero => exact Nat.le_refl _
      | succ N ih => unfold cnt; simp; exact ih
    exact this _
  · rw [mix_none (fun _ => rfl), e1]
  · rw [mix_none (fun _ => rfl), e2]
end
end Sh
