/- What single operations come to: lengths, windows, literals that nobody writes, equality. -/
import Derived.Test.YtcdhbdhonpddeaaDoorShOps4
set_option linter.unusedVariables false
set_option linter.unusedSectionVars false
namespace Sh
open Go

theorem flat_window (l : List DV) (sz : Nat) (hsz : ∀ e ∈ l, e.cells.length = sz) (off len : Nat) : ∀ i, i < (flat (window l off len)).length → (flat (window l off len)).getD i .undef = (flat l).getD (off * sz + i) .undef := by
  intro i hi
  have hw : ∀ e ∈ window l off len, e.cells.length = sz := fun e he => hsz e (List.mem_of_mem_drop (List.mem_of_mem_take he))
  rw [length_flat _ sz hw] at hi
  have hlen : (window l off len).length = min len (l.length - off) := by simp [window]
  by_cases hs : sz = 0
  · subst hs; simp at hi
  obtain ⟨q, r, hq, hm, hdm⟩ : ∃ q r, q < (window l off len).length ∧ r < sz ∧ q * sz + r = i :=
    ⟨i / sz, i % sz, (Nat.div_lt_iff_lt_mul (by omega)).2 hi, Nat.mod_lt _ (by omega), by rw [Nat.mul_comm]; exact Nat.div_add_mod i sz⟩
  subst hdm
  rw [getElem_flat (window l off len) sz hw q r hq hm]
  have e2 := getElem_flat l sz hsz (off + q) r (by omega) hm
  rw [show (off + q) * sz + r = off * sz + (q * sz + r) by rw [Nat.add_mul]; omega] at e2
  rw [e2]
  unfold window
  rw [take_drop_getD _ _ _ _ _ (by omega)]

/-- A window of a list that nobody writes. -/
theorem window_list {M : Mem} {l : List DV} {b o sz : Nat} {g : Nat → Value} (hsz : ∀ e ∈ l, e.cells.length = sz) (hM : ∀ i, i < (flat l).length → M b (o + i) = some (g i))
    (hr : ∀ i, i < (flat l).length → RelP M ((flat l).getD i .undef) (g i)) (off len cap : Nat) (hb : off + len ≤ l.length) (hc : len ≤ cap) (a : Option Addr) (ha : len = 0 ∨ a = some ⟨b, o + off * sz, none⟩) :
    RelP M (.list (window l off len)) (.slice a len cap) := by
  have hlen : (window l off len).length = len := by simp [window]; omega
  have hw : ∀ e ∈ window l off len, e.cells.length = sz := fun e he => hsz e (List.mem_of_mem_drop (List.mem_of_mem_take he))
  have hfl := length_flat _ sz hw
  rw [hlen] at hfl
  have hlt : ∀ i, i < (flat (window l off len)).length → off * sz + i < (flat l).length := fun i hi => by
    rw [hfl] at hi
    rw [length_flat l sz hsz]
    have : (off + len) * sz ≤ l.length * sz := Nat.mul_le_mul_right _ hb
    rw [Nat.add_mul] at this; omega
  have key := RelP.list (M := M) (window l off len) a cap sz b (o + off * sz) (fun i => g (off * sz + i)) (by omega) (by
      rcases ha with ha | ha
      · left; exact List.eq_nil_of_length_eq_zero (by omega)
      · right; exact ha) hw (fun i hi => by rw [Nat.add_assoc]; exact hM _ (hlt i hi)) (fun i hi => by
        rw [flat_window l sz hsz off len i hi]; exact hr _ (hlt i hi))
  rwa [hlen] at key

section
variable {P : Program} {G : Nat → Option DV} {B : Base} {nt : Nat} {M0 : Mem} {w0 : World} {M : Mem} {ρ : Locs} {t : Tmps} {h : Heap} {a : Act} {w : World} {o : Oper}
variable (hG : GOk G M0) (S : Sim B nt M0 w0 M ρ t h a w)
include hG S

theorem op_len (args : Array Operand) (ts : Array TypeId) (ty : TypeId) (x : Operand) (v : Value) (n : Nat) (ho : o.op = .call ⟨.builtin .len, #[x], #[ty]⟩) (hv : a.eval x = v)
    (hr : ∀ w, (Builtin.len_ #[ty] o.type #[v]).run P w = .ok (goInt n) w) : OpGoal P B nt M0 w0 M ρ t h a w o (.int .i64 n) [] := by
  refine OpGoal.same S (v := .int .i64 n) ?_ (.pure (.int _ _))
  simp only [execOp, ho, resolve, Array.map_singleton, invoke, builtin, Sem.run_bind, Sem.run_pure, Result.andThen_ok, hv, hr, goInt]

theorem op_len_slice (ty e : TypeId) (x : Operand) (n : Nat) (b : Option Addr) (cap : Nat) (ho : o.op = .call ⟨.builtin .len, #[x], #[ty]⟩) (ht : P.underlying ty = some (.slice e)) (hv : a.eval x = .slice b n cap) :
    OpGoal P B nt M0 w0 M ρ t h a w o (.int .i64 n) [] :=
  op_len hG S #[] #[] ty x _ n ho hv (fun w => by simp [Builtin.len_, run_underlying ht])

theorem op_len_str (ty : TypeId) (x : Operand) (s : List UInt8) (ho : o.op = .call ⟨.builtin .len, #[x], #[ty]⟩) (ht : P.underlying ty = some .string) (hx : evalOpd G t x = .str s) :
    OpGoal P B nt M0 w0 M ρ t h a w o (.int .i64 s.length) [] := by
  have r1 := S.opd hG x; rw [hx] at r1
  exact op_len hG S #[] #[] ty x _ s.length ho r1.inv_str (fun w => by simp [Builtin.len_, run_underlying ht, bsize])

theorem op_len_arr (ty e : TypeId) (n : Nat) (x : Operand) (ho : o.op = .call ⟨.builtin .len, #[x], #[ty]⟩) (ht : P.underlying ty = some (.array n e)) : OpGoal P B nt M0 w0 M ρ t h a w o (.int .i64 n) [] :=
  op_len hG S #[] #[] ty x _ n ho rfl (fun w => by simp [Builtin.len_, run_underlying ht])

theorem minmax_run (mx : Bool) (k : IntKind) : ∀ (r : List Operand) (m n : Int), minmaxAll (evalOpd G t) mx k r m = some n →
    ∀ w, (List.foldlM (bif mx then Builtin.max2 else Builtin.min2) (.int k m) (r.map a.eval)).run P w = .ok (.int k n) w
  | [], m, n, hm, w => by
    simp only [minmaxAll, Option.some.injEq] at hm; subst hm; simp
  | x :: r, m, n, hm, w => by
    simp only [minmaxAll] at hm
    split at hm
    · rename_i k' b e
      cases hk : kindEq k k' with
      | false => rw [hk] at hm; cases hm
      | true =>
        rw [hk] at hm
        have ek := kindEq_eq hk; subst ek
        have r1 := S.opd hG x; rw [e] at r1
        have ih := minmax_run mx k r (minmaxI mx m b) n hm
        simp only [List.map_cons, List.foldlM_cons, r1.inv_int]
        cases mx with
        | true =>
          simp only [cond_true, Sem.run_bind, Builtin.max2, Sem.run_pure, Result.andThen_ok] at ih ⊢
          simpa [minmaxI] using ih w
        | false =>
          simp only [cond_false, Sem.run_bind, Builtin.min2, Sem.run_pure, Result.andThen_ok] at ih ⊢
          simpa [minmaxI] using ih w
    · cases hm

theorem op_minmax (mx : Bool) (args : Array Operand) (ts : Array TypeId) (x : Operand) (r : List Operand) (k : IntKind) (m n : Int) (ho : o.op = .call ⟨.builtin (bif mx then .max else .min), args, ts⟩) (ha : args.toList = x :: r)
    (hx : evalOpd G t x = .int k m) (hm : minmaxAll (evalOpd G t) mx k r m = some n) : OpGoal P B nt M0 w0 M ρ t h a w o (.int k n) [] := by
  have r1 := S.opd hG x; rw [hx] at r1
  have h2 := minmax_run hG S (P := P) mx k r m n hm w
  refine OpGoal.same S (v := .int k n) ?_ (.pure (.int _ _))
  have ha' : (args.map a.eval).toList = .int k m :: r.map a.eval := by rw [Array.toList_map, ha, List.map_cons, r1.inv_int]
  cases mx with
  | true =>
    simp only [cond_true] at ho h2
    simp only [execOp, ho, resolve, invoke, builtin, Sem.run_bind, Sem.run_pure, Result.andThen_ok, Builtin.max_, ha', h2]
  | false =>
    simp only [cond_false] at ho h2
    simp only [execOp, ho, resolve, invoke, builtin, Sem.run_bind, Sem.run_pure, Result.andThen_ok, Builtin.min_, ha', h2]
end

/-- A slice expression's bound. -/
theorem bound_run {G : Nat → Option DV} {B : Base} {nt : Nat} {M0 : Mem} {w0 : World} {M : Mem} {ρ : Locs} {t : Tmps} {h : Heap} {a : Act} {w : World} (hG : GOk G M0) (S : Sim B nt M0 w0 M ρ t h a w) (o : Option Operand) (d n : Int) (hb : bound o (evalOpd G t) d = some n) :
    (o = none ∧ n = d) ∨ (∃ x k, o = some x ∧ a.eval x = .int k n) := by
  cases o with
  | none => left; simp only [bound, Option.some.injEq] at hb; exact ⟨rfl, hb.symm⟩
  | some x =>
    right
    simp only [bound] at hb
    split at hb
    · rename_i k m e
      simp only [Option.some.injEq] at hb; subst hb
      have r1 := S.opd hG x; rw [e] at r1
      exact ⟨x, k, rfl, r1.inv_int⟩
    · cases hb

section
variable {P : Program} {G : Nat → Option DV} {B : Base} {nt : Nat} {M0 : Mem} {w0 : World} {M : Mem} {ρ : Locs} {t : Tmps} {h : Heap} {a : Act} {w : World} {o : Oper}
variable (hG : GOk G M0) (S : Sim B nt M0 w0 M ρ t h a w)
include hG S

theorem sliceBounds_run (isS : Bool) (len cap : Nat) (lo hi : Option Operand) (l u : Int) (hl : bound lo (evalOpd G t) 0 = some l) (hu : bound hi (evalOpd G t) len = some u) (hb : 0 ≤ l ∧ l ≤ u ∧ u ≤ len) (hc : len ≤ cap) (w' : World) :
    (Instr.sliceBounds isS len cap (lo.map a.eval) (hi.map a.eval) none).run P w' = .ok (l.toNat, u.toNat, cap) w' := by
  have h1 := bound_run hG S lo 0 l hl
  have h2 := bound_run hG S hi len u hu
  obtain ⟨b1, b2, b3⟩ := hb
  have c1 : 0 ≤ u := by omega
  have c2 : u ≤ (cap : Int) := by omega
  have c3 : l ≤ (u.toNat : Int) := by omega
  rcases h1 with ⟨rfl, rfl⟩ | ⟨x, k, rfl, e1⟩ <;> rcases h2 with ⟨rfl, e2⟩ | ⟨y, k', rfl, e2⟩
  · subst e2; simp [Instr.sliceBounds]
  · simp [Instr.sliceBounds, e2, Instr.sliceBound, asIntOf, c1, c2]
  · subst e2
    have c4 : l ≤ (len : Int) := by omega
    simp [Instr.sliceBounds, e1, Instr.sliceBound, asIntOf, b1, c4]
  · have c5 : ¬ (max u 0 < l) := by omega
    simp [Instr.sliceBounds, e1, e2, Instr.sliceBound, asIntOf, b1, c1, c2, c5]

theorem op_slice_str (ty : TypeId) (x : Operand) (lo hi : Option Operand) (s : List UInt8) (l u : Int) (ho : o.op = .slice ty x lo hi none) (ht : P.underlying ty = some .string) (hx : evalOpd G t x = .str s)
    (hl : bound lo (evalOpd G t) 0 = some l) (hu : bound hi (evalOpd G t) s.length = some u) (hb : 0 ≤ l ∧ l ≤ u ∧ u ≤ s.length) : OpGoal P B nt M0 w0 M ρ t h a w o (.str (window s l.toNat (u - l).toNat)) [] := by
  have r1 := S.opd hG x; rw [hx] at r1
  have hsb := sliceBounds_run hG S (P := P) false s.length s.length lo hi l u hl hu hb (Nat.le_refl _)
  refine OpGoal.same S (v := .string ⟨(window s l.toNat (u - l).toNat).toArray⟩) ?_ (.pure (.str _))
  have he : (⟨s.toArray⟩ : ByteArray).extract l.toNat u.toNat = ⟨(window s l.toNat (u - l).toNat).toArray⟩ := by
    apply Go.WideShapes.bytes_inj
    rw [ByteArray.data_extract]
    simp [window]
    omega
  simp only [execOp, ho, Instr.sliceAt, Instr.slice, Sem.run_bind, run_underlying ht, Result.andThen_ok, r1.inv_str, Option.map_none, bsize, hsb, he, Sem.run_pure, Option.isSome_none, Bool.false_eq_true, if_false]

/-- The address of a window. -/
theorem slice_addr (a' : Option Addr) (b o' m l sz : Nat) (h : a' = some ⟨b, o', none⟩) : (if m = l then a' else a'.map (·.add (l * sz))) = if m = l then some ⟨b, o', none⟩ else some ⟨b, o' + l * sz, none⟩ := by
  subst h; simp [add_lit]

theorem op_slice_imm (ty e : TypeId) (x : Operand) (lo hi : Option Operand) (s : List DV) (sz : Nat) (agg : Bool) (l u : Int) (ho : o.op = .slice ty x lo hi none) (ht : P.underlying ty = some (.slice e)) (he : elemT P e = some (sz, agg))
    (hs : ∀ d ∈ s, d.cells.length = sz) (hx : evalOpd G t x = .list s ∨ evalOpd G t x = .full s)
    (hl : bound lo (evalOpd G t) 0 = some l) (hu : bound hi (evalOpd G t) s.length = some u) (hb : 0 ≤ l ∧ l ≤ u ∧ u ≤ s.length) : OpGoal P B nt M0 w0 M ρ t h a w o (.list (window s l.toNat (u - l).toNat)) [] := by
  obtain ⟨hs1, hs2, hs3, hs4, hs5⟩ := elemT_spec he
  obtain ⟨b1, b2, b3⟩ := hb
  have r1 := S.opd hG x
  have fin : ∀ (a' : Option Addr) (cap b o' : Nat) (g : Nat → Value), a.eval x = .slice a' s.length cap → s.length ≤ cap → (s = [] ∨ a' = some ⟨b, o', none⟩) → (∀ i, i < (flat s).length → M b (o' + i) = some (g i)) →
      (∀ i, i < (flat s).length → RelP M ((flat s).getD i .undef) (g i)) → OpGoal P B nt M0 w0 M ρ t h a w o (.list (window s l.toNat (u - l).toNat)) [] := by
    intro a' cap b o' g ev hcap ha hM hr
    have hsb := sliceBounds_run hG S (P := P) true s.length cap lo hi l u hl hu ⟨b1, b2, b3⟩ hcap
    have e1 : u.toNat - l.toNat = (u - l).toNat := by omega
    refine OpGoal.same S (v := .slice (if cap = l.toNat then a' else a'.map (·.add (l.toNat * sz))) (u - l).toNat (cap - l.toNat)) ?_
      (.pure (window_list (b := b) (o := o') hs hM hr l.toNat (u - l).toNat (cap - l.toNat) (by omega) (by omega) _ ?_))
    · simp only [execOp, ho, Instr.sliceAt, Instr.slice, Sem.run_bind, run_underlying ht, Result.andThen_ok, ev, Option.map_none, hsb, size_run hs1, Sem.run_pure, e1]
    · by_cases h0 : (u - l).toNat = 0
      · left; exact h0
      · right
        rcases ha with ha | ha
        · subst ha; simp at b3; omega
        · rw [slice_addr hG S a' b o' cap l.toNat sz ha, if_neg (by omega)]
  generalize hv : a.eval x = v at *
  rcases hx with hx | hx <;> rw [hx] at r1
  · have r2 := r1.inv_list
    cases r2 with
    | list _ a' cap sz' b o' g hcap ha hsz hM hr => exact fin a' cap b o' g rfl hcap ha hM hr
  · have r2 := r1.inv_full
    cases r2 with
    | full _ a' sz' b o' g ha hsz hM hr => exact fin a' _ b o' g rfl (Nat.le_refl _) ha hM hr

theorem op_slice_own (ty e : TypeId) (x : Operand) (lo hi : Option Operand) (n off len tot : Nat) (es : List DV) (fr : Bool) (sz : Nat) (agg : Bool) (l u : Int) (ho : o.op = .slice ty x lo hi none) (ht : P.underlying ty = some (.slice e)) (he : elemT P e = some (sz, agg))
    (hx : evalOpd G t x = .own n off len tot) (hL : hlook h n = some (.row sz es fr))
    (hl : bound lo (evalOpd G t) 0 = some l) (hu : bound hi (evalOpd G t) len = some u) (hb : tot = es.length ∧ 0 ≤ l ∧ l ≤ u ∧ u ≤ len) : OpGoal P B nt M0 w0 M ρ t h a w o (.own n (off + l.toNat) (u - l).toNat tot) [] := by
  obtain ⟨hs1, hs2, hs3, hs4, hs5⟩ := elemT_spec he
  obtain ⟨b0, b1, b2, b3⟩ := hb
  have r1 := S.opd hG x; rw [hx] at r1
  obtain ⟨h1, h2⟩ := r1.inv_own hL
  obtain ⟨h3, h4⟩ := h2 b0
  have e1 : u.toNat - l.toNat = (u - l).toNat := by omega
  cases hρ : ρ n with
  | none =>
    have hes := S.obj n _ hL
    simp only [ObjRel, hρ] at hes
    subst hes
    simp only [List.length_nil] at b0
    rw [hρ] at h4
    obtain ⟨a', ev⟩ := h4
    have hsb := sliceBounds_run hG S (P := P) true len 0 lo hi l u hl hu ⟨b1, b2, b3⟩ (by omega)
    refine OpGoal.same S (v := .slice (if 0 = l.toNat then a' else a'.map (·.add (l.toNat * sz))) (u - l).toNat (0 - l.toNat)) ?_ (.own _ _ _ _ _ _ _ _ hL h1 ⟨_, _, _, rfl⟩ (fun _ => ⟨by omega, ?_⟩))
    · simp only [execOp, ho, Instr.sliceAt, Instr.slice, Sem.run_bind, run_underlying ht, Result.andThen_ok, ev, Option.map_none, hsb, size_run hs1, Sem.run_pure, e1]
    · rw [hρ]; simp
  | some bc =>
    obtain ⟨b, c⟩ := bc
    rw [hρ] at h4
    obtain ⟨a', ev, ha⟩ := h4
    obtain ⟨cs, ty', e3, e4, e5, e6, e7⟩ := row_cells hG S hL hρ
    have hsb := sliceBounds_run hG S (P := P) true len (c - off) lo hi l u hl hu ⟨b1, b2, b3⟩ (by omega)
    refine OpGoal.same S (v := .slice (if c - off = l.toNat then a' else a'.map (·.add (l.toNat * sz))) (u - l).toNat (c - off - l.toNat)) ?_ (.own _ _ _ _ _ _ _ _ hL h1 ⟨_, _, _, rfl⟩ (fun _ => ⟨by omega, ?_⟩))
    · simp only [execOp, ho, Instr.sliceAt, Instr.slice, Sem.run_bind, run_underlying ht, Result.andThen_ok, ev, Option.map_none, hsb, size_run hs1, Sem.run_pure, e1]
    · rw [hρ]
      refine ⟨_, by rw [Nat.sub_sub], ?_⟩
      rcases ha with ha | ⟨ha1, ha2⟩
      · rw [slice_addr hG S a' b (off * sz) (c - off) l.toNat sz ha]
        by_cases hc : c - off = l.toNat
        · rw [if_pos hc]
          by_cases hz : off + l.toNat = 0
          · left
            have : off = 0 ∧ l.toNat = 0 := by omega
            rw [this.1, this.2]
          · right; exact ⟨by omega, hz⟩
        · rw [if_neg hc]; left; rw [Nat.add_mul]
      · right; exact ⟨by omega, by omega⟩

theorem op_slice_max (ty e : TypeId) (x m : Operand) (lo hi : Option Operand) (s : List DV) (sz : Nat) (agg : Bool) (k : IntKind) (ho : o.op = .slice ty x lo hi (some m)) (ht : P.underlying ty = some (.slice e)) (he : elemT P e = some (sz, agg))
    (hx : evalOpd G t x = .list s ∨ evalOpd G t x = .full s) (hl : bound lo (evalOpd G t) 0 = some 0) (hu : bound hi (evalOpd G t) 1 = some 0) (hm : evalOpd G t m = .int k 0) : OpGoal P B nt M0 w0 M ρ t h a w o (.full []) [] := by
  obtain ⟨hs1, hs2, hs3, hs4, hs5⟩ := elemT_spec he
  have r2 := S.opd hG m; rw [hm] at r2
  have em := r2.inv_int
  have ev : ∃ a' len cap, a.eval x = .slice a' len cap := by
    have r1 := S.opd hG x
    generalize a.eval x = v at *
    rcases hx with hx | hx <;> rw [hx] at r1
    · have r3 := r1.inv_list
      cases r3 with | list _ a' cap sz' b o' g hcap ha hsz hM hr => exact ⟨_, _, _, rfl⟩
    · have r3 := r1.inv_full
      cases r3 with | full _ a' sz' b o' g ha hsz hM hr => exact ⟨_, _, _, rfl⟩
  obtain ⟨a', len, cap, ev⟩ := ev
  have h1 := bound_run hG S lo 0 0 hl
  have h2 := bound_run hG S hi 1 0 hu
  have e2 : ∃ y k', hi = some y ∧ a.eval y = .int k' 0 := by
    rcases h2 with ⟨_, h2⟩ | h2
    · omega
    · exact h2
  obtain ⟨y, k', rfl, e2⟩ := e2
  have hsb : (Instr.sliceBounds true len cap (lo.map a.eval) (some (.int k' 0)) (some (.int k 0))).run P w = .ok (0, 0, 0) w := by
    rcases h1 with ⟨rfl, _⟩ | ⟨z, k'', rfl, e3⟩
    · simp [Instr.sliceBounds, Instr.sliceBound, asIntOf]
    · simp [Instr.sliceBounds, Instr.sliceBound, asIntOf, e3]
  have hrel : RelP M (.full []) (.slice a' 0 0) := RelP.full (M := M) [] a' 0 0 0 (fun _ => Go.undef) (.inl rfl) (by simp) (by simp [flat]) (by simp [flat])
  refine OpGoal.same S (v := .slice a' 0 0) ?_ (.pure hrel)
  simp only [execOp, ho, Instr.sliceAt, Instr.slice, Sem.run_bind, run_underlying ht, Result.andThen_ok, ev, Option.map_some, e2, em, hsb, size_run hs1, Sem.run_pure, if_true, Nat.sub_self]
end
end Sh
