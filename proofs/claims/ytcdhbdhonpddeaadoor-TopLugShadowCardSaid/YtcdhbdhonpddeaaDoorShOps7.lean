/- What single operations come to: literals and builds. -/
import Derived.Test.YtcdhbdhonpddeaaDoorShPur
set_option linter.unusedVariables false
set_option linter.unusedSectionVars false
namespace Sh
open Go

theorem foldSet_list (off : Nat) : ∀ (l : List Value) (n : Nat) (A : Array Value), off + n + l.length ≤ A.size →
    ((l.zipIdx n).foldl (fun cs x => cs.setIfInBounds (off + x.2) x.1) A).size = A.size ∧
    ∀ k, ((l.zipIdx n).foldl (fun cs x => cs.setIfInBounds (off + x.2) x.1) A).getD k Go.undef = if off + n ≤ k ∧ k < off + n + l.length then l.getD (k - (off + n)) Go.undef else A.getD k Go.undef
  | [], n, A, hA => ⟨rfl, fun k => by simp; omega⟩
  | c :: r, n, A, hA => by
    simp only [List.zipIdx_cons, List.foldl_cons, List.length_cons] at hA ⊢
    obtain ⟨h1, h2⟩ := foldSet_list off r (n + 1) (A.setIfInBounds (off + n) c) (by simp; omega)
    refine ⟨by rw [h1]; simp, fun k => ?_⟩
    rw [h2]
    by_cases hk : k = off + n
    · subst hk
      rw [if_neg (by omega), if_pos (by omega), agetD_lt (by simp; omega)]
      simp
    · by_cases hk2 : off + (n + 1) ≤ k ∧ k < off + (n + 1) + r.length
      · rw [if_pos hk2, if_pos (by omega)]
        rw [show k - (off + n) = (k - (off + (n + 1))) + 1 by omega]
        simp
      · rw [if_neg hk2, if_neg (by omega)]
        simp [Array.getD_eq_getD_getElem?, Array.getElem?_setIfInBounds_ne (Ne.symm hk)]

theorem foldSet (off : Nat) (v A : Array Value) (hA : off + v.size ≤ A.size) :
    (v.zipIdx.foldl (fun cs (c, j) => cs.setIfInBounds (off + j) c) A).size = A.size ∧
    ∀ k, (v.zipIdx.foldl (fun cs (c, j) => cs.setIfInBounds (off + j) c) A).getD k Go.undef = if off ≤ k ∧ k < off + v.size then v.getD (k - off) Go.undef else A.getD k Go.undef := by
  have e : v.zipIdx.foldl (fun cs (c, j) => cs.setIfInBounds (off + j) c) A = (v.toList.zipIdx 0).foldl (fun cs x => cs.setIfInBounds (off + x.2) x.1) A := by
    rw [← Array.foldl_toList, Array.toList_zipIdx]
  rw [e]
  obtain ⟨h1, h2⟩ := foldSet_list off v.toList 0 A (by simpa using hA)
  refine ⟨h1, fun k => ?_⟩
  rw [h2]
  simp only [Nat.add_zero, Array.length_toList]
  by_cases hk : off ≤ k ∧ k < off + v.size
  · rw [if_pos hk, if_pos hk, agetD_lt (by omega), getD_lt (by simp; omega)]; simp
  · rw [if_neg hk, if_neg hk]

section
variable {P : Program} {G : Nat → Option DV} {B : Base} {nt : Nat} {M0 : Mem} {w0 : World} {M : Mem} {ρ : Locs} {t : Tmps} {h : Heap} {a : Act} {w : World} {o : Oper}

/-- A literal's elements: what 'fill' leaves. -/
theorem fill_lit (hG : GOk G M0) (S : Sim B nt M0 w0 M ρ t h a w) (sz : Nat) : ∀ (parts : List (Nat × Operand)) (es : List DV) (A : Array Value), A.size = es.length * sz →
    (∀ e ∈ es, okE sz e = true) → (∀ p ∈ parts, p.1 < es.length) → (∀ p ∈ parts, okE sz (evalOpd G t p.2) = true) →
    (∀ i j, i < es.length → j < sz → RelV M ρ h ((es.getD i .undef).cells.getD j .undef) (A.getD (i * sz + j) Go.undef)) →
    ∃ R, Instr.fill (fun i => some (i * sz, sz)) A (parts.map fun p => (p.1, a.eval p.2)) = some R ∧ R.size = A.size ∧
      (litElems (evalOpd G t) parts es).length = es.length ∧
      ∀ i j, i < es.length → j < sz → RelV M ρ h (((litElems (evalOpd G t) parts es).getD i .undef).cells.getD j .undef) (R.getD (i * sz + j) Go.undef)
  | [], es, A, hA, hes, hp, hpk, hr => ⟨A, rfl, rfl, rfl, hr⟩
  | (i0, x) :: r, es, A, hA, hes, hp, hpk, hr => by
    have hi0 : i0 < es.length := hp (i0, x) (by simp)
    have hx := hpk (i0, x) (by simp)
    obtain ⟨k1, k2⟩ := okE_spec hx
    obtain ⟨v1, v2⟩ := cells_getD (S.opd hG x) k2
    simp only at v1 v2 k1
    have hbound : i0 * sz + (a.eval x).cells.size ≤ A.size := by
      rw [v1, k1, hA, ← Nat.succ_mul]; exact Nat.mul_le_mul_right _ hi0
    obtain ⟨f1, f2⟩ := foldSet (i0 * sz) (a.eval x).cells A hbound
    have hes' : ∀ e ∈ es.set i0 (evalOpd G t x), okE sz e = true := fun e he => by
      rcases List.mem_or_eq_of_mem_set he with h1 | h1
      · exact hes e h1
      · rw [h1]; exact hx
    obtain ⟨R, h1, h2, h3, h4⟩ := fill_lit hG S sz r (es.set i0 (evalOpd G t x)) _ (by rw [f1, hA]; simp) hes' (fun p hp' => by simpa using hp p (by simp [hp'])) (fun p hp' => hpk p (by simp [hp']))
      (fun i j hi hj => by
        rw [f2]
        simp only [List.length_set] at hi
        by_cases e : i = i0
        · subst e
          rw [if_pos ⟨by omega, by rw [v1, k1]; omega⟩]
          rw [show i * sz + j - i * sz = j by omega]
          have : (es.set i (evalOpd G t x)).getD i .undef = evalOpd G t x := by rw [getD_lt (by simpa using hi)]; simp
          rw [this]; exact v2 j (by omega)
        · rw [if_neg ?_]
          · have : (es.set i0 (evalOpd G t x)).getD i .undef = es.getD i .undef := by
              rw [getD_lt (by simpa using hi), getD_lt hi]; simp [List.getElem_set_ne (Ne.symm e)]
            rw [this]; exact hr i j hi hj
          · rw [v1, k1]
            intro ⟨c1, c2⟩
            rcases Nat.lt_or_gt_of_ne e with h' | h'
            · have : (i + 1) * sz ≤ i0 * sz := Nat.mul_le_mul_right _ h'
              rw [Nat.succ_mul] at this; omega
            · have : (i0 + 1) * sz ≤ i * sz := Nat.mul_le_mul_right _ h'
              rw [Nat.succ_mul] at this; omega)
    refine ⟨R, ?_, by rw [h2, f1], by rw [litElems, h3]; simp, fun i j hi hj => by simpa [litElems] using h4 i j (by simpa using hi) hj⟩
    simp only [List.map_cons, Instr.fill]
    rw [if_neg]
    · exact h1
    · rw [v1, k1]
      simp only [ne_eq, not_true_eq_false, decide_false, Bool.false_or, decide_eq_true_eq]
      rw [v1, k1] at hbound; omega

theorem pcells_getD {d : DV} {v : Value} {M : Mem} (hr : RelP M d v) (hu : cellsB d.cells = true) : v.cells.size = d.cells.length ∧ ∀ i, i < d.cells.length → RelP M (d.cells.getD i .undef) (v.cells.getD i Go.undef) := by
  by_cases ha : isAggB d = true
  · cases hr <;> first | (simp [isAggB] at ha; done) | skip
    rename_i ds vs hl hr'
    exact ⟨hl.symm, hr'⟩
  · have ha' : isAggB d = false := by simpa using ha
    have hc := cells_ne_agg ha'
    have hv : v.cells = #[v] := by
      rw [hc] at hu
      cases hr <;> first | rfl | (simp [isAggB] at ha'; done) | (simp [cellsB, cellB] at hu; done)
    rw [hv, hc]
    refine ⟨by simp, fun i hi => ?_⟩
    simp at hi; subst hi; simpa using hr

/-- A fresh row of zero elements. -/
theorem zero_row {z : Value} {sz len : Nat} (hz : z.cells.size = sz) (hok : okE sz (ofValue z) = true) (h0 : 0 < sz) (i j : Nat) (hi : i < len) (hj : j < sz) :
    RelP M (((List.replicate len (ofValue z)).getD i .undef).cells.getD j .undef) (((Array.range (len * sz)).map (z.cells[· % z.cells.size]!)).getD (i * sz + j) Go.undef) := by
  have hlt : i * sz + j < len * sz := by
    have : (i + 1) * sz ≤ len * sz := Nat.mul_le_mul_right _ hi
    rw [Nat.succ_mul] at this; omega
  obtain ⟨k1, k2⟩ := okE_spec hok
  have hr := pcells_getD (relP_ofValue M z) k2
  have e1 : (List.replicate len (ofValue z)).getD i .undef = ofValue z := by rw [getD_lt (by simpa using hi)]; simp
  have e2 : ((Array.range (len * sz)).map (z.cells[· % z.cells.size]!)).getD (i * sz + j) Go.undef = z.cells.getD j Go.undef := by
    rw [agetD_lt (by simpa using hlt)]
    have : (i * sz + j) % sz = j := by rw [Nat.mul_comm, Nat.mul_add_mod]; exact Nat.mod_eq_of_lt hj
    simp only [Array.getElem_map, Array.getElem_range, hz, this]
    rw [agetD_lt (by omega), getElem!_pos z.cells j (by omega)]
  rw [e1, e2]
  exact hr.2 j (by omega)

theorem zeroT_spec {e : TypeId} {z : Value} (hz : zeroT P e = some z) : ∃ i, P.info? e = some i ∧ i.zero = some z := by
  unfold zeroT at hz
  cases hi : P.info? e with
  | none => rw [hi] at hz; cases hz
  | some i => rw [hi] at hz; exact ⟨i, rfl, by simpa using hz⟩

theorem zeroValue_run {e : TypeId} {z : Value} (hz : zeroT P e = some z) (w : World) : (zeroValue e).run P w = .ok z w := by
  obtain ⟨i, hi, hz'⟩ := zeroT_spec hz
  simp only [zeroValue, typeInfo, Sem.run_bind, run_program, Result.andThen_ok, hi, Sem.run_pure, hz']

/-- What a literal slice leaves: the row's cells. -/
theorem lit_cells (hG : GOk G M0) (S : Sim B nt M0 w0 M ρ t h a w) (ty e : TypeId) (len sz : Nat) (agg : Bool) (z : Value) (parts : Array (Nat × Operand)) (ho : o.op = .buildSlice ty len parts)
    (ht : P.underlying ty = some (.slice e)) (he : elemT P e = some (sz, agg)) (hz : zeroT P e = some z) (hlen : len * sz ≤ 16777216) (hzs : z.cells.size = sz) (hzo : okE sz (ofValue z) = true) (hp : ∀ p ∈ parts.toList, p.1 < len)
    (hpk : ∀ p ∈ parts.toList, okE sz (evalOpd G t p.2) = true) :
    ∃ R, (execOp a.eval o).run P w = .ok (.value (.slice (some ⟨w.heap.size, 0, none⟩) len len)) (w.alloc (.cells R e)) ∧ R.size = len * sz ∧
      (litElems (evalOpd G t) parts.toList (List.replicate len (ofValue z))).length = len ∧
      ∀ i j, i < len → j < sz → RelV M ρ h (((litElems (evalOpd G t) parts.toList (List.replicate len (ofValue z))).getD i .undef).cells.getD j .undef) (R.getD (i * sz + j) Go.undef) := by
  obtain ⟨h1, h2, h3, h4, h5⟩ := elemT_spec he
  have hsz : 0 < sz := by omega
  obtain ⟨R, f1, f2, f3, f4⟩ := fill_lit hG S sz parts.toList (List.replicate len (ofValue z)) ((Array.range (len * sz)).map (z.cells[· % z.cells.size]!)) (by simp) (fun e he => by
      rw [List.mem_replicate] at he; rw [he.2]; exact hzo) (fun p hp' => by simpa using hp p hp') hpk (fun i j hi hj => by
      simp only [List.length_replicate] at hi; exact .pure (zero_row hzs hzo hsz i j hi hj))
  refine ⟨R, ?_, by rw [f2]; simp, by rw [f3]; simp, fun i j hi hj => f4 i j (by simpa using hi) hj⟩
  have hparts : (parts.map fun (i, x) => (i, a.eval x)).toList = parts.toList.map fun p => (p.1, a.eval p.2) := by rw [Array.toList_map]
  have hbig : ¬ (len * sz > 2 ^ 24) := by
    have : (2 : Nat) ^ 24 = 16777216 := by decide
    omega
  by_cases h0 : len * sz = 0
  · have hl0 : len = 0 := by
      rcases Nat.mul_eq_zero.1 h0 with h | h
      · exact h
      · omega
    subst hl0
    have hpe : parts.toList = [] := by
      cases hp' : parts.toList with
      | nil => rfl
      | cons p r => exact absurd (hp p (by rw [hp']; simp)) (by omega)
    rw [hpe] at f1 hparts
    simp only [Nat.zero_mul, List.map_nil, Instr.fill, Option.some.injEq] at f1
    subst f1
    simp only [execOp, ho, Instr.buildSlice, Sem.run_bind, run_underlying ht, Result.andThen_ok, size_run h1, Nat.zero_mul, hparts, List.map_nil, Instr.fill, if_true]
    have e0 : ¬ (0 > 2 ^ 24) := by omega
    simp only [e0, if_false, Sem.run_pure, Result.andThen_ok, newRow, newObj, Sem.run, Sem.run_bind, World.alloc_eq]
    have er : Array.range 0 = #[] := by rfl
    simp [er]
  · simp only [execOp, ho, Instr.buildSlice, Sem.run_bind, run_underlying ht, Result.andThen_ok, size_run h1, hbig, if_false, h0, hparts, zeroValue_run hz, Sem.run_pure, f1]
    simp [newRow, newObj, Sem.run]

/-- A row by its elements and a row by its cells. -/
theorem flat_rel {R : DV → Value → Prop} {es : List DV} {sz : Nat} {cs : Array Value} (hs : ∀ e ∈ es, e.cells.length = sz) (hr : ∀ i j, i < es.length → j < sz → R ((es.getD i .undef).cells.getD j .undef) (cs.getD (i * sz + j) Go.undef)) :
    ∀ i, i < (flat es).length → R ((flat es).getD i .undef) (cs.getD i Go.undef) := by
  intro i hi
  rw [length_flat es sz hs] at hi
  by_cases h0 : sz = 0
  · subst h0; simp at hi
  obtain ⟨q, r, hq, hm, rfl⟩ : ∃ q r, q < es.length ∧ r < sz ∧ q * sz + r = i :=
    ⟨i / sz, i % sz, (Nat.div_lt_iff_lt_mul (by omega)).2 hi, Nat.mod_lt _ (by omega), by rw [Nat.mul_comm]; exact Nat.div_add_mod i sz⟩
  rw [getElem_flat es sz hs q r hq hm]
  exact hr q r hq hm
end
end Sh
