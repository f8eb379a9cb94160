/- What single operations come to: loads, lengths, windows. -/
import Derived.Test.YtcdhbdhonpddeaaDoorShOps3
set_option linter.unusedVariables false
set_option linter.unusedSectionVars false
namespace Sh
open Go

def gcells (g : Nat → Value) (k : Nat) : Array Value := ((List.range k).map g).toArray
theorem gcells_size (g : Nat → Value) (k : Nat) : (gcells g k).size = k := by simp [gcells]
theorem gcells_getD (g : Nat → Value) {k i : Nat} (hi : i < k) : (gcells g k).getD i Go.undef = g i := by
  rw [agetD_lt (by rw [gcells_size]; exact hi)]; simp [gcells]

theorem elemT_spec {P : Program} {e : TypeId} {sz : Nat} {agg : Bool} (he : elemT P e = some (sz, agg)) : sizeT P e = some sz ∧ isAggT P e = some agg ∧ sz ≠ 0 ∧ (agg = false → sz = 1) ∧ bytesOk P e = true := by
  unfold elemT at he
  split at he
  · rename_i s' a' e1 e2
    cases hc : (Nat.beq s' 0 || (!a' && !Nat.beq s' 1) || !bytesOk P e) with
    | true => rw [hc] at he; cases he
    | false =>
      rw [hc] at he
      simp only [cond_false, Option.some.injEq, Prod.mk.injEq] at he
      obtain ⟨rfl, rfl⟩ := he
      rw [natbeq, natbeq] at hc
      simp only [Bool.or_eq_false_iff] at hc
      refine ⟨e1, e2, ?_, ?_, ?_⟩
      · intro e5; subst e5; simp at hc
      · intro e5; subst e5; simpa using hc.1.2
      · simpa using hc.2
  · cases he

theorem loadVar_run {P : Program} {ty : TypeId} {k : Nat} {agg : Bool} (he : elemT P ty = some (k, agg)) {b o : Nat} {g : Nat → Value} {w : World} (hc : ∀ j, j < k → w.cell? ⟨b, o + j, none⟩ = some (g j)) :
    (loadVar ty ⟨b, o, none⟩).run P w = .ok (bif agg then .agg (gcells g k) else g 0) w := by
  obtain ⟨h1, h2, h3, h4, h5⟩ := elemT_spec he
  cases agg with
  | true =>
    have hl : (loadCells ⟨b, o, none⟩ k).run P w = .ok (gcells g k) w := by
      have := run_loadCells_list (P := P) w ⟨b, o, none⟩ ((List.range k).map g) (fun j v hv => by
        rw [Addr.add_mid]
        rw [List.getElem?_map] at hv
        cases hj : (List.range k)[j]? with
        | none => rw [hj] at hv; cases hv
        | some j' =>
          rw [hj] at hv
          have : j < k ∧ j' = j := by
            have h6 := List.getElem?_eq_some_iff.1 hj
            obtain ⟨h7, h8⟩ := h6
            simp at h7 h8
            exact ⟨h7, h8.symm⟩
          obtain ⟨h6, rfl⟩ := this
          simp only [Option.map_some, Option.some.injEq] at hv
          rw [← hv]; exact hc _ h6)
      simpa [gcells] using this
    unfold loadVar
    rw [Sem.run_bind, isAgg_run h2, Result.andThen_ok]
    simp [size_run h1, hl]
  | false =>
    have := h4 rfl; subst this
    have h6 := hc 0 (by omega)
    unfold loadVar
    rw [Sem.run_bind, isAgg_run h2, Result.andThen_ok]
    simp only [Nat.add_zero] at h6
    simp [load, Sem.run, h6]

theorem loadVar_run1 {P : Program} {ty : TypeId} (he : elemT P ty = some (1, false)) {b o : Nat} {v : Value} {w : World} (hc : w.cell? ⟨b, o, none⟩ = some v) : (loadVar ty ⟨b, o, none⟩).run P w = .ok v w := by
  have := loadVar_run (P := P) he (b := b) (o := o) (g := fun _ => v) (w := w) (fun j hj => by
    have e : j = 0 := by omega
    subst e; exact hc)
  simpa using this

theorem cells_ne_agg {d : DV} (h : isAggB d = false) : d.cells = [d] := by cases d <;> first | rfl | simp [isAggB] at h

theorem cell_of_heap {w : World} {b : Nat} {cs : Array Value} {ty : TypeId} {fz : Nat × Nat} (h : w.heap[b]? = some (.cells cs ty fz)) (j : Nat) : w.cell? ⟨b, j, none⟩ = cs[j]? := by
  simp [World.cell?, h]

theorem okE_spec {sz : Nat} {d : DV} (h : okE sz d = true) : d.cells.length = sz ∧ cellsB d.cells = true := by
  unfold okE at h
  rw [natbeq] at h
  simpa using h

section
variable {P : Program} {G : Nat → Option DV} {B : Base} {nt : Nat} {M0 : Mem} {w0 : World} {M : Mem} {ρ : Locs} {t : Tmps} {h : Heap} {a : Act} {w : World} {o : Oper}
variable (hG : GOk G M0) (S : Sim B nt M0 w0 M ρ t h a w)
include hG S

theorem op_load_ip (ty : TypeId) (x : Operand) (d : DV) (ho : o.op = .load ty x) (he : elemT P ty = some (1, false)) (hx : evalOpd G t x = .ip d) (ha : isAggB d = false) : OpGoal P B nt M0 w0 M ρ t h a w o d [] := by
  have r1 := S.opd hG x; rw [hx] at r1
  have r2 := r1.inv_ip
  generalize hv : a.eval x = v at *
  cases r2 with
  | ip _ b o' g hM hr =>
    rw [cells_ne_agg ha] at hM hr
    have h1 := hM 0 (by simp)
    have h2 := hr 0 (by simp)
    refine OpGoal.same S (v := g 0) ?_ (.pure (by simpa using h2))
    have := loadVar_run (P := P) he (b := b) (o := o') (g := g) (w := w) (fun j hj => S.mem _ _ _ (hM j (by simpa using hj)))
    simp only [execOp, ho, hv, Instr.loadAt, Instr.sureAddr, Sem.run_bind, Sem.run_pure, Result.andThen_ok, this, cond_false]

theorem op_load_ip_agg (ty : TypeId) (x : Operand) (cs : List DV) (k : Nat) (ho : o.op = .load ty x) (he : elemT P ty = some (k, true)) (hx : evalOpd G t x = .ip (.agg cs)) (hk : cs.length = k) : OpGoal P B nt M0 w0 M ρ t h a w o (.agg cs) [] := by
  have r1 := S.opd hG x; rw [hx] at r1
  have r2 := r1.inv_ip
  generalize hv : a.eval x = v at *
  subst hk
  cases r2 with
  | ip _ b o' g hM hr =>
    simp only [DV.cells] at hM hr
    refine OpGoal.same S (v := .agg (gcells g cs.length)) ?_ (.pure (.agg _ _ (by rw [gcells_size]) (fun i hi => by rw [gcells_getD g hi]; exact hr i hi)))
    have := loadVar_run (P := P) he (b := b) (o := o') (g := g) (w := w) (fun j hj => S.mem _ _ _ (hM j hj))
    simp only [execOp, ho, hv, Instr.loadAt, Instr.sureAddr, Sem.run_bind, Sem.run_pure, Result.andThen_ok, this, cond_true]

/-- A box: its cells. -/
theorem box_cells {n sz : Nat} {d : DV} (hl : hlook h n = some (.box sz d) ∨ hlook h n = some (.fbox sz d)) {b c : Nat} (hρ : ρ n = some (b, c)) : ∃ cs ty, w.heap[b]? = some (.cells cs ty (0, 0)) ∧ cs.size = sz ∧ d.cells.length = sz ∧ cellsB d.cells = true ∧
    ∀ i, i < sz → w.cell? ⟨b, i, none⟩ = some (cs.getD i Go.undef) ∧ RelV M ρ h (d.cells.getD i .undef) (cs.getD i Go.undef) := by
  rcases hl with hl | hl
  · obtain ⟨b', c', h1, h2, cs, ty, h3, h4, h5, h6, h7⟩ := S.obj n _ hl
    rw [hρ] at h1
    obtain ⟨rfl, rfl⟩ : b = b' ∧ c = c' := by simpa using h1
    obtain ⟨h8, h9⟩ := okE_spec h5
    refine ⟨cs, ty, h3, h4, h8, h9, fun i hi => ⟨?_, h6 i hi⟩⟩
    rw [cell_of_heap h3, agetD_lt (by omega), Array.getElem?_eq_getElem (by omega)]
  · obtain ⟨b', c', h1, h2, cs, ty, h3, h4, h5, h6, h7⟩ := S.obj n _ hl
    rw [hρ] at h1
    obtain ⟨rfl, rfl⟩ : b = b' ∧ c = c' := by simpa using h1
    obtain ⟨h8, h9⟩ := okE_spec h5
    refine ⟨cs, ty, h3, h4, h8, h9, fun i hi => ⟨?_, .pure (h6 i hi)⟩⟩
    rw [cell_of_heap h3, agetD_lt (by omega), Array.getElem?_eq_getElem (by omega)]

theorem op_load_box (ty : TypeId) (x : Operand) (n off sz : Nat) (d : DV) (ho : o.op = .load ty x) (he : elemT P ty = some (1, false)) (hx : evalOpd G t x = .bptr n off) (hl : hlook h n = some (.box sz d) ∨ hlook h n = some (.fbox sz d)) (hb : off < sz) :
    OpGoal P B nt M0 w0 M ρ t h a w o (d.cells.getD off .undef) [] := by
  have r1 := S.opd hG x; rw [hx] at r1
  obtain ⟨sz', b, c, d', e2, h2, h3⟩ := r1.inv_bptr
  obtain ⟨cs, ty', e3, e4, e5, e6, e7⟩ := box_cells hG S hl h3
  obtain ⟨h4, h5⟩ := e7 off hb
  refine OpGoal.same S (v := cs.getD off Go.undef) ?_ h5
  have := loadVar_run1 (P := P) he h4
  simp only [execOp, ho, e2, Instr.loadAt, Instr.sureAddr, Sem.run_bind, Sem.run_pure, Result.andThen_ok, this]

theorem op_load_box_agg (ty : TypeId) (x : Operand) (n off sz k : Nat) (d : DV) (ho : o.op = .load ty x) (he : elemT P ty = some (k, true)) (hx : evalOpd G t x = .bptr n off) (hl : hlook h n = some (.box sz d) ∨ hlook h n = some (.fbox sz d)) (hb : off + k ≤ sz) :
    OpGoal P B nt M0 w0 M ρ t h a w o (.agg ((d.cells.drop off).take k)) [] := by
  have r1 := S.opd hG x; rw [hx] at r1
  obtain ⟨sz', b, c, d', e2, h2, h3⟩ := r1.inv_bptr
  obtain ⟨cs, ty', e3, e4, e5, e6, e7⟩ := box_cells hG S hl h3
  refine OpGoal.same S (v := .agg (gcells (fun j => cs.getD (off + j) Go.undef) k)) ?_ (.agg _ _ (by rw [gcells_size]; simp; omega) (fun i hi => ?_))
  · have := loadVar_run (P := P) he (b := b) (o := off) (g := fun j => cs.getD (off + j) Go.undef) (w := w) (fun j hj => (e7 (off + j) (by omega)).1)
    simp only [execOp, ho, e2, Instr.loadAt, Instr.sureAddr, Sem.run_bind, Sem.run_pure, Result.andThen_ok, this, cond_true]
  · have hi' : i < k := by simp at hi; omega
    rw [gcells_getD _ hi', take_drop_getD _ _ _ _ _ hi']
    exact (e7 (off + i) (by omega)).2

/-- A row: its cells. -/
theorem row_cells {n sz : Nat} {es : List DV} {fr : Bool} (hl : hlook h n = some (.row sz es fr)) {b c : Nat} (hρ : ρ n = some (b, c)) : ∃ cs ty, w.heap[b]? = some (.cells cs ty (0, 0)) ∧ cs.size = c * sz ∧ es.length ≤ c ∧ (∀ e ∈ es, okE sz e = true) ∧
    ∀ i j, i < es.length → j < sz → w.cell? ⟨b, i * sz + j, none⟩ = some (cs.getD (i * sz + j) Go.undef) ∧ RelP M ((es.getD i .undef).cells.getD j .undef) (cs.getD (i * sz + j) Go.undef) := by
  have h1 := S.obj n _ hl
  simp only [ObjRel, hρ] at h1
  obtain ⟨h2, cs, ty, h3, h4, h5, h6, h7, h8, h9⟩ := h1
  refine ⟨cs, ty, h3, h4, h5, h6, fun i j hi hj => ?_⟩
  have hs : ∀ e ∈ es, e.cells.length = sz := fun e he => (okE_spec (h6 e he)).1
  have hlt : i * sz + j < es.length * sz := by
    have : (i + 1) * sz ≤ es.length * sz := Nat.mul_le_mul_right _ hi
    rw [Nat.succ_mul] at this; omega
  have hlt2 : i * sz + j < cs.size := by
    have : es.length * sz ≤ c * sz := Nat.mul_le_mul_right _ h5
    omega
  refine ⟨?_, ?_⟩
  · rw [cell_of_heap h3, agetD_lt hlt2, Array.getElem?_eq_getElem hlt2]
  · have := h7 (i * sz + j) (by rw [length_flat es sz hs]; exact hlt)
    rwa [getElem_flat es sz hs i j hi hj] at this

theorem op_load_row (ty : TypeId) (x : Operand) (n i off tot sz : Nat) (es : List DV) (fr : Bool) (ho : o.op = .load ty x) (he : elemT P ty = some (1, false)) (hx : evalOpd G t x = .ptr n i off tot) (hl : hlook h n = some (.row sz es fr))
    (hb : tot = es.length ∧ off < sz) : OpGoal P B nt M0 w0 M ρ t h a w o ((es.getD i .undef).cells.getD off .undef) [] := by
  have r1 := S.opd hG x; rw [hx] at r1
  obtain ⟨h1, h2, h3⟩ := r1.inv_ptr hl
  obtain ⟨b, c, h4, h5⟩ := h3 hb.1
  obtain ⟨cs, ty', e3, e4, e5, e6, e7⟩ := row_cells hG S hl h4
  obtain ⟨h6, h7⟩ := e7 i off (by omega) hb.2
  refine OpGoal.same S (v := cs.getD (i * sz + off) Go.undef) ?_ (.pure h7)
  have := loadVar_run1 (P := P) he h6
  simp only [execOp, ho, h5, Instr.loadAt, Instr.sureAddr, Sem.run_bind, Sem.run_pure, Result.andThen_ok, this]

theorem op_load_row_agg (ty : TypeId) (x : Operand) (n i off tot sz k : Nat) (es : List DV) (fr : Bool) (ho : o.op = .load ty x) (he : elemT P ty = some (k, true)) (hx : evalOpd G t x = .ptr n i off tot) (hl : hlook h n = some (.row sz es fr))
    (hb : tot = es.length ∧ off + k ≤ sz) : OpGoal P B nt M0 w0 M ρ t h a w o (.agg (((es.getD i .undef).cells.drop off).take k)) [] := by
  have r1 := S.opd hG x; rw [hx] at r1
  obtain ⟨h1, h2, h3⟩ := r1.inv_ptr hl
  obtain ⟨b, c, h4, h5⟩ := h3 hb.1
  obtain ⟨cs, ty', e3, e4, e5, e6, e7⟩ := row_cells hG S hl h4
  have hi : i < es.length := by omega
  have hlen : (es.getD i .undef).cells.length = sz := (okE_spec (e6 _ (by rw [getD_lt hi]; exact List.getElem_mem hi))).1
  refine OpGoal.same S (v := .agg (gcells (fun j => cs.getD (i * sz + (off + j)) Go.undef) k)) ?_ (.agg _ _ (by rw [gcells_size, List.length_take, List.length_drop]; omega) (fun j hj => ?_))
  · have := loadVar_run (P := P) he (b := b) (o := i * sz + off) (g := fun j => cs.getD (i * sz + (off + j)) Go.undef) (w := w) (fun j hj => by rw [Nat.add_assoc]; exact (e7 i (off + j) hi (by omega)).1)
    simp only [execOp, ho, h5, Instr.loadAt, Instr.sureAddr, Sem.run_bind, Sem.run_pure, Result.andThen_ok, this, cond_true]
  · have hj' : j < k := by simp at hj; omega
    rw [gcells_getD _ hj', take_drop_getD _ _ _ _ _ hj']
    exact .pure (e7 i (off + j) hi (by omega)).2

/-- A whole variable that is an aggregate: the value itself. -/
theorem whole_agg {d : DV} {sz : Nat} (ha : isAggB d = true) (hl : d.cells.length = sz) : DV.agg ((d.cells.drop 0).take sz) = d := by
  cases d <;> first | (simp [isAggB] at ha; done) | skip
  rename_i cs
  simp only [DV.cells] at hl ⊢
  subst hl; simp
end
end Sh
