/- What single operations come to: variables and rows of the call's own; literals; builds; equality. -/
import Derived.Test.YtcdhbdhonpddeaaDoorShNew
set_option linter.unusedVariables false
set_option linter.unusedSectionVars false
namespace Sh
open Go

theorem cells_getD {d : DV} {v : Value} {M : Mem} {ρ : Locs} {h : Heap} (hr : RelV M ρ h d v) (hu : cellsB d.cells = true) : v.cells.size = d.cells.length ∧ ∀ i, i < d.cells.length → RelV M ρ h (d.cells.getD i .undef) (v.cells.getD i Go.undef) := by
  by_cases ha : isAggB d = true
  · cases d <;> first | (simp [isAggB] at ha; done) | skip
    rename_i cs
    obtain ⟨vs, rfl, hl, hr'⟩ := hr.inv_agg
    exact ⟨hl.symm, hr'⟩
  · have ha' : isAggB d = false := by simpa using ha
    have hc := cells_ne_agg ha'
    rw [hc] at hu ⊢
    have hv : v.cells = #[v] := by
      cases d with
      | undef => simp [cellsB, cellB] at hu
      | bool b => rw [hr.inv_bool]; rfl
      | int k n => rw [hr.inv_int]; rfl
      | str s => rw [hr.inv_str]; rfl
      | agg cs => simp [isAggB] at ha
      | tuple cs => simp [cellsB, cellB] at hu
      | list l => have := hr.inv_list; cases this; rfl
      | full l => have := hr.inv_full; cases this; rfl
      | ip d => have := hr.inv_ip; cases this; rfl
      | func f cs => obtain ⟨vs, rfl, _⟩ := hr.inv_func; rfl
      | nilptr => cases hr with | pure hp => cases hp; rfl
      | nilfunc => cases hr with | pure hp => cases hp; rfl
      | own n off len tot => cases hr with
        | pure hp => cases hp
        | own _ _ _ _ _ _ _ _ _ _ hs _ => obtain ⟨_, _, _, rfl⟩ := hs; rfl
      | ptr n i off tot => cases hr with
        | pure hp => cases hp
        | ptr _ _ _ _ _ _ _ _ _ _ _ hs _ => obtain ⟨_, rfl⟩ := hs; rfl
      | bptr n off => obtain ⟨_, _, _, _, rfl, _⟩ := hr.inv_bptr; rfl
      | dict n => cases hr with
        | pure hp => cases hp
        | dictv => rfl
        | sitv => rfl
    rw [hv]
    refine ⟨by simp, fun i hi => ?_⟩
    simp at hi; subst hi; simpa using hr


section
variable {P : Program} {G : Nat → Option DV} {B : Base} {nt : Nat} {M0 : Mem} {w0 : World} {M : Mem} {ρ : Locs} {t : Tmps} {h : Heap} {a : Act} {w : World} {o : Oper}

theorem newVar_run (e : TypeId) (v : Value) (w : World) : (newVar e v).run P w = .ok ⟨w.heap.size, 0, none⟩ (w.alloc (.cells v.cells e)) := by
  simp [newVar, newRow, newObj, Sem.run]

/-- A value becomes a variable of the call's own. -/
theorem Sim.newBox (S : Sim B nt M0 w0 M ρ t h a w) {n sz : Nat} {d : DV} {v : Value} (hn : hlook h n = none) (hr : RelV M ρ h d v) (hok : okE sz d = true) (e : TypeId) :
    Sim B nt M0 w0 M (locWith ρ n w.heap.size 1) t ((n, .box sz d) :: h) a (w.alloc (.cells v.cells e)) ∧
    RelV M (locWith ρ n w.heap.size 1) ((n, .box sz d) :: h) (.bptr n 0) (.pointer (some ⟨w.heap.size, 0, none⟩)) := by
  obtain ⟨h1, h2⟩ := okE_spec hok
  obtain ⟨h3, h4⟩ := cells_getD hr h2
  have hx := ext_addObj M ρ h n w.heap.size 1 (.box sz d) hn
  refine ⟨(S.alloc _).addObj hn (fun m p c' hm e' => ?_) ?_, .bptr n 0 sz w.heap.size 1 d (by rw [hlook_cons, if_pos rfl]) (by unfold locWith; rw [if_pos rfl])⟩
  · have := S.loc_lt hm e'; omega
  · refine ⟨w.heap.size, 1, by unfold locWith; rw [if_pos rfl], .inl S.Bsize, v.cells, e, alloc_new w _, by omega, hok, fun i hi => (h4 i (by omega)).ext hx, fun o => S.free_mem (Nat.le_refl _) o⟩

theorem op_alloc (e : TypeId) (n sz : Nat) (agg : Bool) (z : Value) (ho : o.op = .alloc e) (hz : zeroT P e = some z) (hn : hlook h n = none) (hok : okE sz (ofValue z) = true) (S : Sim B nt M0 w0 M ρ t h a w) :
    OpGoal P B nt M0 w0 M ρ t h a w o (.bptr n 0) [(n, .box sz (ofValue z))] := by
  obtain ⟨h1, h2⟩ := S.newBox hn (.pure (relP_ofValue M z)) hok e
  refine ⟨_, _, _, M, _, ?_, .inl rfl, h1, h2⟩
  unfold zeroT at hz
  cases hi : P.info? e with
  | none => rw [hi] at hz; cases hz
  | some i =>
    rw [hi] at hz
    simp only [Option.bind_some] at hz
    simp only [execOp, ho, Instr.alloc, zeroValue, typeInfo, Sem.run_bind, run_program, Result.andThen_ok, hi, Sem.run_pure, hz, newVar_run]

theorem op_box (hG : GOk G M0) (e : TypeId) (x : Operand) (n sz : Nat) (ho : o.op = .box e x) (hn : hlook h n = none) (hok : okE sz (evalOpd G t x) = true) (S : Sim B nt M0 w0 M ρ t h a w) :
    OpGoal P B nt M0 w0 M ρ t h a w o (.bptr n 0) [(n, .box sz (evalOpd G t x))] := by
  obtain ⟨h1, h2⟩ := S.newBox hn (S.opd hG x) hok e
  refine ⟨_, _, _, M, _, ?_, .inl rfl, h1, h2⟩
  simp only [execOp, ho, Instr.box, Sem.run_bind, newVar_run, Result.andThen_ok, Sem.run_pure]

/-- A row of pure elements becomes an object. -/
theorem Sim.newRow (S : Sim B nt M0 w0 M ρ t h a w) {n sz c : Nat} {es : List DV} {cs : Array Value} (hsz0 : sz ≠ 0) (hn : hlook h n = none) (hc : cs.size = c * sz) (hle : es.length ≤ c) (hok : ∀ e ∈ es, okE sz e = true)
    (hr : ∀ i, i < (flat es).length → RelP M ((flat es).getD i .undef) (cs.getD i Go.undef)) (e : TypeId) :
    Sim B nt M0 w0 M (locWith ρ n w.heap.size c) t ((n, .row sz es false) :: h) a (w.alloc (.cells cs e)) ∧
    RelV M (locWith ρ n w.heap.size c) ((n, .row sz es false) :: h) (.own n 0 es.length es.length) (.slice (some ⟨w.heap.size, 0, none⟩) es.length c) := by
  refine ⟨(S.alloc _).addObj hn (fun m p c' hm e' => ?_) ?_, .own n 0 es.length es.length sz es false _ (by rw [hlook_cons, if_pos rfl]) (Nat.le_refl _) ⟨_, _, _, rfl⟩ (fun _ => ⟨by omega, ?_⟩)⟩
  · have := S.loc_lt hm e'; omega
  · have : locWith ρ n w.heap.size c n = some (w.heap.size, c) := by unfold locWith; rw [if_pos rfl]
    simp only [ObjRel, this]
    exact ⟨⟨.inl S.Bsize, hsz0⟩, cs, e, alloc_new w _, hc, hle, hok, hr, by simp, fun _ o => S.free_mem (Nat.le_refl _) o⟩
  · have : locWith ρ n w.heap.size c n = some (w.heap.size, c) := by unfold locWith; rw [if_pos rfl]
    rw [this]; exact ⟨_, by rw [Nat.sub_zero], .inl (by rw [Nat.zero_mul])⟩

/-- A row of pure elements that nobody will write. -/
theorem Sim.newImm (S : Sim B nt M0 w0 M ρ t h a w) {sz : Nat} {es : List DV} {cs : Array Value} (hle : (flat es).length ≤ cs.size) (hsz : ∀ e ∈ es, e.cells.length = sz)
    (hr : ∀ i, i < (flat es).length → RelP M ((flat es).getD i .undef) (cs.getD i Go.undef)) (e : TypeId) :
    Sim B nt M0 w0 (memWith M w.heap.size cs) ρ t h a (w.alloc (.cells cs e)) ∧
    (∀ cap, es.length ≤ cap → RelP (memWith M w.heap.size cs) (.list es) (.slice (some ⟨w.heap.size, 0, none⟩) es.length cap)) ∧
    RelP (memWith M w.heap.size cs) (.full es) (.slice (some ⟨w.heap.size, 0, none⟩) es.length es.length) := by
  have hf : ∀ o v, M w.heap.size o = some v → cs[o]? = some v := fun o v e => by rw [S.free_mem (Nat.le_refl _) o] at e; cases e
  have hm := memWith_le (M := M) hf
  have hM : ∀ i, i < (flat es).length → memWith M w.heap.size cs w.heap.size (0 + i) = some (cs.getD i Go.undef) := fun i hi => by
    unfold memWith; rw [if_pos rfl, Nat.zero_add, agetD_lt (by omega), Array.getElem?_eq_getElem (by omega)]
  refine ⟨(S.alloc _).addMem (alloc_new w _) (.inl S.Bsize) hf (fun n o c hn e' => by have := S.loc_lt hn e'; omega), fun cap hcap => ?_, ?_⟩
  · exact .list es _ cap sz w.heap.size 0 (fun i => cs.getD i Go.undef) hcap (.inr rfl) hsz hM (fun i hi => (hr i hi).mono hm)
  · exact .full es _ sz w.heap.size 0 (fun i => cs.getD i Go.undef) (.inr rfl) hsz hM (fun i hi => (hr i hi).mono hm)
end
end Sh
