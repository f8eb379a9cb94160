/- What single operations come to: stores. -/
import Derived.Test.YtcdhbdhonpddeaaDoorShOps8
set_option linter.unusedVariables false
set_option linter.unusedSectionVars false
namespace Sh
open Go

theorem heap_setCell {w : World} {b o : Nat} {v : Value} {cs : Array Value} {ty : TypeId} {fz : Nat × Nat} (hb : w.heap[b]? = some (.cells cs ty fz)) :
    (w.setCell ⟨b, o, none⟩ v).heap[b]? = some (.cells (cs.setIfInBounds o v) ty fz) := by
  simp only [World.setCell, Array.getElem?_modify, if_true, hb, Option.map_some, Option.isSome_none, Bool.false_eq_true, if_false]

theorem heap_setCells (b : Nat) {ty : TypeId} {fz : Nat × Nat} : ∀ (vs : List Value) (o : Nat) (w : World) (cs : Array Value), w.heap[b]? = some (.cells cs ty fz) → o + vs.length ≤ cs.size →
    ∃ cs', (w.setCells b o vs).heap[b]? = some (.cells cs' ty fz) ∧ cs'.size = cs.size ∧ (∀ k, cs'.getD k Go.undef = if o ≤ k ∧ k < o + vs.length then vs.getD (k - o) Go.undef else cs.getD k Go.undef) ∧
      (∀ k, k ≠ b → (w.setCells b o vs).heap[k]? = w.heap[k]?) ∧ (w.setCells b o vs).heap.size = w.heap.size ∧ ∀ (B : Base) w0, B.wr b → B.touch w0 w → B.touch w0 (w.setCells b o vs)
  | [], o, w, cs, hb, hl => ⟨cs, hb, rfl, fun k => by simp; omega, fun k hk => rfl, rfl, fun B w0 hB h => h⟩
  | v :: r, o, w, cs, hb, hl => by
    simp only [List.length_cons] at hl
    obtain ⟨cs', h1, h2, h3, h4, h5, h6⟩ := heap_setCells b r (o + 1) (w.setCell ⟨b, o, none⟩ v) _ (heap_setCell hb) (by simp; omega)
    refine ⟨cs', h1, by rw [h2]; simp, fun k => ?_, fun k hk => ?_, ?_, fun B w0 hB h => h6 B w0 hB (h.setCell (p := ⟨b, o, none⟩) hB v)⟩
    · rw [h3]
      simp only [List.length_cons]
      by_cases hk : k = o
      · subst hk
        rw [if_neg (by omega), if_pos (by omega), agetD_lt (by simp; omega)]; simp
      · by_cases hk2 : o + 1 ≤ k ∧ k < o + 1 + r.length
        · rw [if_pos hk2, if_pos (by omega), show k - o = (k - (o + 1)) + 1 by omega]; simp
        · rw [if_neg hk2, if_neg (by omega)]
          simp [Array.getD_eq_getD_getElem?, Array.getElem?_setIfInBounds_ne (Ne.symm hk)]
    · rw [World.setCells, h4 k hk]; exact RowKit.Below.heap_setCell w ⟨b, o, none⟩ v k hk
    · rw [World.setCells, h5]; simp

theorem oneCell_of {M : Mem} {ρ : Locs} {h : Heap} {d : DV} {v : Value} (hr : RelV M ρ h d v) (hu : cellB d = true) : v.oneCell' = true := by
  have hc : cellsB d.cells = true := by cases d <;> simp_all [cellB, cellsB, DV.cells]
  have ha : isAggB d = false := by cases d <;> simp_all [cellB, isAggB]
  cases d with
  | undef => simp [cellB] at hu
  | bool b => rw [hr.inv_bool]; rfl
  | int k n => rw [hr.inv_int]; rfl
  | str s => rw [hr.inv_str]; rfl
  | agg cs => simp [isAggB] at ha
  | tuple cs => simp [cellB] at hu
  | list l => have := hr.inv_list; cases this; rfl
  | full l => have := hr.inv_full; cases this; rfl
  | ip d => have := hr.inv_ip; cases this; rfl
  | func f cs => obtain ⟨vs, rfl, _⟩ := hr.inv_func; rfl
  | nilptr => cases hr with | pure hp => cases hp; rfl
  | nilfunc => cases hr with | pure hp => cases hp; rfl
  | own n off len tot => cases hr with
    | pure hp => cases hp
    | own _ _ _ _ _ _ _ _ _ _ hs _ => obtain ⟨_, _, _, rfl⟩ := hs; rfl
  | ptr n i off tot => cases hr with
    | pure hp => cases hp
    | ptr _ _ _ _ _ _ _ _ _ _ _ hs _ => obtain ⟨_, rfl⟩ := hs; rfl
  | bptr n off => obtain ⟨_, _, _, _, rfl, _⟩ := hr.inv_bptr; rfl
  | dict n => cases hr with
    | pure hp => cases hp
    | dictv => rfl
    | sitv => rfl

theorem cellsB_get : ∀ {l : List DV} {i : Nat}, cellsB l = true → i < l.length → cellB (l.getD i .undef) = true
  | d :: r, 0, h, _ => by simp [cellsB] at h; simpa using h.1
  | d :: r, i + 1, h, hi => by simp [cellsB] at h; simpa using cellsB_get h.2 (by simpa using hi)

section
variable {P : Program} {G : Nat → Option DV} {B : Base} {nt : Nat} {M0 : Mem} {w0 : World} {M : Mem} {ρ : Locs} {t : Tmps} {h : Heap} {a : Act} {w : World} {o : Oper}

/-- An object is written. -/
theorem Sim.setObj (S : Sim B nt M0 w0 M ρ t h a w) {n b c : Nat} {ob ob' : DObj} (hn : hlook h n = some ob) (hρ : ρ n = some (b, c)) {w' : World} (hk : ∀ k, k ≠ b → w'.heap[k]? = w.heap[k]?)
    (hbelow : B.touch w0 w') (hfree : ∀ o, M b o = none) {ob0 : Obj} (hcell : w.heap[b]? = some ob0) (hnd : ∀ ds, ob0 ≠ .deferred ds) (hx : Ext M ρ h M ρ ((n, ob') :: h)) (ho' : ObjRel B M ρ ((n, ob') :: h) w' n ob') :
    Sim B nt M0 w0 M ρ t ((n, ob') :: h) a w' := by
  have hl : ∀ m, hlook ((n, ob') :: h) m = if n = m then some ob' else hlook h m := fun m => hlook_cons _ _ _ _
  have hback : ∀ m p, hlook ((n, ob') :: h) m = some p → ∃ q, hlook h m = some q := fun m p e => by
    rw [hl] at e
    by_cases e2 : n = m
    · subst e2; exact ⟨_, hn⟩
    · rw [if_neg e2] at e; exact ⟨p, e⟩
  refine { S with tm := fun i => (S.tm i).ext hx, mem := fun b' o v e => ?_, obj := fun m p hp => ?_, dis := fun m m' p p' b1 c1 b2 c2 hne h1 h2 e1 e2 => ?_, below := hbelow, marks := ⟨fun d hd => ?_, S.marks.2⟩, ext := S.ext.trans hx }
  · have hne : b' ≠ b := fun e2 => by subst e2; rw [hfree] at e; cases e
    rw [World.cell?_of_block (w := w) (w' := w') (a := ⟨b', o, none⟩) (hk b' hne)]
    exact S.mem _ _ _ e
  · by_cases e2 : n = m
    · subst e2; rw [hl, if_pos rfl] at hp; cases hp; exact ho'
    · rw [hl, if_neg e2] at hp
      have h1 := (S.obj m p hp).ext hx rfl
      cases p with
      | row sz es fr =>
        simp only [ObjRel] at h1 ⊢
        cases hρ' : ρ m with
        | none => rw [hρ'] at h1; exact h1
        | some bc =>
          obtain ⟨b', c'⟩ := bc
          rw [hρ'] at h1
          obtain ⟨g2, cs', ty', g3, g4⟩ := h1
          have hne : b' ≠ b := S.dis m n _ _ b' c' b c (Ne.symm e2) hp hn hρ' hρ
          exact ⟨g2, cs', ty', by rw [hk b' hne]; exact g3, g4⟩
      | box sz d =>
        obtain ⟨b', c', g1, g2, cs', ty', g3, g4⟩ := h1
        have hne : b' ≠ b := S.dis m n _ _ b' c' b c (Ne.symm e2) hp hn g1 hρ
        exact ⟨b', c', g1, g2, cs', ty', by rw [hk b' hne]; exact g3, g4⟩
      | fbox sz d =>
        obtain ⟨b', c', g1, g2, cs', ty', g3, g4⟩ := h1
        have hne : b' ≠ b := S.dis m n _ _ b' c' b c (Ne.symm e2) hp hn g1 hρ
        exact ⟨b', c', g1, g2, cs', ty', by rw [hk b' hne]; exact g3, g4⟩
      | dict es =>
        obtain ⟨b', c', g1, g2, ⟨E, g3, g4⟩, g5⟩ := h1
        have hne : b' ≠ b := S.dis m n _ _ b' c' b c (Ne.symm e2) hp hn g1 hρ
        exact ⟨b', c', g1, g2, ⟨E, by rw [hk b' hne]; exact g3, g4⟩, g5⟩
      | siter s pos =>
        obtain ⟨b', c', g1, g2, g3, g5⟩ := h1
        have hne : b' ≠ b := S.dis m n _ _ b' c' b c (Ne.symm e2) hp hn g1 hρ
        exact ⟨b', c', g1, g2, by rw [hk b' hne]; exact g3, g5⟩
  · obtain ⟨q, hq⟩ := hback m p h1; obtain ⟨q', hq'⟩ := hback m' p' h2
    exact S.dis m m' q q' b1 c1 b2 c2 hne hq hq' e1 e2
  · obtain ⟨D, e1, e2, e3⟩ := S.marks.1 d hd
    have hne : D ≠ b := fun e => by subst e; rw [hcell] at e3; exact hnd _ (Option.some.inj e3)
    exact ⟨D, e1, e2, by rw [hk D hne]; exact e3⟩

theorem store_run {ty : TypeId} {k b o' : Nat} {v : Value} {w : World} (hs : sizeT P ty = some k) (hv : v.cells.size = k) (h1 : ∀ i, i < k → (v.cells.getD i Go.undef).oneCell' = true)
    {cs : Array Value} {te : TypeId} (hb : w.heap[b]? = some (.cells cs te (0, 0))) (hle : o' + k ≤ cs.size) : (storeVar ty ⟨b, o', none⟩ v).run P w = .ok () (w.setCells b o' v.cells.toList) := by
  have hlen : v.cells.toList.length = k := by simpa using hv
  have := run_storeCells_cells (P := P) b o' v.cells.toList 0 w (fun j hj => by
      rw [cell_of_heap hb, Array.getElem?_eq_getElem (by omega)]; rfl) (fun j hj => by simp [World.frozen?, hb]) (fun u hu => by
      obtain ⟨i, hi, rfl⟩ := List.getElem_of_mem hu
      have := h1 i (by omega)
      rwa [agetD_lt (by simpa using hi)] at this)
  rw [Nat.add_zero] at this
  simp only [storeVar, Sem.run_bind, size_run hs, Result.andThen_ok, hv, ne_eq, not_true_eq_false, if_false, this]

theorem ext_setBox (M : Mem) (ρ : Locs) {h : Heap} {n sz : Nat} {d : DV} (d' : DV) (hn : hlook h n = some (.box sz d)) : Ext M ρ h M ρ ((n, .box sz d') :: h) := by
  refine ⟨M.le_refl, fun m sz' es fr e => ⟨sz', es, fr, ?_, Nat.le_refl _, fun _ => ⟨.inl rfl, rfl⟩⟩, fun m o e hk => ⟨rfl, ?_⟩⟩
  · rw [hlook_cons]
    by_cases e2 : n = m
    · subst e2; rw [hn] at e; cases e
    · rw [if_neg e2]; exact e
  · rw [hlook_cons]
    by_cases e2 : n = m
    · subst e2; rw [hn] at e; cases e; exact ⟨.box sz d', by rw [if_pos rfl], rfl⟩
    · exact ⟨o, by rw [if_neg e2]; exact e, like_refl hk⟩

theorem okE_setCells {sz off : Nat} {cs new : List DV} (h1 : cs.length = sz) (h2 : cellsB cs = true) (h3 : cellsB new = true) (hb : off + new.length ≤ sz) : okE sz (.agg (setCells cs off new)) = true := by
  obtain ⟨g1, g2⟩ := setCells_getD cs off new (by omega)
  unfold okE
  rw [natbeq]
  simp only [DV.cells, g1, h1, decide_true, Bool.true_and]
  have key : ∀ l : List DV, (∀ i, i < l.length → cellB (l.getD i .undef) = true) → cellsB l = true := by
    intro l
    induction l with
    | nil => intro _; rfl
    | cons d r ih =>
      intro hh
      simp only [cellsB, Bool.and_eq_true]
      exact ⟨by simpa using hh 0 (by simp), ih fun i hi => by simpa using hh (i + 1) (by simpa using hi)⟩
  refine key _ fun i hi => ?_
  rw [g2]
  split
  · exact cellsB_get h3 (by omega)
  · exact cellsB_get h2 (by omega)

theorem op_store_box (hG : GOk G M0) (S : Sim B nt M0 w0 M ρ t h a w) (ty : TypeId) (x y : Operand) (n off sz k : Nat) (d : DV) (ho : o.op = .store ty x y) (hs : sizeT P ty = some k) (hx : evalOpd G t x = .bptr n off)
    (hl : hlook h n = some (.box sz d)) (hok : okE k (evalOpd G t y) = true) (hb : off + k ≤ sz) :
    OpGoal P B nt M0 w0 M ρ t h a w o (.tuple []) [(n, .box sz (bif Nat.beq off 0 && Nat.beq k sz then evalOpd G t y else .agg (setCells d.cells off (evalOpd G t y).cells)))] := by
  have r1 := S.opd hG x; rw [hx] at r1
  have r2 := S.opd hG y
  obtain ⟨k1, k2⟩ := okE_spec hok
  obtain ⟨v1, v2⟩ := cells_getD r2 k2
  obtain ⟨sz', b, c, d', e2, h2, h3⟩ := r1.inv_bptr
  obtain ⟨b', c', g1, g2, cs, te, g3, g4, g5, g6, g7⟩ := S.obj n _ hl
  rw [h3] at g1
  obtain ⟨rfl, rfl⟩ : b = b' ∧ c = c' := by simpa using g1
  obtain ⟨q1, q2⟩ := okE_spec g5
  have hrun := store_run (P := P) (v := a.eval y) hs (by omega) (fun i hi => oneCell_of (v2 i (by omega)) (cellsB_get k2 (by omega))) g3 (show off + k ≤ cs.size by omega)
  obtain ⟨cs', f1, f2, f3, f4, f5, f6⟩ := heap_setCells b (a.eval y).cells.toList off w cs g3 (by simp; omega)
  have hlen : (a.eval y).cells.toList.length = k := by simp; omega
  generalize hd2 : (bif Nat.beq off 0 && Nat.beq k sz then evalOpd G t y else DV.agg (setCells d.cells off (evalOpd G t y).cells)) = d2
  have hd2c : okE sz d2 = true ∧ ∀ i, i < sz → RelV M ρ h (d2.cells.getD i .undef) (cs'.getD i Go.undef) := by
    rw [natbeq, natbeq] at hd2
    have hget : ∀ i, i < sz → RelV M ρ h (if off ≤ i ∧ i < off + (evalOpd G t y).cells.length then (evalOpd G t y).cells.getD (i - off) .undef else d.cells.getD i .undef) (cs'.getD i Go.undef) := fun i hi => by
      rw [f3, hlen, k1]
      by_cases hi2 : off ≤ i ∧ i < off + k
      · rw [if_pos hi2, if_pos hi2]
        have := v2 (i - off) (by omega)
        rwa [agetD_lt (by omega), ← Array.getElem_toList (by omega), ← getD_lt (by omega) Go.undef] at this
      · rw [if_neg hi2, if_neg hi2]; exact g6 i hi
    by_cases hw : off = 0 ∧ k = sz
    · obtain ⟨rfl, rfl⟩ := hw
      simp only [decide_true, Bool.and_self, cond_true] at hd2
      subst hd2
      refine ⟨hok, fun i hi => ?_⟩
      have := hget i hi
      rw [if_pos ⟨by omega, by omega⟩] at this
      simpa using this
    · have : (decide (off = 0) && decide (k = sz)) = false := by
        rw [Bool.and_eq_false_iff, decide_eq_false_iff_not, decide_eq_false_iff_not]
        by_cases e : off = 0
        · right; intro e'; exact hw ⟨e, e'⟩
        · left; exact e
      rw [this, cond_false] at hd2
      subst hd2
      refine ⟨okE_setCells q1 q2 k2 (by omega), fun i hi => ?_⟩
      obtain ⟨z1, z2⟩ := setCells_getD d.cells off (evalOpd G t y).cells (by omega)
      show RelV M ρ h ((setCells d.cells off (evalOpd G t y).cells).getD i .undef) _
      rw [z2]; exact hget i hi
  have hx' := ext_setBox M ρ d2 hl
  refine ⟨.skip, Go.undef, w.setCells b off (a.eval y).cells.toList, M, ρ, ?_, .inr ⟨rfl, rfl⟩, S.setObj hl h3 f4 (f6 B w0 g2 S.below) g7 g3 (fun _ e => by cases e) hx' ⟨b, c, h3, g2, cs', te, f1, by omega, hd2c.1, fun i hi => (hd2c.2 i hi).ext hx', g7⟩,
    .pure (.tuple [] #[] rfl (by simp))⟩
  simp only [execOp, ho, Instr.storeAt, Instr.sureAddr, Sem.run_bind, e2, Sem.run_pure, Result.andThen_ok, hrun]

theorem ext_setRow (M : Mem) (ρ : Locs) {h : Heap} {n sz : Nat} {es es' : List DV} {fr fr' : Bool} (hn : hlook h n = some (.row sz es fr)) (hle : es.length = es'.length) : Ext M ρ h M ρ ((n, .row sz es' fr') :: h) := by
  refine ⟨M.le_refl, fun m sz' es1 fr1 e => ?_, fun m o e hk => ⟨rfl, o, ?_, like_refl hk⟩⟩
  · rw [hlook_cons]
    by_cases e2 : n = m
    · subst e2; rw [hn] at e; cases e
      exact ⟨sz, es', fr', by rw [if_pos rfl], by omega, fun _ => ⟨.inl rfl, rfl⟩⟩
    · exact ⟨sz', es1, fr1, by rw [if_neg e2]; exact e, Nat.le_refl _, fun _ => ⟨.inl rfl, rfl⟩⟩
  · rw [hlook_cons]
    by_cases e2 : n = m
    · subst e2; rw [hn] at e; cases e; cases hk
    · rw [if_neg e2]; exact e

theorem row_index {i j i' sz : Nat} (hj : j < sz) (off k : Nat) (hk : off + k ≤ sz) : (i * sz + off ≤ i' * sz + j ∧ i' * sz + j < i * sz + off + k) ↔ i' = i ∧ off ≤ j ∧ j < off + k := by
  constructor
  · intro ⟨h1, h2⟩
    have e : i' = i := by
      rcases Nat.lt_trichotomy i' i with h | h | h
      · have : (i' + 1) * sz ≤ i * sz := Nat.mul_le_mul_right _ h
        rw [Nat.succ_mul] at this; omega
      · exact h
      · have : (i + 1) * sz ≤ i' * sz := Nat.mul_le_mul_right _ h
        rw [Nat.succ_mul] at this; omega
    subst e; exact ⟨rfl, by omega, by omega⟩
  · rintro ⟨rfl, h1, h2⟩; omega

theorem op_store_row (hG : GOk G M0) (S : Sim B nt M0 w0 M ρ t h a w) (lk : Nat → Option DObj) (ty : TypeId) (x y : Operand) (n i off tot sz k : Nat) (es : List DV) (ho : o.op = .store ty x y) (hs : sizeT P ty = some k)
    (hx : evalOpd G t x = .ptr n i off tot) (hl : hlook h n = some (.row sz es false)) {q : Option Prop} {v' : DV} (hv : pur lk (evalOpd G t y) = some (q, v')) (hq : holds q) (hok0 : cellsB (evalOpd G t y).cells = true)
    (hfr : ∀ n ∈ names (evalOpd G t y), ∀ sz es fr, lk n = some (.row sz es fr) → hlook h n = some (.row sz es true))
    (hfb : ∀ n ∈ names (evalOpd G t y), ∀ sz d0, lk n = some (.box sz d0) ∨ lk n = some (.fbox sz d0) → pureB d0 = true → hlook h n = some (.fbox sz d0)) (hb : tot = es.length ∧ off + k ≤ sz ∧ okE k v' = true) :
    OpGoal P B nt M0 w0 M ρ t h a w o (.tuple []) [(n, .row sz (es.set i (bif Nat.beq off 0 && Nat.beq k sz then v' else .agg (setCells (es.getD i .undef).cells off v'.cells))) false)] := by
  obtain ⟨b1, b2, b3⟩ := hb
  have r1 := S.opd hG x; rw [hx] at r1
  have r2 := S.opd hG y
  obtain ⟨k1, k2⟩ := okE_spec b3
  obtain ⟨v1, v2⟩ := cells_getD r2 hok0
  obtain ⟨q', e1, e2⟩ := pur_cells hv hq hok0
  have hcn : ∀ d : DV, namess d.cells = names d := fun d => by cases d <;> simp [DV.cells, namess, names]
  obtain ⟨e3, e4⟩ := purs_rel S lk _ (fun j => (a.eval y).cells.getD j Go.undef) q' _ e1 e2 v2 (fun m hm => hfr m (by rw [← hcn]; exact hm)) (fun m hm => hfb m (by rw [← hcn]; exact hm))
  obtain ⟨h1, h2, h3⟩ := r1.inv_ptr hl
  obtain ⟨b, c, h4, h5⟩ := h3 b1
  have hobj := S.obj n _ hl
  simp only [ObjRel, h4] at hobj
  obtain ⟨g2, cs, te, g3, g4, g5, g6, g7, g8, g9⟩ := hobj
  have hfree := g9 trivial
  have hi : i < es.length := by omega
  have hsz : ∀ e ∈ es, e.cells.length = sz := fun e he => (okE_spec (g6 e he)).1
  have hmul : (i + 1) * sz ≤ c * sz := Nat.mul_le_mul_right _ (by omega)
  have hmul' : i * sz + sz ≤ c * sz := by rw [Nat.succ_mul] at hmul; exact hmul
  have hei := okE_spec (g6 (es.getD i .undef) (by rw [getD_lt hi]; exact List.getElem_mem _))
  have hrun := store_run (P := P) (v := a.eval y) (o' := i * sz + off) hs (by omega) (fun j hj => oneCell_of (v2 j (by omega)) (cellsB_get hok0 (by omega))) g3 (by omega)
  obtain ⟨cs', f1, f2, f3, f4, f5, f6⟩ := heap_setCells b (a.eval y).cells.toList (i * sz + off) w cs g3 (by simp; omega)
  have hlen : (a.eval y).cells.toList.length = k := by simp; omega
  generalize hd2 : (bif Nat.beq off 0 && Nat.beq k sz then v' else DV.agg (setCells (es.getD i .undef).cells off v'.cells)) = d2
  have hd2c : okE sz d2 = true ∧ ∀ j, j < sz → RelP M (d2.cells.getD j .undef) (cs'.getD (i * sz + j) Go.undef) := by
    rw [natbeq, natbeq] at hd2
    have hget : ∀ j, j < sz → RelP M (if off ≤ j ∧ j < off + v'.cells.length then v'.cells.getD (j - off) .undef else (es.getD i .undef).cells.getD j .undef) (cs'.getD (i * sz + j) Go.undef) := fun j hj => by
      rw [f3, hlen, k1]
      by_cases hj2 : off ≤ j ∧ j < off + k
      · rw [if_pos hj2, if_pos ⟨by omega, by omega⟩]
        have := e4 (j - off) (by omega)
        rw [show i * sz + j - (i * sz + off) = j - off by omega]
        rwa [agetD_lt (by omega), ← Array.getElem_toList (by omega), ← getD_lt (by omega) Go.undef] at this
      · rw [if_neg hj2, if_neg (by omega)]
        have := g7 (i * sz + j) (by
          rw [length_flat es sz hsz]
          have : (i + 1) * sz ≤ es.length * sz := Nat.mul_le_mul_right _ hi
          rw [Nat.succ_mul] at this; omega)
        rwa [getElem_flat es sz hsz i j hi hj] at this
    by_cases hw : off = 0 ∧ k = sz
    · obtain ⟨rfl, rfl⟩ := hw
      simp only [decide_true, Bool.and_self, cond_true] at hd2
      subst hd2
      refine ⟨b3, fun j hj => ?_⟩
      have := hget j hj
      rw [if_pos ⟨by omega, by omega⟩] at this
      simpa using this
    · have : (decide (off = 0) && decide (k = sz)) = false := by
        rw [Bool.and_eq_false_iff, decide_eq_false_iff_not, decide_eq_false_iff_not]
        by_cases e : off = 0
        · right; intro e'; exact hw ⟨e, e'⟩
        · left; exact e
      rw [this, cond_false] at hd2
      subst hd2
      refine ⟨okE_setCells hei.1 hei.2 k2 (by omega), fun j hj => ?_⟩
      obtain ⟨z1, z2⟩ := setCells_getD (es.getD i .undef).cells off v'.cells (by omega)
      show RelP M ((setCells (es.getD i .undef).cells off v'.cells).getD j .undef) _
      rw [z2]; exact hget j hj
  have hes' : ∀ e ∈ es.set i d2, okE sz e = true := fun e he => by
    rcases List.mem_or_eq_of_mem_set he with h | h
    · exact g6 e h
    · rw [h]; exact hd2c.1
  have hflat := flat_rel (R := RelP M) (es := es.set i d2) (sz := sz) (cs := cs') (fun e he => (okE_spec (hes' e he)).1) (fun i' j hi' hj => by
    simp only [List.length_set] at hi'
    by_cases e : i' = i
    · subst e
      rw [show (es.set i' d2).getD i' .undef = d2 by rw [getD_lt (by simpa using hi')]; simp]
      exact hd2c.2 j hj
    · rw [show (es.set i d2).getD i' .undef = es.getD i' .undef by rw [getD_lt (by simpa using hi'), getD_lt hi']; simp [List.getElem_set_ne (Ne.symm e)]]
      rw [f3, hlen, if_neg (fun hh => e ((row_index hj off k b2).1 hh).1)]
      have := g7 (i' * sz + j) (by
        rw [length_flat es sz hsz]
        have : (i' + 1) * sz ≤ es.length * sz := Nat.mul_le_mul_right _ hi'
        rw [Nat.succ_mul] at this; omega)
      rwa [getElem_flat es sz hsz i' j hi' hj] at this)
  have hx' := ext_setRow (fr' := false) M ρ hl (es' := es.set i d2) (by simp)
  refine ⟨.skip, Go.undef, w.setCells b (i * sz + off) (a.eval y).cells.toList, M, ρ, ?_, .inr ⟨rfl, rfl⟩, S.setObj hl h4 f4 (f6 B w0 g2.1 S.below) hfree g3 (fun _ e => by cases e) hx' ?_, .pure (.tuple [] #[] rfl (by simp))⟩
  · simp only [execOp, ho, Instr.storeAt, Instr.sureAddr, Sem.run_bind, h5, Sem.run_pure, Result.andThen_ok, hrun]
  · simp only [ObjRel, h4]
    exact ⟨g2, cs', te, f1, by omega, by simpa using g5, hes', hflat, by simp, fun _ => hfree⟩
end
end Sh
