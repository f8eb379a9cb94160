/- What single operations come to: append, copy. -/
import Derived.Test.YtcdhbdhonpddeaaDoorShOps9
set_option linter.unusedVariables false
set_option linter.unusedSectionVars false
namespace Sh
open Go

section
variable {P : Program} {G : Nat → Option DV} {B : Base} {nt : Nat} {M0 : Mem} {w0 : World} {M : Mem} {ρ : Locs} {t : Tmps} {h : Heap} {a : Act} {w : World} {o : Oper}

/-- The cells of a slice that is read. -/
def Reads (w : World) (v : Value) (k : Nat) (g : Nat → Value) : Prop := ∀ b o len cap, v = .slice (some ⟨b, o, none⟩) len cap → ∀ j, j < k → w.cell? ⟨b, o + j, none⟩ = some (g j)

theorem firstCells_run {v : Value} {n cap size : Nat} {a' : Option Addr} {g : Nat → Value} (hv : v = .slice a' n cap) (ha : n = 0 ∨ ∃ b o, a' = some ⟨b, o, none⟩) (hr : Reads w v (n * size) g) : (Builtin.firstCells size n v).run P w = .ok (gcells g (n * size)) w := by
  subst hv
  rcases ha with rfl | ⟨b, o, rfl⟩
  · cases a' <;> simp [Builtin.firstCells, gcells, loadCells, loadCellsFrom]
  · have := run_firstCells_some (P := P) w size n ⟨b, o, none⟩ n cap ((List.range (n * size)).map g) (by simp) (fun j u hu => by
      rw [add_lit]
      rw [List.getElem?_map] at hu
      cases hj : (List.range (n * size))[j]? with
      | none => rw [hj] at hu; cases hu
      | some j' =>
        rw [hj] at hu
        obtain ⟨h7, h8⟩ := List.getElem?_eq_some_iff.1 hj
        simp at h7 h8
        subst h8
        simp only [Option.map_some, Option.some.injEq] at hu
        rw [← hu]; exact hr b o n cap rfl _ h7)
    exact this

theorem run_append_same {ty u rt e e' : TypeId} {size : Nat} {base a' : Option Addr} {sLen sCap c : Nat} (ht : P.underlying ty = some (.slice e)) (hu : P.underlying u = some (.slice e')) (hs : sizeT P e = some size) (hc : sLen ≤ sCap) (w : World) :
    (Builtin.append_ #[ty, u] rt #[.slice base sLen sCap, .slice a' 0 c]).run P w = .ok (.slice base sLen sCap) w := by
  have hf : (Builtin.firstCells size 0 (.slice a' 0 c)).run P w = .ok #[] w := by cases a' <;> simp [Builtin.firstCells, loadCells, loadCellsFrom]
  cases base with
  | none => simp [Builtin.append_, run_underlying ht, run_underlying hu, size_run hs, Builtin.lenOf, hc, hf]
  | some b => simp [Builtin.append_, run_underlying ht, run_underlying hu, size_run hs, Builtin.lenOf, hc, hf, storeCells]

theorem run_append_in {ty u rt e e' : TypeId} {size : Nat} {a' : Option Addr} {b sLen sCap m c : Nat} {news cs : Array Value} {te : TypeId} (ht : P.underlying ty = some (.slice e)) (hu : P.underlying u = some (.slice e')) (hs : sizeT P e = some size)
    (hx : (Builtin.firstCells size m (.slice a' m c)).run P w = .ok news w) (hroom : sLen + m ≤ sCap) (hb : w.heap[b]? = some (.cells cs te (0, 0))) (hle : sLen * size + news.size ≤ cs.size) (h1 : ∀ v ∈ news.toList, v.oneCell' = true) :
    (Builtin.append_ #[ty, u] rt #[.slice (some ⟨b, 0, none⟩) sLen sCap, .slice a' m c]).run P w = .ok (.slice (some ⟨b, 0, none⟩) (sLen + m) sCap) (w.setCells b (sLen * size) news.toList) := by
  have hst := run_storeCells_cells (P := P) b (sLen * size) news.toList 0 w (fun j hj => by
      rw [cell_of_heap hb, Array.getElem?_eq_getElem (by simp at hj; omega)]; rfl) (fun j hj => by simp [World.frozen?, hb]) h1
  rw [Nat.add_zero] at hst
  simp [Builtin.append_, run_underlying ht, run_underlying hu, size_run hs, Builtin.lenOf, hroom, hx, add_lit, hst]

theorem run_append_new {ty u rt e e' : TypeId} {size : Nat} {agg : Bool} {z : Value} {base a' : Option Addr} {sLen sCap m c : Nat} {news olds : Array Value} (ht : P.underlying ty = some (.slice e)) (hu : P.underlying u = some (.slice e')) (he : elemT P e = some (size, agg))
    (hz : zeroT P e = some z) (hx : (Builtin.firstCells size m (.slice a' m c)).run P w.drew = .ok news w.drew) (ho : (Builtin.firstCells size sLen (.slice base sLen sCap)).run P w.drew = .ok olds w.drew)
    (hgrow : sCap < sLen + m) (hbig : sLen + m ≤ 1073741824) :
    (Builtin.append_ #[ty, u] rt #[.slice base sLen sCap, .slice a' m c]).run P w = .ok (.slice (some ⟨w.heap.size, 0, none⟩) (sLen + m) (grownCap w (sLen + m) sCap e))
      (w.drew.alloc (.cells (olds ++ news ++ Builtin.zeroCells z.cells (grownCap w (sLen + m) sCap e - (sLen + m))) e)) := by
  obtain ⟨h1, h2, h3, h4, h5⟩ := elemT_spec he
  obtain ⟨i, hi, hz'⟩ := zeroT_spec hz
  have hsize : i.size = size := by unfold sizeT at h1; rw [hi] at h1; simpa using h1
  have hbytes : i.bytes ≤ 65536 := by unfold bytesOk at h5; rw [hi] at h5; exact Nat.le_of_ble_eq_true h5
  have hmul : (sLen + m) * i.bytes ≤ 140737488355328 := by
    have : (sLen + m) * i.bytes ≤ 1073741824 * 65536 := Nat.mul_le_mul hbig hbytes
    omega
  have hfit := growslice_fits (old := sCap) hgrow hmul
  have hn : ¬ (sLen + m ≤ sCap) := by omega
  have h63' : ¬ (9223372036854775807 < ((sLen : Int) + (m : Int))) := by omega
  have h48' : ¬ (281474976710656 < Builtin.nextslicecap (sLen + m) sCap * i.bytes) := by omega
  subst hsize
  simp [Builtin.append_, run_underlying ht, run_underlying hu, Go.sizeOf, typeInfo, zeroValue, hi, hz', Builtin.lenOf, hn, h63', h48', Question.forced, hx, ho, newRow, grownCap]

/-- What is appended: a slice value and its elements. -/
theorem elems_spec (S : Sim B nt M0 w0 M ρ t h a w) {dv : DV} {v : Value} (hr : RelV M ρ h dv v) {q : Option Prop} {xs : List DV} (he : elems (hlook h) dv = some (q, xs)) (hq : holds q) {sz : Nat} (hok : ∀ e ∈ xs, okE sz e = true) :
    ∃ a' cap g, v = .slice a' xs.length cap ∧ xs.length ≤ cap ∧ (xs.length = 0 ∨ ∃ b o, a' = some ⟨b, o, none⟩) ∧ (∀ w', (∀ k, k < w.heap.size → w'.heap[k]? = w.heap[k]?) → Reads w' v (xs.length * sz) g) ∧
      (∀ j, j < xs.length * sz → RelP M ((flat xs).getD j .undef) (g j)) ∧ ∀ j, j < xs.length * sz → (g j).oneCell' = true := by
  have hs : ∀ e ∈ xs, e.cells.length = sz := fun e he => (okE_spec (hok e he)).1
  have hfl := length_flat xs sz hs
  have hone : ∀ j (u : Value), j < xs.length * sz → RelP M ((flat xs).getD j .undef) u → u.oneCell' = true := fun j u hj hu => by
    by_cases h0 : sz = 0
    · subst h0; simp at hj
    obtain ⟨q, r, hq, hm, rfl⟩ : ∃ q r, q < xs.length ∧ r < sz ∧ q * sz + r = j :=
      ⟨j / sz, j % sz, (Nat.div_lt_iff_lt_mul (by omega)).2 hj, Nat.mod_lt _ (by omega), by rw [Nat.mul_comm]; exact Nat.div_add_mod j sz⟩
    rw [getElem_flat xs sz hs q r hq hm] at hu
    obtain ⟨k1, k2⟩ := okE_spec (hok (xs.getD q .undef) (by rw [getD_lt hq]; exact List.getElem_mem _))
    exact oneCell_of (.pure hu : RelV M ρ h _ u) (cellsB_get k2 (by omega))
  have fin : ∀ (l : List DV) (a' : Option Addr) (cap sz' b o : Nat) (g : Nat → Value), l = xs → v = .slice a' l.length cap → l.length ≤ cap → (l = [] ∨ a' = some ⟨b, o, none⟩) → (∀ i, i < (flat l).length → M b (o + i) = some (g i)) →
      (∀ i, i < (flat l).length → RelP M ((flat l).getD i .undef) (g i)) → ∃ a' cap g, v = .slice a' xs.length cap ∧ xs.length ≤ cap ∧ (xs.length = 0 ∨ ∃ b o, a' = some ⟨b, o, none⟩) ∧ (∀ w', (∀ k, k < w.heap.size → w'.heap[k]? = w.heap[k]?) → Reads w' v (xs.length * sz) g) ∧
      (∀ j, j < xs.length * sz → RelP M ((flat xs).getD j .undef) (g j)) ∧ ∀ j, j < xs.length * sz → (g j).oneCell' = true := by
    intro l a' cap sz' b o g hl hv hcap ha hM hr'
    subst hl
    rw [hfl] at hM hr'
    refine ⟨a', cap, g, hv, hcap, ?_, ?_, hr', fun j hj => hone j _ hj (hr' j hj)⟩
    · rcases ha with rfl | rfl
      · left; rfl
      · right; exact ⟨b, o, rfl⟩
    · intro w' hw' b' o' len' cap' hv' j hj
      rw [hv] at hv'
      rcases ha with rfl | rfl
      · simp at hj
      · simp only [Value.slice.injEq, Option.some.injEq, Addr.mk.injEq] at hv'
        obtain ⟨⟨rfl, rfl, _⟩, _⟩ := hv'
        have h1 := S.mem _ _ _ (hM j hj)
        have h2 : b < w.heap.size := World.block_lt_of_cell? (a := ⟨b, o + j, none⟩) _ h1
        rw [World.cell?_of_block (w := w) (w' := w') (a := ⟨b, o + j, none⟩) (hw' b h2)]; exact h1
  cases dv with
  | list l =>
    simp only [elems, Option.some.injEq, Prod.mk.injEq] at he
    obtain ⟨_, rfl⟩ := he
    have := hr.inv_list
    cases this with | list _ a' cap sz' b o g hcap ha hsz hM hr' => exact fin _ a' cap sz' b o g rfl rfl hcap ha hM hr'
  | full l =>
    simp only [elems, Option.some.injEq, Prod.mk.injEq] at he
    obtain ⟨_, rfl⟩ := he
    have := hr.inv_full
    cases this with | full _ a' sz' b o g ha hsz hM hr' => exact fin _ a' _ sz' b o g rfl rfl (Nat.le_refl _) ha hM hr'
  | own n off len tot =>
    simp only [elems] at he
    split at he
    · rename_i szo es fr hl
      simp only [Option.some.injEq, Prod.mk.injEq] at he
      obtain ⟨rfl, rfl⟩ := he
      obtain ⟨h1, h2⟩ := hr.inv_own hl
      obtain ⟨h3, h4⟩ := h2 hq
      have hwl : (window es off len).length = len := by simp only [holds] at hq; simp [window]; omega
      have hobj := S.obj n _ hl
      simp only [ObjRel] at hobj
      cases hρ : ρ n with
      | none =>
        rw [hρ] at hobj h4
        subst hobj
        obtain ⟨a', rfl⟩ := h4
        simp only [holds, List.length_nil] at hq
        have e1 : len = 0 := by omega
        subst e1
        refine ⟨a', 0, fun _ => Go.undef, by rw [hwl], by omega, .inl hwl, ?_, ?_, ?_⟩
        · intro w' hw' b' o' len' cap' hv' j hj; rw [hwl] at hj; simp at hj
        · intro j hj; rw [hwl] at hj; simp at hj
        · intro j hj; rw [hwl] at hj; simp at hj
      | some bc =>
        obtain ⟨b, c⟩ := bc
        rw [hρ] at hobj h4
        obtain ⟨g2, cs, te, g3, g4, g5, g6, g7, g8, g9⟩ := hobj
        obtain ⟨a', rfl, ha⟩ := h4
        have hso : ∀ e ∈ es, e.cells.length = szo := fun e he => (okE_spec (g6 e he)).1
        by_cases hlen : len = 0
        · subst hlen
          refine ⟨a', c - off, fun _ => Go.undef, by rw [hwl], by omega, .inl hwl, ?_, ?_, ?_⟩
          · intro w' hw' b' o' len' cap' hv' j hj; rw [hwl] at hj; simp at hj
          · intro j hj; rw [hwl] at hj; simp at hj
          · intro j hj; rw [hwl] at hj; simp at hj
        · have ha' : a' = some ⟨b, off * szo, none⟩ := by
            rcases ha with ha | ha
            · exact ha
            · exact absurd ha.1 hlen
          subst ha'
          have hszeq : szo = sz := by
            have hm : (window es off len).getD 0 .undef ∈ window es off len := by rw [getD_lt (by omega)]; exact List.getElem_mem _
            rw [← hs _ hm]
            exact (hso _ (List.mem_of_mem_drop (List.mem_of_mem_take hm))).symm
          subst hszeq
          have hbl : b < w.heap.size := (Array.getElem?_eq_some_iff.1 g3).1
          simp only [holds] at hq
          have hlt : ∀ j, j < len * szo → off * szo + j < (flat es).length := fun j hj => by
            rw [length_flat es szo hso]
            have : (off + len) * szo ≤ es.length * szo := Nat.mul_le_mul_right _ (by omega)
            rw [Nat.add_mul] at this; omega
          have hlt2 : ∀ j, j < len * szo → off * szo + j < cs.size := fun j hj => by
            have h6 := hlt j hj
            rw [length_flat es szo hso] at h6
            have : es.length * szo ≤ c * szo := Nat.mul_le_mul_right _ g5
            omega
          have hrel : ∀ j, j < len * szo → RelP M ((flat (window es off len)).getD j .undef) (cs.getD (off * szo + j) Go.undef) := fun j hj => by
            rw [flat_window es szo hso off len j (by rw [hfl, hwl]; exact hj)]
            exact g7 _ (hlt j hj)
          refine ⟨some ⟨b, off * szo, none⟩, c - off, fun j => cs.getD (off * szo + j) Go.undef, by rw [hwl], by omega, .inr ⟨b, _, rfl⟩, ?_, ?_, ?_⟩
          · intro w' hw' b' o' len' cap' hv' j hj
            rw [hwl] at hj
            simp only [Value.slice.injEq, Option.some.injEq, Addr.mk.injEq] at hv'
            obtain ⟨⟨rfl, rfl, _⟩, _⟩ := hv'
            rw [World.cell?_of_block (w := w) (w' := w') (a := ⟨b, off * szo + j, none⟩) (hw' b hbl), cell_of_heap g3]
            show _ = some (cs.getD (off * szo + j) Go.undef)
            rw [agetD_lt (hlt2 j hj), Array.getElem?_eq_getElem (hlt2 j hj)]
          · intro j hj; rw [hwl] at hj; exact hrel j hj
          · intro j hj; exact hone j _ hj (hrel j (by rw [hwl] at hj; exact hj))
    · cases he
  | _ => simp [elems] at he

theorem flat_append (l xs : List DV) : flat (l ++ xs) = flat l ++ flat xs := by simp [flat]

/-- Two rows of cells, one after the other. -/
theorem append_cells {l xs : List DV} {sz : Nat} (hl : ∀ e ∈ l, e.cells.length = sz) (hx : ∀ e ∈ xs, e.cells.length = sz) {olds news rest : Array Value} (ho : olds.size = l.length * sz) (hn : news.size = xs.length * sz)
    (h1 : ∀ i, i < (flat l).length → RelP M ((flat l).getD i .undef) (olds.getD i Go.undef)) (h2 : ∀ i, i < (flat xs).length → RelP M ((flat xs).getD i .undef) (news.getD i Go.undef)) :
    ∀ i, i < (flat (l ++ xs)).length → RelP M ((flat (l ++ xs)).getD i .undef) ((olds ++ news ++ rest).getD i Go.undef) := by
  intro i hi
  rw [flat_append] at hi ⊢
  have e1 := length_flat l sz hl
  have e2 := length_flat xs sz hx
  rw [List.length_append] at hi
  have hi2 : i < (olds ++ news ++ rest).size := by simp; omega
  by_cases hlt : i < (flat l).length
  · have h3 := h1 i hlt
    rw [getD_lt hlt, agetD_lt (by omega)] at h3
    rw [getD_lt (by simp; omega), agetD_lt hi2, List.getElem_append_left hlt, Array.getElem_append_left (by simp; omega), Array.getElem_append_left (by omega)]
    exact h3
  · have h3 := h2 (i - (flat l).length) (by omega)
    rw [getD_lt (by omega), agetD_lt (by omega)] at h3
    rw [getD_lt (by simp; omega), agetD_lt hi2, List.getElem_append_right (by omega), Array.getElem_append_left (by simp; omega), Array.getElem_append_right (by omega)]
    have e3 : i - olds.size = i - (flat l).length := by omega
    simp only [e3]; exact h3

theorem execOp_append {s x : Operand} {ts : Array TypeId} {v : Value} {w' : World} (ho : o.op = .call ⟨.builtin .append, #[s, x], ts⟩) (hr : (Builtin.append_ ts o.type #[a.eval s, a.eval x]).run P w = .ok v w') :
    (execOp a.eval o).run P w = .ok (.value v) w' := by
  simp only [execOp, ho, resolve, invoke, builtin, Sem.run_bind, Sem.run_pure, Result.andThen_ok, List.map_toArray, List.map_cons, List.map_nil, hr]

/-- Append to a literal or to nil. -/
theorem op_append_full (hG : GOk G M0) (S : Sim B nt M0 w0 M ρ t h a w) (ty u e e' : TypeId) (s x : Operand) (sz : Nat) (agg : Bool) (z : Value) (l xs : List DV) (q : Option Prop) (ho : o.op = .call ⟨.builtin .append, #[s, x], #[ty, u]⟩)
    (ht : P.underlying ty = some (.slice e)) (hu : P.underlying u = some (.slice e')) (he : elemT P e = some (sz, agg)) (hz : zeroT P e = some z) (hzs : z.cells.size = sz) (hs : evalOpd G t s = .full l)
    (hx : elems (hlook h) (evalOpd G t x) = some (q, xs)) (hq : holds q) (hbig : l.length + xs.length ≤ 1073741824) (hxo : ∀ e ∈ xs, okE sz e = true) (hlo : ∀ e ∈ l, okE sz e = true) :
    OpGoal P B nt M0 w0 M ρ t h a w o (.list (l ++ xs)) [] ∧
    ∀ n, hlook h n = none → (l = [] ∨ xs ≠ []) → OpGoal P B nt M0 w0 M ρ t h a w o (.own n 0 (l ++ xs).length (l ++ xs).length) [(n, .row sz (l ++ xs) false)] := by
  obtain ⟨h1, h2, h3, h4, h5⟩ := elemT_spec he
  have r1 := S.opd hG s; rw [hs] at r1
  obtain ⟨ax, cx, gx, x1, x2, x3, x4, x5, x6⟩ := elems_spec S (S.opd hG x) hx hq hxo
  obtain ⟨as_, cs_, gs, s1, s2, s3, s4, s5, s6⟩ := elems_spec S r1 (q := none) (xs := l) rfl trivial hlo
  have hcs : cs_ = l.length := by
    have := r1.inv_full
    rw [s1] at this
    cases this; rfl
  subst hcs
  have hls : ∀ e ∈ l, e.cells.length = sz := fun e he => (okE_spec (hlo e he)).1
  have hxs : ∀ e ∈ xs, e.cells.length = sz := fun e he => (okE_spec (hxo e he)).1
  by_cases hx0 : xs.length = 0
  · have hxe : xs = [] := List.eq_nil_of_length_eq_zero hx0
    subst hxe
    have hrun := execOp_append (P := P) (w := w) (a := a) ho (v := .slice as_ l.length l.length) (w' := w) (by
      rw [s1, x1]; exact run_append_same ht hu h1 (Nat.le_refl _) w)
    rw [List.append_nil]
    refine ⟨?_, fun n hn hor => ?_⟩
    · have : RelP M (.list l) (.slice as_ l.length l.length) := by
        have := r1.inv_full
        rw [s1] at this
        cases this with | full _ _ sz' b o' g ha hsz hM hr' => exact .list l as_ _ sz' b o' g (Nat.le_refl _) ha hsz hM hr'
      exact OpGoal.same S hrun (.pure this)
    · have hle : l = [] := by
        rcases hor with h | h
        · exact h
        · exact absurd rfl h
      subst hle
      -- an empty row without a block
      let ρ' : Locs := fun m => if m = n then none else ρ m
      have hl' : ∀ m, m ≠ n → ρ' m = ρ m := fun m hm => by simp [ρ', hm]
      have hne : ∀ m p, hlook h m = some p → m ≠ n := fun m p e1 e2 => by subst e2; rw [hn] at e1; cases e1
      have hxt : Ext M ρ h M ρ' ((n, .row sz [] false) :: h) := by
        refine ⟨M.le_refl, fun m sz' es fr e => ⟨sz', es, fr, ?_, Nat.le_refl _, fun _ => ⟨.inl rfl, hl' m (hne m _ e)⟩⟩, fun m o e hk => ⟨hl' m (hne m _ e), o, ?_, like_refl hk⟩⟩
        · rw [hlook_cons, if_neg (Ne.symm (hne m _ e))]; exact e
        · rw [hlook_cons, if_neg (Ne.symm (hne m _ e))]; exact e
      have hS : Sim B nt M0 w0 M ρ' t ((n, .row sz [] false) :: h) a w := by
        refine { S with tm := fun i => (S.tm i).ext hxt, obj := fun m p hp => ?_, dis := fun m m' p p' b1 c1 b2 c2 hmm k1 k2 e1 e2 => ?_, ext := S.ext.trans hxt }
        · rw [hlook_cons] at hp
          by_cases e : n = m
          · subst e; rw [if_pos rfl] at hp; cases hp; simp [ObjRel, ρ']
          · rw [if_neg e] at hp; exact (S.obj m p hp).ext hxt (hl' m (Ne.symm e))
        · rw [hlook_cons] at k1 k2
          by_cases e : n = m
          · subst e; simp [ρ'] at e1
          · by_cases e' : n = m'
            · subst e'; simp [ρ'] at e2
            · rw [if_neg e] at k1; rw [if_neg e'] at k2
              rw [hl' m (Ne.symm e)] at e1; rw [hl' m' (Ne.symm e')] at e2
              exact S.dis m m' p p' b1 c1 b2 c2 hmm k1 k2 e1 e2
      refine ⟨_, _, w, M, ρ', hrun, .inl rfl, hS, .own n 0 0 0 sz [] false _ (by show hlook ((n, DObj.row sz [] false) :: h) n = _; rw [hlook_cons, if_pos rfl]) (Nat.le_refl _) ⟨_, _, _, rfl⟩ (fun _ => ⟨by omega, ?_⟩)⟩
      simp [ρ']
  · have hf1 : (Builtin.firstCells sz xs.length (.slice ax xs.length cx)).run P w.drew = .ok (gcells gx (xs.length * sz)) w.drew :=
      firstCells_run (g := gx) rfl x3 (by rw [← x1]; exact x4 w.drew (fun _ _ => rfl))
    have hf2 : (Builtin.firstCells sz l.length (.slice as_ l.length l.length)).run P w.drew = .ok (gcells gs (l.length * sz)) w.drew :=
      firstCells_run (g := gs) rfl s3 (by rw [← s1]; exact s4 w.drew (fun _ _ => rfl))
    have hra := run_append_new (rt := o.type) ht hu he hz hf1 hf2 (by omega) hbig
    have hrun := execOp_append (P := P) (w := w) (a := a) ho (by rw [s1, x1]; exact hra)
    have hge := grownCap_ge w (l.length + xs.length) l.length e
    generalize grownCap w (l.length + xs.length) l.length e = cap at *
    have hok : ∀ e ∈ l ++ xs, okE sz e = true := fun e he => by
      rcases List.mem_append.1 he with h | h
      · exact hlo e h
      · exact hxo e h
    have hs' : ∀ e ∈ l ++ xs, e.cells.length = sz := fun e he => (okE_spec (hok e he)).1
    have hflat := append_cells (M := M) (rest := Builtin.zeroCells z.cells (cap - (l.length + xs.length))) hls hxs (gcells_size gs (l.length * sz)) (gcells_size gx (xs.length * sz))
      (fun i hi => by rw [length_flat l sz hls] at hi; rw [gcells_getD gs hi]; exact s5 i hi) (fun i hi => by rw [length_flat xs sz hxs] at hi; rw [gcells_getD gx hi]; exact x5 i hi)
    have hsize : (gcells gs (l.length * sz) ++ gcells gx (xs.length * sz) ++ Builtin.zeroCells z.cells (cap - (l.length + xs.length))).size = cap * sz := by
      rw [Array.size_append, Array.size_append, gcells_size, gcells_size, size_zeroCells, hzs, ← Nat.add_mul, ← Nat.add_mul]
      congr 1; omega
    refine ⟨?_, fun n hn _ => ?_⟩
    · obtain ⟨i1, i2, i3⟩ := S.drew.newImm (es := l ++ xs) (by rw [hsize, length_flat _ sz hs', List.length_append]; exact Nat.mul_le_mul_right _ hge) hs' hflat e
      have i2 := i2 cap (by rw [List.length_append]; exact hge)
      rw [List.length_append] at i2
      exact ⟨_, _, _, _, _, hrun, .inl rfl, i1, .pure i2⟩
    · obtain ⟨i1, i2⟩ := S.drew.newRow h3 (n := n) (c := cap) (es := l ++ xs) hn hsize (by rw [List.length_append]; exact hge) hok hflat e
      have e1 : (l ++ xs).length = l.length + xs.length := List.length_append
      refine ⟨_, _, _, _, _, hrun, .inl rfl, i1, ?_⟩
      rw [e1] at i2 ⊢; exact i2

theorem ext_growRow (M : Mem) (ρ ρ' : Locs) {h : Heap} {n sz sz' : Nat} {es es' : List DV} {fr fr' : Bool} (hn : hlook h n = some (.row sz es fr)) (hlt : es.length < es'.length) (hρ : ∀ m, m ≠ n → ρ' m = ρ m) : Ext M ρ h M ρ' ((n, .row sz' es' fr') :: h) := by
  refine ⟨M.le_refl, fun m sz1 es1 fr1 e => ?_, fun m o e hk => ?_⟩
  · rw [hlook_cons]
    by_cases e2 : n = m
    · subst e2; rw [hn] at e; cases e
      exact ⟨sz', es', fr', by rw [if_pos rfl], by omega, fun e => by omega⟩
    · exact ⟨sz1, es1, fr1, by rw [if_neg e2]; exact e, Nat.le_refl _, fun _ => ⟨.inl rfl, hρ m (Ne.symm e2)⟩⟩
  · have e2 : n ≠ m := fun e2 => by subst e2; rw [hn] at e; cases e; cases hk
    exact ⟨hρ m (Ne.symm e2), o, by rw [hlook_cons, if_neg e2]; exact e, like_refl hk⟩

/-- A row moves to a new block. -/
theorem Sim.moveRow (S : Sim B nt M0 w0 M ρ t h a w) {n sz sz' c : Nat} {es es' : List DV} {cs : Array Value} (hsz0 : sz' ≠ 0) (hn : hlook h n = some (.row sz es false)) (hlt : es.length < es'.length) (hc : cs.size = c * sz') (hle : es'.length ≤ c) (hok : ∀ e ∈ es', okE sz' e = true)
    (hr : ∀ i, i < (flat es').length → RelP M ((flat es').getD i .undef) (cs.getD i Go.undef)) (e : TypeId) :
    Sim B nt M0 w0 M (locWith ρ n w.heap.size c) t ((n, .row sz' es' false) :: h) a (w.alloc (.cells cs e)) ∧
    RelV M (locWith ρ n w.heap.size c) ((n, .row sz' es' false) :: h) (.own n 0 es'.length es'.length) (.slice (some ⟨w.heap.size, 0, none⟩) es'.length c) := by
  have hln : locWith ρ n w.heap.size c n = some (w.heap.size, c) := by unfold locWith; rw [if_pos rfl]
  have hl : ∀ m, m ≠ n → locWith ρ n w.heap.size c m = ρ m := fun m hm => by unfold locWith; rw [if_neg hm]
  have hx := ext_growRow (sz' := sz') (fr' := false) M ρ _ hn hlt hl
  have S1 := S.alloc (.cells cs e)
  have hback : ∀ m p, hlook ((n, DObj.row sz' es' false) :: h) m = some p → ∃ q, hlook h m = some q := fun m p e => by
    rw [hlook_cons] at e
    by_cases e2 : n = m
    · subst e2; exact ⟨_, hn⟩
    · rw [if_neg e2] at e; exact ⟨p, e⟩
  refine ⟨{ S1 with tm := fun i => (S1.tm i).ext hx, obj := fun m p hp => ?_, dis := fun m m' p p' b1 c1 b2 c2 hmm k1 k2 e1 e2 => ?_, ext := S1.ext.trans hx }, .own n 0 es'.length es'.length sz' es' false _ (by rw [hlook_cons, if_pos rfl]) (Nat.le_refl _) ⟨_, _, _, rfl⟩ (fun _ => ⟨by omega, ?_⟩)⟩
  · by_cases e2 : n = m
    · subst e2; rw [hlook_cons, if_pos rfl] at hp; cases hp
      simp only [ObjRel, hln]
      exact ⟨⟨.inl S.Bsize, hsz0⟩, cs, e, alloc_new w _, hc, hle, hok, hr, by simp, fun _ o => S.free_mem (Nat.le_refl _) o⟩
    · rw [hlook_cons, if_neg e2] at hp
      exact (S1.obj m p hp).ext hx (hl m (Ne.symm e2))
  · obtain ⟨q, hq⟩ := hback m p k1; obtain ⟨q', hq'⟩ := hback m' p' k2
    by_cases e : n = m
    · subst e
      rw [hln] at e1
      obtain ⟨rfl, rfl⟩ : w.heap.size = b1 ∧ c = c1 := by simpa using e1
      rw [hl m' (Ne.symm hmm)] at e2
      have := S.loc_lt hq' e2; omega
    · rw [hl m (Ne.symm e)] at e1
      by_cases e' : n = m'
      · subst e'
        rw [hln] at e2
        obtain ⟨rfl, rfl⟩ : w.heap.size = b2 ∧ c = c2 := by simpa using e2
        have := S.loc_lt hq e1; omega
      · rw [hl m' (Ne.symm e')] at e2
        exact S.dis m m' q q' b1 c1 b2 c2 hmm hq hq' e1 e2
  · rw [hln]; exact ⟨_, by rw [Nat.sub_zero], .inl (by rw [Nat.zero_mul])⟩

/-- Append to a row of the call's own. -/
theorem op_append_own (hG : GOk G M0) (S : Sim B nt M0 w0 M ρ t h a w) (ty u e e' : TypeId) (s x : Operand) (sz sz' : Nat) (agg : Bool) (z : Value) (m off len tot : Nat) (es xs : List DV) (q : Option Prop) (ho : o.op = .call ⟨.builtin .append, #[s, x], #[ty, u]⟩)
    (ht : P.underlying ty = some (.slice e)) (hu : P.underlying u = some (.slice e')) (he : elemT P e = some (sz, agg)) (hz : zeroT P e = some z) (hzs : z.cells.size = sz) (hs : evalOpd G t s = .own m off len tot) (hl : hlook h m = some (.row sz' es false))
    (hx : elems (hlook h) (evalOpd G t x) = some (q, xs)) (hq : holds q) (hszz : sz' = sz ∨ sz' = 0) (hb : off = 0 ∧ len = es.length ∧ tot = es.length ∧ es.length + xs.length ≤ 1073741824 ∧ ∀ e ∈ xs, okE sz e = true) :
    OpGoal P B nt M0 w0 M ρ t h a w o (.own m 0 (es ++ xs).length (es ++ xs).length) [(m, .row sz (es ++ xs) false)] := by
  obtain ⟨rfl, rfl, rfl, hbig, hxo⟩ := hb
  obtain ⟨h1, h2, h3, h4, h5⟩ := elemT_spec he
  have r1 := S.opd hG s; rw [hs] at r1
  obtain ⟨ax, cx, gx, x1, x2, x3, x4, x5, x6⟩ := elems_spec S (S.opd hG x) hx hq hxo
  obtain ⟨i1, i2⟩ := r1.inv_own hl
  obtain ⟨i3, i4⟩ := i2 rfl
  have hobj := S.obj m _ hl
  simp only [ObjRel] at hobj
  have hxs : ∀ e ∈ xs, e.cells.length = sz := fun e he => (okE_spec (hxo e he)).1
  have e1 : (es ++ xs).length = es.length + xs.length := List.length_append
  have hf1 : ∀ w', (∀ k, k < w.heap.size → w'.heap[k]? = w.heap[k]?) → (Builtin.firstCells sz xs.length (.slice ax xs.length cx)).run P w' = .ok (gcells gx (xs.length * sz)) w' := fun w' hw' =>
    firstCells_run (g := gx) rfl x3 (by rw [← x1]; exact x4 w' hw')
  -- what there is already
  have hold : ∃ as_ cap olds, a.eval s = .slice as_ es.length cap ∧ es.length ≤ cap ∧ olds.size = es.length * sz ∧ (∀ i, i < (flat es).length → RelP M ((flat es).getD i .undef) (olds.getD i Go.undef)) ∧
      (∀ e ∈ es, okE sz e = true) ∧ (Builtin.firstCells sz es.length (.slice as_ es.length cap)).run P w.drew = .ok olds w.drew ∧
      ((ρ m = none ∧ cap = 0) ∨ ∃ b cs te, ρ m = some (b, cap) ∧ as_ = some ⟨b, 0, none⟩ ∧ B.wr b ∧ w.heap[b]? = some (.cells cs te (0, 0)) ∧ sz' = sz ∧ cs.size = cap * sz ∧ (∀ i, i < (flat es).length → cs.getD i Go.undef = olds.getD i Go.undef) ∧ ∀ o, M b o = none) := by
    cases hρ : ρ m with
    | none =>
      rw [hρ] at hobj i4
      subst hobj
      obtain ⟨as_, ev⟩ := i4
      refine ⟨as_, 0, #[], ev, by simp, by simp, by simp [flat], by simp, ?_, .inl ⟨rfl, rfl⟩⟩
      have := firstCells_run (P := P) (w := w.drew) (v := .slice as_ 0 0) (n := 0) (cap := 0) (size := sz) (a' := as_) (g := fun _ => Go.undef) rfl (.inl rfl) (fun _ _ _ _ _ j hj => by simp at hj)
      simpa [gcells] using this
    | some bc =>
      obtain ⟨b, c⟩ := bc
      rw [hρ] at hobj i4
      obtain ⟨g2, cs, te, g3, g4, g5, g6, g7, g8, g9⟩ := hobj
      obtain ⟨as_, ev, ha⟩ := i4
      have ha' : as_ = some ⟨b, 0, none⟩ := by
        rcases ha with ha | ha
        · rw [ha, Nat.zero_mul]
        · exact absurd rfl ha.2
      subst ha'
      rw [Nat.sub_zero] at ev
      have hso : ∀ e ∈ es, e.cells.length = sz' := fun e he => (okE_spec (g6 e he)).1
      have hesz : sz' = sz := by
        rcases hszz with h | h
        · exact h
        · exact absurd h g2.2
      subst hesz
      have hflen : (flat es).length = es.length * sz' := length_flat es _ hso
      have hle : (flat es).length ≤ cs.size := by
        rw [length_flat es sz' hso, g4]; exact Nat.mul_le_mul_right _ g5
      refine ⟨_, c, gcells (fun j => cs.getD j Go.undef) (es.length * sz'), ev, g5, gcells_size _ _, fun i hi => ?_, g6, ?_, .inr ⟨b, cs, te, rfl, rfl, g2.1, g3, rfl, g4, fun i hi => ?_, g9 trivial⟩⟩
      · rw [gcells_getD _ (by omega)]; exact g7 i hi
      · refine firstCells_run (g := fun j => cs.getD j Go.undef) rfl ?_ ?_
        · right; exact ⟨b, 0, rfl⟩
        · intro b' o' len' cap' hv' j hj
          simp only [Value.slice.injEq, Option.some.injEq, Addr.mk.injEq] at hv'
          obtain ⟨⟨rfl, rfl, _⟩, _⟩ := hv'
          have : w.drew.cell? ⟨b, 0 + j, none⟩ = w.cell? ⟨b, 0 + j, none⟩ := rfl
          rw [this, cell_of_heap g3, Nat.zero_add]
          show _ = some (cs.getD j Go.undef)
          rw [agetD_lt (by omega), Array.getElem?_eq_getElem (by omega)]
      · rw [gcells_getD _ (by omega)]
  obtain ⟨as_, cap, olds, ev, hcap, ho1, ho2, ho3, ho4, hcase⟩ := hold
  have hok : ∀ e ∈ es ++ xs, okE sz e = true := fun e he => by
    rcases List.mem_append.1 he with h | h
    · exact ho3 e h
    · exact hxo e h
  have hs' : ∀ e ∈ es ++ xs, e.cells.length = sz := fun e he => (okE_spec (hok e he)).1
  have hes : ∀ e ∈ es, e.cells.length = sz := fun e he => (okE_spec (ho3 e he)).1
  have hnew : ∀ i, i < (flat xs).length → RelP M ((flat xs).getD i .undef) ((gcells gx (xs.length * sz)).getD i Go.undef) := fun i hi => by
    rw [length_flat xs sz hxs] at hi; rw [gcells_getD gx hi]; exact x5 i hi
  by_cases hx0 : xs.length = 0
  · -- nothing is appended
    have hxe : xs = [] := List.eq_nil_of_length_eq_zero hx0
    subst hxe
    have hrun := execOp_append (P := P) (w := w) (a := a) ho (v := .slice as_ es.length cap) (w' := w) (by rw [ev, x1]; exact run_append_same ht hu h1 hcap w)
    rw [List.append_nil]
    rcases hcase with ⟨hρ, hc0⟩ | ⟨b, cs, te, hρ, rfl, g2, g3, rfl, g4, g5, g6⟩
    · -- no block
      rw [hρ] at hobj
      subst hobj
      have hx' : Ext M ρ h M ρ ((m, .row sz [] false) :: h) := by
        refine ⟨M.le_refl, fun m' sz1 es1 fr1 e => ?_, fun m' o e hk => ⟨rfl, o, ?_, like_refl hk⟩⟩
        · rw [hlook_cons]
          by_cases e2 : m = m'
          · subst e2; rw [hl] at e; cases e
            exact ⟨sz, [], false, by rw [if_pos rfl], Nat.le_refl _, fun _ => ⟨.inr rfl, rfl⟩⟩
          · exact ⟨sz1, es1, fr1, by rw [if_neg e2]; exact e, Nat.le_refl _, fun _ => ⟨.inl rfl, rfl⟩⟩
        · have e2 : m ≠ m' := fun e2 => by subst e2; rw [hl] at e; cases e; cases hk
          rw [hlook_cons, if_neg e2]; exact e
      have hback : ∀ k p, hlook ((m, DObj.row sz [] false) :: h) k = some p → ∃ q, hlook h k = some q := fun k p e => by
        rw [hlook_cons] at e
        by_cases e2 : m = k
        · subst e2; exact ⟨_, hl⟩
        · rw [if_neg e2] at e; exact ⟨p, e⟩
      have hS : Sim B nt M0 w0 M ρ t ((m, .row sz [] false) :: h) a w := by
        refine { S with tm := fun i => (S.tm i).ext hx', obj := fun k p hp => ?_, dis := fun k k' p p' b1 c1 b2 c2 hmm k1 k2 e1 e2 => ?_, ext := S.ext.trans hx' }
        · by_cases e2 : m = k
          · subst e2; rw [hlook_cons, if_pos rfl] at hp; cases hp; simp only [ObjRel, hρ]
          · rw [hlook_cons, if_neg e2] at hp; exact (S.obj k p hp).ext hx' rfl
        · obtain ⟨q, hq⟩ := hback k p k1; obtain ⟨q', hq'⟩ := hback k' p' k2
          exact S.dis k k' q q' b1 c1 b2 c2 hmm hq hq' e1 e2
      refine ⟨_, _, w, M, ρ, hrun, .inl rfl, hS, ?_⟩
      rw [← ev]; exact r1.ext hx'
    · -- the row as it is
      have hcon : ∀ k, hlook ((m, DObj.row sz' es false) :: h) k = hlook h k := fun k => by
        rw [hlook_cons]
        by_cases e2 : m = k
        · subst e2; rw [if_pos rfl, hl]
        · rw [if_neg e2]
      refine ⟨_, _, w, M, ρ, hrun, .inl rfl, S.congr (fun _ => rfl) hcon, ?_⟩
      rw [← ev]; exact r1.congr hcon
  · by_cases hroom : es.length + xs.length ≤ cap
    · -- in place
      rcases hcase with ⟨hρ, hc0⟩ | ⟨b, cs, te, hρ, rfl, g2, g3, rfl, g4, g5, g6⟩
      · omega
      · have hmul : (es.length + xs.length) * sz' ≤ cap * sz' := Nat.mul_le_mul_right _ hroom
        rw [Nat.add_mul] at hmul
        have hgl : (gcells gx (xs.length * sz')).toList.length = xs.length * sz' := by simp [gcells]
        have hone : ∀ v ∈ (gcells gx (xs.length * sz')).toList, v.oneCell' = true := fun v hv => by
          obtain ⟨i, hi, rfl⟩ := List.getElem_of_mem hv
          rw [hgl] at hi
          have h9 := x6 i hi
          rw [← gcells_getD gx hi, agetD_lt (by rw [gcells_size]; exact hi)] at h9
          simpa using h9
        have hra := run_append_in (rt := o.type) ht hu h1 (hf1 w (fun _ _ => rfl)) hroom g3 (by rw [gcells_size]; omega) hone
        have hrun := execOp_append (P := P) (w := w) (a := a) ho (by rw [ev, x1]; exact hra)
        obtain ⟨cs', f1, f2, f3, f4, f5, f6⟩ := heap_setCells b (gcells gx (xs.length * sz')).toList (es.length * sz') w cs g3 (by rw [hgl]; omega)
        have hflat : ∀ i, i < (flat (es ++ xs)).length → RelP M ((flat (es ++ xs)).getD i .undef) (cs'.getD i Go.undef) := fun i hi => by
          have k1 := length_flat es sz' hes
          have k2 := length_flat xs sz' hxs
          rw [flat_append, List.length_append] at hi
          rw [flat_append, f3, hgl]
          by_cases hlt : i < (flat es).length
          · rw [if_neg (by omega), g5 i hlt]
            have := ho2 i hlt
            rwa [show (flat es ++ flat xs).getD i .undef = (flat es).getD i .undef by rw [getD_lt (by simp; omega), getD_lt hlt, List.getElem_append_left hlt]]
          · rw [if_pos ⟨by omega, by omega⟩]
            have := hnew (i - (flat es).length) (by omega)
            rw [show (flat es ++ flat xs).getD i .undef = (flat xs).getD (i - (flat es).length) .undef by rw [getD_lt (by simp; omega), getD_lt (by omega), List.getElem_append_right (by omega)]]
            rw [k1] at this ⊢
            have e9 : (gcells gx (xs.length * sz')).toList.getD (i - es.length * sz') Go.undef = (gcells gx (xs.length * sz')).getD (i - es.length * sz') Go.undef := by
              rw [getD_lt (by rw [hgl]; omega), agetD_lt (by rw [gcells_size]; omega), Array.getElem_toList]
            rw [e9]; exact this
        have hx' := ext_growRow (ρ' := ρ) (sz' := sz') (fr' := false) M ρ hl (show es.length < (es ++ xs).length by rw [e1]; omega) (fun _ _ => rfl)
        refine ⟨_, _, _, M, ρ, hrun, .inl rfl, S.setObj hl hρ f4 (f6 B w0 g2 S.below) g6 g3 (fun _ e => by cases e) hx' ?_, ?_⟩
        · simp only [ObjRel, hρ]
          rw [hρ] at hobj
          exact ⟨⟨g2, hobj.1.2⟩, cs', te, f1, by rw [f2, g4], by rw [e1]; exact hroom, hok, hflat, by simp, fun _ => g6⟩
        · refine .own m 0 _ _ sz' (es ++ xs) false _ (by show hlook ((m, DObj.row sz' (es ++ xs) false) :: h) m = _; rw [hlook_cons, if_pos rfl]) (Nat.le_refl _) ⟨_, _, _, rfl⟩ (fun _ => ⟨by omega, ?_⟩)
          rw [hρ, e1]; exact ⟨_, by rw [Nat.sub_zero], .inl (by rw [Nat.zero_mul])⟩
    · -- a new block
      have hra := run_append_new (rt := o.type) ht hu he hz (hf1 w.drew (fun _ _ => rfl)) ho4 (by omega) hbig
      have hrun := execOp_append (P := P) (w := w) (a := a) ho (by rw [ev, x1]; exact hra)
      have hge := grownCap_ge w (es.length + xs.length) cap e
      generalize grownCap w (es.length + xs.length) cap e = cap' at *
      have hsize : (olds ++ gcells gx (xs.length * sz) ++ Builtin.zeroCells z.cells (cap' - (es.length + xs.length))).size = cap' * sz := by
        rw [Array.size_append, Array.size_append, gcells_size, ho1, size_zeroCells, hzs, ← Nat.add_mul, ← Nat.add_mul]
        congr 1; omega
      have hflat := append_cells (M := M) (rest := Builtin.zeroCells z.cells (cap' - (es.length + xs.length))) hes hxs ho1 (gcells_size gx (xs.length * sz)) ho2 hnew
      obtain ⟨j1, j2⟩ := S.drew.moveRow h3 (n := m) (c := cap') (es' := es ++ xs) hl (by rw [e1]; omega) hsize (by rw [e1]; exact hge) hok hflat e
      refine ⟨_, _, _, _, _, hrun, .inl rfl, j1, ?_⟩
      rw [e1] at j2 ⊢; exact j2
end
end Sh
