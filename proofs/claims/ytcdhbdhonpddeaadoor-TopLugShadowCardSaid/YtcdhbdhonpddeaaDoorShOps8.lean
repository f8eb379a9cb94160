/- What single operations come to: literal slices, builds, makes. -/
import Derived.Test.YtcdhbdhonpddeaaDoorShOps7
set_option linter.unusedVariables false
set_option linter.unusedSectionVars false
namespace Sh
open Go

theorem holds_pand_mk {p q : Option Prop} (h1 : holds p) (h2 : holds q) : holds (pand p q) := by
  cases p <;> cases q <;> simp_all [pand, holds]

theorem purs_get {lk : Nat → Option DObj} : ∀ {ds ds' : List DV} {p : Option Prop}, purs lk ds = some (p, ds') → holds p → ds'.length = ds.length ∧ ∀ i, i < ds.length → ∃ q, pur lk (ds.getD i .undef) = some (q, ds'.getD i .undef) ∧ holds q
  | [], ds', p, he, hp => by
    simp only [purs, Option.some.injEq, Prod.mk.injEq] at he
    obtain ⟨rfl, rfl⟩ := he
    exact ⟨rfl, fun i hi => by simp at hi⟩
  | d :: r, ds', p, he, hp => by
    simp only [purs] at he
    split at he
    · rename_i q d' q' r' h1 h2
      simp only [Option.some.injEq, Prod.mk.injEq] at he
      obtain ⟨rfl, rfl⟩ := he
      obtain ⟨p1, p2⟩ := holds_pand hp
      obtain ⟨e1, e2⟩ := purs_get h2 p2
      refine ⟨by simp [e1], fun i hi => ?_⟩
      cases i with
      | zero => exact ⟨q, by simpa using h1, p1⟩
      | succ i => simpa using e2 i (by simpa using hi)
    · cases he

theorem pur_cells {lk : Nat → Option DObj} {d d' : DV} {p : Option Prop} (he : pur lk d = some (p, d')) (hp : holds p) (hu : cellsB d.cells = true) : ∃ q, purs lk d.cells = some (q, d'.cells) ∧ holds q := by
  by_cases ha : isAggB d = true
  · cases d <;> first | (simp [isAggB] at ha; done) | skip
    rename_i cs
    simp only [pur] at he
    split at he
    · rename_i q ds hds
      simp only [Option.some.injEq, Prod.mk.injEq] at he
      obtain ⟨rfl, rfl⟩ := he
      exact ⟨_, hds, hp⟩
    · cases he
  · have ha' : isAggB d = false := by simpa using ha
    have hc := cells_ne_agg ha'
    have hd' : isAggB d' = false := by
      rw [hc] at hu
      by_cases hb : ∃ n off, d = .bptr n off
      · obtain ⟨n, off, rfl⟩ := hb; obtain ⟨d0, rfl⟩ := pur_bptr he; rfl
      cases d <;> simp only [pur] at he <;> first | (simp [isAggB] at ha'; done) | (simp [cellsB, cellB] at hu; done) | (exact absurd ⟨_, _, rfl⟩ hb) | skip
      all_goals first
        | (cases he; done)
        | (simp only [Option.some.injEq, Prod.mk.injEq] at he; obtain ⟨_, rfl⟩ := he; rfl)
        | (split at he
           · first
             | (simp only [Option.some.injEq, Prod.mk.injEq] at he; obtain ⟨_, rfl⟩ := he; rfl)
             | (cases he; done)
           · cases he)
    rw [hc, cells_ne_agg hd']
    exact ⟨pand p none, by simp [purs, he], holds_pand_mk hp trivial⟩

theorem pur_cellB {lk : Nat → Option DObj} {d d' : DV} {p : Option Prop} (he : pur lk d = some (p, d')) (hu : cellB d = true) : cellB d' = true := by
  by_cases hb : ∃ n off, d = .bptr n off
  · obtain ⟨n, off, rfl⟩ := hb; obtain ⟨d0, rfl⟩ := pur_bptr he; rfl
  cases d <;> simp only [pur] at he <;> first | (simp [cellB] at hu; done) | (exact absurd ⟨_, _, rfl⟩ hb) | skip
  all_goals first
    | (cases he; done)
    | (simp only [Option.some.injEq, Prod.mk.injEq] at he; obtain ⟨_, rfl⟩ := he; rfl)
    | (split at he
       · first
         | (simp only [Option.some.injEq, Prod.mk.injEq] at he; obtain ⟨_, rfl⟩ := he; rfl)
         | (cases he; done)
       · cases he)

theorem purs_cellsB {lk : Nat → Option DObj} : ∀ {ds ds' : List DV} {p : Option Prop}, purs lk ds = some (p, ds') → cellsB ds = true → cellsB ds' = true ∧ ds'.length = ds.length
  | [], ds', p, he, hu => by
    simp only [purs, Option.some.injEq, Prod.mk.injEq] at he
    obtain ⟨_, rfl⟩ := he; exact ⟨rfl, rfl⟩
  | d :: r, ds', p, he, hu => by
    simp only [purs] at he
    simp only [cellsB, Bool.and_eq_true] at hu
    split at he
    · rename_i q d' q' r' h1 h2
      simp only [Option.some.injEq, Prod.mk.injEq] at he
      obtain ⟨_, rfl⟩ := he
      obtain ⟨e1, e2⟩ := purs_cellsB h2 hu.2
      exact ⟨by simp [cellsB, pur_cellB h1 hu.1, e1], by simp [e2]⟩
    · cases he

theorem okE_pur {lk : Nat → Option DObj} {sz : Nat} {d d' : DV} {p : Option Prop} (he : pur lk d = some (p, d')) (hp : holds p) (hok : okE sz d = true) : okE sz d' = true := by
  obtain ⟨k1, k2⟩ := okE_spec hok
  obtain ⟨q, e1, e2⟩ := pur_cells he hp k2
  obtain ⟨e3, e4⟩ := purs_cellsB e1 k2
  unfold okE
  rw [natbeq, e4, k1, e3]; simp

theorem litElems_mem (ev : Operand → DV) (sz : Nat) : ∀ (parts : List (Nat × Operand)) (es : List DV), (∀ e ∈ es, okE sz e = true) → (∀ p ∈ parts, okE sz (ev p.2) = true) → ∀ e ∈ litElems ev parts es, okE sz e = true
  | [], es, h1, h2 => h1
  | (i, x) :: r, es, h1, h2 => litElems_mem ev sz r _ (fun e he => by
      rcases List.mem_or_eq_of_mem_set he with h | h
      · exact h1 e h
      · rw [h]; exact h2 (i, x) (by simp)) (fun p hp => h2 p (by simp [hp]))

section
variable {P : Program} {G : Nat → Option DV} {B : Base} {nt : Nat} {M0 : Mem} {w0 : World} {M : Mem} {ρ : Locs} {t : Tmps} {h : Heap} {a : Act} {w : World} {o : Oper}

/-- Cells that read as elements, read out of the heap. -/
theorem pure_cells (S : Sim B nt M0 w0 M ρ t h a w) (lk : Nat → Option DObj) {es es' : List DV} {p : Option Prop} (he : purs lk es = some (p, es')) (hp : holds p) {sz : Nat} (hok : ∀ e ∈ es, okE sz e = true)
    (hfr : ∀ n ∈ namess es, ∀ sz es fr, lk n = some (.row sz es fr) → hlook h n = some (.row sz es true)) (hfb : ∀ n ∈ namess es, ∀ sz d0, lk n = some (.box sz d0) ∨ lk n = some (.fbox sz d0) → pureB d0 = true → hlook h n = some (.fbox sz d0)) (g : Nat → Nat → Value)
    (hr : ∀ i j, i < es.length → j < sz → RelV M ρ h ((es.getD i .undef).cells.getD j .undef) (g i j)) :
    es'.length = es.length ∧ (∀ e ∈ es', okE sz e = true) ∧ ∀ i j, i < es.length → j < sz → RelP M ((es'.getD i .undef).cells.getD j .undef) (g i j) := by
  obtain ⟨e1, e2⟩ := purs_get he hp
  have hn : ∀ i, i < es.length → ∀ n ∈ names (es.getD i .undef), n ∈ namess es := by
    intro i hi n hn
    clear he e1 e2 hok hfr hr hfb
    induction es generalizing i with
    | nil => simp at hi
    | cons d r ih =>
      cases i with
      | zero => simp [namess] at hn ⊢; exact .inl hn
      | succ i => simp [namess] at hn ⊢; exact .inr (ih i (by simpa using hi) (by simpa using hn))
  have hcn : ∀ d : DV, namess d.cells = names d := fun d => by cases d <;> simp [DV.cells, namess, names]
  refine ⟨e1, fun e he' => ?_, fun i j hi hj => ?_⟩
  · obtain ⟨i, hi, rfl⟩ := List.getElem_of_mem he'
    obtain ⟨q, h1, h2⟩ := e2 i (by omega)
    have h3 := okE_pur h1 h2 (hok _ (by rw [getD_lt (by omega : i < es.length)]; exact List.getElem_mem _))
    rwa [getD_lt hi] at h3
  · obtain ⟨q, h1, h2⟩ := e2 i hi
    have hoki := hok (es.getD i .undef) (by rw [getD_lt hi]; exact List.getElem_mem _)
    obtain ⟨k1, k2⟩ := okE_spec hoki
    obtain ⟨q', h3, h4⟩ := pur_cells h1 h2 k2
    obtain ⟨h5, h6⟩ := purs_rel S lk (es.getD i .undef).cells (g i) q' _ h3 h4 (fun j hj => hr i j hi (by omega)) (fun n hn' => hfr n (hn i hi n (by rw [← hcn]; exact hn'))) (fun n hn' => hfb n (hn i hi n (by rw [← hcn]; exact hn')))
    exact h6 j (by omega)

theorem op_lit (hG : GOk G M0) (S : Sim B nt M0 w0 M ρ t h a w) (lk : Nat → Option DObj) (ty e : TypeId) (len sz : Nat) (agg : Bool) (z : Value) (parts : Array (Nat × Operand)) (ho : o.op = .buildSlice ty len parts)
    (ht : P.underlying ty = some (.slice e)) (he : elemT P e = some (sz, agg)) (hz : zeroT P e = some z) (hlen : len * sz ≤ 16777216) (hzs : z.cells.size = sz) (hzo : okE sz (ofValue z) = true) (hpl : ∀ p ∈ parts.toList, p.1 < len)
    (hpk : ∀ p ∈ parts.toList, okE sz (evalOpd G t p.2) = true) {p : Option Prop} {es : List DV} (hes : purs lk (litElems (evalOpd G t) parts.toList (List.replicate len (ofValue z))) = some (p, es)) (hp : holds p)
    (hfr : ∀ n ∈ namess (litElems (evalOpd G t) parts.toList (List.replicate len (ofValue z))), ∀ sz es fr, lk n = some (.row sz es fr) → hlook h n = some (.row sz es true))
    (hfb : ∀ n ∈ namess (litElems (evalOpd G t) parts.toList (List.replicate len (ofValue z))), ∀ sz d0, lk n = some (.box sz d0) ∨ lk n = some (.fbox sz d0) → pureB d0 = true → hlook h n = some (.fbox sz d0)) :
    OpGoal P B nt M0 w0 M ρ t h a w o (.full es) [] ∧ ∀ n, hlook h n = none → OpGoal P B nt M0 w0 M ρ t h a w o (.own n 0 es.length es.length) [(n, .row sz es false)] := by
  have hok := litElems_mem (evalOpd G t) sz parts.toList (List.replicate len (ofValue z)) (fun e he => by rw [List.mem_replicate] at he; rw [he.2]; exact hzo) hpk
  obtain ⟨R, r1, r2, r3, r4⟩ := lit_cells hG S ty e len sz agg z parts ho ht he hz hlen hzs hzo hpl hpk
  obtain ⟨c1, c2, c3⟩ := pure_cells S lk hes hp hok hfr hfb (fun i j => R.getD (i * sz + j) Go.undef) (fun i j hi hj => r4 i j (by omega) hj)
  have hs : ∀ e ∈ es, e.cells.length = sz := fun e he => (okE_spec (c2 e he)).1
  have hflat := flat_rel (R := RelP M) (cs := R) hs (fun i j hi hj => c3 i j (by omega) hj)
  have hl : es.length = len := by omega
  have hfl : (flat es).length ≤ R.size := by rw [length_flat es sz hs, r2, hl]; exact Nat.le_refl _
  refine ⟨?_, fun n hn => ?_⟩
  · obtain ⟨s1, s2, s3⟩ := S.newImm hfl hs hflat e
    rw [hl] at s3
    exact ⟨_, _, _, _, _, r1, .inl rfl, s1, .pure s3⟩
  · obtain ⟨s1, s2⟩ := S.newRow (elemT_spec he).2.2.1 hn (by rw [r2]) (by omega) c2 hflat e
    rw [hl] at s2
    exact ⟨_, _, _, _, _, r1, .inl rfl, s1, by rw [hl]; exact s2⟩

theorem setCells_getD (cs : List DV) (off : Nat) (new : List DV) (hb : off + new.length ≤ cs.length) : (setCells cs off new).length = cs.length ∧
    ∀ i, (setCells cs off new).getD i .undef = if off ≤ i ∧ i < off + new.length then new.getD (i - off) .undef else cs.getD i .undef := by
  unfold setCells
  refine ⟨by simp; omega, fun i => ?_⟩
  simp only [List.getD_eq_getElem?_getD]
  by_cases h1 : i < off
  · rw [if_neg (by omega), List.append_assoc, List.getElem?_append_left (by simp; omega), List.getElem?_take, if_pos h1]
  · by_cases h2 : i < off + new.length
    · rw [if_pos ⟨by omega, h2⟩, List.append_assoc, List.getElem?_append_right (by simp; omega), List.getElem?_append_left (by simp; omega)]
      congr 2
      simp; omega
    · rw [if_neg (by omega), List.getElem?_append_right (by simp; omega), List.getElem?_drop]
      congr 2
      simp; omega

/-- A value that is put together. -/
theorem fill_build (hG : GOk G M0) (S : Sim B nt M0 w0 M ρ t h a w) (place : Nat → Option (Nat × Nat)) : ∀ (parts : List (Nat × Operand)) (ps : List (Nat × Nat × Operand)) (cs out : List DV) (A : Array Value),
    parts.length = ps.length → (∀ (i : Nat) (q : Nat × Operand) (r : Nat × Nat × Operand), parts[i]? = some q → ps[i]? = some r → place q.1 = some (r.1, r.2.1) ∧ q.2 = r.2.2) →
    cs.length = A.size → (∀ i, i < cs.length → RelV M ρ h (cs.getD i .undef) (A.getD i Go.undef)) → fillCells (evalOpd G t) ps cs = some out →
    ∃ R, Instr.fill place A (parts.map fun q => (q.1, a.eval q.2)) = some R ∧ out.length = R.size ∧ ∀ i, i < out.length → RelV M ρ h (out.getD i .undef) (R.getD i Go.undef)
  | [], ps, cs, out, A, hl, hpl, hA, hr, hf => by
    cases ps with
    | nil =>
      simp only [fillCells, Option.some.injEq] at hf
      subst hf
      exact ⟨A, rfl, hA, hr⟩
    | cons _ _ => simp at hl
  | (i0, x) :: r, ps, cs, out, A, hl, hpl, hA, hr, hf => by
    cases ps with
    | nil => simp at hl
    | cons q ps =>
      obtain ⟨off, sz, y⟩ := q
      obtain ⟨e1, e2⟩ := hpl 0 (i0, x) (off, sz, y) rfl rfl
      simp only at e1 e2
      subst e2
      simp only [fillCells] at hf
      cases hc : (okE sz (evalOpd G t x) && Nat.ble (off + sz) cs.length) with
      | false => rw [hc] at hf; cases hf
      | true =>
        rw [hc, cond_true] at hf
        simp only [Bool.and_eq_true] at hc
        obtain ⟨c1, c2⟩ := hc
        have c2 := Nat.le_of_ble_eq_true c2
        obtain ⟨k1, k2⟩ := okE_spec c1
        obtain ⟨v1, v2⟩ := cells_getD (S.opd hG x) k2
        obtain ⟨f1, f2⟩ := foldSet off (a.eval x).cells A (by omega)
        obtain ⟨g1, g2⟩ := setCells_getD cs off (evalOpd G t x).cells (by omega)
        obtain ⟨R, h1, h2, h3⟩ := fill_build hG S place r ps (setCells cs off (evalOpd G t x).cells) out _ (by simpa using hl)
          (fun i q r' hq hr' => hpl (i + 1) q r' (by simpa using hq) (by simpa using hr')) (by rw [f1, g1]; exact hA) (fun i hi => by
            rw [f2, g2, v1]
            by_cases hi2 : off ≤ i ∧ i < off + (evalOpd G t x).cells.length
            · rw [if_pos hi2, if_pos hi2]; exact v2 _ (by omega)
            · rw [if_neg hi2, if_neg hi2]; exact hr i (by omega)) hf
        refine ⟨R, ?_, h2, h3⟩
        simp only [List.map_cons, Instr.fill, e1]
        rw [if_neg]
        · exact h1
        · simp only [ne_eq, Bool.or_eq_true, decide_eq_true_eq, not_or]; omega

theorem mapO_get {α β : Type} (f : α → Option β) : ∀ (l : List α) (r : List β), mapO f l = some r → l.length = r.length ∧ ∀ (i : Nat) (a : α) (b : β), l[i]? = some a → r[i]? = some b → f a = some b
  | [], r, hm => by simp only [mapO, Option.some.injEq] at hm; subst hm; exact ⟨rfl, fun i a b h => by simp at h⟩
  | x :: l, r, hm => by
    simp only [mapO] at hm
    split at hm
    · rename_i y s h1 h2
      simp only [Option.some.injEq] at hm; subst hm
      obtain ⟨e1, e2⟩ := mapO_get f l s h2
      refine ⟨by simp [e1], fun i a b ha hb => ?_⟩
      cases i with
      | zero => simp at ha hb; subst ha; subst hb; exact h1
      | succ i => exact e2 i a b (by simpa using ha) (by simpa using hb)
    · cases hm

theorem op_build (hG : GOk G M0) (S : Sim B nt M0 w0 M ρ t h a w) (ty : TypeId) (parts : Array (Nat × Operand)) (z : Array Value) (ps : List (Nat × Nat × Operand)) (cs : List DV) (ho : o.op = .build ty parts)
    (hz : zeroT P ty = some (.agg z)) (hps : mapO (buildPart P ty) parts.toList = some ps) (hbo : buildOk P ty = true) (hf : fillCells (evalOpd G t) ps (z.toList.map ofCell) = some cs) : OpGoal P B nt M0 w0 M ρ t h a w o (.agg cs) [] := by
  obtain ⟨m1, m2⟩ := mapO_get _ _ _ hps
  have hrel : ∀ i, i < (z.toList.map ofCell).length → RelV M ρ h ((z.toList.map ofCell).getD i .undef) (z.getD i Go.undef) := fun i hi => by
    have hi' : i < z.size := by simpa using hi
    rw [getD_lt hi, agetD_lt hi']
    simp only [List.getElem_map, Array.getElem_toList]
    exact .pure (relP_ofCell M _)
  have hparts : (parts.map fun (i, x) => (i, a.eval x)).toList = parts.toList.map fun p => (p.1, a.eval p.2) := by rw [Array.toList_map]
  unfold buildOk at hbo
  split at hbo
  · rename_i fs hu
    have hmap : (fs.mapM fun (f : Go.Field) => do pure (f.offset, ← Go.sizeOf f.type)).run P w = .ok (fs.map fun f => (f.offset, (sizeT P f.type).getD 0)) w := by
      have key : ∀ (l : List Go.Field), (∀ f ∈ l, ∃ s, sizeT P f.type = some s) → (l.mapM fun (f : Go.Field) => do pure (f.offset, ← Go.sizeOf f.type)).run P w = .ok (l.map fun f => (f.offset, (sizeT P f.type).getD 0)) w := by
        intro l
        induction l with
        | nil => intro _; simp
        | cons f r ih =>
          intro hs
          obtain ⟨s, e⟩ := hs f (by simp)
          have := ih (fun g hg => hs g (by simp [hg]))
          simp only [List.mapM_cons, Sem.run_bind, size_run e, Result.andThen_ok, Sem.run_pure, this, List.map_cons, e, Option.getD_some]
      have h1 := key fs.toList (fun f hf => by
        have := List.all_eq_true.1 hbo f hf
        exact Option.isSome_iff_exists.1 this)
      have h2 : fs = fs.toList.toArray := by simp
      rw [h2, List.mapM_toArray, Sem.run_map, h1]
      simp only [Result.andThen_ok, List.map_toArray]
    obtain ⟨R, f1, f2, f3⟩ := fill_build hG S ((fs.map fun f => (f.offset, (sizeT P f.type).getD 0))[·]?) parts.toList ps (z.toList.map ofCell) cs z m1 (fun i q r hq hr => by
      have := m2 i q r hq hr
      simp only [buildPart, hu] at this
      split at this
      · rename_i f hf
        split at this
        · rename_i sz hsz
          simp only [Option.some.injEq] at this; subst this
          exact ⟨by simp [hf, hsz], rfl⟩
        · cases this
      · cases this) (by simp) hrel hf
    refine OpGoal.same S (v := .agg R) ?_ (.agg cs R f2 f3)
    simp only [execOp, ho, Instr.build, Sem.run_bind, zeroValue_run hz, Result.andThen_ok, Value.cells, run_underlying hu, hmap, hparts, f1, Sem.run_pure]
  · rename_i n e hu
    obtain ⟨sz, hsz⟩ := Option.isSome_iff_exists.1 hbo
    obtain ⟨R, f1, f2, f3⟩ := fill_build hG S (fun i => some (i * sz, sz)) parts.toList ps (z.toList.map ofCell) cs z m1 (fun i q r hq hr => by
      have := m2 i q r hq hr
      simp only [buildPart, hu, hsz, Option.some.injEq] at this
      subst this; exact ⟨rfl, rfl⟩) (by simp) hrel hf
    refine OpGoal.same S (v := .agg R) ?_ (.agg cs R f2 f3)
    simp only [execOp, ho, Instr.build, Sem.run_bind, zeroValue_run hz, Result.andThen_ok, Value.cells, run_underlying hu, size_run hsz, hparts, f1, Sem.run_pure]
  · cases hbo

theorem op_mkslice (hG : GOk G M0) (S : Sim B nt M0 w0 M ρ t h a w) (ty e : TypeId) (l c : Operand) (sz : Nat) (agg : Bool) (z : Value) (j k : IntKind) (m n : Int) (nm : Nat) (ho : o.op = .makeSlice ty l c)
    (ht : P.underlying ty = some (.slice e)) (he : elemT P e = some (sz, agg)) (hz : zeroT P e = some z) (hzs : z.cells.size = sz) (hl : evalOpd G t l = .int j m) (hc : evalOpd G t c = .int k n)
    (hb : 0 ≤ m ∧ m ≤ n ∧ n ≤ 1073741824 ∧ okE sz (ofValue z) = true) (hn : hlook h nm = none) :
    OpGoal P B nt M0 w0 M ρ t h a w o (.own nm 0 m.toNat m.toNat) [(nm, .row sz (List.replicate m.toNat (ofValue z)) false)] := by
  obtain ⟨b1, b2, b3, b4⟩ := hb
  obtain ⟨h1, h2, h3, h4, h5⟩ := elemT_spec he
  obtain ⟨i, hi, hz'⟩ := zeroT_spec hz
  have r1 := S.opd hG l; rw [hl] at r1
  have r2 := S.opd hG c; rw [hc] at r2
  have hsize : i.size = sz := by unfold sizeT at h1; rw [hi] at h1; simpa using h1
  have hbytes : i.bytes ≤ 65536 := by unfold bytesOk at h5; rw [hi] at h5; exact Nat.le_of_ble_eq_true h5
  have hmul : i.bytes * n.toNat ≤ 65536 * 1073741824 := Nat.mul_le_mul hbytes (by omega)
  have hrun : (Instr.makeSlice ty (.int j m) (.int k n)).run P w = .ok (.slice (some ⟨w.heap.size, 0, none⟩) m.toNat n.toNat) (w.alloc (.cells (madeCells z.cells (n.toNat * sz)) e)) := by
    have := run_make (P := P) w ty e i z ht hi hz' j k m n b1 b2 (by
      have e1 : ((n.toNat : Nat) : Int) = n := by omega
      have h6 : i.bytes * n.toNat ≤ 281474976710656 := by omega
      have h7 : (i.bytes : Int) * n = ((i.bytes * n.toNat : Nat) : Int) := by rw [Int.natCast_mul, e1]
      rw [h7]; omega) (by omega)
    rw [hsize] at this
    exact this
  have hsz : 0 < sz := by omega
  have hok : ∀ e ∈ List.replicate m.toNat (ofValue z), okE sz e = true := fun e he => by rw [List.mem_replicate] at he; rw [he.2]; exact b4
  have hs : ∀ e ∈ List.replicate m.toNat (ofValue z), e.cells.length = sz := fun e he => (okE_spec (hok e he)).1
  have hcells : ∀ i, i < (flat (List.replicate m.toNat (ofValue z))).length → RelP M ((flat (List.replicate m.toNat (ofValue z))).getD i .undef) ((madeCells z.cells (n.toNat * sz)).getD i Go.undef) :=
    flat_rel (R := RelP M) hs (fun i j hi hj => by
      simp only [List.length_replicate] at hi
      have := zero_row (M := M) (len := n.toNat) hzs b4 hsz i j (by omega) hj
      have e1 : (List.replicate m.toNat (ofValue z)).getD i .undef = (List.replicate n.toNat (ofValue z)).getD i .undef := by
        rw [getD_lt (by simpa using hi), getD_lt (by simp; omega)]; simp
      rw [e1]; exact this)
  obtain ⟨s1, s2⟩ := S.newRow h3 (n := nm) (c := n.toNat) (cs := madeCells z.cells (n.toNat * sz)) hn (by rw [size_madeCells]) (by simp; omega) hok hcells e
  rw [List.length_replicate] at s2
  refine ⟨_, _, _, _, _, ?_, .inl rfl, s1, s2⟩
  simp only [execOp, ho, Sem.run_bind, r1.inv_int, r2.inv_int, hrun, Result.andThen_ok, Sem.run_pure]
end
end Sh
