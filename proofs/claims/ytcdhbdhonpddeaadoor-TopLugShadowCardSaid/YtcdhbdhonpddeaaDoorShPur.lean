/- Rows that are frozen, and values that are read out of the heap. -/
import Derived.Test.YtcdhbdhonpddeaaDoorShOps6
set_option linter.unusedVariables false
set_option linter.unusedSectionVars false
namespace Sh
open Go
mutual
theorem relV_pure {M : Mem} {ρ : Locs} {h : Heap} (d : DV) (v : Value) (hp : pureB d = true) (hr : RelV M ρ h d v) : RelP M d v := by
  cases d with
  | agg cs =>
    obtain ⟨vs, rfl, hl, h1⟩ := hr.inv_agg
    exact .agg cs vs hl (relV_pures cs (fun i => vs.getD i Go.undef) (by simpa [pureB] using hp) h1)
  | tuple cs =>
    obtain ⟨vs, rfl, hl, h1⟩ := hr.inv_tuple
    exact .tuple cs vs hl (relV_pures cs (fun i => vs.getD i Go.undef) (by simpa [pureB] using hp) h1)
  | func f cs =>
    obtain ⟨vs, rfl, hl, h1⟩ := hr.inv_func
    exact .func f cs vs hl (relV_pures cs (fun i => vs.getD i Go.undef) (by simpa [pureB] using hp) h1)
  | own _ _ _ _ => simp [pureB] at hp
  | ptr _ _ _ _ => simp [pureB] at hp
  | bptr _ _ => simp [pureB] at hp
  | dict _ => simp [pureB] at hp
  | _ => cases hr with | pure h => exact h
theorem relV_pures {M : Mem} {ρ : Locs} {h : Heap} (ds : List DV) (vs : Nat → Value) (hp : pureBs ds = true) (hr : ∀ i, i < ds.length → RelV M ρ h (ds.getD i .undef) (vs i)) : ∀ i, i < ds.length → RelP M (ds.getD i .undef) (vs i) := by
  cases ds with
  | nil => intro i hi; simp at hi
  | cons d r =>
    simp only [pureBs, Bool.and_eq_true] at hp
    intro i hi
    cases i with
    | zero => exact relV_pure d (vs 0) hp.1 (by simpa using hr 0 (by simp))
    | succ i =>
      have := relV_pures r (fun i => vs (i + 1)) hp.2 (fun i hi => by simpa using hr (i + 1) (by simpa using hi)) i (by simpa using hi)
      simpa using this
end

theorem pure_getD : ∀ {cs : List DV}, pureBs cs = true → ∀ i, i < cs.length → pureB (cs.getD i .undef) = true
  | [], _, i, hi => by simp at hi
  | d :: r, h, 0, _ => by simp only [pureBs, Bool.and_eq_true] at h; exact h.1
  | d :: r, h, i + 1, hi => by
    simp only [pureBs, Bool.and_eq_true] at h
    simpa using pure_getD h.2 i (by simpa using hi)

theorem pureB_cells {d : DV} (hp : pureB d = true) (i : Nat) (hi : i < d.cells.length) : pureB (d.cells.getD i .undef) = true := by
  cases d with
  | agg cs =>
    have h' : pureBs cs = true := by simpa [pureB] using hp
    exact pure_getD h' i hi
  | _ =>
    have hi0 : i = 0 := by simp [DV.cells] at hi; omega
    subst hi0; exact hp

section
variable {B : Base} {nt : Nat} {M0 : Mem} {w0 : World} {M : Mem} {ρ : Locs} {t : Tmps} {h : Heap} {a : Act} {w : World}

theorem Sim.freeze1 (S : Sim B nt M0 w0 M ρ t h a w) {n sz : Nat} {es : List DV} {fr : Bool} (hn : hlook h n = some (.row sz es fr)) :
    ∃ M', M.le M' ∧ Sim B nt M0 w0 M' ρ t ((n, .row sz es true) :: h) a w ∧ (∀ b o v, M' b o = some v → M b o = none → B.wr b) := by
  have hl : ∀ m, hlook ((n, DObj.row sz es true) :: h) m = if n = m then some (.row sz es true) else hlook h m := fun m => hlook_cons _ _ _ _
  have hx : ∀ M', M.le M' → Ext M ρ h M' ρ ((n, .row sz es true) :: h) := fun M' hm => by
    refine ⟨hm, fun m sz' es' fr' e => ?_, fun m o e hk => ⟨rfl, o, ?_, like_refl hk⟩⟩
    · rw [hl]
      by_cases e2 : n = m
      · subst e2; rw [hn] at e; cases e
        exact ⟨sz, es, true, by rw [if_pos rfl], Nat.le_refl _, fun _ => ⟨.inl rfl, rfl⟩⟩
      · exact ⟨sz', es', fr', by rw [if_neg e2]; exact e, Nat.le_refl _, fun _ => ⟨.inl rfl, rfl⟩⟩
    · rw [hl]
      by_cases e2 : n = m
      · subst e2; rw [hn] at e; cases e; cases hk
      · rw [if_neg e2]; exact e
  have hdis : ∀ m p, hlook ((n, DObj.row sz es true) :: h) m = some p → ∃ p', hlook h m = some p' := fun m p e => by
    rw [hl] at e
    by_cases e2 : n = m
    · subst e2; exact ⟨_, hn⟩
    · rw [if_neg e2] at e; exact ⟨p, e⟩
  have hobj := S.obj n _ hn
  simp only [ObjRel] at hobj
  cases hρ : ρ n with
  | none =>
    rw [hρ] at hobj
    refine ⟨M, M.le_refl, ?_, fun b o v e e' => by rw [e] at e'; cases e'⟩
    refine { S with tm := fun i => (S.tm i).ext (hx M M.le_refl), obj := fun m p hp => ?_, dis := fun m m' p p' b c b' c' hne h1 h2 e1 e2 => ?_, ext := S.ext.trans (hx M M.le_refl) }
    · rw [hl] at hp
      by_cases e2 : n = m
      · subst e2; rw [if_pos rfl] at hp; cases hp
        simp only [ObjRel, hρ]; exact hobj
      · rw [if_neg e2] at hp; exact (S.obj m p hp).ext (hx M M.le_refl) rfl
    · obtain ⟨q, hq⟩ := hdis m p h1; obtain ⟨q', hq'⟩ := hdis m' p' h2
      exact S.dis m m' q q' b c b' c' hne hq hq' e1 e2
  | some bc =>
    obtain ⟨b, c⟩ := bc
    rw [hρ] at hobj
    obtain ⟨h2, cs, ty, h3, h4, h5, h6, h7, h8, h9⟩ := hobj
    have hf : ∀ o v, M b o = some v → cs[o]? = some v := fun o v e => by
      have := S.mem b o v e; rwa [cell_of_heap h3] at this
    have hm := memWith_le (M := M) hf
    have hnew : ∀ b' o v, memWith M b cs b' o = some v → M b' o = none → B.wr b' := fun b' o v e e' => by
      unfold memWith at e
      by_cases hbb : b' = b
      · rw [hbb]; exact h2.1
      · rw [if_neg hbb, e'] at e; cases e
    refine ⟨memWith M b cs, hm, ?_, hnew⟩
    refine { S with le := Mem.le_trans S.le hm, tm := fun i => (S.tm i).ext (hx _ hm), mem := fun b' o v e => ?_, obj := fun m p hp => ?_, dis := fun m m' p p' b c b' c' hne h1 h2 e1 e2 => ?_, new := fun b' o v e e0 => ?_, ext := S.ext.trans (hx _ hm) }
    · unfold memWith at e
      by_cases hbb : b' = b
      · subst hbb; rw [if_pos rfl] at e; rw [cell_of_heap h3]; exact e
      · rw [if_neg hbb] at e; exact S.mem _ _ _ e
    · rw [hl] at hp
      by_cases e2 : n = m
      · subst e2; rw [if_pos rfl] at hp; cases hp
        simp only [ObjRel, hρ]
        have hs : ∀ e ∈ es, e.cells.length = sz := fun e he => (okE_spec (h6 e he)).1
        have hlen : (flat es).length ≤ cs.size := by
          rw [length_flat es sz hs, h4]; exact Nat.mul_le_mul_right _ h5
        refine ⟨h2, cs, ty, h3, h4, h5, h6, fun i hi => (h7 i hi).mono hm, fun _ i hi => ?_, by simp⟩
        unfold memWith; rw [if_pos rfl, agetD_lt (by omega), Array.getElem?_eq_getElem (by omega)]
      · rw [if_neg e2] at hp
        refine ((S.obj m p hp).mem hm (fun b' c' hρ' hfree o => ?_)).ext ⟨Mem.le_refl _, (hx _ hm).row, (hx _ hm).box⟩ rfl
        have : b' ≠ b := fun e => S.dis m n p _ b' c' b c (Ne.symm e2) hp hn hρ' hρ e
        unfold memWith; rw [if_neg this]; exact hfree o
    · obtain ⟨q, hq⟩ := hdis m p h1; obtain ⟨q', hq'⟩ := hdis m' p' h2
      exact S.dis m m' q q' b c b' c' hne hq hq' e1 e2
    · cases hM : M b' o with
      | none => exact hnew b' o v e hM
      | some v' => exact S.new b' o v' hM e0

theorem memWith_new {b : Nat} {cs : Array Value} (hB : B.wr b) : ∀ b' o v, memWith M b cs b' o = some v → M b' o = none → B.wr b' := fun b' o v e e' => by
  unfold memWith at e
  by_cases hbb : b' = b
  · rw [hbb]; exact hB
  · rw [if_neg hbb, e'] at e; cases e

/-- A variable that nobody will write. -/
theorem Sim.freezeBox (S : Sim B nt M0 w0 M ρ t h a w) {n sz : Nat} {d : DV} (hn : hlook h n = some (.box sz d)) (hp : pureB d = true) :
    ∃ M', M.le M' ∧ Sim B nt M0 w0 M' ρ t ((n, .fbox sz d) :: h) a w ∧ (∀ b o v, M' b o = some v → M b o = none → B.wr b) ∧ Ext M ρ h M' ρ ((n, .fbox sz d) :: h) := by
  have hl : ∀ m, hlook ((n, DObj.fbox sz d) :: h) m = if n = m then some (.fbox sz d) else hlook h m := fun m => hlook_cons _ _ _ _
  obtain ⟨b, c, hρ, h2, cs, ty, h3, h4, h5, h6, h7⟩ := S.obj n _ hn
  have hf : ∀ o v, M b o = some v → cs[o]? = some v := fun o v e => by rw [h7 o] at e; cases e
  have hm := memWith_le (M := M) hf
  have hx : Ext M ρ h (memWith M b cs) ρ ((n, .fbox sz d) :: h) := by
    refine ⟨hm, fun m sz' es' fr' e => ⟨sz', es', fr', ?_, Nat.le_refl _, fun _ => ⟨.inl rfl, rfl⟩⟩, fun m o e hk => ⟨rfl, ?_⟩⟩
    · rw [hl]
      by_cases e2 : n = m
      · subst e2; rw [hn] at e; cases e
      · rw [if_neg e2]; exact e
    · rw [hl]
      by_cases e2 : n = m
      · subst e2; rw [hn] at e; cases e; exact ⟨.fbox sz d, by rw [if_pos rfl], rfl⟩
      · exact ⟨o, by rw [if_neg e2]; exact e, like_refl hk⟩
  have hdis : ∀ m p, hlook ((n, DObj.fbox sz d) :: h) m = some p → ∃ p', hlook h m = some p' := fun m p e => by
    rw [hl] at e
    by_cases e2 : n = m
    · subst e2; exact ⟨_, hn⟩
    · rw [if_neg e2] at e; exact ⟨p, e⟩
  refine ⟨memWith M b cs, hm, ?_, memWith_new h2, hx⟩
  refine { S with le := Mem.le_trans S.le hm, tm := fun i => (S.tm i).ext hx, mem := fun b' o v e => ?_, obj := fun m p hp => ?_, dis := fun m m' p p' b c b' c' hne h1 h2 e1 e2 => ?_, new := fun b' o v e e0 => ?_, ext := S.ext.trans hx }
  · unfold memWith at e
    by_cases hbb : b' = b
    · subst hbb; rw [if_pos rfl] at e; rw [cell_of_heap h3]; exact e
    · rw [if_neg hbb] at e; exact S.mem _ _ _ e
  · rw [hl] at hp
    by_cases e2 : n = m
    · subst e2; rw [if_pos rfl] at hp; cases hp
      obtain ⟨h8, h9⟩ := okE_spec h5
      refine ⟨b, c, hρ, h2, cs, ty, h3, h4, h5, fun i hi => ?_, fun i hi => ?_⟩
      · refine (relV_pure _ _ ?_ (h6 i hi)).mono hm
        exact pureB_cells hp i (by omega)
      · unfold memWith; rw [if_pos rfl, agetD_lt (by omega), Array.getElem?_eq_getElem (by omega)]
    · rw [if_neg e2] at hp
      refine ((S.obj m p hp).mem hm (fun b' c' hρ' hfree o => ?_)).ext ⟨Mem.le_refl _, hx.row, hx.box⟩ rfl
      have : b' ≠ b := fun e => S.dis m n p _ b' c' b c (Ne.symm e2) hp hn hρ' hρ e
      unfold memWith; rw [if_neg this]; exact hfree o
  · obtain ⟨q, hq⟩ := hdis m p h1; obtain ⟨q', hq'⟩ := hdis m' p' h2
    exact S.dis m m' q q' b c b' c' hne hq hq' e1 e2
  · cases hM : M b' o with
    | none => exact memWith_new h2 b' o v e hM
    | some v' => exact S.new b' o v' hM e0

/-- What 'freeze' leaves. -/
theorem Sim.freeze (S : Sim B nt M0 w0 M ρ t h a w) (ns : List Nat) : ∃ M', M.le M' ∧ Sim B nt M0 w0 M' ρ t (freeze ns h) a w ∧ (∀ b o v, M' b o = some v → M b o = none → B.wr b) ∧ Ext M ρ h M' ρ (Sh.freeze ns h) ∧
    (∀ n sz es fr, hlook h n = some (.row sz es fr) → hlook (Sh.freeze ns h) n = some (.row sz es (fr || decide (n ∈ ns)))) := by
  induction ns generalizing h M with
  | nil => exact ⟨M, M.le_refl, S, (fun b o v e e' => by rw [e] at e'; cases e'), Ext.refl M ρ h, (fun n sz es fr e => by simpa [Sh.freeze] using e)⟩
  | cons n r ih =>
    unfold Sh.freeze
    cases hn : hlook h n with
    | none =>
      simp only
      obtain ⟨M', h1, h2, h3, h4, h5⟩ := ih S
      refine ⟨M', h1, h2, h3, h4, fun m sz es fr e => ?_⟩
      have hne : m ≠ n := fun e2 => by subst e2; rw [hn] at e; cases e
      rw [h5 m sz es fr e]; simp [hne]
    | some o =>
      cases o with
      | row sz es fr =>
        simp only
        obtain ⟨M1, g1, g2, g3⟩ := S.freeze1 hn
        obtain ⟨M', h1, h2, h3, h4, h5⟩ := ih g2
        have hl : ∀ m, hlook ((n, DObj.row sz es true) :: h) m = if n = m then some (.row sz es true) else hlook h m := fun m => hlook_cons _ _ _ _
        refine ⟨M', Mem.le_trans g1 h1, h2, fun b o v e e' => ?_, ?_, fun m sz' es' fr' e => ?_⟩
        · cases hM : M1 b o with
          | none => exact h3 b o v e hM
          | some v' => exact g3 b o v' hM e'
        · refine ⟨Mem.le_trans g1 h1, fun m sz' es' fr' e => ?_, fun m o e hk => ?_⟩
          · by_cases e2 : n = m
            · subst e2; rw [hn] at e; cases e
              exact h4.row n sz es true (by rw [hl, if_pos rfl])
            · exact h4.row m sz' es' fr' (by rw [hl, if_neg e2]; exact e)
          · by_cases e2 : n = m
            · subst e2; rw [hn] at e; cases e; cases hk
            · exact h4.box m o (by rw [hl, if_neg e2]; exact e) hk
        · by_cases e2 : n = m
          · subst e2; rw [hn] at e; cases e
            have := h5 n sz es true (by rw [hl, if_pos rfl])
            rw [this]; simp
          · have := h5 m sz' es' fr' (by rw [hl, if_neg e2]; exact e)
            rw [this]; simp [Ne.symm e2]
      | box sz d =>
        simp only
        cases hp : pureB d with
        | false =>
          simp only [cond_false]
          obtain ⟨M', h1, h2, h3, h4, h5⟩ := ih S
          refine ⟨M', h1, h2, h3, h4, fun m sz' es fr e => ?_⟩
          have hne : m ≠ n := fun e2 => by subst e2; rw [hn] at e; cases e
          rw [h5 m sz' es fr e]; simp [hne]
        | true =>
          simp only [cond_true]
          obtain ⟨M1, g1, g2, g3, g4⟩ := S.freezeBox hn hp
          obtain ⟨M', h1, h2, h3, h4, h5⟩ := ih g2
          have hl : ∀ m, hlook ((n, DObj.fbox sz d) :: h) m = if n = m then some (.fbox sz d) else hlook h m := fun m => hlook_cons _ _ _ _
          refine ⟨M', Mem.le_trans g1 h1, h2, fun b o v e e' => ?_, g4.trans h4, fun m sz' es fr e => ?_⟩
          · cases hM : M1 b o with
            | none => exact h3 b o v e hM
            | some v' => exact g3 b o v' hM e'
          · have hne : m ≠ n := fun e2 => by subst e2; rw [hn] at e; cases e
            rw [h5 m sz' es fr (by rw [hl, if_neg (Ne.symm hne)]; exact e)]; simp [hne]
      | fbox _ _ =>
        simp only
        obtain ⟨M', h1, h2, h3, h4, h5⟩ := ih S
        refine ⟨M', h1, h2, h3, h4, fun m sz' es fr e => ?_⟩
        have hne : m ≠ n := fun e2 => by subst e2; rw [hn] at e; cases e
        rw [h5 m sz' es fr e]; simp [hne]
      | dict _ =>
        simp only
        obtain ⟨M', h1, h2, h3, h4, h5⟩ := ih S
        refine ⟨M', h1, h2, h3, h4, fun m sz' es fr e => ?_⟩
        have hne : m ≠ n := fun e2 => by subst e2; rw [hn] at e; cases e
        rw [h5 m sz' es fr e]; simp [hne]
      | siter _ _ =>
        simp only
        obtain ⟨M', h1, h2, h3, h4, h5⟩ := ih S
        refine ⟨M', h1, h2, h3, h4, fun m sz' es fr e => ?_⟩
        have hne : m ≠ n := fun e2 => by subst e2; rw [hn] at e; cases e
        rw [h5 m sz' es fr e]; simp [hne]

/-- A window of a frozen row reads as a list. -/
theorem own_list (S : Sim B nt M0 w0 M ρ t h a w) {n off len tot sz : Nat} {es : List DV} {v : Value} (hn : hlook h n = some (.row sz es true)) (hr : RelV M ρ h (.own n off len tot) v) (ht : tot = es.length) :
    RelP M (.list (window es off len)) v := by
  obtain ⟨h1, h2⟩ := hr.inv_own hn
  obtain ⟨h3, h4⟩ := h2 ht
  have hobj := S.obj n _ hn
  simp only [ObjRel] at hobj
  cases hρ : ρ n with
  | none =>
    rw [hρ] at hobj h4
    subst hobj
    obtain ⟨a', rfl⟩ := h4
    have e1 : len = 0 := by simp at ht; omega
    subst e1
    have : window ([] : List DV) off 0 = [] := by simp [window]
    rw [this]
    exact .list [] a' 0 0 0 0 (fun _ => Go.undef) (Nat.le_refl _) (.inl rfl) (by simp) (by simp [flat]) (by simp [flat])
  | some bc =>
    obtain ⟨b, c⟩ := bc
    rw [hρ] at hobj h4
    obtain ⟨g2, cs, ty, g3, g4, g5, g6, g7, g8, g9⟩ := hobj
    obtain ⟨a', rfl, ha⟩ := h4
    have hs : ∀ e ∈ es, e.cells.length = sz := fun e he => (okE_spec (g6 e he)).1
    refine window_list (b := b) (o := 0) (g := fun i => cs.getD i Go.undef) hs (fun i hi => by rw [Nat.zero_add]; exact g8 trivial i hi) g7 off len (c - off) (by omega) (by omega) a' ?_
    rcases ha with ha | ha
    · right; rw [Nat.zero_add]; exact ha
    · left; exact ha.1

/-- A pointer to a variable that nobody writes. -/
theorem fptr_ip (S : Sim B nt M0 w0 M ρ t h a w) {n sz : Nat} {d : DV} {v : Value} (hn : hlook h n = some (.fbox sz d)) (hr : RelV M ρ h (.bptr n 0) v) : RelP M (.ip d) v := by
  obtain ⟨sz', b, c, d', rfl, _, hρ⟩ := hr.inv_bptr
  obtain ⟨b', c', q1, q2, cs, ty, q3, q4, q5, q6, q7⟩ := S.obj n _ hn
  rw [hρ] at q1; cases q1
  obtain ⟨h8, h9⟩ := okE_spec q5
  exact .ip d b 0 (fun i => cs.getD i Go.undef) (fun i hi => by rw [Nat.zero_add]; exact q7 i (by omega)) (fun i hi => q6 i (by omega))

def holds : Option Prop → Prop
  | none => True
  | some p => p
theorem holds_pand {p q : Option Prop} (h : holds (pand p q)) : holds p ∧ holds q := by
  cases p <;> cases q <;> simp_all [pand, holds]
theorem pre_holds {p : Option Prop} {N : Prop} (h : pre p N) : holds p ∧ N := by
  cases p <;> simp_all [pre, holds]

theorem pur_bptr {lk : Nat → Option DObj} {n off : Nat} {p : Option Prop} {d' : DV} (he : pur lk (.bptr n off) = some (p, d')) : ∃ d0, d' = .ip d0 := by
  simp only [pur] at he
  have key : ∀ d0 : DV, (bif Nat.beq off 0 && pureB d0 then some (none, DV.ip d0) else none) = some (p, d') → ∃ d0, d' = .ip d0 := fun d0 he => by
    cases hc : Nat.beq off 0 && pureB d0 with
    | false => rw [hc] at he; cases he
    | true => rw [hc] at he; simp only [cond_true, Option.some.injEq, Prod.mk.injEq] at he; exact ⟨d0, he.2.symm⟩
  split at he
  · exact key _ he
  · exact key _ he
  · cases he

mutual
/-- A value that is read out of the heap. -/
theorem pur_rel (S : Sim B nt M0 w0 M ρ t h a w) (lk : Nat → Option DObj) (d : DV) (v : Value) (p : Option Prop) (d' : DV) (he : pur lk d = some (p, d')) (hp : holds p) (hr : RelV M ρ h d v)
    (hfr : ∀ n ∈ names d, ∀ sz es fr, lk n = some (.row sz es fr) → hlook h n = some (.row sz es true))
    (hfb : ∀ n ∈ names d, ∀ sz d0, lk n = some (.box sz d0) ∨ lk n = some (.fbox sz d0) → pureB d0 = true → hlook h n = some (.fbox sz d0)) : RelP M d' v := by
  cases d with
  | own n off len tot =>
    simp only [pur] at he
    split at he
    · rename_i sz es fr hl
      simp only [Option.some.injEq, Prod.mk.injEq] at he
      obtain ⟨rfl, rfl⟩ := he
      exact own_list S (hfr n (by simp [names]) sz es fr hl) hr hp
    · cases he
  | ptr n i off tot => simp [pur] at he
  | bptr n off =>
    simp only [pur] at he
    have key : ∀ sz d0, lk n = some (.box sz d0) ∨ lk n = some (.fbox sz d0) → (bif Nat.beq off 0 && pureB d0 then some (none, DV.ip d0) else none) = some (p, d') → RelP M d' v := fun sz d0 hl he => by
      cases hc : Nat.beq off 0 && pureB d0 with
      | false => rw [hc] at he; cases he
      | true =>
        rw [hc] at he; simp only [cond_true, Option.some.injEq, Prod.mk.injEq] at he
        obtain ⟨rfl, rfl⟩ := he
        simp only [Bool.and_eq_true] at hc
        have := Nat.eq_of_beq_eq_true hc.1; subst this
        exact fptr_ip S (hfb n (by simp [names]) sz d0 hl hc.2) hr
    split at he
    · rename_i sz d0 hl; exact key sz d0 (.inl hl) he
    · rename_i sz d0 hl; exact key sz d0 (.inr hl) he
    · cases he
  | dict n => simp [pur] at he
  | full l =>
    simp only [pur, Option.some.injEq, Prod.mk.injEq] at he
    obtain ⟨rfl, rfl⟩ := he
    have := hr.inv_full
    cases this with
    | full _ a' sz b o' g ha hsz hM hr' => exact .list l a' _ sz b o' g (Nat.le_refl _) ha hsz hM hr'
  | agg cs =>
    simp only [pur] at he
    split at he
    · rename_i q ds hds
      simp only [Option.some.injEq, Prod.mk.injEq] at he
      obtain ⟨rfl, rfl⟩ := he
      obtain ⟨vs, rfl, hl, hr'⟩ := hr.inv_agg
      obtain ⟨e1, e2⟩ := purs_rel S lk cs (fun i => vs.getD i Go.undef) q ds hds hp hr' hfr hfb
      exact .agg ds vs (by omega) (fun i hi => e2 i (by omega))
    · cases he
  | tuple cs =>
    simp only [pur] at he
    split at he
    · rename_i q ds hds
      simp only [Option.some.injEq, Prod.mk.injEq] at he
      obtain ⟨rfl, rfl⟩ := he
      obtain ⟨vs, rfl, hl, hr'⟩ := hr.inv_tuple
      obtain ⟨e1, e2⟩ := purs_rel S lk cs (fun i => vs.getD i Go.undef) q ds hds hp hr' hfr hfb
      exact .tuple ds vs (by omega) (fun i hi => e2 i (by omega))
    · cases he
  | func f cs =>
    simp only [pur] at he
    split at he
    · rename_i q ds hds
      simp only [Option.some.injEq, Prod.mk.injEq] at he
      obtain ⟨rfl, rfl⟩ := he
      obtain ⟨vs, rfl, hl, hr'⟩ := hr.inv_func
      obtain ⟨e1, e2⟩ := purs_rel S lk cs (fun i => vs.getD i Go.undef) q ds hds hp hr' hfr hfb
      exact .func f ds vs (by omega) (fun i hi => e2 i (by omega))
    · cases he
  | undef => simp only [pur, Option.some.injEq, Prod.mk.injEq] at he; obtain ⟨rfl, rfl⟩ := he; exact .undef _
  | bool b => simp only [pur, Option.some.injEq, Prod.mk.injEq] at he; obtain ⟨rfl, rfl⟩ := he; rw [hr.inv_bool]; exact .bool _
  | int k n => simp only [pur, Option.some.injEq, Prod.mk.injEq] at he; obtain ⟨rfl, rfl⟩ := he; rw [hr.inv_int]; exact .int _ _
  | str s => simp only [pur, Option.some.injEq, Prod.mk.injEq] at he; obtain ⟨rfl, rfl⟩ := he; rw [hr.inv_str]; exact .str _
  | list l => simp only [pur, Option.some.injEq, Prod.mk.injEq] at he; obtain ⟨rfl, rfl⟩ := he; exact hr.inv_list
  | ip d => simp only [pur, Option.some.injEq, Prod.mk.injEq] at he; obtain ⟨rfl, rfl⟩ := he; exact hr.inv_ip
  | nilptr => simp only [pur, Option.some.injEq, Prod.mk.injEq] at he; obtain ⟨rfl, rfl⟩ := he; cases hr with | pure hp => exact hp
  | nilfunc => simp only [pur, Option.some.injEq, Prod.mk.injEq] at he; obtain ⟨rfl, rfl⟩ := he; cases hr with | pure hp => exact hp
theorem purs_rel (S : Sim B nt M0 w0 M ρ t h a w) (lk : Nat → Option DObj) (ds : List DV) (vs : Nat → Value) (p : Option Prop) (ds' : List DV) (he : purs lk ds = some (p, ds')) (hp : holds p)
    (hr : ∀ i, i < ds.length → RelV M ρ h (ds.getD i .undef) (vs i)) (hfr : ∀ n ∈ namess ds, ∀ sz es fr, lk n = some (.row sz es fr) → hlook h n = some (.row sz es true))
    (hfb : ∀ n ∈ namess ds, ∀ sz d0, lk n = some (.box sz d0) ∨ lk n = some (.fbox sz d0) → pureB d0 = true → hlook h n = some (.fbox sz d0)) :
    ds'.length = ds.length ∧ ∀ i, i < ds.length → RelP M (ds'.getD i .undef) (vs i) := by
  cases ds with
  | nil =>
    simp only [purs, Option.some.injEq, Prod.mk.injEq] at he
    obtain ⟨rfl, rfl⟩ := he
    exact ⟨rfl, fun i hi => by simp at hi⟩
  | cons d r =>
    simp only [purs] at he
    split at he
    · rename_i q d' q' r' h1 h2
      simp only [Option.some.injEq, Prod.mk.injEq] at he
      obtain ⟨rfl, rfl⟩ := he
      obtain ⟨p1, p2⟩ := holds_pand hp
      have e1 := pur_rel S lk d (vs 0) q d' h1 p1 (by simpa using hr 0 (by simp)) (fun n hn => hfr n (by simp [namess, hn])) (fun n hn => hfb n (by simp [namess, hn]))
      obtain ⟨e2, e3⟩ := purs_rel S lk r (fun i => vs (i + 1)) q' r' h2 p2 (fun i hi => by simpa using hr (i + 1) (by simpa using hi)) (fun n hn => hfr n (by simp [namess, hn])) (fun n hn => hfb n (by simp [namess, hn]))
      refine ⟨by simp [e2], fun i hi => ?_⟩
      cases i with
      | zero => simpa using e1
      | succ i => simpa using e3 i (by simpa using hi)
    · cases he
end
end
end Sh
