/- The relation behind new blocks and new objects. -/
import Derived.Test.YtcdhbdhonpddeaaDoorShOps5
set_option linter.unusedVariables false
set_option linter.unusedSectionVars false
namespace Sh
open Go

def memWith (M : Mem) (b : Nat) (cs : Array Value) : Mem := fun b' o => if b' = b then cs[o]? else M b' o
def locWith (ρ : Locs) (n b c : Nat) : Locs := fun m => if m = n then some (b, c) else ρ m

section
variable {B : Base} {nt : Nat} {M0 : Mem} {w0 : World} {M : Mem} {ρ : Locs} {t : Tmps} {h : Heap} {a : Act} {w : World}

/-- The world has grown; what was there is as it was. -/
theorem Sim.world (S : Sim B nt M0 w0 M ρ t h a w) {w' : World} (hk : ∀ k, k < w.heap.size → w'.heap[k]? = w.heap[k]?) (hb : B.touch w0 w') : Sim B nt M0 w0 M ρ t h a w' := by
  have hs : ∀ {k : Nat} {o : Obj}, w.heap[k]? = some o → w'.heap[k]? = some o := fun {k o} e => by
    rw [hk k (Array.getElem?_eq_some_iff.1 e).1]; exact e
  refine { S with mem := fun b o v e => ?_, obj := fun n o hn => ?_, below := hb, marks := ⟨fun d hd => ?_, S.marks.2⟩ }
  · have h1 := S.mem b o v e
    have h2 : b < w.heap.size := World.block_lt_of_cell? (a := ⟨b, o, none⟩) _ h1
    rw [World.cell?_of_block (w := w) (w' := w') (a := ⟨b, o, none⟩) (hk b h2)]; exact h1
  · have h1 := S.obj n o hn
    cases o with
    | row sz es fr =>
      simp only [ObjRel] at h1 ⊢
      cases hρ : ρ n with
      | none => rw [hρ] at h1; exact h1
      | some bc =>
        obtain ⟨b, c⟩ := bc
        rw [hρ] at h1
        obtain ⟨h2, cs, ty, h3, h4⟩ := h1
        exact ⟨h2, cs, ty, hs h3, h4⟩
    | box sz d =>
      obtain ⟨b, c, h1, h2, cs, ty, h3, h4⟩ := h1
      exact ⟨b, c, h1, h2, cs, ty, hs h3, h4⟩
    | fbox sz d =>
      obtain ⟨b, c, h1, h2, cs, ty, h3, h4⟩ := h1
      exact ⟨b, c, h1, h2, cs, ty, hs h3, h4⟩
    | dict es =>
      obtain ⟨b, c, h1, h2, ⟨E, h3, h4⟩, h5⟩ := h1
      exact ⟨b, c, h1, h2, ⟨E, hs h3, h4⟩, h5⟩
    | siter s pos =>
      obtain ⟨b, c, h1, h2, h3, h5⟩ := h1
      exact ⟨b, c, h1, h2, hs h3, h5⟩
  · obtain ⟨D, e1, e2, e3⟩ := S.marks.1 d hd
    exact ⟨D, e1, e2, hs e3⟩

theorem Sim.free_mem (S : Sim B nt M0 w0 M ρ t h a w) {b : Nat} (hb : w.heap.size ≤ b) (o : Nat) : M b o = none := by
  cases hm : M b o with
  | none => rfl
  | some v =>
    have h1 := S.mem b o v hm
    have h2 : b < w.heap.size := World.block_lt_of_cell? (a := ⟨b, o, none⟩) _ h1
    omega

theorem Sim.loc_lt (S : Sim B nt M0 w0 M ρ t h a w) {n b c : Nat} {o : DObj} (hn : hlook h n = some o) (hρ : ρ n = some (b, c)) : b < w.heap.size := by
  have h1 := S.obj n o hn
  cases o with
  | row sz es fr =>
    simp only [ObjRel, hρ] at h1
    obtain ⟨h2, cs, ty, h3, h4⟩ := h1
    exact (Array.getElem?_eq_some_iff.1 h3).1
  | box sz d =>
    obtain ⟨b', c', h1, h2, cs, ty, h3, h4⟩ := h1
    rw [hρ] at h1; obtain ⟨rfl, rfl⟩ : b = b' ∧ c = c' := by simpa using h1
    exact (Array.getElem?_eq_some_iff.1 h3).1
  | fbox sz d =>
    obtain ⟨b', c', h1, h2, cs, ty, h3, h4⟩ := h1
    rw [hρ] at h1; obtain ⟨rfl, rfl⟩ : b = b' ∧ c = c' := by simpa using h1
    exact (Array.getElem?_eq_some_iff.1 h3).1
  | dict es =>
    obtain ⟨b', c', h1, h2, ⟨E, h3, h4⟩, h5⟩ := h1
    rw [hρ] at h1; obtain ⟨rfl, rfl⟩ : b = b' ∧ c = c' := by simpa using h1
    exact (Array.getElem?_eq_some_iff.1 h3).1
  | siter s pos =>
    obtain ⟨b', c', h1, h2, h3, h5⟩ := h1
    rw [hρ] at h1; obtain ⟨rfl, rfl⟩ : b = b' ∧ c = c' := by simpa using h1
    exact (Array.getElem?_eq_some_iff.1 h3).1

theorem memWith_le {b : Nat} {cs : Array Value} (hf : ∀ o v, M b o = some v → cs[o]? = some v) : M.le (memWith M b cs) := fun b' o v e => by
  unfold memWith
  by_cases hb : b' = b
  · subst hb; rw [if_pos rfl]; exact hf o v e
  · rw [if_neg hb]; exact e

/-- An object keeps what it says in a greater memory, if its block is not the one that is added. -/
theorem ObjRel.mem {M' : Mem} {n : Nat} {o : DObj} (hm : M.le M') (hfree : ∀ b c, ρ n = some (b, c) → (∀ o, M b o = none) → ∀ o, M' b o = none) (ho : ObjRel B M ρ h w n o) : ObjRel B M' ρ h w n o := by
  cases o with
  | row sz es fr =>
    simp only [ObjRel] at ho ⊢
    cases hρ : ρ n with
    | none => rw [hρ] at ho; exact ho
    | some bc =>
      obtain ⟨b, c⟩ := bc
      rw [hρ] at ho
      obtain ⟨h2, cs, ty, h3, h4, h5, h6, h7, h8, h9⟩ := ho
      exact ⟨h2, cs, ty, h3, h4, h5, h6, fun i hi => (h7 i hi).mono hm, fun e i hi => hm _ _ _ (h8 e i hi), fun e => hfree b c hρ (h9 e)⟩
  | box sz d =>
    obtain ⟨b, c, h1, h2, cs, ty, h3, h4, h5, h6, h7⟩ := ho
    exact ⟨b, c, h1, h2, cs, ty, h3, h4, h5, fun i hi => (h6 i hi).ext (Ext.of_mem ρ h hm), hfree b c h1 h7⟩
  | fbox sz d =>
    obtain ⟨b, c, h1, h2, cs, ty, h3, h4, h5, h6, h7⟩ := ho
    exact ⟨b, c, h1, h2, cs, ty, h3, h4, h5, fun i hi => (h6 i hi).mono hm, fun i hi => hm _ _ _ (h7 i hi)⟩
  | dict es =>
    obtain ⟨b, c, h1, h2, ⟨E, h3, h4, h5⟩, h6⟩ := ho
    exact ⟨b, c, h1, h2, ⟨E, h3, h4, fun i e hi => by obtain ⟨q1, q2, q3⟩ := h5 i e hi; exact ⟨q1, q2.mono hm, q3.mono hm⟩⟩, hfree b c h1 h6⟩
  | siter s pos =>
    obtain ⟨b, c, h1, h2, h3, h6⟩ := ho
    exact ⟨b, c, h1, h2, h3, hfree b c h1 h6⟩

/-- A block of the call's own that no object names becomes memory that nobody writes. -/
theorem Sim.addMem (S : Sim B nt M0 w0 M ρ t h a w) {b : Nat} {cs : Array Value} {ty : TypeId} {fz : Nat × Nat} (hb : w.heap[b]? = some (.cells cs ty fz)) (hB : B.wr b) (hf : ∀ o v, M b o = some v → cs[o]? = some v)
    (hn : ∀ n o c, hlook h n = some o → ρ n ≠ some (b, c)) : Sim B nt M0 w0 (memWith M b cs) ρ t h a w := by
  have hm := memWith_le (M := M) hf
  refine { S with le := Mem.le_trans S.le hm, tm := fun i => (S.tm i).ext (Ext.of_mem ρ h hm), mem := fun b' o v e => ?_, obj := fun n o ho => (S.obj n o ho).mem hm ?_, new := fun b' o v e e0 => ?_, ext := S.ext.trans (Ext.of_mem ρ h hm) }
  · unfold memWith at e
    by_cases hbb : b' = b
    · subst hbb; rw [if_pos rfl] at e; rw [cell_of_heap hb]; exact e
    · rw [if_neg hbb] at e; exact S.mem _ _ _ e
  · intro b' c hρ hfree o
    have : b' ≠ b := fun e => hn n _ c ho (by rw [hρ, e])
    unfold memWith; rw [if_neg this]; exact hfree o
  · unfold memWith at e
    by_cases hbb : b' = b
    · rw [hbb]; exact hB
    · rw [if_neg hbb] at e; exact S.new _ _ _ e e0

theorem ext_addObj (M : Mem) (ρ : Locs) (h : Heap) (n b c : Nat) (o : DObj) (hn : hlook h n = none) : Ext M ρ h M (locWith ρ n b c) ((n, o) :: h) := by
  have hne : ∀ m p, hlook h m = some p → m ≠ n := fun m p e1 e2 => by subst e2; rw [hn] at e1; cases e1
  refine ⟨M.le_refl, fun m sz es fr hl => ⟨sz, es, fr, ?_, Nat.le_refl _, fun _ => ⟨.inl rfl, ?_⟩⟩, fun m o hl hk => ⟨?_, o, ?_, like_refl hk⟩⟩
  · rw [hlook_cons, if_neg (Ne.symm (hne m _ hl))]; exact hl
  · unfold locWith; rw [if_neg (hne m _ hl)]
  · unfold locWith; rw [if_neg (hne m _ hl)]
  · rw [hlook_cons, if_neg (Ne.symm (hne m _ hl))]; exact hl

/-- An object is as it was behind a step that leaves its place and its cells. -/
theorem ObjRel.ext {ρ' : Locs} {h' : Heap} {n : Nat} {o : DObj} (hx : Ext M ρ h M ρ' h') (hρ : ρ' n = ρ n) (ho : ObjRel B M ρ h w n o) : ObjRel B M ρ' h' w n o := by
  cases o with
  | row sz es fr => simp only [ObjRel] at ho ⊢; rw [hρ]; exact ho
  | box sz d =>
    obtain ⟨b, c, h1, h2, cs, ty, h3, h4, h5, h6, h7⟩ := ho
    exact ⟨b, c, by rw [hρ]; exact h1, h2, cs, ty, h3, h4, h5, fun i hi => (h6 i hi).ext hx, h7⟩
  | fbox sz d =>
    obtain ⟨b, c, h1, h2⟩ := ho
    exact ⟨b, c, by rw [hρ]; exact h1, h2⟩
  | dict es =>
    obtain ⟨b, c, h1, h2⟩ := ho
    exact ⟨b, c, by rw [hρ]; exact h1, h2⟩
  | siter s pos =>
    obtain ⟨b, c, h1, h2⟩ := ho
    exact ⟨b, c, by rw [hρ]; exact h1, h2⟩

/-- A block of the call's own that no object names becomes an object. -/
theorem Sim.addObj (S : Sim B nt M0 w0 M ρ t h a w) {n b c : Nat} {o : DObj} (hn : hlook h n = none) (hfresh : ∀ m p c', hlook h m = some p → ρ m ≠ some (b, c'))
    (ho : ObjRel B M (locWith ρ n b c) ((n, o) :: h) w n o) : Sim B nt M0 w0 M (locWith ρ n b c) t ((n, o) :: h) a w := by
  have hx := ext_addObj M ρ h n b c o hn
  have hne : ∀ m p, hlook h m = some p → m ≠ n := fun m p e1 e2 => by subst e2; rw [hn] at e1; cases e1
  have hl : ∀ m, m ≠ n → locWith ρ n b c m = ρ m := fun m hm => by unfold locWith; rw [if_neg hm]
  have hln : locWith ρ n b c n = some (b, c) := by unfold locWith; rw [if_pos rfl]
  refine { S with tm := fun i => (S.tm i).ext hx, obj := fun m p hp => ?_, dis := fun m m' p p' b1 c1 b2 c2 hmm h1 h2 e1 e2 => ?_, ext := S.ext.trans hx }
  · rw [hlook_cons] at hp
    by_cases e : n = m
    · subst e; rw [if_pos rfl] at hp; cases hp; exact ho
    · rw [if_neg e] at hp
      exact (S.obj m p hp).ext hx (hl m (Ne.symm e))
  · rw [hlook_cons] at h1 h2
    by_cases e : n = m
    · subst e
      rw [if_neg hmm] at h2
      rw [hln] at e1
      rw [hl m' (Ne.symm hmm)] at e2
      obtain ⟨rfl, rfl⟩ : b = b1 ∧ c = c1 := by simpa using e1
      intro e3; subst e3; exact hfresh m' p' c2 h2 e2
    · rw [if_neg e] at h1
      rw [hl m (Ne.symm e)] at e1
      by_cases e' : n = m'
      · subst e'
        rw [hln] at e2
        obtain ⟨rfl, rfl⟩ : b = b2 ∧ c = c2 := by simpa using e2
        intro e3; subst e3; exact hfresh m p c1 h1 e1
      · rw [if_neg e'] at h2
        rw [hl m' (Ne.symm e')] at e2
        exact S.dis m m' p p' b1 c1 b2 c2 hmm h1 h2 e1 e2

theorem alloc_old (w : World) (o : Obj) (k : Nat) (hk : k < w.heap.size) : (w.alloc o).heap[k]? = w.heap[k]? := RowKit.Below.heap_alloc w o k hk
theorem alloc_new (w : World) (o : Obj) : (w.alloc o).heap[w.heap.size]? = some o := by show (w.heap.push o)[w.heap.size]? = some o; simp

/-- A new block. -/
theorem Sim.alloc (S : Sim B nt M0 w0 M ρ t h a w) (o : Obj) : Sim B nt M0 w0 M ρ t h a (w.alloc o) :=
  S.world (fun k hk => alloc_old w o k hk) (S.below.alloc (by rw [S.hB]; exact S.below.size) o)
theorem Sim.drew (S : Sim B nt M0 w0 M ρ t h a w) : Sim B nt M0 w0 M ρ t h a w.drew := S.world (fun _ _ => rfl) S.below.drew
theorem Sim.Bsize (S : Sim B nt M0 w0 M ρ t h a w) : B.lo ≤ w.heap.size := by rw [S.hB]; exact S.below.size
end
end Sh
