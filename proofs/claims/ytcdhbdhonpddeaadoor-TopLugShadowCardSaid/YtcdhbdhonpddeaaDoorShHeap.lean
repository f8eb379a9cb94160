/- A call that is given objects: their names, before it and behind it. -/
import Derived.Test.YtcdhbdhonpddeaaDoorShCong
set_option linter.unusedVariables false
set_option linter.unusedSectionVars false
set_option linter.unusedSimpArgs false
namespace Sh
open Go

theorem distinct_nodup : ∀ {l : List Nat}, distinct l = true → l.Nodup
  | [], _ => List.nodup_nil
  | n :: r, h => by
    simp only [distinct, Bool.and_eq_true, Bool.not_eq_true'] at h
    refine List.nodup_cons.2 ⟨fun hm => ?_, distinct_nodup h.2⟩
    rw [any_beq.2 hm] at h; exact absurd h.1 (by simp)

theorem nodup_of_map {f : Nat → Nat} : ∀ {l : List Nat}, (l.map f).Nodup → l.Nodup
  | [], _ => List.nodup_nil
  | a :: r, h => by
    simp only [List.map_cons, List.nodup_cons] at h
    exact List.nodup_cons.2 ⟨fun hm => h.1 (List.mem_map.2 ⟨a, hm, rfl⟩), nodup_of_map h.2⟩

theorem nodup_rev {l : List Nat} (h : l.Nodup) : l.reverse.Nodup := (List.reverse_perm l).nodup_iff.2 h

theorem hlook_of_mem : ∀ {h : Heap}, (h.map (·.1)).Nodup → ∀ {n : Nat} {o : DObj}, (n, o) ∈ h → hlook h n = some o
  | [], _, _, _, hm => by simp at hm
  | (k, p) :: r, hd, n, o, hm => by
    rw [hlook_cons]
    simp only [List.map_cons, List.nodup_cons] at hd
    rcases List.mem_cons.1 hm with e | hm
    · cases e; rw [if_pos rfl]
    · have : k ≠ n := fun e => hd.1 (by rw [e]; exact List.mem_map.2 ⟨(n, o), hm, rfl⟩)
      rw [if_neg this]; exact hlook_of_mem hd.2 hm

theorem mem_of_hlook : ∀ {h : Heap} {n : Nat} {o : DObj}, hlook h n = some o → (n, o) ∈ h
  | [], n, o, e => by simp [hlook] at e
  | (k, p) :: r, n, o, e => by
    rw [hlook_cons] at e
    by_cases hk : k = n
    · subst hk; rw [if_pos rfl] at e; cases e; simp
    · rw [if_neg hk] at e; exact List.mem_cons_of_mem _ (mem_of_hlook e)

theorem hereH_mem {lk : Nat → Option DObj} {π : List (Nat × Nat)} : ∀ {h : Heap}, hereH lk π h → ∀ {n : Nat} {o : DObj}, (n, o) ∈ h → lk (app π n) = some (renO π o)
  | [], _, _, _, hm => by simp at hm
  | (k, p) :: r, hh, n, o, hm => by
    rcases List.mem_cons.1 hm with e | hm
    · cases e; exact hh.1
    · exact hereH_mem hh.2 hm

theorem freeH_mem {lk : Nat → Option DObj} {π : List (Nat × Nat)} {h0 : Heap} : ∀ {h : Heap}, freeH lk π h0 h → ∀ {n : Nat} {o : DObj}, (n, o) ∈ h → n ∈ h0.map (·.1) ∨ lk (app π n) = none
  | [], _, _, _, hm => by simp at hm
  | (k, p) :: r, hh, n, o, hm => by
    rcases List.mem_cons.1 hm with e | hm
    · cases e; exact hh.1.imp any_beq.1 id
    · exact freeH_mem hh.2 hm

theorem rens_length (π : List (Nat × Nat)) : ∀ l : List DV, (rens π l).length = l.length
  | [] => rfl
  | d :: r => by simp [rens, rens_length π r]

theorem rens_getD (π : List (Nat × Nat)) : ∀ (l : List DV) (i : Nat), i < l.length → (rens π l).getD i .undef = ren π (l.getD i .undef)
  | [], i, hi => by simp at hi
  | d :: r, 0, _ => rfl
  | d :: r, i + 1, hi => by simpa [rens] using rens_getD π r i (by simpa using hi)

theorem ren_cells_length (π : List (Nat × Nat)) (d : DV) : (ren π d).cells.length = d.cells.length := by
  cases d <;> simp [ren, DV.cells, rens_length]

theorem namesIns_getD {l : List Nat} : ∀ {cs : List DV}, namesIns l cs = true → ∀ i, i < cs.length → namesIn l (cs.getD i .undef) = true
  | [], _, i, hi => by simp at hi
  | d :: r, h, 0, _ => by simp only [namesIns, Bool.and_eq_true] at h; exact h.1
  | d :: r, h, i + 1, hi => by
    simp only [namesIns, Bool.and_eq_true] at h
    simpa using namesIns_getD h.2 i (by simpa using hi)

theorem ren_cells {π : List (Nat × Nat)} {l : List Nat} (d : DV) (i : Nat) (hi : i < d.cells.length) (hn : namesIn l d = true) : (ren π d).cells.getD i .undef = ren π (d.cells.getD i .undef) ∧ namesIn l (d.cells.getD i .undef) = true := by
  cases d with
  | agg cs =>
    have hn' : namesIns l cs = true := by simpa [namesIn] using hn
    exact ⟨rens_getD π cs i hi, namesIns_getD hn' i hi⟩
  | _ =>
    have hi0 : i = 0 := by simp [DV.cells] at hi; omega
    subst hi0
    exact ⟨rfl, hn⟩

theorem cellB_ren (π : List (Nat × Nat)) (d : DV) : cellB (ren π d) = cellB d := by cases d <;> rfl
theorem cellsB_rens (π : List (Nat × Nat)) : ∀ cs : List DV, cellsB (rens π cs) = cellsB cs
  | [] => rfl
  | d :: r => by simp [rens, cellsB, cellB_ren, cellsB_rens π r]
theorem cells_ren (π : List (Nat × Nat)) (d : DV) : (ren π d).cells = rens π d.cells := by cases d <;> simp [ren, DV.cells, rens]
theorem okE_ren (π : List (Nat × Nat)) (sz : Nat) (d : DV) : okE sz (ren π d) = okE sz d := by
  unfold okE; rw [cells_ren, cellsB_rens, rens_length]
theorem okE_unren {π : List (Nat × Nat)} {sz : Nat} {d : DV} (h : okE sz (ren π d) = true) : okE sz d = true := by rw [← okE_ren π]; exact h

/-- The places of the objects under the contract's own names. -/
def unLoc (π : List (Nat × Nat)) (h : Heap) (ρ : Locs) : Locs := fun n => if n ∈ h.map (·.1) then ρ (app π n) else none

section
variable {P : Program} {G : Nat → Option DV} {B : Base} {nt : Nat} {M0 : Mem} {w0 : World} {M : Mem} {ρ : Locs} {t : Tmps} {H : Heap} {a : Act} {w : World} {π : List (Nat × Nat)} {ds : List DV} {hs hs' : Heap}

theorem inst_spec (hi : instOk π ds hs hs' = true) : (hs.map (·.1)).Nodup ∧ (hs'.map fun x => app π x.1).Nodup ∧ (∀ n ∈ hs.map (·.1), n ∈ hs'.map (·.1)) ∧ namesIns (hs.map (·.1)) ds = true ∧ namesInH (hs.map (·.1)) hs = true := by
  simp only [instOk, Bool.and_eq_true] at hi
  obtain ⟨⟨⟨⟨h1, h2⟩, h3⟩, h4⟩, h5⟩ := hi
  exact ⟨distinct_nodup h1, distinct_nodup h2, fun n hn => any_beq.1 (List.all_eq_true.1 h3 n hn), h4, h5⟩

theorem namesInH_mem {l : List Nat} : ∀ {h : Heap}, namesInH l h = true → ∀ {n : Nat} {o : DObj}, (n, o) ∈ h → namesInO l o = true
  | [], _, _, _, hm => by simp at hm
  | (k, p) :: r, hh, n, o, hm => by
    simp only [namesInH, Bool.and_eq_true] at hh
    rcases List.mem_cons.1 hm with e | hm
    · cases e; exact hh.1
    · exact namesInH_mem hh.2 hm

theorem here_look (hi : instOk π ds hs hs' = true) (hh : hereH (hlook H) π hs) {n : Nat} (hn : n ∈ hs.map (·.1)) : ∃ o, hlook hs n = some o ∧ hlook H (app π n) = some (renO π o) := by
  obtain ⟨h1, _⟩ := inst_spec hi
  obtain ⟨x, hx, e⟩ := List.mem_map.1 hn
  obtain ⟨k, o⟩ := x
  simp only at e; subst e
  exact ⟨o, hlook_of_mem h1 hx, hereH_mem hh hx⟩

mutual
/-- A value under the caller's names reads as it did under the contract's. -/
theorem unren (hi : instOk π ds hs hs' = true) (hh : hereH (hlook H) π hs) (d : DV) (v : Value) (hn : namesIn (hs.map (·.1)) d = true) (hr : RelV M ρ H (ren π d) v) : RelV M (unLoc π hs ρ) hs d v := by
  cases d with
  | agg cs =>
    obtain ⟨vs, rfl, hl, h1⟩ := RelV.inv_agg (by simpa [ren] using hr)
    rw [rens_length] at hl h1
    exact .agg cs vs hl (unrens hi hh cs (fun i => vs.getD i Go.undef) (by simpa [namesIn] using hn) (fun i hlt => by rw [← rens_getD π cs i hlt]; exact h1 i hlt))
  | tuple cs =>
    obtain ⟨vs, rfl, hl, h1⟩ := RelV.inv_tuple (by simpa [ren] using hr)
    rw [rens_length] at hl h1
    exact .tuple cs vs hl (unrens hi hh cs (fun i => vs.getD i Go.undef) (by simpa [namesIn] using hn) (fun i hlt => by rw [← rens_getD π cs i hlt]; exact h1 i hlt))
  | func f cs =>
    obtain ⟨vs, rfl, hl, h1⟩ := RelV.inv_func (by simpa [ren] using hr)
    rw [rens_length] at hl h1
    exact .func f cs vs hl (unrens hi hh cs (fun i => vs.getD i Go.undef) (by simpa [namesIn] using hn) (fun i hlt => by rw [← rens_getD π cs i hlt]; exact h1 i hlt))
  | own n off len tot =>
    have hm := any_beq.1 (show (hs.map (·.1)).any (Nat.beq n) = true from hn)
    obtain ⟨o, e1, e2⟩ := here_look hi hh hm
    simp only [ren] at hr
    cases hr with
    | pure hp => cases hp
    | own _ _ _ _ sz es fr _ hl ht hs0 hv =>
      rw [e2] at hl
      have : o = .row sz es fr := by cases o <;> simp_all [renO]
      subst this
      exact .own n off len tot sz es fr v e1 ht hs0 (by unfold unLoc; rw [if_pos hm]; exact hv)
  | ptr n i off tot =>
    have hm := any_beq.1 (show (hs.map (·.1)).any (Nat.beq n) = true from hn)
    obtain ⟨o, e1, e2⟩ := here_look hi hh hm
    simp only [ren] at hr
    cases hr with
    | pure hp => cases hp
    | ptr _ _ _ _ sz es fr _ hl ht hi0 hs0 hv =>
      rw [e2] at hl
      have : o = .row sz es fr := by cases o <;> simp_all [renO]
      subst this
      exact .ptr n i off tot sz es fr v e1 ht hi0 hs0 (by unfold unLoc; rw [if_pos hm]; exact hv)
  | bptr n off =>
    have hm := any_beq.1 (show (hs.map (·.1)).any (Nat.beq n) = true from hn)
    obtain ⟨o, e1, e2⟩ := here_look hi hh hm
    simp only [ren] at hr
    cases hr with
    | pure hp => cases hp
    | bptr _ _ sz b c d' hl hρ =>
      rw [e2] at hl
      obtain ⟨d0, rfl⟩ : ∃ d0, o = .box sz d0 := by cases o <;> simp_all [renO]
      exact .bptr n off sz b c d0 e1 (by unfold unLoc; rw [if_pos hm]; exact hρ)
    | fptr _ _ sz b c d' hl hρ =>
      rw [e2] at hl
      obtain ⟨d0, rfl⟩ : ∃ d0, o = .fbox sz d0 := by cases o <;> simp_all [renO]
      exact .fptr n off sz b c d0 e1 (by unfold unLoc; rw [if_pos hm]; exact hρ)
  | dict n =>
    have hm := any_beq.1 (show (hs.map (·.1)).any (Nat.beq n) = true from hn)
    obtain ⟨o, e1, e2⟩ := here_look hi hh hm
    simp only [ren] at hr
    cases hr with
    | pure hp => cases hp
    | dictv _ b c es hl hρ =>
      rw [e2] at hl
      have : o = .dict es := by cases o <;> simp_all [renO]
      subst this
      exact .dictv n b c es e1 (by unfold unLoc; rw [if_pos hm]; exact hρ)
    | sitv _ b c pos s hl hρ =>
      rw [e2] at hl
      have : o = .siter s pos := by cases o <;> simp_all [renO]
      subst this
      exact .sitv n b c pos s e1 (by unfold unLoc; rw [if_pos hm]; exact hρ)
  | _ => cases hr with | pure hp => exact .pure hp
theorem unrens (hi : instOk π ds hs hs' = true) (hh : hereH (hlook H) π hs) (l : List DV) (vs : Nat → Value) (hn : namesIns (hs.map (·.1)) l = true) (hr : ∀ i, i < l.length → RelV M ρ H (ren π (l.getD i .undef)) (vs i)) :
    ∀ i, i < l.length → RelV M (unLoc π hs ρ) hs (l.getD i .undef) (vs i) := by
  cases l with
  | nil => intro i hi; simp at hi
  | cons d r =>
    simp only [namesIns, Bool.and_eq_true] at hn
    intro i hlt
    cases i with
    | zero => exact unren hi hh d (vs 0) hn.1 (by simpa using hr 0 (by simp))
    | succ i =>
      have := unrens hi hh r (fun i => vs (i + 1)) hn.2 (fun i hi => by simpa using hr (i + 1) (by simpa using hi)) i (by simpa using hlt)
      simpa using this
end

theorem unrenVs (S : Sim B nt M0 w0 M ρ t H a w) {vs : List DV} {args : Array Value} (h1 : rens π ds = vs) (hi : instOk π ds hs hs' = true) (hh : hereH (hlook H) π hs)
    (hr : vs.length = args.size ∧ ∀ i, i < vs.length → RelV M ρ H (vs.getD i .undef) (args.getD i Go.undef)) : RelVs M (unLoc π hs ρ) hs ds args := by
  subst h1
  obtain ⟨r1, r2⟩ := hr
  rw [rens_length] at r1 r2
  exact ⟨r1, unrens hi hh ds (fun i => args.getD i Go.undef) (inst_spec hi).2.2.2.1 (fun i hlt => by rw [← rens_getD π ds i hlt]; exact r2 i hlt)⟩

theorem wr_any (b : Nat) : anyB.wr b := .inl (Nat.zero_le _)

theorem app_inj (hi : instOk π ds hs hs' = true) {n m : Nat} (hn : n ∈ hs'.map (·.1)) (hm : m ∈ hs'.map (·.1)) (e : app π n = app π m) : n = m := by
  obtain ⟨_, h2, _⟩ := inst_spec hi
  have key : ∀ {l : Heap}, (l.map fun x => app π x.1).Nodup → ∀ {n m : Nat}, n ∈ l.map (·.1) → m ∈ l.map (·.1) → app π n = app π m → n = m := by
    intro l
    induction l with
    | nil => intro _ n m hn; simp at hn
    | cons x r ih =>
      intro hd n m hn hm e
      simp only [List.map_cons, List.nodup_cons] at hd
      simp only [List.map_cons, List.mem_cons] at hn hm
      have hr : ∀ {k : Nat}, k ∈ r.map (·.1) → app π k ∈ r.map fun x => app π x.1 := fun {k} hk => by
        obtain ⟨y, hy, e⟩ := List.mem_map.1 hk
        exact List.mem_map.2 ⟨y, hy, by rw [e]⟩
      rcases hn with rfl | hn <;> rcases hm with rfl | hm
      · rfl
      · exact absurd (by rw [e]; exact hr hm) hd.1
      · exact absurd (by rw [← e]; exact hr hn) hd.1
      · exact ih hd.2 hn hm e
  exact key h2 hn hm e

theorem Sim.heapIn (S : Sim B nt M0 w0 M ρ t H a w) (hi : instOk π ds hs hs' = true) (hh : hereH (hlook H) π hs) : HeapIn M (unLoc π hs ρ) hs w := by
  obtain ⟨h1, h2, h3, h4, h5⟩ := inst_spec hi
  have hmem : ∀ {n : Nat} {o : DObj}, hlook hs n = some o → n ∈ hs.map (·.1) := fun {n o} e => List.mem_map.2 ⟨(n, o), mem_of_hlook e, rfl⟩
  have hloc : ∀ {n : Nat} {o : DObj}, hlook hs n = some o → unLoc π hs ρ n = ρ (app π n) := fun {n o} e => by unfold unLoc; rw [if_pos (hmem e)]
  refine ⟨S.mem, fun n o e => ?_, fun n m o p b c b' c' hne e1 e2 e3 e4 => ?_⟩
  · have e2 := hereH_mem hh (mem_of_hlook e)
    have ho := S.obj _ _ e2
    have hl := hloc e
    cases o with
    | row sz es fr =>
      simp only [renO, ObjRel] at ho ⊢
      rw [hl]
      cases hρ : ρ (app π n) with
      | none => rw [hρ] at ho; exact ho
      | some bc =>
        obtain ⟨b, c⟩ := bc
        rw [hρ] at ho
        exact ⟨⟨wr_any b, ho.1.2⟩, ho.2⟩
    | box sz d =>
      simp only [renO] at ho
      obtain ⟨b, c, q1, q2, cs, ty, q3, q4, q5, q6, q7⟩ := ho
      have hnm := namesInH_mem h5 (mem_of_hlook e)
      have hcell : ∀ i, i < sz → (ren π d).cells.getD i .undef = ren π (d.cells.getD i .undef) ∧ namesIn (hs.map (·.1)) (d.cells.getD i .undef) = true := fun i hlt => ren_cells d i (by rw [← ren_cells_length π d]; have := (okE_spec q5).1; omega) hnm
      refine ⟨b, c, by rw [hl]; exact q1, wr_any b, cs, ty, q3, q4, okE_unren q5, fun i hlt => ?_, q7⟩
      obtain ⟨g1, g2⟩ := hcell i hlt
      have := q6 i hlt
      rw [g1] at this
      exact unren hi hh _ _ g2 this
    | fbox sz d =>
      obtain ⟨b, c, q1, q2, q3⟩ := ho
      exact ⟨b, c, by rw [hl]; exact q1, wr_any b, q3⟩
    | dict es =>
      obtain ⟨b, c, q1, q2, q3⟩ := ho
      exact ⟨b, c, by rw [hl]; exact q1, wr_any b, q3⟩
    | siter s pos =>
      obtain ⟨b, c, q1, q2, q3⟩ := ho
      exact ⟨b, c, by rw [hl]; exact q1, wr_any b, q3⟩
  · rw [hloc e1] at e3; rw [hloc e2] at e4
    exact S.dis _ _ _ _ b c b' c' (fun e => hne (app_inj hi (h3 _ (hmem e1)) (h3 _ (hmem e2)) e)) (hereH_mem hh (mem_of_hlook e1)) (hereH_mem hh (mem_of_hlook e2)) e3 e4

/-- The contract's name of an object of the caller. -/
def back (π : List (Nat × Nat)) : Heap → Nat → Option Nat
  | [], _ => none
  | (n, _) :: r, m => if app π n = m then some n else back π r m

theorem back_some {π : List (Nat × Nat)} : ∀ {h : Heap} {m n : Nat}, back π h m = some n → app π n = m ∧ n ∈ h.map (·.1)
  | [], m, n, e => by simp [back] at e
  | (k, o) :: r, m, n, e => by
    simp only [back] at e
    split at e
    · rename_i h; cases e; exact ⟨h, by simp⟩
    · obtain ⟨h1, h2⟩ := back_some e; exact ⟨h1, List.mem_cons_of_mem _ h2⟩

theorem back_none {π : List (Nat × Nat)} : ∀ {h : Heap} {m : Nat}, back π h m = none → ∀ n ∈ h.map (·.1), app π n ≠ m
  | [], m, e, n, hn => by simp at hn
  | (k, o) :: r, m, e, n, hn => by
    simp only [back] at e
    split at e
    · cases e
    · rename_i h
      simp only [List.map_cons, List.mem_cons] at hn
      rcases hn with rfl | hn
      · exact h
      · exact back_none e n hn

theorem back_of (hi : instOk π ds hs hs' = true) {n : Nat} (hn : n ∈ hs'.map (·.1)) : back π hs' (app π n) = some n := by
  cases hb : back π hs' (app π n) with
  | none => exact absurd rfl (back_none hb n hn)
  | some k =>
    obtain ⟨h1, h2⟩ := back_some hb
    rw [app_inj hi h2 hn h1]

theorem renH_mem {π : List (Nat × Nat)} : ∀ {h : Heap} {n : Nat} {o : DObj}, (n, o) ∈ h → (app π n, renO π o) ∈ renH π h
  | [], _, _, hm => by simp at hm
  | (k, p) :: r, n, o, hm => by
    rcases List.mem_cons.1 hm with e | hm
    · cases e; simp [renH]
    · exact List.mem_cons_of_mem _ (renH_mem hm)

theorem hlook_app_none {h h' : Heap} {m : Nat} (hn : ∀ n o, (n, o) ∈ h → n ≠ m) : hlook (h ++ h') m = hlook h' m := by
  induction h with
  | nil => rfl
  | cons x r ih =>
    obtain ⟨k, o⟩ := x
    rw [List.cons_append, hlook_cons, if_neg (hn k o (by simp))]
    exact ih (fun n p hp => hn n p (by simp [hp]))

theorem hlook_app_some {h h' : Heap} {m : Nat} {o : DObj} (hl : hlook h m = some o) : hlook (h ++ h') m = some o := by
  induction h with
  | nil => simp [hlook] at hl
  | cons x r ih =>
    obtain ⟨k, p⟩ := x
    rw [List.cons_append, hlook_cons]
    rw [hlook_cons] at hl
    split
    · rename_i e; rw [if_pos e] at hl; exact hl
    · rename_i e; rw [if_neg e] at hl; exact ih hl

/-- The caller's heap behind the call. -/
theorem after_look (hi : instOk π ds hs hs' = true) (m : Nat) :
    hlook ((renH π hs').reverse ++ H) m = match back π hs' m with | some n => (hlook hs' n).map (renO π) | none => hlook H m := by
  obtain ⟨h1, h2, h3, _⟩ := inst_spec hi
  have hnd : ((renH π hs').reverse.map (·.1)).Nodup := by
    rw [List.map_reverse, renH_names]; exact nodup_rev h2
  have hnd' : (hs'.map (·.1)).Nodup := by
    have : (hs'.map fun x => app π x.1) = (hs'.map (·.1)).map (app π) := by simp
    rw [this] at h2
    exact nodup_of_map h2
  cases hb : back π hs' m with
  | none =>
    refine hlook_app_none (fun n o hm e => ?_)
    subst e
    have : n ∈ (renH π hs').map (·.1) := List.mem_map.2 ⟨(n, o), by simpa using hm, rfl⟩
    rw [renH_names] at this
    obtain ⟨x, hx, e⟩ := List.mem_map.1 this
    exact back_none hb x.1 (List.mem_map.2 ⟨x, hx, rfl⟩) e
  | some n =>
    obtain ⟨e1, e2⟩ := back_some hb
    obtain ⟨x, hx, e⟩ := List.mem_map.1 e2
    obtain ⟨k, o⟩ := x
    simp only at e; subst e
    have g1 : hlook hs' k = some o := hlook_of_mem hnd' hx
    simp only [g1, Option.map_some]
    refine hlook_app_some (hlook_of_mem hnd ?_)
    subst e1
    simpa using renH_mem hx

def afterLoc (π : List (Nat × Nat)) (h : Heap) (ρ ρ' : Locs) : Locs := fun m => match back π h m with | some n => ρ' n | none => ρ m

mutual
/-- A value under the contract's names reads as it does under the caller's. -/
theorem reren {M' : Mem} {ρ' : Locs} (hi : instOk π ds hs hs' = true) (d : DV) (v : Value) (hr : RelV M' ρ' hs' d v) : RelV M' (afterLoc π hs' ρ ρ') ((renH π hs').reverse ++ H) (ren π d) v := by
  have look : ∀ {n : Nat} {o : DObj}, hlook hs' n = some o → hlook ((renH π hs').reverse ++ H) (app π n) = some (renO π o) ∧ afterLoc π hs' ρ ρ' (app π n) = ρ' n := fun {n o} e => by
    have hb := back_of hi (List.mem_map.2 ⟨(n, o), mem_of_hlook e, rfl⟩)
    refine ⟨?_, by unfold afterLoc; rw [hb]⟩
    rw [after_look hi, hb]; simp [e]
  cases d with
  | agg cs =>
    obtain ⟨vs, rfl, hl, h1⟩ := hr.inv_agg
    exact .agg _ vs (by rw [rens_length]; exact hl) (fun i hlt => by
      rw [rens_length] at hlt; rw [rens_getD π cs i hlt]; exact rerens hi cs (fun i => vs.getD i Go.undef) h1 i hlt)
  | tuple cs =>
    obtain ⟨vs, rfl, hl, h1⟩ := hr.inv_tuple
    exact .tuple _ vs (by rw [rens_length]; exact hl) (fun i hlt => by
      rw [rens_length] at hlt; rw [rens_getD π cs i hlt]; exact rerens hi cs (fun i => vs.getD i Go.undef) h1 i hlt)
  | func f cs =>
    obtain ⟨vs, rfl, hl, h1⟩ := hr.inv_func
    exact .func f _ vs (by rw [rens_length]; exact hl) (fun i hlt => by
      rw [rens_length] at hlt; rw [rens_getD π cs i hlt]; exact rerens hi cs (fun i => vs.getD i Go.undef) h1 i hlt)
  | own n off len tot =>
    cases hr with
    | pure hp => cases hp
    | own _ _ _ _ sz es fr _ hl ht hs0 hv =>
      obtain ⟨g1, g2⟩ := look hl
      exact .own _ off len tot sz es fr v g1 ht hs0 (by rw [g2]; exact hv)
  | ptr n i off tot =>
    cases hr with
    | pure hp => cases hp
    | ptr _ _ _ _ sz es fr _ hl ht hi0 hs0 hv =>
      obtain ⟨g1, g2⟩ := look hl
      exact .ptr _ i off tot sz es fr v g1 ht hi0 hs0 (by rw [g2]; exact hv)
  | bptr n off =>
    cases hr with
    | pure hp => cases hp
    | bptr _ _ sz b c d' hl hρ =>
      obtain ⟨g1, g2⟩ := look hl
      exact .bptr _ off sz b c _ g1 (by rw [g2]; exact hρ)
    | fptr _ _ sz b c d' hl hρ =>
      obtain ⟨g1, g2⟩ := look hl
      exact .fptr _ off sz b c _ g1 (by rw [g2]; exact hρ)
  | dict n =>
    cases hr with
    | pure hp => cases hp
    | dictv _ b c es hl hρ =>
      obtain ⟨g1, g2⟩ := look hl
      exact .dictv _ b c es g1 (by rw [g2]; exact hρ)
    | sitv _ b c pos s hl hρ =>
      obtain ⟨g1, g2⟩ := look hl
      exact .sitv _ b c pos s g1 (by rw [g2]; exact hρ)
  | _ => cases hr with | pure hp => exact .pure hp
theorem rerens {M' : Mem} {ρ' : Locs} (hi : instOk π ds hs hs' = true) (l : List DV) (vs : Nat → Value) (hr : ∀ i, i < l.length → RelV M' ρ' hs' (l.getD i .undef) (vs i)) :
    ∀ i, i < l.length → RelV M' (afterLoc π hs' ρ ρ') ((renH π hs').reverse ++ H) (ren π (l.getD i .undef)) (vs i) := by
  cases l with
  | nil => intro i hi; simp at hi
  | cons d r =>
    intro i hlt
    cases i with
    | zero => exact reren hi d (vs 0) (by simpa using hr 0 (by simp))
    | succ i =>
      have := rerens hi r (fun i => vs (i + 1)) (fun i hi => by simpa using hr (i + 1) (by simpa using hi)) i (by simpa using hlt)
      simpa using this
end

theorem renO_like {π : List (Nat × Nat)} {o o' : DObj} (h : o.like o') : (renO π o).like (renO π o') := by cases o <;> cases o' <;> simp_all [DObj.like, renO]
theorem renO_isRow {π : List (Nat × Nat)} (o : DObj) : (renO π o).isRow = o.isRow := by cases o <;> rfl

theorem loc_wr (S : Sim B nt M0 w0 M ρ t H a w) {n b c : Nat} {o : DObj} (hl : hlook H n = some o) (hρ : ρ n = some (b, c)) : B.wr b := by
  have ho := S.obj n o hl
  cases o with
  | row sz es fr => simp only [ObjRel, hρ] at ho; exact ho.1.1
  | box sz d => obtain ⟨b', c', q1, q2, _⟩ := ho; rw [hρ] at q1; cases q1; exact q2
  | fbox sz d => obtain ⟨b', c', q1, q2, _⟩ := ho; rw [hρ] at q1; cases q1; exact q2
  | dict es => obtain ⟨b', c', q1, q2, _⟩ := ho; rw [hρ] at q1; cases q1; exact q2
  | siter s p => obtain ⟨b', c', q1, q2, _⟩ := ho; rw [hρ] at q1; cases q1; exact q2

theorem loc_not_deferred (S : Sim B nt M0 w0 M ρ t H a w) {n b c : Nat} {o : DObj} (hl : hlook H n = some o) (hρ : ρ n = some (b, c)) (x : Option (List Deferred)) : w.heap[b]? ≠ some (.deferred x) := fun e => by
  have ho := S.obj n o hl
  cases o with
  | row sz es fr => simp only [ObjRel, hρ] at ho; obtain ⟨_, cs, ty, q, _⟩ := ho; rw [e] at q; cases q
  | box sz d => obtain ⟨b', c', q1, q2, cs, ty, q3, _⟩ := ho; rw [hρ] at q1; cases q1; rw [e] at q3; cases q3
  | fbox sz d => obtain ⟨b', c', q1, q2, cs, ty, q3, _⟩ := ho; rw [hρ] at q1; cases q1; rw [e] at q3; cases q3
  | dict es => obtain ⟨b', c', q1, q2, ⟨E, q3, _⟩, _⟩ := ho; rw [hρ] at q1; cases q1; rw [e] at q3; cases q3
  | siter s p => obtain ⟨b', c', q1, q2, q3, _⟩ := ho; rw [hρ] at q1; cases q1; rw [e] at q3; cases q3

/-- Behind the call. -/
theorem Sim.afterCall (S : Sim B nt M0 w0 M ρ t H a w) (hi : instOk π ds hs hs' = true) (hh : hereH (hlook H) π hs) (hfr : freeH (hlook H) π hs hs') {w' : World} {M' : Mem} {ρ' : Locs} {d : DV} {v : Value}
    (a1 : HeapIn M' ρ' hs' w') (a2 : Ext M (unLoc π hs ρ) hs M' ρ' hs') (a3 : RelV M' ρ' hs' d v) (a4 : (callB w (unLoc π hs ρ) hs).touch w w') (a5 : ∀ b o v, M' b o = some v → M b o = none → (callB w (unLoc π hs ρ) hs).wr b)
    (a6 : ∀ n o b c, hlook hs' n = some o → ρ' n = some (b, c) → (callB w (unLoc π hs ρ) hs).wr b) :
    ∃ ρ'', Sim B nt M0 w0 M' ρ'' t ((renH π hs').reverse ++ H) a w' ∧ RelV M' ρ'' ((renH π hs').reverse ++ H) (ren π d) v := by
  obtain ⟨h1, h2, h3, h4, h5⟩ := inst_spec hi
  have hmem : ∀ {h : Heap} {n : Nat} {o : DObj}, hlook h n = some o → n ∈ h.map (·.1) := fun {h n o} e => List.mem_map.2 ⟨(n, o), mem_of_hlook e, rfl⟩
  have hin : ∀ {n : Nat}, n ∈ hs'.map (·.1) → ∃ o, hlook hs' n = some o := fun {n} hn => by
    have hnd' : (hs'.map (·.1)).Nodup := by
      have : (hs'.map fun x => app π x.1) = (hs'.map (·.1)).map (app π) := by simp
      rw [this] at h2
      exact nodup_of_map h2
    obtain ⟨x, hx, e⟩ := List.mem_map.1 hn
    obtain ⟨k, o⟩ := x
    simp only at e; subst e
    exact ⟨o, hlook_of_mem hnd' hx⟩
  -- what the callee writes is the caller's to write
  have hwr : ∀ b, (callB w (unLoc π hs ρ) hs).wr b → B.wr b ∧ (b < w.heap.size → ∃ n o c, hlook hs n = some o ∧ ρ (app π n) = some (b, c) ∧ hlook H (app π n) = some (renO π o)) := fun b hb => by
    rcases hb with hb | ⟨n, o, c, e1, e2⟩
    · exact ⟨.inl (Nat.le_trans S.Bsize hb), fun hlt => by simp only [callB] at hb; omega⟩
    · unfold unLoc at e2; rw [if_pos (hmem e1)] at e2
      have e3 := hereH_mem hh (mem_of_hlook e1)
      exact ⟨loc_wr S e3 e2, fun _ => ⟨n, o, c, e1, e2, e3⟩⟩
  have hkeep : ∀ {m b c : Nat} {o : DObj}, hlook H m = some o → back π hs' m = none → ρ m = some (b, c) → ¬ (callB w (unLoc π hs ρ) hs).wr b := fun {m b c o} e1 e2 e3 hb => by
    have hlt := S.loc_lt e1 e3
    obtain ⟨_, hx⟩ := hwr b hb
    obtain ⟨n, o', c', q1, q2, q3⟩ := hx hlt
    have hne : app π n ≠ m := back_none e2 n (h3 n (hmem q1))
    exact S.dis _ _ _ _ b c' b c hne q3 e1 q2 e3 rfl
  -- where old objects are
  have hold : ∀ {m : Nat} {o : DObj}, hlook H m = some o → ∀ n, back π hs' m = some n → ∃ o0, hlook hs n = some o0 ∧ o = renO π o0 ∧ unLoc π hs ρ n = ρ m := fun {m o} e n hb => by
    obtain ⟨e1, e2⟩ := back_some hb
    subst e1
    obtain ⟨o1, e3⟩ := hin e2
    rcases freeH_mem hfr (mem_of_hlook e3) with hn | hn
    · obtain ⟨o0, q1, q2⟩ := here_look hi hh hn
      rw [e] at q2; cases q2
      exact ⟨o0, q1, rfl, by unfold unLoc; rw [if_pos hn]⟩
    · rw [e] at hn; cases hn
  have hx : Ext M ρ H M' (afterLoc π hs' ρ ρ') ((renH π hs').reverse ++ H) := by
    refine ⟨a2.le, fun m sz es fr e => ?_, fun m o e hr => ?_⟩
    · rw [after_look hi]
      unfold afterLoc
      cases hb : back π hs' m with
      | none => exact ⟨sz, es, fr, e, Nat.le_refl _, fun _ => ⟨.inl rfl, rfl⟩⟩
      | some n =>
        obtain ⟨o0, q1, q2, q3⟩ := hold e n hb
        have : o0 = .row sz es fr := by cases o0 <;> simp_all [renO]
        subst this
        obtain ⟨sz', es', fr', k1, k2, k3⟩ := a2.row n sz es fr q1
        exact ⟨sz', es', fr', by simp [k1, renO], k2, fun e => by rw [← q3]; exact k3 e⟩
    · rw [after_look hi]
      unfold afterLoc
      cases hb : back π hs' m with
      | none => exact ⟨rfl, o, e, like_refl hr⟩
      | some n =>
        obtain ⟨o0, q1, q2, q3⟩ := hold e n hb
        subst q2
        rw [renO_isRow] at hr
        obtain ⟨k1, o', k2, k3⟩ := a2.box n o0 q1 hr
        exact ⟨by rw [← q3]; exact k1, renO π o', by simp [k2], renO_like k3⟩
  refine ⟨afterLoc π hs' ρ ρ', ?_, reren hi d v a3⟩
  have hdisj : ∀ {n m b c b' c' : Nat} {o p : DObj}, hlook hs' n = some o → ρ' n = some (b, c) → hlook H m = some p → back π hs' m = none → ρ m = some (b', c') → b ≠ b' := fun {n m b c b' c' o p} e1 e2 e3 e4 e5 e6 => by
    subst e6; exact hkeep e3 e4 e5 (a6 n o b c e1 e2)
  refine { S with le := Mem.le_trans S.le a2.le, tm := fun i => (S.tm i).ext hx, mem := a1.mem, obj := fun m o hm => ?_, dis := fun m m' o p b c b' c' hne e1 e2 e3 e4 => ?_, below := ?_, new := fun b o v e e0 => ?_, marks := ⟨fun dd hd => ?_, S.marks.2⟩, ext := S.ext.trans hx }
  · rw [after_look hi] at hm
    cases hb : back π hs' m with
    | some n =>
      rw [hb] at hm
      simp only at hm
      have hloc : afterLoc π hs' ρ ρ' m = ρ' n := by unfold afterLoc; rw [hb]
      cases ho : hlook hs' n with
      | none => rw [ho] at hm; cases hm
      | some o' =>
        rw [ho] at hm; simp only [Option.map_some, Option.some.injEq] at hm; subst hm
        have hobj := a1.obj n o' ho
        have wb : ∀ b c, ρ' n = some (b, c) → B.wr b := fun b c e => (hwr b (a6 n o' b c ho e)).1
        cases o' with
        | row sz es fr =>
          simp only [renO, ObjRel] at hobj ⊢
          rw [hloc]
          cases hρ : ρ' n with
          | none => rw [hρ] at hobj; exact hobj
          | some bc =>
            obtain ⟨b, c⟩ := bc
            rw [hρ] at hobj
            exact ⟨⟨wb b c hρ, hobj.1.2⟩, hobj.2⟩
        | box sz d0 =>
          obtain ⟨b, c, q1, q2, cs, ty, q3, q4, q5, q6, q7⟩ := hobj
          refine ⟨b, c, by rw [hloc]; exact q1, wb b c q1, cs, ty, q3, q4, by rw [okE_ren]; exact q5, fun i hlt => ?_, q7⟩
          have h9 := (okE_spec q5).1
          have : (ren π d0).cells.getD i .undef = ren π (d0.cells.getD i .undef) := by
            rw [cells_ren]; exact rens_getD π _ i (by omega)
          rw [this]
          exact reren hi _ _ (q6 i hlt)
        | fbox sz d0 =>
          obtain ⟨b, c, q1, q2, q3⟩ := hobj
          exact ⟨b, c, by rw [hloc]; exact q1, wb b c q1, q3⟩
        | dict es =>
          obtain ⟨b, c, q1, q2, q3⟩ := hobj
          exact ⟨b, c, by rw [hloc]; exact q1, wb b c q1, q3⟩
        | siter s pos =>
          obtain ⟨b, c, q1, q2, q3⟩ := hobj
          exact ⟨b, c, by rw [hloc]; exact q1, wb b c q1, q3⟩
    | none =>
      rw [hb] at hm
      simp only at hm
      have hloc : afterLoc π hs' ρ ρ' m = ρ m := by unfold afterLoc; rw [hb]
      have hobj := S.obj m o hm
      have hsame : ∀ b c, ρ m = some (b, c) → w'.heap[b]? = w.heap[b]? := fun b c e => a4.block b (hkeep hm hb e)
      have hfree : ∀ b c, ρ m = some (b, c) → (∀ o, M b o = none) → ∀ o, M' b o = none := fun b c e hf o' => by
        cases hM : M' b o' with
        | none => rfl
        | some v => exact absurd (a5 b o' v hM (hf o')) (hkeep hm hb e)
      have h1 := hobj.mem a2.le hfree
      have h2 := ObjRel.ext (M := M') ⟨Mem.le_refl _, hx.row, hx.box⟩ hloc h1
      cases o with
      | row sz es fr =>
        simp only [ObjRel] at h2 ⊢
        rw [hloc] at h2 ⊢
        cases hρ : ρ m with
        | none => rw [hρ] at h2; exact h2
        | some bc =>
          obtain ⟨b, c⟩ := bc
          rw [hρ] at h2
          obtain ⟨g2, cs', ty', g3, g4⟩ := h2
          exact ⟨g2, cs', ty', by rw [hsame b c hρ]; exact g3, g4⟩
      | box sz d0 =>
        obtain ⟨b, c, q1, q2, cs, ty, q3, q4⟩ := h2
        exact ⟨b, c, q1, q2, cs, ty, by rw [hsame b c (by rw [← hloc]; exact q1)]; exact q3, q4⟩
      | fbox sz d0 =>
        obtain ⟨b, c, q1, q2, cs, ty, q3, q4⟩ := h2
        exact ⟨b, c, q1, q2, cs, ty, by rw [hsame b c (by rw [← hloc]; exact q1)]; exact q3, q4⟩
      | dict es =>
        obtain ⟨b, c, q1, q2, ⟨E, q3, q4⟩, q5⟩ := h2
        exact ⟨b, c, q1, q2, ⟨E, by rw [hsame b c (by rw [← hloc]; exact q1)]; exact q3, q4⟩, q5⟩
      | siter s pos =>
        obtain ⟨b, c, q1, q2, q3, q5⟩ := h2
        exact ⟨b, c, q1, q2, by rw [hsame b c (by rw [← hloc]; exact q1)]; exact q3, q5⟩
  · rw [after_look hi] at e1 e2
    unfold afterLoc at e3 e4
    cases hb : back π hs' m with
    | some n =>
      rw [hb] at e1 e3
      simp only at e1 e3
      obtain ⟨o1, e1'⟩ : ∃ o1, hlook hs' n = some o1 := by cases ho : hlook hs' n <;> simp_all
      cases hb' : back π hs' m' with
      | some n' =>
        rw [hb'] at e2 e4
        simp only at e2 e4
        obtain ⟨o2, e2'⟩ : ∃ o2, hlook hs' n' = some o2 := by cases ho : hlook hs' n' <;> simp_all
        refine a1.dis n n' o1 o2 b c b' c' (fun e => hne ?_) e1' e2' e3 e4
        rw [← (back_some hb).1, ← (back_some hb').1, e]
      | none =>
        rw [hb'] at e2 e4
        exact hdisj e1' e3 e2 hb' e4
    | none =>
      rw [hb] at e1 e3
      simp only at e1 e3
      cases hb' : back π hs' m' with
      | some n' =>
        rw [hb'] at e2 e4
        simp only at e2 e4
        obtain ⟨o2, e2'⟩ : ∃ o2, hlook hs' n' = some o2 := by cases ho : hlook hs' n' <;> simp_all
        exact fun e => hdisj e2' e4 e1 hb e3 e.symm
      | none =>
        rw [hb'] at e2 e4
        exact S.dis m m' o p b c b' c' hne e1 e2 e3 e4
  · exact S.below.trans ⟨a4.os, a4.tape, a4.output, a4.size, fun k hk => a4.block k (fun hb => hk (hwr k hb).1)⟩
  · cases hM : M b o with
    | none => exact (hwr b (a5 b o v e hM)).1
    | some v' => exact S.new b o v' hM e0
  · obtain ⟨D, e1, e2, e3⟩ := S.marks.1 dd hd
    refine ⟨D, e1, e2, ?_⟩
    have hlt : D < w.heap.size := (Array.getElem?_eq_some_iff.1 e3).1
    rw [a4.block D (fun hb => ?_)]; exact e3
    obtain ⟨n, o, c, q1, q2, q3⟩ := (hwr D hb).2 hlt
    exact loc_not_deferred S q3 q2 _ e3
end
end Sh
