/- Shadow code against the code of the model; a function's contract. -/
import Derived.Test.YtcdhbdhonpddeaaDoorShDraw
import Derived.LoopNIn
import Derived.RangeFuncLeaves
import Derived.RangeFuncOwn
set_option linter.unusedVariables false
set_option linter.unusedSectionVars false
set_option linter.unusedSimpArgs false
namespace Sh
open Go

section
variable {P : Program} {G : Nat → Option DV} {B : Base} {nt : Nat} {M0 : Mem} {w0 : World} {M : Mem} {ρ : Locs} {t : Tmps} {h : Heap} {a : Act} {w : World}

/-! What is kept at the end of a scope. -/

theorem ress_getD (kh : List Nat) (lk : Nat → Option DObj) (l : List DV) (i : Nat) (hi : i < l.length) : (ress kh lk l).getD i .undef = res kh lk (l.getD i .undef) := by
  induction l generalizing i with
  | nil => simp at hi
  | cons d r ih =>
    cases i with
    | zero => rfl
    | succ i => simpa [ress] using ih i (by simpa using hi)

theorem ress_length (kh : List Nat) (lk : Nat → Option DObj) (l : List DV) : (ress kh lk l).length = l.length := by
  induction l with
  | nil => rfl
  | cons d r ih => simp [ress, ih]

theorem resP {kh : List Nat} {lk : Nat → Option DObj} {d : DV} {v : Value} (hr : RelP M d v) : RelP M (res kh lk d) v := by
  induction hr with
  | undef v => exact .undef v
  | bool b => exact .bool b
  | int k n => exact .int k n
  | str s => exact .str s
  | agg ds vs hl _ ih => exact .agg _ vs (by rw [ress_length]; exact hl) (fun i hi => by rw [ress_length] at hi; rw [ress_getD _ _ _ _ hi]; exact ih i hi)
  | tuple ds vs hl _ ih => exact .tuple _ vs (by rw [ress_length]; exact hl) (fun i hi => by rw [ress_length] at hi; rw [ress_getD _ _ _ _ hi]; exact ih i hi)
  | func f ds vs hl _ ih => exact .func f _ vs (by rw [ress_length]; exact hl) (fun i hi => by rw [ress_length] at hi; rw [ress_getD _ _ _ _ hi]; exact ih i hi)
  | list l a cap sz b o g hcap ha hsz hM hr _ => exact .list l a cap sz b o g hcap ha hsz hM hr
  | full l a sz b o g ha hsz hM hr _ => exact .full l a sz b o g ha hsz hM hr
  | ip d b o g hM hr _ => exact .ip d b o g hM hr
  | nilptr => exact .nilptr
  | nilfunc => exact .nilfunc

/-- A pointer to a variable that is dropped. -/
theorem drop_box (S : Sim B nt M0 w0 M ρ t h a w) {kh : List Nat} {h0 h' : Heap} (hfb : ∀ n sz d, memB n kh = false → hlook h0 n = some (.box sz d) ∨ hlook h0 n = some (.fbox sz d) → pureB d = true → hlook h n = some (.fbox sz d))
    {n off : Nat} {v : Value} (hm : memB n kh = false) (hr : RelV M ρ h (.bptr n off) v) : RelV M ρ h' (res kh (hlook h0) (.bptr n off)) v := by
  unfold res
  rw [hm]
  simp only [cond_false]
  have key : ∀ sz d0, hlook h0 n = some (.box sz d0) ∨ hlook h0 n = some (.fbox sz d0) → RelV M ρ h' (bif Nat.beq off 0 && pureB d0 then DV.ip d0 else .undef) v := fun sz d0 hl => by
    cases hc : Nat.beq off 0 && pureB d0 with
    | false => exact .pure (.undef _)
    | true =>
      simp only [Bool.and_eq_true] at hc
      have := Nat.eq_of_beq_eq_true hc.1; subst this
      exact .pure (fptr_ip S (hfb n sz d0 hm hl hc.2) hr)
  split
  · rename_i sz d0 hl; exact key sz d0 (.inl hl)
  · rename_i sz d0 hl; exact key sz d0 (.inr hl)
  · exact .pure (.undef _)

theorem like_resObj (kh : List Nat) (lk : Nat → Option DObj) {o : DObj} (h : o.isRow = false) : o.like (resObj kh lk o) := by cases o <;> simp_all [DObj.like, DObj.isRow, resObj]

theorem resV (S : Sim B nt M0 w0 M ρ t h a w) {kh : List Nat} {h0 h' : Heap} (hfr : ∀ n sz es fr, memB n kh = false → hlook h0 n = some (.row sz es fr) → hlook h n = some (.row sz es true))
    (hrow : ∀ n sz es fr, memB n kh = true → hlook h n = some (.row sz es fr) → hlook h' n = some (.row sz es fr)) (hbox : ∀ n o, memB n kh = true → hlook h n = some o → o.isRow = false → ∃ o', hlook h' n = some o' ∧ o.like o')
    (hfb : ∀ n sz d, memB n kh = false → hlook h0 n = some (.box sz d) ∨ hlook h0 n = some (.fbox sz d) → pureB d = true → hlook h n = some (.fbox sz d)) {d : DV} {v : Value} (hr : RelV M ρ h d v) : RelV M ρ h' (res kh (hlook h0) d) v := by
  induction hr with
  | pure hp => exact .pure (resP hp)
  | agg ds vs hl _ ih => exact .agg _ vs (by rw [ress_length]; exact hl) (fun i hi => by rw [ress_length] at hi; rw [ress_getD _ _ _ _ hi]; exact ih i hi)
  | tuple ds vs hl _ ih => exact .tuple _ vs (by rw [ress_length]; exact hl) (fun i hi => by rw [ress_length] at hi; rw [ress_getD _ _ _ _ hi]; exact ih i hi)
  | func f ds vs hl _ ih => exact .func f _ vs (by rw [ress_length]; exact hl) (fun i hi => by rw [ress_length] at hi; rw [ress_getD _ _ _ _ hi]; exact ih i hi)
  | own n off len tot sz es fr v hl ht hs hv =>
    unfold res
    cases hm : memB n kh with
    | true => exact .own n off len tot sz es fr v (hrow n sz es fr hm hl) ht hs hv
    | false =>
      simp only [cond_false]
      split
      · rename_i sz' es' fr' h0n
        split
        · rename_i e
          have h1 := hfr n sz' es' fr' hm h0n
          rw [hl] at h1; cases h1
          exact .pure (own_list S hl (.own n off len tot sz es true v hl ht hs hv) e)
        · exact .pure (.undef v)
      · exact .pure (.undef v)
  | ptr n i off tot sz es fr v hl ht hi hs hv =>
    unfold res
    cases hm : memB n kh with
    | true => exact .ptr n i off tot sz es fr v (hrow n sz es fr hm hl) ht hi hs hv
    | false => exact .pure (.undef v)
  | bptr n off sz b c d hl hρ =>
    cases hm : memB n kh with
    | true =>
      unfold res; rw [hm]
      obtain ⟨o', h1, h2⟩ := hbox n _ hm hl rfl
      cases o' with
      | box sz' d' => simp only [DObj.like] at h2; subst h2; exact .bptr n off _ b c d' h1 hρ
      | fbox sz' d' => simp only [DObj.like] at h2; subst h2; exact .fptr n off _ b c d' h1 hρ
      | _ => exact h2.elim
    | false => exact drop_box S hfb hm (.bptr n off sz b c d hl hρ)
  | fptr n off sz b c d hl hρ =>
    cases hm : memB n kh with
    | true =>
      unfold res; rw [hm]
      obtain ⟨o', h1, h2⟩ := hbox n _ hm hl rfl
      cases o' with
      | fbox sz' d' => simp only [DObj.like] at h2; subst h2; exact .fptr n off _ b c d' h1 hρ
      | _ => exact h2.elim
    | false => exact drop_box S hfb hm (.fptr n off sz b c d hl hρ)
  | dictv n b c es hl hρ =>
    unfold res
    cases hm : memB n kh with
    | true =>
      obtain ⟨o', h1, h2⟩ := hbox n _ hm hl rfl
      cases o' with
      | dict es' => exact .dictv n b c es' h1 hρ
      | _ => exact h2.elim
    | false => exact .pure (.undef _)
  | sitv n b c pos s hl hρ =>
    unfold res
    cases hm : memB n kh with
    | true =>
      obtain ⟨o', h1, h2⟩ := hbox n _ hm hl rfl
      cases o' with
      | siter s' p' => exact .sitv n b c p' s' h1 hρ
      | _ => exact h2.elim
    | false => exact .pure (.undef _)

theorem tget_keepT (kh : List Nat) (lk : Nat → Option DObj) (t : Tmps) : ∀ (l : List Nat) (i : Nat), tget (keepT kh lk t l) i = if i ∈ l then res kh lk (tget t i) else .undef
  | [], i => by simp [keepT, tget]
  | j :: r, i => by
    unfold keepT
    rw [tget_cons, tget_keepT kh lk t r i]
    by_cases e : j = i
    · subst e; simp
    · simp [e, Ne.symm e]

theorem hlook_keepH (kh : List Nat) (lk : Nat → Option DObj) : ∀ (l : List Nat) (n : Nat), hlook (keepH kh lk l) n = if n ∈ l then (lk n).map (resObj kh lk) else none
  | [], n => by simp [keepH, hlook]
  | j :: r, n => by
    unfold keepH
    split
    · rename_i o ho
      rw [hlook_cons, hlook_keepH kh lk r n]
      by_cases e : j = n
      · subst e; simp [ho]
      · simp [e, Ne.symm e]
    · rename_i ho
      rw [hlook_keepH kh lk r n]
      by_cases e : j = n
      · subst e; simp [ho]
      · simp [e, Ne.symm e]

theorem boxesOk_get {kh : List Nat} {lk : Nat → Option DObj} : ∀ {l : List Nat}, boxesOk kh lk l = true → ∀ n ∈ l, ∀ sz d, lk n = some (.box sz d) → okE sz (res kh lk d) = true
  | [], _, n, hn => by simp at hn
  | j :: r, hb, n, hn => by
    intro sz d e
    unfold boxesOk at hb
    rcases List.mem_cons.1 hn with rfl | hn
    · rw [e] at hb; simp only [Bool.and_eq_true] at hb; exact hb.1
    · split at hb
      · simp only [Bool.and_eq_true] at hb; exact boxesOk_get hb.2 n hn sz d e
      · exact boxesOk_get hb n hn sz d e

theorem res_cells {kh : List Nat} {lk : Nat → Option DObj} (d : DV) (i : Nat) (hi : i < d.cells.length) : (res kh lk d).cells.getD i .undef = res kh lk (d.cells.getD i .undef) := by
  cases d with
  | agg cs => simp only [res, DV.cells] at *; exact ress_getD kh lk cs i hi
  | own n off len tot =>
    have hi0 : i = 0 := by simp [DV.cells] at hi; omega
    subst hi0
    show (res kh lk (.own n off len tot)).cells.getD 0 .undef = res kh lk (.own n off len tot)
    unfold res
    cases memB n kh
    · simp only [cond_false]; split
      · split <;> rfl
      · rfl
    · rfl
  | ptr n a b c =>
    have hi0 : i = 0 := by simp [DV.cells] at hi; omega
    subst hi0
    show (res kh lk (.ptr n a b c)).cells.getD 0 .undef = res kh lk (.ptr n a b c)
    unfold res
    cases memB n kh <;> rfl
  | bptr n a =>
    have hi0 : i = 0 := by simp [DV.cells] at hi; omega
    subst hi0
    show (res kh lk (.bptr n a)).cells.getD 0 .undef = res kh lk (.bptr n a)
    unfold res
    cases memB n kh
    · simp only [cond_false]
      split
      · cases Nat.beq a 0 && pureB _ <;> rfl
      · cases Nat.beq a 0 && pureB _ <;> rfl
      · rfl
    · rfl
  | dict n =>
    have hi0 : i = 0 := by simp [DV.cells] at hi; omega
    subst hi0
    show (res kh lk (.dict n)).cells.getD 0 .undef = res kh lk (.dict n)
    unfold res
    cases memB n kh <;> rfl
  | _ =>
    have hi0 : i = 0 := by simp [DV.cells] at hi; omega
    subst hi0
    rfl

theorem Sim.keepR (S : Sim B nt M0 w0 M ρ t h a w) (kh kt : List Nat) (hk0 : ∀ n o, hlook B.h0 n = some o → n ∈ kh) (hbx : boxesOk kh (hlook h) kh = true) : ∃ M', Sim B nt M0 w0 M' ρ (keepT kh (hlook h) t kt) (keepH kh (hlook h) kh) a w ∧ ∀ d v, RelV M ρ h d v → RelV M' ρ (keepH kh (hlook h) kh) (res kh (hlook h) d) v := by
  obtain ⟨M1, m1, S1, m2, m3, m4⟩ := S.freeze ((h.map (·.1)).filter fun n => !memB n kh)
  have hkeep : ∀ n, memB n kh = true → hlook (Sh.freeze ((h.map (·.1)).filter fun n => !memB n kh) h) n = hlook h n := fun n hn => by
    rw [freeze_look]
    cases hl : hlook h n with
    | none => rfl
    | some o => cases o <;> simp [hn]
  have hfr : ∀ n sz es fr, memB n kh = false → hlook h n = some (.row sz es fr) → hlook (Sh.freeze ((h.map (·.1)).filter fun n => !memB n kh) h) n = some (.row sz es true) := fun n sz es fr hn hl => by
    rw [m4 n sz es fr hl]
    have : n ∈ h.map (·.1) := Classical.byContradiction fun hc => by rw [hlook_none hc] at hl; cases hl
    have h2 : n ∈ (h.map (·.1)).filter fun n => !memB n kh := List.mem_filter.2 ⟨this, by simp [hn]⟩
    simp only [h2, decide_true, Bool.or_true]
  have hfb : ∀ n sz d, memB n kh = false → hlook h n = some (.box sz d) ∨ hlook h n = some (.fbox sz d) → pureB d = true → hlook (Sh.freeze ((h.map (·.1)).filter fun n => !memB n kh) h) n = some (.fbox sz d) := fun n sz d hn hl hp => by
    have : n ∈ h.map (·.1) := Classical.byContradiction fun hc => by rcases hl with hl | hl <;> (rw [hlook_none hc] at hl; cases hl)
    exact freeze_fbox (List.mem_filter.2 ⟨this, by simp [hn]⟩) hl hp
  have hk' : ∀ n, hlook (keepH kh (hlook h) kh) n = if memB n kh = true then (hlook h n).map (resObj kh (hlook h)) else none := fun n => by
    rw [hlook_keepH]
    by_cases e : n ∈ kh
    · rw [if_pos e, if_pos ((memB_iff n kh).2 e)]
    · rw [if_neg e, if_neg (fun h => e ((memB_iff n kh).1 h))]
  have rel : ∀ {d : DV} {v : Value}, RelV M1 ρ (Sh.freeze ((h.map (·.1)).filter fun n => !memB n kh) h) d v → RelV M1 ρ (keepH kh (hlook h) kh) (res kh (hlook h) d) v := fun {d v} hr =>
    resV S1 hfr (fun n sz es fr hn hl => by rw [hkeep n hn] at hl; rw [hk', if_pos hn, hl]; rfl) (fun n o hn hl hr => by rw [hkeep n hn] at hl; exact ⟨_, by rw [hk', if_pos hn, hl]; rfl, like_resObj _ _ hr⟩) hfb hr
  have hx : Ext M0 B.ρ0 B.h0 M1 ρ (keepH kh (hlook h) kh) := by
    refine ⟨S1.le, fun n sz es fr hn => ?_, fun n o hn hr => ?_⟩
    · obtain ⟨sz', es', fr', q1, q2, q3⟩ := S1.ext.row n sz es fr hn
      have hm := (memB_iff n kh).2 (hk0 n _ hn)
      rw [hkeep n hm] at q1
      exact ⟨sz', es', fr', by rw [hk', if_pos hm, q1]; rfl, q2, q3⟩
    · obtain ⟨q1, o', q2, q3⟩ := S1.ext.box n o hn hr
      have hm := (memB_iff n kh).2 (hk0 n _ hn)
      rw [hkeep n hm] at q2
      exact ⟨q1, _, by rw [hk', if_pos hm, q2]; rfl, like_trans q3 (like_resObj _ _ (like_row q3))⟩
  refine ⟨M1, { S1 with tm := fun i => ?_, obj := fun n o hn => ?_, dis := fun n m o p b c b' c' hne hn hm e1 e2 => ?_, ext := hx }, fun d v hr => rel (hr.ext m3)⟩
  · rw [tget_keepT]
    by_cases e : i ∈ kt
    · rw [if_pos e]; exact rel (S1.tm i)
    · rw [if_neg e]; exact .pure (.undef _)
  · rw [hk'] at hn
    by_cases e : memB n kh = true
    · rw [if_pos e] at hn
      cases hl : hlook h n with
      | none => rw [hl] at hn; cases hn
      | some o0 =>
        rw [hl] at hn
        simp only [Option.map_some, Option.some.injEq] at hn
        have h1 := S1.obj n o0 (by rw [hkeep n e]; exact hl)
        cases o0 with
        | row sz es fr => simp only [resObj] at hn; subst hn; exact h1
        | box sz d =>
          simp only [resObj] at hn; subst hn
          obtain ⟨b, c, q1, q2, cs, ty, q3, q4, q5, q6, q7⟩ := h1
          refine ⟨b, c, q1, q2, cs, ty, q3, q4, boxesOk_get hbx n ((memB_iff n kh).1 e) sz d hl, fun i hi => ?_, q7⟩
          have hsz := (okE_spec q5).1
          rw [res_cells d i (by omega)]
          exact rel (q6 i hi)
        | fbox sz d => simp only [resObj] at hn; subst hn; exact h1
        | dict es => simp only [resObj] at hn; subst hn; exact h1
        | siter s pos => simp only [resObj] at hn; subst hn; exact h1
    · rw [if_neg e] at hn; cases hn
  · have get : ∀ {n : Nat} {o : DObj}, hlook (keepH kh (hlook h) kh) n = some o → ∃ o', hlook (Sh.freeze ((h.map (·.1)).filter fun n => !memB n kh) h) n = some o' := fun {n o} hn => by
      rw [hk'] at hn
      by_cases e : memB n kh = true
      · rw [hkeep n e]
        cases hl : hlook h n with
        | none => rw [if_pos e, hl] at hn; cases hn
        | some o0 => exact ⟨o0, rfl⟩
      · rw [if_neg e] at hn; cases hn
    obtain ⟨o1, h1⟩ := get hn
    obtain ⟨o2, h2⟩ := get hm
    exact S1.dis n m o1 o2 b c b' c' hne h1 h2 e1 e2

theorem Sim.keep (S : Sim B nt M0 w0 M ρ t h a w) (kh kt : List Nat) (hk0 : ∀ n o, hlook B.h0 n = some o → n ∈ kh) (hbx : boxesOk kh (hlook h) kh = true) : ∃ M', Sim B nt M0 w0 M' ρ (keepT kh (hlook h) t kt) (keepH kh (hlook h) kh) a w := by
  obtain ⟨M', h1, _⟩ := S.keepR kh kt hk0 hbx
  exact ⟨M', h1⟩

/-- Do all scopes keep these objects? -/
def keepsAll (ns : List Nat) : DC → Bool
  | .seq a b => keepsAll ns a && keepsAll ns b
  | .cond _ a b => keepsAll ns a && keepsAll ns b
  | .block _ k a => (match k with | none => true | some k => ns.all (memB · k.kh)) && keepsAll ns a
  | .loop k b => ns.all (memB · k.kh) && keepsAll ns b
  | _ => true

theorem hlook_mem {h : Heap} {n : Nat} {o : DObj} (e : hlook h n = some o) : n ∈ h.map (·.1) :=
  Classical.byContradiction fun hc => by rw [hlook_none hc] at e; cases e

theorem keeps_kh {h : Heap} {kh : List Nat} (hk : (h.map (·.1)).all (memB · kh) = true) : ∀ n o, hlook h n = some o → n ∈ kh := fun n o e =>
  (memB_iff n kh).1 (List.all_eq_true.1 hk n (hlook_mem e))

theorem Sim.keepK {k : Option Keep} {N : SP} (S : Sim B nt M0 w0 M ρ t h a w) (hk0 : ∀ k', k = some k' → ∀ n o, hlook B.h0 n = some o → n ∈ k'.kh) (hk : Sh.keepK k t h N) : ∃ M' t' h', Sim B nt M0 w0 M' ρ t' h' a w ∧ N t' h' := by
  cases k with
  | none => exact ⟨M, t, h, S, hk⟩
  | some k =>
    simp only [Sh.keepK, keepTK_eq, keepHK_eq, List.reverse_nil, List.nil_append] at hk
    obtain ⟨M', S'⟩ := S.keep k.kh k.kt (hk0 k rfl) hk.1
    exact ⟨M', _, _, S', hk.2⟩

/-- A nil slice as a row without elements. -/
theorem Sim.enter {i : Nat} (S : Sim B nt M0 w0 M ρ t h a w) (ht : tget t i = .full []) (hn : hlook h i = none) :
    Sim B nt M0 w0 M (fun m => if m = i then none else ρ m) ((i, .own i 0 0 0) :: t) ((i, .row 0 [] false) :: h) a w := by
  have hl : ∀ m, hlook ((i, DObj.row 0 [] false) :: h) m = if i = m then some (.row 0 [] false) else hlook h m := fun m => hlook_cons _ _ _ _
  have hx : Ext M ρ h M (fun m => if m = i then none else ρ m) ((i, .row 0 [] false) :: h) := by
    refine ⟨M.le_refl, fun m sz es fr e => ?_, fun m o e hk => ?_⟩
    · have hne : i ≠ m := fun e2 => by subst e2; rw [hn] at e; cases e
      exact ⟨sz, es, fr, by rw [hl, if_neg hne]; exact e, Nat.le_refl _, fun _ => ⟨.inl rfl, by simp [Ne.symm hne]⟩⟩
    · have hne : i ≠ m := fun e2 => by subst e2; rw [hn] at e; cases e
      exact ⟨by simp [Ne.symm hne], o, by rw [hl, if_neg hne]; exact e, like_refl hk⟩
  refine { S with tm := fun j => ?_, obj := fun m o e => ?_, dis := fun m m' o p b c b' c' hne e1 e2 e3 e4 => ?_, ext := S.ext.trans hx }
  · rw [tget_cons]
    by_cases e : i = j
    · subst e
      rw [if_pos rfl]
      have hr := S.tm i
      rw [ht] at hr
      have hv := hr.inv_full
      generalize a.tmps.getD i Go.undef = v at *
      cases hv with
      | full _ as_ sz b o g ha hsz hM hr' =>
        refine .own i 0 0 0 0 [] false _ (by rw [hl, if_pos rfl]) (Nat.le_refl _) ⟨_, _, _, rfl⟩ (fun _ => ⟨Nat.le_refl _, ?_⟩)
        simp only [if_true]
        exact ⟨as_, rfl⟩
    · rw [if_neg e]; exact (S.tm j).ext hx
  · rw [hl] at e
    by_cases e2 : i = m
    · subst e2
      rw [if_pos rfl] at e; cases e
      simp [ObjRel]
    · rw [if_neg e2] at e
      exact (S.obj m o e).ext hx (by simp [Ne.symm e2])
  · rw [hl] at e1 e2
    by_cases h1 : m = i
    · simp [h1] at e3
    · by_cases h2 : m' = i
      · simp [h2] at e4
      · rw [if_neg (Ne.symm h1)] at e1; rw [if_neg (Ne.symm h2)] at e2
        simp only [h1, h2, if_false] at e3 e4
        exact S.dis m m' o p b c b' c' hne e1 e2 e3 e4

theorem Sim.enterK {N : SP} : ∀ {l : List Nat} {ρ : Locs} {t : Tmps} {h : Heap}, Sim B nt M0 w0 M ρ t h a w → Sh.enterK l t h N → ∃ ρ' t' h', Sim B nt M0 w0 M ρ' t' h' a w ∧ N t' h'
  | [], ρ, t, h, S, hk => ⟨ρ, t, h, S, hk⟩
  | i :: r, ρ, t, h, S, hk => by
    unfold Sh.enterK at hk
    split at hk
    · rename_i ht
      split at hk
      · rename_i hn; exact Sim.enterK (S.enter ht hn) hk
      · exact Sim.enterK S hk
    · exact Sim.enterK S hk

/-! Code. -/

def DExit.toExit : DExit → Exit
  | .normal => .normal
  | .exit i => .exit i
  | .ret => .ret

/-- What the code must come to, read over the model. -/
def ReadsQ (B : Base) (nt : Nat) (M0 : Mem) (w0 : World) (DQ : DExit → SP) (Q : Exit → Act → World → Prop) : Prop :=
  ∀ e t h M ρ a w, DQ e t h → Sim B nt M0 w0 M ρ t h a w → Q e.toExit a w

variable {F : Fence} {n : Nat}

theorem code_run (hG : GOk G M0) (hF : ∀ f, F.fn f) (hd : F.depth = none) (hmo : P.follows .mixedOrders = true) {ann : Ann} :
    ∀ (c : Code) (blk : Nat) (dc : DC), cCode P ann nt blk c = some dc → keepsAll (B.h0.map (·.1)) dc = true → ∀ {DQ : DExit → SP} {t : Tmps} {h : Heap}, dwp P G dc DQ t h → ∀ {M : Mem} {ρ : Locs} {a : Act} {w : World}, Sim B nt M0 w0 M ρ t h a w →
      ∀ {Q : Exit → Act → World → Prop}, ReadsQ B nt M0 w0 DQ Q → c.wpIn F n P Q a w := by
  intro c
  induction c with
  | skip =>
    intro blk dc hc hka DQ t h hw M ρ a w S Q hQ
    simp only [cCode, Option.some.injEq] at hc; subst hc
    exact wpIn_skip (hQ .normal _ _ _ _ _ _ hw S)
  | region id ops draw =>
    intro blk dc hc hka DQ t h hw M ρ a w S Q hQ
    simp only [cCode] at hc
    split at hc
    · rename_i l hl
      obtain ⟨c1, hc⟩ := cond_some hc
      simp only [Option.some.injEq] at hc; subst hc
      cases draw with
      | false =>
        obtain ⟨fs, t2, h2, ch, hq⟩ := opsWp_chain hw
        obtain ⟨hlen, hops⟩ := cOpers_spec ops.toList 0 [] l rfl hl
        refine wpIn_region ?_
        have := plain_run (n := n) (Q := Q) (ops := ops) (nt := nt) hG hF hd ch 0 (fun k dop hk => ?_) S (fun M' ρ' a' w' S' => hQ .normal _ _ _ _ _ _ hq S')
        · rw [List.range_eq_range']
          rw [hlen] at this; simp at this; exact this
        · have hlt : k < l.length := (List.getElem?_eq_some_iff.1 hk).1
          rw [hlen] at hlt
          have hk2 : ops.toList[k]? = some ops.toList[k] := List.getElem?_eq_getElem hlt
          refine ⟨ops.toList[k], ?_, (hops k _ dop hk2 hk).1⟩
          rw [Nat.zero_add]; simp
      | true =>
        simp only [Bool.not_true, Bool.false_or] at c1
        obtain ⟨fs, t2, h2, ch, hft, hq⟩ := drawWp_chain hw
        rw [List.reverse_nil, List.nil_append] at hft
        refine wpIn_region_any hmo ?_
        have hS : Sim B nt M0 w0 M ρ t h a { w with drawn := w.drawn + 1 } := S.world (fun _ _ => rfl) ⟨S.below.os, S.below.tape, S.below.output, S.below.size, S.below.block⟩
        exact draw_run hG hF hd hl c1 ch hft hS (fun M' ρ' a' w' S' => hQ .normal _ _ _ _ _ _ hq S')
    · cases hc
  | seq x y ihx ihy =>
    intro blk dc hc hka DQ t h hw M ρ a w S Q hQ
    simp only [cCode] at hc
    split at hc
    · rename_i dx dy hx hy
      simp only [Option.some.injEq] at hc; subst hc
      simp only [keepsAll, Bool.and_eq_true] at hka
      refine wpIn_seq (ihx blk dx hx hka.1 hw S ?_)
      intro e t' h' M' ρ' a' w' hq S'
      cases e with
      | normal => exact ihy blk dy hy hka.2 hq S' hQ
      | exit i => exact hQ (.exit i) _ _ _ _ _ _ hq S'
      | ret => exact hQ .ret _ _ _ _ _ _ hq S'
    · cases hc
  | cond cnd x y ihx ihy =>
    intro blk dc hc hka DQ t h hw M ρ a w S Q hQ
    simp only [cCode] at hc
    split at hc
    · rename_i dx dy hx hy
      simp only [Option.some.injEq] at hc; subst hc
      unfold dwp at hw
      split at hw
      · rename_i v hv
        have hrel := S.opd hG cnd
        rw [hv] at hrel
        simp only [keepsAll, Bool.and_eq_true] at hka
        exact wpIn_cond_split hrel.inv_bool (fun e => ihx blk dx hx hka.1 (hw.1 e) S hQ) (fun e => ihy blk dy hy hka.2 (hw.2 e) S hQ)
      · exact hw.elim
    · cases hc
  | block id x ih =>
    intro blk dc hc hka DQ t h hw M ρ a w S Q hQ
    simp only [cCode] at hc
    split at hc
    · rename_i dx hx
      simp only [Option.some.injEq] at hc; subst hc
      simp only [keepsAll, Bool.and_eq_true] at hka
      have hkk : ∀ k', assoc ann.blocks id = some k' → ∀ n o, hlook B.h0 n = some o → n ∈ k'.kh := fun k' e => by
        have h1 := hka.1; rw [e] at h1; exact keeps_kh h1
      refine wpIn_block (ih id dx hx hka.2 hw S ?_)
      intro e t' h' M' ρ' a' w' hq S'
      cases e with
      | normal =>
        obtain ⟨M2, t2, h2, S2, hq2⟩ := S'.keepK hkk hq
        exact hQ .normal _ _ _ _ _ _ hq2 S2
      | exit i =>
        simp only [blockQ] at hq
        show (if i = id then Q .normal a' w' else Q (.exit i) a' w')
        rw [natbeq] at hq
        by_cases e : i = id
        · rw [if_pos e]
          simp only [e, decide_true, cond_true] at hq
          obtain ⟨M2, t2, h2, S2, hq2⟩ := S'.keepK hkk hq
          exact hQ .normal _ _ _ _ _ _ hq2 S2
        · rw [if_neg e]
          simp only [e, decide_false, cond_false] at hq
          exact hQ (.exit i) _ _ _ _ _ _ hq S'
      | ret => exact hQ .ret _ _ _ _ _ _ hq S'
    · cases hc
  | loop x ih =>
    intro blk dc hc hka DQ t h hw M ρ a w S Q hQ
    simp only [cCode] at hc
    split at hc
    · rename_i dx hx
      simp only [Option.some.injEq] at hc; subst hc
      simp only [keepsAll, Bool.and_eq_true] at hka
      have hkk := keeps_kh hka.1
      unfold dwp loopWp at hw
      obtain ⟨ρ1, t1, h1, S1, hbx, m, hw⟩ := S.enterK hw
      obtain ⟨M2, S2⟩ := S1.keep _ ((assoc ann.loops blk).getD default).kt hkk hbx
      refine wpIn_loop_rounds m ?_
      have key : ∀ (m : Nat) (t : Tmps) (h : Heap) (M : Mem) (ρ : Locs) (a : Act) (w : World), loopN (dwp P G dx) ((assoc ann.loops blk).getD default) DQ m t h → Sim B nt M0 w0 M ρ t h a w → x.roundsIn F n P Q m a w := by
        intro m
        induction m with
        | zero => intro t h M ρ a w hw _; exact hw.elim
        | succ m ihm =>
          intro t h M ρ a w hw S
          rw [roundsIn_succ]
          refine ih blk dx hx hka.2 hw S ?_
          intro e t' h' M' ρ' a' w' hq S'
          cases e with
          | normal =>
            obtain ⟨M3, S3⟩ := S'.keep _ ((assoc ann.loops blk).getD default).kt hkk hq.1
            exact ihm _ _ M3 ρ' a' w' hq.2 S3
          | exit i => exact hQ (.exit i) _ _ _ _ _ _ hq S'
          | ret => exact hQ .ret _ _ _ _ _ _ hq S'
      exact key m _ _ M2 ρ1 a w hw S2
    · cases hc
  | exit id =>
    intro blk dc hc hka DQ t h hw M ρ a w S Q hQ
    simp only [cCode, Option.some.injEq] at hc; subst hc
    exact wpIn_exit (hQ (.exit id) _ _ _ _ _ _ hw S)
  | ret =>
    intro blk dc hc hka DQ t h hw M ρ a w S Q hQ
    simp only [cCode, Option.some.injEq] at hc; subst hc
    exact wpIn_ret (hQ .ret _ _ _ _ _ _ hw S)
  | _ => intro blk dc hc; simp [cCode] at hc

/-! The end of a function. -/

theorem keepsAll_nil : ∀ c : DC, keepsAll [] c = true
  | .seq a b => by simp [keepsAll, keepsAll_nil a, keepsAll_nil b]
  | .cond _ a b => by simp [keepsAll, keepsAll_nil a, keepsAll_nil b]
  | .block _ k a => by cases k <;> simp [keepsAll, keepsAll_nil a]
  | .loop _ b => by simp [keepsAll, keepsAll_nil b]
  | .skip => rfl
  | .ops _ _ => rfl
  | .exit _ => rfl
  | .ret => rfl

def DObj.isMap : DObj → Bool
  | .dict _ => true
  | .siter _ _ => true
  | _ => false

theorem Sim.map_block (S : Sim B nt M0 w0 M ρ t h a w) {n b c : Nat} {o : DObj} (hn : hlook h n = some o) (ho : o.isMap = true) (hρ : ρ n = some (b, c)) (ds : Option (List Deferred)) : w.heap[b]? ≠ some (.deferred ds) := fun e => by
  have h1 := S.obj n o hn
  cases o with
  | row _ _ _ => cases ho
  | box _ _ => cases ho
  | fbox _ _ => cases ho
  | dict es => obtain ⟨b', c', q1, q2, ⟨E, q3, q4⟩, q5⟩ := h1; rw [hρ] at q1; cases q1; rw [e] at q3; cases q3
  | siter s pos => obtain ⟨b', c', q1, q2, q3, q5⟩ := h1; rw [hρ] at q1; cases q1; rw [e] at q3; cases q3

/-- The world is another one; what the relation speaks of lies there as it lay. -/
theorem Sim.other (S : Sim B nt M0 w0 M ρ t h a w) {w' : World} {a' : Act} (ha : a'.tmps = a.tmps) (hk : ∀ (k : Nat) (o : Obj), w.heap[k]? = some o → o.isCells = true → w'.heap[k]? = some o)
    (hd : ∀ (n : Nat) (o : DObj) (b c : Nat), hlook h n = some o → o.isMap = true → ρ n = some (b, c) → w'.heap[b]? = w.heap[b]?) (hm : MarksOk B w' a'.defers) (hb : B.touch w0 w') : Sim B nt M0 w0 M ρ t h a' w' := by
  refine { S with tm := fun i => (by rw [ha]; exact S.tm i), mem := fun b o v e => ?_, obj := fun n o hn => ?_, below := hb, marks := hm, size := (by rw [ha]; exact S.size) }
  · have h1 := S.mem b o v e
    obtain ⟨ob, h2, h3⟩ := cells_of_cell h1
    have h4 := hk _ ob h2 h3
    rw [World.cell?_of_block (w := w) (w' := w') (a := ⟨b, o, none⟩) (by rw [h2]; exact h4)]; exact h1
  · have h1 := S.obj n o hn
    cases o with
    | row sz es fr =>
      simp only [ObjRel] at h1 ⊢
      cases hρ : ρ n with
      | none => rw [hρ] at h1; exact h1
      | some bc =>
        obtain ⟨b, c⟩ := bc
        rw [hρ] at h1
        obtain ⟨h2, cs, ty, h3, h4⟩ := h1
        exact ⟨h2, cs, ty, hk _ _ h3 rfl, h4⟩
    | box sz d =>
      obtain ⟨b, c, h1, h2, cs, ty, h3, h4⟩ := h1
      exact ⟨b, c, h1, h2, cs, ty, hk _ _ h3 rfl, h4⟩
    | fbox sz d =>
      obtain ⟨b, c, h1, h2, cs, ty, h3, h4⟩ := h1
      exact ⟨b, c, h1, h2, cs, ty, hk _ _ h3 rfl, h4⟩
    | dict es =>
      obtain ⟨b, c, h1, h2, ⟨E, h3, h4⟩, h5⟩ := h1
      exact ⟨b, c, h1, h2, ⟨E, by rw [hd n _ b c hn rfl h1]; exact h3, h4⟩, h5⟩
    | siter s pos =>
      obtain ⟨b, c, h1, h2, h3, h5⟩ := h1
      exact ⟨b, c, h1, h2, by rw [hd n _ b c hn rfl h1]; exact h3, h5⟩

theorem putObj_other {w : World} {b : Nat} {o o' : Obj} (hb : w.heap[b]? = some o') (ho : o'.isCells = false) (k : Nat) (x : Obj) (hx : w.heap[k]? = some x) (hc : x.isCells = true) : (w.putObj b o).heap[k]? = some x := by
  have hne : k ≠ b := fun e => by subst e; rw [hb] at hx; cases hx; rw [ho] at hc; cases hc
  rw [World.putObj_heap_other hne]; exact hx

/-- A function is left: the marks of its loops over functions are taken in. -/
theorem Sim.leave {fn : Func} {R : Ending → World → Prop} : ∀ {a : Act} {w : World}, Sim B nt M0 w0 M ρ t h a w →
    (∀ (a' : Act) (w' : World), a'.tmps = a.tmps → Sim B nt M0 w0 M ρ t h a' w' → ∃ v, (results fn a'.tmps).run P w' = .ok v w' ∧ R (.returned v) w') → LeavesInM F n P fn a.tmps R a.defers .returning w := by
  intro a w
  generalize hds : a.defers = ds
  induction ds generalizing a w with
  | nil => intro S hR; exact hR a w rfl S
  | cons d ds ih =>
    intro S hR
    obtain ⟨m1, m2⟩ := S.marks
    rw [hds] at m1 m2
    obtain ⟨D, rfl, h1, h2⟩ := m1 d (by simp)
    obtain ⟨m3, m4⟩ := List.pairwise_cons.1 m2
    refine ⟨by simp, .inl ⟨D, w.putObj D (.deferred none), rfl, run_takeDeferred h2, ?_⟩⟩
    have S' : Sim B nt M0 w0 M ρ t h { a with defers := ds } (w.putObj D (.deferred none)) := by
      refine S.other rfl (putObj_other h2 rfl) (fun n o b c hn ho hρ => World.putObj_heap_other (fun e => by subst e; exact S.map_block hn ho hρ _ h2)) ⟨fun d hd => ?_, m4⟩ ?_
      · obtain ⟨D', e1, e2, e3⟩ := m1 d (by simp [hd])
        refine ⟨D', e1, e2, ?_⟩
        have hne : D' ≠ D := fun e => m3 d hd (by rw [e1, e])
        rw [World.putObj_heap_other hne]; exact e3
      · refine S.below.trans ⟨rfl, rfl, rfl, by simp, fun k hk => World.putObj_heap_other (fun e => hk (.inl (by rw [e]; exact h1)))⟩
    exact @ih { a with defers := ds } _ rfl S' (fun a' w' ha S'' => hR a' w' ha S'')

/-! A function. -/

def resSem (tmps : Array Value) : ResultVar → Sem Value
  | .tmp t => pure (tmps.getD t undef)
  | .cell a t => do loadVar t (← asAddr (tmps.getD a undef))

theorem results_eq (fn : Func) (tmps : Array Value) : results fn tmps = (do let vs ← fn.results.mapM (resSem tmps); pure (if h : vs.size = 1 then vs[0] else .tuple vs)) := by
  unfold results
  congr 1

theorem res_run (hG : GOk G M0) (S : Sim B nt M0 w0 M ρ t h a w) {r : ResultVar} {l : List DRes} (hr : resultsOf P [r] = some l) {ds : List DV} (hv : resVals (hlook h) t l = some ds) :
    ∃ d v, ds = [d] ∧ (resSem a.tmps r).run P w = .ok v w ∧ RelV M ρ h d v := by
  cases r with
  | tmp i =>
    simp only [resultsOf, Option.some.injEq] at hr; subst hr
    simp only [resVals, resVal, Option.some.injEq] at hv; subst hv
    exact ⟨_, _, rfl, rfl, S.tm i⟩
  | cell x ty =>
    simp only [resultsOf] at hr
    split at hr
    · rename_i sz agg l' hel hl'
      simp only [Option.some.injEq] at hl' hr; subst hl'; subst hr
      obtain ⟨e1, e2, e3, e4, e5⟩ := elemT_spec hel
      simp only [resVals, resVal] at hv
      split at hv
      · rename_i d ds' hd hds
        simp only [Option.some.injEq] at hds hv; subst hds; subst hv
        split at hd
        · rename_i n off hx
          split at hd
          · rename_i szb d0 hl
            have r1 := S.tm x; rw [hx] at r1
            obtain ⟨sz', b, c, d', q1, q2, q3⟩ := r1.inv_bptr
            obtain ⟨cs, ty', e6, e7, e8, e9, e10⟩ := box_cells hG S (.inl hl) q3
            cases agg with
            | false =>
              simp only [cond_false] at hd
              obtain ⟨c1, hd⟩ := cond_some hd
              simp only [Option.some.injEq] at hd; subst hd
              simp only [Bool.and_eq_true] at c1
              have h0 := Nat.eq_of_beq_eq_true c1.1; subst h0
              have h1 : 0 < szb := Nat.le_of_ble_eq_true c1.2
              have := e4 rfl; subst this
              refine ⟨_, cs.getD 0 Go.undef, rfl, ?_, (e10 0 h1).2⟩
              have := loadVar_run1 (P := P) hel (e10 0 h1).1
              simp only [resSem, q1, asAddr, Sem.run_bind, Sem.run_pure, Result.andThen_ok, this]
            | true =>
              simp only [cond_true] at hd
              obtain ⟨c1, hd⟩ := cond_some hd
              simp only [Option.some.injEq] at hd; subst hd
              simp only [Bool.and_eq_true] at c1
              have h0 := Nat.eq_of_beq_eq_true c1.1.1; subst h0
              have h1 := Nat.eq_of_beq_eq_true c1.1.2; subst h1
              refine ⟨_, .agg (gcells (fun j => cs.getD (0 + j) Go.undef) sz), rfl, ?_, ?_⟩
              · have := loadVar_run (P := P) hel (b := b) (o := 0) (g := fun j => cs.getD (0 + j) Go.undef) (w := w) (fun j hj => (e10 (0 + j) (by omega)).1)
                simp only [resSem, q1, asAddr, Sem.run_bind, Sem.run_pure, Result.andThen_ok, this, cond_true]
              · rw [← whole_agg hG S c1.2 e8]
                refine .agg _ _ (by rw [gcells_size]; simp; omega) (fun i hi => ?_)
                have hi' : i < sz := by simp at hi; omega
                rw [gcells_getD _ hi', take_drop_getD _ _ _ _ _ hi']
                exact (e10 (0 + i) (by omega)).2
          · cases hd
        · cases hd
      · cases hv
    · cases hr

theorem resultsOf_cons {r : ResultVar} {l : List ResultVar} {rs : List DRes} (h : resultsOf P (r :: l) = some rs) : ∃ x rs', rs = x :: rs' ∧ resultsOf P [r] = some [x] ∧ resultsOf P l = some rs' := by
  cases r with
  | tmp i =>
    simp only [resultsOf] at h ⊢
    split at h
    · rename_i l' hl; simp only [Option.some.injEq] at h; subst h; exact ⟨_, _, rfl, rfl, hl⟩
    · cases h
  | cell x ty =>
    simp only [resultsOf] at h ⊢
    split at h
    · rename_i sz agg l' he hl; simp only [Option.some.injEq] at h; subst h; exact ⟨_, _, rfl, by rw [he], hl⟩
    · cases h

theorem resultsOf_run (hG : GOk G M0) (S : Sim B nt M0 w0 M ρ t h a w) : ∀ (l : List ResultVar) (rs : List DRes), resultsOf P l = some rs → ∀ ds, resVals (hlook h) t rs = some ds →
    ∃ vs : List Value, (l.mapM (resSem a.tmps)).run P w = .ok vs w ∧ ds.length = vs.length ∧ l.length = vs.length ∧ ∀ i, i < ds.length → RelV M ρ h (ds.getD i .undef) (vs.getD i Go.undef)
  | [], rs, hr, ds, hv => by
    simp only [resultsOf, Option.some.injEq] at hr; subst hr
    simp only [resVals, Option.some.injEq] at hv; subst hv
    exact ⟨[], by simp, rfl, rfl, fun i hi => by simp at hi⟩
  | r :: l, rs, hr, ds, hv => by
    obtain ⟨x, rs', rfl, h1, h2⟩ := resultsOf_cons hr
    simp only [resVals] at hv
    split at hv
    · rename_i d ds' hd hds
      simp only [Option.some.injEq] at hv; subst hv
      obtain ⟨d', v, e1, e2, e3⟩ := res_run hG S h1 (ds := [d]) (by simp only [resVals, hd])
      simp only [List.cons.injEq, and_true] at e1; subst e1
      obtain ⟨vs, k1, k2, k3, k4⟩ := resultsOf_run hG S l rs' h2 ds' hds
      refine ⟨v :: vs, by simp [List.mapM_cons, e2, k1], by simp [k2], by simp [k3], fun i hi => ?_⟩
      cases i with
      | zero => exact e3
      | succ i => simpa using k4 i (by simpa using hi)
    · cases hv

theorem pack_rel {M : Mem} {ds : List DV} {vs : List Value} (e1 : ds.length = vs.length) (e2 : ∀ i, i < vs.length → RelP M (ds.getD i .undef) (vs.getD i Go.undef)) :
    RelP M (pack ds) (if h : vs.length = 1 then vs[0]'(by omega) else .tuple vs.toArray) := by
  by_cases hl : vs.length = 1
  · rw [dif_pos hl]
    match ds, e1 with
    | [x], _ =>
      have := e2 0 (by omega)
      simpa [pack, List.getD_eq_getElem?_getD, List.getElem?_eq_getElem (show 0 < vs.length by omega)] using this
    | [], e1 => simp at e1; omega
    | _ :: _ :: _, e1 => simp at e1; omega
  · rw [dif_neg hl]
    have : pack ds = .tuple ds := by
      match ds, e1 with
      | [x], e1 => simp at e1; omega
      | [], _ => rfl
      | _ :: _ :: _, _ => rfl
    rw [this]
    refine .tuple ds _ (by simp [e1]) (fun i hi => ?_)
    have := e2 i (by omega)
    simpa [Array.getD_eq_getD_getElem?, List.getD_eq_getElem?_getD] using this

theorem packV_rel {ds : List DV} {vs : List Value} (e1 : ds.length = vs.length) (e2 : ∀ i, i < vs.length → RelV M ρ h (ds.getD i .undef) (vs.getD i Go.undef)) :
    RelV M ρ h (pack ds) (if h : vs.length = 1 then vs[0]'(by omega) else .tuple vs.toArray) := by
  by_cases hl : vs.length = 1
  · rw [dif_pos hl]
    match ds, e1 with
    | [x], _ =>
      have := e2 0 (by omega)
      simpa [pack, List.getD_eq_getElem?_getD, List.getElem?_eq_getElem (show 0 < vs.length by omega)] using this
    | [], e1 => simp at e1; omega
    | _ :: _ :: _, e1 => simp at e1; omega
  · rw [dif_neg hl]
    have : pack ds = .tuple ds := by
      match ds, e1 with
      | [x], e1 => simp at e1; omega
      | [], _ => rfl
      | _ :: _ :: _, _ => rfl
    rw [this]
    refine .tuple ds _ (by simp [e1]) (fun i hi => ?_)
    have := e2 i (by omega)
    simpa [Array.getD_eq_getD_getElem?, List.getD_eq_getElem?_getD] using this

theorem outs_run (hG : GOk G M0) {fn : Func} {rs : List DRes} (hrs : resultsOf P fn.results.toList = some rs) {d : DV} (S : Sim B nt M0 w0 M ρ t h a w) (ho : outs rs d t h) :
    ∃ v M', (results fn a.tmps).run P w = .ok v w ∧ M0.le M' ∧ M'.holds w ∧ RelP M' d v ∧ ∀ b o v, M' b o = some v → M0 b o = none → B.wr b := by
  unfold outs at ho
  split at ho
  · exact ho.elim
  rename_i ds0 hv0
  obtain ⟨vs, hvs, hl1, hl2, hrel0⟩ := resultsOf_run hG S _ rs hrs ds0 hv0
  obtain ⟨M1, m1, S1, m2, m3, m4⟩ := S.freeze (namess ds0)
  have hrun : (results fn a.tmps).run P w = .ok (if h : vs.length = 1 then vs[0]'(by omega) else .tuple vs.toArray) w := by
    rw [results_eq]
    have h2 : (fn.results.mapM (resSem a.tmps)).run P w = .ok vs.toArray w := by
      rw [Array.mapM_eq_mapM_toList]
      simp [hvs]
    rw [Sem.run_bind, h2]
    by_cases hl : vs.length = 1
    · simp [hl]
    · simp [hl]
  have hrel : ∀ p ds, purs (hlook h) ds0 = some (p, ds) → holds p → ds.length = vs.length ∧ ∀ i, i < vs.length → RelP M1 (ds.getD i .undef) (vs.getD i Go.undef) := fun p ds hv hp => by
    obtain ⟨e1, e2⟩ := purs_rel S1 (hlook h) ds0 (fun i => vs.getD i Go.undef) p ds hv hp (fun i hi => (hrel0 i hi).ext m3) (fun m hm sz es fr e => by rw [m4 m sz es fr e]; simp [hm]) (fun m hm sz d0 hl hp => freeze_fbox hm hl hp)
    exact ⟨by omega, fun i hi => e2 i (by omega)⟩
  refine ⟨_, M1, hrun, Mem.le_trans S.le m1, S1.mem, ?_, S1.new⟩
  split at ho
  · rename_i p ds hv
    obtain ⟨hp, ho⟩ := pre_holds ho
    rw [forceS_eq] at ho
    simp only [List.reverse_nil, List.nil_append] at ho
    subst ho
    obtain ⟨e1, e2⟩ := hrel p ds hv hp
    exact pack_rel e1 e2
  · exact ho.elim
end

theorem tget_params : ∀ (ds : List DV) (j i : Nat), tget (params ds j) i = if j ≤ i ∧ i < j + ds.length then ds.getD (i - j) .undef else .undef
  | [], j, i => by
    simp only [params, List.length_nil]
    rw [if_neg (by omega)]; rfl
  | d :: r, j, i => by
    unfold params
    rw [tget_cons, tget_params r (j + 1) i]
    by_cases e : j = i
    · subst e; simp
    · rw [if_neg e]
      by_cases h : j + 1 ≤ i ∧ i < j + 1 + r.length
      · rw [if_pos h, if_pos (by simp only [List.length_cons]; omega)]
        rw [show i - j = (i - (j + 1)) + 1 by omega]; simp
      · rw [if_neg h, if_neg (by simp only [List.length_cons]; omega)]

/-- A function's contract, from its shadow code. -/
theorem pureCall_of {P : Program} {G : Nat → Option DV} {ann : Ann} {f : FuncId} {ds : List DV} {d : DV} {df : DFunc} (hc : cProg P ann f = some df) (hn : ds.length = df.nargs)
    (h : dwp P G df.body (retQ df.results d) (params ds 0) []) : PureCall P G f ds d := by
  unfold cProg at hc
  split at hc
  · rename_i fn hfn
    unfold cFunc at hc
    split at hc
    · rename_i c rs hb hrs
      split at hc
      · rename_i dc hdc
        obtain ⟨c1, hc⟩ := cond_some hc
        simp only [Option.some.injEq] at hc; subst hc
        simp only [Bool.and_eq_true] at c1
        obtain ⟨⟨c1, c2⟩, c3⟩ := c1
        have c3 := Nat.le_of_ble_eq_true c3
        refine ⟨fun args w => ?_, fun F n hF hd hr M w vs hG hM hrel => ?_⟩
        · unfold callFunc
          have hname : (fn.name == "runtime.NumGoroutine") = false := by simpa using c2
          have hbody : fn.body.isNone = false := by rw [hb]; rfl
          have hname' : fn.name ≠ "runtime.NumGoroutine" := by simpa using hname
          have hbody' : fn.body ≠ none := by rw [hb]; simp
          simp [Sem.run_bind, hfn, hname', hbody']
        · obtain ⟨r1, r2⟩ := hrel
          have hnt : vs.size ≤ fn.ntmps := by simp only at hn; omega
          refine callsIn_of_wp_marks hfn hb (hF f) (code_run (M0 := M) (w0 := w) (B := Base.plain w.heap.size) (nt := fn.ntmps) hG hF hd c1 c 0 dc hdc (keepsAll_nil dc) h (M := M) (ρ := fun _ => none) ?_ ?_) hr
          · refine { le := M.le_refl, tm := fun i => ?_, mem := hM, obj := fun n o h => (by simp [hlook] at h), dis := fun n m o p b c b' c' _ h => (by simp [hlook] at h), below := Base.touch.refl _ _, hB := rfl, new := fun b o v e e0 => (by rw [e] at e0; cases e0), size := (by simp; omega), marks := ⟨fun d hd => (by simp at hd), .nil⟩, ext := Ext.refl _ _ _ }
            rw [tget_params]
            by_cases hi : i < ds.length
            · rw [if_pos ⟨Nat.zero_le _, by omega⟩]
              have h1 : (vs ++ Array.replicate (fn.ntmps - vs.size) undef).getD i Go.undef = vs.getD i Go.undef := by
                simp [Array.getD_eq_getD_getElem?, Array.getElem?_append, show i < vs.size by omega]
              rw [h1]; exact .pure (r2 i hi)
            · rw [if_neg (by omega)]; exact .pure (.undef _)
          · have key : ∀ (t : Tmps) (h : Heap) (M' : Mem) (ρ : Locs) (a : Act) (w' : World), outs rs d t h → Sim (Base.plain w.heap.size) fn.ntmps M w M' ρ t h a w' → LeavesInM F n P fn a.tmps (After M w d) a.defers .returning w' := by
              intro t h M' ρ a w' ho S
              refine S.leave (fun a' w' ht S' => ?_)
              obtain ⟨v, M2, q1, q2, q3, q4, q5⟩ := outs_run (P := P) hG hrs S' ho
              exact ⟨v, q1, v, M2, rfl, q2, q3, q4, S'.below.below, fun b o v e e0 => by have := q5 b o v e e0; simpa [Base.wr, Base.plain] using this⟩
            intro e t h M' ρ a w' hq S
            cases e with
            | normal => exact key t h M' ρ a w' hq S
            | ret => exact key t h M' ρ a w' hq S
            | exit i => exact hq.elim
      · cases hc
    · cases hc
  · cases hc

theorem ObjRel.base {B B' : Base} {M : Mem} {ρ : Locs} {h : Heap} {w : World} {n : Nat} {o : DObj} (ho : ObjRel B M ρ h w n o) (hb : ∀ b c, ρ n = some (b, c) → B'.wr b) : ObjRel B' M ρ h w n o := by
  cases o with
  | row sz es fr =>
    simp only [ObjRel] at ho ⊢
    cases hρ : ρ n with
    | none => rw [hρ] at ho; exact ho
    | some bc =>
      obtain ⟨b, c⟩ := bc
      rw [hρ] at ho
      exact ⟨⟨hb b c hρ, ho.1.2⟩, ho.2⟩
  | box sz d => obtain ⟨b, c, q1, q2, q3⟩ := ho; exact ⟨b, c, q1, hb b c q1, q3⟩
  | fbox sz d => obtain ⟨b, c, q1, q2, q3⟩ := ho; exact ⟨b, c, q1, hb b c q1, q3⟩
  | dict es => obtain ⟨b, c, q1, q2, q3⟩ := ho; exact ⟨b, c, q1, hb b c q1, q3⟩
  | siter s p => obtain ⟨b, c, q1, q2, q3⟩ := ho; exact ⟨b, c, q1, hb b c q1, q3⟩

theorem cProg_spec {P : Program} {ann : Ann} {f : FuncId} {df : DFunc} (hc : cProg P ann f = some df) : ∃ fn c, P.funcs[f]? = some fn ∧ fn.body = some c ∧ resultsOf P fn.results.toList = some df.results ∧ cCode P ann fn.ntmps 0 c = some df.body ∧
    P.follows .mixedOrders = true ∧ Enters P f ∧ df.nargs ≤ fn.ntmps := by
  unfold cProg at hc
  split at hc
  · rename_i fn hfn
    unfold cFunc at hc
    split at hc
    · rename_i c rs hb hrs
      split at hc
      · rename_i dc hdc
        obtain ⟨c1, hc⟩ := cond_some hc
        simp only [Option.some.injEq] at hc; subst hc
        simp only [Bool.and_eq_true] at c1
        obtain ⟨⟨c1, c2⟩, c3⟩ := c1
        refine ⟨fn, c, hfn, hb, hrs, hdc, c1, fun args w => ?_, Nat.le_of_ble_eq_true c3⟩
        unfold callFunc
        have hname' : fn.name ≠ "runtime.NumGoroutine" := by simpa using c2
        have hbody' : fn.body ≠ none := by rw [hb]; simp
        simp [Sem.run_bind, hfn, hname', hbody']
      · cases hc
    · cases hc
  · cases hc

/-- A function's contract over objects, from its shadow code. -/
theorem hCall_of {P : Program} {G : Nat → Option DV} {ann : Ann} {f : FuncId} {ds : List DV} {d : DV} {hs hs' : Heap} {df : DFunc} (hc : cProg P ann f = some df) (hn : ds.length = df.nargs) (hk : keepsAll (hs.map (·.1)) df.body = true)
    (hsub : (hs.map (·.1)).all (fun n => (hs'.map (·.1)).any (Nat.beq n)) = true) (hw : dwp P G df.body (retH df.results d hs') (params ds 0) hs) : HCall P G f ds hs d hs' := by
  obtain ⟨fn, c, hfn, hb, hrs, hdc, hmo, hen, hnt⟩ := cProg_spec hc
  refine ⟨hen, fun F n hF hd hr M ρ w vs hG hin hrel => ?_⟩
  obtain ⟨r1, r2⟩ := hrel
  have hsz : vs.size ≤ fn.ntmps := by omega
  have hB0 : ∀ n o, hlook (callB w ρ hs).h0 n = some o → n ∈ hs'.map (·.1) := fun n o e => by
    have h1 := List.all_eq_true.1 hsub n (List.mem_map.2 ⟨(n, o), mem_of_hlook e, rfl⟩)
    exact any_beq.1 h1
  refine callsIn_of_wp_marks hfn hb (hF f) (code_run (M0 := M) (w0 := w) (B := callB w ρ hs) (nt := fn.ntmps) hG hF hd hmo c 0 df.body hdc hk hw (M := M) (ρ := ρ) ?_ ?_) hr
  · refine { le := M.le_refl, tm := fun i => ?_, mem := hin.mem, obj := fun n o h => (hin.obj n o h).base (fun b c e => .inr ⟨n, o, c, h, e⟩), dis := hin.dis, below := Base.touch.refl _ _, hB := rfl, new := fun b o v e e0 => (by rw [e] at e0; cases e0), size := (by simp; omega), marks := ⟨fun d hd => (by simp at hd), .nil⟩, ext := Ext.refl _ _ _ }
    rw [tget_params]
    by_cases hi : i < ds.length
    · rw [if_pos ⟨Nat.zero_le _, by omega⟩]
      have h1 : (vs ++ Array.replicate (fn.ntmps - vs.size) undef).getD i Go.undef = vs.getD i Go.undef := by
        simp [Array.getD_eq_getD_getElem?, Array.getElem?_append, show i < vs.size by omega]
      rw [h1]; exact r2 i hi
    · rw [if_neg (by omega)]; exact .pure (.undef _)
  · have key : ∀ (t : Tmps) (h : Heap) (M' : Mem) (ρ' : Locs) (a : Act) (w' : World), outsH df.results d hs' t h → Sim (callB w ρ hs) fn.ntmps M w M' ρ' t h a w' → LeavesInM F n P fn a.tmps (HAfter M ρ w hs d hs') a.defers .returning w' := by
      intro t h M' ρ' a w' ho S
      refine S.leave (fun a' w' ht S' => ?_)
      unfold outsH at ho
      split at ho
      · exact ho.elim
      · rename_i ds0 hv0
        rw [keepHK_eq] at ho
        simp only [List.reverse_nil, List.nil_append, forceS_eq] at ho
        obtain ⟨hbx, hh, hd⟩ := ho
        obtain ⟨vs', hvs, hl1, hl2, hrel0⟩ := resultsOf_run hG S' _ df.results hrs ds0 hv0
        obtain ⟨M1, S1, hrel1⟩ := S'.keepR (hs'.map (·.1)) [] hB0 hbx
        rw [hh] at S1 hrel1
        have hrun : (results fn a'.tmps).run P w' = .ok (if h : vs'.length = 1 then vs'[0]'(by omega) else .tuple vs'.toArray) w' := by
          rw [results_eq]
          have h2 : (fn.results.mapM (resSem a'.tmps)).run P w' = .ok vs'.toArray w' := by
            rw [Array.mapM_eq_mapM_toList]
            simp [hvs]
          rw [Sem.run_bind, h2]
          by_cases hl : vs'.length = 1
          · simp [hl]
          · simp [hl]
        refine ⟨_, hrun, _, M1, ρ', rfl, ⟨S1.mem, fun n o e => (S1.obj n o e).base (fun b c _ => wr_any b), S1.dis⟩, S1.ext, ?_, S1.below, S1.new, fun n o b c e1 e2 => loc_wr S1 e1 e2⟩
        rw [← hd]
        have e1 : (ress (hs'.map (·.1)) (hlook h) ds0).length = vs'.length := by rw [ress_length]; omega
        refine packV_rel e1 (fun i hi => ?_)
        have h3 := hrel1 _ _ (hrel0 i (by omega))
        rw [ress_getD _ _ _ _ (by omega)]; exact h3
    intro e t h M' ρ' a w' hq S
    cases e with
    | normal => exact key t h M' ρ' a w' hq S
    | ret => exact key t h M' ρ' a w' hq S
    | exit i => exact hq.elim
end Sh
