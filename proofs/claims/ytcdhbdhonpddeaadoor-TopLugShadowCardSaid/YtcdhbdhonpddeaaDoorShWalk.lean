/- Rules for proofs over the shadow semantics. -/
import Derived.Test.YtcdhbdhonpddeaaDoorShComp
set_option linter.unusedVariables false
namespace Sh
open Go
variable {P : Program} {G : Nat → Option DV}

theorem pre_mono {p : Option Prop} {N N' : Prop} (h : N → N') (hs : pre p N) : pre p N' := by
  cases p with
  | none => exact h hs
  | some p => exact ⟨hs.1, h hs.2⟩

theorem force_mono {k k' : DV → Prop} (h : ∀ d, k d → k' d) {d : DV} (hs : force k d) : force k' d := by
  rw [force_eq] at *; exact h _ hs

theorem forceU_mono {k k' : Heap → Prop} (h : ∀ d, k d → k' d) : ∀ {u a : Heap}, forceU k u a → forceU k' u a
  | [], _, hs => h _ hs
  | (n, .box sz d) :: r, _, hs => force_mono (fun _ => forceU_mono h) hs
  | (n, .row _ _ _) :: r, _, hs => forceU_mono (u := r) h hs
  | (n, .fbox _ _) :: r, _, hs => forceU_mono (u := r) h hs
  | (n, .dict _) :: r, _, hs => forceU_mono (u := r) h hs
  | (n, .siter _ _) :: r, _, hs => forceU_mono (u := r) h hs

theorem putK_mono {dst : Option Nat} {d : DV} {t : Tmps} {k k' : Tmps → Prop} (h : ∀ t, k t → k' t) (hs : putK dst d t k) : putK dst d t k' := by
  unfold putK at *
  cases dst with
  | none => exact h _ hs
  | some n => exact force_mono (fun _ => h _) hs

theorem forceS_mono {k k' : List DV → Prop} (h : ∀ l, k l → k' l) {l acc : List DV} (hs : forceS k l acc) : forceS k' l acc := by
  rw [forceS_eq] at *; exact h _ hs

theorem putD_mono {deep : Bool} {dst : Option Nat} {d : DV} {t : Tmps} {k k' : Tmps → Prop} (h : ∀ t, k t → k' t) (hs : putD deep dst d t k) : putD deep dst d t k' := by
  cases deep with
  | false => exact putK_mono h hs
  | true =>
    simp only [putD, cond_true, force_eq] at hs ⊢
    cases d with
    | agg cs => exact forceS_mono (fun _ => putK_mono h) hs
    | _ => exact putK_mono h hs

theorem freezeK_mono {k k' : Heap → Prop} (h : ∀ d, k d → k' d) {ns : List Nat} {s : Heap} (hs : freezeK ns s k) : freezeK ns s k' := by
  rw [freezeK_eq] at *; exact h _ hs

theorem stepWp_mono {o : DOper} {N N' : SP} (h : ∀ t s, N t s → N' t s) {t : Tmps} {s : Heap} (hs : stepWp P G o N t s) : stepWp P G o N' t s := by
  unfold stepWp at *
  split
  · rename_i he; rw [he] at hs; exact hs
  · rename_i he; rw [he] at hs; exact pre_mono (putD_mono fun _ => forceU_mono fun _ => h _ _) hs
  · rename_i he; rw [he] at hs; exact pre_mono (putK_mono fun _ => freezeK_mono fun _ => forceU_mono fun _ => h _ _) hs
  · rename_i he; rw [he] at hs
    simp only at hs
    rcases hs with hs | ⟨π, ds, hs', d, hs'', h1, h2, h3⟩
    · refine .inl ?_
      split
      · rename_i hp; rw [hp] at hs; exact hs
      · rename_i hp; rw [hp] at hs
        refine pre_mono (fun ⟨d, h2, h3⟩ => ⟨d, h2, putK_mono (fun t' h4 => ?_) h3⟩) hs
        revert h4; cases flatB d
        · exact freezeK_mono fun _ => h _ _
        · exact h _ _
    · exact .inr ⟨π, ds, hs', d, hs'', h1, h2, putK_mono (fun _ => forceU_mono fun _ => h _ _) h3⟩

theorem opsWp_mono {Q Q' : SP} (h : ∀ t s, Q t s → Q' t s) : ∀ {l : List DOper} {K : List Nat} {t : Tmps} {s : Heap}, opsWp P G l K Q t s → opsWp P G l K Q' t s
  | [], _, _, _, hs => h _ _ hs
  | o :: r, K, t, s, hs => by
    unfold opsWp at *
    split
    · rename_i hg; rw [hg] at hs; exact stepWp_mono (fun _ _ => opsWp_mono h) hs
    · rename_i hg; rw [hg] at hs; simp only at hs
      split
      · rename_i hb; rw [hb] at hs; exact onG_mono (stepWp_mono (fun _ _ => opsWp_mono h)) (putK_mono (fun _ => opsWp_mono h)) hs
      · rename_i hb; rw [hb] at hs; exact putK_mono (fun _ => opsWp_mono h) hs
      · rename_i h1 h2; split at hs
        · exact absurd ‹_› (h1 _)
        · exact absurd ‹_› h2
        · exact hs

theorem drawRun_mono {o : DOper} {fs : List Foot} {N N' : List Foot → SP} (h : ∀ fs t s, N fs t s → N' fs t s) {t : Tmps} {s : Heap} (hs : drawRun P G o fs N t s) : drawRun P G o fs N' t s := by
  unfold drawRun at *
  split
  · rename_i he; rw [he] at hs; exact hs
  · rename_i he; rw [he] at hs; exact pre_mono (putD_mono fun _ => forceU_mono fun _ => h _ _ _) hs
  · rename_i he; rw [he] at hs; exact pre_mono (putK_mono fun _ => freezeK_mono fun _ => forceU_mono fun _ => h _ _ _) hs
  · rename_i he; rw [he] at hs
    simp only at hs
    rcases hs with hs | ⟨π, ds, hs', d, hs'', h1, h2, h3⟩
    · refine .inl ?_
      split
      · rename_i hp; rw [hp] at hs; exact hs
      · rename_i hp; rw [hp] at hs
        refine pre_mono (fun ⟨d, h2, h3⟩ => ⟨d, h2, putK_mono (fun t' h4 => ?_) h3⟩) hs
        revert h4; cases flatB d
        · exact freezeK_mono fun _ => h _ _ _
        · exact h _ _ _
    · exact .inr ⟨π, ds, hs', d, hs'', h1, h2, putK_mono (fun _ => forceU_mono fun _ => h _ _ _) h3⟩

theorem drawWp_mono {Q Q' : SP} (h : ∀ t s, Q t s → Q' t s) : ∀ {l : List DOper} {K : List Nat} {fs : List Foot} {t : Tmps} {s : Heap}, drawWp P G l K fs Q t s → drawWp P G l K fs Q' t s
  | [], _, _, _, _, hs => ⟨hs.1, h _ _ hs.2⟩
  | o :: r, K, fs, t, s, hs => by
    unfold drawWp at *
    split
    · rename_i hg; rw [hg] at hs; exact drawRun_mono (fun _ _ _ => drawWp_mono h) hs
    · rename_i hg; rw [hg] at hs; simp only at hs
      split
      · rename_i hb; rw [hb] at hs; exact onG_mono (drawRun_mono (fun _ _ _ => drawWp_mono h)) (putK_mono (fun _ => drawWp_mono h)) hs
      · rename_i hb; rw [hb] at hs; exact putK_mono (fun _ => drawWp_mono h) hs
      · rename_i h1 h2; split at hs
        · exact absurd ‹_› (h1 _)
        · exact absurd ‹_› h2
        · exact hs

theorem seqQ_mono {N N' : SP} {Q Q' : DExit → SP} (h : ∀ t s, N t s → N' t s) (h' : ∀ e t s, Q e t s → Q' e t s) : ∀ e t s, seqQ N Q e t s → seqQ N' Q' e t s
  | .normal, _, _, hs => h _ _ hs
  | .exit _, _, _, hs => h' _ _ _ hs
  | .ret, _, _, hs => h' _ _ _ hs

theorem keepK_mono {k : Option Keep} {t : Tmps} {s : Heap} {N N' : SP} (h : ∀ t s, N t s → N' t s) (hs : keepK k t s N) : keepK k t s N' := by
  cases k with
  | none => exact h _ _ hs
  | some k => simp only [keepK, keepTK_eq, keepHK_eq] at *; exact ⟨hs.1, h _ _ hs.2⟩

theorem enterK_mono {N N' : SP} (h : ∀ t s, N t s → N' t s) : ∀ {l : List Nat} {t : Tmps} {s : Heap}, enterK l t s N → enterK l t s N'
  | [], _, _, hs => h _ _ hs
  | i :: r, t, s, hs => by
    unfold enterK at *
    split
    · rename_i ht; rw [ht] at hs; simp only at hs
      split
      · rename_i hh; rw [hh] at hs; exact enterK_mono h hs
      · rename_i hh; rw [hh] at hs; exact enterK_mono h hs
    · rename_i ht; split at hs
      · exact absurd ‹_› ht
      · exact enterK_mono h hs

theorem loopN_mono {b b' : (DExit → SP) → SP} {k : Keep} {Q Q' : DExit → SP} (hb : ∀ (R R' : DExit → SP) t s, (∀ e t s, R e t s → R' e t s) → b R t s → b' R' t s) (h : ∀ e t s, Q e t s → Q' e t s) :
    ∀ n t s, loopN b k Q n t s → loopN b' k Q' n t s
  | 0, _, _, hs => hs
  | n + 1, _, _, hs => hb _ _ _ _ (seqQ_mono (fun _ _ hh => ⟨hh.1, loopN_mono hb h n _ _ hh.2⟩) h) hs

theorem dwp_mono : ∀ {c : DC} {Q Q' : DExit → SP} {t : Tmps} {s : Heap}, (∀ e t s, Q e t s → Q' e t s) → dwp P G c Q t s → dwp P G c Q' t s
  | .skip, _, _, _, _, h, hs => h _ _ _ hs
  | .ops false _, _, _, _, _, h, hs => opsWp_mono (h _) hs
  | .ops true _, _, _, _, _, h, hs => drawWp_mono (h _) hs
  | .seq a b, Q, Q', t, s, h, hs => by
    unfold dwp at *
    exact dwp_mono (seqQ_mono (fun _ _ hh => dwp_mono h hh) h) hs
  | .cond c a b, Q, Q', t, s, h, hs => by
    unfold dwp at *
    split
    · rename_i hc; rw [hc] at hs; exact ⟨fun e => dwp_mono h (hs.1 e), fun e => dwp_mono h (hs.2 e)⟩
    · rename_i hc; split at hs
      · exact absurd ‹_› (hc _)
      · exact hs
  | .block id k a, Q, Q', t, s, h, hs => by
    unfold dwp at *
    refine dwp_mono (fun e t' s' hh => ?_) hs
    cases e with
    | normal => exact keepK_mono (h _) hh
    | ret => exact h _ _ _ hh
    | exit i =>
      simp only [blockQ] at *
      cases hb : Nat.beq i id
      · simp only [hb, cond_false] at hh ⊢; exact h _ _ _ hh
      · simp only [hb, cond_true] at hh ⊢; exact keepK_mono (h _) hh
  | .loop k b, Q, Q', t, s, h, hs => by
    unfold dwp loopWp at *
    exact enterK_mono (fun _ _ ⟨hb, n, hn⟩ => ⟨hb, n, loopN_mono (b := dwp P G b) (b' := dwp P G b) (fun R R' t s hr hb => dwp_mono hr hb) h n _ _ hn⟩) hs
  | .exit _, _, _, _, _, h, hs => h _ _ _ hs
  | .ret, _, _, _, _, h, hs => h _ _ _ hs

/-- A loop, by its states at the head and a measure. -/
theorem dwp_loop {α : Type} (T : α → Tmps) (H : α → Heap) (inv : α → Prop) (μ : α → Nat) {k : Keep} {b : DC} {Q : DExit → SP} {t : Tmps} {s : Heap} (a0 : α)
    (h0 : enterK k.cv t s fun t' h' => boxesOk k.kh (hlook h') k.kh = true ∧ keepT k.kh (hlook h') t' k.kt = T a0 ∧ keepH k.kh (hlook h') k.kh = H a0) (hi : inv a0)
    (step : ∀ a, inv a → dwp P G b (seqQ (fun t' h' => ∃ a', boxesOk k.kh (hlook h') k.kh = true ∧ keepT k.kh (hlook h') t' k.kt = T a' ∧ keepH k.kh (hlook h') k.kh = H a' ∧ inv a' ∧ μ a' < μ a) Q) (T a) (H a)) :
    loopWp (dwp P G b) k Q t s := by
  unfold loopWp
  have h2 : ∀ n a, inv a → μ a < n → loopN (dwp P G b) k Q n (T a) (H a) := by
    intro n
    induction n with
    | zero => intro a _ h; omega
    | succ n ihn =>
      intro a ha hn
      refine dwp_mono (seqQ_mono (fun t' s' hs' => ?_) (fun _ _ _ h => h)) (step a ha)
      obtain ⟨a', hbx, hk, hk', hi', hlt⟩ := hs'
      rw [hk, hk']; exact ⟨hbx, ihn a' hi' (by omega)⟩
  refine enterK_mono (fun t' h' hh => ?_) h0
  rw [hh.2.1, hh.2.2]
  exact ⟨hh.1, μ a0 + 1, h2 _ a0 hi (by omega)⟩
end Sh
