/- Every operation that the check lets through. -/
import Derived.Test.YtcdhbdhonpddeaaDoorShMap
set_option linter.unusedVariables false
set_option linter.unusedSectionVars false
namespace Sh
open Go

theorem freeze_look : ∀ (ns : List Nat) (h : Heap) (n : Nat), hlook (freeze ns h) n = (hlook h n).map (fun o => match o with
    | .row sz es fr => .row sz es (fr || decide (n ∈ ns))
    | .box sz d => if n ∈ ns ∧ pureB d = true then .fbox sz d else .box sz d
    | o => o)
  | [], h, n => by
    simp only [freeze]
    cases hlook h n with
    | none => rfl
    | some o => cases o <;> simp
  | m :: r, h, n => by
    unfold freeze
    split
    · rename_i sz es fr hm
      rw [freeze_look r, hlook_cons]
      by_cases e : m = n
      · subst e; rw [if_pos rfl, hm]; simp
      · rw [if_neg e]
        cases hlook h n with
        | none => rfl
        | some o => cases o <;> simp [Ne.symm e]
    · rename_i sz d hm
      cases hp : pureB d with
      | true =>
        simp only [cond_true]
        rw [freeze_look r, hlook_cons]
        by_cases e : m = n
        · subst e; rw [if_pos rfl, hm]; simp [hp]
        · rw [if_neg e]
          cases hlook h n with
          | none => rfl
          | some o => cases o <;> simp [Ne.symm e]
      | false =>
        simp only [cond_false]
        rw [freeze_look r]
        by_cases e : m = n
        · subst e; rw [hm]; simp [hp]
        · cases hlook h n with
          | none => rfl
          | some o => cases o <;> simp [Ne.symm e]
    · rename_i hm1 hm
      rw [freeze_look r]
      cases hn : hlook h n with
      | none => rfl
      | some o =>
        cases o with
        | row sz es fr =>
          have e : n ≠ m := fun e => by subst e; exact hm1 _ _ _ hn
          simp [e]
        | box sz d =>
          have e : n ≠ m := fun e => by subst e; exact hm _ _ hn
          simp [e]
        | _ => rfl

theorem freeze_fbox {ns : List Nat} {h : Heap} {n sz : Nat} {d : DV} (hn : n ∈ ns) (hl : hlook h n = some (.box sz d) ∨ hlook h n = some (.fbox sz d)) (hp : pureB d = true) : hlook (freeze ns h) n = some (.fbox sz d) := by
  rw [freeze_look]
  rcases hl with hl | hl <;> rw [hl] <;> simp [hn, hp]

theorem holds_some {p : Option Prop} (h : holds p) : ∀ q, p = some q → q := fun q e => by subst e; exact h

theorem cond_some {α : Type} {c : Bool} {A : Option α} {y : α} (h : (bif c then A else none) = some y) : c = true ∧ A = some y := by cases c <;> simp_all
theorem cond_ev {c : Bool} {A : Ev} {p : Option Prop} {d : DV} {u : Heap} (h : (bif c then A else Ev.fail) = .ok p d u) : c = true ∧ A = .ok p d u := by cases c <;> simp_all
theorem cond_evF {c : Bool} {A : Ev} {ns : List Nat} {p : Option Prop} {d : DV} {u : Heap} (h : (bif c then A else Ev.fail) = .okF ns p d u) : c = true ∧ A = .okF ns p d u := by cases c <;> simp_all
theorem cond_not {c : Bool} {A : Ev} {ns : List Nat} {p : Option Prop} {d : DV} {u : Heap} (h : (bif c then Ev.fail else A) = .okF ns p d u) : c = false ∧ A = .okF ns p d u := by cases c <;> simp_all
theorem cond_notE {c : Bool} {A : Ev} {p : Option Prop} {d : DV} {u : Heap} (h : (bif c then Ev.fail else A) = .ok p d u) : c = false ∧ A = .ok p d u := by cases c <;> simp_all

section
variable {P : Program} {G : Nat → Option DV} {B : Base} {nt : Nat} {M0 : Mem} {w0 : World} {M : Mem} {ρ : Locs} {t : Tmps} {h : Heap} {a : Act} {w : World} {o : Oper}

theorem own_slice (S : Sim B nt M0 w0 M ρ t h a w) {n off len tot sz : Nat} {es : List DV} {fr : Bool} {v : Value} (hr : RelV M ρ h (.own n off len tot) v) (hl : hlook h n = some (.row sz es fr)) (ht : tot = es.length) : ∃ b cap, v = .slice b len cap := by
  obtain ⟨h1, h2⟩ := hr.inv_own hl
  obtain ⟨h3, h4⟩ := h2 ht
  cases hρ : ρ n with
  | none => rw [hρ] at h4; obtain ⟨a', rfl⟩ := h4; exact ⟨_, _, rfl⟩
  | some bc => obtain ⟨b, c⟩ := bc; rw [hρ] at h4; obtain ⟨a', rfl, _⟩ := h4; exact ⟨_, _, rfl⟩

theorem list_slice {l : List DV} {v : Value} (hr : RelP M (.list l) v) : ∃ b cap, v = .slice b l.length cap := by cases hr; exact ⟨_, _, rfl⟩
theorem full_slice {l : List DV} {v : Value} (hr : RelP M (.full l) v) : ∃ b cap, v = .slice b l.length cap := by cases hr; exact ⟨_, _, rfl⟩

theorem two_args {α : Type} {l : Array α} {x y : α} (h : l.toList = [x, y]) : l = #[x, y] := by
  have : l = l.toList.toArray := by simp
  rw [this, h]
theorem one_arg {α : Type} {l : Array α} {x : α} (h : l.toList = [x]) : l = #[x] := by
  have : l = l.toList.toArray := by simp
  rw [this, h]

theorem builtin_sound (hG : GOk G M0) (S : Sim B nt M0 w0 M ρ t h a w) (imm : Bool) (n : Nat) (dop : DOp) (c : Call) (b : Builtin) (ho : o.op = .call c) (hcal : c.callee = .builtin b) (hc : cBuiltin P imm b c.args.toList c.argTypes.toList = some dop)
    {p : Option Prop} {d : DV} {u : Heap} (he : evalOp (evalOpd G t) (hlook h) n dop = .ok p d u) (hp : holds p) : OpGoal P B nt M0 w0 M ρ t h a w o d u := by
  obtain ⟨callee, args, argTypes⟩ := c
  simp only at hcal hc
  subst hcal
  unfold cBuiltin at hc
  split at hc
  · -- len
    rename_i x ty ha hty
    have e1 := one_arg ha; have e2 := one_arg hty
    subst e1; subst e2
    split at hc
    · rename_i m e ht
      simp only [Option.some.injEq] at hc; subst hc
      simp only [evalOp, Ev.ok.injEq] at he; obtain ⟨rfl, rfl, rfl⟩ := he
      exact op_len_arr hG S ty e m x ho ht
    · rename_i e ht
      simp only [Option.some.injEq] at hc; subst hc
      simp only [evalOp] at he
      have r := S.opd hG x
      split at he
      · rename_i l hx
        rw [hx] at r
        simp only [Ev.ok.injEq] at he; obtain ⟨rfl, rfl, rfl⟩ := he
        obtain ⟨b, cap, ev⟩ := list_slice r.inv_list
        exact op_len_slice hG S ty e x l.length b cap ho ht ev
      · rename_i l hx
        rw [hx] at r
        simp only [Ev.ok.injEq] at he; obtain ⟨rfl, rfl, rfl⟩ := he
        obtain ⟨b, cap, ev⟩ := full_slice r.inv_full
        exact op_len_slice hG S ty e x l.length b cap ho ht ev
      · rename_i m off len tot hx
        rw [hx] at r
        split at he
        · rename_i szr es fr hl
          simp only [Ev.ok.injEq] at he; obtain ⟨rfl, rfl, rfl⟩ := he
          obtain ⟨b, cap, ev⟩ := own_slice S r hl hp
          exact op_len_slice hG S ty e x len b cap ho ht ev
        · cases he
      · cases he
    · rename_i ht
      simp only [Option.some.injEq] at hc; subst hc
      simp only [evalOp] at he
      split at he
      · rename_i s hx
        simp only [Ev.ok.injEq] at he; obtain ⟨rfl, rfl, rfl⟩ := he
        exact op_len_str hG S ty x s ho ht hx
      · cases he
    · rename_i kt et ht
      simp only [Option.some.injEq] at hc; subst hc
      simp only [evalOp] at he
      split at he
      · rename_i q hx
        split at he
        · rename_i es hl
          simp only [Ev.ok.injEq] at he; obtain ⟨rfl, rfl, rfl⟩ := he
          exact op_lenM hG S ty kt et x ho ht q es hx hl
        · cases he
      · cases he
    · cases hc
  · -- append
    rename_i s x ty uy ha hty
    have e1 := two_args ha; have e2 := two_args hty
    subst e1; subst e2
    split at hc
    · rename_i e e' ht hu
      split at hc
      · rename_i sz agg hel
        split at hc
        · rename_i z hz
          obtain ⟨c1, hc⟩ := cond_some hc
          have hzs := Nat.eq_of_beq_eq_true c1
          simp only [Option.some.injEq] at hc; subst hc
          simp only [evalOp] at he
          split at he
          · cases he
          · rename_i q xs hx
            split at he
            · rename_i l hs
              cases imm with
              | true =>
                simp only [cond_true, Ev.ok.injEq] at he; obtain ⟨rfl, rfl, rfl⟩ := he
                obtain ⟨p1, p2, p3, p4⟩ := holds_pand hp
                exact (op_append_full hG S ty uy e e' s x sz agg z l xs q ho ht hu hel hz hzs hs hx p1 p2 p3 p4).1
              | false =>
                simp only [cond_false] at he
                split at he
                · rename_i hn
                  simp only [Ev.ok.injEq] at he; obtain ⟨rfl, rfl, rfl⟩ := he
                  obtain ⟨p1, p2, p3, p4, p5⟩ := holds_pand hp
                  exact (op_append_full hG S ty uy e e' s x sz agg z l xs q ho ht hu hel hz hzs hs hx p1 p2 p3 p4).2 n hn p5
                · cases he
            · rename_i m off len tot hs
              split at he
              · rename_i sz' es hl
                obtain ⟨c2, he⟩ := cond_notE he
                simp only [Ev.ok.injEq] at he; obtain ⟨rfl, rfl, rfl⟩ := he
                obtain ⟨p1, p2⟩ := holds_pand hp
                have hszz : sz' = sz ∨ sz' = 0 := by
                  rw [natbeq, natbeq] at c2
                  cases imm <;> simp at c2
                  by_cases h : sz' = sz
                  · exact .inl h
                  · exact .inr (c2 h)
                exact op_append_own hG S ty uy e e' s x sz sz' agg z m off len tot es xs q ho ht hu hel hz hzs hs hl hx p1 hszz p2
              · cases he
            · cases he
        · cases hc
      · cases hc
    · cases hc
  · -- copy
    split at hc
    · split at hc
      · obtain ⟨c1, hc⟩ := cond_some hc; simp [notYet] at c1
      · cases hc
    · cases hc
  · -- min
    rename_i x r ha
    simp only [Option.some.injEq] at hc; subst hc
    simp only [evalOp] at he
    split at he
    · rename_i k m hx
      split at he
      · rename_i m' hm
        simp only [Ev.ok.injEq] at he; obtain ⟨rfl, rfl, rfl⟩ := he
        exact op_minmax hG S false args argTypes x r k m m' ho ha hx hm
      · cases he
    · cases he
  · -- max
    rename_i x r ha
    simp only [Option.some.injEq] at hc; subst hc
    simp only [evalOp] at he
    split at he
    · rename_i k m hx
      split at he
      · rename_i m' hm
        simp only [Ev.ok.injEq] at he; obtain ⟨rfl, rfl, rfl⟩ := he
        exact op_minmax hG S true args argTypes x r k m m' ho ha hx hm
      · cases he
    · cases he
  · cases hc

theorem box_ok (S : Sim B nt M0 w0 M ρ t h a w) {m sz : Nat} {d : DV} (hl : hlook h m = some (.box sz d) ∨ hlook h m = some (.fbox sz d)) : okE sz d = true := by
  rcases hl with hl | hl
  · obtain ⟨b, c, h4, h5, cs, te, h6, h7, h8, h9⟩ := S.obj m _ hl; exact h8
  · obtain ⟨b, c, h4, h5, cs, te, h6, h7, h8, h9⟩ := S.obj m _ hl; exact h8

theorem loadbox_sound (hG : GOk G M0) (S : Sim B nt M0 w0 M ρ t h a w) (ty : TypeId) (x : Operand) (sz : Nat) (agg : Bool) (hel : elemT P ty = some (sz, agg)) (ho : o.op = .load ty x) (m off szb : Nat) (d' : DV) (hx : evalOpd G t x = .bptr m off)
    (hl : hlook h m = some (.box szb d') ∨ hlook h m = some (.fbox szb d')) {p : Option Prop} {d : DV} {u : Heap}
    (he : (match (bif agg then some sz else none) with
        | none => bif Nat.blt off szb then Ev.ok none (d'.cells.getD off .undef) [] else .fail
        | some k => bif Nat.beq off 0 && Nat.beq k szb && isAggB d' then .ok none d' []
          else bif Nat.ble (off + k) szb then .ok none (.agg ((d'.cells.drop off).take k)) [] else .fail) = .ok p d u) : OpGoal P B nt M0 w0 M ρ t h a w o d u := by
  obtain ⟨e1, e2, e3, e4, e5⟩ := elemT_spec hel
  cases agg with
  | false =>
    have := e4 rfl; subst this
    simp only [cond_false] at he
    obtain ⟨c1, he⟩ := cond_ev he
    simp only [Ev.ok.injEq] at he; obtain ⟨rfl, rfl, rfl⟩ := he
    exact op_load_box hG S ty x m off szb d' ho hel hx hl (Nat.le_of_ble_eq_true c1)
  | true =>
    simp only [cond_true] at he
    cases hc1 : (Nat.beq off 0 && Nat.beq sz szb && isAggB d') with
    | true =>
      rw [hc1] at he
      simp only [cond_true, Ev.ok.injEq] at he; obtain ⟨rfl, rfl, rfl⟩ := he
      simp only [Bool.and_eq_true] at hc1
      obtain ⟨⟨h1, h2⟩, h3⟩ := hc1
      have h1 := Nat.eq_of_beq_eq_true h1
      have h2 := Nat.eq_of_beq_eq_true h2
      subst h1; subst h2
      have := op_load_box_agg hG S ty x m 0 sz sz d' ho hel hx hl (by omega)
      rwa [whole_agg hG S h3 (okE_spec (box_ok S hl)).1] at this
    | false =>
      rw [hc1] at he
      simp only [cond_false] at he
      obtain ⟨c1, he⟩ := cond_ev he
      simp only [Ev.ok.injEq] at he; obtain ⟨rfl, rfl, rfl⟩ := he
      exact op_load_box_agg hG S ty x m off szb sz d' ho hel hx hl (Nat.le_of_ble_eq_true c1)

theorem mapset_sound (hG : GOk G M0) (S : Sim B nt M0 w0 M ρ t h a w) (n : Nat) {dop : DOp} (ty : TypeId) (m k v : Operand) (ho : o.op = .mapUpdate ty m k v ∨ o.op = .insert ty m k v)
    (hc : (match mapT P ty with | some (_, _, kk, ks) => some (DOp.mapset kk ks m k v) | none => none) = some dop) {p : Option Prop} {d : DV} {u : Heap} (he : evalOp (evalOpd G t) (hlook h) n dop = .ok p d u) (hp : holds p) :
    OpGoal P B nt M0 w0 M ρ t h a w o d u := by
  split at hc
  · rename_i kt et kk ks hmt
    simp only [Option.some.injEq] at hc; subst hc
    simp only [evalOp] at he
    split at he
    · rename_i q hm
      split at he
      · rename_i es hl
        obtain ⟨c1, he⟩ := cond_ev he
        simp only [Bool.and_eq_true] at c1
        split at he
        · rename_i i v' hf
          simp only [Ev.ok.injEq] at he; obtain ⟨rfl, rfl, rfl⟩ := he
          exact op_mapset hG S ty kt et m k v kk ks ho hmt q es hm hl c1.1 c1.2 hf
        · rename_i hf
          simp only [Ev.ok.injEq] at he; obtain ⟨rfl, rfl, rfl⟩ := he
          exact op_mapset hG S ty kt et m k v kk ks ho hmt q es hm hl c1.1 c1.2 hf
        · cases he
      · cases he
    · cases he
  · cases hc

theorem op_sound (hG : GOk G M0) (S : Sim B nt M0 w0 M ρ t h a w) (imm : Bool) (n : Nat) (dop : DOp) (hc : cOp P imm o.op = some dop) {p : Option Prop} {d : DV} {u : Heap} (he : evalOp (evalOpd G t) (hlook h) n dop = .ok p d u) (hp : holds p) :
    OpGoal P B nt M0 w0 M ρ t h a w o d u := by
  cases ho : o.op with
  | move x =>
    rw [ho] at hc; simp only [cOp, Option.some.injEq] at hc; subst hc
    simp only [evalOp, Ev.ok.injEq] at he; obtain ⟨rfl, rfl, rfl⟩ := he
    exact op_mov hG S x (.inl ho)
  | assign x =>
    rw [ho] at hc; simp only [cOp, Option.some.injEq] at hc; subst hc
    simp only [evalOp, Ev.ok.injEq] at he; obtain ⟨rfl, rfl, rfl⟩ := he
    exact op_mov hG S x (.inr ho)
  | pick c x y =>
    rw [ho] at hc; simp only [cOp, Option.some.injEq] at hc; subst hc
    simp only [evalOp] at he
    split at he
    · rename_i b hb
      split at he
      · rename_i x' y' hx hy
        simp only [Ev.ok.injEq] at he; obtain ⟨rfl, rfl, rfl⟩ := he
        have := op_pick (P := P) hG S c x y b ho hb
        rw [hx, hy] at this
        cases b <;> exact this
      · simp only [Ev.ok.injEq] at he; obtain ⟨rfl, rfl, rfl⟩ := he
        exact op_pick hG S c x y b ho hb
    · cases he
  | alloc e =>
    rw [ho] at hc; simp only [cOp] at hc
    split at hc
    · rename_i z sz agg hz hel
      simp only [Option.some.injEq] at hc; subst hc
      simp only [evalOp] at he
      split at he
      · rename_i hn
        cases hk : okE sz (ofValue z) with
        | false => rw [hk] at he; cases he
        | true =>
          rw [hk] at he; simp only [cond_true, Ev.ok.injEq] at he; obtain ⟨rfl, rfl, rfl⟩ := he
          exact op_alloc e n sz agg z ho hz hn hk S
      · cases he
    · cases hc
  | box e x =>
    rw [ho] at hc; simp only [cOp] at hc
    split at hc
    · rename_i sz agg hel
      simp only [Option.some.injEq] at hc; subst hc
      simp only [evalOp] at he
      split at he
      · rename_i hn
        cases hk : okE sz (evalOpd G t x) with
        | false => rw [hk] at he; cases he
        | true =>
          rw [hk] at he; simp only [cond_true, Ev.ok.injEq] at he; obtain ⟨rfl, rfl, rfl⟩ := he
          exact op_box hG e x n sz ho hn hk S
      · cases he
    · cases hc
  | build ty parts =>
    rw [ho] at hc; simp only [cOp] at hc
    split at hc
    · rename_i z ps hz hps
      cases hb : buildOk P ty with
      | false => rw [hb] at hc; cases hc
      | true =>
        rw [hb] at hc; simp only [cond_true, Option.some.injEq] at hc; subst hc
        simp only [evalOp] at he
        split at he
        · rename_i cs hf
          simp only [Ev.ok.injEq] at he; obtain ⟨rfl, rfl, rfl⟩ := he
          exact op_build hG S ty parts z ps cs ho hz hps hb hf
        · cases he
    · cases hc
  | buildSlice ty len parts =>
    rw [ho] at hc; simp only [cOp] at hc
    split at hc
    · split at hc
      · obtain ⟨_, hc⟩ := cond_some hc
        simp only [Option.some.injEq] at hc; subst hc
        simp only [evalOp] at he
        split at he
        · obtain ⟨_, he⟩ := cond_ev he
          cases imm with
          | true => simp at he
          | false =>
            simp only [cond_false] at he
            split at he <;> cases he
        · cases he
      · cases hc
    · cases hc
  | load ty x =>
    rw [ho] at hc; simp only [cOp] at hc
    split at hc
    · rename_i sz agg hel
      obtain ⟨e1, e2, e3, e4, e5⟩ := elemT_spec hel
      simp only [Option.some.injEq] at hc; subst hc
      simp only [evalOp] at he
      split at he
      · rename_i d' hx
        cases agg with
        | false =>
          have := e4 rfl; subst this
          simp only [cond_false] at he
          obtain ⟨c1, he⟩ := cond_notE he
          simp only [Ev.ok.injEq] at he; obtain ⟨rfl, rfl, rfl⟩ := he
          exact op_load_ip hG S ty x _ ho hel hx c1
        | true =>
          simp only [cond_true] at he
          split at he
          · rename_i cs
            obtain ⟨c1, he⟩ := cond_ev he
            simp only [Ev.ok.injEq] at he; obtain ⟨rfl, rfl, rfl⟩ := he
            exact op_load_ip_agg hG S ty x cs sz ho hel hx (Nat.eq_of_beq_eq_true c1)
          · cases he
      · rename_i m off hx
        split at he
        · rename_i szb d' hl
          exact loadbox_sound hG S ty x sz agg hel ho m off szb d' hx (.inl hl) he
        · rename_i szb d' hl
          exact loadbox_sound hG S ty x sz agg hel ho m off szb d' hx (.inr hl) he
        · cases he
      · rename_i m i off tot hx
        split at he
        · rename_i szr es fr hl
          cases agg with
          | false =>
            have := e4 rfl; subst this
            simp only [cond_false, Ev.ok.injEq] at he; obtain ⟨rfl, rfl, rfl⟩ := he
            exact op_load_row hG S ty x m i off tot szr es fr ho hel hx hl hp
          | true =>
            simp only [cond_true] at he
            cases hc1 : (Nat.beq off 0 && Nat.beq sz szr) with
            | true =>
              rw [hc1] at he
              simp only [cond_true, Ev.ok.injEq] at he; obtain ⟨rfl, rfl, rfl⟩ := he
              simp only [Bool.and_eq_true] at hc1
              have h1 := Nat.eq_of_beq_eq_true hc1.1
              have h2 := Nat.eq_of_beq_eq_true hc1.2
              subst h1; subst h2
              simp only [holds] at hp
              have := op_load_row_agg hG S ty x m i 0 tot sz sz es fr ho hel hx hl ⟨hp.1, by omega⟩
              have hr := S.opd hG x
              rw [hx] at hr
              obtain ⟨k1, k2, k3⟩ := hr.inv_ptr hl
              obtain ⟨b, c, k4, k5⟩ := k3 hp.1
              obtain ⟨cs, te, q1, q2, q3, q4, q5⟩ := row_cells hG S hl k4
              have hi : i < es.length := by omega
              rwa [whole_agg hG S hp.2 (okE_spec (q4 _ (by rw [getD_lt hi]; exact List.getElem_mem _))).1] at this
            | false =>
              rw [hc1] at he
              simp only [cond_false, Ev.ok.injEq] at he; obtain ⟨rfl, rfl, rfl⟩ := he
              exact op_load_row_agg hG S ty x m i off tot szr sz es fr ho hel hx hl hp
        · cases he
      · cases he
    · cases hc
  | store ty x y =>
    rw [ho] at hc; simp only [cOp] at hc
    split at hc
    · rename_i sz agg hel
      obtain ⟨e1, e2, e3, e4, e5⟩ := elemT_spec hel
      simp only [Option.some.injEq] at hc; subst hc
      simp only [evalOp] at he
      split at he
      · rename_i m off hx
        split at he
        · rename_i szb d' hl
          obtain ⟨c1, he⟩ := cond_ev he
          simp only [Ev.ok.injEq] at he; obtain ⟨rfl, rfl, rfl⟩ := he
          simp only [Bool.and_eq_true] at c1
          exact op_store_box hG S ty x y m off szb sz d' ho e1 hx hl c1.1 (Nat.le_of_ble_eq_true c1.2)
        · cases he
      · split at he
        · split at he
          · obtain ⟨_, he⟩ := cond_notE he
            cases he
          · cases he
        · cases he
      · cases he
    · cases hc
  | nilCheck x =>
    rw [ho] at hc; simp only [cOp, Option.some.injEq] at hc; subst hc
    exact op_nilCheck hG S x d p u ho (hlook h) rfl n he (holds_some hp)
  | binOp op ty x y ty' =>
    rw [ho] at hc; simp only [cOp, cBin] at hc
    have hceq : ∀ neg, op = (bif neg then .neq else .eql) → isAggT P ty = some true → cEq P neg ty x y = some dop → OpGoal P B nt M0 w0 M ρ t h a w o d u := fun neg hop hagg h1 => by
      unfold cEq at h1
      split at h1
      · rename_i ks hks
        obtain ⟨c1, h1⟩ := cond_some h1
        simp only [Option.some.injEq] at h1; subst h1
        simp only [evalOp] at he
        split at he
        · rename_i xs ys hx hy
          split at he
          · rename_i e hee
            simp only [Ev.ok.injEq] at he; obtain ⟨rfl, rfl, rfl⟩ := he
            exact op_eqA hG S neg ty ty' x y ks (by rw [ho, hop]) hks hagg (by simpa using c1) hx hy hee
          · cases he
        · cases he
      · cases h1
    have key : dop = .bin op x y → OpGoal P B nt M0 w0 M ρ t h a w o d u := by
      intro e; subst e
      simp only [evalOp] at he
      split at he
      · rename_i j m k m' hx hy
        obtain ⟨c1, he1⟩ := cond_ev he
        clear he
        have := kindEq_eq c1; subst this
        exact op_bin_int hG S op ty ty' x y j m m' ho hx hy p d u he1 (holds_some hp)
      · rename_i m m' hx hy
        exact op_bin_str hG S op ty ty' x y m m' ho hx hy p d u he (holds_some hp)
      · cases he
    split at hc
    · simp only [Option.some.injEq] at hc; exact key hc.symm
    · simp only [Option.some.injEq] at hc; exact key hc.symm
    · rename_i ht
      have hrun : ∀ m m' : Bool, (Op.equal ty (.bool m) (.bool m')).run P w = .ok (m == m') w := fun m m' => by
        have key : ∀ d, (Op.equalIn (d + 1) ty (.bool m) (.bool m')).run P w = .ok (m == m') w := fun d => by simp [Op.equalIn, run_underlying ht]
        exact key 9999
      split at hc
      · simp only [Option.some.injEq] at hc; subst hc
        simp only [evalOp] at he
        split at he
        · rename_i m m' hx hy
          have r1 := S.opd hG x; rw [hx] at r1
          have r2 := S.opd hG y; rw [hy] at r2
          simp only [Ev.ok.injEq] at he; obtain ⟨rfl, rfl, rfl⟩ := he
          refine OpGoal.same S (v := .bool (m == m')) ?_ (.pure (.bool _))
          simp [execOp, ho, r1.inv_bool, r2.inv_bool, eqGuard, binOp, hrun]
        · cases he
      · simp only [Option.some.injEq] at hc; subst hc
        simp only [evalOp] at he
        split at he
        · rename_i m m' hx hy
          have r1 := S.opd hG x; rw [hx] at r1
          have r2 := S.opd hG y; rw [hy] at r2
          simp only [Ev.ok.injEq] at he; obtain ⟨rfl, rfl, rfl⟩ := he
          refine OpGoal.same S (v := .bool (m != m')) ?_ (.pure (.bool _))
          simp [execOp, ho, r1.inv_bool, r2.inv_bool, eqGuard, binOp, hrun, bne]
        · cases he
      · cases hc
    · rename_i ht
      have hagg : isAggT P ty = some true := by unfold isAggT; rw [ht]
      split at hc
      · exact hceq false rfl hagg hc
      · exact hceq true rfl hagg hc
      · cases hc
    · rename_i ht
      have hagg : isAggT P ty = some true := by unfold isAggT; rw [ht]
      split at hc
      · exact hceq false rfl hagg hc
      · exact hceq true rfl hagg hc
      · cases hc
    · cases hc
  | unOp op ty x =>
    rw [ho] at hc; simp only [cOp, Option.some.injEq] at hc; subst hc
    exact op_un hG S op ty x d p u ho (hlook h) n he
  | convert sT dT x =>
    rw [ho] at hc; simp only [cOp] at hc
    split at hc
    · rename_i j k hs hd
      simp only [Option.some.injEq] at hc; subst hc
      simp only [evalOp] at he
      split at he
      · rename_i k' m hx
        simp only [Ev.ok.injEq] at he; obtain ⟨rfl, rfl, rfl⟩ := he
        exact op_conv hG S sT dT x j k k' m ho hs hd hx
      · cases he
    · rename_i hs hd
      simp only [Option.some.injEq] at hc; subst hc
      simp only [evalOp] at he
      split at he
      · rename_i s hx
        simp only [Ev.ok.injEq] at he; obtain ⟨rfl, rfl, rfl⟩ := he
        exact op_same hG S sT dT x s ho hs hd hx
      · cases he
    · cases hc
  | makeFunc f first caps =>
    rw [ho] at hc
    cases f with
    | func f =>
      simp only [cOp] at hc
      obtain ⟨c1, hc⟩ := cond_some hc
      simp only [Option.some.injEq] at hc; subst hc
      simp only [evalOp, Ev.ok.injEq] at he; obtain ⟨rfl, rfl, rfl⟩ := he
      exact op_mkfunc hG S f first caps ho c1
    | _ => simp [cOp] at hc
  | slice ty x lo hi mx =>
    rw [ho] at hc; simp only [cOp] at hc
    split at hc
    · rename_i ht
      split at hc
      · simp only [Option.some.injEq] at hc; subst hc
        simp only [evalOp] at he
        split at he
        · rename_i s hx
          split at he
          · rename_i l u' hl hu
            simp only [Ev.ok.injEq] at he; obtain ⟨rfl, rfl, rfl⟩ := he
            exact op_slice_str hG S ty x lo hi s l u' ho ht hx hl hu hp
          · cases he
        · cases he
      · cases hc
    · rename_i e ht
      split at hc
      · rename_i sz agg hel
        simp only [Option.some.injEq] at hc; subst hc
        simp only [evalOp] at he
        split at he
        · split at he
          · rename_i s hx
            split at he
            · rename_i l u' hl hu
              simp only [Ev.ok.injEq] at he; obtain ⟨rfl, rfl, rfl⟩ := he
              obtain ⟨b1, b2, b3, b4⟩ := hp
              exact op_slice_imm hG S ty e x lo hi s sz agg l u' ho ht hel (fun e he => (okE_spec (b4 e he)).1) (.inl hx) hl hu ⟨b1, b2, b3⟩
            · cases he
          · rename_i s hx
            split at he
            · rename_i l u' hl hu
              simp only [Ev.ok.injEq] at he; obtain ⟨rfl, rfl, rfl⟩ := he
              obtain ⟨b1, b2, b3, b4⟩ := hp
              exact op_slice_imm hG S ty e x lo hi s sz agg l u' ho ht hel (fun e he => (okE_spec (b4 e he)).1) (.inr hx) hl hu ⟨b1, b2, b3⟩
            · cases he
          · rename_i m off len tot hx
            split at he
            · rename_i l u' hl hu
              split at he
              · rename_i szr es fr hL
                obtain ⟨c1, he1⟩ := cond_ev he
                clear he
                have := Nat.eq_of_beq_eq_true c1; subst this
                simp only [Ev.ok.injEq] at he1; obtain ⟨rfl, rfl, rfl⟩ := he1
                exact op_slice_own hG S ty e x lo hi m off len tot es fr sz agg l u' ho ht hel hx hL hl hu hp
              · cases he
            · cases he
          · cases he
        · rename_i m
          split at he
          · rename_i s k hx hl hu hm
            simp only [Ev.ok.injEq] at he; obtain ⟨rfl, rfl, rfl⟩ := he
            exact op_slice_max hG S ty e x m lo hi s sz agg k ho ht hel (.inl hx) hl hu hm
          · rename_i s k hx hl hu hm
            simp only [Ev.ok.injEq] at he; obtain ⟨rfl, rfl, rfl⟩ := he
            exact op_slice_max hG S ty e x m lo hi s sz agg k ho ht hel (.inr hx) hl hu hm
          · cases he
      · cases hc
    · split at hc
      · obtain ⟨c1, hc⟩ := cond_some hc; simp [notYet] at c1
      · cases hc
    · cases hc
  | fieldAddr sT x f =>
    rw [ho] at hc; simp only [cOp] at hc
    split at hc
    · rename_i off sz agg hf
      simp only [Option.some.injEq] at hc; subst hc
      simp only [evalOp] at he
      split at he
      · rename_i cs hx
        obtain ⟨c1, he⟩ := cond_ev he
        simp only [Ev.ok.injEq] at he; obtain ⟨rfl, rfl, rfl⟩ := he
        simp only [Bool.and_eq_true] at c1
        exact op_faddr_ip hG S sT x f off sz agg cs ho hf hx (Nat.le_of_ble_eq_true c1.1) (fun e => by subst e; simpa using c1.2)
      · rename_i m i o1 tot hx
        split at he
        · rename_i szr es fr hl
          simp only [Ev.ok.injEq] at he; obtain ⟨rfl, rfl, rfl⟩ := he
          exact op_faddr_ptr hG S sT x f off sz agg m i o1 tot szr es fr ho hf hx hl hp
        · cases he
      · rename_i m o1 hx
        simp only [Ev.ok.injEq] at he; obtain ⟨rfl, rfl, rfl⟩ := he
        exact op_faddr_bptr hG S sT x f off sz agg m o1 ho hf hx
      · cases he
    · cases hc
  | field sT x f =>
    rw [ho] at hc; simp only [cOp] at hc
    split at hc
    · rename_i off sz agg hf
      simp only [Option.some.injEq] at hc; subst hc
      simp only [evalOp] at he
      split at he
      · rename_i cs hx
        obtain ⟨c1, he⟩ := cond_ev he
        simp only [Ev.ok.injEq] at he; obtain ⟨rfl, rfl, rfl⟩ := he
        exact op_field hG S sT x f off sz agg cs ho hf hx (Nat.le_of_ble_eq_true c1)
      · cases he
    · cases hc
  | indexAddr ty x i =>
    rw [ho] at hc; simp only [cOp] at hc
    split at hc
    · rename_i e ht
      split at hc
      · rename_i sz agg hel
        obtain ⟨e1, e2, e3, e4, e5⟩ := elemT_spec hel
        simp only [Option.some.injEq] at hc; subst hc
        simp only [evalOp] at he
        split at he
        · rename_i k m hi
          split at he
          · rename_i l hx
            simp only [Ev.ok.injEq] at he; obtain ⟨rfl, rfl, rfl⟩ := he
            exact op_iaddr_imm hG S ty e x i sz l k m ho ht e1 (.inl hx) hi hp
          · rename_i l hx
            simp only [Ev.ok.injEq] at he; obtain ⟨rfl, rfl, rfl⟩ := he
            exact op_iaddr_imm hG S ty e x i sz l k m ho ht e1 (.inr hx) hi hp
          · rename_i nm off len tot hx
            split at he
            · rename_i szr es fr hl
              obtain ⟨c1, he1⟩ := cond_ev he
              clear he
              have := Nat.eq_of_beq_eq_true c1; subst this
              simp only [Ev.ok.injEq] at he1; obtain ⟨rfl, rfl, rfl⟩ := he1
              exact op_iaddr_own hG S ty e x i sz nm off len tot es fr k m ho ht e1 hx hl hi hp
            · cases he
          · cases he
        · cases he
      · cases hc
    · rename_i len e ht
      split at hc
      · rename_i sz agg hel
        obtain ⟨e1, e2, e3, e4, e5⟩ := elemT_spec hel
        simp only [Option.some.injEq] at hc; subst hc
        simp only [evalOp] at he
        split at he
        · rename_i k m hi
          split at he
          · rename_i cs hx
            simp only [Ev.ok.injEq] at he; obtain ⟨rfl, rfl, rfl⟩ := he
            exact op_iaddrA_ip hG S ty e x i len sz agg cs k m ho ht e1 e4 hx hi hp
          · rename_i nm j off tot hx
            split at he
            · rename_i szr es fr hl
              simp only [Ev.ok.injEq] at he; obtain ⟨rfl, rfl, rfl⟩ := he
              exact op_iaddrA_ptr hG S ty e x i len sz nm j off tot szr es fr k m ho ht e1 hx hl hi hp
            · cases he
          · rename_i nm off hx
            simp only [Ev.ok.injEq] at he; obtain ⟨rfl, rfl, rfl⟩ := he
            exact op_iaddrA_bptr hG S ty e x i len sz nm off k m ho ht e1 hx hi hp
          · cases he
        · cases he
      · cases hc
    · cases hc
  | index ty x i =>
    rw [ho] at hc; simp only [cOp] at hc
    split at hc
    · rename_i ht
      simp only [Option.some.injEq] at hc; subst hc
      simp only [evalOp] at he
      split at he
      · rename_i s k m hx hi
        simp only [Ev.ok.injEq] at he; obtain ⟨rfl, rfl, rfl⟩ := he
        exact op_indexS hG S ty x i s k m ho ht hx hi hp
      · cases he
    · rename_i len e ht
      split at hc
      · rename_i sz agg hel
        obtain ⟨e1, e2, e3, e4, e5⟩ := elemT_spec hel
        simp only [Option.some.injEq] at hc; subst hc
        simp only [evalOp] at he
        split at he
        · rename_i cs k m hx hi
          simp only [Ev.ok.injEq] at he; obtain ⟨rfl, rfl, rfl⟩ := he
          exact op_indexA hG S ty e x i len sz agg cs k m ho ht e1 e2 e4 hx hi hp
        · cases he
      · cases hc
    · cases hc
  | extract x i =>
    rw [ho] at hc; simp only [cOp, Option.some.injEq] at hc; subst hc
    simp only [evalOp] at he
    split at he
    · rename_i vs hx
      obtain ⟨c1, he⟩ := cond_ev he
      simp only [Ev.ok.injEq] at he; obtain ⟨rfl, rfl, rfl⟩ := he
      exact op_extract hG S x i vs ho hx (Nat.le_of_ble_eq_true c1)
    · cases he
  | makeSlice ty l c =>
    rw [ho] at hc; simp only [cOp] at hc
    split at hc
    · rename_i e ht
      split at hc
      · rename_i sz agg z hel hz
        obtain ⟨c1, hc⟩ := cond_some hc
        simp only [Option.some.injEq] at hc; subst hc
        simp only [evalOp] at he
        split at he
        · rename_i j m k m' hl hcc
          split at he
          · rename_i hn
            simp only [Ev.ok.injEq] at he; obtain ⟨rfl, rfl, rfl⟩ := he
            obtain ⟨b1, b2, b3, b4, b5⟩ := hp
            exact op_mkslice hG S ty e l c sz agg z j k m m' n ho ht hel hz (Nat.eq_of_beq_eq_true c1) hl hcc ⟨b1, b2, b3, b4⟩ hn
          · cases he
        · cases he
      · cases hc
    · cases hc
  | makeMap ty r =>
    rw [ho] at hc; simp only [cOp] at hc
    split at hc
    · simp only [Option.some.injEq] at hc; subst hc
      simp only [evalOp] at he
      split at he
      · rename_i hn
        simp only [Ev.ok.injEq] at he; obtain ⟨rfl, rfl, rfl⟩ := he
        exact op_makemap S ty n ho hn
      · cases he
    · cases hc
  | mapUpdate ty m k v =>
    rw [ho] at hc; simp only [cOp] at hc
    exact mapset_sound hG S n ty m k v (.inl ho) hc he hp
  | insert ty m k v =>
    rw [ho] at hc; simp only [cOp] at hc
    exact mapset_sound hG S n ty m k v (.inr ho) hc he hp
  | lookup ty m k ok =>
    rw [ho] at hc; simp only [cOp] at hc
    split at hc
    · rename_i kt et kk ks hmt
      split at hc
      · rename_i z hz
        simp only [Option.some.injEq] at hc; subst hc
        simp only [evalOp] at he
        split at he
        · rename_i q hm
          split at he
          · rename_i es hl
            obtain ⟨c1, he⟩ := cond_ev he
            split at he
            · rename_i i v hf
              simp only [Ev.ok.injEq] at he; obtain ⟨rfl, rfl, rfl⟩ := he
              exact op_lookup hG S ty kt et m k kk ks ok z ho hmt hz q es hm hl c1 hf
            · rename_i hf
              simp only [Ev.ok.injEq] at he; obtain ⟨rfl, rfl, rfl⟩ := he
              exact op_lookup hG S ty kt et m k kk ks ok z ho hmt hz q es hm hl c1 hf
            · cases he
          · cases he
        · cases he
      · cases hc
    · cases hc
  | mapEntry ty m k =>
    rw [ho] at hc; simp only [cOp] at hc
    split at hc
    · rename_i kt et kk ks hmt
      split at hc
      · rename_i z hz
        simp only [Option.some.injEq] at hc; subst hc
        simp only [evalOp] at he
        split at he
        · rename_i q hm
          split at he
          · rename_i es hl
            obtain ⟨c1, he⟩ := cond_ev he
            split at he
            · rename_i i v hf
              simp only [Ev.ok.injEq] at he; obtain ⟨rfl, rfl, rfl⟩ := he
              exact op_mapentry hG S ty kt et m k kk ks z ho hmt hz q es hm hl c1 hf
            · rename_i hf
              simp only [Ev.ok.injEq] at he; obtain ⟨rfl, rfl, rfl⟩ := he
              exact op_mapentry hG S ty kt et m k kk ks z ho hmt hz q es hm hl c1 hf
            · cases he
          · cases he
        · cases he
      · cases hc
    · cases hc
  | entryStore ty m s v =>
    rw [ho] at hc; simp only [cOp, Option.some.injEq] at hc; subst hc
    simp only [evalOp] at he
    split at he
    · rename_i q k i hm hs
      split at he
      · rename_i es hl
        obtain ⟨c1, he⟩ := cond_ev he
        simp only [Ev.ok.injEq] at he; obtain ⟨rfl, rfl, rfl⟩ := he
        exact op_entrystore hG S ty m s v ho q es k i hm hs hl c1 hp
      · cases he
    · cases he
  | range ty x =>
    rw [ho] at hc; simp only [cOp] at hc
    split at hc
    · rename_i ht
      simp only [Option.some.injEq] at hc; subst hc
      simp only [evalOp] at he
      split at he
      · rename_i s hx
        split at he
        · rename_i hn
          simp only [Ev.ok.injEq] at he; obtain ⟨rfl, rfl, rfl⟩ := he
          exact op_rangeS hG S ty x n s ho ht hx hn
        · cases he
      · cases he
    · cases hc
  | next x is =>
    rw [ho] at hc; simp only [cOp] at hc
    cases is with
    | false => cases hc
    | true =>
      simp only [Option.some.injEq] at hc; subst hc
      simp only [evalOp] at he
      split at he
      · rename_i q hx
        split at he
        · rename_i s pos hl
          have := op_nextS (P := P) hG S x q s pos ho hx hl
          split at he
          · rename_i hb
            simp only [Ev.ok.injEq] at he; obtain ⟨rfl, rfl, rfl⟩ := he
            exact this.1 (Nat.le_of_ble_eq_true hb)
          · rename_i hb
            simp only [Ev.ok.injEq] at he; obtain ⟨rfl, rfl, rfl⟩ := he
            exact this.2 (fun hlt => by rw [show Nat.blt pos s.length = true from Nat.ble_eq_true_of_le hlt] at hb; cases hb)
        · cases he
      · cases he
  | call c =>
    rw [ho] at hc; simp only [cOp] at hc
    split at hc
    · rename_i f hcal
      simp only [Option.some.injEq] at hc; subst hc
      simp only [evalOp] at he
      split at he <;> cases he
    · rename_i b hcal
      exact builtin_sound hG S imm n dop c b ho hcal hc he hp
    · cases hc
  | _ => rw [ho] at hc; simp [cOp] at hc
end
end Sh
