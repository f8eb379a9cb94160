/- What single operations come to: addresses and loads. -/
import Derived.Test.YtcdhbdhonpddeaaDoorShOps2
set_option linter.unusedVariables false
set_option linter.unusedSectionVars false
namespace Sh
open Go

theorem getElem_flat (l : List DV) (sz : Nat) (hsz : ∀ e ∈ l, e.cells.length = sz) : ∀ (i j : Nat), i < l.length → j < sz → (flat l).getD (i * sz + j) .undef = ((l.getD i .undef).cells).getD j .undef := by
  induction l with
  | nil => intro i j hi; simp at hi
  | cons e r ih =>
    intro i j hi hj
    have he : e.cells.length = sz := hsz e (by simp)
    simp only [flat, List.flatMap_cons, List.getD_eq_getElem?_getD]
    cases i with
    | zero => simp [List.getElem?_append, he, hj]
    | succ i =>
      have := ih (fun e' he' => hsz e' (by simp [he'])) i j (by simpa using hi) hj
      simp only [flat, List.getD_eq_getElem?_getD] at this
      rw [List.getElem?_append_right (by rw [he, Nat.succ_mul]; omega)]
      rw [show (i + 1) * sz + j - e.cells.length = i * sz + j by rw [he, Nat.succ_mul]; omega]
      simpa using this

theorem length_flat (l : List DV) (sz : Nat) (hsz : ∀ e ∈ l, e.cells.length = sz) : (flat l).length = l.length * sz := by
  induction l with
  | nil => simp [flat]
  | cons e r ih =>
    simp only [flat, List.flatMap_cons, List.length_append, List.length_cons]
    have := ih (fun e' he' => hsz e' (by simp [he']))
    simp only [flat] at this
    rw [this, hsz e (by simp), Nat.succ_mul]; omega

theorem add_lit (b o n : Nat) : (⟨b, o, none⟩ : Addr).add n = ⟨b, o + n, none⟩ := Addr.add_mid b o n

/-- An element of a slice that reads as a list: a pointer to it. -/
theorem elem_ip {M : Mem} {l : List DV} {b o sz : Nat} {g : Nat → Value} (hsz : ∀ e ∈ l, e.cells.length = sz) (hM : ∀ i, i < (flat l).length → M b (o + i) = some (g i))
    (hr : ∀ i, i < (flat l).length → RelP M ((flat l).getD i .undef) (g i)) {i : Nat} (hi : i < l.length) : RelP M (.ip (l.getD i .undef)) (.pointer (some ⟨b, o + i * sz, none⟩)) := by
  have hmem : l.getD i .undef ∈ l := by rw [getD_lt hi]; exact List.getElem_mem hi
  have hlen := hsz _ hmem
  have hfl := length_flat l sz hsz
  have hlt : ∀ j, j < sz → i * sz + j < (flat l).length := fun j hj => by
    rw [hfl]
    have : (i + 1) * sz ≤ l.length * sz := Nat.mul_le_mul_right _ hi
    rw [Nat.succ_mul] at this; omega
  refine .ip _ b (o + i * sz) (fun j => g (i * sz + j)) (fun j hj => ?_) (fun j hj => ?_)
  · rw [hlen] at hj
    have := hM _ (hlt j hj)
    rwa [Nat.add_assoc]
  · rw [hlen] at hj
    have := hr _ (hlt j hj)
    rwa [getElem_flat l sz hsz i j hi hj] at this

theorem part_ip {M : Mem} {cs : List DV} {b o off sz : Nat} {agg : Bool} {g : Nat → Value} (hM : ∀ i, i < cs.length → M b (o + i) = some (g i)) (hr : ∀ i, i < cs.length → RelP M (cs.getD i .undef) (g i))
    (h1 : agg = false → sz = 1) (hb : off + sz ≤ cs.length) (ha : agg = false → isAggB (part agg off sz cs) = false) : RelP M (.ip (part agg off sz cs)) (.pointer (some ⟨b, o + off, none⟩)) := by
  cases agg with
  | true =>
    refine .ip _ b (o + off) (fun j => g (off + j)) (fun j hj => ?_) (fun j hj => ?_)
    · simp only [part, DV.cells, cond_true, List.length_take, List.length_drop] at hj
      rw [Nat.add_assoc]; exact hM _ (by omega)
    · simp only [part, DV.cells, cond_true, List.length_take, List.length_drop] at hj ⊢
      rw [take_drop_getD _ _ _ _ _ (by omega)]; exact hr _ (by omega)
  | false =>
    have e := h1 rfl; subst e
    have ha := ha rfl
    simp only [part, cond_false] at ha ⊢
    have hc : (cs.getD off .undef).cells = [cs.getD off .undef] := by
      generalize cs.getD off .undef = d at *
      cases d <;> first | rfl | simp [isAggB] at ha
    refine .ip _ b (o + off) (fun j => g (off + j)) (fun j hj => ?_) (fun j hj => ?_)
    · rw [hc] at hj; simp at hj; subst hj
      simpa using hM off (by omega)
    · rw [hc] at hj ⊢; simp at hj; subst hj
      simpa using hr off (by omega)

section
variable {P : Program} {G : Nat → Option DV} {B : Base} {nt : Nat} {M0 : Mem} {w0 : World} {M : Mem} {ρ : Locs} {t : Tmps} {h : Heap} {a : Act} {w : World} {o : Oper}
variable (hG : GOk G M0) (S : Sim B nt M0 w0 M ρ t h a w)
include hG S

theorem op_nilCheck (x : Operand) (d : DV) (p : Option Prop) (u : Heap) (ho : o.op = .nilCheck x) (lk : Nat → Option DObj) (hlk : lk = hlook h) (n : Nat) (he : evalOp (evalOpd G t) lk n (.nilCheck x) = .ok p d u) (hp : ∀ q, p = some q → q) :
    OpGoal P B nt M0 w0 M ρ t h a w o d u := by
  have r1 := S.opd hG x
  simp only [evalOp] at he
  split at he
  · rename_i d' e
    rw [e] at r1; simp only [Ev.ok.injEq] at he; obtain ⟨rfl, rfl, rfl⟩ := he
    have r2 := r1.inv_ip
    revert r1; intro r1
    generalize hv : a.eval x = v at *
    cases r2 with
    | ip _ b o' g hM hr => exact OpGoal.same S (by simp [execOp, ho, hv]) r1
  · rename_i m i off tot e
    rw [e] at r1
    split at he
    · rename_i sz es fr e3
      simp only [Ev.ok.injEq] at he; obtain ⟨rfl, rfl, rfl⟩ := he
      subst hlk
      obtain ⟨h1, h2, h3⟩ := r1.inv_ptr e3
      obtain ⟨b, c, h4, h5⟩ := h3 (hp _ rfl)
      refine OpGoal.same S (v := a.eval x) ?_ r1
      rw [h5]; simp [execOp, ho, h5]
    · cases he
  · rename_i m off e
    rw [e] at r1; simp only [Ev.ok.injEq] at he; obtain ⟨rfl, rfl, rfl⟩ := he
    obtain ⟨sz, b, c, d', e2, h2, h3⟩ := r1.inv_bptr
    refine OpGoal.same S (v := a.eval x) ?_ r1
    rw [e2]; simp [execOp, ho, e2]
  · rename_i f cs e
    rw [e] at r1; simp only [Ev.ok.injEq] at he; obtain ⟨rfl, rfl, rfl⟩ := he
    obtain ⟨vs, e2, h2, h3⟩ := r1.inv_func
    refine OpGoal.same S (v := a.eval x) ?_ r1
    rw [e2]; simp [execOp, ho, e2]
  · cases he

theorem fieldAt_run {s : TypeId} {f off sz : Nat} {agg : Bool} (hf : fieldOf P s f = some (off, sz, agg)) (b o' : Nat) (w : World) :
    (Instr.fieldAt s (.pointer (some ⟨b, o', none⟩)) f).run P w = .ok (.pointer (some ⟨b, o' + off, none⟩)) w := by
  obtain ⟨fs, fd, e1, e2, rfl, e4, e5, e6, e7⟩ := fieldOf_spec hf
  simp only [Instr.fieldAt, Sem.run_bind, run_underlying e1, Result.andThen_ok, e2, Instr.sureAddr, Sem.run_pure, fieldPlace, size_run e4, e6, if_false, add_lit]

theorem op_faddr_ip (s : TypeId) (x : Operand) (f off sz : Nat) (agg : Bool) (cs : List DV) (ho : o.op = .fieldAddr s x f) (hf : fieldOf P s f = some (off, sz, agg)) (hx : evalOpd G t x = .ip (.agg cs))
    (hb : off + sz ≤ cs.length) (ha : agg = false → isAggB (part agg off sz cs) = false) : OpGoal P B nt M0 w0 M ρ t h a w o (.ip (part agg off sz cs)) [] := by
  obtain ⟨fs, fd, e1, e2, e3, e4, e5, e6, e7⟩ := fieldOf_spec hf
  have r1 := S.opd hG x; rw [hx] at r1
  have r2 := r1.inv_ip
  generalize hv : a.eval x = v at *
  cases r2 with
  | ip _ b o' g hM hr =>
    refine OpGoal.same S (v := .pointer (some ⟨b, o' + off, none⟩)) ?_ (.pure (part_ip hM hr e7 hb ha))
    simp only [execOp, ho, hv, Sem.run_bind, fieldAt_run hG S hf, Result.andThen_ok, Sem.run_pure]

theorem op_faddr_bptr (s : TypeId) (x : Operand) (f off sz : Nat) (agg : Bool) (n o1 : Nat) (ho : o.op = .fieldAddr s x f) (hf : fieldOf P s f = some (off, sz, agg)) (hx : evalOpd G t x = .bptr n o1) :
    OpGoal P B nt M0 w0 M ρ t h a w o (.bptr n (o1 + off)) [] := by
  have r1 := S.opd hG x; rw [hx] at r1
  obtain ⟨sz', b, c, d', e2, h2, h3⟩ := r1.inv_bptr
  refine OpGoal.same S (v := .pointer (some ⟨b, o1 + off, none⟩)) ?_ (RelV.ofBox _ h2 h3)
  simp only [execOp, ho, e2, Sem.run_bind, fieldAt_run hG S hf, Result.andThen_ok, Sem.run_pure]

theorem op_faddr_ptr (s : TypeId) (x : Operand) (f off sz : Nat) (agg : Bool) (n i o1 tot sz' : Nat) (es : List DV) (fr : Bool) (ho : o.op = .fieldAddr s x f) (hf : fieldOf P s f = some (off, sz, agg))
    (hx : evalOpd G t x = .ptr n i o1 tot) (hl : hlook h n = some (.row sz' es fr)) (ht : tot = es.length) : OpGoal P B nt M0 w0 M ρ t h a w o (.ptr n i (o1 + off) tot) [] := by
  have r1 := S.opd hG x; rw [hx] at r1
  obtain ⟨h1, h2, h3⟩ := r1.inv_ptr hl
  obtain ⟨b, c, h4, h5⟩ := h3 ht
  refine OpGoal.same S (v := .pointer (some ⟨b, i * sz' + o1 + off, none⟩)) ?_ (.ptr _ _ _ _ _ _ _ _ hl h1 h2 ⟨_, rfl⟩ (fun _ => ⟨b, c, h4, by rw [Nat.add_assoc]⟩))
  simp only [execOp, ho, h5, Sem.run_bind, fieldAt_run hG S hf, Result.andThen_ok, Sem.run_pure]

/-- An element's address. -/
theorem indexAt_slice {ty e : TypeId} {sz : Nat} (ht : P.underlying ty = some (.slice e)) (hs : sizeT P e = some sz) (k : IntKind) (n : Int) (b o' len cap : Nat) (hb : 0 ≤ n ∧ n < len) (w : World) :
    (Instr.indexAt ty (.slice (some ⟨b, o', none⟩) len cap) (.int k n)).run P w = .ok (.pointer (some ⟨b, o' + n.toNat * sz, none⟩)) w := by
  simp only [Instr.indexAt, asIntOf, Sem.run_bind, Sem.run_pure, Result.andThen_ok, run_underlying ht, hb.1, hb.2, and_self, if_true, size_run hs, add_lit]

theorem op_iaddr_imm (ty e : TypeId) (x i : Operand) (sz : Nat) (l : List DV) (k : IntKind) (n : Int) (ho : o.op = .indexAddr ty x i) (ht : P.underlying ty = some (.slice e)) (hs : sizeT P e = some sz)
    (hx : evalOpd G t x = .list l ∨ evalOpd G t x = .full l) (hi : evalOpd G t i = .int k n) (hb : 0 ≤ n ∧ n < l.length ∧ (l.getD n.toNat .undef).cells.length = sz) :
    OpGoal P B nt M0 w0 M ρ t h a w o (.ip (l.getD n.toNat .undef)) [] := by
  obtain ⟨hb1, hb2, hb3⟩ := hb
  have hlt : n.toNat < l.length := by omega
  have r2 := S.opd hG i; rw [hi] at r2
  have ei := r2.inv_int
  have key : ∃ b o' cap, a.eval x = .slice (some ⟨b, o', none⟩) l.length cap ∧ RelP M (.ip (l.getD n.toNat .undef)) (.pointer (some ⟨b, o' + n.toNat * sz, none⟩)) := by
    have hne : l ≠ [] := by intro e; subst e; simp at hlt
    have hmem : l.getD n.toNat .undef ∈ l := by rw [getD_lt hlt]; exact List.getElem_mem hlt
    have r1 := S.opd hG x
    generalize a.eval x = v at *
    rcases hx with hx | hx <;> rw [hx] at r1
    · have r3 := r1.inv_list
      cases r3 with
      | list _ a' cap sz' b o' g hcap ha hsz hM hr =>
        have e1 : sz' = sz := by rw [← hsz _ hmem]; exact hb3
        subst e1
        rcases ha with ha | ha
        · exact absurd ha hne
        · exact ⟨b, o', cap, by rw [ha], elem_ip hsz hM hr hlt⟩
    · have r3 := r1.inv_full
      cases r3 with
      | full _ a' sz' b o' g ha hsz hM hr =>
        have e1 : sz' = sz := by rw [← hsz _ hmem]; exact hb3
        subst e1
        rcases ha with ha | ha
        · exact absurd ha hne
        · exact ⟨b, o', _, by rw [ha], elem_ip hsz hM hr hlt⟩
  obtain ⟨b, o', cap, e1, h1⟩ := key
  refine OpGoal.same S ?_ (.pure h1)
  simp only [execOp, ho, e1, ei, Sem.run_bind, indexAt_slice hG S ht hs k n b o' l.length cap ⟨hb1, hb2⟩, Result.andThen_ok, Sem.run_pure]

theorem op_iaddr_own (ty e : TypeId) (x i : Operand) (sz : Nat) (m off len tot : Nat) (es : List DV) (fr : Bool) (k : IntKind) (n : Int) (ho : o.op = .indexAddr ty x i) (ht : P.underlying ty = some (.slice e)) (hs : sizeT P e = some sz)
    (hx : evalOpd G t x = .own m off len tot) (hl : hlook h m = some (.row sz es fr)) (hi : evalOpd G t i = .int k n) (hb : tot = es.length ∧ 0 ≤ n ∧ n < len) :
    OpGoal P B nt M0 w0 M ρ t h a w o (.ptr m (off + n.toNat) 0 tot) [] := by
  obtain ⟨hb0, hb1, hb2⟩ := hb
  have r2 := S.opd hG i; rw [hi] at r2
  have ei := r2.inv_int
  have r1 := S.opd hG x; rw [hx] at r1
  obtain ⟨h1, h2⟩ := r1.inv_own hl
  obtain ⟨h3, h4⟩ := h2 hb0
  cases hρ : ρ m with
  | none =>
    exfalso
    have := S.obj m _ hl
    simp only [ObjRel, hρ] at this
    subst this; simp at hb0; omega
  | some bc =>
    obtain ⟨b, c⟩ := bc
    rw [hρ] at h4
    obtain ⟨a', e1, h5⟩ := h4
    rcases h5 with h5 | h5
    · subst h5
      refine OpGoal.same S (v := .pointer (some ⟨b, off * sz + n.toNat * sz, none⟩)) ?_ (.ptr _ _ _ _ _ _ _ _ hl h1 (by omega) ⟨_, rfl⟩ (fun _ => ⟨b, c, hρ, by rw [Nat.add_mul, Nat.add_zero]⟩))
      simp only [execOp, ho, e1, ei, Sem.run_bind, indexAt_slice hG S ht hs k n b (off * sz) len (c - off) ⟨hb1, hb2⟩, Result.andThen_ok, Sem.run_pure]
    · omega

theorem indexAt_array {ty e : TypeId} {sz len : Nat} (ht : P.underlying ty = some (.array len e)) (hs : sizeT P e = some sz) (k : IntKind) (n : Int) (b o' : Nat) (hb : 0 ≤ n ∧ n < len) (w : World) :
    (Instr.indexAt ty (.pointer (some ⟨b, o', none⟩)) (.int k n)).run P w = .ok (.pointer (some ⟨b, o' + n.toNat * sz, none⟩)) w := by
  simp only [Instr.indexAt, asIntOf, Sem.run_bind, Sem.run_pure, Result.andThen_ok, run_underlying ht, Instr.sureAddr, hb.1, hb.2, and_self, if_true, size_run hs, add_lit]

theorem op_iaddrA_ip (ty e : TypeId) (x i : Operand) (len esz : Nat) (agg : Bool) (cs : List DV) (k : IntKind) (n : Int) (ho : o.op = .indexAddr ty x i) (ht : P.underlying ty = some (.array len e)) (hs : sizeT P e = some esz)
    (h1 : agg = false → esz = 1) (hx : evalOpd G t x = .ip (.agg cs)) (hi : evalOpd G t i = .int k n) (hb : 0 ≤ n ∧ n < len ∧ cs.length = len * esz ∧ isAggB (part agg (n.toNat * esz) esz cs) = agg) :
    OpGoal P B nt M0 w0 M ρ t h a w o (.ip (part agg (n.toNat * esz) esz cs)) [] := by
  obtain ⟨hb1, hb2, hb3, hb4⟩ := hb
  have r2 := S.opd hG i; rw [hi] at r2
  have ei := r2.inv_int
  have r1 := S.opd hG x; rw [hx] at r1
  have r2 := r1.inv_ip
  have hle : n.toNat * esz + esz ≤ cs.length := by
    rw [hb3, ← Nat.succ_mul]; exact Nat.mul_le_mul_right _ (by omega)
  generalize hv : a.eval x = v at *
  cases r2 with
  | ip _ b o' g hM hr =>
    refine OpGoal.same S (v := .pointer (some ⟨b, o' + n.toNat * esz, none⟩)) ?_ (.pure (part_ip hM hr h1 hle (fun e => by rw [hb4]; exact e)))
    simp only [execOp, ho, hv, ei, Sem.run_bind, indexAt_array hG S ht hs k n b o' ⟨hb1, hb2⟩, Result.andThen_ok, Sem.run_pure]

theorem op_iaddrA_bptr (ty e : TypeId) (x i : Operand) (len esz : Nat) (m o1 : Nat) (k : IntKind) (n : Int) (ho : o.op = .indexAddr ty x i) (ht : P.underlying ty = some (.array len e)) (hs : sizeT P e = some esz)
    (hx : evalOpd G t x = .bptr m o1) (hi : evalOpd G t i = .int k n) (hb : 0 ≤ n ∧ n < len) : OpGoal P B nt M0 w0 M ρ t h a w o (.bptr m (o1 + n.toNat * esz)) [] := by
  have r2 := S.opd hG i; rw [hi] at r2
  have ei := r2.inv_int
  have r1 := S.opd hG x; rw [hx] at r1
  obtain ⟨sz', b, c, d', e2, h2, h3⟩ := r1.inv_bptr
  refine OpGoal.same S (v := .pointer (some ⟨b, o1 + n.toNat * esz, none⟩)) ?_ (RelV.ofBox _ h2 h3)
  simp only [execOp, ho, e2, ei, Sem.run_bind, indexAt_array hG S ht hs k n b o1 hb, Result.andThen_ok, Sem.run_pure]

theorem op_iaddrA_ptr (ty e : TypeId) (x i : Operand) (len esz : Nat) (m j o1 tot sz' : Nat) (es : List DV) (fr : Bool) (k : IntKind) (n : Int) (ho : o.op = .indexAddr ty x i) (ht : P.underlying ty = some (.array len e)) (hs : sizeT P e = some esz)
    (hx : evalOpd G t x = .ptr m j o1 tot) (hl : hlook h m = some (.row sz' es fr)) (hi : evalOpd G t i = .int k n) (hb : tot = es.length ∧ 0 ≤ n ∧ n < len) : OpGoal P B nt M0 w0 M ρ t h a w o (.ptr m j (o1 + n.toNat * esz) tot) [] := by
  have r2 := S.opd hG i; rw [hi] at r2
  have ei := r2.inv_int
  have r1 := S.opd hG x; rw [hx] at r1
  obtain ⟨h1, h2, h3⟩ := r1.inv_ptr hl
  obtain ⟨b, c, h4, h5⟩ := h3 hb.1
  refine OpGoal.same S (v := .pointer (some ⟨b, j * sz' + o1 + n.toNat * esz, none⟩)) ?_ (.ptr _ _ _ _ _ _ _ _ hl h1 h2 ⟨_, rfl⟩ (fun _ => ⟨b, c, h4, by rw [Nat.add_assoc]⟩))
  simp only [execOp, ho, h5, ei, Sem.run_bind, indexAt_array hG S ht hs k n b _ hb.2, Result.andThen_ok, Sem.run_pure]
end
end Sh
