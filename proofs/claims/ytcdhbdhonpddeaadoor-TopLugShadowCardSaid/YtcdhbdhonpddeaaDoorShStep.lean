/- One operation of the shadow code against the operation of the model. -/
import Derived.Test.YtcdhbdhonpddeaaDoorShHeap
set_option linter.unusedVariables false
set_option linter.unusedSectionVars false
set_option linter.unusedSimpArgs false
namespace Sh
open Go

theorem evalOp_okF {ev : Operand → DV} {lk : Nat → Option DObj} {n : Nat} {op : DOp} {ns : List Nat} {p : Option Prop} {d : DV} {u : Heap} (h : evalOp ev lk n op = .okF ns p d u) :
    (∃ imm sz len z ps, op = .lit imm sz len z ps) ∨ ∃ k x y, op = .store k x y := by
  cases op with
  | lit imm sz len z ps => exact .inl ⟨_, _, _, _, _, rfl⟩
  | store k x y => exact .inr ⟨_, _, _, rfl⟩
  | bin op x y =>
    exfalso
    simp only [evalOp] at h
    split at h
    · rename_i j a k b _ _
      generalize kindEq j k = q at h
      cases q
      · cases h
      · cases op <;> cases h
    · cases op <;> cases h
    · cases h
  | _ =>
    exfalso
    simp only [evalOp] at h
    repeat' first
      | cases h
      | (rw [cond_eq_ite] at h)
      | split at h

section
variable {P : Program} {imm : Bool} {op : Op}

theorem cOp_call {f : Operand} {args : List Operand} (hc : cOp P imm op = some (.call f args)) : ∃ c : Call, op = .call c ∧ c.callee = .value f ∧ c.args.toList = args := by
  cases op with
  | call c =>
    simp only [cOp] at hc
    split at hc
    · rename_i f' hf; simp only [Option.some.injEq, DOp.call.injEq] at hc; exact ⟨c, rfl, by rw [hf, hc.1], hc.2⟩
    · exfalso
      unfold cBuiltin at hc
      repeat' first
        | cases hc
        | (rw [cond_eq_ite] at hc)
        | split at hc
    · cases hc
  | binOp bop ty x y ty' =>
    exfalso
    simp only [cOp, cBin, cEq] at hc
    repeat' first
      | cases hc
      | (rw [cond_eq_ite] at hc)
      | split at hc
  | makeFunc fn first caps =>
    exfalso
    cases fn <;> simp only [cOp] at hc <;> repeat' first
      | cases hc
      | (rw [cond_eq_ite] at hc)
      | split at hc
  | _ =>
    exfalso
    simp only [cOp] at hc
    repeat' first
      | cases hc
      | (rw [cond_eq_ite] at hc)
      | split at hc

theorem cOp_lit {imm' : Bool} {sz len : Nat} {z : DV} {ps : List (Nat × Operand)} (hc : cOp P imm op = some (.lit imm' sz len z ps)) :
    ∃ ty e zv parts agg, op = .buildSlice ty len parts ∧ imm' = imm ∧ P.underlying ty = some (.slice e) ∧ elemT P e = some (sz, agg) ∧ zeroT P e = some zv ∧ z = ofValue zv ∧ ps = parts.toList ∧
      len * sz ≤ 16777216 ∧ zv.cells.size = sz ∧ okE sz (ofValue zv) = true ∧ ∀ p ∈ parts.toList, p.1 < len := by
  cases op with
  | buildSlice ty len' parts =>
    simp only [cOp] at hc
    split at hc
    · rename_i e ht
      split at hc
      · rename_i sz' agg zv hel hz
        obtain ⟨c1, hc⟩ := cond_some hc
        simp only [Option.some.injEq, DOp.lit.injEq] at hc
        obtain ⟨rfl, rfl, rfl, rfl, rfl⟩ := hc
        simp only [Bool.and_eq_true, List.all_eq_true] at c1
        obtain ⟨⟨⟨c1, c2⟩, c3⟩, c4⟩ := c1
        exact ⟨ty, e, zv, parts, agg, rfl, rfl, ht, hel, hz, rfl, rfl, Nat.le_of_ble_eq_true c1, Nat.eq_of_beq_eq_true c2, c3, fun p hp => Nat.le_of_ble_eq_true (c4 p hp)⟩
      · cases hc
    · cases hc
  | call c =>
    exfalso
    simp only [cOp] at hc
    split at hc
    · cases hc
    · unfold cBuiltin at hc
      repeat' first
        | cases hc
        | (rw [cond_eq_ite] at hc)
        | split at hc
    · cases hc
  | binOp bop ty x y ty' =>
    exfalso
    simp only [cOp, cBin, cEq] at hc
    repeat' first
      | cases hc
      | (rw [cond_eq_ite] at hc)
      | split at hc
  | makeFunc fn first caps =>
    exfalso
    cases fn <;> simp only [cOp] at hc <;> repeat' first
      | cases hc
      | (rw [cond_eq_ite] at hc)
      | split at hc
  | _ =>
    exfalso
    simp only [cOp] at hc
    repeat' first
      | cases hc
      | (rw [cond_eq_ite] at hc)
      | split at hc

theorem cOp_store {k : Nat} {x y : Operand} (hc : cOp P imm op = some (.store k x y)) : ∃ ty agg, op = .store ty x y ∧ elemT P ty = some (k, agg) := by
  cases op with
  | store ty a b =>
    simp only [cOp] at hc
    split at hc
    · rename_i sz agg hel
      simp only [Option.some.injEq, DOp.store.injEq] at hc
      obtain ⟨rfl, rfl, rfl⟩ := hc
      exact ⟨ty, agg, rfl, hel⟩
    · cases hc
  | call c =>
    exfalso
    simp only [cOp] at hc
    split at hc
    · cases hc
    · unfold cBuiltin at hc
      repeat' first
        | cases hc
        | (rw [cond_eq_ite] at hc)
        | split at hc
    · cases hc
  | binOp bop ty x y ty' =>
    exfalso
    simp only [cOp, cBin, cEq] at hc
    repeat' first
      | cases hc
      | (rw [cond_eq_ite] at hc)
      | split at hc
  | makeFunc fn first caps =>
    exfalso
    cases fn <;> simp only [cOp] at hc <;> repeat' first
      | cases hc
      | (rw [cond_eq_ite] at hc)
      | split at hc
  | _ =>
    exfalso
    simp only [cOp] at hc
    repeat' first
      | cases hc
      | (rw [cond_eq_ite] at hc)
      | split at hc
end

section
variable {P : Program} {G : Nat → Option DV} {B : Base} {nt : Nat} {M0 : Mem} {w0 : World} {M : Mem} {ρ : Locs} {t : Tmps} {h : Heap} {a : Act} {w : World} {o : Oper}

theorem freeze_none {ns : List Nat} {n : Nat} (hn : hlook h n = none) : hlook (freeze ns h) n = none := by rw [freeze_look, hn]; rfl

theorem op_soundF (hG : GOk G M0) (S : Sim B nt M0 w0 M ρ t h a w) (imm : Bool) (n : Nat) (dop : DOp) (hc : cOp P imm o.op = some dop) {ns : List Nat} {p : Option Prop} {d : DV} {u : Heap}
    (he : evalOp (evalOpd G t) (hlook h) n dop = .okF ns p d u) (hp : holds p) : ∃ M1, OpGoal P B nt M0 w0 M1 ρ t (freeze ns h) a w o d u := by
  obtain ⟨M1, m1, S1, m2, m3, m4⟩ := S.freeze ns
  refine ⟨M1, ?_⟩
  have hfr : ∀ m ∈ ns, ∀ sz es fr, hlook h m = some (.row sz es fr) → hlook (freeze ns h) m = some (.row sz es true) := fun m hm sz es fr e => by
    rw [m4 m sz es fr e]; simp [hm]
  rcases evalOp_okF he with ⟨imm', sz, len, z, ps, rfl⟩ | ⟨k, x, y, rfl⟩
  · obtain ⟨ty, e, zv, parts, agg, ho, rfl, ht, hel, hz, rfl, rfl, c1, c2, c3, c4⟩ := cOp_lit hc
    simp only [evalOp] at he
    split at he
    · rename_i q es hes
      obtain ⟨hpk, he⟩ := cond_evF he
      have hpk : ∀ p ∈ parts.toList, okE sz (evalOpd G t p.2) = true := fun p hp => (List.all_eq_true.1 hpk) p hp
      cases imm' with
      | true =>
        simp only [cond_true, Ev.okF.injEq] at he
        obtain ⟨rfl, rfl, rfl, rfl⟩ := he
        exact (op_lit hG S1 (hlook h) ty e len sz agg zv parts ho ht hel hz c1 c2 c3 c4 hpk hes hp hfr (fun m hm sz d0 hl hp => freeze_fbox hm hl hp)).1
      | false =>
        simp only [cond_false] at he
        split at he
        · rename_i hn
          simp only [Ev.okF.injEq] at he
          obtain ⟨rfl, rfl, rfl, rfl⟩ := he
          exact (op_lit hG S1 (hlook h) ty e len sz agg zv parts ho ht hel hz c1 c2 c3 c4 hpk hes hp hfr (fun m hm sz d0 hl hp => freeze_fbox hm hl hp)).2 n (freeze_none hn)
        · cases he
    · cases he
  · obtain ⟨ty, agg, ho, hel⟩ := cOp_store hc
    obtain ⟨e1, e2, e3, e4, e5⟩ := elemT_spec hel
    simp only [evalOp] at he
    split at he
    · rename_i m off hx
      split at he
      · obtain ⟨_, he⟩ := cond_evF he
        cases he
      · cases he
    · rename_i m i off tot hx
      split at he
      · rename_i sz es hl
        split at he
        · rename_i q v hv
          obtain ⟨c1, he⟩ := cond_not he
          simp only [Ev.okF.injEq] at he
          obtain ⟨rfl, rfl, rfl, rfl⟩ := he
          obtain ⟨hq, hb⟩ := holds_pand hp
          simp only [Bool.or_eq_false_iff, Bool.not_eq_false'] at c1
          have hni : m ∉ names (evalOpd G t y) := fun hm => by
            have := c1.1
            rw [List.any_eq_false] at this
            exact this m hm (by simp)
          have hl1 : hlook (freeze (names (evalOpd G t y)) h) m = some (.row sz es false) := by rw [m4 m sz es false hl]; simp [hni]
          exact op_store_row hG S1 (hlook h) ty x y m i off tot sz k es ho e1 hx hl1 hv hq c1.2 hfr (fun m hm sz d0 hl hp => freeze_fbox hm hl hp) hb
        · cases he
      · cases he
    · cases he

/-! The model's side of an operation. -/

structure OperOk (P : Program) (nt : Nat) (ops : Array Oper) (o : Oper) (dop : DOper) : Prop where
  op : ∃ imm, cOp P imm o.op = some dop.op
  dst : dop.dst = o.dst
  lt : ∀ d, o.dst = some d → d < nt
  guard : cGuard ops o = some dop.guard

theorem wanted_iff {ops : Array Oper} {dop : DOper} (ok : OperOk P nt ops o dop) (S : Sim B nt M0 w0 M ρ t h a w) :
    (Guarded dop t → Region.wanted o (yielded ops a.tmps) = true) ∧
    (∀ g want, dop.guard = some (g, want) → (tget t g = .bool (!want) ∨ tget t g = .tuple []) → Region.wanted o (yielded ops a.tmps) = false) := by
  have hg := ok.guard
  unfold cGuard at hg
  unfold Region.wanted
  split at hg
  · rename_i e
    rw [e]
    simp only [Option.some.injEq] at hg
    exact ⟨fun _ => rfl, fun g want e => by rw [← hg] at e; cases e⟩
  · rename_i j want e
    rw [e]
    split at hg
    · rename_i oj hj
      split at hg
      · rename_i dj hdj
        simp only [Option.some.injEq] at hg
        have hr := S.tm dj
        have hy : ∀ v, a.tmps.getD dj Go.undef = .bool v → yielded ops a.tmps j = some v := fun v hv => by
          unfold yielded
          rw [hj]
          simp only [Option.bind_some, hdj]
          have : a.tmps[dj]? = some (.bool v) := by
            rw [Array.getD_eq_getD_getElem?] at hv
            cases hx : a.tmps[dj]? with
            | none => rw [hx] at hv; simp [Go.undef] at hv
            | some x => rw [hx] at hv; simp at hv; rw [hv]
          rw [this]
        have hn : ∀ vs, a.tmps.getD dj Go.undef = .tuple vs → yielded ops a.tmps j = none := fun vs hv => by
          unfold yielded
          rw [hj]
          simp only [Option.bind_some, hdj]
          rw [Array.getD_eq_getD_getElem?] at hv
          cases hx : a.tmps[dj]? with
          | none => rfl
          | some x => rw [hx] at hv; simp at hv; rw [hv]
        refine ⟨fun hgd => ?_, fun g want' e' ht => ?_⟩
        · have h1 := hgd dj want hg.symm
          rw [h1] at hr
          simp [hy want hr.inv_bool]
        · rw [← hg] at e'; cases e'
          rcases ht with ht | ht
          · rw [ht] at hr; simp [hy _ hr.inv_bool]
          · rw [ht] at hr
            obtain ⟨vs, hv, _⟩ := hr.inv_tuple
            simp [hn vs hv]
      · cases hg
    · cases hg

/-- The memory has grown by what lies in new blocks. -/
theorem Sim.memUp (S : Sim B nt M0 w0 M ρ t h a w) {w' : World} {M' : Mem} (hm : M.le M') (hw : M'.holds w') (hk : ∀ k, k < w.heap.size → w'.heap[k]? = w.heap[k]?) (hb : B.touch w0 w')
    (hn : ∀ b o v, M' b o = some v → M b o = none → w.heap.size ≤ b) : Sim B nt M0 w0 M' ρ t h a w' := by
  have S1 := S.world hk hb
  refine { S1 with le := Mem.le_trans S.le hm, tm := fun i => (S.tm i).ext (Ext.of_mem ρ h hm), mem := hw, obj := fun n o ho => (S1.obj n o ho).mem hm ?_, new := fun b o v e e0 => ?_, ext := S.ext.trans (Ext.of_mem ρ h hm) }
  · intro b c hρ hfree o'
    cases hM : M' b o' with
    | none => rfl
    | some v =>
      have h1 := hn b o' v hM (hfree o')
      have h2 := S.loc_lt ho hρ
      omega
  · cases hM : M b o with
    | none => exact .inl (Nat.le_trans S.Bsize (hn b o v e hM))
    | some v' => exact S.new b o v' hM e0

mutual
theorem relP_flat {M M' : Mem} (d : DV) (v : Value) (hf : flatB d = true) (hr : RelP M d v) : RelP M' d v := by
  cases d with
  | undef => exact .undef v
  | bool b => cases hr; exact .bool b
  | int k n => cases hr; exact .int k n
  | str s => cases hr; exact .str s
  | nilptr => cases hr; exact .nilptr
  | nilfunc => cases hr; exact .nilfunc
  | agg cs => cases hr with | agg _ vs hl h => exact .agg cs vs hl (relP_flats cs (fun i => vs.getD i Go.undef) (by simpa [flatB] using hf) h)
  | tuple cs => cases hr with | tuple _ vs hl h => exact .tuple cs vs hl (relP_flats cs (fun i => vs.getD i Go.undef) (by simpa [flatB] using hf) h)
  | func f cs => cases hr with | func _ _ vs hl h => exact .func f cs vs hl (relP_flats cs (fun i => vs.getD i Go.undef) (by simpa [flatB] using hf) h)
  | _ => simp [flatB] at hf
theorem relP_flats {M M' : Mem} (ds : List DV) (vs : Nat → Value) (hf : flatBs ds = true) (hr : ∀ i, i < ds.length → RelP M (ds.getD i .undef) (vs i)) : ∀ i, i < ds.length → RelP M' (ds.getD i .undef) (vs i) := by
  cases ds with
  | nil => intro i hi; simp at hi
  | cons d r =>
    simp only [flatBs, Bool.and_eq_true] at hf
    intro i hi
    cases i with
    | zero => exact relP_flat d (vs 0) hf.1 (by simpa using hr 0 (by simp))
    | succ i =>
      have := relP_flats (M' := M') r (fun i => vs (i + 1)) hf.2 (fun i hi => by simpa using hr (i + 1) (by simpa using hi)) i (by simpa using hi)
      simpa using this
end

/-- A call in the model. -/
theorem call_run (hG : GOk G M0) (S : Sim B nt M0 w0 M ρ t h a w) {imm : Bool} {dop : DOp} (hc : cOp P imm o.op = some dop) {n : Nat} {f : FuncId} {vs : List DV} (he : evalOp (evalOpd G t) (hlook h) n dop = .call f vs)
    (hen : Enters P f) : ∃ args : Array Value, (execOp a.eval o).run P w = .ok (.enter f args) w ∧ vs.length = args.size ∧ ∀ i, i < vs.length → RelV M ρ h (vs.getD i .undef) (args.getD i Go.undef) := by
  obtain ⟨fo, args, caps, rfl, e2, rfl⟩ := evalOp_call he
  obtain ⟨c, ho, hcal, rfl⟩ := cOp_call hc
  have hr := S.opd hG fo
  rw [e2] at hr
  obtain ⟨cvs, hv, hl, hcv⟩ := hr.inv_func
  refine ⟨c.args.map a.eval ++ cvs, ?_, by simp [hl], fun i hi => ?_⟩
  · simp only [execOp, ho, resolve, hcal, hv, Deferred.ofValue]
    simpa [invoke] using hen (c.args.map a.eval ++ cvs) w
  · by_cases hlt : i < c.args.size
    · have e1 : (c.args.toList.map (evalOpd G t) ++ caps).getD i .undef = evalOpd G t c.args[i] := by
        simp [List.getD_eq_getElem?_getD, List.getElem?_append, hlt]
      have e3 : (c.args.map a.eval ++ cvs).getD i Go.undef = a.eval c.args[i] := by
        simp [Array.getD_eq_getD_getElem?, Array.getElem?_append, hlt]
      rw [e1, e3]; exact S.opd hG _
    · have hlt' : c.args.size ≤ i := by omega
      have e1 : (c.args.toList.map (evalOpd G t) ++ caps).getD i .undef = caps.getD (i - c.args.size) .undef := by
        simp [List.getD_eq_getElem?_getD, List.getElem?_append, hlt]
      have e3 : (c.args.map a.eval ++ cvs).getD i Go.undef = cvs.getD (i - c.args.size) Go.undef := by
        simp [Array.getD_eq_getD_getElem?, Array.getElem?_append, hlt]
      rw [e1, e3]
      refine hcv _ ?_
      simp at hi; omega

theorem cOp_defer {imm : Bool} {op : Op} {dop : DOp} (h : cOp P imm op = some dop) : ∀ c, op ≠ .defer c := fun c e => by
  subst e; simp [cOp] at h

/-- A call does not look at the round that it stands in. -/
theorem calls_plain {F : Fence} {n : Nat} {f : FuncId} {args : Array Value} {w : World} {R : Ending → World → Prop} (h : CallsIn F.plain n P f args w R) : CallsIn F n P f args w R := h

theorem step_run {F : Fence} {n : Nat} {ops : Array Oper} {Q : Exit → Act → World → Prop} {dop : DOper} {i : Nat} {d : DV} {ns : List Nat} {u : Heap} {rd : List Nat}
    (hG : GOk G M0) (hF : ∀ f, F.fn f) (hd : F.depth = none) (ok : OperOk P nt ops o dop) (hi : ops[i]? = some o) (S : Sim B nt M0 w0 M ρ t h a w)
    (st : Step P G dop t h d ns u rd) {K : Act → World → Prop}
    (hK : ∀ M' ρ' a' w', Sim B nt M0 w0 M' ρ' (putO dop.dst d t) (u.reverse ++ freeze ns h) a' w' → K a' w') : wpOpIn F n P ops Q i K a w := by
  unfold wpOpIn
  rw [hi]
  simp only
  obtain ⟨hw1, hw2⟩ := wanted_iff ok S
  have hput : ∀ {M' : Mem} {ρ' : Locs} {w' : World} {h' : Heap} {v : Value}, Sim B nt M0 w0 M' ρ' t h' a w' → RelV M' ρ' h' d v → h' = u.reverse ++ freeze ns h → K (a.put o.dst v) w' := fun {M' ρ' w' h' v} S' hv e => by
    subst e
    refine hK M' ρ' _ w' ?_
    rw [ok.dst]
    exact S'.put (fun k hk => ok.lt k hk) hv
  obtain ⟨imm, hc⟩ := ok.op
  have calls : ∀ {f : FuncId} {vs : List DV} {p : Option Prop} {ds : List DV}, Guarded dop t → evalOp (evalOpd G t) (hlook h) (dop.dst.getD 0) dop.op = .call f vs → purs (hlook h) vs = some (p, ds) → holds p → PureCall P G f ds d →
      (∀ M1 M' v w', Sim B nt M0 w0 M1 ρ t (freeze (namess vs) h) a w → M1.le M' → M'.holds w' → RelP M' d v → RowKit.Below w.heap.size w w' → (∀ b o v, M' b o = some v → M1 b o = none → w.heap.size ≤ b) → K (a.put o.dst v) w') →
      if Region.wanted o (yielded ops a.tmps) = true then o.wpIn F n P a w K Q else (∀ f, o.about P w a.eval = some f → F.fn f) ∧ K (a.put o.dst undef) w := by
    intro f vs p ds hg he hv hp hcall hcont
    rw [if_pos (hw1 hg)]
    obtain ⟨hen, hcall⟩ := hcall
    obtain ⟨args, hrun, hsz, hrel⟩ := call_run hG S hc he hen
    obtain ⟨M1, m1, S1, m2, m3, m4⟩ := S.freeze (namess vs)
    refine ⟨fun f _ => hF f, ?_⟩
    rw [Oper.semAt_eq _ _ _ (cOp_defer hc), hrun, Oper.uponIn_enter]
    refine ⟨fun h => by rw [hd] at h; simp at h, ?_⟩
    obtain ⟨e1, e2⟩ := purs_rel S1 (hlook h) vs (fun i => args.getD i Go.undef) p ds hv hp (fun i hi => (hrel i hi).ext m3) (fun m hm sz es fr e => by rw [m4 m sz es fr e]; simp [hm]) (fun m hm sz d0 hl hp => freeze_fbox hm hl hp)
    refine CallsIn.mono (calls_plain (hcall F.plain (n - 1) hF hd rfl M1 w args (hG.mono S1.le) S1.mem ⟨by omega, fun i hi => e2 i (by omega)⟩)) (fun e w' hA => ?_)
    obtain ⟨v, M', rfl, a1, a2, a3, a4, a5⟩ := hA
    exact hcont M1 M' v w' S1 a1 a2 a3 a4 a5
  cases st with
  | skip g want hg hv =>
    rw [if_neg (by rw [hw2 g want hg hv]; simp)]
    exact ⟨fun f _ => hF f, hput S (.pure (.tuple [] #[] rfl (by simp))) rfl⟩
  | ok hg p d u he hp =>
    rw [if_pos (hw1 hg)]
    obtain ⟨nx, v, w', M', ρ', hrun, hnx, S', hv⟩ := op_sound hG S imm _ _ hc he hp
    refine ⟨fun f _ => hF f, ?_⟩
    rw [Oper.semAt_eq _ _ _ (cOp_defer hc), hrun]
    rcases hnx with rfl | ⟨rfl, rfl⟩
    · exact hput S' hv rfl
    · exact hput S' hv rfl
  | okF hg ns p d u he hp =>
    rw [if_pos (hw1 hg)]
    obtain ⟨M1, nx, v, w', M', ρ', hrun, hnx, S', hv⟩ := op_soundF hG S imm _ _ hc he hp
    refine ⟨fun f _ => hF f, ?_⟩
    rw [Oper.semAt_eq _ _ _ (cOp_defer hc), hrun]
    rcases hnx with rfl | ⟨rfl, rfl⟩
    · exact hput S' hv rfl
    · exact hput S' hv rfl
  | flat hg f vs p ds d he hv hp hcall hf =>
    refine calls hg he hv hp hcall (fun M1 M' v w' S1 a1 a2 a3 a4 a5 => ?_)
    exact hput (S.world (fun k hk => a4.block k hk) (S.below.trans (.of_below (a4.mono S.Bsize)))) (.pure (relP_flat d v hf a3)) rfl
  | heap hg f vs π ds hs d hs' he hcall hi =>
    rw [if_pos (hw1 hg)]
    obtain ⟨hen, hcall⟩ := hcall
    obtain ⟨args, hrun, hsz, hrel⟩ := call_run hG S hc he hen
    refine ⟨fun f _ => hF f, ?_⟩
    rw [Oper.semAt_eq _ _ _ (cOp_defer hc), hrun, Oper.uponIn_enter]
    refine ⟨fun h => by rw [hd] at h; simp at h, ?_⟩
    obtain ⟨i1, i2, i3, i4⟩ := hi
    have hin := S.heapIn i2 i3
    refine CallsIn.mono (calls_plain (hcall F.plain (n - 1) hF hd rfl M (unLoc π hs ρ) w args (hG.mono S.le) hin (unrenVs S i1 i2 i3 ⟨hsz, hrel⟩))) (fun e w' hA => ?_)
    obtain ⟨v, M', ρ', rfl, a1, a2, a3, a4, a5, a6⟩ := hA
    obtain ⟨ρ'', S', hv⟩ := S.afterCall i2 i3 i4 a1 a2 a3 a4 a5 a6
    exact hput S' hv rfl
  | frz hg f vs p ds d he hv hp hcall =>
    refine calls hg he hv hp hcall (fun M1 M' v w' S1 a1 a2 a3 a4 a5 => ?_)
    exact hput (S1.memUp a1 a2 (fun k hk => a4.block k hk) (S.below.trans (.of_below (a4.mono S.Bsize))) a5) (.pure a3) rfl
end
end Sh
