/-
  Chapter 4's functions, walked over pure data: the library of the walk, the functions' code over data, and what each computes. (part 4)
-/
import Derived.Test.YtbkginjiknnobaaGreatDoorP3
import Derived.Lib.LaidTab
import Derived.Lib.AppendIntMem
import Derived.ChangeArms
import Derived.ChangeSame
import Derived.OpenShut
import Derived.WideShapes
import Derived.FnData
import Derived.LaidMore
import Derived.DataReads
import Derived.ProofKit
import Derived.Carry
import Derived.HandedShaped
import Derived.Shelf.Vars
import Derived.Stop.Joined
import Derived.Deep.DeepHandedRow
import Derived.MakeChecks
import Derived.LaidSub
import Derived.LaidHandle
import Derived.Test.YtbkginjiknnobaaGreatDoorProg
set_option linter.unusedVariables false
set_option linter.unusedSimpArgs false
set_option linter.unusedVariables false
namespace Sh
open Go
variable {P : Program} {G : Nat → Option DV}
theorem opsY_mono {Q Q' : SP} (h : ∀ t s, Q t s → Q' t s) : ∀ {l : List DOper} {K : List Nat} {t : Tmps} {s : Heap}, opsY P G l K Q t s → opsY P G l K Q' t s
  | [], _, _, _, hs => h _ _ hs
  | o :: r, K, t, s, hs => by
    have hs : (match o.guard with
      | none => match evalOp (evalOpd G t) (hlook s) (o.dst.getD 0) o.op with
        | .yield 0 vs => match hlook s 0 with
          | some (.ghost (x :: rest) true l) => vs = x ∧ ∀ b : Bool, putK o.dst (.bool b) t fun t' => opsY P G r K Q t' ((0, .ghost rest b l) :: s)
          | _ => False
        | _ => stepWp P G o (opsY P G r K Q) t s
      | some (g, want) => match tget t g with
        | .bool b => onG (memB g K) b want (stepWp P G o (opsY P G r (g :: K) Q) ((g, .bool want) :: t) s) (putK o.dst (.tuple []) ((g, .bool (!want)) :: t) fun t' => opsY P G r (g :: K) Q t' s)
        | .tuple [] => putK o.dst (.tuple []) t fun t' => opsY P G r K Q t' s
        | _ => False) := hs
    show (match o.guard with
      | none => match evalOp (evalOpd G t) (hlook s) (o.dst.getD 0) o.op with
        | .yield 0 vs => match hlook s 0 with
          | some (.ghost (x :: rest) true l) => vs = x ∧ ∀ b : Bool, putK o.dst (.bool b) t fun t' => opsY P G r K Q' t' ((0, .ghost rest b l) :: s)
          | _ => False
        | _ => stepWp P G o (opsY P G r K Q') t s
      | some (g, want) => match tget t g with
        | .bool b => onG (memB g K) b want (stepWp P G o (opsY P G r (g :: K) Q') ((g, .bool want) :: t) s) (putK o.dst (.tuple []) ((g, .bool (!want)) :: t) fun t' => opsY P G r (g :: K) Q' t' s)
        | .tuple [] => putK o.dst (.tuple []) t fun t' => opsY P G r K Q' t' s
        | _ => False)
    split
    · rename_i hg; rw [hg] at hs; simp only at hs
      split
      · rename_i vs he
        rw [he] at hs; simp only at hs
        split
        · rename_i x rest l hn
          rw [hn] at hs
          exact ⟨hs.1, fun b => putK_mono (fun _ => opsY_mono h) (hs.2 b)⟩
        · rename_i hn; split at hs
          · exact absurd ‹_› (hn _ _ _)
          · exact hs
      · rename_i he
        split at hs
        · exact absurd ‹_› (he _)
        · exact stepWp_mono (fun _ _ => opsY_mono h) hs
    · rename_i g want hg; rw [hg] at hs; simp only at hs
      split
      · rename_i hb; rw [hb] at hs; exact onG_mono (stepWp_mono (fun _ _ => opsY_mono h)) (putK_mono (fun _ => opsY_mono h)) hs
      · rename_i hb; rw [hb] at hs; exact putK_mono (fun _ => opsY_mono h) hs
      · rename_i h1 h2; split at hs
        · exact absurd ‹_› (h1 _)
        · exact absurd ‹_› h2
        · exact hs
theorem drawR_mono {Q Q' : SP} (h : ∀ t s, Q t s → Q' t s) {l : List DOper} {K : List Nat} {fs : List Foot} {t : Tmps} {s : Heap} (hs : drawR P G l K fs Q t s) : drawR P G l K fs Q' t s := by
  rw [drawR_eq] at *; exact drawWp_mono h hs
theorem dwpY_mono : ∀ {c : DC} {Q Q' : DExit → SP} {t : Tmps} {s : Heap}, (∀ e t s, Q e t s → Q' e t s) → dwpY P G c Q t s → dwpY P G c Q' t s
  | .skip, _, _, _, _, h, hs => h _ _ _ hs
  | .ops false _, _, _, _, _, h, hs => opsY_mono (h _) hs
  | .ops true _, _, _, _, _, h, hs => drawR_mono (h _) hs
  | .seq a b, Q, Q', t, s, h, hs => dwpY_mono (c := a) (seqQ_mono (fun _ _ hh => dwpY_mono (c := b) h hh) h) hs
  | .cond c a b, Q, Q', t, s, h, hs => by
    have hs : (match evalOpd G t c with
      | .bool v => (v = true → dwpY P G a Q t s) ∧ (v = false → dwpY P G b Q t s)
      | _ => False) := hs
    show (match evalOpd G t c with
      | .bool v => (v = true → dwpY P G a Q' t s) ∧ (v = false → dwpY P G b Q' t s)
      | _ => False)
    split
    · rename_i hc; rw [hc] at hs; exact ⟨fun e => dwpY_mono h (hs.1 e), fun e => dwpY_mono h (hs.2 e)⟩
    · rename_i hc; split at hs
      · exact absurd ‹_› (hc _)
      · exact hs
  | .block id k a, Q, Q', t, s, h, hs => by
    refine dwpY_mono (c := a) (fun e t' s' hh => ?_) hs
    cases e with
    | normal => exact keepK_mono (h _) hh
    | ret => exact h _ _ _ hh
    | exit i =>
      simp only [blockQ] at *
      cases hb : Nat.beq i id
      · simp only [hb, cond_false] at hh ⊢; exact h _ _ _ hh
      · simp only [hb, cond_true] at hh ⊢; exact keepK_mono (h _) hh
  | .loop k b, Q, Q', t, s, h, hs => by
    have hs : loopWp (dwpY P G b) k Q t s := hs
    show loopWp (dwpY P G b) k Q' t s
    unfold loopWp at *
    exact enterK_mono (fun _ _ ⟨hb, n, hn⟩ => ⟨hb, n, loopN_mono (b := dwpY P G b) (b' := dwpY P G b) (fun R R' t s hr hb => dwpY_mono hr hb) h n _ _ hn⟩) hs
  | .rangeF .., _, _, _, _, _, hs => hs.elim
  | .exit _, _, _, _, _, h, hs => h _ _ _ hs
  | .ret, _, _, _, _, h, hs => h _ _ _ hs
theorem dwp_loopY {α : Type} (T : α → Tmps) (H : α → Heap) (inv : α → Prop) (μ : α → Nat) {k : Keep} {b : DC} {Q : DExit → SP} {t : Tmps} {s : Heap} (a0 : α)
    (h0 : enterK k.cv t s fun t' h' => boxesOk k.kh (hlook h') k.kh = true ∧ keepT k.kh (hlook h') t' k.kt = T a0 ∧ keepH k.kh (hlook h') k.kh = H a0) (hi : inv a0)
    (step : ∀ a, inv a → dwpY P G b (seqQ (fun t' h' => ∃ a', boxesOk k.kh (hlook h') k.kh = true ∧ keepT k.kh (hlook h') t' k.kt = T a' ∧ keepH k.kh (hlook h') k.kh = H a' ∧ inv a' ∧ μ a' < μ a) Q) (T a) (H a)) :
    loopWp (dwpY P G b) k Q t s := by
  unfold loopWp
  have h2 : ∀ n a, inv a → μ a < n → loopN (dwpY P G b) k Q n (T a) (H a) := by
    intro n
    induction n with
    | zero => intro a _ h; omega
    | succ n ihn =>
      intro a ha hn
      refine dwpY_mono (seqQ_mono (fun t' s' hs' => ?_) (fun _ _ _ h => h)) (step a ha)
      obtain ⟨a', hbx, hk, hk', hi', hlt⟩ := hs'
      rw [hk, hk']; exact ⟨hbx, ihn a' hi' (by omega)⟩
  refine enterK_mono (fun t' h' hh => ?_) h0
  rw [hh.2.1, hh.2.2]
  exact ⟨hh.1, μ a0 + 1, h2 _ a0 hi (by omega)⟩
theorem rounds_inv {body : (DExit → SP) → SP} {kh ps : List Nat} {Q : DExit → SP} {t : Tmps} {xs : List (List DV)} (H : Nat → Heap)
    (mono : ∀ (R R' : DExit → SP) (t : Tmps) (s : Heap), (∀ e t s, R e t s → R' e t s) → body R t s → body R' t s)
    (step : ∀ i x, xs[i]? = some x → body (fun e _ h' => boxesOk kh (hlook h') kh = true ∧ match e with
      | .normal => keepH kh (hlook h') kh = H (i + 1)
      | e => Q e t (keepH kh (hlook h') kh)) (setPs ps x t) (H i))
    (fin : Q .normal t (H xs.length)) : roundsN body kh ps Q t xs (H 0) := by
  have key : ∀ (r : List (List DV)) (i : Nat), i ≤ xs.length → xs.drop i = r → roundsN body kh ps Q t r (H i) := by
    intro r
    induction r with
    | nil =>
      intro i hl hi
      have hle : xs.length ≤ i := List.drop_eq_nil_iff.1 hi
      have e : i = xs.length := by omega
      subst e; exact fin
    | cons x r ih =>
      intro i hl hi
      have hx : xs[i]? = some x := by
        have := congrArg (fun l => l[0]?) hi
        simpa using this
      unfold roundsN
      refine mono _ _ _ _ (fun e t' s' hh => ⟨hh.1, ?_⟩) (step i x hx)
      have hh2 := hh.2
      cases e with
      | normal =>
        simp only at hh2 ⊢
        rw [hh2]
        refine ih (i + 1) (List.getElem?_eq_some_iff.1 hx).1 ?_
        have := congrArg (List.drop 1) hi
        simpa [List.drop_drop, Nat.add_comm] using this
      | ret => exact hh2
      | exit j => exact hh2
  exact key xs 0 (Nat.zero_le _) rfl
theorem range_R {g : FuncId} {caps cs : List DV} {k : Keep} {ps : List Nat} {Q : DExit → SP} {t : Tmps} {h : Heap} {x y : DC} (xs : List (List DV)) (H : Nat → Heap) (T : Tmps) (hi : ISeq P G g cs xs) (hp : purs (hlook h) caps = some (none, cs)) (hl : ∀ z ∈ xs, z.length = ps.length)
    (hb : boxesOk k.kh (hlook (freeze (namess caps) h)) k.kh = true) (hv : livH (keepH k.kh (hlook (freeze (namess caps) h)) k.kh) = true) (hT : keepT k.kh (hlook (freeze (namess caps) h)) t k.kt = T) (hH : keepH k.kh (hlook (freeze (namess caps) h)) k.kh = H 0)
    (step : ∀ i z, xs[i]? = some z → dwpR P G x (seqQ (dwpR P G y (fun e _ h' => boxesOk k.kh (hlook h') k.kh = true ∧ match e with
      | .normal => keepH k.kh (hlook h') k.kh = H (i + 1)
      | e => Q e T (keepH k.kh (hlook h') k.kh))) (fun _ _ _ => False)) (setPs ps z T) (H i))
    (fin : Q .normal T (H xs.length)) : rangeWp P G (fun R => dwpR P G x (seqQ (dwpR P G y R) (fun _ _ _ => False))) k ps Q (.func g caps) t h := by
  unfold rangeWp
  simp only [hp]
  refine .inl ⟨xs, hi, hl, hb, hv, ?_⟩
  rw [hT, hH]
  refine rounds_inv H (fun R R' t s hr hb => ?_) step fin
  rw [dwpR_eq, dwpR_eq] at *
  refine dwp_mono (fun e t s hh => ?_) hb
  cases e with
  | normal => exact dwp_mono hr hh
  | ret => exact hh
  | exit i => exact hh
theorem range_W {g : FuncId} {n sz : Nat} {d : DV} {k : Keep} {ps : List Nat} {Q : DExit → SP} {t : Tmps} {h : Heap} {x y : DC} (xs : List (List DV)) (H : Nat → Heap) (T : Tmps) (hi : ISeqW P G g [.bptr n 0] [(n, .box sz d)] xs)
    (hp : hlook h n = some (.box sz d) ∧ pureB d = true) (hn : n ≠ 0) (hk : memB n k.kh = false ∧ freeOf n h = true) (hl : ∀ z ∈ xs, z.length = ps.length)
    (hb : boxesOk k.kh (hlook (cutH n h)) k.kh = true) (hv : livH (keepH k.kh (hlook (cutH n h)) k.kh) = true) (hT : keepT k.kh (hlook (cutH n h)) (cutT n t) k.kt = T) (hH : keepH k.kh (hlook (cutH n h)) k.kh = H 0)
    (step : ∀ i z, xs[i]? = some z → dwpR P G x (seqQ (dwpR P G y (fun e _ h' => boxesOk k.kh (hlook h') k.kh = true ∧ match e with
      | .normal => keepH k.kh (hlook h') k.kh = H (i + 1)
      | e => Q e T (keepH k.kh (hlook h') k.kh))) (fun _ _ _ => False)) (setPs ps z T) (H i))
    (fin : Q .normal T (H xs.length)) : rangeWp P G (fun R => dwpR P G x (seqQ (dwpR P G y R) (fun _ _ _ => False))) k ps Q (.func g [.bptr n 0]) t h := by
  unfold rangeWp
  refine .inr ⟨n, sz, d, xs, ⟨rfl, hp.1, hp.2, hn, hk.1, hk.2⟩, hi, hl, hb, hv, ?_⟩
  rw [hT, hH]
  refine rounds_inv H (fun R R' t s hr hb => ?_) step fin
  rw [dwpR_eq, dwpR_eq] at *
  refine dwp_mono (fun e t s hh => ?_) hb
  cases e with
  | normal => exact dwp_mono hr hh
  | ret => exact hh
  | exit i => exact hh
end Sh

set_option linter.unusedVariables false
namespace Sh
open Go
theorem fenced_open {P : Program} {F : Fence} (hF : OpenF F) (hd : F.depth = none) : Machine.fenced P F = Machine.fenced P Fence.wide := by
  funext m
  refine propext ⟨fun _ => fenced_wide P m, fun _ g _ => ?_⟩
  refine ⟨fun h => ?_, Or.inl (hF.fn _), fun f _ => hF.fn f, fun d e => ?_⟩
  · rw [hF.quiet] at h; cases h
  · rw [hd] at e; cases e
theorem calls_open {P : Program} {F : Fence} {n : Nat} {f : FuncId} {args : Array Value} {w : World} {R : Ending → World → Prop} (hF : OpenF F) (hd : F.depth = none) (h : Calls P f args w R) : CallsIn F n P f args w R := by
  have h1 := (callsIn_wide (n := n)).2 h
  refine ⟨hF.fn f, fun cs _ => ?_⟩
  rw [fenced_open hF hd]
  exact h1.2 cs (room_wide _)
theorem pure_of_calls {P : Program} {G : Nat → Option DV} {f : FuncId} {ds : List DV} {d : DV} (hen : Enters P f) (h : ∀ M w vs, GOk G M → Tabs G w → M.holds w → RelPs M ds vs → Calls P f vs w (After M w d)) : PureCall P G f ds d :=
  ⟨hen, fun F n hF hd _ M w vs hG hT hM hr => calls_open hF hd (h M w vs hG hT hM hr)⟩
theorem holds_below {M : Mem} {w w' : World} (hM : M.holds w) (h : RowKit.Below w.heap.size w w') : M.holds w' := fun b o v e => by
  have h1 := hM b o v e
  have h2 : b < w.heap.size := World.block_lt_of_cell? (a := ⟨b, o, none⟩) _ h1
  rw [World.cell?_of_block (w := w) (w' := w') (a := ⟨b, o, none⟩) (h.block b h2)]; exact h1
theorem after_flat {M : Mem} {w w' : World} {d : DV} {v : Value} (hM : M.holds w) (h : RowKit.Below w.heap.size w w') (hv : RelP M d v) : After M w d (.returned v) w' :=
  ⟨v, M, rfl, M.le_refl, holds_below hM h, hv, h, fun b o v e e0 => by rw [e] at e0; cases e0⟩
theorem tabIs_of {P : Program} {G : Nat → Option DV} {M : Mem} {w : World} {name : String} {g : Nat} {k : IntKind} {zs : List Int} (hn : P.globalNamed name = some g) (hg : G g = some (.agg (zs.map (DV.int k)))) (hz : zs ≠ [])
    (hG : GOk G M) (hT : Tabs G w) (hM : M.holds w) : Lib.TabIs P w name k zs := by
  have h1 := (hT g _ hg).1
  have h2 := hG g _ hg
  unfold Lib.TabIs World.var?
  rw [hn]
  simp only [Option.bind_some]
  unfold blockLen at h1
  split at h1
  · rename_i cs ty fz e
    simp only [Option.some.injEq, DV.cells, List.length_map] at h1
    rw [e]
    simp only [Option.some.injEq]
    cases h2 with
    | ip d b o gv hMm hr =>
      apply Array.ext
      · simp [h1]
      · intro i i1 i2
        have hi : i < zs.length := by omega
        have q1 := hM _ _ _ (hMm i (by simpa [DV.cells] using hi))
        have q2 := hr i (by simpa [DV.cells] using hi)
        have q3 : w.cell? ⟨g, 0 + i, none⟩ = cs[i]? := by rw [Nat.zero_add]; exact cell_of_heap e i
        rw [q3] at q1
        have q4 : (DV.agg (zs.map (DV.int k))).cells.getD i .undef = .int k zs[i] := by simp [DV.cells, List.getD_eq_getElem?_getD, hi]
        rw [q4] at q2
        have q5 : cs[i] = gv i := by rw [Array.getElem?_eq_getElem i1] at q1; exact Option.some.inj q1
        have q6 : ∀ v, RelP M (.int k zs[i]) v → v = .int k zs[i] := fun v h => by cases h; rfl
        rw [q5, q6 _ q2]
        simp
  · cases h1
end Sh

set_option linter.unusedVariables false
set_option linter.unusedSimpArgs false
namespace Sh
open Go
def memOf (W : World) : Mem := fun b o => W.cell? ⟨b, o, none⟩
theorem memOf_holds (W : World) : (memOf W).holds W := fun _ _ _ h => h
theorem calls_of_pure {G : Nat → Option DV} {f : FuncId} {ds : List DV} {d : DV} {P : Program} (h : PureCall P G f ds d) {W : World} {vs : Array Value} (hG : GOk G (memOf W)) (hT : Tabs G W) (hr : RelPs (memOf W) ds vs) :
    Calls P f vs W fun e w' => ∃ v M', e = .returned v ∧ M'.holds w' ∧ RelP M' d v ∧ RowKit.Below W.heap.size W w' := by
  have h1 := h.2 Fence.wide 0 ⟨fun _ => trivial, rfl⟩ rfl rfl (memOf W) W vs hG hT (memOf_holds W) hr
  refine (callsIn_wide.1 h1).mono fun e w' ⟨v, M', a, _, b, c, d, _⟩ => ⟨v, M', a, b, c, d⟩
def RelL (M : Mem) (ds : List DV) (vs : List Value) : Prop := ds.length = vs.length ∧ ∀ i, i < ds.length → RelP M (ds.getD i .undef) (vs.getD i Go.undef)
theorem getD_left {α : Type} {a b : List α} {i : Nat} {d : α} (h : i < a.length) : (a ++ b).getD i d = a.getD i d := by
  simp [List.getD_eq_getElem?_getD, List.getElem?_append_left h]
theorem getD_right {α : Type} {a b : List α} {i : Nat} {d : α} (h : a.length ≤ i) : (a ++ b).getD i d = b.getD (i - a.length) d := by
  simp [List.getD_eq_getElem?_getD, List.getElem?_append_right h]
theorem RelL.append {M : Mem} {a c : List DV} {b d : List Value} (h : RelL M a b) (k : RelL M c d) : RelL M (a ++ c) (b ++ d) := by
  refine ⟨by simp [h.1, k.1], fun i hi => ?_⟩
  by_cases e : i < a.length
  · rw [getD_left e, getD_left (h.1 ▸ e)]; exact h.2 i e
  · have h1 := h.1
    rw [getD_right (by omega), getD_right (by omega), ← h.1]
    exact k.2 _ (by simp at hi; omega)
theorem RelL.one {M : Mem} {d : DV} {v : Value} (h : RelP M d v) : RelL M [d] [v] := ⟨rfl, fun i hi => by
  have : i = 0 := by simp at hi; omega
  subst this; exact h⟩
theorem RelL.nil {M : Mem} : RelL M [] [] := ⟨rfl, fun i hi => absurd hi (Nat.not_lt_zero i)⟩
section
variable {H : Type} {enc : TypeId × Value → H} {P : Program} {W : World}
def Opens (enc : TypeId × Value → H) (P : Program) (W : World) (t : TypeId) {α : Type} (e : α → List DV) (B : α → Prop) : Prop :=
  ∀ (base : Nat) (sp : Nat → Bool) (hd : Bool) (fuel : Nat) (cs : List Value) (x : DataW H × List MemPlace), DataW.trod enc P W base sp hd fuel t cs = some x → ∃ a, RelL (memOf W) (e a) cs ∧ B a
theorem Opens.map {t : TypeId} {α β : Type} {e : α → List DV} {B : α → Prop} {e' : β → List DV} {B' : β → Prop} (h : Opens enc P W t e B) (f : α → β) (he : ∀ a, e' (f a) = e a) (hB : ∀ a, B a → B' (f a)) : Opens enc P W t e' B' := by
  intro base sp hd fuel cs x hx
  obtain ⟨a, h1, h2⟩ := h base sp hd fuel cs x hx
  exact ⟨f a, by rw [he]; exact h1, hB a h2⟩
theorem opens_int {t : TypeId} {k : IntKind} (ht : P.underlying t = some (.int k)) : Opens enc P W t (fun n : Int => [DV.int k n]) (fun n => (Lit.int k n).wf = true) := by
  intro base sp hd fuel cs x hx
  obtain ⟨n, rfl, _, hw⟩ := DataW.trod_int ht hx
  exact ⟨n, .one (.int k n), hw⟩
theorem opens_bool {t : TypeId} (ht : P.underlying t = some .bool) : Opens enc P W t (fun b : Bool => [DV.bool b]) (fun _ => True) := by
  intro base sp hd fuel cs x hx
  obtain ⟨b, rfl, _⟩ := DataW.trod_bool ht hx
  exact ⟨b, .one (.bool b), trivial⟩
theorem opens_string {t : TypeId} (ht : P.underlying t = some .string) : Opens enc P W t (fun s : List UInt8 => [DV.str s]) (fun s => s.length ≤ maxLen) := by
  intro base sp hd fuel cs x hx
  obtain ⟨s, rfl, _, hw⟩ := DataW.trod_string ht hx
  exact ⟨s.data.toList, .one (.str s.data.toList), by simpa using hw⟩
theorem build {α : Type} {F : Nat → α → Prop} : ∀ n, (∀ i, i < n → ∃ a, F i a) → ∃ l : List α, l.length = n ∧ ∀ i (hi : i < l.length), F i l[i]
  | 0, _ => ⟨[], rfl, fun i hi => absurd hi (Nat.not_lt_zero i)⟩
  | n + 1, h => by
    obtain ⟨l, h1, h2⟩ := build n (fun i hi => h i (by omega))
    obtain ⟨a, ha⟩ := h n (by omega)
    refine ⟨l ++ [a], by simp [h1], fun i hi => ?_⟩
    by_cases e : i < l.length
    · rw [List.getElem_append_left e]; exact h2 i e
    · have : i = l.length := by simp at hi; omega
      subst this
      rw [List.getElem_append_right (Nat.le_refl _)]
      simpa [h1] using ha
theorem cells?_parts {base : Nat} {a : Addr} {n : Nat} {cs : List Value} (h : W.cells? base a n = some cs) : cs.length = n ∧ ∀ j, j < n → W.cell? (a.add j) = cs[j]? := by
  unfold World.cells? at h
  split at h
  · refine ⟨by simpa using mapM_some_length h, fun j hj => mapM_some_get h j j (by simp [hj])⟩
  · cases h
theorem add_off {a : Addr} (h : a.spot = none) (k : Nat) : a.add k = ⟨a.block, a.off + k, none⟩ := by
  unfold Addr.add
  split
  · rename_i e; subst e; cases a; simp_all
  · rfl
theorem spot_none {a : Addr} {v : Value} (h : W.cell? a = some v) : a.spot = none := by
  unfold World.cell? at h
  split at h
  · split at h
    · cases h
    · rename_i e; simpa using e
  · cases h
theorem opens_slice {t e : TypeId} {α : Type} {f : α → DV} {B : α → Prop} (ht : P.underlying t = some (.slice e)) (n : Nat) (hn : P.cellsOf e = n) (h0 : 0 < n) (hE : Opens enc P W e (fun a => (f a).cells) B) :
    Opens enc P W t (fun l : List α => [DV.list (l.map f)]) (fun l => l.length ≤ maxLen ∧ ∀ a ∈ l, B a) := by
  intro base sp hd fuel cs x hx
  rcases DataW.trod_slice ht hx with ⟨rfl, _⟩ | ⟨a, len, cap, elems, rest, m, _, rfl, _, _, hlc, hcm, hlen, hel, _, _⟩
  · exact ⟨[], .one (.list [] none 0 n 0 0 (fun _ => Go.undef) (Nat.le_refl _) (.inl rfl) (fun e he => by simp at he) (fun i hi => by simp [flat] at hi) (fun i hi => by simp [flat] at hi)), Nat.zero_le _, fun a ha => by simp at ha⟩
  · rw [hn] at hel
    have hget : ∀ i, i < len → ∃ y : α, ∃ cs : List Value, W.cells? base (a.add (i * n)) n = some cs ∧ RelL (memOf W) (f y).cells cs ∧ B y := by
      intro i hi
      have h1 := hel i hi
      cases hc : W.cells? base (a.add (i * n)) n with
      | none => rw [hc] at h1; rw [List.getElem?_eq_getElem (by omega)] at h1; cases h1
      | some cs =>
        rw [hc, Option.bind_some, List.getElem?_eq_getElem (by omega)] at h1
        obtain ⟨y, h2, h3⟩ := hE _ _ _ _ _ _ h1
        exact ⟨y, cs, rfl, h2, h3⟩
    obtain ⟨l, hl, hF⟩ := build len hget
    have hsp : l = [] ∨ a.spot = none := by
      by_cases e0 : len = 0
      · exact .inl (List.length_eq_zero_iff.1 (by omega))
      · obtain ⟨cs, h1, _⟩ := hF 0 (by omega)
        have h2 := cells?_parts h1
        have h3 := h2.2 0 h0
        rw [Nat.zero_mul, List.getElem?_eq_getElem (by omega)] at h3
        exact .inr (spot_none (a := a) (by simpa [Addr.add] using h3))
    have hsz : ∀ e ∈ l.map f, e.cells.length = n := fun e he => by
      obtain ⟨y, hy, rfl⟩ := List.mem_map.1 he
      obtain ⟨i, hi, rfl⟩ := List.mem_iff_getElem.1 hy
      obtain ⟨cs, h1, h2, _⟩ := hF i hi
      rw [h2.1]; exact (cells?_parts h1).1
    have hcell : ∀ q r, q < l.length → r < n → ∃ v, W.cell? ⟨a.block, a.off + (q * n + r), none⟩ = some v ∧ RelP (memOf W) (((l.map f).getD q .undef).cells.getD r .undef) v := by
      intro q r hq hr
      obtain ⟨cs, h1, h2, _⟩ := hF q hq
      have h3 := cells?_parts h1
      have h4 := h3.2 r hr
      have hs : a.spot = none := hsp.resolve_left (fun e => by rw [e] at hq; exact absurd hq (Nat.not_lt_zero _))
      rw [add_off hs, add_off rfl, List.getElem?_eq_getElem (by omega)] at h4
      refine ⟨cs[r]'(by omega), by rw [← Nat.add_assoc]; exact h4, ?_⟩
      have h5 := h2.2 r (by rw [h2.1]; omega)
      have e1 : (l.map f).getD q .undef = f l[q] := by simp [List.getD_eq_getElem?_getD, hq]
      have e2 : cs.getD r Go.undef = cs[r]'(by omega) := by simp [List.getD_eq_getElem?_getD, show r < cs.length by omega]
      rw [e1, ← e2]; exact h5
    have hall : ∀ i, i < (flat (l.map f)).length → ∃ v, W.cell? ⟨a.block, a.off + i, none⟩ = some v ∧ RelP (memOf W) ((flat (l.map f)).getD i .undef) v := by
      intro i hi
      rw [length_flat _ n hsz, List.length_map] at hi
      obtain ⟨q, r, hq, hr, rfl⟩ : ∃ q r, q < l.length ∧ r < n ∧ q * n + r = i :=
        ⟨i / n, i % n, (Nat.div_lt_iff_lt_mul h0).2 hi, Nat.mod_lt _ h0, by rw [Nat.mul_comm]; exact Nat.div_add_mod i n⟩
      obtain ⟨v, h1, h2⟩ := hcell q r hq hr
      refine ⟨v, h1, ?_⟩
      rw [getElem_flat _ n hsz q r (by simpa using hq) hr]; exact h2
    refine ⟨l, .one ?_, ⟨by omega, fun y hy => ?_⟩⟩
    · have e1 : len = (l.map f).length := by simp [hl]
      rw [e1]
      refine .list (l.map f) (some a) cap n a.block a.off (fun i => (W.cell? ⟨a.block, a.off + i, none⟩).getD Go.undef) (by omega) ?_ hsz ?_ ?_
      · rcases hsp with h | h
        · exact .inl (by rw [h]; rfl)
        · exact .inr (by rw [← h])
      · intro i hi
        obtain ⟨v, h1, _⟩ := hall i hi
        show W.cell? _ = _
        rw [h1]; rfl
      · intro i hi
        obtain ⟨v, h1, h2⟩ := hall i hi
        rw [h1]; exact h2
    · obtain ⟨i, hi, rfl⟩ := List.mem_iff_getElem.1 hy
      obtain ⟨_, _, _, h3⟩ := hF i hi
      exact h3
theorem split2 {α : Type} {cs : List α} {c0 c1 : Nat} (h : cs.length = c0 + c1) : (cs.drop 0).take c0 ++ (cs.drop c0).take c1 = cs := by
  rw [List.drop_zero, List.take_of_length_le (l := cs.drop c0) (by simp; omega), List.take_append_drop]
theorem opens_struct1 {t : TypeId} {f0 : Field} {α : Type} {e0 : α → List DV} {B0 : α → Prop} (ht : P.underlying t = some (.struct #[f0])) (c0 : Nat)
    (h0 : P.cellsOf f0.type = c0) (hc : P.cellsOf t = c0) (o0 : f0.offset = 0) (k0 : Opens enc P W f0.type e0 B0) : Opens enc P W t e0 B0 := by
  intro base sp hd fuel cs x hx
  obtain ⟨y0, n, _, hl, r0⟩ := ChangeShapes.trod_struct1 ht hx
  rw [h0, o0] at r0
  rw [hc] at hl
  have e : (cs.drop 0).take c0 = cs := by rw [List.drop_zero, List.take_of_length_le (by omega)]
  rw [e] at r0
  exact k0 _ _ _ _ _ _ r0
theorem opens_struct2 {t : TypeId} {f0 f1 : Field} {α β : Type} {e0 : α → List DV} {B0 : α → Prop} {e1 : β → List DV} {B1 : β → Prop} (ht : P.underlying t = some (.struct #[f0, f1])) (c0 c1 : Nat)
    (h0 : P.cellsOf f0.type = c0) (h1 : P.cellsOf f1.type = c1) (hc : P.cellsOf t = c0 + c1) (o0 : f0.offset = 0) (o1 : f1.offset = c0) (k0 : Opens enc P W f0.type e0 B0) (k1 : Opens enc P W f1.type e1 B1) :
    Opens enc P W t (fun a : α × β => e0 a.1 ++ e1 a.2) (fun a => B0 a.1 ∧ B1 a.2) := by
  intro base sp hd fuel cs x hx
  obtain ⟨y0, y1, n, _, hl, r0, r1⟩ := ChangeShapes.trod_struct2 ht hx
  rw [h0, o0] at r0
  rw [h1, o1] at r1
  rw [hc] at hl
  obtain ⟨a, a1, a2⟩ := k0 _ _ _ _ _ _ r0
  obtain ⟨b, b1, b2⟩ := k1 _ _ _ _ _ _ r1
  exact ⟨(a, b), by have := a1.append b1; rwa [split2 hl] at this, a2, b2⟩
theorem opens_struct3 {t : TypeId} {f0 f1 f2 : Field} {α β γ : Type} {e0 : α → List DV} {B0 : α → Prop} {e1 : β → List DV} {B1 : β → Prop} {e2 : γ → List DV} {B2 : γ → Prop} (ht : P.underlying t = some (.struct #[f0, f1, f2])) (c0 c1 c2 : Nat)
    (h0 : P.cellsOf f0.type = c0) (h1 : P.cellsOf f1.type = c1) (h2 : P.cellsOf f2.type = c2) (hc : P.cellsOf t = c0 + (c1 + c2)) (o0 : f0.offset = 0) (o1 : f1.offset = c0) (o2 : f2.offset = c0 + c1)
    (k0 : Opens enc P W f0.type e0 B0) (k1 : Opens enc P W f1.type e1 B1) (k2 : Opens enc P W f2.type e2 B2) :
    Opens enc P W t (fun a : α × β × γ => e0 a.1 ++ (e1 a.2.1 ++ e2 a.2.2)) (fun a => B0 a.1 ∧ B1 a.2.1 ∧ B2 a.2.2) := by
  intro base sp hd fuel cs x hx
  obtain ⟨xs, n, _, _, hl, hlen, hf⟩ := DataW.trod_struct ht hx
  match xs, hlen with
  | [y0, y1, y2], _ =>
    have r0 := hf 0 f0 rfl
    have r1 := hf 1 f1 rfl
    have r2 := hf 2 f2 rfl
    rw [h0, o0] at r0
    rw [h1, o1] at r1
    rw [h2, o2] at r2
    rw [hc] at hl
    obtain ⟨a, a1, a2⟩ := k0 _ _ _ _ _ _ r0
    obtain ⟨b, b1, b2⟩ := k1 _ _ _ _ _ _ r1
    obtain ⟨c, d1, d2⟩ := k2 _ _ _ _ _ _ r2
    refine ⟨(a, b, c), ?_, a2, b2, d2⟩
    have h3 := a1.append (b1.append d1)
    have e3 : (cs.drop c0).take c1 ++ (cs.drop (c0 + c1)).take c2 = cs.drop c0 := by
      have := split2 (cs := cs.drop c0) (c0 := c1) (c1 := c2) (by simp; omega)
      rwa [List.drop_drop, List.drop_drop, Nat.add_zero] at this
    rw [e3, List.drop_zero, List.take_append_drop] at h3
    exact h3
theorem arg_struct {t : TypeId} {fs : Array Field} {α : Type} {e : α → List DV} {B : α → Prop} {v : Value} {d : DataW H} {p : List MemPlace} {base b0 : Nat} {sp : Nat → Bool} {hd : Bool} (ht : P.underlying t = some (.struct fs)) (k : Opens enc P W t e B)
    (hv : Value.okWide P W .any b0 t v) (h : DataW.Trod enc P W base sp hd t v d p) : ∃ a, RelP (memOf W) (.agg (e a)) v ∧ B a := by
  obtain ⟨cs, rfl, hsz⟩ := WideShapes.okWide_struct ht hv
  obtain ⟨fuel, hf⟩ := h
  obtain ⟨a, h1, h2⟩ := k _ _ _ _ _ _ hf
  refine ⟨a, .agg _ _ (by simpa [Value.cells] using h1.1) (fun i hi => ?_), h2⟩
  have := h1.2 i hi
  simpa [Value.cells, List.getD_eq_getElem?_getD, Array.getD_eq_getD_getElem?] using this
theorem arg_slice {t e : TypeId} {α : Type} {f : α → DV} {B : α → Prop} {v : Value} {d : DataW H} {p : List MemPlace} {base b0 : Nat} {sp : Nat → Bool} {hd : Bool} (ht : P.underlying t = some (.slice e)) (k : Opens enc P W t (fun a => [f a]) B)
    (hv : Value.okWide P W .any b0 t v) (h : DataW.Trod enc P W base sp hd t v d p) : ∃ a, RelP (memOf W) (f a) v ∧ B a := by
  obtain ⟨a, len, cap, rfl⟩ := WideShapes.okWide_slice ht hv
  obtain ⟨fuel, hf⟩ := h
  obtain ⟨a, h1, h2⟩ := k _ _ _ _ _ _ hf
  exact ⟨a, h1.2 0 (by simp), h2⟩
theorem arg_int {t : TypeId} {k : IntKind} {v : Value} {d : DataW H} {p : List MemPlace} {base b0 : Nat} {sp : Nat → Bool} {hd : Bool} (ht : P.underlying t = some (.int k))
    (hv : Value.okWide P W .any b0 t v) (h : DataW.Trod enc P W base sp hd t v d p) : ∃ n, v = .int k n ∧ (Lit.int k n).wf = true := by
  obtain ⟨n, rfl⟩ := WideShapes.okWide_int ht hv
  obtain ⟨fuel, hf⟩ := h
  obtain ⟨m, e, _, hw⟩ := DataW.trod_int ht hf
  simp only [Value.cells, List.cons.injEq, Value.int.injEq] at e
  exact ⟨n, rfl, by rw [e.1.2]; exact hw⟩
theorem arg_string {t : TypeId} {v : Value} {d : DataW H} {p : List MemPlace} {base b0 : Nat} {sp : Nat → Bool} {hd : Bool} (ht : P.underlying t = some .string)
    (hv : Value.okWide P W .any b0 t v) (h : DataW.Trod enc P W base sp hd t v d p) : ∃ s : List UInt8, RelP (memOf W) (.str s) v ∧ s.length ≤ maxLen := by
  obtain ⟨s, rfl⟩ := WideShapes.okWide_string ht hv
  obtain ⟨fuel, hf⟩ := h
  obtain ⟨m, e, _, hw⟩ := DataW.trod_string ht hf
  simp only [Value.cells, List.cons.injEq, Value.string.injEq, and_true] at e
  subst e
  exact ⟨s.data.toList, .str s.data.toList, by simpa using hw⟩
theorem relPs_of {M : Mem} {ds : List DV} {vs : List Value} (h : RelL M ds vs) : RelPs M ds vs.toArray := by
  refine ⟨by simpa using h.1, fun i hi => ?_⟩
  have := h.2 i hi
  simpa [List.getD_eq_getElem?_getD, Array.getD_eq_getD_getElem?] using this
theorem RelL.cons {M : Mem} {d : DV} {v : Value} {ds : List DV} {vs : List Value} (h : RelP M d v) (k : RelL M ds vs) : RelL M (d :: ds) (v :: vs) := (RelL.one h).append k
theorem gok_of {W : World} {g : Nat} {ds : List DV} {cs : Array Value} (hc : ∀ i, W.cell? ⟨g, i, none⟩ = cs[i]?) (h : RelL (memOf W) ds cs.toList) : RelP (memOf W) (.ip (.agg ds)) (.pointer (some ⟨g, 0, none⟩)) := by
  have hl : ds.length = cs.size := by simpa using h.1
  refine .ip _ g 0 (fun i => cs.getD i Go.undef) (fun i hi => ?_) (fun i hi => ?_)
  · have hi : i < cs.size := by rw [← hl]; exact hi
    show W.cell? _ = _
    rw [Nat.zero_add, hc, Array.getElem?_eq_getElem hi]; simp [Array.getD_eq_getD_getElem?, hi]
  · have h1 := h.2 i hi
    simpa [DV.cells, List.getD_eq_getElem?_getD, Array.getD_eq_getD_getElem?] using h1
theorem len_of {W : World} {n : String} {g : Nat} {cs : Array Value} (hg : P.globalNamed n = some g) (h : W.var? P n = some cs) : blockLen W g = some cs.size := by
  simp only [World.var?, hg, Option.bind_some] at h
  unfold blockLen
  split at h <;> simp_all
theorem tabs_of {W : World} {G : Nat → Option DV} (h : ∀ g d, G g = some d → blockLen W g = some d.cells.length) (h2 : ∀ g d, G g = some d → openI d = false) : Tabs G W := fun g d e => ⟨h g d e, fun ho => by rw [h2 g d e] at ho; cases ho⟩
def Known (enc : TypeId × Value → H) (P : Program) (W : World) (t : TypeId) (x : DataW H) (ds : List DV) : Prop :=
  ∀ (base : Nat) (sp : Nat → Bool) (fuel : Nat) (cs : List Value) (p : List MemPlace), DataW.trod enc P W base sp true fuel t cs = some (x, p) → RelL (memOf W) ds cs
theorem known_string {t : TypeId} (ht : P.underlying t = some .string) (s : List UInt8) : Known enc P W t (.lit (.string s)) [.str s] := by
  intro base sp fuel cs p h
  obtain ⟨b, rfl, e, _⟩ := DataW.trod_string ht h
  simp only [Prod.mk.injEq, DataW.lit.injEq, Lit.string.injEq] at e
  rw [e.1]
  exact .one (.str b.data.toList)
theorem known_int {t : TypeId} {k : IntKind} (ht : P.underlying t = some (.int k)) (n : Int) : Known enc P W t (.lit (.int k n)) [.int k n] := by
  intro base sp fuel cs p h
  obtain ⟨b, rfl, e, _⟩ := DataW.trod_int ht h
  simp only [Prod.mk.injEq, DataW.lit.injEq, Lit.int.injEq, true_and] at e
  rw [e.1]
  exact .one (.int k b)
theorem known_struct2 {t : TypeId} {f0 f1 : Field} {x0 x1 : DataW H} {d0 d1 : List DV} (ht : P.underlying t = some (.struct #[f0, f1])) (c0 c1 : Nat)
    (h0 : P.cellsOf f0.type = c0) (h1 : P.cellsOf f1.type = c1) (hc : P.cellsOf t = c0 + c1) (o0 : f0.offset = 0) (o1 : f1.offset = c0) (k0 : Known enc P W f0.type x0 d0) (k1 : Known enc P W f1.type x1 d1) : Known enc P W t (.agg [x0, x1]) (d0 ++ d1) := by
  intro base sp fuel cs p hx
  obtain ⟨y0, y1, n, e, hl, r0, r1⟩ := ChangeShapes.trod_struct2 ht hx
  simp only [Prod.mk.injEq, DataW.agg.injEq, List.cons.injEq, and_true] at e
  obtain ⟨⟨e0, e1⟩, _⟩ := e
  rw [h0, o0] at r0
  rw [h1, o1] at r1
  rw [hc] at hl
  have a1 := k0 _ _ _ _ y0.2 (by rw [r0, e0])
  have b1 := k1 _ _ _ _ y1.2 (by rw [r1, e1])
  have := a1.append b1
  rwa [split2 hl] at this
theorem known_array_aux {t : TypeId} {c : Nat} : ∀ (xs : List (DataW H × List MemPlace)) (dss : List (List DV)) (cs : List Value), xs.length = dss.length → cs.length = xs.length * c →
    (∀ (i : Nat) (x : DataW H × List MemPlace) (ds : List DV), xs[i]? = some x → dss[i]? = some ds → RelL (memOf W) ds ((cs.drop (i * c)).take c)) → RelL (memOf W) dss.flatten cs
  | [], [], cs, _, hl, _ => by
    have : cs = [] := List.length_eq_zero_iff.1 (by simpa using hl)
    subst this; exact .nil
  | x :: xs, ds :: dss, cs, h1, hl, h => by
    rw [List.length_cons, Nat.add_mul, Nat.one_mul] at hl
    have h2 := known_array_aux (t := t) (c := c) xs dss (cs.drop c) (by simpa using h1) (by simp; omega) (fun i y ds' e1 e2 => by
      have := h (i + 1) y ds' (by simpa using e1) (by simpa using e2)
      rwa [Nat.add_mul, Nat.one_mul, Nat.add_comm (i * c) c, ← List.drop_drop] at this)
    have h3 := h 0 x ds rfl rfl
    rw [Nat.zero_mul, List.drop_zero] at h3
    have := h3.append h2
    rwa [List.take_append_drop] at this
theorem known_array {t e : TypeId} {n c : Nat} {xs : List (DataW H)} {dss : List (List DV)} (ht : P.underlying t = some (.array n e)) (hc : P.cellsOf e = c) (hct : P.cellsOf t = n * c) (hl : xs.length = dss.length)
    (h : ∀ (i : Nat) (x : DataW H) (ds : List DV), xs[i]? = some x → dss[i]? = some ds → Known enc P W e x ds) : Known enc P W t (.agg xs) dss.flatten := by
  intro base sp fuel cs p hx
  obtain ⟨ys, m, _, e, hlc, hn, hel⟩ := DataW.trod_array ht hx
  simp only [Prod.mk.injEq, DataW.agg.injEq] at e
  obtain ⟨e, _⟩ := e
  have hy : ys.length = xs.length := by rw [e]; simp
  refine known_array_aux (t := t) (c := c) ys dss cs (by omega) (by rw [hlc, hct, hn]) (fun i y ds e1 e2 => ?_)
  have hi : i < n := by rw [← hn]; exact (List.getElem?_eq_some_iff.1 e1).1
  have h1 := hel i hi
  rw [hc, e1] at h1
  refine h i y.1 ds (by rw [e, List.getElem?_map, e1]; rfl) e2 _ _ _ _ y.2 h1
end
theorem known_func {P : Program} {W : World} {t : TypeId} {ps rs : Array TypeId} {va : Bool} {b : UInt8} {r : List UInt8} {f0 : FuncId} (ht : P.underlying t = some (.func ps rs va))
    (hone : ((List.range P.funcs.size).filter fun f => (P.funcs[f]?).any (·.name.toUTF8.data.toList == b :: r)) = [f0]) : Known (funcToken P) P W t (.held (b :: r)) [.func f0 []] := by
  intro base sp fuel cs p h
  obtain ⟨v, rfl⟩ : ∃ v, cs = [v] := by
    have h1 := h
    cases fuel with
    | zero => simp [DataW.trod] at h1
    | succ n =>
      unfold DataW.trod at h1
      rw [ht] at h1
      split at h1 <;> simp_all
  have e := func_of_trod ht hone h
  rw [e]
  exact .one (.func f0 [] #[] rfl (fun i hi => absurd hi (Nat.not_lt_zero i)))
end Sh

set_option linter.unusedVariables false
set_option linter.unusedSimpArgs false
namespace Sh
open Go Go.Proofs
section
variable {H : Type} {enc : TypeId × Value → H} {P : Program} {W : World}
theorem opens_array_aux {c : Nat} : ∀ (dss : List (List DV)) (cs : List Value), cs.length = dss.length * c →
    (∀ (i : Nat) (ds : List DV), dss[i]? = some ds → RelL (memOf W) ds ((cs.drop (i * c)).take c)) → RelL (memOf W) dss.flatten cs
  | [], cs, hl, _ => by
    have : cs = [] := List.length_eq_zero_iff.1 (by simpa using hl)
    subst this; exact .nil
  | ds :: dss, cs, hl, h => by
    rw [List.length_cons, Nat.add_mul, Nat.one_mul] at hl
    have h2 := opens_array_aux (c := c) dss (cs.drop c) (by simp; omega) (fun i ds' e2 => by
      have := h (i + 1) ds' (by simpa using e2)
      rwa [Nat.add_mul, Nat.one_mul, Nat.add_comm (i * c) c, ← List.drop_drop] at this)
    have h3 := h 0 ds rfl
    rw [Nat.zero_mul, List.drop_zero] at h3
    have := h3.append h2
    rwa [List.take_append_drop] at this
theorem opens_array {t e : TypeId} {n c : Nat} {α : Type} {f : α → List DV} {B : α → Prop} (ht : P.underlying t = some (.array n e)) (hc : P.cellsOf e = c) (hct : P.cellsOf t = n * c) (hE : Opens enc P W e f B) :
    Opens enc P W t (fun l : List α => l.flatMap f) (fun l => l.length = n ∧ ∀ a ∈ l, B a) := by
  intro base sp hd fuel cs x hx
  obtain ⟨ys, m, _, e, hlc, hn, hel⟩ := DataW.trod_array ht hx
  have hget : ∀ i, i < n → ∃ a : α, RelL (memOf W) (f a) ((cs.drop (i * c)).take c) ∧ B a := by
    intro i hi
    have h1 := hel i hi
    rw [hc, List.getElem?_eq_getElem (by omega)] at h1
    exact hE _ _ _ _ _ _ h1
  obtain ⟨l, hl, hF⟩ := build n hget
  refine ⟨l, ?_, hl, fun a ha => ?_⟩
  · show RelL (memOf W) (l.flatMap f) cs
    rw [List.flatMap_def]
    refine opens_array_aux (c := c) (l.map f) cs (by rw [List.length_map, hl, hlc, hct]) (fun i ds e2 => ?_)
    rw [List.getElem?_map, Option.map_eq_some_iff] at e2
    obtain ⟨a, e3, rfl⟩ := e2
    obtain ⟨hi, rfl⟩ := List.getElem?_eq_some_iff.1 e3
    exact (hF i hi).1
  · obtain ⟨i, hi, rfl⟩ := List.mem_iff_getElem.1 ha
    exact (hF i hi).2
theorem Opens.mapB {t : TypeId} {α β : Type} {e : α → List DV} {B : α → Prop} {e' : β → List DV} {B' : β → Prop} (h : Opens enc P W t e B) (f : α → β) (he : ∀ a, B a → e' (f a) = e a) (hB : ∀ a, B a → B' (f a)) : Opens enc P W t e' B' := by
  intro base sp hd fuel cs x hx
  obtain ⟨a, h1, h2⟩ := h base sp hd fuel cs x hx
  exact ⟨f a, by rw [he a h2]; exact h1, hB a h2⟩
theorem opens_two {t e : TypeId} {c : Nat} {α : Type} [Inhabited α] {f : α → List DV} {B : α → Prop} (ht : P.underlying t = some (.array 2 e)) (hc : P.cellsOf e = c) (hct : P.cellsOf t = 2 * c) (hE : Opens enc P W e f B) :
    Opens enc P W t (fun p : α × α => f p.1 ++ f p.2) (fun p => B p.1 ∧ B p.2) := by
  refine (opens_array ht hc hct hE).mapB (fun l => (l.getD 0 default, l.getD 1 default)) (fun l h => ?_) (fun l h => ?_)
  · match l, h with
    | [a, b], _ => simp
  · match l, h with
    | [a, b], h => exact ⟨h.2 a (by simp), h.2 b (by simp)⟩
theorem wf_in {k : IntKind} {n : Int} (h : (Lit.int k n).wf = true) : k.min ≤ n ∧ n ≤ k.max := by
  unfold Lit.wf at h
  rw [Bool.and_eq_true] at h
  exact ⟨of_decide_eq_true h.1, of_decide_eq_true h.2⟩
theorem wf_u8 {n : Int} (h : (Lit.int .u8 n).wf = true) : 0 ≤ n ∧ n ≤ 255 := wf_in h
theorem wf_u16 {n : Int} (h : (Lit.int .u16 n).wf = true) : 0 ≤ n ∧ n ≤ 65535 := wf_in h
theorem wf_i8 {n : Int} (h : (Lit.int .i8 n).wf = true) : -128 ≤ n ∧ n ≤ 127 := wf_in h
theorem wf_i64 {n : Int} (h : (Lit.int .i64 n).wf = true) : -9223372036854775808 ≤ n ∧ n ≤ 9223372036854775807 := wf_in h
theorem arg_array {t e : TypeId} {n : Nat} {α : Type} {f : α → List DV} {B : α → Prop} {v : Value} {d : DataW H} {p : List MemPlace} {base b0 : Nat} {sp : Nat → Bool} {hd : Bool} (ht : P.underlying t = some (.array n e)) (k : Opens enc P W t f B)
    (hv : Value.okWide P W .any b0 t v) (h : DataW.Trod enc P W base sp hd t v d p) : ∃ a, RelP (memOf W) (.agg (f a)) v ∧ B a := by
  obtain ⟨cs, rfl⟩ : ∃ cs, v = .agg cs := by
    simp only [Value.okWide, ht] at hv
    obtain ⟨cs, h1, _⟩ := hv
    exact ⟨cs, h1⟩
  obtain ⟨fuel, hf⟩ := h
  obtain ⟨a, h1, h2⟩ := k _ _ _ _ _ _ hf
  refine ⟨a, .agg _ _ (by simpa [Value.cells] using h1.1) (fun i hi => ?_), h2⟩
  have := h1.2 i hi
  simpa [Value.cells, List.getD_eq_getElem?_getD, Array.getD_eq_getD_getElem?] using this
theorem open_var {g : Nat} {t : TypeId} {zero : Array Value} (h : W.ShapedOpen P) (hg : g < P.globals.size)
    (h0 : ((begin P (fun _ _ => 0) default).world.heap[g]?).bind Obj.row? = some (zero, t)) (hz : zero.size = 1)
    (hb : P.buildable t = true) (hc : P.cellTypes P.depth t = some [t]) (hu : P.underlying t = some (.int .i64)) :
    (∃ m, W.cell? ⟨g, 0, none⟩ = some (.int .i64 m)) ∧ blockLen W g = some 1 := by
  refine ⟨cell_of_shapedOpen_int h hg h0 hz hb hc hu, ?_⟩
  obtain ⟨cs, hh, hs, _⟩ := h.1 g zero t hg h0
  unfold blockLen
  rw [hh]
  show some cs.size = some 1
  rw [hs, hz]
theorem gok_open {g : Nat} (h : ∃ m, W.cell? ⟨g, 0, none⟩ = some (.int .i64 m)) : RelP (memOf W) (.ip (.agg [.undef])) (.pointer (some ⟨g, 0, none⟩)) := by
  obtain ⟨m, hm⟩ := h
  refine .ip _ g 0 (fun _ => .int .i64 m) (fun i hi => ?_) (fun i hi => ?_)
  · have : i = 0 := by simpa [DV.cells] using hi
    subst this; exact hm
  · have : i = 0 := by simpa [DV.cells] using hi
    subst this; exact .undef _
theorem handed_shaped {a : Assume} {C : Checked} {os : Os} {f : FuncId} {fn : Func} {s : ChangeSpec} {conds : List PathCond} {apart fresh handsOn again : Bool} {X : World → Array Value → Prop}
    (hX : ∀ (w w' : World) (args : Array Value), w.heap = w'.heap → X w args → X w' args)
    (own : ownKnob C.prog.godebug = none) (started : os.Started) (noInit : C.prog.inits.idxOf? f = none) (hfn : C.prog.funcs[f]? = some fn)
    (witness : ∃ (w : World) (tape : Tape) (i : Input), w.os = os ∧ (w.forCall tape i).Shaped C.prog ∧ i.vars = [] ∧ Input.okWide C.prog (w.forCall tape i) .any w.heap.size f i ∧
      ((s.pre enc C.prog fn conds apart (w.forCall tape i).memory i.args ∧ X (w.forCall tape i).memory i.args) ∧ sizedMet enc C.prog fn (OpenSpec.ofChange s) apart (w.forCall tape i).memory i.args) ∧ a.holds C.prog (lone (Frame.enter C.prog f i.args .normal) [] (w.forCall tape i)))
    (contract : ∀ (W : World) (base : Nat) (args : Array Value) (ds gs : List (DataW H)) (before : List MemPlace),
      (∀ (j : Nat) t v, fn.params[j]? = some t → args[j]? = some v → Value.okWide C.prog W .any base t v) →
      DataW.Whole enc C.prog fn.params.toList s.vars apart W args.toList ds gs before → X W args → W.ShapedOpen C.prog →
      Calls C.prog f args W fun e W' => ∃ v, e = .returned v ∧ s.post enc C.prog fn apart fresh handsOn again W args v W') :
    ReturnsInHanded a C os f .any (fun w args => (s.pre enc C.prog fn conds apart w args ∧ X w args) ∧ sizedMet enc C.prog fn (OpenSpec.ofChange s) apart w args) (s.post enc C.prog fn apart fresh handsOn again) := by
  refine returnsInHanded_of_calls own started noInit witness ?_
  intro w tape i _ hsh _ hok hpre hholds
  obtain ⟨_, _, _, fn', hfn', _, _, _, _, hval⟩ := hok
  have e : fn' = fn := Option.some.inj (hfn'.symm.trans hfn)
  subst e
  obtain ⟨⟨⟨ds, gs, before, hw, hc⟩, hx⟩, hz⟩ := hpre
  have hw' := DataW.Whole.of_heap (w' := w.forCall tape i) (by rfl) hw
  refine (contract (w.forCall tape i) w.heap.size i.args ds gs before hval hw' (hX _ _ _ (by rfl) hx) hsh).mono fun e W' ⟨v, he, hp⟩ => ?_
  subst he
  exact ChangeSpec.post_blind hp
end
section
open Go.RowKit Go.WideShapes Go.ChangeShapes
variable {H : Type} {enc : TypeId × Value → H} {P : Program}
theorem postOfBelow {f : Func} {s : ChangeSpec} {apart fresh handsOn again : Bool} {W W' : World} {args : Array Value} {v : Value} {ds gs : List (DataW H)} {before pa pv : List MemPlace}
    (hW : DataW.Whole enc P f.params.toList s.vars apart W args.toList ds gs before)
    (hres : ∀ (b : Nat) (sp : Nat → Bool) (hd : Bool), DataW.TrodAll enc P W' b sp hd f.resultTypes.toList (v.resultList f.resultTypes.size) (s.fn H (ds ++ gs)).results [])
    (hargs : ∀ sp : Nat → Bool, (∀ p ∈ before, sp p.block = true) → DataW.TrodAll enc P W' 0 sp true f.params.toList args.toList (s.fn H (ds ++ gs)).args pa)
    (hvars : ∀ sp : Nat → Bool, (∀ p ∈ before, sp p.block = true) → DataW.TrodVars enc P W' sp s.vars (s.fn H (ds ++ gs)).vars pv)
    (hps : before = pa ++ pv) (hb : Below W.heap.size W W')
    (hok : ∀ (j : Nat) (t : TypeId) (r : Value), f.resultTypes[j]? = some t → (v.resultList f.resultTypes.size)[j]? = some r → Value.okWide P W' .any 0 t r) :
    s.post enc P f apart fresh handsOn again W args v W' := by
  have hlt : ∀ p ∈ before, p.block < W.heap.size := fun p hp => hW.lt p hp
  have hold : ∀ p ∈ before, (fun b => decide (b < W.heap.size)) p.block = true := fun p hp => by simpa using hlt p hp
  refine ⟨ds, gs, before, [], pa, pv, hW, hres _ _ _, hargs _ hold, hvars _ hold, World.keptBut_mono (fun p hp => ⟨hp, ?_⟩) (hb.frame (· ∈ before)), fun _ => ?_⟩
  · rw [hps, List.mem_append] at hp
    exact Or.inr hp
  · obtain ⟨_, _, _, _, _, hz, hn⟩ := hW
    refine ⟨hok, _, _, ([] ++ pa) ++ pv, ⟨[] ++ pa, pv, trodAll_append (hargs _ (fun _ _ => rfl)) (hres _ _ _), hvars _ (fun _ _ => rfl), rfl, ?_, ?_⟩, ?_⟩
    · intro b off hp
      have hin : MemPlace.cell b off ∈ before := by rw [hps]; simpa using hp
      rw [hb.frozen (hlt _ hin)]
      exact hz b off hin
    · intro ha
      have := hn ha
      rw [hps] at this
      simpa using this
    · intro p hp _
      rw [hps]
      simpa using hp
theorem trodAll_stays (hl : laidOutB P = true) {W W' : World} (hb : Below W.heap.size W W') {sp : Nat → Bool} : ∀ {ts : List TypeId} {vs : List Value} {ds : List (DataW H)} {ps : List MemPlace}, DataW.TrodAll enc P W 0 (fun _ => true) true ts vs ds ps →
    (ts.all fun t => P.readableRec t && decide (t < P.types.size)) = true → (∀ p ∈ ps, p.block < W.heap.size) → (∀ p ∈ ps, sp p.block = true) → DataW.TrodAll enc P W' 0 sp true ts vs ds ps
  | [], _, _, _, h, _, _, _ => by
    obtain ⟨rfl, rfl, rfl⟩ := trodAll_nil h
    rfl
  | t :: ts, _, _, _, h, ht, hlt, hsp => by
    obtain ⟨v, vs, d, ds, p, q, rfl, rfl, rfl, h1, h2⟩ := trodAll_cons h
    rw [List.all_cons, Bool.and_eq_true, Bool.and_eq_true] at ht
    exact trodAll_cons_mk (WideElems.Trod_stays hl ht.1.1 (of_decide_eq_true ht.1.2) h1 (fun x hx => hb.same (hlt x (by simp [hx]))) (fun x hx => hsp x (by simp [hx])))
      (trodAll_stays hl hb h2 ht.2 (fun x hx => hlt x (by simp [hx])) (fun x hx => hsp x (by simp [hx])))
end
theorem relL_ints {M : Mem} {k : IntKind} (zs : List Int) : RelL M (zs.map (DV.int k)) (zs.map fun z => Value.int k z) := by
  refine ⟨by simp, fun i hi => ?_⟩
  rw [List.length_map] at hi
  have e1 : (zs.map (DV.int k)).getD i .undef = .int k zs[i] := by simp [List.getD_eq_getElem?_getD, hi]
  have e2 : (zs.map fun z => Value.int k z).getD i Go.undef = .int k zs[i] := by simp [List.getD_eq_getElem?_getD, hi]
  rw [e1, e2]
  exact .int _ _
end Sh

set_option maxRecDepth 100000
namespace Sh
open Go
def dc12 : DFunc := ⟨6, 1, [(.tmp 2)], (.seq (.ops false [⟨(some 2), (.mov (.const (.bool false))), none, []⟩]) (.seq (.ops false [⟨(some 3), (.mov (.tmp 0)), none, []⟩, ⟨(some 4), (.len (.tmp 3)), none, []⟩, ⟨(some 5), (.bin .leq (.tmp 4) (.const (.int .i64 9))), none, []⟩, ⟨(some 2), (.mov (.tmp 5)), none, []⟩]) .ret))⟩
theorem dh12 : cProg Go.Proofs.Tryz.prog ⟨[], [], []⟩ 12 = some dc12 := by kernel_rfl
def dc14 : DFunc := ⟨19, 2, [(.tmp 4), (.tmp 5)], (.seq (.ops false [⟨(some 2), (.box 3 (.tmp 0)), none, []⟩, ⟨(some 4), (.mov (.const (.int .i64 0))), none, []⟩, ⟨(some 5), (.mov (.const (.int .i64 0))), none, []⟩]) (.seq (.seq (.ops false [⟨(some 7), (.load (some 3) (.tmp 2)), none, []⟩, ⟨(some 8), (.call (.func 25) [(.tmp 7)]), none, []⟩, ⟨(some 9), (.mov (.tmp 1)), none, []⟩, ⟨(some 10), (.call (.func 79) [(.tmp 9)]), none, []⟩, ⟨(some 11), (.lit true 1 2 (.int .i64 0) [(0, (.tmp 8)), (1, (.tmp 10))]), none, []⟩, ⟨(some 12), (.call (.func 78) [(.tmp 11)]), none, []⟩, ⟨(some 6), (.mov (.tmp 12)), none, []⟩]) (.seq (.ops false [⟨(some 13), (.mov (.tmp 6)), none, []⟩, ⟨(some 14), (.bin .neq (.tmp 13) (.const (.int .i64 0))), none, []⟩]) (.cond (.tmp 14) (.seq (.ops false [⟨(some 15), (.mov (.tmp 6)), none, []⟩, ⟨(some 4), (.mov (.const (.int .i64 0))), none, []⟩, ⟨(some 5), (.mov (.tmp 15)), none, []⟩]) .ret) .skip))) (.seq (.ops false [⟨(some 16), (.load (some 3) (.tmp 2)), none, []⟩, ⟨(some 17), (.mov (.tmp 1)), none, []⟩, ⟨(some 18), (.call (.func 80) [(.tmp 16), (.tmp 17)]), none, []⟩, ⟨(some 4), (.mov (.tmp 18)), none, []⟩, ⟨(some 5), (.mov (.const (.int .i64 0))), none, []⟩]) .ret)))⟩
theorem dh14 : cProg Go.Proofs.Tryz.prog ⟨[], [], [11]⟩ 14 = some dc14 := by kernel_rfl
def dc15 : DFunc := ⟨12, 1, [(.cell 2 (some 3))], (.seq (.ops false [⟨(some 1), (.box 3 (.tmp 0)), none, []⟩, ⟨(some 2), (.alloc (.agg [(.full []), (.int .i64 0), (.int .i64 0)]) 3), none, []⟩]) (.seq (.ops true [⟨(some 3), (.lit true 2 0 (.agg [(.int .i64 0), (.int .i64 0)]) []), none, []⟩, ⟨(some 4), (.faddr 0 1 false (.tmp 1)), none, []⟩, ⟨(some 5), (.load none (.tmp 4)), none, [1]⟩, ⟨(some 6), (.append true 2 (.tmp 3) (.tmp 5)), none, [0, 2, 1]⟩, ⟨(some 7), (.faddr 1 1 false (.tmp 1)), none, []⟩, ⟨(some 8), (.load none (.tmp 7)), none, [4]⟩, ⟨(some 9), (.faddr 2 1 false (.tmp 1)), none, []⟩, ⟨(some 10), (.load none (.tmp 9)), none, [6]⟩, ⟨(some 11), (.build [(.full []), (.int .i64 0), (.int .i64 0)] [(0, (1, (.tmp 6))), (1, (1, (.tmp 8))), (2, (1, (.tmp 10)))]), none, [3, 0, 2, 1, 5, 4, 7, 6]⟩, ⟨none, (.store 3 (.tmp 2) (.tmp 11)), none, [8, 3, 0, 2, 1, 5, 4, 7, 6]⟩]) .ret))⟩
theorem dh15 : cProg Go.Proofs.Tryz.prog ⟨[], [], [3, 6]⟩ 15 = some dc15 := by kernel_rfl
def dc16 : DFunc := ⟨27, 2, [(.tmp 4), (.tmp 5), (.tmp 6)], (.seq (.ops false [⟨(some 2), (.box 3 (.tmp 0)), none, []⟩, ⟨(some 4), (.mov (.const (.int .i64 0))), none, []⟩, ⟨(some 5), (.mov (.const (.bool false))), none, []⟩, ⟨(some 6), (.mov (.const (.int .i64 0))), none, []⟩]) (.seq (.seq (.ops false [⟨(some 10), (.load (some 3) (.tmp 2)), none, []⟩, ⟨(some 11), (.call (.func 25) [(.tmp 10)]), none, []⟩, ⟨(some 12), (.mov (.tmp 1)), none, []⟩, ⟨(some 13), (.call (.func 81) [(.tmp 12)]), none, []⟩, ⟨(some 14), (.lit true 1 2 (.int .i64 0) [(0, (.tmp 11)), (1, (.tmp 13))]), none, []⟩, ⟨(some 15), (.call (.func 78) [(.tmp 14)]), none, []⟩, ⟨(some 7), (.mov (.tmp 15)), none, []⟩]) (.seq (.ops false [⟨(some 16), (.mov (.tmp 7)), none, []⟩, ⟨(some 17), (.bin .neq (.tmp 16) (.const (.int .i64 0))), none, []⟩]) (.cond (.tmp 17) (.seq (.ops false [⟨(some 18), (.mov (.tmp 7)), none, []⟩, ⟨(some 4), (.mov (.const (.int .i64 0))), none, []⟩, ⟨(some 5), (.mov (.const (.bool false))), none, []⟩, ⟨(some 6), (.mov (.tmp 18)), none, []⟩]) .ret) .skip))) (.seq (.ops false [⟨(some 20), (.load (some 3) (.tmp 2)), none, []⟩, ⟨(some 21), (.mov (.tmp 1)), none, []⟩, ⟨(some 22), (.call (.func 82) [(.tmp 20), (.tmp 21)]), none, []⟩, ⟨(some 19), (.mov (.tmp 22)), none, []⟩, ⟨(some 23), (.extract (.tmp 19) 0), none, []⟩, ⟨(some 24), (.extract (.tmp 19) 1), none, []⟩, ⟨(some 8), (.mov (.tmp 23)), none, []⟩, ⟨(some 9), (.mov (.tmp 24)), none, []⟩]) (.seq (.ops false [⟨(some 25), (.mov (.tmp 8)), none, []⟩, ⟨(some 26), (.mov (.tmp 9)), none, []⟩, ⟨(some 4), (.mov (.tmp 25)), none, []⟩, ⟨(some 5), (.mov (.tmp 26)), none, []⟩, ⟨(some 6), (.mov (.const (.int .i64 0))), none, []⟩]) .ret))))⟩
theorem dh16 : cProg Go.Proofs.Tryz.prog ⟨[], [], [14]⟩ 16 = some dc16 := by kernel_rfl
def dc17 : DFunc := ⟨5, 1, [(.tmp 2)], (.seq (.ops false [⟨(some 2), (.mov (.const (.int .i64 0))), none, []⟩]) (.seq (.ops false [⟨(some 3), (.mov (.tmp 0)), none, []⟩, ⟨(some 4), (.call (.func 83) [(.tmp 3)]), none, []⟩, ⟨(some 2), (.mov (.tmp 4)), none, []⟩]) .ret))⟩
theorem dh17 : cProg Go.Proofs.Tryz.prog ⟨[], [], []⟩ 17 = some dc17 := by kernel_rfl
def dc18 : DFunc := ⟨14, 1, [(.tmp 2)], (.seq (.ops false [⟨(some 1), (.box 3 (.tmp 0)), none, []⟩, ⟨(some 2), (.mov (.const (.int .i64 0))), none, []⟩]) (.seq (.ops true [⟨(some 3), (.faddr 0 1 false (.tmp 1)), none, []⟩, ⟨(some 4), (.load none (.tmp 3)), none, [0]⟩, ⟨(some 5), (.call (.func 24) [(.tmp 4)]), none, [1, 0]⟩, ⟨(some 6), (.faddr 1 1 false (.tmp 1)), none, []⟩, ⟨(some 7), (.load none (.tmp 6)), none, [3]⟩, ⟨(some 8), (.call (.func 52) [(.tmp 7), (.const (.int .i64 0)), (.const (.int .i64 1000))]), none, [4, 3, 2, 1, 0]⟩, ⟨(some 9), (.faddr 2 1 false (.tmp 1)), none, []⟩, ⟨(some 10), (.load none (.tmp 9)), none, [6]⟩, ⟨(some 11), (.call (.func 52) [(.tmp 10), (.const (.int .i64 0)), (.const (.int .i64 10))]), none, [7, 6, 5, 4, 3, 2, 1, 0]⟩, ⟨(some 12), (.lit true 1 3 (.int .i64 0) [(0, (.tmp 5)), (1, (.tmp 8)), (2, (.tmp 11))]), none, [2, 1, 0, 5, 4, 3, 8, 7, 6]⟩, ⟨(some 13), (.call (.func 83) [(.tmp 12)]), none, [9, 2, 1, 0, 5, 4, 3, 8, 7, 6]⟩, ⟨(some 2), (.mov (.tmp 13)), none, [10, 9, 2, 1, 0, 5, 4, 3, 8, 7, 6]⟩]) .ret))⟩
theorem dh18 : cProg Go.Proofs.Tryz.prog ⟨[], [], [12]⟩ 18 = some dc18 := by kernel_rfl
def dc19 : DFunc := ⟨5, 1, [(.tmp 2)], (.seq (.ops false [⟨(some 2), (.mov (.const (.int .i64 0))), none, []⟩]) (.seq (.ops false [⟨(some 3), (.mov (.tmp 0)), none, []⟩, ⟨(some 4), (.call (.func 52) [(.tmp 3), (.const (.int .i64 0)), (.const (.int .i64 800))]), none, []⟩, ⟨(some 2), (.mov (.tmp 4)), none, []⟩]) .ret))⟩
theorem dh19 : cProg Go.Proofs.Tryz.prog ⟨[], [], []⟩ 19 = some dc19 := by kernel_rfl
def dc20 : DFunc := ⟨5, 1, [(.tmp 2)], (.seq (.ops false [⟨(some 2), (.mov (.const (.int .i64 0))), none, []⟩]) (.seq (.ops false [⟨(some 3), (.mov (.tmp 0)), none, []⟩, ⟨(some 4), (.call (.func 52) [(.tmp 3), (.const (.int .i64 0)), (.const (.int .i64 200))]), none, []⟩, ⟨(some 2), (.mov (.tmp 4)), none, []⟩]) .ret))⟩
theorem dh20 : cProg Go.Proofs.Tryz.prog ⟨[], [], []⟩ 20 = some dc20 := by kernel_rfl
def dc21 : DFunc := ⟨13, 2, [(.tmp 4)], (.seq (.ops false [⟨(some 2), (.box 3 (.tmp 0)), none, []⟩, ⟨(some 4), (.mov (.const (.int .i64 0))), none, []⟩]) (.seq (.ops true [⟨(some 5), (.faddr 0 1 false (.tmp 2)), none, []⟩, ⟨(some 6), (.load none (.tmp 5)), none, [0]⟩, ⟨(some 7), (.mov (.tmp 1)), none, []⟩, ⟨(some 8), (.call (.func 85) [(.tmp 6), (.tmp 7)]), none, [1, 0, 2]⟩, ⟨(some 9), (.faddr 1 1 false (.tmp 2)), none, []⟩, ⟨(some 10), (.load none (.tmp 9)), none, [4]⟩, ⟨(some 11), (.bin .mul (.tmp 8) (.tmp 10)), none, [3, 1, 0, 2, 5, 4]⟩, ⟨(some 12), (.call (.func 84) [(.tmp 11), (.const (.int .i64 1000))]), none, [6, 3, 1, 0, 2, 5, 4]⟩, ⟨(some 4), (.mov (.tmp 12)), none, [7, 6, 3, 1, 0, 2, 5, 4]⟩]) .ret))⟩
theorem dh21 : cProg Go.Proofs.Tryz.prog ⟨[], [], []⟩ 21 = some dc21 := by kernel_rfl
def db22_0 : DC := (.seq (.seq (.ops false [⟨(some 12), (.mov (.tmp 8)), none, []⟩, ⟨(some 13), (.faddr 0 1 false (.tmp 2)), none, []⟩, ⟨(some 14), (.load none (.tmp 13)), none, []⟩, ⟨(some 15), (.call (.func 86) [(.tmp 14)]), none, []⟩, ⟨(some 16), (.bin .leq (.tmp 12) (.tmp 15)), none, []⟩]) (.cond (.tmp 16) .skip (.exit 0))) (.seq (.block 1 none (.seq (.ops false [⟨(some 19), (.load (some 3) (.tmp 2)), none, []⟩, ⟨(some 20), (.mov (.tmp 8)), none, []⟩, ⟨(some 21), (.call (.func 21) [(.tmp 19), (.tmp 20)]), none, []⟩, ⟨(some 22), (.mov (.tmp 1)), none, []⟩, ⟨(some 23), (.bin .geq (.tmp 21) (.tmp 22)), none, []⟩]) (.cond (.tmp 23) (.ops false [⟨(some 24), (.mov (.tmp 8)), none, []⟩, ⟨(some 6), (.mov (.tmp 24)), none, []⟩, ⟨(some 7), (.mov (.const (.bool true))), none, []⟩]) .skip))) (.ops false [⟨(some 17), (.mov (.tmp 8)), none, []⟩, ⟨(some 18), (.bin .add (.tmp 17) (.const (.int .i64 1))), none, []⟩, ⟨(some 8), (.mov (.tmp 18)), none, []⟩])))
def dk22_0 : Keep := ⟨[], [1, 2, 6, 7, 8], [2]⟩
def dc22 : DFunc := ⟨27, 2, [(.tmp 4), (.tmp 5)], (.seq (.ops false [⟨(some 2), (.box 3 (.tmp 0)), none, []⟩, ⟨(some 4), (.mov (.const (.int .i64 0))), none, []⟩, ⟨(some 5), (.mov (.const (.bool false))), none, []⟩]) (.seq (.ops false [⟨(some 9), (.faddr 2 1 false (.tmp 2)), none, []⟩, ⟨(some 10), (.load none (.tmp 9)), none, []⟩, ⟨(some 11), (.bin .sub (.const (.int .i64 0)) (.tmp 10)), none, []⟩, ⟨(some 6), (.mov (.tmp 11)), none, []⟩, ⟨(some 7), (.mov (.const (.bool false))), none, []⟩]) (.seq (.seq (.ops false [⟨(some 8), (.mov (.const (.int .i64 0))), none, []⟩]) (.block 0 (some ⟨[], [6, 7], [2]⟩) (.loop dk22_0 db22_0))) (.seq (.ops false [⟨(some 25), (.mov (.tmp 6)), none, []⟩, ⟨(some 26), (.mov (.tmp 7)), none, []⟩, ⟨(some 4), (.mov (.tmp 25)), none, []⟩, ⟨(some 5), (.mov (.tmp 26)), none, []⟩]) .ret))))⟩
theorem dh22 : cProg Go.Proofs.Tryz.prog ⟨[(0, ⟨[], [1, 2, 6, 7, 8], [2]⟩)], [(0, ⟨[], [6, 7], [2]⟩)], []⟩ 22 = some dc22 := by kernel_rfl
def db23_0 : DC := (.seq (.ops false [⟨(some 25), (.bin .lss (.tmp 24) (.tmp 23)), none, []⟩]) (.seq (.cond (.tmp 25) .skip (.exit 0)) (.seq (.block 1 none (.seq (.ops false [⟨(some 26), (.mov (.tmp 24)), none, []⟩, ⟨(some 27), (.iaddr 2 (.tmp 22) (.tmp 24)), none, []⟩, ⟨(some 28), (.load (some 2) (.tmp 27)), none, []⟩, ⟨(some 6), (.alloc (.agg [(.int .i64 0), (.int .i64 0)]) 2), none, []⟩, ⟨(some 5), (.mov (.tmp 26)), none, []⟩, ⟨none, (.store 2 (.tmp 6) (.tmp 28)), none, []⟩]) (.seq (.seq (.ops true [⟨(some 29), (.faddr 0 1 false (.tmp 6)), none, []⟩, ⟨(some 30), (.load none (.tmp 29)), none, [0]⟩, ⟨(some 31), (.call (.func 88) [(.tmp 30), (.const (.int .i64 0)), (.const (.int .i64 100))]), none, [1, 0]⟩, ⟨(some 32), (.faddr 1 1 false (.tmp 6)), none, []⟩, ⟨(some 33), (.load none (.tmp 32)), none, [3]⟩, ⟨(some 34), (.call (.func 88) [(.tmp 33), (.const (.int .i64 0)), (.const (.int .i64 200))]), none, [4, 3, 2, 1, 0]⟩, ⟨(some 35), (.mov (.tmp 5)), none, []⟩, ⟨(some 36), (.bin .eql (.tmp 35) (.const (.int .i64 0))), none, [6]⟩, ⟨(some 37), (.mov (.tmp 36)), none, [7, 6, 5, 4, 3, 2, 1, 0]⟩, ⟨(some 38), (.load (some 2) (.tmp 6)), (some (37, true)), [8, 7, 6, 5, 4, 3, 2, 1, 0]⟩, ⟨(some 39), (.faddr 1 1 false (.tmp 6)), (some (37, true)), [8, 7, 6, 5, 4, 3, 2, 1, 0]⟩, ⟨(some 40), (.load none (.tmp 39)), (some (37, true)), [10, 8, 7, 6, 5, 4, 3, 2, 1, 0]⟩, ⟨(some 41), (.build [(.int .i64 0), (.int .i64 0)] [(1, (1, (.tmp 40)))]), (some (37, true)), [11, 10, 8, 7, 6, 5, 4, 3, 2, 1, 0]⟩, ⟨(some 42), (.eqA true [1, 1] (.tmp 38) (.tmp 41)), (some (37, true)), [9, 8, 7, 6, 5, 4, 3, 2, 1, 0, 12, 11, 10]⟩, ⟨(some 43), (.pick (.tmp 37) (.tmp 42) (.const (.bool false))), none, [8, 7, 6, 5, 4, 3, 2, 1, 0, 13, 9, 12, 11, 10]⟩, ⟨(some 44), (.mov (.tmp 43)), none, [14, 8, 7, 6, 5, 4, 3, 2, 1, 0, 13, 9, 12, 11, 10]⟩, ⟨(some 45), (.faddr 0 1 false (.tmp 6)), (some (44, false)), [15, 14, 8, 7, 6, 5, 4, 3, 2, 1, 0, 13, 9, 12, 11, 10]⟩, ⟨(some 46), (.load none (.tmp 45)), (some (44, false)), [16, 15, 14, 8, 7, 6, 5, 4, 3, 2, 1, 0, 13, 9, 12, 11, 10]⟩, ⟨(some 47), (.faddr 0 1 false (.tmp 4)), (some (44, false)), [15, 14, 8, 7, 6, 5, 4, 3, 2, 1, 0, 13, 9, 12, 11, 10]⟩, ⟨(some 48), (.load none (.tmp 47)), (some (44, false)), [18, 15, 14, 8, 7, 6, 5, 4, 3, 2, 1, 0, 13, 9, 12, 11, 10]⟩, ⟨(some 49), (.bin .leq (.tmp 46) (.tmp 48)), (some (44, false)), [17, 16, 15, 14, 8, 7, 6, 5, 4, 3, 2, 1, 0, 13, 9, 12, 11, 10, 19, 18]⟩, ⟨(some 50), (.pick (.tmp 44) (.const (.bool true)) (.tmp 49)), none, [15, 14, 8, 7, 6, 5, 4, 3, 2, 1, 0, 13, 9, 12, 11, 10, 20, 17, 16, 19, 18]⟩, ⟨(some 51), (.mov (.tmp 50)), none, [21, 15, 14, 8, 7, 6, 5, 4, 3, 2, 1, 0, 13, 9, 12, 11, 10, 20, 17, 16, 19, 18]⟩, ⟨(some 52), (.faddr 1 1 false (.tmp 6)), (some (51, false)), [22, 21, 15, 14, 8, 7, 6, 5, 4, 3, 2, 1, 0, 13, 9, 12, 11, 10, 20, 17, 16, 19, 18]⟩, ⟨(some 53), (.load none (.tmp 52)), (some (51, false)), [23, 22, 21, 15, 14, 8, 7, 6, 5, 4, 3, 2, 1, 0, 13, 9, 12, 11, 10, 20, 17, 16, 19, 18]⟩, ⟨(some 54), (.faddr 1 1 false (.tmp 4)), (some (51, false)), [22, 21, 15, 14, 8, 7, 6, 5, 4, 3, 2, 1, 0, 13, 9, 12, 11, 10, 20, 17, 16, 19, 18]⟩, ⟨(some 55), (.load none (.tmp 54)), (some (51, false)), [25, 22, 21, 15, 14, 8, 7, 6, 5, 4, 3, 2, 1, 0, 13, 9, 12, 11, 10, 20, 17, 16, 19, 18]⟩, ⟨(some 56), (.bin .gtr (.tmp 53) (.tmp 55)), (some (51, false)), [24, 23, 22, 21, 15, 14, 8, 7, 6, 5, 4, 3, 2, 1, 0, 13, 9, 12, 11, 10, 20, 17, 16, 19, 18, 26, 25]⟩, ⟨(some 57), (.pick (.tmp 51) (.const (.bool true)) (.tmp 56)), none, [22, 21, 15, 14, 8, 7, 6, 5, 4, 3, 2, 1, 0, 13, 9, 12, 11, 10, 20, 17, 16, 19, 18, 27, 24, 23, 26, 25]⟩, ⟨(some 58), (.call (.func 87) [(.tmp 57), (.const (.int .i64 11))]), none, [28, 22, 21, 15, 14, 8, 7, 6, 5, 4, 3, 2, 1, 0, 13, 9, 12, 11, 10, 20, 17, 16, 19, 18, 27, 24, 23, 26, 25]⟩, ⟨(some 59), (.lit true 1 3 (.int .i64 0) [(0, (.tmp 31)), (1, (.tmp 34)), (2, (.tmp 58))]), none, [2, 1, 0, 5, 4, 3, 29, 28, 22, 21, 15, 14, 8, 7, 6, 13, 9, 12, 11, 10, 20, 17, 16, 19, 18, 27, 24, 23, 26, 25]⟩, ⟨(some 60), (.call (.func 78) [(.tmp 59)]), none, [30, 2, 1, 0, 5, 4, 3, 29, 28, 22, 21, 15, 14, 8, 7, 6, 13, 9, 12, 11, 10, 20, 17, 16, 19, 18, 27, 24, 23, 26, 25]⟩, ⟨(some 7), (.mov (.tmp 60)), none, [31, 30, 2, 1, 0, 5, 4, 3, 29, 28, 22, 21, 15, 14, 8, 7, 6, 13, 9, 12, 11, 10, 20, 17, 16, 19, 18, 27, 24, 23, 26, 25]⟩]) (.seq (.ops false [⟨(some 61), (.mov (.tmp 7)), none, []⟩, ⟨(some 62), (.bin .neq (.tmp 61) (.const (.int .i64 0))), none, []⟩]) (.cond (.tmp 62) (.seq (.ops false [⟨(some 63), (.mov (.tmp 7)), none, []⟩, ⟨(some 2), (.mov (.tmp 63)), none, []⟩]) .ret) .skip))) (.ops false [⟨(some 64), (.load (some 2) (.tmp 6)), none, []⟩, ⟨none, (.store 2 (.tmp 4) (.tmp 64)), none, []⟩])))) (.ops false [⟨(some 65), (.bin .add (.tmp 24) (.const (.int .i64 1))), none, []⟩, ⟨(some 24), (.mov (.tmp 65)), none, []⟩]))))
def dk23_0 : Keep := ⟨[], [4, 22, 23, 24], [4, 16]⟩
def dc23 : DFunc := ⟨70, 1, [(.tmp 2)], (.seq (.ops false [⟨(some 2), (.mov (.const (.int .i64 0))), none, []⟩]) (.seq (.seq (.ops false [⟨(some 8), (.mov (.tmp 0)), none, []⟩, ⟨(some 9), (.len (.tmp 8)), none, []⟩, ⟨(some 10), (.bin .lss (.tmp 9) (.const (.int .i64 2))), none, []⟩, ⟨(some 11), (.call (.func 87) [(.tmp 10), (.const (.int .i64 16))]), none, []⟩, ⟨(some 12), (.mov (.tmp 0)), none, []⟩, ⟨(some 13), (.len (.tmp 12)), none, []⟩, ⟨(some 14), (.bin .gtr (.tmp 13) (.const (.int .i64 8))), none, []⟩, ⟨(some 15), (.call (.func 87) [(.tmp 14), (.const (.int .i64 5))]), none, []⟩, ⟨(some 16), (.lit true 1 2 (.int .i64 0) [(0, (.tmp 11)), (1, (.tmp 15))]), none, []⟩, ⟨(some 17), (.call (.func 78) [(.tmp 16)]), none, []⟩, ⟨(some 3), (.mov (.tmp 17)), none, []⟩]) (.seq (.ops false [⟨(some 18), (.mov (.tmp 3)), none, []⟩, ⟨(some 19), (.bin .neq (.tmp 18) (.const (.int .i64 0))), none, []⟩]) (.cond (.tmp 19) (.seq (.ops false [⟨(some 20), (.mov (.tmp 3)), none, []⟩, ⟨(some 2), (.mov (.tmp 20)), none, []⟩]) .ret) .skip))) (.seq (.ops false [⟨(some 21), (.build [(.int .i64 0), (.int .i64 0)] [(0, (1, (.const (.int .i64 (-1))))), (1, (1, (.const (.int .i64 200))))]), none, []⟩, ⟨(some 4), (.alloc (.agg [(.int .i64 0), (.int .i64 0)]) 2), none, []⟩, ⟨none, (.store 2 (.tmp 4) (.tmp 21)), none, []⟩]) (.seq (.seq (.ops false [⟨(some 22), (.mov (.tmp 0)), none, []⟩, ⟨(some 23), (.len (.tmp 22)), none, []⟩, ⟨(some 24), (.mov (.const (.int .i64 0))), none, []⟩]) (.block 0 (some ⟨[], [4], [4, 16]⟩) (.loop dk23_0 db23_0))) (.seq (.ops false [⟨(some 66), (.faddr 1 1 false (.tmp 4)), none, []⟩, ⟨(some 67), (.load none (.tmp 66)), none, []⟩, ⟨(some 68), (.bin .neq (.tmp 67) (.const (.int .i64 0))), none, []⟩, ⟨(some 69), (.call (.func 87) [(.tmp 68), (.const (.int .i64 32))]), none, []⟩, ⟨(some 2), (.mov (.tmp 69)), none, []⟩]) .ret)))))⟩
theorem dh23 : cProg Go.Proofs.Tryz.prog ⟨[(0, ⟨[], [4, 22, 23, 24], [4, 16]⟩)], [(0, ⟨[], [4], [4, 16]⟩)], [16, 59]⟩ 23 = some dc23 := by kernel_rfl
def db24_0 : DC := (.seq (.seq (.ops false [⟨(some 19), (.mov (.tmp 4)), none, []⟩, ⟨(some 20), (.mov (.tmp 0)), none, []⟩, ⟨(some 21), (.len (.tmp 20)), none, []⟩, ⟨(some 22), (.bin .lss (.tmp 19) (.tmp 21)), none, []⟩]) (.cond (.tmp 22) .skip (.exit 0))) (.seq (.block 1 none (.seq (.seq (.ops true [⟨(some 25), (.mov (.tmp 0)), none, []⟩, ⟨(some 26), (.mov (.tmp 4)), none, []⟩, ⟨(some 27), (.iaddr 2 (.tmp 25) (.tmp 26)), none, [0, 1]⟩, ⟨(some 28), (.faddr 0 1 false (.tmp 27)), none, [2, 0, 1]⟩, ⟨(some 29), (.load none (.tmp 28)), none, [3, 2, 0, 1]⟩, ⟨(some 30), (.call (.func 52) [(.tmp 29), (.const (.int .i64 0)), (.const (.int .i64 100))]), none, [4, 3, 2, 0, 1]⟩, ⟨(some 31), (.mov (.tmp 0)), none, []⟩, ⟨(some 32), (.mov (.tmp 4)), none, []⟩, ⟨(some 33), (.iaddr 2 (.tmp 31) (.tmp 32)), none, [6, 7]⟩, ⟨(some 34), (.faddr 1 1 false (.tmp 33)), none, [8, 6, 7]⟩, ⟨(some 35), (.load none (.tmp 34)), none, [9, 8, 6, 7]⟩, ⟨(some 36), (.call (.func 52) [(.tmp 35), (.const (.int .i64 0)), (.const (.int .i64 200))]), none, [10, 9, 8, 6, 7, 5, 4, 3, 2, 0, 1]⟩, ⟨(some 37), (.lit true 1 2 (.int .i64 0) [(0, (.tmp 30)), (1, (.tmp 36))]), none, [5, 4, 3, 2, 0, 1, 11, 10, 9, 8, 6, 7]⟩, ⟨(some 38), (.call (.func 83) [(.tmp 37)]), none, [12, 5, 4, 3, 2, 0, 1, 11, 10, 9, 8, 6, 7]⟩, ⟨(some 5), (.mov (.tmp 38)), none, [13, 12, 5, 4, 3, 2, 0, 1, 11, 10, 9, 8, 6, 7]⟩]) (.seq (.ops false [⟨(some 39), (.mov (.tmp 5)), none, []⟩, ⟨(some 40), (.bin .neq (.tmp 39) (.const (.int .i64 0))), none, []⟩]) (.cond (.tmp 40) (.seq (.ops false [⟨(some 41), (.mov (.tmp 5)), none, []⟩, ⟨(some 2), (.mov (.tmp 41)), none, []⟩]) .ret) .skip))) (.seq (.ops true [⟨(some 42), (.mov (.tmp 4)), none, []⟩, ⟨(some 43), (.bin .eql (.tmp 42) (.const (.int .i64 0))), none, [0]⟩, ⟨(some 44), (.mov (.tmp 43)), none, [1, 0]⟩, ⟨(some 45), (.mov (.tmp 0)), (some (44, true)), [2, 1, 0]⟩, ⟨(some 46), (.mov (.tmp 4)), (some (44, true)), [2, 1, 0]⟩, ⟨(some 47), (.iaddr 2 (.tmp 45) (.tmp 46)), (some (44, true)), [3, 2, 1, 0, 4]⟩, ⟨(some 48), (.faddr 0 1 false (.tmp 47)), (some (44, true)), [5, 3, 2, 1, 0, 4]⟩, ⟨(some 49), (.load none (.tmp 48)), (some (44, true)), [6, 5, 3, 2, 1, 0, 4]⟩, ⟨(some 50), (.bin .neq (.tmp 49) (.const (.int .i64 0))), (some (44, true)), [7, 6, 5, 3, 2, 1, 0, 4]⟩, ⟨(some 51), (.pick (.tmp 44) (.tmp 50) (.const (.bool false))), none, [2, 1, 0, 8, 7, 6, 5, 3, 4]⟩, ⟨(some 52), (.mov (.tmp 51)), none, [9, 2, 1, 0, 8, 7, 6, 5, 3, 4]⟩, ⟨(some 53), (.mov (.tmp 4)), (some (52, false)), [10, 9, 2, 1, 0, 8, 7, 6, 5, 3, 4]⟩, ⟨(some 54), (.bin .gtr (.tmp 53) (.const (.int .i64 0))), (some (52, false)), [11, 10, 9, 2, 1, 0, 8, 7, 6, 5, 3, 4]⟩, ⟨(some 55), (.mov (.tmp 54)), (some (52, false)), [12, 11, 10, 9, 2, 1, 0, 8, 7, 6, 5, 3, 4]⟩, ⟨(some 56), (.mov (.tmp 0)), (some (55, true)), [13, 12, 11, 10, 9, 2, 1, 0, 8, 7, 6, 5, 3, 4]⟩, ⟨(some 57), (.mov (.tmp 4)), (some (55, true)), [13, 12, 11, 10, 9, 2, 1, 0, 8, 7, 6, 5, 3, 4]⟩, ⟨(some 58), (.iaddr 2 (.tmp 56) (.tmp 57)), (some (55, true)), [14, 13, 12, 11, 10, 9, 2, 1, 0, 8, 7, 6, 5, 3, 4, 15]⟩, ⟨(some 59), (.faddr 0 1 false (.tmp 58)), (some (55, true)), [16, 14, 13, 12, 11, 10, 9, 2, 1, 0, 8, 7, 6, 5, 3, 4, 15]⟩, ⟨(some 60), (.load none (.tmp 59)), (some (55, true)), [17, 16, 14, 13, 12, 11, 10, 9, 2, 1, 0, 8, 7, 6, 5, 3, 4, 15]⟩, ⟨(some 61), (.mov (.tmp 0)), (some (55, true)), [13, 12, 11, 10, 9, 2, 1, 0, 8, 7, 6, 5, 3, 4]⟩, ⟨(some 62), (.mov (.tmp 4)), (some (55, true)), [13, 12, 11, 10, 9, 2, 1, 0, 8, 7, 6, 5, 3, 4]⟩, ⟨(some 63), (.bin .sub (.tmp 62) (.const (.int .i64 1))), (some (55, true)), [20, 13, 12, 11, 10, 9, 2, 1, 0, 8, 7, 6, 5, 3, 4]⟩, ⟨(some 64), (.iaddr 2 (.tmp 61) (.tmp 63)), (some (55, true)), [19, 13, 12, 11, 10, 9, 2, 1, 0, 8, 7, 6, 5, 3, 4, 21, 20]⟩, ⟨(some 65), (.faddr 0 1 false (.tmp 64)), (some (55, true)), [22, 19, 13, 12, 11, 10, 9, 2, 1, 0, 8, 7, 6, 5, 3, 4, 21, 20]⟩, ⟨(some 66), (.load none (.tmp 65)), (some (55, true)), [23, 22, 19, 13, 12, 11, 10, 9, 2, 1, 0, 8, 7, 6, 5, 3, 4, 21, 20]⟩, ⟨(some 67), (.bin .leq (.tmp 60) (.tmp 66)), (some (55, true)), [18, 17, 16, 14, 13, 12, 11, 10, 9, 2, 1, 0, 8, 7, 6, 5, 3, 4, 15, 24, 23, 22, 19, 21, 20]⟩, ⟨(some 68), (.mov (.tmp 67)), (some (55, true)), [25, 18, 17, 16, 14, 13, 12, 11, 10, 9, 2, 1, 0, 8, 7, 6, 5, 3, 4, 15, 24, 23, 22, 19, 21, 20]⟩, ⟨(some 69), (.mov (.tmp 0)), (some (68, false)), [26, 25, 18, 17, 16, 14, 13, 12, 11, 10, 9, 2, 1, 0, 8, 7, 6, 5, 3, 4, 15, 24, 23, 22, 19, 21, 20]⟩, ⟨(some 70), (.mov (.tmp 4)), (some (68, false)), [26, 25, 18, 17, 16, 14, 13, 12, 11, 10, 9, 2, 1, 0, 8, 7, 6, 5, 3, 4, 15, 24, 23, 22, 19, 21, 20]⟩, ⟨(some 71), (.iaddr 2 (.tmp 69) (.tmp 70)), (some (68, false)), [27, 26, 25, 18, 17, 16, 14, 13, 12, 11, 10, 9, 2, 1, 0, 8, 7, 6, 5, 3, 4, 15, 24, 23, 22, 19, 21, 20, 28]⟩, ⟨(some 72), (.faddr 1 1 false (.tmp 71)), (some (68, false)), [29, 27, 26, 25, 18, 17, 16, 14, 13, 12, 11, 10, 9, 2, 1, 0, 8, 7, 6, 5, 3, 4, 15, 24, 23, 22, 19, 21, 20, 28]⟩, ⟨(some 73), (.load none (.tmp 72)), (some (68, false)), [30, 29, 27, 26, 25, 18, 17, 16, 14, 13, 12, 11, 10, 9, 2, 1, 0, 8, 7, 6, 5, 3, 4, 15, 24, 23, 22, 19, 21, 20, 28]⟩, ⟨(some 74), (.mov (.tmp 0)), (some (68, false)), [26, 25, 18, 17, 16, 14, 13, 12, 11, 10, 9, 2, 1, 0, 8, 7, 6, 5, 3, 4, 15, 24, 23, 22, 19, 21, 20]⟩, ⟨(some 75), (.mov (.tmp 4)), (some (68, false)), [26, 25, 18, 17, 16, 14, 13, 12, 11, 10, 9, 2, 1, 0, 8, 7, 6, 5, 3, 4, 15, 24, 23, 22, 19, 21, 20]⟩, ⟨(some 76), (.bin .sub (.tmp 75) (.const (.int .i64 1))), (some (68, false)), [33, 26, 25, 18, 17, 16, 14, 13, 12, 11, 10, 9, 2, 1, 0, 8, 7, 6, 5, 3, 4, 15, 24, 23, 22, 19, 21, 20]⟩, ⟨(some 77), (.iaddr 2 (.tmp 74) (.tmp 76)), (some (68, false)), [32, 26, 25, 18, 17, 16, 14, 13, 12, 11, 10, 9, 2, 1, 0, 8, 7, 6, 5, 3, 4, 15, 24, 23, 22, 19, 21, 20, 34, 33]⟩, ⟨(some 78), (.faddr 1 1 false (.tmp 77)), (some (68, false)), [35, 32, 26, 25, 18, 17, 16, 14, 13, 12, 11, 10, 9, 2, 1, 0, 8, 7, 6, 5, 3, 4, 15, 24, 23, 22, 19, 21, 20, 34, 33]⟩, ⟨(some 79), (.load none (.tmp 78)), (some (68, false)), [36, 35, 32, 26, 25, 18, 17, 16, 14, 13, 12, 11, 10, 9, 2, 1, 0, 8, 7, 6, 5, 3, 4, 15, 24, 23, 22, 19, 21, 20, 34, 33]⟩, ⟨(some 80), (.bin .gtr (.tmp 73) (.tmp 79)), (some (68, false)), [31, 30, 29, 27, 26, 25, 18, 17, 16, 14, 13, 12, 11, 10, 9, 2, 1, 0, 8, 7, 6, 5, 3, 4, 15, 24, 23, 22, 19, 21, 20, 28, 37, 36, 35, 32, 34, 33]⟩, ⟨(some 81), (.pick (.tmp 68) (.const (.bool true)) (.tmp 80)), (some (55, true)), [26, 25, 18, 17, 16, 14, 13, 12, 11, 10, 9, 2, 1, 0, 8, 7, 6, 5, 3, 4, 15, 24, 23, 22, 19, 21, 20, 38, 31, 30, 29, 27, 28, 37, 36, 35, 32, 34, 33]⟩, ⟨(some 82), (.pick (.tmp 55) (.tmp 81) (.const (.bool false))), (some (52, false)), [13, 12, 11, 10, 9, 2, 1, 0, 8, 7, 6, 5, 3, 4, 39, 26, 25, 18, 17, 16, 14, 15, 24, 23, 22, 19, 21, 20, 38, 31, 30, 29, 27, 28, 37, 36, 35, 32, 34, 33]⟩, ⟨(some 83), (.pick (.tmp 52) (.const (.bool true)) (.tmp 82)), none, [10, 9, 2, 1, 0, 8, 7, 6, 5, 3, 4, 40, 13, 12, 11, 39, 26, 25, 18, 17, 16, 14, 15, 24, 23, 22, 19, 21, 20, 38, 31, 30, 29, 27, 28, 37, 36, 35, 32, 34, 33]⟩]) (.cond (.tmp 83) (.seq (.ops false [⟨(some 2), (.mov (.const (.int .i64 11))), none, []⟩]) .ret) .skip)))) (.ops false [⟨(some 23), (.mov (.tmp 4)), none, []⟩, ⟨(some 24), (.bin .add (.tmp 23) (.const (.int .i64 1))), none, []⟩, ⟨(some 4), (.mov (.tmp 24)), none, []⟩])))
def dk24_0 : Keep := ⟨[], [0, 4], [14]⟩
def dc24 : DFunc := ⟨93, 1, [(.tmp 2)], (.seq (.ops false [⟨(some 2), (.mov (.const (.int .i64 0))), none, []⟩]) (.seq (.seq (.ops false [⟨(some 6), (.mov (.tmp 0)), none, []⟩, ⟨(some 7), (.len (.tmp 6)), none, []⟩, ⟨(some 8), (.bin .lss (.tmp 7) (.const (.int .i64 2))), none, []⟩, ⟨(some 9), (.call (.func 62) [(.tmp 8), (.const (.int .i64 16))]), none, []⟩, ⟨(some 10), (.mov (.tmp 0)), none, []⟩, ⟨(some 11), (.len (.tmp 10)), none, []⟩, ⟨(some 12), (.bin .gtr (.tmp 11) (.const (.int .i64 8))), none, []⟩, ⟨(some 13), (.call (.func 62) [(.tmp 12), (.const (.int .i64 5))]), none, []⟩, ⟨(some 14), (.lit true 1 2 (.int .i64 0) [(0, (.tmp 9)), (1, (.tmp 13))]), none, []⟩, ⟨(some 15), (.call (.func 83) [(.tmp 14)]), none, []⟩, ⟨(some 3), (.mov (.tmp 15)), none, []⟩]) (.seq (.ops false [⟨(some 16), (.mov (.tmp 3)), none, []⟩, ⟨(some 17), (.bin .neq (.tmp 16) (.const (.int .i64 0))), none, []⟩]) (.cond (.tmp 17) (.seq (.ops false [⟨(some 18), (.mov (.tmp 3)), none, []⟩, ⟨(some 2), (.mov (.tmp 18)), none, []⟩]) .ret) .skip))) (.seq (.seq (.ops false [⟨(some 4), (.mov (.const (.int .i64 0))), none, []⟩]) (.block 0 (some ⟨[], [0], [14]⟩) (.loop dk24_0 db24_0))) (.seq (.ops false [⟨(some 84), (.mov (.tmp 0)), none, []⟩, ⟨(some 85), (.mov (.tmp 0)), none, []⟩, ⟨(some 86), (.len (.tmp 85)), none, []⟩, ⟨(some 87), (.bin .sub (.tmp 86) (.const (.int .i64 1))), none, []⟩, ⟨(some 88), (.iaddr 2 (.tmp 84) (.tmp 87)), none, []⟩, ⟨(some 89), (.faddr 1 1 false (.tmp 88)), none, []⟩, ⟨(some 90), (.load none (.tmp 89)), none, []⟩, ⟨(some 91), (.bin .neq (.tmp 90) (.const (.int .i64 0))), none, []⟩, ⟨(some 92), (.call (.func 62) [(.tmp 91), (.const (.int .i64 32))]), none, []⟩, ⟨(some 2), (.mov (.tmp 92)), none, []⟩]) .ret))))⟩
theorem dh24 : cProg Go.Proofs.Tryz.prog ⟨[(0, ⟨[], [0, 4], [14]⟩)], [(0, ⟨[], [0], [14]⟩)], [14, 37]⟩ 24 = some dc24 := by kernel_rfl
def dc25 : DFunc := ⟨14, 1, [(.tmp 2)], (.seq (.ops false [⟨(some 1), (.box 3 (.tmp 0)), none, []⟩, ⟨(some 2), (.mov (.const (.int .i64 0))), none, []⟩]) (.seq (.ops true [⟨(some 3), (.faddr 0 1 false (.tmp 1)), none, []⟩, ⟨(some 4), (.load none (.tmp 3)), none, [0]⟩, ⟨(some 5), (.call (.func 23) [(.tmp 4)]), none, [1, 0]⟩, ⟨(some 6), (.faddr 1 1 false (.tmp 1)), none, []⟩, ⟨(some 7), (.load none (.tmp 6)), none, [3]⟩, ⟨(some 8), (.call (.func 88) [(.tmp 7), (.const (.int .i64 0)), (.const (.int .i64 1000))]), none, [4, 3, 2, 1, 0]⟩, ⟨(some 9), (.faddr 2 1 false (.tmp 1)), none, []⟩, ⟨(some 10), (.load none (.tmp 9)), none, [6]⟩, ⟨(some 11), (.call (.func 88) [(.tmp 10), (.const (.int .i64 0)), (.const (.int .i64 10))]), none, [7, 6, 5, 4, 3, 2, 1, 0]⟩, ⟨(some 12), (.lit true 1 3 (.int .i64 0) [(0, (.tmp 5)), (1, (.tmp 8)), (2, (.tmp 11))]), none, [2, 1, 0, 5, 4, 3, 8, 7, 6]⟩, ⟨(some 13), (.call (.func 78) [(.tmp 12)]), none, [9, 2, 1, 0, 5, 4, 3, 8, 7, 6]⟩, ⟨(some 2), (.mov (.tmp 13)), none, [10, 9, 2, 1, 0, 5, 4, 3, 8, 7, 6]⟩]) .ret))⟩
theorem dh25 : cProg Go.Proofs.Tryz.prog ⟨[], [], [12]⟩ 25 = some dc25 := by kernel_rfl
def dc26 : DFunc := ⟨19, 4, [(.tmp 8)], (.seq (.ops false [⟨(some 8), (.mov (.const (.bool false))), none, []⟩]) (.seq (.seq (.ops false [⟨(some 9), (.mov (.tmp 2)), none, []⟩, ⟨(some 10), (.bin .neq (.tmp 9) (.const (.int .i64 0))), none, []⟩]) (.cond (.tmp 10) (.ops false [⟨(some 3), (.mov (.const (.int .i64 0))), none, []⟩]) .skip)) (.seq (.ops false [⟨(some 11), (.mov (.tmp 0)), none, []⟩, ⟨(some 12), (.mov (.tmp 3)), none, []⟩, ⟨(some 13), (.bin .eql (.tmp 11) (.tmp 12)), none, []⟩, ⟨(some 14), (.mov (.tmp 13)), none, []⟩, ⟨(some 15), (.mov (.tmp 1)), (some (14, true)), []⟩, ⟨(some 16), (.mov (.tmp 2)), (some (14, true)), []⟩, ⟨(some 17), (.bin .eql (.tmp 15) (.tmp 16)), (some (14, true)), []⟩, ⟨(some 18), (.pick (.tmp 14) (.tmp 17) (.const (.bool false))), none, []⟩, ⟨(some 8), (.mov (.tmp 18)), none, []⟩]) .ret)))⟩
theorem dh26 : cProg Go.Proofs.Tryz.prog ⟨[], [], []⟩ 26 = some dc26 := by kernel_rfl
def db27_0 : DC := (.seq (.seq (.ops false [⟨(some 12), (.mov (.tmp 3)), none, []⟩, ⟨(some 13), (.mov (.tmp 0)), none, []⟩, ⟨(some 14), (.len (.tmp 13)), none, []⟩, ⟨(some 15), (.bin .lss (.tmp 12) (.tmp 14)), none, []⟩]) (.cond (.tmp 15) .skip (.exit 0))) (.seq (.block 1 none (.seq (.ops false [⟨(some 18), (.mov (.tmp 0)), none, []⟩, ⟨(some 19), (.mov (.tmp 3)), none, []⟩, ⟨(some 20), (.iaddr 3 (.tmp 18) (.tmp 19)), none, []⟩, ⟨(some 21), (.faddr 0 1 false (.tmp 20)), none, []⟩, ⟨(some 22), (.load none (.tmp 21)), none, []⟩, ⟨(some 23), (.call (.func 12) [(.tmp 22)]), none, []⟩, ⟨(some 24), (.un .not (.tmp 23)), none, []⟩]) (.cond (.tmp 24) (.seq (.ops false [⟨(some 2), (.mov (.const (.bool false))), none, []⟩]) .ret) .skip))) (.ops false [⟨(some 16), (.mov (.tmp 3)), none, []⟩, ⟨(some 17), (.bin .add (.tmp 16) (.const (.int .i64 1))), none, []⟩, ⟨(some 3), (.mov (.tmp 17)), none, []⟩])))
def dk27_0 : Keep := ⟨[], [0, 3], []⟩
def dc27 : DFunc := ⟨25, 1, [(.tmp 2)], (.seq (.ops false [⟨(some 2), (.mov (.const (.bool false))), none, []⟩]) (.seq (.seq (.ops false [⟨(some 4), (.mov (.tmp 0)), none, []⟩, ⟨(some 5), (.len (.tmp 4)), none, []⟩, ⟨(some 6), (.bin .gtr (.tmp 5) (.const (.int .i64 6))), none, []⟩, ⟨(some 7), (.mov (.tmp 6)), none, []⟩, ⟨(some 8), (.mov (.tmp 0)), (some (7, true)), []⟩, ⟨(some 9), (.len (.tmp 8)), (some (7, true)), []⟩, ⟨(some 10), (.bin .neq (.tmp 9) (.const (.int .i64 9))), (some (7, true)), []⟩, ⟨(some 11), (.pick (.tmp 7) (.tmp 10) (.const (.bool false))), none, []⟩]) (.cond (.tmp 11) (.seq (.ops false [⟨(some 2), (.mov (.const (.bool false))), none, []⟩]) .ret) .skip)) (.seq (.seq (.ops false [⟨(some 3), (.mov (.const (.int .i64 0))), none, []⟩]) (.block 0 (some ⟨[], [], []⟩) (.loop dk27_0 db27_0))) (.seq (.ops false [⟨(some 2), (.mov (.const (.bool true))), none, []⟩]) .ret))))⟩
theorem dh27 : cProg Go.Proofs.Tryz.prog ⟨[(0, ⟨[], [0, 3], []⟩)], [(0, ⟨[], [], []⟩)], []⟩ 27 = some dc27 := by kernel_rfl
def dc28 : DFunc := ⟨19, 2, [(.tmp 4), (.tmp 5)], (.seq (.ops false [⟨(some 4), (.mov (.const (.int .i64 0))), none, []⟩, ⟨(some 5), (.mov (.const (.int .i64 0))), none, []⟩]) (.seq (.seq (.ops false [⟨(some 7), (.mov (.tmp 0)), none, []⟩, ⟨(some 8), (.call (.func 36) [(.tmp 7)]), none, []⟩, ⟨(some 9), (.mov (.tmp 1)), none, []⟩, ⟨(some 10), (.call (.func 81) [(.tmp 9)]), none, []⟩, ⟨(some 11), (.lit true 1 2 (.int .i64 0) [(0, (.tmp 8)), (1, (.tmp 10))]), none, []⟩, ⟨(some 12), (.call (.func 78) [(.tmp 11)]), none, []⟩, ⟨(some 6), (.mov (.tmp 12)), none, []⟩]) (.seq (.ops false [⟨(some 13), (.mov (.tmp 6)), none, []⟩, ⟨(some 14), (.bin .neq (.tmp 13) (.const (.int .i64 0))), none, []⟩]) (.cond (.tmp 14) (.seq (.ops false [⟨(some 15), (.mov (.tmp 6)), none, []⟩, ⟨(some 4), (.mov (.const (.int .i64 0))), none, []⟩, ⟨(some 5), (.mov (.tmp 15)), none, []⟩]) .ret) .skip))) (.seq (.ops false [⟨(some 16), (.mov (.tmp 0)), none, []⟩, ⟨(some 17), (.mov (.tmp 1)), none, []⟩, ⟨(some 18), (.call (.func 89) [(.tmp 16), (.tmp 17)]), none, []⟩, ⟨(some 4), (.mov (.tmp 18)), none, []⟩, ⟨(some 5), (.mov (.const (.int .i64 0))), none, []⟩]) .ret)))⟩
theorem dh28 : cProg Go.Proofs.Tryz.prog ⟨[], [], [11]⟩ 28 = some dc28 := by kernel_rfl
def db29_0 : DC := (.seq (.ops false [⟨(some 9), (.bin .lss (.tmp 8) (.tmp 7)), none, []⟩]) (.seq (.cond (.tmp 9) .skip (.exit 0)) (.seq (.block 1 none (.seq (.ops false [⟨(some 10), (.iaddr 3 (.tmp 6) (.tmp 8)), none, []⟩, ⟨(some 11), (.load (some 3) (.tmp 10)), none, []⟩, ⟨(some 5), (.alloc (.agg [(.full []), (.int .i64 0), (.int .i64 0)]) 3), none, []⟩, ⟨none, (.store 3 (.tmp 5) (.tmp 11)), none, []⟩]) (.ops false [⟨(some 12), (.mov (.tmp 3)), none, []⟩, ⟨(some 13), (.load (some 3) (.tmp 5)), none, []⟩, ⟨(some 14), (.call (.func 15) [(.tmp 13)]), none, []⟩, ⟨(some 15), (.lit true 3 1 (.agg [(.full []), (.int .i64 0), (.int .i64 0)]) [(0, (.tmp 14))]), none, []⟩, ⟨(some 16), (.append false 3 (.tmp 12) (.tmp 15)), none, []⟩, ⟨(some 3), (.mov (.tmp 16)), none, []⟩]))) (.ops false [⟨(some 17), (.bin .add (.tmp 8) (.const (.int .i64 1))), none, []⟩, ⟨(some 8), (.mov (.tmp 17)), none, []⟩]))))
def dk29_0 : Keep := ⟨[(3, 3)], [3, 6, 7, 8], [3]⟩
def dc29 : DFunc := ⟨19, 1, [(.tmp 2)], (.seq (.ops false [⟨(some 2), (.mov (.const (.slice none 0 0))), none, []⟩]) (.seq (.ops false [⟨(some 3), (.mov (.const (.slice none 0 0))), none, []⟩]) (.seq (.seq (.ops false [⟨(some 6), (.mov (.tmp 0)), none, []⟩, ⟨(some 7), (.len (.tmp 6)), none, []⟩, ⟨(some 8), (.mov (.const (.int .i64 0))), none, []⟩]) (.block 0 (some ⟨[], [3], [3]⟩) (.loop dk29_0 db29_0))) (.seq (.ops false [⟨(some 18), (.mov (.tmp 3)), none, []⟩, ⟨(some 2), (.mov (.tmp 18)), none, []⟩]) .ret))))⟩
theorem dh29 : cProg Go.Proofs.Tryz.prog ⟨[(0, ⟨[(3, 3)], [3, 6, 7, 8], [3]⟩)], [(0, ⟨[], [3], [3]⟩)], [15]⟩ 29 = some dc29 := by kernel_rfl
def dc30 : DFunc := ⟨22, 2, [(.tmp 4), (.tmp 5)], (.seq (.ops false [⟨(some 4), (.mov (.const (.int .i64 0))), none, []⟩, ⟨(some 5), (.mov (.const (.int .i64 0))), none, []⟩]) (.seq (.seq (.ops false [⟨(some 7), (.mov (.tmp 0)), none, []⟩, ⟨(some 8), (.call (.func 36) [(.tmp 7)]), none, []⟩, ⟨(some 9), (.mov (.tmp 1)), none, []⟩, ⟨(some 10), (.call (.func 79) [(.tmp 9)]), none, []⟩, ⟨(some 11), (.lit true 1 2 (.int .i64 0) [(0, (.tmp 8)), (1, (.tmp 10))]), none, []⟩, ⟨(some 12), (.call (.func 78) [(.tmp 11)]), none, []⟩, ⟨(some 6), (.mov (.tmp 12)), none, []⟩]) (.seq (.ops false [⟨(some 13), (.mov (.tmp 6)), none, []⟩, ⟨(some 14), (.bin .neq (.tmp 13) (.const (.int .i64 0))), none, []⟩]) (.cond (.tmp 14) (.seq (.ops false [⟨(some 15), (.mov (.tmp 6)), none, []⟩, ⟨(some 4), (.mov (.const (.int .i64 0))), none, []⟩, ⟨(some 5), (.mov (.tmp 15)), none, []⟩]) .ret) .skip))) (.seq (.ops false [⟨(some 16), (.mov (.tmp 0)), none, []⟩, ⟨(some 17), (.mov (.tmp 1)), none, []⟩, ⟨(some 18), (.call (.func 90) [(.tmp 16), (.tmp 17)]), none, []⟩, ⟨(some 19), (.mov (.tmp 1)), none, []⟩, ⟨(some 20), (.iaddr 1 (.tmp 18) (.tmp 19)), none, []⟩, ⟨(some 21), (.load none (.tmp 20)), none, []⟩, ⟨(some 4), (.mov (.tmp 21)), none, []⟩, ⟨(some 5), (.mov (.const (.int .i64 0))), none, []⟩]) .ret)))⟩
theorem dh30 : cProg Go.Proofs.Tryz.prog ⟨[], [], [11]⟩ 30 = some dc30 := by kernel_rfl
def db31_0 : DC := (.seq (.ops false [⟨(some 24), (.bin .lss (.tmp 23) (.tmp 22)), none, []⟩]) (.seq (.cond (.tmp 24) .skip (.exit 0)) (.seq (.block 1 none (.seq (.ops false [⟨(some 25), (.mov (.tmp 23)), none, []⟩, ⟨(some 26), (.iaddr 3 (.tmp 21) (.tmp 23)), none, []⟩, ⟨(some 27), (.load (some 3) (.tmp 26)), none, []⟩, ⟨(some 9), (.alloc (.agg [(.full []), (.int .i64 0), (.int .i64 0)]) 3), none, []⟩, ⟨(some 8), (.mov (.tmp 25)), none, []⟩, ⟨none, (.store 3 (.tmp 9) (.tmp 27)), none, []⟩]) (.seq (.ops false [⟨(some 29), (.load (some 3) (.tmp 9)), none, []⟩, ⟨(some 30), (.mov (.tmp 1)), none, []⟩, ⟨(some 31), (.call (.func 82) [(.tmp 29), (.tmp 30)]), none, []⟩, ⟨(some 28), (.mov (.tmp 31)), none, []⟩, ⟨(some 32), (.extract (.tmp 28) 0), none, []⟩, ⟨(some 33), (.extract (.tmp 28) 1), none, []⟩, ⟨(some 10), (.mov (.tmp 32)), none, []⟩, ⟨(some 11), (.mov (.tmp 33)), none, []⟩]) (.seq (.ops false [⟨(some 34), (.mov (.tmp 11)), none, []⟩, ⟨(some 35), (.un .not (.tmp 34)), none, []⟩]) (.cond (.tmp 35) (.ops false [⟨(some 36), (.mov (.tmp 7)), none, []⟩, ⟨(some 37), (.mov (.tmp 8)), none, []⟩, ⟨(some 38), (.lit true 1 1 (.int .i64 0) [(0, (.tmp 37))]), none, []⟩, ⟨(some 39), (.append false 1 (.tmp 36) (.tmp 38)), none, []⟩, ⟨(some 7), (.mov (.tmp 39)), none, []⟩]) .skip))))) (.ops false [⟨(some 40), (.bin .add (.tmp 23) (.const (.int .i64 1))), none, []⟩, ⟨(some 23), (.mov (.tmp 40)), none, []⟩]))))
def dk31_0 : Keep := ⟨[(7, 1)], [1, 7, 21, 22, 23], [7, 16]⟩
def dc31 : DFunc := ⟨42, 2, [(.tmp 4), (.tmp 5)], (.seq (.ops false [⟨(some 4), (.mov (.const (.slice none 0 0))), none, []⟩, ⟨(some 5), (.mov (.const (.int .i64 0))), none, []⟩]) (.seq (.seq (.ops false [⟨(some 12), (.mov (.tmp 0)), none, []⟩, ⟨(some 13), (.call (.func 36) [(.tmp 12)]), none, []⟩, ⟨(some 14), (.mov (.tmp 1)), none, []⟩, ⟨(some 15), (.call (.func 81) [(.tmp 14)]), none, []⟩, ⟨(some 16), (.lit true 1 2 (.int .i64 0) [(0, (.tmp 13)), (1, (.tmp 15))]), none, []⟩, ⟨(some 17), (.call (.func 78) [(.tmp 16)]), none, []⟩, ⟨(some 6), (.mov (.tmp 17)), none, []⟩]) (.seq (.ops false [⟨(some 18), (.mov (.tmp 6)), none, []⟩, ⟨(some 19), (.bin .neq (.tmp 18) (.const (.int .i64 0))), none, []⟩]) (.cond (.tmp 19) (.seq (.ops false [⟨(some 20), (.mov (.tmp 6)), none, []⟩, ⟨(some 4), (.mov (.const (.slice none 0 0))), none, []⟩, ⟨(some 5), (.mov (.tmp 20)), none, []⟩]) .ret) .skip))) (.seq (.ops false [⟨(some 7), (.mov (.const (.slice none 0 0))), none, []⟩]) (.seq (.seq (.ops false [⟨(some 21), (.mov (.tmp 0)), none, []⟩, ⟨(some 22), (.len (.tmp 21)), none, []⟩, ⟨(some 23), (.mov (.const (.int .i64 0))), none, []⟩]) (.block 0 (some ⟨[], [7], [7, 16]⟩) (.loop dk31_0 db31_0))) (.seq (.ops false [⟨(some 41), (.mov (.tmp 7)), none, []⟩, ⟨(some 4), (.mov (.tmp 41)), none, []⟩, ⟨(some 5), (.mov (.const (.int .i64 0))), none, []⟩]) .ret)))))⟩
theorem dh31 : cProg Go.Proofs.Tryz.prog ⟨[(0, ⟨[(7, 1)], [1, 7, 21, 22, 23], [7, 16]⟩)], [(0, ⟨[], [7], [7, 16]⟩)], [16, 38]⟩ 31 = some dc31 := by kernel_rfl
def db32_0 : DC := (.seq (.seq (.ops false [⟨(some 19), (.mov (.tmp 4)), none, []⟩, ⟨(some 20), (.mov (.tmp 0)), none, []⟩, ⟨(some 21), (.len (.tmp 20)), none, []⟩, ⟨(some 22), (.bin .lss (.tmp 19) (.tmp 21)), none, []⟩]) (.cond (.tmp 22) .skip (.exit 0))) (.seq (.block 1 none (.seq (.ops false [⟨(some 25), (.mov (.tmp 0)), none, []⟩, ⟨(some 26), (.mov (.tmp 4)), none, []⟩, ⟨(some 27), (.iaddr 3 (.tmp 25) (.tmp 26)), none, []⟩, ⟨(some 28), (.load (some 3) (.tmp 27)), none, []⟩, ⟨(some 29), (.call (.func 18) [(.tmp 28)]), none, []⟩, ⟨(some 5), (.mov (.tmp 29)), none, []⟩]) (.seq (.ops false [⟨(some 30), (.mov (.tmp 5)), none, []⟩, ⟨(some 31), (.bin .neq (.tmp 30) (.const (.int .i64 0))), none, []⟩]) (.cond (.tmp 31) (.seq (.ops false [⟨(some 32), (.mov (.tmp 5)), none, []⟩, ⟨(some 2), (.mov (.tmp 32)), none, []⟩]) .ret) .skip)))) (.ops false [⟨(some 23), (.mov (.tmp 4)), none, []⟩, ⟨(some 24), (.bin .add (.tmp 23) (.const (.int .i64 1))), none, []⟩, ⟨(some 4), (.mov (.tmp 24)), none, []⟩])))
def dk32_0 : Keep := ⟨[], [0, 4], [14]⟩
def dc32 : DFunc := ⟨33, 1, [(.tmp 2)], (.seq (.ops false [⟨(some 2), (.mov (.const (.int .i64 0))), none, []⟩]) (.seq (.seq (.ops false [⟨(some 6), (.mov (.tmp 0)), none, []⟩, ⟨(some 7), (.len (.tmp 6)), none, []⟩, ⟨(some 8), (.bin .eql (.tmp 7) (.const (.int .i64 0))), none, []⟩, ⟨(some 9), (.call (.func 62) [(.tmp 8), (.const (.int .i64 12))]), none, []⟩, ⟨(some 10), (.mov (.tmp 0)), none, []⟩, ⟨(some 11), (.len (.tmp 10)), none, []⟩, ⟨(some 12), (.bin .gtr (.tmp 11) (.const (.int .i64 8))), none, []⟩, ⟨(some 13), (.call (.func 62) [(.tmp 12), (.const (.int .i64 5))]), none, []⟩, ⟨(some 14), (.lit true 1 2 (.int .i64 0) [(0, (.tmp 9)), (1, (.tmp 13))]), none, []⟩, ⟨(some 15), (.call (.func 83) [(.tmp 14)]), none, []⟩, ⟨(some 3), (.mov (.tmp 15)), none, []⟩]) (.seq (.ops false [⟨(some 16), (.mov (.tmp 3)), none, []⟩, ⟨(some 17), (.bin .neq (.tmp 16) (.const (.int .i64 0))), none, []⟩]) (.cond (.tmp 17) (.seq (.ops false [⟨(some 18), (.mov (.tmp 3)), none, []⟩, ⟨(some 2), (.mov (.tmp 18)), none, []⟩]) .ret) .skip))) (.seq (.seq (.ops false [⟨(some 4), (.mov (.const (.int .i64 0))), none, []⟩]) (.block 0 (some ⟨[], [], [14]⟩) (.loop dk32_0 db32_0))) (.seq (.ops false [⟨(some 2), (.mov (.const (.int .i64 0))), none, []⟩]) .ret))))⟩
theorem dh32 : cProg Go.Proofs.Tryz.prog ⟨[(0, ⟨[], [0, 4], [14]⟩)], [(0, ⟨[], [], [14]⟩)], [14]⟩ 32 = some dc32 := by kernel_rfl
def db33_0 : DC := (.seq (.seq (.ops false [⟨(some 9), (.mov (.tmp 6)), none, []⟩, ⟨(some 10), (.mov (.tmp 0)), none, []⟩, ⟨(some 11), (.len (.tmp 10)), none, []⟩, ⟨(some 12), (.bin .lss (.tmp 9) (.tmp 11)), none, []⟩]) (.cond (.tmp 12) .skip (.exit 0))) (.seq (.block 1 none (.seq (.ops false [⟨(some 16), (.mov (.tmp 0)), none, []⟩, ⟨(some 17), (.mov (.tmp 6)), none, []⟩, ⟨(some 18), (.iaddr 3 (.tmp 16) (.tmp 17)), none, []⟩, ⟨(some 19), (.load (some 3) (.tmp 18)), none, []⟩, ⟨(some 20), (.mov (.tmp 1)), none, []⟩, ⟨(some 21), (.call (.func 22) [(.tmp 19), (.tmp 20)]), none, []⟩, ⟨(some 15), (.mov (.tmp 21)), none, []⟩, ⟨(some 22), (.extract (.tmp 15) 0), none, []⟩, ⟨(some 23), (.extract (.tmp 15) 1), none, []⟩, ⟨(some 7), (.mov (.tmp 22)), none, []⟩, ⟨(some 8), (.mov (.tmp 23)), none, []⟩]) (.ops false [⟨(some 24), (.mov (.tmp 5)), none, []⟩, ⟨(some 25), (.mov (.tmp 7)), none, []⟩, ⟨(some 26), (.bin .add (.tmp 24) (.tmp 25)), none, []⟩, ⟨(some 5), (.mov (.tmp 26)), none, []⟩]))) (.ops false [⟨(some 13), (.mov (.tmp 6)), none, []⟩, ⟨(some 14), (.bin .add (.tmp 13) (.const (.int .i64 1))), none, []⟩, ⟨(some 6), (.mov (.tmp 14)), none, []⟩])))
def dk33_0 : Keep := ⟨[], [0, 1, 5, 6], []⟩
def dc33 : DFunc := ⟨28, 2, [(.tmp 4)], (.seq (.ops false [⟨(some 4), (.mov (.const (.int .i64 0))), none, []⟩]) (.seq (.ops false [⟨(some 5), (.mov (.const (.int .i64 0))), none, []⟩]) (.seq (.seq (.ops false [⟨(some 6), (.mov (.const (.int .i64 0))), none, []⟩]) (.block 0 (some ⟨[], [5], []⟩) (.loop dk33_0 db33_0))) (.seq (.ops false [⟨(some 27), (.mov (.tmp 5)), none, []⟩, ⟨(some 4), (.mov (.tmp 27)), none, []⟩]) .ret))))⟩
theorem dh33 : cProg Go.Proofs.Tryz.prog ⟨[(0, ⟨[], [0, 1, 5, 6], []⟩)], [(0, ⟨[], [5], []⟩)], []⟩ 33 = some dc33 := by kernel_rfl
def db34_0 : DC := (.seq (.seq (.ops false [⟨(some 9), (.mov (.tmp 6)), none, []⟩, ⟨(some 10), (.mov (.tmp 0)), none, []⟩, ⟨(some 11), (.len (.tmp 10)), none, []⟩, ⟨(some 12), (.bin .lss (.tmp 9) (.tmp 11)), none, []⟩]) (.cond (.tmp 12) .skip (.exit 0))) (.seq (.block 1 none (.seq (.ops false [⟨(some 16), (.mov (.tmp 0)), none, []⟩, ⟨(some 17), (.mov (.tmp 6)), none, []⟩, ⟨(some 18), (.iaddr 3 (.tmp 16) (.tmp 17)), none, []⟩, ⟨(some 19), (.load (some 3) (.tmp 18)), none, []⟩, ⟨(some 20), (.mov (.tmp 1)), none, []⟩, ⟨(some 21), (.call (.func 22) [(.tmp 19), (.tmp 20)]), none, []⟩, ⟨(some 15), (.mov (.tmp 21)), none, []⟩, ⟨(some 22), (.extract (.tmp 15) 0), none, []⟩, ⟨(some 23), (.extract (.tmp 15) 1), none, []⟩, ⟨(some 7), (.mov (.tmp 22)), none, []⟩, ⟨(some 8), (.mov (.tmp 23)), none, []⟩]) (.seq (.ops false [⟨(some 24), (.mov (.tmp 8)), none, []⟩, ⟨(some 25), (.un .not (.tmp 24)), none, []⟩]) (.cond (.tmp 25) (.ops false [⟨(some 26), (.mov (.tmp 5)), none, []⟩, ⟨(some 27), (.mov (.tmp 6)), none, []⟩, ⟨(some 28), (.lit true 1 1 (.int .i64 0) [(0, (.tmp 27))]), none, []⟩, ⟨(some 29), (.append false 1 (.tmp 26) (.tmp 28)), none, []⟩, ⟨(some 5), (.mov (.tmp 29)), none, []⟩]) .skip)))) (.ops false [⟨(some 13), (.mov (.tmp 6)), none, []⟩, ⟨(some 14), (.bin .add (.tmp 13) (.const (.int .i64 1))), none, []⟩, ⟨(some 6), (.mov (.tmp 14)), none, []⟩])))
def dk34_0 : Keep := ⟨[(5, 1)], [0, 1, 5, 6], [5]⟩
def dc34 : DFunc := ⟨31, 2, [(.tmp 4)], (.seq (.ops false [⟨(some 4), (.mov (.const (.slice none 0 0))), none, []⟩]) (.seq (.ops false [⟨(some 5), (.mov (.const (.slice none 0 0))), none, []⟩]) (.seq (.seq (.ops false [⟨(some 6), (.mov (.const (.int .i64 0))), none, []⟩]) (.block 0 (some ⟨[], [5], [5]⟩) (.loop dk34_0 db34_0))) (.seq (.ops false [⟨(some 30), (.mov (.tmp 5)), none, []⟩, ⟨(some 4), (.mov (.tmp 30)), none, []⟩]) .ret))))⟩
theorem dh34 : cProg Go.Proofs.Tryz.prog ⟨[(0, ⟨[(5, 1)], [0, 1, 5, 6], [5]⟩)], [(0, ⟨[], [5], [5]⟩)], [28]⟩ 34 = some dc34 := by kernel_rfl
def dc35 : DFunc := ⟨9, 2, [(.tmp 4)], (.seq (.ops false [⟨(some 4), (.mov (.const (.int .i64 0))), none, []⟩]) (.seq (.ops false [⟨(some 5), (.mov (.tmp 0)), none, []⟩, ⟨(some 6), (.call (.func 92) [(.tmp 5)]), none, []⟩, ⟨(some 7), (.mov (.tmp 1)), none, []⟩, ⟨(some 8), (.call (.func 91) [(.tmp 6), (.tmp 7)]), none, []⟩, ⟨(some 4), (.mov (.tmp 8)), none, []⟩]) .ret))⟩
theorem dh35 : cProg Go.Proofs.Tryz.prog ⟨[], [], []⟩ 35 = some dc35 := by kernel_rfl
def dc36 : DFunc := ⟨13, 1, [(.tmp 2)], (.seq (.ops false [⟨(some 2), (.mov (.const (.int .i64 0))), none, []⟩]) (.seq (.seq (.ops false [⟨(some 4), (.mov (.tmp 0)), none, []⟩, ⟨(some 5), (.len (.tmp 4)), none, []⟩, ⟨(some 6), (.call (.func 93) [(.tmp 5), (.const (.int .i64 8))]), none, []⟩, ⟨(some 3), (.mov (.tmp 6)), none, []⟩]) (.seq (.ops false [⟨(some 7), (.mov (.tmp 3)), none, []⟩, ⟨(some 8), (.bin .neq (.tmp 7) (.const (.int .i64 0))), none, []⟩]) (.cond (.tmp 8) (.seq (.ops false [⟨(some 9), (.mov (.tmp 3)), none, []⟩, ⟨(some 2), (.mov (.tmp 9)), none, []⟩]) .ret) .skip))) (.seq (.ops false [⟨(some 10), (.mov (.tmp 0)), none, []⟩, ⟨(some 11), (.call (.func 94) [(.tmp 10), (.func 25)]), none, []⟩, ⟨(some 12), (.call (.func 78) [(.tmp 11)]), none, []⟩, ⟨(some 2), (.mov (.tmp 12)), none, []⟩]) .ret)))⟩
theorem dh36 : cProg Go.Proofs.Tryz.prog ⟨[], [], []⟩ 36 = some dc36 := by kernel_rfl
def dc37 : DFunc := ⟨19, 4, [(.tmp 8)], (.seq (.ops false [⟨(some 8), (.mov (.const (.bool false))), none, []⟩]) (.seq (.seq (.ops false [⟨(some 9), (.mov (.tmp 2)), none, []⟩, ⟨(some 10), (.bin .neq (.tmp 9) (.const (.int .i64 0))), none, []⟩]) (.cond (.tmp 10) (.ops false [⟨(some 3), (.mov (.const (.slice none 0 0))), none, []⟩]) .skip)) (.seq (.ops false [⟨(some 11), (.mov (.tmp 0)), none, []⟩, ⟨(some 12), (.mov (.tmp 3)), none, []⟩, ⟨(some 13), (.call (.func 76) [(.tmp 11), (.tmp 12)]), none, []⟩, ⟨(some 14), (.mov (.tmp 13)), none, []⟩, ⟨(some 15), (.mov (.tmp 1)), (some (14, true)), []⟩, ⟨(some 16), (.mov (.tmp 2)), (some (14, true)), []⟩, ⟨(some 17), (.bin .eql (.tmp 15) (.tmp 16)), (some (14, true)), []⟩, ⟨(some 18), (.pick (.tmp 14) (.tmp 17) (.const (.bool false))), none, []⟩, ⟨(some 8), (.mov (.tmp 18)), none, []⟩]) .ret)))⟩
theorem dh37 : cProg Go.Proofs.Tryz.prog ⟨[], [], []⟩ 37 = some dc37 := by kernel_rfl
def db38_0 : DC := (.seq (.seq (.ops false [⟨(some 13), (.mov (.tmp 4)), none, []⟩, ⟨(some 14), (.mov (.tmp 0)), none, []⟩, ⟨(some 15), (.len (.tmp 14)), none, []⟩, ⟨(some 16), (.bin .lss (.tmp 13) (.tmp 15)), none, []⟩]) (.cond (.tmp 16) .skip (.exit 0))) (.seq (.block 1 none (.seq (.ops false [⟨(some 19), (.mov (.tmp 3)), none, []⟩, ⟨(some 20), (.mov (.tmp 0)), none, []⟩, ⟨(some 21), (.mov (.tmp 4)), none, []⟩, ⟨(some 22), (.iaddr 1 (.tmp 20) (.tmp 21)), none, []⟩, ⟨(some 23), (.load none (.tmp 22)), none, []⟩, ⟨(some 24), (.len (.tmp 23)), none, []⟩, ⟨(some 25), (.bin .add (.tmp 19) (.tmp 24)), none, []⟩, ⟨(some 3), (.mov (.tmp 25)), none, []⟩]) (.seq (.ops false [⟨(some 26), (.mov (.tmp 0)), none, []⟩, ⟨(some 27), (.mov (.tmp 4)), none, []⟩, ⟨(some 28), (.iaddr 1 (.tmp 26) (.tmp 27)), none, []⟩, ⟨(some 29), (.load none (.tmp 28)), none, []⟩, ⟨(some 30), (.call (.func 27) [(.tmp 29)]), none, []⟩, ⟨(some 31), (.un .not (.tmp 30)), none, []⟩]) (.cond (.tmp 31) (.seq (.ops false [⟨(some 2), (.mov (.const (.bool false))), none, []⟩]) .ret) .skip)))) (.ops false [⟨(some 17), (.mov (.tmp 4)), none, []⟩, ⟨(some 18), (.bin .add (.tmp 17) (.const (.int .i64 1))), none, []⟩, ⟨(some 4), (.mov (.tmp 18)), none, []⟩])))
def dk38_0 : Keep := ⟨[], [0, 3, 4], []⟩
def dc38 : DFunc := ⟨34, 1, [(.tmp 2)], (.seq (.ops false [⟨(some 2), (.mov (.const (.bool false))), none, []⟩]) (.seq (.seq (.ops false [⟨(some 5), (.mov (.tmp 0)), none, []⟩, ⟨(some 6), (.len (.tmp 5)), none, []⟩, ⟨(some 7), (.bin .gtr (.tmp 6) (.const (.int .i64 4))), none, []⟩, ⟨(some 8), (.mov (.tmp 7)), none, []⟩, ⟨(some 9), (.mov (.tmp 0)), (some (8, true)), []⟩, ⟨(some 10), (.len (.tmp 9)), (some (8, true)), []⟩, ⟨(some 11), (.bin .neq (.tmp 10) (.const (.int .i64 7))), (some (8, true)), []⟩, ⟨(some 12), (.pick (.tmp 8) (.tmp 11) (.const (.bool false))), none, []⟩]) (.cond (.tmp 12) (.seq (.ops false [⟨(some 2), (.mov (.const (.bool false))), none, []⟩]) .ret) .skip)) (.seq (.ops false [⟨(some 3), (.mov (.const (.int .i64 0))), none, []⟩]) (.seq (.seq (.ops false [⟨(some 4), (.mov (.const (.int .i64 0))), none, []⟩]) (.block 0 (some ⟨[], [3], []⟩) (.loop dk38_0 db38_0))) (.seq (.ops false [⟨(some 32), (.mov (.tmp 3)), none, []⟩, ⟨(some 33), (.bin .leq (.tmp 32) (.const (.int .i64 24))), none, []⟩, ⟨(some 2), (.mov (.tmp 33)), none, []⟩]) .ret)))))⟩
theorem dh38 : cProg Go.Proofs.Tryz.prog ⟨[(0, ⟨[], [0, 3, 4], []⟩)], [(0, ⟨[], [3], []⟩)], []⟩ 38 = some dc38 := by kernel_rfl
def dc39 : DFunc := ⟨12, 1, [(.tmp 2), (.tmp 3)], (.seq (.ops false [⟨(some 2), (.mov (.const (.int .i64 0))), none, []⟩, ⟨(some 3), (.mov (.const (.int .i64 0))), none, []⟩]) (.seq (.seq (.ops false [⟨(some 5), (.mov (.tmp 0)), none, []⟩, ⟨(some 6), (.call (.func 50) [(.tmp 5)]), none, []⟩, ⟨(some 4), (.mov (.tmp 6)), none, []⟩]) (.seq (.ops false [⟨(some 7), (.mov (.tmp 4)), none, []⟩, ⟨(some 8), (.bin .neq (.tmp 7) (.const (.int .i64 0))), none, []⟩]) (.cond (.tmp 8) (.seq (.ops false [⟨(some 9), (.mov (.tmp 4)), none, []⟩, ⟨(some 2), (.mov (.const (.int .i64 0))), none, []⟩, ⟨(some 3), (.mov (.tmp 9)), none, []⟩]) .ret) .skip))) (.seq (.ops false [⟨(some 10), (.mov (.tmp 0)), none, []⟩, ⟨(some 11), (.call (.func 95) [(.tmp 10)]), none, []⟩, ⟨(some 2), (.mov (.tmp 11)), none, []⟩, ⟨(some 3), (.mov (.const (.int .i64 0))), none, []⟩]) .ret)))⟩
theorem dh39 : cProg Go.Proofs.Tryz.prog ⟨[], [], []⟩ 39 = some dc39 := by kernel_rfl
def db40_0 : DC := (.seq (.ops false [⟨(some 9), (.bin .lss (.tmp 8) (.tmp 7)), none, []⟩]) (.seq (.cond (.tmp 9) .skip (.exit 0)) (.seq (.block 1 none (.seq (.ops false [⟨(some 10), (.iaddr 1 (.tmp 6) (.tmp 8)), none, []⟩, ⟨(some 11), (.load none (.tmp 10)), none, []⟩, ⟨(some 5), (.mov (.tmp 11)), none, []⟩]) (.ops false [⟨(some 12), (.mov (.tmp 3)), none, []⟩, ⟨(some 13), (.mov (.tmp 5)), none, []⟩, ⟨(some 14), (.call (.func 29) [(.tmp 13)]), none, []⟩, ⟨(some 15), (.lit true 1 1 (.full []) [(0, (.tmp 14))]), none, []⟩, ⟨(some 16), (.append false 1 (.tmp 12) (.tmp 15)), none, []⟩, ⟨(some 3), (.mov (.tmp 16)), none, []⟩]))) (.ops false [⟨(some 17), (.bin .add (.tmp 8) (.const (.int .i64 1))), none, []⟩, ⟨(some 8), (.mov (.tmp 17)), none, []⟩]))))
def dk40_0 : Keep := ⟨[(3, 1)], [3, 6, 7, 8], [3]⟩
def dc40 : DFunc := ⟨19, 1, [(.tmp 2)], (.seq (.ops false [⟨(some 2), (.mov (.const (.slice none 0 0))), none, []⟩]) (.seq (.ops false [⟨(some 3), (.mov (.const (.slice none 0 0))), none, []⟩]) (.seq (.seq (.ops false [⟨(some 6), (.mov (.tmp 0)), none, []⟩, ⟨(some 7), (.len (.tmp 6)), none, []⟩, ⟨(some 8), (.mov (.const (.int .i64 0))), none, []⟩]) (.block 0 (some ⟨[], [3], [3]⟩) (.loop dk40_0 db40_0))) (.seq (.ops false [⟨(some 18), (.mov (.tmp 3)), none, []⟩, ⟨(some 2), (.mov (.tmp 18)), none, []⟩]) .ret))))⟩
theorem dh40 : cProg Go.Proofs.Tryz.prog ⟨[(0, ⟨[(3, 1)], [3, 6, 7, 8], [3]⟩)], [(0, ⟨[], [3], [3]⟩)], [15]⟩ 40 = some dc40 := by kernel_rfl
def dc41 : DFunc := ⟨22, 2, [(.tmp 4), (.tmp 5)], (.seq (.ops false [⟨(some 4), (.mov (.const (.int .i64 0))), none, []⟩, ⟨(some 5), (.mov (.const (.int .i64 0))), none, []⟩]) (.seq (.seq (.ops false [⟨(some 7), (.mov (.tmp 0)), none, []⟩, ⟨(some 8), (.call (.func 50) [(.tmp 7)]), none, []⟩, ⟨(some 9), (.mov (.tmp 1)), none, []⟩, ⟨(some 10), (.call (.func 79) [(.tmp 9)]), none, []⟩, ⟨(some 11), (.lit true 1 2 (.int .i64 0) [(0, (.tmp 8)), (1, (.tmp 10))]), none, []⟩, ⟨(some 12), (.call (.func 78) [(.tmp 11)]), none, []⟩, ⟨(some 6), (.mov (.tmp 12)), none, []⟩]) (.seq (.ops false [⟨(some 13), (.mov (.tmp 6)), none, []⟩, ⟨(some 14), (.bin .neq (.tmp 13) (.const (.int .i64 0))), none, []⟩]) (.cond (.tmp 14) (.seq (.ops false [⟨(some 15), (.mov (.tmp 6)), none, []⟩, ⟨(some 4), (.mov (.const (.int .i64 0))), none, []⟩, ⟨(some 5), (.mov (.tmp 15)), none, []⟩]) .ret) .skip))) (.seq (.ops false [⟨(some 16), (.mov (.tmp 0)), none, []⟩, ⟨(some 17), (.mov (.tmp 1)), none, []⟩, ⟨(some 18), (.call (.func 96) [(.tmp 16), (.tmp 17)]), none, []⟩, ⟨(some 19), (.mov (.tmp 1)), none, []⟩, ⟨(some 20), (.iaddr 1 (.tmp 18) (.tmp 19)), none, []⟩, ⟨(some 21), (.load none (.tmp 20)), none, []⟩, ⟨(some 4), (.mov (.tmp 21)), none, []⟩, ⟨(some 5), (.mov (.const (.int .i64 0))), none, []⟩]) .ret)))⟩
theorem dh41 : cProg Go.Proofs.Tryz.prog ⟨[], [], [11]⟩ 41 = some dc41 := by kernel_rfl
def dc42 : DFunc := ⟨20, 2, [(.tmp 4), (.tmp 5)], (.seq (.ops false [⟨(some 4), (.mov (.const (.int .i64 0))), none, []⟩, ⟨(some 5), (.mov (.const (.int .i64 0))), none, []⟩]) (.seq (.ops false [⟨(some 9), (.mov (.tmp 0)), none, []⟩, ⟨(some 10), (.mov (.tmp 1)), none, []⟩, ⟨(some 11), (.call (.func 41) [(.tmp 9), (.tmp 10)]), none, []⟩, ⟨(some 8), (.mov (.tmp 11)), none, []⟩, ⟨(some 12), (.extract (.tmp 8) 0), none, []⟩, ⟨(some 13), (.extract (.tmp 8) 1), none, []⟩, ⟨(some 6), (.mov (.tmp 12)), none, []⟩, ⟨(some 7), (.mov (.tmp 13)), none, []⟩]) (.seq (.seq (.ops false [⟨(some 14), (.mov (.tmp 7)), none, []⟩, ⟨(some 15), (.bin .neq (.tmp 14) (.const (.int .i64 0))), none, []⟩]) (.cond (.tmp 15) (.seq (.ops false [⟨(some 16), (.mov (.tmp 7)), none, []⟩, ⟨(some 4), (.mov (.const (.int .i64 0))), none, []⟩, ⟨(some 5), (.mov (.tmp 16)), none, []⟩]) .ret) .skip)) (.seq (.ops false [⟨(some 17), (.mov (.tmp 1)), none, []⟩, ⟨(some 18), (.mov (.tmp 6)), none, []⟩, ⟨(some 19), (.bin .mul (.tmp 17) (.tmp 18)), none, []⟩, ⟨(some 4), (.mov (.tmp 19)), none, []⟩, ⟨(some 5), (.mov (.const (.int .i64 0))), none, []⟩]) .ret))))⟩
theorem dh42 : cProg Go.Proofs.Tryz.prog ⟨[], [], []⟩ 42 = some dc42 := by kernel_rfl
def dc43 : DFunc := ⟨14, 1, [(.tmp 2), (.tmp 3)], (.seq (.ops false [⟨(some 2), (.mov (.const (.slice none 0 0))), none, []⟩, ⟨(some 3), (.mov (.const (.int .i64 0))), none, []⟩]) (.seq (.seq (.ops false [⟨(some 5), (.mov (.tmp 0)), none, []⟩, ⟨(some 6), (.call (.func 50) [(.tmp 5)]), none, []⟩, ⟨(some 4), (.mov (.tmp 6)), none, []⟩]) (.seq (.ops false [⟨(some 7), (.mov (.tmp 4)), none, []⟩, ⟨(some 8), (.bin .neq (.tmp 7) (.const (.int .i64 0))), none, []⟩]) (.cond (.tmp 8) (.seq (.ops false [⟨(some 9), (.mov (.tmp 4)), none, []⟩, ⟨(some 2), (.mov (.const (.slice none 0 0))), none, []⟩, ⟨(some 3), (.mov (.tmp 9)), none, []⟩]) .ret) .skip))) (.seq (.ops false [⟨(some 10), (.mov (.tmp 0)), none, []⟩, ⟨(some 11), (.mov (.tmp 0)), none, []⟩, ⟨(some 12), (.call (.func 95) [(.tmp 11)]), none, []⟩, ⟨(some 13), (.call (.func 96) [(.tmp 10), (.tmp 12)]), none, []⟩, ⟨(some 2), (.mov (.tmp 13)), none, []⟩, ⟨(some 3), (.mov (.const (.int .i64 0))), none, []⟩]) .ret)))⟩
theorem dh43 : cProg Go.Proofs.Tryz.prog ⟨[], [], []⟩ 43 = some dc43 := by kernel_rfl
def db44_0 : DC := (.seq (.ops false [⟨(some 26), (.bin .lss (.tmp 25) (.tmp 24)), none, []⟩]) (.seq (.cond (.tmp 26) .skip (.exit 0)) (.seq (.block 1 none (.seq (.ops false [⟨(some 27), (.mov (.tmp 25)), none, []⟩, ⟨(some 8), (.mov (.tmp 27)), none, []⟩]) (.seq (.ops false [⟨(some 29), (.mov (.tmp 0)), none, []⟩, ⟨(some 30), (.mov (.tmp 8)), none, []⟩, ⟨(some 31), (.mov (.tmp 8)), none, []⟩, ⟨(some 32), (.bin .add (.tmp 31) (.const (.int .i64 1))), none, []⟩, ⟨(some 33), (.slice 1 (.tmp 29) (some (.tmp 30)) (some (.tmp 32)) none), none, []⟩, ⟨(some 34), (.call (.func 55) [(.tmp 33)]), none, []⟩, ⟨(some 28), (.mov (.tmp 34)), none, []⟩, ⟨(some 35), (.extract (.tmp 28) 0), none, []⟩, ⟨(some 36), (.extract (.tmp 28) 1), none, []⟩, ⟨(some 37), (.extract (.tmp 28) 2), none, []⟩, ⟨(some 9), (.mov (.tmp 35)), none, []⟩, ⟨(some 10), (.mov (.tmp 36)), none, []⟩, ⟨(some 11), (.mov (.tmp 37)), none, []⟩]) (.ops false [⟨(some 38), (.mov (.tmp 7)), none, []⟩, ⟨(some 39), (.mov (.tmp 10)), none, []⟩, ⟨(some 40), (.bin .add (.tmp 38) (.tmp 39)), none, []⟩, ⟨(some 7), (.mov (.tmp 40)), none, []⟩])))) (.ops false [⟨(some 41), (.bin .add (.tmp 25) (.const (.int .i64 1))), none, []⟩, ⟨(some 25), (.mov (.tmp 41)), none, []⟩]))))
def dk44_0 : Keep := ⟨[], [0, 7, 24, 25], []⟩
def dc44 : DFunc := ⟨43, 1, [(.tmp 2), (.tmp 3)], (.seq (.ops false [⟨(some 2), (.mov (.const (.int .i64 0))), none, []⟩, ⟨(some 3), (.mov (.const (.int .i64 0))), none, []⟩]) (.seq (.ops false [⟨(some 13), (.mov (.tmp 0)), none, []⟩, ⟨(some 14), (.call (.func 55) [(.tmp 13)]), none, []⟩, ⟨(some 12), (.mov (.tmp 14)), none, []⟩, ⟨(some 15), (.extract (.tmp 12) 0), none, []⟩, ⟨(some 16), (.extract (.tmp 12) 1), none, []⟩, ⟨(some 17), (.extract (.tmp 12) 2), none, []⟩, ⟨(some 4), (.mov (.tmp 15)), none, []⟩, ⟨(some 5), (.mov (.tmp 16)), none, []⟩, ⟨(some 6), (.mov (.tmp 17)), none, []⟩]) (.seq (.seq (.ops false [⟨(some 18), (.mov (.tmp 6)), none, []⟩, ⟨(some 19), (.bin .neq (.tmp 18) (.const (.int .i64 0))), none, []⟩]) (.cond (.tmp 19) (.seq (.ops false [⟨(some 20), (.mov (.tmp 6)), none, []⟩, ⟨(some 2), (.mov (.const (.int .i64 0))), none, []⟩, ⟨(some 3), (.mov (.tmp 20)), none, []⟩]) .ret) .skip)) (.seq (.ops false [⟨(some 21), (.mov (.tmp 5)), none, []⟩, ⟨(some 22), (.un .neg (.tmp 21)), none, []⟩, ⟨(some 7), (.mov (.tmp 22)), none, []⟩]) (.seq (.seq (.ops false [⟨(some 23), (.mov (.tmp 0)), none, []⟩, ⟨(some 24), (.len (.tmp 23)), none, []⟩, ⟨(some 25), (.mov (.const (.int .i64 0))), none, []⟩]) (.block 0 (some ⟨[], [7], []⟩) (.loop dk44_0 db44_0))) (.seq (.ops false [⟨(some 42), (.mov (.tmp 7)), none, []⟩, ⟨(some 2), (.mov (.tmp 42)), none, []⟩, ⟨(some 3), (.mov (.const (.int .i64 0))), none, []⟩]) .ret))))))⟩
theorem dh44 : cProg Go.Proofs.Tryz.prog ⟨[(0, ⟨[], [0, 7, 24, 25], []⟩)], [(0, ⟨[], [7], []⟩)], []⟩ 44 = some dc44 := by kernel_rfl
def db45_0 : DC := (.seq (.seq (.ops false [⟨(some 19), (.mov (.tmp 4)), none, []⟩, ⟨(some 20), (.mov (.tmp 0)), none, []⟩, ⟨(some 21), (.len (.tmp 20)), none, []⟩, ⟨(some 22), (.bin .lss (.tmp 19) (.tmp 21)), none, []⟩]) (.cond (.tmp 22) .skip (.exit 0))) (.seq (.block 1 none (.seq (.ops false [⟨(some 25), (.mov (.tmp 0)), none, []⟩, ⟨(some 26), (.mov (.tmp 4)), none, []⟩, ⟨(some 27), (.iaddr 1 (.tmp 25) (.tmp 26)), none, []⟩, ⟨(some 28), (.load none (.tmp 27)), none, []⟩, ⟨(some 29), (.call (.func 32) [(.tmp 28)]), none, []⟩, ⟨(some 5), (.mov (.tmp 29)), none, []⟩]) (.seq (.ops false [⟨(some 30), (.mov (.tmp 5)), none, []⟩, ⟨(some 31), (.bin .neq (.tmp 30) (.const (.int .i64 0))), none, []⟩]) (.cond (.tmp 31) (.seq (.ops false [⟨(some 32), (.mov (.tmp 5)), none, []⟩, ⟨(some 2), (.mov (.tmp 32)), none, []⟩]) .ret) .skip)))) (.ops false [⟨(some 23), (.mov (.tmp 4)), none, []⟩, ⟨(some 24), (.bin .add (.tmp 23) (.const (.int .i64 1))), none, []⟩, ⟨(some 4), (.mov (.tmp 24)), none, []⟩])))
def dk45_0 : Keep := ⟨[], [0, 4], [14]⟩
def dc45 : DFunc := ⟨33, 1, [(.tmp 2)], (.seq (.ops false [⟨(some 2), (.mov (.const (.int .i64 0))), none, []⟩]) (.seq (.seq (.ops false [⟨(some 6), (.mov (.tmp 0)), none, []⟩, ⟨(some 7), (.len (.tmp 6)), none, []⟩, ⟨(some 8), (.bin .eql (.tmp 7) (.const (.int .i64 0))), none, []⟩, ⟨(some 9), (.call (.func 62) [(.tmp 8), (.const (.int .i64 12))]), none, []⟩, ⟨(some 10), (.mov (.tmp 0)), none, []⟩, ⟨(some 11), (.len (.tmp 10)), none, []⟩, ⟨(some 12), (.bin .gtr (.tmp 11) (.const (.int .i64 6))), none, []⟩, ⟨(some 13), (.call (.func 62) [(.tmp 12), (.const (.int .i64 5))]), none, []⟩, ⟨(some 14), (.lit true 1 2 (.int .i64 0) [(0, (.tmp 9)), (1, (.tmp 13))]), none, []⟩, ⟨(some 15), (.call (.func 83) [(.tmp 14)]), none, []⟩, ⟨(some 3), (.mov (.tmp 15)), none, []⟩]) (.seq (.ops false [⟨(some 16), (.mov (.tmp 3)), none, []⟩, ⟨(some 17), (.bin .neq (.tmp 16) (.const (.int .i64 0))), none, []⟩]) (.cond (.tmp 17) (.seq (.ops false [⟨(some 18), (.mov (.tmp 3)), none, []⟩, ⟨(some 2), (.mov (.tmp 18)), none, []⟩]) .ret) .skip))) (.seq (.seq (.ops false [⟨(some 4), (.mov (.const (.int .i64 0))), none, []⟩]) (.block 0 (some ⟨[], [], [14]⟩) (.loop dk45_0 db45_0))) (.seq (.ops false [⟨(some 2), (.mov (.const (.int .i64 0))), none, []⟩]) .ret))))⟩
theorem dh45 : cProg Go.Proofs.Tryz.prog ⟨[(0, ⟨[], [0, 4], [14]⟩)], [(0, ⟨[], [], [14]⟩)], [14]⟩ 45 = some dc45 := by kernel_rfl
def db46_0 : DC := (.seq (.seq (.ops false [⟨(some 5), (.mov (.tmp 4)), none, []⟩, ⟨(some 6), (.mov (.tmp 0)), none, []⟩, ⟨(some 7), (.len (.tmp 6)), none, []⟩, ⟨(some 8), (.bin .lss (.tmp 5) (.tmp 7)), none, []⟩]) (.cond (.tmp 8) .skip (.exit 0))) (.seq (.block 1 none (.ops false [⟨(some 11), (.mov (.tmp 3)), none, []⟩, ⟨(some 12), (.mov (.tmp 0)), none, []⟩, ⟨(some 13), (.mov (.tmp 4)), none, []⟩, ⟨(some 14), (.iaddr 1 (.tmp 12) (.tmp 13)), none, []⟩, ⟨(some 15), (.load none (.tmp 14)), none, []⟩, ⟨(some 16), (.call (.func 33) [(.tmp 15), (.const (.int .i64 0))]), none, []⟩, ⟨(some 17), (.minmax true (.tmp 11) [(.tmp 16)]), none, []⟩, ⟨(some 3), (.mov (.tmp 17)), none, []⟩])) (.ops false [⟨(some 9), (.mov (.tmp 4)), none, []⟩, ⟨(some 10), (.bin .add (.tmp 9) (.const (.int .i64 1))), none, []⟩, ⟨(some 4), (.mov (.tmp 10)), none, []⟩])))
def dk46_0 : Keep := ⟨[], [0, 3, 4], []⟩
def dc46 : DFunc := ⟨19, 1, [(.tmp 2)], (.seq (.ops false [⟨(some 2), (.mov (.const (.int .i64 0))), none, []⟩]) (.seq (.ops false [⟨(some 3), (.mov (.const (.int .i64 0))), none, []⟩]) (.seq (.seq (.ops false [⟨(some 4), (.mov (.const (.int .i64 0))), none, []⟩]) (.block 0 (some ⟨[], [3], []⟩) (.loop dk46_0 db46_0))) (.seq (.ops false [⟨(some 18), (.mov (.tmp 3)), none, []⟩, ⟨(some 2), (.mov (.tmp 18)), none, []⟩]) .ret))))⟩
theorem dh46 : cProg Go.Proofs.Tryz.prog ⟨[(0, ⟨[], [0, 3, 4], []⟩)], [(0, ⟨[], [3], []⟩)], []⟩ 46 = some dc46 := by kernel_rfl
def dc47 : DFunc := ⟨7, 1, [(.tmp 2)], (.seq (.ops false [⟨(some 2), (.mov (.const (.slice none 0 0))), none, []⟩]) (.seq (.ops false [⟨(some 3), (.mov (.tmp 0)), none, []⟩, ⟨(some 4), (.mov (.tmp 0)), none, []⟩, ⟨(some 5), (.call (.func 46) [(.tmp 4)]), none, []⟩, ⟨(some 6), (.call (.func 97) [(.tmp 3), (.tmp 5)]), none, []⟩, ⟨(some 2), (.mov (.tmp 6)), none, []⟩]) .ret))⟩
theorem dh47 : cProg Go.Proofs.Tryz.prog ⟨[], [], []⟩ 47 = some dc47 := by kernel_rfl
def db48_0 : DC := (.seq (.seq (.ops false [⟨(some 15), (.mov (.tmp 6)), none, []⟩, ⟨(some 16), (.mov (.tmp 0)), none, []⟩, ⟨(some 17), (.len (.tmp 16)), none, []⟩, ⟨(some 18), (.bin .lss (.tmp 15) (.tmp 17)), none, []⟩]) (.cond (.tmp 18) .skip (.exit 0))) (.seq (.block 1 none (.seq (.ops false [⟨(some 22), (.mov (.tmp 0)), none, []⟩, ⟨(some 23), (.mov (.tmp 6)), none, []⟩, ⟨(some 24), (.mov (.tmp 6)), none, []⟩, ⟨(some 25), (.bin .add (.tmp 24) (.const (.int .i64 1))), none, []⟩, ⟨(some 26), (.slice 1 (.tmp 22) (some (.tmp 23)) (some (.tmp 25)) none), none, []⟩, ⟨(some 27), (.call (.func 47) [(.tmp 26)]), none, []⟩, ⟨(some 28), (.call (.func 60) [(.tmp 27)]), none, []⟩, ⟨(some 21), (.mov (.tmp 28)), none, []⟩, ⟨(some 29), (.extract (.tmp 21) 0), none, []⟩, ⟨(some 30), (.extract (.tmp 21) 1), none, []⟩, ⟨(some 7), (.mov (.tmp 29)), none, []⟩, ⟨(some 8), (.mov (.tmp 30)), none, []⟩]) (.ops false [⟨(some 31), (.mov (.tmp 5)), none, []⟩, ⟨(some 32), (.mov (.tmp 8)), none, []⟩, ⟨(some 33), (.bin .add (.tmp 31) (.tmp 32)), none, []⟩, ⟨(some 5), (.mov (.tmp 33)), none, []⟩]))) (.ops false [⟨(some 19), (.mov (.tmp 6)), none, []⟩, ⟨(some 20), (.bin .add (.tmp 19) (.const (.int .i64 1))), none, []⟩, ⟨(some 6), (.mov (.tmp 20)), none, []⟩])))
def dk48_0 : Keep := ⟨[], [0, 4, 5, 6], []⟩
def dc48 : DFunc := ⟨37, 1, [(.tmp 2)], (.seq (.ops false [⟨(some 2), (.mov (.const (.int .i64 0))), none, []⟩]) (.seq (.ops false [⟨(some 10), (.mov (.tmp 0)), none, []⟩, ⟨(some 11), (.call (.func 47) [(.tmp 10)]), none, []⟩, ⟨(some 12), (.call (.func 60) [(.tmp 11)]), none, []⟩, ⟨(some 9), (.mov (.tmp 12)), none, []⟩, ⟨(some 13), (.extract (.tmp 9) 0), none, []⟩, ⟨(some 14), (.extract (.tmp 9) 1), none, []⟩, ⟨(some 3), (.mov (.tmp 13)), none, []⟩, ⟨(some 4), (.mov (.tmp 14)), none, []⟩]) (.seq (.ops false [⟨(some 5), (.mov (.const (.int .i64 0))), none, []⟩]) (.seq (.seq (.ops false [⟨(some 6), (.mov (.const (.int .i64 0))), none, []⟩]) (.block 0 (some ⟨[], [4, 5], []⟩) (.loop dk48_0 db48_0))) (.seq (.ops false [⟨(some 34), (.mov (.tmp 5)), none, []⟩, ⟨(some 35), (.mov (.tmp 4)), none, []⟩, ⟨(some 36), (.bin .sub (.tmp 34) (.tmp 35)), none, []⟩, ⟨(some 2), (.mov (.tmp 36)), none, []⟩]) .ret)))))⟩
theorem dh48 : cProg Go.Proofs.Tryz.prog ⟨[(0, ⟨[], [0, 4, 5, 6], []⟩)], [(0, ⟨[], [4, 5], []⟩)], []⟩ 48 = some dc48 := by kernel_rfl
def db49_0 : DC := (.seq (.seq (.ops false [⟨(some 7), (.mov (.tmp 6)), none, []⟩, ⟨(some 8), (.mov (.tmp 0)), none, []⟩, ⟨(some 9), (.len (.tmp 8)), none, []⟩, ⟨(some 10), (.bin .lss (.tmp 7) (.tmp 9)), none, []⟩]) (.cond (.tmp 10) .skip (.exit 0))) (.seq (.block 1 none (.ops false [⟨(some 13), (.mov (.tmp 5)), none, []⟩, ⟨(some 14), (.mov (.tmp 0)), none, []⟩, ⟨(some 15), (.mov (.tmp 6)), none, []⟩, ⟨(some 16), (.iaddr 1 (.tmp 14) (.tmp 15)), none, []⟩, ⟨(some 17), (.load none (.tmp 16)), none, []⟩, ⟨(some 18), (.mov (.tmp 1)), none, []⟩, ⟨(some 19), (.call (.func 35) [(.tmp 17), (.tmp 18)]), none, []⟩, ⟨(some 20), (.bin .add (.tmp 13) (.tmp 19)), none, []⟩, ⟨(some 5), (.mov (.tmp 20)), none, []⟩])) (.ops false [⟨(some 11), (.mov (.tmp 6)), none, []⟩, ⟨(some 12), (.bin .add (.tmp 11) (.const (.int .i64 1))), none, []⟩, ⟨(some 6), (.mov (.tmp 12)), none, []⟩])))
def dk49_0 : Keep := ⟨[], [0, 1, 5, 6], []⟩
def dc49 : DFunc := ⟨22, 2, [(.tmp 4)], (.seq (.ops false [⟨(some 4), (.mov (.const (.int .i64 0))), none, []⟩]) (.seq (.ops false [⟨(some 5), (.mov (.const (.int .i64 0))), none, []⟩]) (.seq (.seq (.ops false [⟨(some 6), (.mov (.const (.int .i64 0))), none, []⟩]) (.block 0 (some ⟨[], [5], []⟩) (.loop dk49_0 db49_0))) (.seq (.ops false [⟨(some 21), (.mov (.tmp 5)), none, []⟩, ⟨(some 4), (.mov (.tmp 21)), none, []⟩]) .ret))))⟩
theorem dh49 : cProg Go.Proofs.Tryz.prog ⟨[(0, ⟨[], [0, 1, 5, 6], []⟩)], [(0, ⟨[], [5], []⟩)], []⟩ 49 = some dc49 := by kernel_rfl
def dc50 : DFunc := ⟨13, 1, [(.tmp 2)], (.seq (.ops false [⟨(some 2), (.mov (.const (.int .i64 0))), none, []⟩]) (.seq (.seq (.ops false [⟨(some 4), (.mov (.tmp 0)), none, []⟩, ⟨(some 5), (.len (.tmp 4)), none, []⟩, ⟨(some 6), (.call (.func 93) [(.tmp 5), (.const (.int .i64 6))]), none, []⟩, ⟨(some 3), (.mov (.tmp 6)), none, []⟩]) (.seq (.ops false [⟨(some 7), (.mov (.tmp 3)), none, []⟩, ⟨(some 8), (.bin .neq (.tmp 7) (.const (.int .i64 0))), none, []⟩]) (.cond (.tmp 8) (.seq (.ops false [⟨(some 9), (.mov (.tmp 3)), none, []⟩, ⟨(some 2), (.mov (.tmp 9)), none, []⟩]) .ret) .skip))) (.seq (.ops false [⟨(some 10), (.mov (.tmp 0)), none, []⟩, ⟨(some 11), (.call (.func 98) [(.tmp 10), (.func 36)]), none, []⟩, ⟨(some 12), (.call (.func 78) [(.tmp 11)]), none, []⟩, ⟨(some 2), (.mov (.tmp 12)), none, []⟩]) .ret)))⟩
theorem dh50 : cProg Go.Proofs.Tryz.prog ⟨[], [], []⟩ 50 = some dc50 := by kernel_rfl
def dc51 : DFunc := ⟨39, 3, [(.cell 6 (some 2)), (.tmp 7)], (.seq (.ops false [⟨(some 6), (.alloc (.agg [(.int .i64 0), (.int .i64 0)]) 2), none, []⟩, ⟨(some 7), (.mov (.const (.int .i64 0))), none, []⟩]) (.seq (.seq (.ops false [⟨(some 9), (.mov (.tmp 0)), none, []⟩, ⟨(some 10), (.call (.func 50) [(.tmp 9)]), none, []⟩, ⟨(some 11), (.mov (.tmp 1)), none, []⟩, ⟨(some 12), (.call (.func 79) [(.tmp 11)]), none, []⟩, ⟨(some 13), (.mov (.tmp 2)), none, []⟩, ⟨(some 14), (.call (.func 88) [(.tmp 13), (.const (.int .i64 0)), (.const (.int .i64 1000))]), none, []⟩, ⟨(some 15), (.lit true 1 3 (.int .i64 0) [(0, (.tmp 10)), (1, (.tmp 12)), (2, (.tmp 14))]), none, []⟩, ⟨(some 16), (.call (.func 78) [(.tmp 15)]), none, []⟩, ⟨(some 8), (.mov (.tmp 16)), none, []⟩]) (.seq (.ops false [⟨(some 17), (.mov (.tmp 8)), none, []⟩, ⟨(some 18), (.bin .neq (.tmp 17) (.const (.int .i64 0))), none, []⟩]) (.cond (.tmp 18) (.seq (.ops false [⟨(some 19), (.build [(.int .i64 0), (.int .i64 0)] []), none, []⟩, ⟨(some 20), (.mov (.tmp 8)), none, []⟩, ⟨none, (.store 2 (.tmp 6) (.tmp 19)), none, []⟩, ⟨(some 7), (.mov (.tmp 20)), none, []⟩]) .ret) .skip))) (.seq (.ops true [⟨(some 21), (.mov (.tmp 0)), none, []⟩, ⟨(some 22), (.mov (.tmp 2)), none, []⟩, ⟨(some 23), (.un .neg (.tmp 22)), none, [1]⟩, ⟨(some 24), (.call (.func 99) [(.tmp 21), (.tmp 23)]), none, [0, 2, 1]⟩, ⟨(some 25), (.mov (.tmp 1)), none, []⟩, ⟨(some 26), (.call (.func 96) [(.tmp 24), (.tmp 25)]), none, [3, 0, 2, 1, 4]⟩, ⟨(some 27), (.mov (.tmp 1)), none, []⟩, ⟨(some 28), (.iaddr 1 (.tmp 26) (.tmp 27)), none, [5, 3, 0, 2, 1, 4, 6]⟩, ⟨(some 29), (.load none (.tmp 28)), none, [7, 5, 3, 0, 2, 1, 4, 6]⟩, ⟨(some 30), (.mov (.tmp 0)), none, []⟩, ⟨(some 31), (.mov (.tmp 2)), none, []⟩, ⟨(some 32), (.call (.func 99) [(.tmp 30), (.tmp 31)]), none, [9, 10, 5, 3, 0, 2, 1, 4]⟩, ⟨(some 33), (.mov (.tmp 1)), none, []⟩, ⟨(some 34), (.call (.func 96) [(.tmp 32), (.tmp 33)]), none, [11, 9, 10, 5, 3, 0, 2, 1, 4, 12]⟩, ⟨(some 35), (.mov (.tmp 1)), none, []⟩, ⟨(some 36), (.iaddr 1 (.tmp 34) (.tmp 35)), none, [13, 11, 9, 10, 5, 3, 0, 2, 1, 4, 12, 14]⟩, ⟨(some 37), (.load none (.tmp 36)), none, [15, 13, 11, 9, 10, 5, 3, 0, 2, 1, 4, 12, 14]⟩, ⟨(some 38), (.build [(.int .i64 0), (.int .i64 0)] [(0, (1, (.tmp 29))), (1, (1, (.tmp 37)))]), none, [8, 7, 5, 3, 0, 2, 1, 4, 6, 16, 15, 13, 11, 9, 10, 12, 14]⟩, ⟨none, (.store 2 (.tmp 6) (.tmp 38)), none, [17, 8, 7, 5, 3, 0, 2, 1, 4, 6, 16, 15, 13, 11, 9, 10, 12, 14]⟩, ⟨(some 7), (.mov (.const (.int .i64 0))), none, [18, 17, 8, 7, 5, 3, 0, 2, 1, 4, 6, 16, 15, 13, 11, 9, 10, 12, 14]⟩]) .ret)))⟩
theorem dh51 : cProg Go.Proofs.Tryz.prog ⟨[], [], [15]⟩ 51 = some dc51 := by kernel_rfl
def dc52 : DFunc := ⟨16, 3, [(.tmp 6)], (.seq (.ops false [⟨(some 6), (.mov (.const (.int .i64 0))), none, []⟩]) (.seq (.ops false [⟨(some 7), (.mov (.tmp 0)), none, []⟩, ⟨(some 8), (.mov (.tmp 1)), none, []⟩, ⟨(some 9), (.bin .lss (.tmp 7) (.tmp 8)), none, []⟩, ⟨(some 10), (.mov (.tmp 9)), none, []⟩, ⟨(some 11), (.mov (.tmp 0)), (some (10, false)), []⟩, ⟨(some 12), (.mov (.tmp 2)), (some (10, false)), []⟩, ⟨(some 13), (.bin .gtr (.tmp 11) (.tmp 12)), (some (10, false)), []⟩, ⟨(some 14), (.pick (.tmp 10) (.const (.bool true)) (.tmp 13)), none, []⟩, ⟨(some 15), (.call (.func 62) [(.tmp 14), (.const (.int .i64 3))]), none, []⟩, ⟨(some 6), (.mov (.tmp 15)), none, []⟩]) .ret))⟩
theorem dh52 : cProg Go.Proofs.Tryz.prog ⟨[], [], []⟩ 52 = some dc52 := by kernel_rfl
def db53_0 : DC := (.seq (.seq (.ops false [⟨(some 16), (.mov (.tmp 7)), none, []⟩, ⟨(some 17), (.mov (.tmp 5)), none, []⟩, ⟨(some 18), (.mov (.tmp 6)), none, []⟩, ⟨(some 19), (.iaddr 1 (.tmp 17) (.tmp 18)), none, []⟩, ⟨(some 20), (.load none (.tmp 19)), none, []⟩, ⟨(some 21), (.len (.tmp 20)), none, []⟩, ⟨(some 22), (.bin .lss (.tmp 16) (.tmp 21)), none, []⟩]) (.cond (.tmp 22) .skip (.exit 2))) (.seq (.block 3 none (.ops true [⟨(some 25), (.mov (.tmp 5)), none, []⟩, ⟨(some 26), (.mov (.tmp 6)), none, []⟩, ⟨(some 27), (.iaddr 1 (.tmp 25) (.tmp 26)), none, [0, 1]⟩, ⟨(some 28), (.load none (.tmp 27)), none, [2, 0, 1]⟩, ⟨(some 29), (.mov (.tmp 7)), none, []⟩, ⟨(some 30), (.mov (.tmp 5)), none, []⟩, ⟨(some 31), (.mov (.tmp 6)), none, []⟩, ⟨(some 32), (.iaddr 1 (.tmp 30) (.tmp 31)), none, [5, 6]⟩, ⟨(some 33), (.load none (.tmp 32)), none, [7, 5, 6]⟩, ⟨(some 34), (.mov (.tmp 7)), none, []⟩, ⟨(some 35), (.iaddr 3 (.tmp 33) (.tmp 34)), none, [8, 7, 5, 6, 9]⟩, ⟨(some 36), (.faddr 1 1 false (.tmp 35)), none, [10, 8, 7, 5, 6, 9]⟩, ⟨(some 37), (.load none (.tmp 36)), none, [11, 10, 8, 7, 5, 6, 9]⟩, ⟨(some 38), (.mov (.tmp 1)), none, []⟩, ⟨(some 39), (.bin .add (.tmp 37) (.tmp 38)), none, [12, 11, 10, 8, 7, 5, 6, 9, 13]⟩, ⟨(some 40), (.minmax false (.const (.int .i64 1000)) [(.tmp 39)]), none, [14, 12, 11, 10, 8, 7, 5, 6, 9, 13]⟩, ⟨(some 41), (.minmax true (.const (.int .i64 0)) [(.tmp 40)]), none, [15, 14, 12, 11, 10, 8, 7, 5, 6, 9, 13]⟩, ⟨(some 42), (.iaddr 3 (.tmp 28) (.tmp 29)), none, [3, 2, 0, 1, 4, 5, 6, 7, 8, 9, 10, 11, 12, 13, 14, 15, 16]⟩, ⟨(some 43), (.faddr 1 1 false (.tmp 42)), none, [17, 3, 2, 0, 1, 4, 5, 6, 7, 8, 9, 10, 11, 12, 13, 14, 15, 16]⟩, ⟨none, (.store 1 (.tmp 43) (.tmp 41)), none, [18, 17, 3, 2, 0, 1, 4, 5, 6, 7, 8, 9, 10, 11, 12, 13, 14, 15, 16]⟩])) (.ops false [⟨(some 23), (.mov (.tmp 7)), none, []⟩, ⟨(some 24), (.bin .add (.tmp 23) (.const (.int .i64 1))), none, []⟩, ⟨(some 7), (.mov (.tmp 24)), none, []⟩])))
def dk53_0 : Keep := ⟨[], [1, 5, 6, 7], []⟩
def db53_1 : DC := (.seq (.seq (.ops false [⟨(some 10), (.mov (.tmp 6)), none, []⟩, ⟨(some 11), (.mov (.tmp 5)), none, []⟩, ⟨(some 12), (.len (.tmp 11)), none, []⟩, ⟨(some 13), (.bin .lss (.tmp 10) (.tmp 12)), none, []⟩]) (.cond (.tmp 13) .skip (.exit 0))) (.seq (.block 1 (some ⟨[], [1, 5, 6], []⟩) (.seq (.ops false [⟨(some 7), (.mov (.const (.int .i64 0))), none, []⟩]) (.block 2 (some ⟨[], [1, 5, 6], []⟩) (.loop dk53_0 db53_0)))) (.ops false [⟨(some 14), (.mov (.tmp 6)), none, []⟩, ⟨(some 15), (.bin .add (.tmp 14) (.const (.int .i64 1))), none, []⟩, ⟨(some 6), (.mov (.tmp 15)), none, []⟩])))
def dk53_1 : Keep := ⟨[], [1, 5, 6], []⟩
def dc53 : DFunc := ⟨45, 2, [(.tmp 4)], (.seq (.ops false [⟨(some 4), (.mov (.const (.slice none 0 0))), none, []⟩]) (.seq (.ops false [⟨(some 8), (.mov (.tmp 0)), none, []⟩, ⟨(some 9), (.call (.func 66) [(.tmp 8)]), none, []⟩, ⟨(some 5), (.mov (.tmp 9)), none, []⟩]) (.seq (.seq (.ops false [⟨(some 6), (.mov (.const (.int .i64 0))), none, []⟩]) (.block 0 (some ⟨[], [5], []⟩) (.loop dk53_1 db53_1))) (.seq (.ops false [⟨(some 44), (.mov (.tmp 5)), none, []⟩, ⟨(some 4), (.mov (.tmp 44)), none, []⟩]) .ret))))⟩
theorem dh53 : cProg Go.Proofs.Tryz.prog ⟨[(0, ⟨[], [1, 5, 6], []⟩), (2, ⟨[], [1, 5, 6, 7], []⟩)], [(2, ⟨[], [1, 5, 6], []⟩), (1, ⟨[], [1, 5, 6], []⟩), (0, ⟨[], [5], []⟩)], []⟩ 53 = some dc53 := by kernel_rfl
def db54_0 : DC := (.seq (.seq (.ops true [⟨(some 47), (.mov (.tmp 9)), none, []⟩, ⟨(some 48), (.bin .add (.tmp 47) (.const (.int .i64 1))), none, [0]⟩, ⟨(some 49), (.mov (.tmp 5)), none, []⟩, ⟨(some 50), (.len (.tmp 49)), none, [2]⟩, ⟨(some 51), (.bin .lss (.tmp 48) (.tmp 50)), none, [1, 0, 3, 2]⟩, ⟨(some 52), (.mov (.tmp 51)), none, [4, 1, 0, 3, 2]⟩, ⟨(some 53), (.mov (.tmp 5)), (some (52, true)), [5, 4, 1, 0, 3, 2]⟩, ⟨(some 54), (.mov (.tmp 9)), (some (52, true)), [5, 4, 1, 0, 3, 2]⟩, ⟨(some 55), (.bin .add (.tmp 54) (.const (.int .i64 1))), (some (52, true)), [7, 5, 4, 1, 0, 3, 2]⟩, ⟨(some 56), (.iaddr 2 (.tmp 53) (.tmp 55)), (some (52, true)), [6, 5, 4, 1, 0, 3, 2, 8, 7]⟩, ⟨(some 57), (.faddr 1 1 false (.tmp 56)), (some (52, true)), [9, 6, 5, 4, 1, 0, 3, 2, 8, 7]⟩, ⟨(some 58), (.load none (.tmp 57)), (some (52, true)), [10, 9, 6, 5, 4, 1, 0, 3, 2, 8, 7]⟩, ⟨(some 59), (.faddr 1 1 false (.tmp 8)), (some (52, true)), [5, 4, 1, 0, 3, 2]⟩, ⟨(some 60), (.load none (.tmp 59)), (some (52, true)), [12, 5, 4, 1, 0, 3, 2]⟩, ⟨(some 61), (.bin .eql (.tmp 58) (.tmp 60)), (some (52, true)), [11, 10, 9, 6, 5, 4, 1, 0, 3, 2, 8, 7, 13, 12]⟩, ⟨(some 62), (.pick (.tmp 52) (.tmp 61) (.const (.bool false))), none, [5, 4, 1, 0, 3, 2, 14, 11, 10, 9, 6, 8, 7, 13, 12]⟩]) (.cond (.tmp 62) .skip (.exit 2))) (.block 3 none (.ops false [⟨(some 63), (.mov (.tmp 9)), none, []⟩, ⟨(some 64), (.bin .add (.tmp 63) (.const (.int .i64 1))), none, []⟩, ⟨(some 9), (.mov (.tmp 64)), none, []⟩])))
def dk54_0 : Keep := ⟨[], [5, 6, 8, 9, 21, 22, 23], [6, 8, 85, 86]⟩
def db54_1 : DC := (.seq (.ops false [⟨(some 24), (.bin .lss (.tmp 23) (.tmp 22)), none, []⟩]) (.seq (.cond (.tmp 24) .skip (.exit 0)) (.seq (.block 1 (some ⟨[], [5, 6, 21, 22, 23], [6]⟩) (.seq (.ops false [⟨(some 25), (.mov (.tmp 23)), none, []⟩, ⟨(some 26), (.iaddr 2 (.tmp 21) (.tmp 23)), none, []⟩, ⟨(some 27), (.load (some 2) (.tmp 26)), none, []⟩, ⟨(some 8), (.alloc (.agg [(.int .i64 0), (.int .i64 0)]) 2), none, []⟩, ⟨(some 7), (.mov (.tmp 25)), none, []⟩, ⟨none, (.store 2 (.tmp 8) (.tmp 27)), none, []⟩]) (.seq (.seq (.ops true [⟨(some 28), (.faddr 1 1 false (.tmp 8)), none, []⟩, ⟨(some 29), (.load none (.tmp 28)), none, [0]⟩, ⟨(some 30), (.bin .eql (.tmp 29) (.const (.int .i64 0))), none, [1, 0]⟩, ⟨(some 31), (.mov (.tmp 30)), none, [2, 1, 0]⟩, ⟨(some 32), (.mov (.tmp 7)), (some (31, false)), [3, 2, 1, 0]⟩, ⟨(some 33), (.bin .gtr (.tmp 32) (.const (.int .i64 0))), (some (31, false)), [4, 3, 2, 1, 0]⟩, ⟨(some 34), (.mov (.tmp 33)), (some (31, false)), [5, 4, 3, 2, 1, 0]⟩, ⟨(some 35), (.mov (.tmp 5)), (some (34, true)), [6, 5, 4, 3, 2, 1, 0]⟩, ⟨(some 36), (.mov (.tmp 7)), (some (34, true)), [6, 5, 4, 3, 2, 1, 0]⟩, ⟨(some 37), (.bin .sub (.tmp 36) (.const (.int .i64 1))), (some (34, true)), [8, 6, 5, 4, 3, 2, 1, 0]⟩, ⟨(some 38), (.iaddr 2 (.tmp 35) (.tmp 37)), (some (34, true)), [7, 6, 5, 4, 3, 2, 1, 0, 9, 8]⟩, ⟨(some 39), (.faddr 1 1 false (.tmp 38)), (some (34, true)), [10, 7, 6, 5, 4, 3, 2, 1, 0, 9, 8]⟩, ⟨(some 40), (.load none (.tmp 39)), (some (34, true)), [11, 10, 7, 6, 5, 4, 3, 2, 1, 0, 9, 8]⟩, ⟨(some 41), (.faddr 1 1 false (.tmp 8)), (some (34, true)), [6, 5, 4, 3, 2, 1, 0]⟩, ⟨(some 42), (.load none (.tmp 41)), (some (34, true)), [13, 6, 5, 4, 3, 2, 1, 0]⟩, ⟨(some 43), (.bin .geq (.tmp 40) (.tmp 42)), (some (34, true)), [12, 11, 10, 7, 6, 5, 4, 3, 2, 1, 0, 9, 8, 14, 13]⟩, ⟨(some 44), (.pick (.tmp 34) (.tmp 43) (.const (.bool false))), (some (31, false)), [6, 5, 4, 3, 2, 1, 0, 15, 12, 11, 10, 7, 9, 8, 14, 13]⟩, ⟨(some 45), (.pick (.tmp 31) (.const (.bool true)) (.tmp 44)), none, [3, 2, 1, 0, 16, 6, 5, 4, 15, 12, 11, 10, 7, 9, 8, 14, 13]⟩]) (.cond (.tmp 45) (.exit 1) .skip)) (.seq (.ops false [⟨(some 46), (.mov (.tmp 7)), none, []⟩, ⟨(some 9), (.mov (.tmp 46)), none, []⟩]) (.seq (.block 2 (some ⟨[], [5, 6, 8, 9, 21, 22, 23], [6, 8, 85, 86]⟩) (.loop dk54_0 db54_0)) (.seq (.ops true [⟨(some 65), (.mov (.tmp 9)), none, []⟩, ⟨(some 66), (.bin .add (.tmp 65) (.const (.int .i64 1))), none, [0]⟩, ⟨(some 67), (.mov (.tmp 5)), none, []⟩, ⟨(some 68), (.len (.tmp 67)), none, [2]⟩, ⟨(some 69), (.bin .eql (.tmp 66) (.tmp 68)), none, [1, 0, 3, 2]⟩, ⟨(some 70), (.mov (.tmp 69)), none, [4, 1, 0, 3, 2]⟩, ⟨(some 71), (.mov (.tmp 5)), (some (70, false)), [5, 4, 1, 0, 3, 2]⟩, ⟨(some 72), (.mov (.tmp 9)), (some (70, false)), [5, 4, 1, 0, 3, 2]⟩, ⟨(some 73), (.bin .add (.tmp 72) (.const (.int .i64 1))), (some (70, false)), [7, 5, 4, 1, 0, 3, 2]⟩, ⟨(some 74), (.iaddr 2 (.tmp 71) (.tmp 73)), (some (70, false)), [6, 5, 4, 1, 0, 3, 2, 8, 7]⟩, ⟨(some 75), (.faddr 1 1 false (.tmp 74)), (some (70, false)), [9, 6, 5, 4, 1, 0, 3, 2, 8, 7]⟩, ⟨(some 76), (.load none (.tmp 75)), (some (70, false)), [10, 9, 6, 5, 4, 1, 0, 3, 2, 8, 7]⟩, ⟨(some 77), (.faddr 1 1 false (.tmp 8)), (some (70, false)), [5, 4, 1, 0, 3, 2]⟩, ⟨(some 78), (.load none (.tmp 77)), (some (70, false)), [12, 5, 4, 1, 0, 3, 2]⟩, ⟨(some 79), (.bin .lss (.tmp 76) (.tmp 78)), (some (70, false)), [11, 10, 9, 6, 5, 4, 1, 0, 3, 2, 8, 7, 13, 12]⟩, ⟨(some 80), (.pick (.tmp 70) (.const (.bool true)) (.tmp 79)), none, [5, 4, 1, 0, 3, 2, 14, 11, 10, 9, 6, 8, 7, 13, 12]⟩]) (.cond (.tmp 80) (.ops false [⟨(some 81), (.mov (.tmp 6)), none, []⟩, ⟨(some 82), (.faddr 0 1 true (.tmp 8)), none, []⟩, ⟨(some 83), (.faddr 0 1 false (.tmp 82)), none, []⟩, ⟨(some 84), (.load none (.tmp 83)), none, []⟩, ⟨(some 85), (.lit true 1 1 (.int .i64 0) [(0, (.tmp 84))]), none, []⟩, ⟨(some 86), (.append false 1 (.tmp 81) (.tmp 85)), none, []⟩, ⟨(some 6), (.mov (.tmp 86)), none, []⟩]) .skip))))))) (.ops false [⟨(some 87), (.bin .add (.tmp 23) (.const (.int .i64 1))), none, []⟩, ⟨(some 23), (.mov (.tmp 87)), none, []⟩]))))
def dk54_1 : Keep := ⟨[(6, 1)], [5, 6, 21, 22, 23], [6]⟩
def dc54 : DFunc := ⟨89, 1, [(.tmp 2), (.tmp 3)], (.seq (.ops false [⟨(some 2), (.mov (.const (.slice none 0 0))), none, []⟩, ⟨(some 3), (.mov (.const (.int .i64 0))), none, []⟩]) (.seq (.seq (.ops false [⟨(some 10), (.mov (.tmp 0)), none, []⟩, ⟨(some 11), (.call (.func 50) [(.tmp 10)]), none, []⟩, ⟨(some 4), (.mov (.tmp 11)), none, []⟩]) (.seq (.ops false [⟨(some 12), (.mov (.tmp 4)), none, []⟩, ⟨(some 13), (.bin .neq (.tmp 12) (.const (.int .i64 0))), none, []⟩]) (.cond (.tmp 13) (.seq (.ops false [⟨(some 14), (.mov (.tmp 4)), none, []⟩, ⟨(some 2), (.mov (.const (.slice none 0 0))), none, []⟩, ⟨(some 3), (.mov (.tmp 14)), none, []⟩]) .ret) .skip))) (.seq (.ops false [⟨(some 15), (.mov (.tmp 0)), none, []⟩, ⟨(some 16), (.mov (.tmp 0)), none, []⟩, ⟨(some 17), (.call (.func 95) [(.tmp 16)]), none, []⟩, ⟨(some 18), (.call (.func 96) [(.tmp 15), (.tmp 17)]), none, []⟩, ⟨(some 19), (.call (.func 101) [(.tmp 18)]), none, []⟩, ⟨(some 20), (.call (.func 100) [(.tmp 19)]), none, []⟩, ⟨(some 5), (.mov (.tmp 20)), none, []⟩]) (.seq (.ops false [⟨(some 6), (.mov (.const (.slice none 0 0))), none, []⟩]) (.seq (.seq (.ops false [⟨(some 21), (.mov (.tmp 5)), none, []⟩, ⟨(some 22), (.len (.tmp 21)), none, []⟩, ⟨(some 23), (.mov (.const (.int .i64 0))), none, []⟩]) (.block 0 (some ⟨[], [6], [6]⟩) (.loop dk54_1 db54_1))) (.seq (.ops false [⟨(some 88), (.mov (.tmp 6)), none, []⟩, ⟨(some 2), (.mov (.tmp 88)), none, []⟩, ⟨(some 3), (.mov (.const (.int .i64 0))), none, []⟩]) .ret))))))⟩
theorem dh54 : cProg Go.Proofs.Tryz.prog ⟨[(0, ⟨[(6, 1)], [5, 6, 21, 22, 23], [6]⟩), (2, ⟨[], [5, 6, 8, 9, 21, 22, 23], [6, 8, 85, 86]⟩)], [(2, ⟨[], [5, 6, 8, 9, 21, 22, 23], [6, 8, 85, 86]⟩), (1, ⟨[], [5, 6, 21, 22, 23], [6]⟩), (0, ⟨[], [6], [6]⟩)], [85]⟩ 54 = some dc54 := by kernel_rfl
def dc55 : DFunc := ⟨23, 1, [(.tmp 2), (.tmp 3), (.tmp 4)], (.seq (.ops false [⟨(some 2), (.mov (.const (.int .i64 0))), none, []⟩, ⟨(some 3), (.mov (.const (.int .i64 0))), none, []⟩, ⟨(some 4), (.mov (.const (.int .i64 0))), none, []⟩]) (.seq (.ops false [⟨(some 9), (.mov (.tmp 0)), none, []⟩, ⟨(some 10), (.call (.func 43) [(.tmp 9)]), none, []⟩, ⟨(some 8), (.mov (.tmp 10)), none, []⟩, ⟨(some 11), (.extract (.tmp 8) 0), none, []⟩, ⟨(some 12), (.extract (.tmp 8) 1), none, []⟩, ⟨(some 5), (.mov (.tmp 11)), none, []⟩, ⟨(some 6), (.mov (.tmp 12)), none, []⟩]) (.seq (.seq (.ops false [⟨(some 13), (.mov (.tmp 6)), none, []⟩, ⟨(some 14), (.bin .neq (.tmp 13) (.const (.int .i64 0))), none, []⟩]) (.cond (.tmp 14) (.seq (.ops false [⟨(some 15), (.mov (.tmp 6)), none, []⟩, ⟨(some 2), (.mov (.const (.int .i64 0))), none, []⟩, ⟨(some 3), (.mov (.const (.int .i64 0))), none, []⟩, ⟨(some 4), (.mov (.tmp 15)), none, []⟩]) .ret) .skip)) (.seq (.ops false [⟨(some 16), (.mov (.tmp 5)), none, []⟩, ⟨(some 17), (.call (.func 102) [(.tmp 16)]), none, []⟩, ⟨(some 7), (.alloc (.agg [(.int .i64 0), (.int .i64 0)]) 2), none, []⟩, ⟨none, (.store 2 (.tmp 7) (.tmp 17)), none, []⟩]) (.seq (.ops true [⟨(some 18), (.faddr 0 1 true (.tmp 7)), none, []⟩, ⟨(some 19), (.faddr 0 1 false (.tmp 18)), none, [0]⟩, ⟨(some 20), (.load none (.tmp 19)), none, [1, 0]⟩, ⟨(some 21), (.faddr 1 1 false (.tmp 7)), none, []⟩, ⟨(some 22), (.load none (.tmp 21)), none, [3]⟩, ⟨(some 2), (.mov (.tmp 20)), none, [2, 1, 0]⟩, ⟨(some 3), (.mov (.tmp 22)), none, [4, 3, 5, 2, 1, 0]⟩, ⟨(some 4), (.mov (.const (.int .i64 0))), none, [6, 4, 3, 5, 2, 1, 0]⟩]) .ret)))))⟩
theorem dh55 : cProg Go.Proofs.Tryz.prog ⟨[], [], []⟩ 55 = some dc55 := by kernel_rfl
def db56_0 : DC := (.block 1 none (.seq (.ops false [⟨(some 21), (.mov (.tmp 4)), none, []⟩, ⟨(some 22), (.mov (.tmp 7)), none, []⟩, ⟨(some 23), (.mov (.tmp 7)), none, []⟩, ⟨(some 24), (.len (.tmp 23)), none, []⟩, ⟨(some 25), (.bin .sub (.tmp 24) (.const (.int .i64 1))), none, []⟩, ⟨(some 26), (.iaddr 1 (.tmp 22) (.tmp 25)), none, []⟩, ⟨(some 27), (.load none (.tmp 26)), none, []⟩, ⟨(some 28), (.iaddr 1 (.tmp 21) (.tmp 27)), none, []⟩, ⟨(some 29), (.load none (.tmp 28)), none, []⟩, ⟨(some 8), (.mov (.tmp 29)), none, []⟩]) (.seq (.seq (.ops false [⟨(some 30), (.mov (.tmp 8)), none, []⟩, ⟨(some 31), (.mov (.tmp 4)), none, []⟩, ⟨(some 32), (.len (.tmp 31)), none, []⟩, ⟨(some 33), (.bin .sub (.tmp 32) (.const (.int .i64 1))), none, []⟩, ⟨(some 34), (.bin .mul (.tmp 30) (.tmp 33)), none, []⟩, ⟨(some 35), (.mov (.tmp 6)), none, []⟩, ⟨(some 36), (.bin .leq (.tmp 34) (.tmp 35)), none, []⟩]) (.cond (.tmp 36) (.exit 0) .skip)) (.ops false [⟨(some 37), (.mov (.tmp 7)), none, []⟩, ⟨(some 38), (.mov (.tmp 6)), none, []⟩, ⟨(some 39), (.mov (.tmp 8)), none, []⟩, ⟨(some 40), (.bin .quo (.tmp 38) (.tmp 39)), none, []⟩, ⟨(some 41), (.bin .add (.tmp 40) (.const (.int .i64 1))), none, []⟩, ⟨(some 42), (.lit true 1 1 (.int .i64 0) [(0, (.tmp 41))]), none, []⟩, ⟨(some 43), (.append false 1 (.tmp 37) (.tmp 42)), none, []⟩, ⟨(some 7), (.mov (.tmp 43)), none, []⟩]))))
def dk56_0 : Keep := ⟨[(7, 1)], [4, 6, 7], [7, 20]⟩
def dc56 : DFunc := ⟨45, 1, [(.tmp 2), (.tmp 3)], (.seq (.ops false [⟨(some 2), (.mov (.const (.slice none 0 0))), none, []⟩, ⟨(some 3), (.mov (.const (.int .i64 0))), none, []⟩]) (.seq (.ops false [⟨(some 10), (.mov (.tmp 0)), none, []⟩, ⟨(some 11), (.call (.func 43) [(.tmp 10)]), none, []⟩, ⟨(some 9), (.mov (.tmp 11)), none, []⟩, ⟨(some 12), (.extract (.tmp 9) 0), none, []⟩, ⟨(some 13), (.extract (.tmp 9) 1), none, []⟩, ⟨(some 4), (.mov (.tmp 12)), none, []⟩, ⟨(some 5), (.mov (.tmp 13)), none, []⟩]) (.seq (.seq (.ops false [⟨(some 14), (.mov (.tmp 5)), none, []⟩, ⟨(some 15), (.bin .neq (.tmp 14) (.const (.int .i64 0))), none, []⟩]) (.cond (.tmp 15) (.seq (.ops false [⟨(some 16), (.mov (.tmp 5)), none, []⟩, ⟨(some 2), (.mov (.const (.slice none 0 0))), none, []⟩, ⟨(some 3), (.mov (.tmp 16)), none, []⟩]) .ret) .skip)) (.seq (.ops false [⟨(some 17), (.mov (.tmp 4)), none, []⟩, ⟨(some 18), (.call (.func 102) [(.tmp 17)]), none, []⟩, ⟨(some 19), (.field 1 1 false (.tmp 18)), none, []⟩, ⟨(some 6), (.mov (.tmp 19)), none, []⟩]) (.seq (.ops false [⟨(some 20), (.lit false 1 1 (.int .i64 0) [(0, (.const (.int .i64 0)))]), none, []⟩, ⟨(some 7), (.mov (.tmp 20)), none, []⟩]) (.seq .skip (.seq (.block 0 (some ⟨[], [7], [7, 20]⟩) (.loop dk56_0 db56_0)) (.seq (.ops false [⟨(some 44), (.mov (.tmp 7)), none, []⟩, ⟨(some 2), (.mov (.tmp 44)), none, []⟩, ⟨(some 3), (.mov (.const (.int .i64 0))), none, []⟩]) .ret))))))))⟩
theorem dh56 : cProg Go.Proofs.Tryz.prog ⟨[(0, ⟨[(7, 1)], [4, 6, 7], [7, 20]⟩)], [(0, ⟨[], [7], [7, 20]⟩)], [42]⟩ 56 = some dc56 := by kernel_rfl
def db57_0 : DC := (.seq (.ops false [⟨(some 35), (.bin .lss (.tmp 34) (.tmp 33)), none, []⟩]) (.seq (.cond (.tmp 35) .skip (.exit 0)) (.seq (.block 1 none (.seq (.ops false [⟨(some 36), (.mov (.tmp 34)), none, []⟩, ⟨(some 37), (.iaddr 1 (.tmp 32) (.tmp 34)), none, []⟩, ⟨(some 38), (.load none (.tmp 37)), none, []⟩, ⟨(some 10), (.mov (.tmp 36)), none, []⟩, ⟨(some 11), (.mov (.tmp 38)), none, []⟩]) (.seq (.seq (.ops false [⟨(some 39), (.mov (.tmp 11)), none, []⟩, ⟨(some 40), (.mov (.tmp 7)), none, []⟩, ⟨(some 41), (.len (.tmp 40)), none, []⟩, ⟨(some 42), (.bin .sub (.tmp 41) (.const (.int .i64 1))), none, []⟩, ⟨(some 43), (.call (.func 88) [(.tmp 39), (.const (.int .i64 0)), (.tmp 42)]), none, []⟩, ⟨(some 44), (.mov (.tmp 10)), none, []⟩, ⟨(some 45), (.bin .eql (.tmp 44) (.const (.int .i64 0))), none, []⟩, ⟨(some 46), (.mov (.tmp 45)), none, []⟩, ⟨(some 47), (.mov (.tmp 11)), (some (46, true)), []⟩, ⟨(some 48), (.bin .neq (.tmp 47) (.const (.int .i64 0))), (some (46, true)), []⟩, ⟨(some 49), (.pick (.tmp 46) (.tmp 48) (.const (.bool false))), none, []⟩, ⟨(some 50), (.mov (.tmp 49)), none, []⟩, ⟨(some 51), (.mov (.tmp 11)), (some (50, false)), []⟩, ⟨(some 52), (.mov (.tmp 9)), (some (50, false)), []⟩, ⟨(some 53), (.bin .leq (.tmp 51) (.tmp 52)), (some (50, false)), []⟩, ⟨(some 54), (.pick (.tmp 50) (.const (.bool true)) (.tmp 53)), none, []⟩, ⟨(some 55), (.call (.func 87) [(.tmp 54), (.const (.int .i64 11))]), none, []⟩, ⟨(some 56), (.lit true 1 2 (.int .i64 0) [(0, (.tmp 43)), (1, (.tmp 55))]), none, []⟩, ⟨(some 57), (.call (.func 78) [(.tmp 56)]), none, []⟩, ⟨(some 12), (.mov (.tmp 57)), none, []⟩]) (.seq (.ops false [⟨(some 58), (.mov (.tmp 12)), none, []⟩, ⟨(some 59), (.bin .neq (.tmp 58) (.const (.int .i64 0))), none, []⟩]) (.cond (.tmp 59) (.seq (.ops false [⟨(some 60), (.mov (.tmp 12)), none, []⟩, ⟨(some 6), (.mov (.tmp 60)), none, []⟩]) .ret) .skip))) (.ops false [⟨(some 61), (.mov (.tmp 11)), none, []⟩, ⟨(some 9), (.mov (.tmp 61)), none, []⟩])))) (.ops false [⟨(some 62), (.bin .add (.tmp 34) (.const (.int .i64 1))), none, []⟩, ⟨(some 34), (.mov (.tmp 62)), none, []⟩]))))
def dk57_0 : Keep := ⟨[], [1, 2, 7, 9, 32, 33, 34], [27]⟩
def db57_1 : DC := (.seq (.ops false [⟨(some 66), (.bin .lss (.tmp 65) (.tmp 64)), none, []⟩]) (.seq (.cond (.tmp 66) .skip (.exit 2)) (.seq (.block 3 none (.seq (.ops false [⟨(some 67), (.mov (.tmp 65)), none, []⟩, ⟨(some 68), (.iaddr 1 (.tmp 63) (.tmp 65)), none, []⟩, ⟨(some 69), (.load none (.tmp 68)), none, []⟩, ⟨(some 13), (.mov (.tmp 67)), none, []⟩, ⟨(some 14), (.mov (.tmp 69)), none, []⟩]) (.seq (.ops false [⟨(some 70), (.mov (.tmp 7)), none, []⟩, ⟨(some 71), (.len (.tmp 70)), none, []⟩, ⟨(some 72), (.bin .sub (.tmp 71) (.const (.int .i64 1))), none, []⟩, ⟨(some 15), (.mov (.tmp 72)), none, []⟩]) (.seq (.seq (.ops false [⟨(some 73), (.mov (.tmp 13)), none, []⟩, ⟨(some 74), (.bin .add (.tmp 73) (.const (.int .i64 1))), none, []⟩, ⟨(some 75), (.mov (.tmp 2)), none, []⟩, ⟨(some 76), (.len (.tmp 75)), none, []⟩, ⟨(some 77), (.bin .lss (.tmp 74) (.tmp 76)), none, []⟩]) (.cond (.tmp 77) (.ops false [⟨(some 78), (.mov (.tmp 2)), none, []⟩, ⟨(some 79), (.mov (.tmp 13)), none, []⟩, ⟨(some 80), (.bin .add (.tmp 79) (.const (.int .i64 1))), none, []⟩, ⟨(some 81), (.iaddr 1 (.tmp 78) (.tmp 80)), none, []⟩, ⟨(some 82), (.load none (.tmp 81)), none, []⟩, ⟨(some 83), (.bin .sub (.tmp 82) (.const (.int .i64 1))), none, []⟩, ⟨(some 15), (.mov (.tmp 83)), none, []⟩]) .skip)) (.seq (.ops false [⟨(some 84), (.mov (.tmp 7)), none, []⟩, ⟨(some 85), (.mov (.tmp 14)), none, []⟩, ⟨(some 86), (.iaddr 1 (.tmp 84) (.tmp 85)), none, []⟩, ⟨(some 87), (.load none (.tmp 86)), none, []⟩, ⟨(some 88), (.mov (.tmp 15)), none, []⟩, ⟨(some 89), (.bin .mul (.tmp 87) (.tmp 88)), none, []⟩, ⟨(some 90), (.mov (.tmp 1)), none, []⟩, ⟨(some 91), (.bin .gtr (.tmp 89) (.tmp 90)), none, []⟩]) (.cond (.tmp 91) (.seq (.ops false [⟨(some 6), (.mov (.const (.int .i64 19))), none, []⟩]) .ret) .skip)))))) (.ops false [⟨(some 92), (.bin .add (.tmp 65) (.const (.int .i64 1))), none, []⟩, ⟨(some 65), (.mov (.tmp 92)), none, []⟩]))))
def dk57_1 : Keep := ⟨[], [1, 2, 7, 63, 64, 65], [27, 56]⟩
def dc57 : DFunc := ⟨93, 3, [(.tmp 6)], (.seq (.ops false [⟨(some 6), (.mov (.const (.int .i64 0))), none, []⟩]) (.seq (.ops false [⟨(some 17), (.mov (.tmp 0)), none, []⟩, ⟨(some 18), (.call (.func 43) [(.tmp 17)]), none, []⟩, ⟨(some 16), (.mov (.tmp 18)), none, []⟩, ⟨(some 19), (.extract (.tmp 16) 0), none, []⟩, ⟨(some 20), (.extract (.tmp 16) 1), none, []⟩, ⟨(some 7), (.mov (.tmp 19)), none, []⟩, ⟨(some 8), (.mov (.tmp 20)), none, []⟩]) (.seq (.seq (.ops false [⟨(some 21), (.mov (.tmp 8)), none, []⟩, ⟨(some 22), (.mov (.tmp 1)), none, []⟩, ⟨(some 23), (.call (.func 88) [(.tmp 22), (.const (.int .i64 0)), (.const (.int .i64 960000))]), none, []⟩, ⟨(some 24), (.mov (.tmp 2)), none, []⟩, ⟨(some 25), (.len (.tmp 24)), none, []⟩, ⟨(some 26), (.call (.func 93) [(.tmp 25), (.const (.int .i64 801))]), none, []⟩, ⟨(some 27), (.lit true 1 3 (.int .i64 0) [(0, (.tmp 21)), (1, (.tmp 23)), (2, (.tmp 26))]), none, []⟩, ⟨(some 28), (.call (.func 78) [(.tmp 27)]), none, []⟩, ⟨(some 8), (.mov (.tmp 28)), none, []⟩]) (.seq (.ops false [⟨(some 29), (.mov (.tmp 8)), none, []⟩, ⟨(some 30), (.bin .neq (.tmp 29) (.const (.int .i64 0))), none, []⟩]) (.cond (.tmp 30) (.seq (.ops false [⟨(some 31), (.mov (.tmp 8)), none, []⟩, ⟨(some 6), (.mov (.tmp 31)), none, []⟩]) .ret) .skip))) (.seq (.ops false [⟨(some 9), (.mov (.const (.int .i64 (-1)))), none, []⟩]) (.seq (.seq (.ops false [⟨(some 32), (.mov (.tmp 2)), none, []⟩, ⟨(some 33), (.len (.tmp 32)), none, []⟩, ⟨(some 34), (.mov (.const (.int .i64 0))), none, []⟩]) (.block 0 (some ⟨[], [1, 2, 7], [27]⟩) (.loop dk57_0 db57_0))) (.seq (.seq (.ops false [⟨(some 63), (.mov (.tmp 2)), none, []⟩, ⟨(some 64), (.len (.tmp 63)), none, []⟩, ⟨(some 65), (.mov (.const (.int .i64 0))), none, []⟩]) (.block 2 (some ⟨[], [], [27, 56]⟩) (.loop dk57_1 db57_1))) (.seq (.ops false [⟨(some 6), (.mov (.const (.int .i64 0))), none, []⟩]) .ret)))))))⟩
theorem dh57 : cProg Go.Proofs.Tryz.prog ⟨[(0, ⟨[], [1, 2, 7, 9, 32, 33, 34], [27]⟩), (2, ⟨[], [1, 2, 7, 63, 64, 65], [27, 56]⟩)], [(0, ⟨[], [1, 2, 7], [27]⟩), (2, ⟨[], [], [27, 56]⟩)], [27, 56]⟩ 57 = some dc57 := by kernel_rfl
def db58_0 : DC := (.seq (.seq (.ops false [⟨(some 22), (.mov (.tmp 6)), none, []⟩, ⟨(some 23), (.bin .add (.tmp 22) (.const (.int .i64 1))), none, []⟩, ⟨(some 24), (.mov (.tmp 0)), none, []⟩, ⟨(some 25), (.len (.tmp 24)), none, []⟩, ⟨(some 26), (.bin .lss (.tmp 23) (.tmp 25)), none, []⟩, ⟨(some 27), (.mov (.tmp 26)), none, []⟩, ⟨(some 28), (.mov (.tmp 6)), (some (27, true)), []⟩, ⟨(some 29), (.bin .add (.tmp 28) (.const (.int .i64 1))), (some (27, true)), []⟩, ⟨(some 30), (.mov (.tmp 0)), (some (27, true)), []⟩, ⟨(some 31), (.mov (.tmp 6)), (some (27, true)), []⟩, ⟨(some 32), (.bin .add (.tmp 31) (.const (.int .i64 1))), (some (27, true)), []⟩, ⟨(some 33), (.iaddr 1 (.tmp 30) (.tmp 32)), (some (27, true)), []⟩, ⟨(some 34), (.load none (.tmp 33)), (some (27, true)), []⟩, ⟨(some 35), (.bin .mul (.tmp 29) (.tmp 34)), (some (27, true)), []⟩, ⟨(some 36), (.mov (.tmp 5)), (some (27, true)), []⟩, ⟨(some 37), (.bin .eql (.tmp 35) (.tmp 36)), (some (27, true)), []⟩, ⟨(some 38), (.pick (.tmp 27) (.tmp 37) (.const (.bool false))), none, []⟩]) (.cond (.tmp 38) .skip (.exit 2))) (.block 3 none (.ops false [⟨(some 39), (.mov (.tmp 6)), none, []⟩, ⟨(some 40), (.bin .add (.tmp 39) (.const (.int .i64 1))), none, []⟩, ⟨(some 6), (.mov (.tmp 40)), none, []⟩])))
def dk58_0 : Keep := ⟨[], [0, 3, 4, 5, 6], [3, 87, 88]⟩
def db58_1 : DC := (.seq (.seq (.ops false [⟨(some 9), (.mov (.tmp 4)), none, []⟩, ⟨(some 10), (.mov (.tmp 0)), none, []⟩, ⟨(some 11), (.len (.tmp 10)), none, []⟩, ⟨(some 12), (.bin .lss (.tmp 9) (.tmp 11)), none, []⟩]) (.cond (.tmp 12) .skip (.exit 0))) (.seq (.block 1 (some ⟨[], [0, 3, 4], [3]⟩) (.seq (.ops false [⟨(some 15), (.mov (.tmp 4)), none, []⟩, ⟨(some 16), (.mov (.tmp 0)), none, []⟩, ⟨(some 17), (.mov (.tmp 4)), none, []⟩, ⟨(some 18), (.iaddr 1 (.tmp 16) (.tmp 17)), none, []⟩, ⟨(some 19), (.load none (.tmp 18)), none, []⟩, ⟨(some 20), (.bin .mul (.tmp 15) (.tmp 19)), none, []⟩, ⟨(some 5), (.mov (.tmp 20)), none, []⟩]) (.seq (.ops false [⟨(some 21), (.mov (.tmp 4)), none, []⟩, ⟨(some 6), (.mov (.tmp 21)), none, []⟩]) (.seq (.block 2 (some ⟨[], [0, 3, 4, 5, 6], [3, 87, 88]⟩) (.loop dk58_0 db58_0)) (.seq (.ops false [⟨(some 41), (.mov (.tmp 4)), none, []⟩, ⟨(some 42), (.bin .eql (.tmp 41) (.const (.int .i64 0))), none, []⟩, ⟨(some 43), (.mov (.tmp 42)), none, []⟩, ⟨(some 44), (.mov (.tmp 4)), (some (43, false)), []⟩, ⟨(some 45), (.bin .sub (.tmp 44) (.const (.int .i64 1))), (some (43, false)), []⟩, ⟨(some 46), (.mov (.tmp 0)), (some (43, false)), []⟩, ⟨(some 47), (.mov (.tmp 4)), (some (43, false)), []⟩, ⟨(some 48), (.bin .sub (.tmp 47) (.const (.int .i64 1))), (some (43, false)), []⟩, ⟨(some 49), (.minmax true (.const (.int .i64 0)) [(.tmp 48)]), (some (43, false)), []⟩, ⟨(some 50), (.iaddr 1 (.tmp 46) (.tmp 49)), (some (43, false)), []⟩, ⟨(some 51), (.load none (.tmp 50)), (some (43, false)), []⟩, ⟨(some 52), (.bin .mul (.tmp 45) (.tmp 51)), (some (43, false)), []⟩, ⟨(some 53), (.mov (.tmp 5)), (some (43, false)), []⟩, ⟨(some 54), (.bin .lss (.tmp 52) (.tmp 53)), (some (43, false)), []⟩, ⟨(some 55), (.pick (.tmp 43) (.const (.bool true)) (.tmp 54)), none, []⟩, ⟨(some 7), (.mov (.tmp 55)), none, []⟩]) (.seq (.ops false [⟨(some 56), (.mov (.tmp 6)), none, []⟩, ⟨(some 57), (.bin .add (.tmp 56) (.const (.int .i64 1))), none, []⟩, ⟨(some 58), (.mov (.tmp 0)), none, []⟩, ⟨(some 59), (.len (.tmp 58)), none, []⟩, ⟨(some 60), (.bin .eql (.tmp 57) (.tmp 59)), none, []⟩, ⟨(some 61), (.mov (.tmp 60)), none, []⟩, ⟨(some 62), (.mov (.tmp 6)), (some (61, false)), []⟩, ⟨(some 63), (.bin .add (.tmp 62) (.const (.int .i64 1))), (some (61, false)), []⟩, ⟨(some 64), (.mov (.tmp 0)), (some (61, false)), []⟩, ⟨(some 65), (.mov (.tmp 0)), (some (61, false)), []⟩, ⟨(some 66), (.len (.tmp 65)), (some (61, false)), []⟩, ⟨(some 67), (.bin .sub (.tmp 66) (.const (.int .i64 1))), (some (61, false)), []⟩, ⟨(some 68), (.mov (.tmp 6)), (some (61, false)), []⟩, ⟨(some 69), (.bin .add (.tmp 68) (.const (.int .i64 1))), (some (61, false)), []⟩, ⟨(some 70), (.minmax false (.tmp 67) [(.tmp 69)]), (some (61, false)), []⟩, ⟨(some 71), (.iaddr 1 (.tmp 64) (.tmp 70)), (some (61, false)), []⟩, ⟨(some 72), (.load none (.tmp 71)), (some (61, false)), []⟩, ⟨(some 73), (.bin .mul (.tmp 63) (.tmp 72)), (some (61, false)), []⟩, ⟨(some 74), (.mov (.tmp 5)), (some (61, false)), []⟩, ⟨(some 75), (.bin .lss (.tmp 73) (.tmp 74)), (some (61, false)), []⟩, ⟨(some 76), (.pick (.tmp 61) (.const (.bool true)) (.tmp 75)), none, []⟩, ⟨(some 8), (.mov (.tmp 76)), none, []⟩]) (.seq (.ops false [⟨(some 77), (.mov (.tmp 5)), none, []⟩, ⟨(some 78), (.bin .gtr (.tmp 77) (.const (.int .i64 0))), none, []⟩, ⟨(some 79), (.mov (.tmp 78)), none, []⟩, ⟨(some 80), (.mov (.tmp 7)), (some (79, true)), []⟩, ⟨(some 81), (.pick (.tmp 79) (.tmp 80) (.const (.bool false))), none, []⟩, ⟨(some 82), (.mov (.tmp 81)), none, []⟩, ⟨(some 83), (.mov (.tmp 8)), (some (82, true)), []⟩, ⟨(some 84), (.pick (.tmp 82) (.tmp 83) (.const (.bool false))), none, []⟩]) (.cond (.tmp 84) (.ops false [⟨(some 85), (.mov (.tmp 3)), none, []⟩, ⟨(some 86), (.mov (.tmp 4)), none, []⟩, ⟨(some 87), (.lit true 1 1 (.int .i64 0) [(0, (.tmp 86))]), none, []⟩, ⟨(some 88), (.append false 1 (.tmp 85) (.tmp 87)), none, []⟩, ⟨(some 3), (.mov (.tmp 88)), none, []⟩]) .skip)))))))) (.ops false [⟨(some 13), (.mov (.tmp 4)), none, []⟩, ⟨(some 14), (.bin .add (.tmp 13) (.const (.int .i64 1))), none, []⟩, ⟨(some 4), (.mov (.tmp 14)), none, []⟩])))
def dk58_1 : Keep := ⟨[(3, 1)], [0, 3, 4], [3]⟩
def dc58 : DFunc := ⟨90, 1, [(.tmp 2)], (.seq (.ops false [⟨(some 2), (.mov (.const (.slice none 0 0))), none, []⟩]) (.seq (.ops false [⟨(some 3), (.mov (.const (.slice none 0 0))), none, []⟩]) (.seq (.seq (.ops false [⟨(some 4), (.mov (.const (.int .i64 0))), none, []⟩]) (.block 0 (some ⟨[], [3], [3]⟩) (.loop dk58_1 db58_1))) (.seq (.ops false [⟨(some 89), (.mov (.tmp 3)), none, []⟩, ⟨(some 2), (.mov (.tmp 89)), none, []⟩]) .ret))))⟩
theorem dh58 : cProg Go.Proofs.Tryz.prog ⟨[(0, ⟨[(3, 1)], [0, 3, 4], [3]⟩), (2, ⟨[], [0, 3, 4, 5, 6], [3, 87, 88]⟩)], [(2, ⟨[], [0, 3, 4, 5, 6], [3, 87, 88]⟩), (1, ⟨[], [0, 3, 4], [3]⟩), (0, ⟨[], [3], [3]⟩)], [87]⟩ 58 = some dc58 := by kernel_rfl
def db59_0 : DC := (.seq (.seq (.ops false [⟨(some 31), (.mov (.tmp 9)), none, []⟩, ⟨(some 32), (.mov (.tmp 6)), none, []⟩, ⟨(some 33), (.bin .leq (.tmp 31) (.tmp 32)), none, []⟩]) (.cond (.tmp 33) .skip (.exit 2))) (.seq (.block 3 none (.seq (.ops false [⟨(some 36), (.mov (.tmp 0)), none, []⟩, ⟨(some 37), (.mov (.tmp 7)), none, []⟩, ⟨(some 38), (.iaddr 1 (.tmp 36) (.tmp 37)), none, []⟩, ⟨(some 39), (.load none (.tmp 38)), none, []⟩, ⟨(some 40), (.mov (.tmp 9)), none, []⟩, ⟨(some 41), (.bin .sub (.tmp 40) (.const (.int .i64 1))), none, []⟩, ⟨(some 42), (.bin .mul (.tmp 39) (.tmp 41)), none, []⟩, ⟨(some 43), (.mov (.tmp 4)), none, []⟩, ⟨(some 44), (.bin .leq (.tmp 42) (.tmp 43)), none, []⟩]) (.cond (.tmp 44) (.ops false [⟨(some 45), (.mov (.tmp 9)), none, []⟩, ⟨(some 8), (.mov (.tmp 45)), none, []⟩]) .skip))) (.ops false [⟨(some 34), (.mov (.tmp 9)), none, []⟩, ⟨(some 35), (.bin .add (.tmp 34) (.const (.int .i64 1))), none, []⟩, ⟨(some 9), (.mov (.tmp 35)), none, []⟩])))
def dk59_0 : Keep := ⟨[], [0, 4, 5, 6, 7, 8, 9], [5, 15, 48, 49]⟩
def db59_1 : DC := (.seq (.seq (.ops false [⟨(some 19), (.mov (.tmp 0)), none, []⟩, ⟨(some 20), (.mov (.tmp 7)), none, []⟩, ⟨(some 21), (.iaddr 1 (.tmp 19) (.tmp 20)), none, []⟩, ⟨(some 22), (.load none (.tmp 21)), none, []⟩, ⟨(some 23), (.mov (.tmp 6)), none, []⟩, ⟨(some 24), (.bin .mul (.tmp 22) (.tmp 23)), none, []⟩, ⟨(some 25), (.mov (.tmp 4)), none, []⟩, ⟨(some 26), (.bin .gtr (.tmp 24) (.tmp 25)), none, []⟩]) (.cond (.tmp 26) .skip (.exit 0))) (.block 1 (some ⟨[], [0, 4, 5, 6, 7], [5, 15]⟩) (.seq (.ops false [⟨(some 27), (.mov (.tmp 7)), none, []⟩, ⟨(some 28), (.bin .add (.tmp 27) (.const (.int .i64 1))), none, []⟩, ⟨(some 8), (.mov (.tmp 28)), none, []⟩]) (.seq (.seq (.ops false [⟨(some 29), (.mov (.tmp 7)), none, []⟩, ⟨(some 30), (.bin .add (.tmp 29) (.const (.int .i64 1))), none, []⟩, ⟨(some 9), (.mov (.tmp 30)), none, []⟩]) (.block 2 (some ⟨[], [0, 4, 5, 6, 8], [5, 15, 48, 49]⟩) (.loop dk59_0 db59_0))) (.seq (.ops false [⟨(some 46), (.mov (.tmp 5)), none, []⟩, ⟨(some 47), (.mov (.tmp 8)), none, []⟩, ⟨(some 48), (.lit true 1 1 (.int .i64 0) [(0, (.tmp 47))]), none, []⟩, ⟨(some 49), (.append false 1 (.tmp 46) (.tmp 48)), none, []⟩, ⟨(some 5), (.mov (.tmp 49)), none, []⟩]) (.ops false [⟨(some 50), (.mov (.tmp 8)), none, []⟩, ⟨(some 7), (.mov (.tmp 50)), none, []⟩]))))))
def dk59_1 : Keep := ⟨[(5, 1)], [0, 4, 5, 6, 7], [5, 15]⟩
def dc59 : DFunc := ⟨52, 1, [(.tmp 2)], (.seq (.ops false [⟨(some 2), (.mov (.const (.slice none 0 0))), none, []⟩]) (.seq (.ops false [⟨(some 11), (.mov (.tmp 0)), none, []⟩, ⟨(some 12), (.call (.func 60) [(.tmp 11)]), none, []⟩, ⟨(some 10), (.mov (.tmp 12)), none, []⟩, ⟨(some 13), (.extract (.tmp 10) 0), none, []⟩, ⟨(some 14), (.extract (.tmp 10) 1), none, []⟩, ⟨(some 3), (.mov (.tmp 13)), none, []⟩, ⟨(some 4), (.mov (.tmp 14)), none, []⟩]) (.seq (.ops false [⟨(some 15), (.lit false 1 1 (.int .i64 0) [(0, (.const (.int .i64 0)))]), none, []⟩, ⟨(some 5), (.mov (.tmp 15)), none, []⟩]) (.seq (.ops false [⟨(some 16), (.mov (.tmp 0)), none, []⟩, ⟨(some 17), (.len (.tmp 16)), none, []⟩, ⟨(some 18), (.bin .sub (.tmp 17) (.const (.int .i64 1))), none, []⟩, ⟨(some 6), (.mov (.tmp 18)), none, []⟩]) (.seq (.seq (.ops false [⟨(some 7), (.mov (.const (.int .i64 0))), none, []⟩]) (.block 0 (some ⟨[], [5], [5, 15]⟩) (.loop dk59_1 db59_1))) (.seq (.ops false [⟨(some 51), (.mov (.tmp 5)), none, []⟩, ⟨(some 2), (.mov (.tmp 51)), none, []⟩]) .ret))))))⟩
theorem dh59 : cProg Go.Proofs.Tryz.prog ⟨[(0, ⟨[(5, 1)], [0, 4, 5, 6, 7], [5, 15]⟩), (2, ⟨[], [0, 4, 5, 6, 7, 8, 9], [5, 15, 48, 49]⟩)], [(2, ⟨[], [0, 4, 5, 6, 8], [5, 15, 48, 49]⟩), (1, ⟨[], [0, 4, 5, 6, 7], [5, 15]⟩), (0, ⟨[], [5], [5, 15]⟩)], [48]⟩ 59 = some dc59 := by kernel_rfl
def db60_0 : DC := (.seq (.seq (.ops false [⟨(some 6), (.mov (.tmp 5)), none, []⟩, ⟨(some 7), (.mov (.tmp 0)), none, []⟩, ⟨(some 8), (.len (.tmp 7)), none, []⟩, ⟨(some 9), (.bin .lss (.tmp 6) (.tmp 8)), none, []⟩]) (.cond (.tmp 9) .skip (.exit 0))) (.seq (.block 1 none (.seq (.ops true [⟨(some 12), (.mov (.tmp 5)), none, []⟩, ⟨(some 13), (.mov (.tmp 0)), none, []⟩, ⟨(some 14), (.mov (.tmp 5)), none, []⟩, ⟨(some 15), (.iaddr 1 (.tmp 13) (.tmp 14)), none, [1, 2]⟩, ⟨(some 16), (.load none (.tmp 15)), none, [3, 1, 2]⟩, ⟨(some 17), (.bin .mul (.tmp 12) (.tmp 16)), none, [0, 4, 3, 1, 2]⟩, ⟨(some 18), (.mov (.tmp 4)), none, []⟩, ⟨(some 19), (.mov (.tmp 0)), none, []⟩, ⟨(some 20), (.mov (.tmp 4)), none, []⟩, ⟨(some 21), (.iaddr 1 (.tmp 19) (.tmp 20)), none, [7, 8]⟩, ⟨(some 22), (.load none (.tmp 21)), none, [9, 7, 8]⟩, ⟨(some 23), (.bin .mul (.tmp 18) (.tmp 22)), none, [6, 10, 9, 7, 8]⟩, ⟨(some 24), (.bin .gtr (.tmp 17) (.tmp 23)), none, [5, 0, 4, 3, 1, 2, 11, 6, 10, 9, 7, 8]⟩]) (.cond (.tmp 24) (.ops false [⟨(some 25), (.mov (.tmp 5)), none, []⟩, ⟨(some 4), (.mov (.tmp 25)), none, []⟩]) .skip))) (.ops false [⟨(some 10), (.mov (.tmp 5)), none, []⟩, ⟨(some 11), (.bin .add (.tmp 10) (.const (.int .i64 1))), none, []⟩, ⟨(some 5), (.mov (.tmp 11)), none, []⟩])))
def dk60_0 : Keep := ⟨[], [0, 4, 5], []⟩
def dc60 : DFunc := ⟨33, 1, [(.tmp 2), (.tmp 3)], (.seq (.ops false [⟨(some 2), (.mov (.const (.int .i64 0))), none, []⟩, ⟨(some 3), (.mov (.const (.int .i64 0))), none, []⟩]) (.seq (.ops false [⟨(some 4), (.mov (.const (.int .i64 0))), none, []⟩]) (.seq (.seq (.ops false [⟨(some 5), (.mov (.const (.int .i64 0))), none, []⟩]) (.block 0 (some ⟨[], [0, 4], []⟩) (.loop dk60_0 db60_0))) (.seq (.ops true [⟨(some 26), (.mov (.tmp 4)), none, []⟩, ⟨(some 27), (.mov (.tmp 4)), none, []⟩, ⟨(some 28), (.mov (.tmp 0)), none, []⟩, ⟨(some 29), (.mov (.tmp 4)), none, []⟩, ⟨(some 30), (.iaddr 1 (.tmp 28) (.tmp 29)), none, [2, 3]⟩, ⟨(some 31), (.load none (.tmp 30)), none, [4, 2, 3]⟩, ⟨(some 32), (.bin .mul (.tmp 27) (.tmp 31)), none, [1, 5, 4, 2, 3]⟩, ⟨(some 2), (.mov (.tmp 26)), none, [0]⟩, ⟨(some 3), (.mov (.tmp 32)), none, [6, 1, 5, 4, 2, 3, 7, 0]⟩]) .ret))))⟩
theorem dh60 : cProg Go.Proofs.Tryz.prog ⟨[(0, ⟨[], [0, 4, 5], []⟩)], [(0, ⟨[], [0, 4], []⟩)], []⟩ 60 = some dc60 := by kernel_rfl
def db61_0 : DC := (.seq (.seq (.ops false [⟨(some 21), (.mov (.tmp 6)), none, []⟩, ⟨(some 22), (.mov (.tmp 1)), none, []⟩, ⟨(some 23), (.len (.tmp 22)), none, []⟩, ⟨(some 24), (.bin .lss (.tmp 21) (.tmp 23)), none, []⟩]) (.cond (.tmp 24) .skip (.exit 0))) (.seq (.block 1 none (.seq (.seq (.ops false [⟨(some 27), (.mov (.tmp 1)), none, []⟩, ⟨(some 28), (.mov (.tmp 6)), none, []⟩, ⟨(some 29), (.iaddr 1 (.tmp 27) (.tmp 28)), none, []⟩, ⟨(some 30), (.load none (.tmp 29)), none, []⟩, ⟨(some 31), (.mov (.tmp 0)), none, []⟩, ⟨(some 32), (.len (.tmp 31)), none, []⟩, ⟨(some 33), (.bin .sub (.tmp 32) (.const (.int .i64 1))), none, []⟩, ⟨(some 34), (.call (.func 52) [(.tmp 30), (.const (.int .i64 0)), (.tmp 33)]), none, []⟩, ⟨(some 7), (.mov (.tmp 34)), none, []⟩]) (.seq (.ops false [⟨(some 35), (.mov (.tmp 7)), none, []⟩, ⟨(some 36), (.bin .neq (.tmp 35) (.const (.int .i64 0))), none, []⟩]) (.cond (.tmp 36) (.seq (.ops false [⟨(some 37), (.mov (.tmp 7)), none, []⟩, ⟨(some 4), (.mov (.tmp 37)), none, []⟩]) .ret) .skip))) (.seq (.ops true [⟨(some 38), (.mov (.tmp 6)), none, []⟩, ⟨(some 39), (.bin .eql (.tmp 38) (.const (.int .i64 0))), none, [0]⟩, ⟨(some 40), (.mov (.tmp 39)), none, [1, 0]⟩, ⟨(some 41), (.mov (.tmp 1)), (some (40, true)), [2, 1, 0]⟩, ⟨(some 42), (.mov (.tmp 6)), (some (40, true)), [2, 1, 0]⟩, ⟨(some 43), (.iaddr 1 (.tmp 41) (.tmp 42)), (some (40, true)), [3, 2, 1, 0, 4]⟩, ⟨(some 44), (.load none (.tmp 43)), (some (40, true)), [5, 3, 2, 1, 0, 4]⟩, ⟨(some 45), (.bin .neq (.tmp 44) (.const (.int .i64 0))), (some (40, true)), [6, 5, 3, 2, 1, 0, 4]⟩, ⟨(some 46), (.pick (.tmp 40) (.tmp 45) (.const (.bool false))), none, [2, 1, 0, 7, 6, 5, 3, 4]⟩, ⟨(some 47), (.mov (.tmp 46)), none, [8, 2, 1, 0, 7, 6, 5, 3, 4]⟩, ⟨(some 48), (.mov (.tmp 6)), (some (47, false)), [9, 8, 2, 1, 0, 7, 6, 5, 3, 4]⟩, ⟨(some 49), (.bin .gtr (.tmp 48) (.const (.int .i64 0))), (some (47, false)), [10, 9, 8, 2, 1, 0, 7, 6, 5, 3, 4]⟩, ⟨(some 50), (.mov (.tmp 49)), (some (47, false)), [11, 10, 9, 8, 2, 1, 0, 7, 6, 5, 3, 4]⟩, ⟨(some 51), (.mov (.tmp 1)), (some (50, true)), [12, 11, 10, 9, 8, 2, 1, 0, 7, 6, 5, 3, 4]⟩, ⟨(some 52), (.mov (.tmp 6)), (some (50, true)), [12, 11, 10, 9, 8, 2, 1, 0, 7, 6, 5, 3, 4]⟩, ⟨(some 53), (.iaddr 1 (.tmp 51) (.tmp 52)), (some (50, true)), [13, 12, 11, 10, 9, 8, 2, 1, 0, 7, 6, 5, 3, 4, 14]⟩, ⟨(some 54), (.load none (.tmp 53)), (some (50, true)), [15, 13, 12, 11, 10, 9, 8, 2, 1, 0, 7, 6, 5, 3, 4, 14]⟩, ⟨(some 55), (.mov (.tmp 1)), (some (50, true)), [12, 11, 10, 9, 8, 2, 1, 0, 7, 6, 5, 3, 4]⟩, ⟨(some 56), (.mov (.tmp 6)), (some (50, true)), [12, 11, 10, 9, 8, 2, 1, 0, 7, 6, 5, 3, 4]⟩, ⟨(some 57), (.bin .sub (.tmp 56) (.const (.int .i64 1))), (some (50, true)), [18, 12, 11, 10, 9, 8, 2, 1, 0, 7, 6, 5, 3, 4]⟩, ⟨(some 58), (.iaddr 1 (.tmp 55) (.tmp 57)), (some (50, true)), [17, 12, 11, 10, 9, 8, 2, 1, 0, 7, 6, 5, 3, 4, 19, 18]⟩, ⟨(some 59), (.load none (.tmp 58)), (some (50, true)), [20, 17, 12, 11, 10, 9, 8, 2, 1, 0, 7, 6, 5, 3, 4, 19, 18]⟩, ⟨(some 60), (.bin .leq (.tmp 54) (.tmp 59)), (some (50, true)), [16, 15, 13, 12, 11, 10, 9, 8, 2, 1, 0, 7, 6, 5, 3, 4, 14, 21, 20, 17, 19, 18]⟩, ⟨(some 61), (.pick (.tmp 50) (.tmp 60) (.const (.bool false))), (some (47, false)), [12, 11, 10, 9, 8, 2, 1, 0, 7, 6, 5, 3, 4, 22, 16, 15, 13, 14, 21, 20, 17, 19, 18]⟩, ⟨(some 62), (.pick (.tmp 47) (.const (.bool true)) (.tmp 61)), none, [9, 8, 2, 1, 0, 7, 6, 5, 3, 4, 23, 12, 11, 10, 22, 16, 15, 13, 14, 21, 20, 17, 19, 18]⟩]) (.cond (.tmp 62) (.seq (.ops false [⟨(some 4), (.mov (.const (.int .i64 11))), none, []⟩]) .ret) .skip)))) (.ops false [⟨(some 25), (.mov (.tmp 6)), none, []⟩, ⟨(some 26), (.bin .add (.tmp 25) (.const (.int .i64 1))), none, []⟩, ⟨(some 6), (.mov (.tmp 26)), none, []⟩])))
def dk61_0 : Keep := ⟨[], [0, 1, 6], [16]⟩
def dc61 : DFunc := ⟨63, 2, [(.tmp 4)], (.seq (.ops false [⟨(some 4), (.mov (.const (.int .i64 0))), none, []⟩]) (.seq (.seq (.ops false [⟨(some 8), (.mov (.tmp 1)), none, []⟩, ⟨(some 9), (.len (.tmp 8)), none, []⟩, ⟨(some 10), (.bin .eql (.tmp 9) (.const (.int .i64 0))), none, []⟩, ⟨(some 11), (.call (.func 62) [(.tmp 10), (.const (.int .i64 12))]), none, []⟩, ⟨(some 12), (.mov (.tmp 1)), none, []⟩, ⟨(some 13), (.len (.tmp 12)), none, []⟩, ⟨(some 14), (.bin .gtr (.tmp 13) (.const (.int .i64 801))), none, []⟩, ⟨(some 15), (.call (.func 62) [(.tmp 14), (.const (.int .i64 5))]), none, []⟩, ⟨(some 16), (.lit true 1 2 (.int .i64 0) [(0, (.tmp 11)), (1, (.tmp 15))]), none, []⟩, ⟨(some 17), (.call (.func 83) [(.tmp 16)]), none, []⟩, ⟨(some 5), (.mov (.tmp 17)), none, []⟩]) (.seq (.ops false [⟨(some 18), (.mov (.tmp 5)), none, []⟩, ⟨(some 19), (.bin .neq (.tmp 18) (.const (.int .i64 0))), none, []⟩]) (.cond (.tmp 19) (.seq (.ops false [⟨(some 20), (.mov (.tmp 5)), none, []⟩, ⟨(some 4), (.mov (.tmp 20)), none, []⟩]) .ret) .skip))) (.seq (.seq (.ops false [⟨(some 6), (.mov (.const (.int .i64 0))), none, []⟩]) (.block 0 (some ⟨[], [], [16]⟩) (.loop dk61_0 db61_0))) (.seq (.ops false [⟨(some 4), (.mov (.const (.int .i64 0))), none, []⟩]) .ret))))⟩
theorem dh61 : cProg Go.Proofs.Tryz.prog ⟨[(0, ⟨[], [0, 1, 6], [16]⟩)], [(0, ⟨[], [], [16]⟩)], [16]⟩ 61 = some dc61 := by kernel_rfl
def dc62 : DFunc := ⟨7, 2, [(.tmp 4)], (.seq (.ops false [⟨(some 4), (.mov (.const (.int .i64 0))), none, []⟩]) (.seq (.seq (.ops false [⟨(some 5), (.mov (.tmp 0)), none, []⟩]) (.cond (.tmp 5) (.seq (.ops false [⟨(some 6), (.mov (.tmp 1)), none, []⟩, ⟨(some 4), (.mov (.tmp 6)), none, []⟩]) .ret) .skip)) (.seq (.ops false [⟨(some 4), (.mov (.const (.int .i64 0))), none, []⟩]) .ret)))⟩
theorem dh62 : cProg Go.Proofs.Tryz.prog ⟨[], [], []⟩ 62 = some dc62 := by kernel_rfl
def db63_0 : DC := (.seq (.seq (.ops false [⟨(some 9), (.mov (.tmp 7)), none, []⟩, ⟨(some 10), (.mov (.tmp 2)), none, []⟩, ⟨(some 11), (.len (.tmp 10)), none, []⟩, ⟨(some 12), (.bin .lss (.tmp 9) (.tmp 11)), none, []⟩]) (.cond (.tmp 12) .skip (.exit 0))) (.seq (.block 1 none (.seq (.ops false [⟨(some 15), (.mov (.tmp 0)), none, []⟩, ⟨(some 16), (.len (.tmp 15)), none, []⟩, ⟨(some 17), (.bin .sub (.tmp 16) (.const (.int .i64 1))), none, []⟩, ⟨(some 8), (.mov (.tmp 17)), none, []⟩]) (.seq (.seq (.ops false [⟨(some 18), (.mov (.tmp 7)), none, []⟩, ⟨(some 19), (.bin .add (.tmp 18) (.const (.int .i64 1))), none, []⟩, ⟨(some 20), (.mov (.tmp 2)), none, []⟩, ⟨(some 21), (.len (.tmp 20)), none, []⟩, ⟨(some 22), (.bin .lss (.tmp 19) (.tmp 21)), none, []⟩]) (.cond (.tmp 22) (.ops false [⟨(some 23), (.mov (.tmp 2)), none, []⟩, ⟨(some 24), (.mov (.tmp 7)), none, []⟩, ⟨(some 25), (.bin .add (.tmp 24) (.const (.int .i64 1))), none, []⟩, ⟨(some 26), (.iaddr 1 (.tmp 23) (.tmp 25)), none, []⟩, ⟨(some 27), (.load none (.tmp 26)), none, []⟩, ⟨(some 28), (.bin .sub (.tmp 27) (.const (.int .i64 1))), none, []⟩, ⟨(some 8), (.mov (.tmp 28)), none, []⟩]) .skip)) (.seq (.ops false [⟨(some 29), (.mov (.tmp 0)), none, []⟩, ⟨(some 30), (.mov (.tmp 2)), none, []⟩, ⟨(some 31), (.mov (.tmp 7)), none, []⟩, ⟨(some 32), (.iaddr 1 (.tmp 30) (.tmp 31)), none, []⟩, ⟨(some 33), (.load none (.tmp 32)), none, []⟩, ⟨(some 34), (.iaddr 1 (.tmp 29) (.tmp 33)), none, []⟩, ⟨(some 35), (.load none (.tmp 34)), none, []⟩, ⟨(some 36), (.mov (.tmp 8)), none, []⟩, ⟨(some 37), (.bin .mul (.tmp 35) (.tmp 36)), none, []⟩, ⟨(some 38), (.mov (.tmp 1)), none, []⟩, ⟨(some 39), (.bin .gtr (.tmp 37) (.tmp 38)), none, []⟩]) (.cond (.tmp 39) (.seq (.ops false [⟨(some 6), (.mov (.const (.bool false))), none, []⟩]) .ret) .skip))))) (.ops false [⟨(some 13), (.mov (.tmp 7)), none, []⟩, ⟨(some 14), (.bin .add (.tmp 13) (.const (.int .i64 1))), none, []⟩, ⟨(some 7), (.mov (.tmp 14)), none, []⟩])))
def dk63_0 : Keep := ⟨[], [0, 1, 2, 7], []⟩
def dc63 : DFunc := ⟨40, 3, [(.tmp 6)], (.seq (.ops false [⟨(some 6), (.mov (.const (.bool false))), none, []⟩]) (.seq (.seq (.ops false [⟨(some 7), (.mov (.const (.int .i64 0))), none, []⟩]) (.block 0 (some ⟨[], [], []⟩) (.loop dk63_0 db63_0))) (.seq (.ops false [⟨(some 6), (.mov (.const (.bool true))), none, []⟩]) .ret)))⟩
theorem dh63 : cProg Go.Proofs.Tryz.prog ⟨[(0, ⟨[], [0, 1, 2, 7], []⟩)], [(0, ⟨[], [], []⟩)], []⟩ 63 = some dc63 := by kernel_rfl
end Sh
