/- What single operations come to: those that only compute. -/
import Derived.Test.YtcdhbdhonpddeaaDoorShSim
import Derived.ShutString
import Derived.Laws.Concat
import Derived.Deep.MidRow
import Derived.Laws.AppendOwn
import Derived.Laws.MakeOwn
set_option linter.unusedVariables false
namespace Sh
open Go
section
variable {M : Mem} {ρ : Locs} {h : Heap}

theorem RelV.inv_int {k : IntKind} {n : Int} {v : Value} (r : RelV M ρ h (.int k n) v) : v = .int k n := by
  cases r with | pure hp => cases hp; rfl
theorem RelV.inv_bool {b : Bool} {v : Value} (r : RelV M ρ h (.bool b) v) : v = .bool b := by
  cases r with | pure hp => cases hp; rfl
theorem RelV.inv_str {s : List UInt8} {v : Value} (r : RelV M ρ h (.str s) v) : v = .string ⟨s.toArray⟩ := by
  cases r with | pure hp => cases hp; rfl
theorem RelV.inv_agg {ds : List DV} {v : Value} (r : RelV M ρ h (.agg ds) v) : ∃ vs, v = .agg vs ∧ ds.length = vs.size ∧ ∀ i, i < ds.length → RelV M ρ h (ds.getD i .undef) (vs.getD i Go.undef) := by
  cases r with
  | pure hp => cases hp with | agg _ vs hl hr => exact ⟨vs, rfl, hl, fun i hi => .pure (hr i hi)⟩
  | agg _ vs hl hr => exact ⟨vs, rfl, hl, hr⟩
theorem RelV.inv_tuple {ds : List DV} {v : Value} (r : RelV M ρ h (.tuple ds) v) : ∃ vs, v = .tuple vs ∧ ds.length = vs.size ∧ ∀ i, i < ds.length → RelV M ρ h (ds.getD i .undef) (vs.getD i Go.undef) := by
  cases r with
  | pure hp => cases hp with | tuple _ vs hl hr => exact ⟨vs, rfl, hl, fun i hi => .pure (hr i hi)⟩
  | tuple _ vs hl hr => exact ⟨vs, rfl, hl, hr⟩
theorem RelV.inv_func {f : FuncId} {ds : List DV} {v : Value} (r : RelV M ρ h (.func f ds) v) : ∃ vs, v = .func (.func f) #[] vs ∧ ds.length = vs.size ∧ ∀ i, i < ds.length → RelV M ρ h (ds.getD i .undef) (vs.getD i Go.undef) := by
  cases r with
  | pure hp => cases hp with | func _ _ vs hl hr => exact ⟨vs, rfl, hl, fun i hi => .pure (hr i hi)⟩
  | func _ _ vs hl hr => exact ⟨vs, rfl, hl, hr⟩
theorem RelV.inv_list {l : List DV} {v : Value} (r : RelV M ρ h (.list l) v) : RelP M (.list l) v := by
  cases r with | pure hp => exact hp
theorem RelV.inv_full {l : List DV} {v : Value} (r : RelV M ρ h (.full l) v) : RelP M (.full l) v := by
  cases r with | pure hp => exact hp
theorem RelV.inv_ip {d : DV} {v : Value} (r : RelV M ρ h (.ip d) v) : RelP M (.ip d) v := by
  cases r with | pure hp => exact hp
theorem RelV.ofBox {n sz b c : Nat} {d : DV} (off : Nat) (hl : hlook h n = some (.box sz d) ∨ hlook h n = some (.fbox sz d)) (hρ : ρ n = some (b, c)) : RelV M ρ h (.bptr n off) (.pointer (some ⟨b, off, none⟩)) := by
  rcases hl with hl | hl
  · exact .bptr n off sz b c d hl hρ
  · exact .fptr n off sz b c d hl hρ

theorem RelV.inv_bptr {n off : Nat} {v : Value} (r : RelV M ρ h (.bptr n off) v) : ∃ (sz b c : Nat) (d : DV), v = .pointer (some ⟨b, off, none⟩) ∧ (hlook h n = some (.box sz d) ∨ hlook h n = some (.fbox sz d)) ∧ ρ n = some (b, c) := by
  cases r with
  | pure hp => cases hp
  | bptr _ _ sz b c d hl hρ => exact ⟨sz, b, c, d, rfl, .inl hl, hρ⟩
  | fptr _ _ sz b c d hl hρ => exact ⟨sz, b, c, d, rfl, .inr hl, hρ⟩

theorem RelV.inv_own {n off len tot sz : Nat} {es : List DV} {fr : Bool} {v : Value} (r : RelV M ρ h (.own n off len tot) v) (hl : hlook h n = some (.row sz es fr)) :
    tot ≤ es.length ∧ (tot = es.length → SliceIs (ρ n) sz off len tot v) := by
  cases r with
  | pure hp => cases hp
  | own _ _ _ _ sz' es' fr' _ hl' ht hs hv => rw [hl'] at hl; cases hl; exact ⟨ht, hv⟩
theorem RelV.inv_ptr {n i off tot sz : Nat} {es : List DV} {fr : Bool} {v : Value} (r : RelV M ρ h (.ptr n i off tot) v) (hl : hlook h n = some (.row sz es fr)) :
    tot ≤ es.length ∧ i < tot ∧ (tot = es.length → ∃ b c, ρ n = some (b, c) ∧ v = .pointer (some ⟨b, i * sz + off, none⟩)) := by
  cases r with
  | pure hp => cases hp
  | ptr _ _ _ _ sz' es' fr' _ hl' ht hi hs hv => rw [hl'] at hl; cases hl; exact ⟨ht, hi, hv⟩
end

theorem bsize (l : List UInt8) : (⟨l.toArray⟩ : ByteArray).size = l.length := by simp [ByteArray.size]

theorem kindEq_eq {j k : IntKind} (hk : kindEq j k = true) : j = k := by
  revert hk; cases j <;> cases k <;> simp [kindEq, kindNo]

/-- What an operation that is no call leaves. -/
def OpGoal (P : Program) (B : Base) (nt : Nat) (M0 : Mem) (w0 : World) (M : Mem) (ρ : Locs) (t : Tmps) (h : Heap) (a : Act) (w : World) (o : Oper) (d : DV) (u : Heap) : Prop :=
  ∃ (nx : Next) (v : Value) (w' : World) (M' : Mem) (ρ' : Locs), (execOp a.eval o).run P w = .ok nx w' ∧ (nx = .value v ∨ (nx = .skip ∧ v = Go.undef)) ∧
    Sim B nt M0 w0 M' ρ' t (u.reverse ++ h) a w' ∧ RelV M' ρ' (u.reverse ++ h) d v

section
variable {P : Program} {G : Nat → Option DV} {B : Base} {nt : Nat} {M0 : Mem} {w0 : World} {M : Mem} {ρ : Locs} {t : Tmps} {h : Heap} {a : Act} {w : World} {o : Oper}

/-- An operation that leaves the world as it is. -/
theorem OpGoal.same (S : Sim B nt M0 w0 M ρ t h a w) {d : DV} {v : Value} (hr : (execOp a.eval o).run P w = .ok (.value v) w) (hv : RelV M ρ h d v) : OpGoal P B nt M0 w0 M ρ t h a w o d [] :=
  ⟨_, v, w, M, ρ, hr, .inl rfl, S, hv⟩

variable (hG : GOk G M0) (S : Sim B nt M0 w0 M ρ t h a w)
include hG S

theorem op_mov (x : Operand) (ho : o.op = .move x ∨ o.op = .assign x) : OpGoal P B nt M0 w0 M ρ t h a w o (evalOpd G t x) [] := by
  refine OpGoal.same S (v := a.eval x) ?_ (S.opd hG x)
  rcases ho with ho | ho <;> simp [execOp, ho]

theorem op_pick (c x y : Operand) (b : Bool) (ho : o.op = .pick c x y) (hc : evalOpd G t c = .bool b) : OpGoal P B nt M0 w0 M ρ t h a w o (bif b then evalOpd G t x else evalOpd G t y) [] := by
  have h1 := S.opd hG c
  rw [hc] at h1
  have h2 := h1.inv_bool
  refine OpGoal.same S (v := if b then a.eval x else a.eval y) ?_ ?_
  · simp [execOp, ho, h2, asBool]
  · cases b
    · exact S.opd hG y
    · exact S.opd hG x

theorem op_extract (x : Operand) (i : Nat) (vs : List DV) (ho : o.op = .extract x i) (hx : evalOpd G t x = .tuple vs) (hi : i < vs.length) : OpGoal P B nt M0 w0 M ρ t h a w o (vs.getD i .undef) [] := by
  have h1 := S.opd hG x
  rw [hx] at h1
  obtain ⟨ws, e, hl, hr⟩ := h1.inv_tuple
  refine OpGoal.same S (v := ws.getD i Go.undef) ?_ (hr i hi)
  have hi' : i < ws.size := by omega
  simp [execOp, ho, e, Instr.extract, hi', Array.getD_eq_getD_getElem?]

theorem op_bin_int (op : BinOp) (ty ty' : TypeId) (x y : Operand) (k : IntKind) (m n : Int) (ho : o.op = .binOp op ty x y ty') (hx : evalOpd G t x = .int k m) (hy : evalOpd G t y = .int k n)
    (p : Option Prop) (d : DV) (u : Heap) (he : intBin op k m n = .ok p d u) (hp : ∀ q, p = some q → q) : OpGoal P B nt M0 w0 M ρ t h a w o d u := by
  have h1 := S.opd hG x; rw [hx] at h1
  have h2 := S.opd hG y; rw [hy] at h2
  have e1 := h1.inv_int
  have e2 := h2.inv_int
  unfold intBin at he
  split at he <;> first | (cases he; done) | skip
  all_goals
    simp only [Ev.ok.injEq] at he
    obtain ⟨rfl, rfl, rfl⟩ := he
  · refine OpGoal.same S (v := .int k (k.wrap (m + n))) ?_ (.pure (.int _ _)); simp [execOp, ho, e1, e2, eqGuard, binOp, Op.intArith]
  · refine OpGoal.same S (v := .int k (k.wrap (m - n))) ?_ (.pure (.int _ _)); simp [execOp, ho, e1, e2, eqGuard, binOp, Op.intArith]
  · refine OpGoal.same S (v := .int k (k.wrap (m * n))) ?_ (.pure (.int _ _)); simp [execOp, ho, e1, e2, eqGuard, binOp, Op.intArith]
  · have hz := hp _ rfl
    refine OpGoal.same S (v := .int k (k.wrap (m.tdiv n))) ?_ (.pure (.int _ _)); simp [execOp, ho, e1, e2, eqGuard, binOp, Op.intDiv, hz]
  · have hz := hp _ rfl
    refine OpGoal.same S (v := .int k (m.tmod n)) ?_ (.pure (.int _ _)); simp [execOp, ho, e1, e2, eqGuard, binOp, Op.intDiv, hz]
  · refine OpGoal.same S (v := .bool (decide (m = n))) ?_ (.pure (.bool _)); simp [execOp, ho, e1, e2, eqGuard, binOp, Op.intCmp]; rw [Bool.eq_iff_iff]; simp
  · refine OpGoal.same S (v := .bool (decide (m ≠ n))) ?_ (.pure (.bool _)); simp [execOp, ho, e1, e2, eqGuard, binOp, Op.intCmp]; rw [Bool.eq_iff_iff]; simp
  · refine OpGoal.same S (v := .bool (decide (m < n))) ?_ (.pure (.bool _)); simp [execOp, ho, e1, e2, eqGuard, binOp, Op.intCmp]
  · refine OpGoal.same S (v := .bool (decide (m ≤ n))) ?_ (.pure (.bool _)); simp [execOp, ho, e1, e2, eqGuard, binOp, Op.intCmp]
  · refine OpGoal.same S (v := .bool (decide (n < m))) ?_ (.pure (.bool _)); simp [execOp, ho, e1, e2, eqGuard, binOp, Op.intCmp]
  · refine OpGoal.same S (v := .bool (decide (n ≤ m))) ?_ (.pure (.bool _)); simp [execOp, ho, e1, e2, eqGuard, binOp, Op.intCmp]

theorem op_bin_str (op : BinOp) (ty ty' : TypeId) (x y : Operand) (m n : List UInt8) (ho : o.op = .binOp op ty x y ty') (hx : evalOpd G t x = .str m) (hy : evalOpd G t y = .str n)
    (p : Option Prop) (d : DV) (u : Heap) (he : strBin op m n = .ok p d u) (hp : ∀ q, p = some q → q) : OpGoal P B nt M0 w0 M ρ t h a w o d u := by
  have h1 := S.opd hG x; rw [hx] at h1
  have h2 := S.opd hG y; rw [hy] at h2
  have e1 := h1.inv_str
  have e2 := h2.inv_str
  have tl : ∀ s : List UInt8, (⟨s.toArray⟩ : ByteArray).toList = s := fun s => by
    exact ByteArray.toList_mk s
  have he1 : ∀ m n : List UInt8, (m == n) = decide (m = n) := fun m n => by rw [Bool.eq_iff_iff]; simp
  unfold strBin at he
  split at he <;> first | (cases he; done) | skip
  all_goals
    simp only [Ev.ok.injEq] at he
    obtain ⟨rfl, rfl, rfl⟩ := he
  · have hz := hp _ rfl
    have hs : ¬ (9223372036854775807 < ((m.length : Int) + (n.length : Int))) := by omega
    refine OpGoal.same S (v := .string ⟨(m ++ n).toArray⟩) ?_ (.pure (.str _))
    have hz' : ¬ (IntKind.i64.max < (((⟨m.toArray⟩ : ByteArray).size + (⟨n.toArray⟩ : ByteArray).size : Nat) : Int)) := by
      rw [bsize, bsize]
      have : IntKind.i64.max = 9223372036854775807 := by decide
      rw [this]; omega
    simp only [execOp, ho, e1, e2, eqGuard, binOp, Op.stringOp, Sem.run_bind, gt_iff_lt, hz', if_false, ByteArray.mk_append_mk]
    simp
  · refine OpGoal.same S (v := .bool (decide (m = n))) ?_ (.pure (.bool _))
    simp [execOp, ho, e1, e2, eqGuard, binOp, Op.stringOp, tl, he1]
  · refine OpGoal.same S (v := .bool (decide (m ≠ n))) ?_ (.pure (.bool _))
    simp [execOp, ho, e1, e2, eqGuard, binOp, Op.stringOp, tl, he1]
  · refine OpGoal.same S (v := .bool (Op.bytesLess m n)) ?_ (.pure (.bool _))
    simp [execOp, ho, e1, e2, eqGuard, binOp, Op.stringOp, tl]
end
end Sh
