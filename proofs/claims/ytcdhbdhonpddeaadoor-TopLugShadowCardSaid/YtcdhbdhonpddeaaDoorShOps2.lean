/- What single operations come to: parts of values. -/
import Derived.Test.YtcdhbdhonpddeaaDoorShOps1
set_option linter.unusedVariables false
set_option linter.unusedSectionVars false
namespace Sh
open Go

theorem getD_lt {α : Type} {l : List α} {i : Nat} (hi : i < l.length) (d : α) : l.getD i d = l[i] := by simp [List.getD_eq_getElem?_getD, hi]
theorem agetD_lt {α : Type} {l : Array α} {i : Nat} (hi : i < l.size) (d : α) : l.getD i d = l[i] := by simp [Array.getD_eq_getD_getElem?, hi]

theorem extract_getD (vs : Array Value) (off sz i : Nat) (hi : i < sz) (ho : off + sz ≤ vs.size) : (vs.extract off (off + sz)).getD i Go.undef = vs.getD (off + i) Go.undef := by
  have h1 : i < (vs.extract off (off + sz)).size := by simp; omega
  rw [agetD_lt h1, agetD_lt (by omega)]
  simp

theorem take_drop_getD {α : Type} (l : List α) (off sz i : Nat) (d : α) (hi : i < sz) : ((l.drop off).take sz).getD i d = l.getD (off + i) d := by
  simp [List.getD_eq_getElem?_getD, hi, List.getElem?_drop]

section
variable {P : Program} {G : Nat → Option DV} {B : Base} {nt : Nat} {M0 : Mem} {w0 : World} {M : Mem} {ρ : Locs} {t : Tmps} {h : Heap} {a : Act} {w : World} {o : Oper}

theorem isAgg_run {ty : TypeId} {b : Bool} (hb : isAggT P ty = some b) (w : World) : (isAgg ty).run P w = .ok b w := by
  unfold isAggT at hb
  unfold isAgg
  split at hb
  · rename_i fs e; cases hb; simp [run_underlying e]
  · rename_i n e' e; cases hb; simp [run_underlying e]
  · rename_i d h1 h2 e; cases hb
    rw [Sem.run_bind, run_underlying e]
    cases d with
    | struct fs => exact absurd rfl (h1 fs)
    | array n e' => exact absurd rfl (h2 n e')
    | _ => rfl
  · cases hb

theorem size_run {ty : TypeId} {n : Nat} (hs : sizeT P ty = some n) (w : World) : (Go.sizeOf ty).run P w = .ok n w := by
  unfold sizeT at hs
  cases hi : P.info? ty with
  | none => rw [hi] at hs; cases hs
  | some i => rw [hi] at hs; cases hs; simp [Go.sizeOf, typeInfo, hi]

/-- A part of an aggregate value. -/
theorem part_run {ty : TypeId} {agg : Bool} {sz off : Nat} {vs : Array Value} (ha : isAggT P ty = some agg) (hs : sizeT P ty = some sz) (h1 : agg = false → sz = 1) (ho : off + sz ≤ vs.size) (w : World) :
    (Go.part ty vs off).run P w = .ok (bif agg then .agg (vs.extract off (off + sz)) else vs.getD off Go.undef) w := by
  unfold Go.part
  rw [Sem.run_bind, isAgg_run ha, Result.andThen_ok]
  cases agg with
  | true => simp [size_run hs]
  | false =>
    have := h1 rfl; subst this
    have h2 : off < vs.size := by omega
    simp [h2, Array.getD_eq_getD_getElem?]

theorem part_rel {agg : Bool} {sz off : Nat} {cs : List DV} {vs : Array Value} (hl : cs.length = vs.size) (hr : ∀ i, i < cs.length → RelV M ρ h (cs.getD i .undef) (vs.getD i Go.undef))
    (h1 : agg = false → sz = 1) (ho : off + sz ≤ cs.length) : RelV M ρ h (part agg off sz cs) (bif agg then .agg (vs.extract off (off + sz)) else vs.getD off Go.undef) := by
  cases agg with
  | true =>
    refine .agg _ _ (by simp; omega) (fun i hi => ?_)
    have hi' : i < sz := by simp at hi; omega
    rw [take_drop_getD _ _ _ _ _ hi', extract_getD _ _ _ _ hi' (by omega)]
    exact hr _ (by omega)
  | false =>
    have := h1 rfl; subst this
    exact hr _ (by omega)

theorem fieldOf_spec {s : TypeId} {f off sz : Nat} {agg : Bool} (hf : fieldOf P s f = some (off, sz, agg)) :
    ∃ fs fd, P.underlying s = some (.struct fs) ∧ fs[f]? = some fd ∧ fd.offset = off ∧ sizeT P fd.type = some sz ∧ isAggT P fd.type = some agg ∧ sz ≠ 0 ∧ (agg = false → sz = 1) := by
  unfold fieldOf at hf
  split at hf
  · rename_i fs e
    split at hf
    · rename_i fd e2
      split at hf
      · rename_i s' a' e3 e4
        cases hc : (Nat.beq s' 0 || (!a' && !Nat.beq s' 1)) with
        | true => rw [hc] at hf; cases hf
        | false =>
          rw [hc] at hf
          simp only [cond_false, Option.some.injEq, Prod.mk.injEq] at hf
          obtain ⟨rfl, rfl, rfl⟩ := hf
          rw [natbeq, natbeq] at hc
          refine ⟨fs, fd, e, e2, rfl, e3, e4, ?_, ?_⟩
          · intro e5; subst e5; simp at hc
          · intro e5; subst e5; simp at hc; exact hc.2
      · cases hf
    · cases hf
  · cases hf

variable (hG : GOk G M0) (S : Sim B nt M0 w0 M ρ t h a w)
include hG S

theorem op_field (s : TypeId) (x : Operand) (f off sz : Nat) (agg : Bool) (cs : List DV) (ho : o.op = .field s x f) (hf : fieldOf P s f = some (off, sz, agg)) (hx : evalOpd G t x = .agg cs)
    (hb : off + sz ≤ cs.length) : OpGoal P B nt M0 w0 M ρ t h a w o (part agg off sz cs) [] := by
  obtain ⟨fs, fd, e1, e2, rfl, e4, e5, e6, e7⟩ := fieldOf_spec hf
  have h1 := S.opd hG x; rw [hx] at h1
  obtain ⟨vs, ev, hl, hr⟩ := h1.inv_agg
  refine OpGoal.same S ?_ (part_rel hl hr e7 hb)
  simp only [execOp, ho, Instr.field, Sem.run_bind, run_underlying e1, Result.andThen_ok, e2, ev, asAgg, Sem.run_pure, part_run e5 e4 e7 (show fd.offset + sz ≤ vs.size by omega)]

theorem op_indexA (ty e : TypeId) (x i : Operand) (len esz : Nat) (agg : Bool) (cs : List DV) (k : IntKind) (n : Int) (ho : o.op = .index ty x i) (ht : P.underlying ty = some (.array len e))
    (hs : sizeT P e = some esz) (ha : isAggT P e = some agg) (h1 : agg = false → esz = 1) (hx : evalOpd G t x = .agg cs) (hi : evalOpd G t i = .int k n) (hb : 0 ≤ n ∧ n < len ∧ cs.length = len * esz) :
    OpGoal P B nt M0 w0 M ρ t h a w o (part agg (n.toNat * esz) esz cs) [] := by
  have r1 := S.opd hG x; rw [hx] at r1
  obtain ⟨vs, ev, hl, hr⟩ := r1.inv_agg
  have r2 := S.opd hG i; rw [hi] at r2
  have ei := r2.inv_int
  obtain ⟨hb1, hb2, hb3⟩ := hb
  have hle : n.toNat * esz + esz ≤ cs.length := by
    rw [hb3, ← Nat.succ_mul]; exact Nat.mul_le_mul_right _ (by omega)
  refine OpGoal.same S ?_ (part_rel hl hr h1 hle)
  simp only [execOp, ho, Instr.index, ei, ev, asIntOf, Sem.run_bind, Sem.run_pure, Result.andThen_ok, run_underlying ht, hb1, hb2, and_self, if_true, size_run hs, part_run ha hs h1 (show n.toNat * esz + esz ≤ vs.size by omega)]

theorem op_un (op : UnOp) (ty : TypeId) (x : Operand) (d : DV) (p : Option Prop) (u : Heap) (ho : o.op = .unOp op ty x) (lk : Nat → Option DObj) (n : Nat) (he : evalOp (evalOpd G t) lk n (.un op x) = .ok p d u) :
    OpGoal P B nt M0 w0 M ρ t h a w o d u := by
  have r1 := S.opd hG x
  simp only [evalOp] at he
  split at he
  · rename_i k m e
    rw [e] at r1
    simp only [Ev.ok.injEq] at he; obtain ⟨rfl, rfl, rfl⟩ := he
    refine OpGoal.same S (v := .int k (k.wrap (-m))) ?_ (.pure (.int _ _))
    simp [execOp, ho, r1.inv_int, Op.unary, Op.intArith]
  · rename_i b e
    rw [e] at r1
    simp only [Ev.ok.injEq] at he; obtain ⟨rfl, rfl, rfl⟩ := he
    refine OpGoal.same S (v := .bool (!b)) ?_ (.pure (.bool _))
    simp [execOp, ho, r1.inv_bool, Op.unary]
  · cases he

theorem op_conv (sT dT : TypeId) (x : Operand) (j k k' : IntKind) (m : Int) (ho : o.op = .convert sT dT x) (hs : P.underlying sT = some (.int j)) (hd : P.underlying dT = some (.int k)) (hx : evalOpd G t x = .int k' m) :
    OpGoal P B nt M0 w0 M ρ t h a w o (.int k (k.wrap m)) [] := by
  have r1 := S.opd hG x; rw [hx] at r1
  refine OpGoal.same S (v := .int k (k.wrap m)) ?_ (.pure (.int _ _))
  simp [execOp, ho, convert, run_underlying hs, run_underlying hd, r1.inv_int, Conv.intToInt]

theorem op_same (sT dT : TypeId) (x : Operand) (s : List UInt8) (ho : o.op = .convert sT dT x) (hs : P.underlying sT = some .string) (hd : P.underlying dT = some .string) (hx : evalOpd G t x = .str s) :
    OpGoal P B nt M0 w0 M ρ t h a w o (.str s) [] := by
  have r1 := S.opd hG x; rw [hx] at r1
  refine OpGoal.same S (v := .string ⟨s.toArray⟩) ?_ (.pure (.str _))
  simp [execOp, ho, convert, run_underlying hs, run_underlying hd, r1.inv_str]

theorem op_mkfunc (f : FuncId) (first caps : Array Operand) (ho : o.op = .makeFunc (.func f) first caps) (hf : first.isEmpty = true) : OpGoal P B nt M0 w0 M ρ t h a w o (.func f (caps.toList.map (evalOpd G t))) [] := by
  have e : first = #[] := by simpa using hf
  subst e
  refine OpGoal.same S (v := .func (.func f) #[] (caps.map a.eval)) ?_ ?_
  · simp [execOp, ho, Instr.makeFunc]
  · refine .func _ _ _ (by simp) (fun i hi => ?_)
    have hi' : i < caps.size := by simpa using hi
    rw [getD_lt hi, agetD_lt (by simpa using hi')]
    simp only [List.getElem_map, Array.getElem_map, Array.getElem_toList]
    exact S.opd hG _

theorem op_indexS (ty : TypeId) (x i : Operand) (s : List UInt8) (k : IntKind) (n : Int) (ho : o.op = .index ty x i) (ht : P.underlying ty = some .string) (hx : evalOpd G t x = .str s) (hi : evalOpd G t i = .int k n)
    (hb : 0 ≤ n ∧ n < s.length) : OpGoal P B nt M0 w0 M ρ t h a w o (.int .u8 (s.getD n.toNat 0).toNat) [] := by
  have r1 := S.opd hG x; rw [hx] at r1
  have r2 := S.opd hG i; rw [hi] at r2
  have hlt : n.toNat < s.length := by omega
  have hg : (⟨s.toArray⟩ : ByteArray)[n.toNat]? = some s[n.toNat] := by
    have : n.toNat < (⟨s.toArray⟩ : ByteArray).size := by rw [bsize]; exact hlt
    rw [getElem?_pos (⟨s.toArray⟩ : ByteArray) n.toNat this]
    rfl
  refine OpGoal.same S (v := .int .u8 (s.getD n.toNat 0).toNat) ?_ (.pure (.int _ _))
  rw [getD_lt hlt]
  simp [execOp, ho, Instr.index, r1.inv_str, r2.inv_int, asIntOf, run_underlying ht, hb.1, hg]
end
end Sh
