/- Equality of aggregates. -/
import Derived.Test.YtcdhbdhonpddeaaDoorShOps2
import Derived.Laws.StructEq
import Derived.ChangeKeysEq
set_option linter.unusedVariables false
set_option linter.unusedSectionVars false
namespace Sh
open Go

theorem eqCells_append : ∀ (a b : List Nat) (cx cy : List DV) (r : Bool), eqCells (a ++ b) cx cy = some r →
    ∃ r1 r2, eqCells a (cx.take a.length) (cy.take a.length) = some r1 ∧ eqCells b (cx.drop a.length) (cy.drop a.length) = some r2 ∧ r = (r1 && r2) ∧ a.length ≤ cx.length ∧ a.length ≤ cy.length
  | [], b, cx, cy, r, h => ⟨true, r, by simp [eqCells], by simpa using h, by simp, by simp, by simp⟩
  | k :: a, b, cx, cy, r, h => by
    rw [List.cons_append] at h
    unfold eqCells at h
    split at h
    · rename_i heq; cases heq
    · rename_i ks j x rx k' y ry heq
      simp only [List.cons.injEq] at heq
      obtain ⟨rfl, rfl⟩ := heq
      split at h
      · rename_i e he
        obtain ⟨c1, h⟩ : kindEq j k' = true ∧ (decide (x = y) && e) = r := by cases hk : kindEq j k' <;> simp_all
        obtain ⟨r1, r2, h1, h2, h3, h4, h5⟩ := eqCells_append a b rx ry e he
        refine ⟨decide (x = y) && r1, r2, ?_, by simpa using h2, by rw [← h, h3, Bool.and_assoc], by simp; omega, by simp; omega⟩
        simp only [List.length_cons, List.take_succ_cons, eqCells, h1, c1, cond_true]
      · cases h
    · rename_i ks x rx y ry heq
      simp only [List.cons.injEq] at heq
      obtain ⟨rfl, rfl⟩ := heq
      split at h
      · rename_i e he
        simp only [Option.some.injEq] at h
        obtain ⟨r1, r2, h1, h2, h3, h4, h5⟩ := eqCells_append a b rx ry e he
        refine ⟨(x == y) && r1, r2, ?_, by simpa using h2, by rw [← h, h3, Bool.and_assoc], by simp; omega, by simp; omega⟩
        simp only [List.length_cons, List.take_succ_cons, eqCells, h1]
      · cases h
    · rename_i ks x rx y ry heq
      simp only [List.cons.injEq] at heq
      obtain ⟨rfl, rfl⟩ := heq
      split at h
      · rename_i e he
        simp only [Option.some.injEq] at h
        obtain ⟨r1, r2, h1, h2, h3, h4, h5⟩ := eqCells_append a b rx ry e he
        refine ⟨decide (x = y) && r1, r2, ?_, by simpa using h2, by rw [← h, h3, Bool.and_assoc], by simp; omega, by simp; omega⟩
        simp only [List.length_cons, List.take_succ_cons, eqCells, h1]
      · cases h
    · cases h

theorem eqCells_length : ∀ (a : List Nat) (cx cy : List DV) (r : Bool), eqCells a cx cy = some r → cx.length = a.length ∧ cy.length = a.length
  | [], cx, cy, r, h => by
    unfold eqCells at h
    split at h <;> first | (cases h; done) | simp_all
  | k :: a, cx, cy, r, h => by
    unfold eqCells at h
    split at h
    · rename_i heq; cases heq
    · rename_i heq
      simp only [List.cons.injEq] at heq
      obtain ⟨rfl, rfl⟩ := heq
      split at h
      · rename_i e he
        obtain ⟨h1, h2⟩ := eqCells_length a _ _ e he
        simp [h1, h2]
      · cases h
    · rename_i heq
      simp only [List.cons.injEq] at heq
      obtain ⟨rfl, rfl⟩ := heq
      split at h
      · rename_i e he
        obtain ⟨h1, h2⟩ := eqCells_length a _ _ e he
        simp [h1, h2]
      · cases h
    · rename_i heq
      simp only [List.cons.injEq] at heq
      obtain ⟨rfl, rfl⟩ := heq
      split at h
      · rename_i e he
        obtain ⟨h1, h2⟩ := eqCells_length a _ _ e he
        simp [h1, h2]
      · cases h
    · cases h

theorem eqCells_nil {cx cy : List DV} {r : Bool} (he : eqCells [] cx cy = some r) : cx = [] ∧ cy = [] ∧ r = true := by
  obtain ⟨h1, h2⟩ := eqCells_length _ _ _ _ he
  have e1 := List.length_eq_zero_iff.1 h1
  have e2 := List.length_eq_zero_iff.1 h2
  subst e1; subst e2
  exact ⟨rfl, rfl, by simpa [eqCells] using he.symm⟩

theorem eq_one0 {cx cy : List DV} {r : Bool} (h : eqCells [0] cx cy = some r) : ∃ a b, cx = [.bool a] ∧ cy = [.bool b] ∧ r = (a == b) := by
  unfold eqCells at h
  split at h
  · rename_i heq; cases heq
  · rename_i ks j a rx k b ry heq; simp at heq
  · rename_i ks a rx b ry heq
    simp only [List.cons.injEq, true_and] at heq; subst heq
    split at h
    · rename_i e he
      obtain ⟨rfl, rfl, rfl⟩ := eqCells_nil he
      exact ⟨a, b, rfl, rfl, by simpa using h.symm⟩
    · cases h
  · rename_i ks a rx b ry heq; simp at heq
  · cases h

theorem eq_one1 {cx cy : List DV} {r : Bool} (h : eqCells [1] cx cy = some r) : ∃ j a b, cx = [.int j a] ∧ cy = [.int j b] ∧ r = decide (a = b) := by
  unfold eqCells at h
  split at h
  · rename_i heq; cases heq
  · rename_i ks j a rx k b ry heq
    simp only [List.cons.injEq, true_and] at heq; subst heq
    split at h
    · rename_i e he
      obtain ⟨rfl, rfl, rfl⟩ := eqCells_nil he
      cases hk : kindEq j k with
      | false => rw [hk] at h; cases h
      | true =>
        rw [hk] at h
        have := kindEq_eq hk; subst this
        exact ⟨j, a, b, rfl, rfl, by simpa using h.symm⟩
    · cases h
  · rename_i ks a rx b ry heq; simp at heq
  · rename_i ks a rx b ry heq; simp at heq
  · cases h

theorem eq_one2 {cx cy : List DV} {r : Bool} (h : eqCells [2] cx cy = some r) : ∃ a b, cx = [.str a] ∧ cy = [.str b] ∧ r = decide (a = b) := by
  unfold eqCells at h
  split at h
  · rename_i heq; cases heq
  · rename_i ks j a rx k b ry heq; simp at heq
  · rename_i ks a rx b ry heq; simp at heq
  · rename_i ks a rx b ry heq
    simp only [List.cons.injEq, true_and] at heq; subst heq
    split at h
    · rename_i e he
      obtain ⟨rfl, rfl, rfl⟩ := eqCells_nil he
      exact ⟨a, b, rfl, rfl, by simpa using h.symm⟩
    · cases h
  · cases h

section
variable {P : Program} {M : Mem} {ρ : Locs} {h : Heap}

def valOf (agg : Bool) (sz off : Nat) (xs : Array Value) : Value := bif agg then .agg (xs.extract off (off + sz)) else xs.getD off Go.undef

def RelC (M : Mem) (ρ : Locs) (h : Heap) (cs : List DV) (xs : Array Value) (off : Nat) : Prop := off + cs.length ≤ xs.size ∧ ∀ i, i < cs.length → RelV M ρ h (cs.getD i .undef) (xs.getD (off + i) Go.undef)

theorem RelC.take {cs : List DV} {xs : Array Value} {off : Nat} (hr : RelC M ρ h cs xs off) (n : Nat) : RelC M ρ h (cs.take n) xs off :=
  ⟨by have := hr.1; simp; omega, fun i hi => by
    simp at hi
    have := hr.2 i (by omega)
    rwa [show (cs.take n).getD i .undef = cs.getD i .undef by rw [List.getD_eq_getElem?_getD, List.getElem?_take_of_lt (by omega), List.getD_eq_getElem?_getD]]⟩

theorem RelC.drop {cs : List DV} {xs : Array Value} {off : Nat} (hr : RelC M ρ h cs xs off) (n : Nat) (hn : n ≤ cs.length) : RelC M ρ h (cs.drop n) xs (off + n) :=
  ⟨by have := hr.1; simp; omega, fun i hi => by
    simp at hi
    have := hr.2 (n + i) (by omega)
    rwa [show (cs.drop n).getD i .undef = cs.getD (n + i) .undef by simp [List.getD_eq_getElem?_getD], show off + n + i = off + (n + i) by omega]⟩

theorem RelC.extract {cs : List DV} {xs : Array Value} {off : Nat} (hr : RelC M ρ h cs xs off) (sz : Nat) (hs : cs.length = sz) : RelC M ρ h cs (xs.extract off (off + sz)) 0 := by
  have := hr.1
  exact ⟨by simp; omega, fun i hi => by rw [Nat.zero_add, extract_getD _ _ _ _ (by omega) (by omega)]; exact hr.2 i hi⟩

/-- The comparison of parts. -/
def EqAt (P : Program) (M : Mem) (ρ : Locs) (h : Heap) (d : Nat) (e : TypeId) (agg : Bool) (s : List Nat) : Prop :=
  ∀ (xs ys : Array Value) (ox oy : Nat) (cx cy : List DV) (r : Bool) (w : World), RelC M ρ h cx xs ox → RelC M ρ h cy ys oy → eqCells s cx cy = some r → (Op.equalIn d e (valOf agg s.length ox xs) (valOf agg s.length oy ys)).run P w = .ok r w

theorem eq_fields {g : TypeId → Option (List Nat)} {d : Nat} (hg : ∀ e s agg, g e = some s → isAggT P e = some agg → (agg = false → s.length = 1) → EqAt P M ρ h d e agg s) :
    ∀ (fs : List Field) (off : Nat) (ks : List Nat), shapeFs P g fs off = some ks → ∀ (xs ys : Array Value) (cx cy : List DV) (r : Bool) (w : World), RelC M ρ h cx xs off → RelC M ρ h cy ys off → eqCells ks cx cy = some r →
      (Op.eqFields d xs ys fs).run P w = .ok r w
  | [], off, ks, hs, xs, ys, cx, cy, r, w, hx, hy, he => by
    simp only [shapeFs, Option.some.injEq] at hs; subst hs
    obtain ⟨_, _, rfl⟩ := eqCells_nil he
    simp [Op.eqFields]
  | f :: fs, off, ks, hs, xs, ys, cx, cy, r, w, hx, hy, he => by
    simp only [shapeFs] at hs
    split at hs
    · rename_i s sz agg q e1 e2 e3 e4
      cases hcnd : ((f.name != "_") && Nat.beq f.offset off && Nat.beq s.length sz && (agg || Nat.beq sz 1)) with
      | false => rw [hcnd] at hs; cases hs
      | true =>
        rw [hcnd] at hs
        simp only [cond_true, Option.some.injEq] at hs; subst hs
        simp only [Bool.and_eq_true, Bool.or_eq_true] at hcnd
        obtain ⟨⟨⟨c1, c2⟩, c3⟩, c4⟩ := hcnd
        have c2 := Nat.eq_of_beq_eq_true c2
        have c3 := Nat.eq_of_beq_eq_true c3
        have hname : f.name ≠ "_" := by simpa using c1
        have h1 : agg = false → sz = 1 := fun e => by
          rcases c4 with c4 | c4
          · rw [e] at c4; cases c4
          · exact Nat.eq_of_beq_eq_true c4
        obtain ⟨r1, r2, k1, k2, k3, k4, k5⟩ := eqCells_append s q cx cy r he
        have hl1 := hx.1
        have hl2 := hy.1
        have p1 := part_run (P := P) e3 e2 (off := f.offset) (vs := xs) h1 (by omega) w
        have p2 := part_run (P := P) e3 e2 (off := f.offset) (vs := ys) h1 (by omega) w
        have p3 := hg f.type s agg e1 e3 (fun e => by rw [c3]; exact h1 e) xs ys off off _ _ r1 w (hx.take s.length) (hy.take s.length) k1
        unfold valOf at p3
        rw [c2] at p1 p2
        rw [c3] at p3
        simp only [Op.eqFields, hname, ne_eq, not_false_eq_true, if_true, Sem.run_bind, c2, p1, p2, p3, Result.andThen_ok]
        cases r1 with
        | false => simp [k3]
        | true =>
          simp only [Bool.not_true, Bool.false_eq_true, if_false, k3, Bool.true_and]
          rw [e2, Option.getD_some, ← c3] at e4
          exact eq_fields hg fs (off + s.length) q e4 xs ys _ _ r2 w (hx.drop _ k4) (hy.drop _ k5) k2
    · cases hs

theorem eq_items {d : Nat} {e : TypeId} {agg : Bool} {s : List Nat} (hg : EqAt P M ρ h d e agg s) (ha : isAggT P e = some agg) (hz : sizeT P e = some s.length) (h1 : agg = false → s.length = 1) :
    ∀ (k j : Nat) (xs ys : Array Value) (cx cy : List DV) (r : Bool) (w : World), RelC M ρ h cx xs (j * s.length) → RelC M ρ h cy ys (j * s.length) → eqCells (List.replicate k s).flatten cx cy = some r →
      (Op.eqItems d e s.length xs ys (List.range' j k)).run P w = .ok r w
  | 0, j, xs, ys, cx, cy, r, w, hx, hy, he => by
    simp only [List.replicate_zero, List.flatten_nil] at he
    obtain ⟨_, _, rfl⟩ := eqCells_nil he
    simp [Op.eqItems]
  | k + 1, j, xs, ys, cx, cy, r, w, hx, hy, he => by
    rw [List.replicate_succ, List.flatten_cons] at he
    obtain ⟨r1, r2, k1, k2, k3, k4, k5⟩ := eqCells_append s _ cx cy r he
    have hl1 := hx.1
    have hl2 := hy.1
    have p1 := part_run (P := P) ha hz (off := j * s.length) (vs := xs) h1 (by omega) w
    have p2 := part_run (P := P) ha hz (off := j * s.length) (vs := ys) h1 (by omega) w
    have p3 := hg xs ys _ _ _ _ r1 w (hx.take s.length) (hy.take s.length) k1
    unfold valOf at p3
    rw [List.range'_succ]
    simp only [Op.eqItems, Sem.run_bind, p1, p2, p3, Result.andThen_ok]
    cases r1 with
    | false => simp [k3]
    | true =>
      simp only [Bool.not_true, Bool.false_eq_true, if_false, k3, Bool.true_and]
      refine eq_items hg ha hz h1 k (j + 1) xs ys _ _ r2 w ?_ ?_ k2
      · rw [show (j + 1) * s.length = j * s.length + s.length by rw [Nat.succ_mul]]; exact hx.drop _ k4
      · rw [show (j + 1) * s.length = j * s.length + s.length by rw [Nat.succ_mul]]; exact hy.drop _ k5

theorem isAgg_of {t : TypeId} {d : TypeDesc} (hu : P.underlying t = some d) {agg : Bool} (ha : isAggT P t = some agg) : agg = (match d with | .struct _ => true | .array _ _ => true | _ => false) := by
  unfold isAggT at ha
  rw [hu] at ha
  cases d <;> simp_all

theorem eq_run : ∀ (n : Nat) (t : TypeId) (ks : List Nat) (agg : Bool) (m : Nat), shapeT P n t = some ks → isAggT P t = some agg → (agg = false → ks.length = 1) → EqAt P M ρ h (n + m) t agg ks
  | 0, _, _, _, _, hs, _, _ => by simp [shapeT] at hs
  | n + 1, t, ks, agg, m, hs, ha, h1 => by
    intro xs ys ox oy cx cy r w hx hy he
    rw [show n + 1 + m = (n + m) + 1 by omega]
    simp only [shapeT] at hs
    split at hs
    · rename_i hu
      simp only [Option.some.injEq] at hs; subst hs
      have := isAgg_of hu ha; simp only at this; subst this
      obtain ⟨x, y, rfl, rfl, rfl⟩ := eq_one0 he
      have r1 := hx.2 0 (by simp)
      have r2 := hy.2 0 (by simp)
      simp only [List.getD_cons_zero, Nat.add_zero] at r1 r2
      simp only [valOf, cond_false, r1.inv_bool, r2.inv_bool]
      exact run_equalIn_bool' w _ _ _ _ hu
    · rename_i q hu
      simp only [Option.some.injEq] at hs; subst hs
      have := isAgg_of hu ha; simp only at this; subst this
      obtain ⟨k, x, y, rfl, rfl, rfl⟩ := eq_one1 he
      have r1 := hx.2 0 (by simp)
      have r2 := hy.2 0 (by simp)
      simp only [List.getD_cons_zero, Nat.add_zero] at r1 r2
      simp only [valOf, cond_false, r1.inv_int, r2.inv_int]
      exact run_equalIn_int w _ _ _ _ _ _ hu
    · rename_i hu
      simp only [Option.some.injEq] at hs; subst hs
      have := isAgg_of hu ha; simp only at this; subst this
      obtain ⟨x, y, rfl, rfl, rfl⟩ := eq_one2 he
      have r1 := hx.2 0 (by simp)
      have r2 := hy.2 0 (by simp)
      simp only [List.getD_cons_zero, Nat.add_zero] at r1 r2
      simp only [valOf, cond_false, r1.inv_str, r2.inv_str]
      rw [run_equalIn_string w _ _ _ _ hu]
      congr 1
      simp only [ByteArray.toList_eq]
      exact Bool.eq_iff_iff.2 (by simp)
    · rename_i fs hu
      have := isAgg_of hu ha; simp only at this; subst this
      cases hst : P.stoodInHeld t with
      | true => rw [hst] at hs; cases hs
      | false =>
        rw [hst] at hs
        simp only [cond_false] at hs
        obtain ⟨l1, l2⟩ := eqCells_length _ _ _ _ he
        have hfs : P.fieldsOf t = fs := by simp [Program.fieldsOf, hu]
        simp only [valOf, cond_true]
        rw [run_equalIn_struct w (n + m) t _ _ (by rw [hfs]; exact hu) hst, hfs]
        exact eq_fields (fun e s agg h2 h3 h4 => eq_run n e s agg m h2 h3 h4) fs.toList 0 ks hs _ _ cx cy r w (hx.extract _ l1) (hy.extract _ l2) he
    · rename_i k e hu
      have := isAgg_of hu ha; simp only at this; subst this
      split at hs
      · rename_i s sz agg' e1 e2 e3
        cases hcnd : (Nat.beq s.length sz && (agg' || Nat.beq sz 1)) with
        | false => rw [hcnd] at hs; cases hs
        | true =>
          rw [hcnd] at hs
          simp only [cond_true, Option.some.injEq] at hs; subst hs
          simp only [Bool.and_eq_true, Bool.or_eq_true] at hcnd
          have c3 := Nat.eq_of_beq_eq_true hcnd.1
          subst c3
          have h2 : agg' = false → s.length = 1 := fun e => by
            rcases hcnd.2 with c4 | c4
            · rw [e] at c4; cases c4
            · exact Nat.eq_of_beq_eq_true c4
          obtain ⟨l1, l2⟩ := eqCells_length _ _ _ _ he
          obtain ⟨i, hi⟩ : ∃ i, P.info? e = some i := by
            unfold sizeT at e2
            cases hi : P.info? e with
            | none => rw [hi] at e2; cases e2
            | some i => exact ⟨i, rfl⟩
          have hcell : P.cellsOf e = s.length := by
            unfold sizeT at e2
            rw [hi] at e2
            simp only [Option.map_some, Option.some.injEq] at e2
            simp [Program.cellsOf, hi, e2]
          simp only [valOf, cond_true]
          rw [run_equalIn_array w (n + m) _ _ hu hi, hcell, List.range_eq_range']
          exact eq_items (eq_run n e s agg' m e1 e3 h2) e3 e2 h2 k 0 _ _ cx cy r w (by rw [Nat.zero_mul]; exact hx.extract _ l1) (by rw [Nat.zero_mul]; exact hy.extract _ l2) he
      · cases hs
    · cases hs
end

section
variable {P : Program} {G : Nat → Option DV} {B : Base} {nt : Nat} {M0 : Mem} {w0 : World} {M : Mem} {ρ : Locs} {t : Tmps} {h : Heap} {a : Act} {w : World} {o : Oper}

theorem op_eqA (hG : GOk G M0) (S : Sim B nt M0 w0 M ρ t h a w) (neg : Bool) (ty ty' : TypeId) (x y : Operand) (ks : List Nat) (ho : o.op = .binOp (bif neg then .neq else .eql) ty x y ty') (hs : shapeT P 20 ty = some ks)
    (hagg : isAggT P ty = some true) (hgd : P.eqGuardType P.depth ty = false) {cx cy : List DV} (hx : evalOpd G t x = .agg cx) (hy : evalOpd G t y = .agg cy) {e : Bool} (he : eqCells ks cx cy = some e) :
    OpGoal P B nt M0 w0 M ρ t h a w o (.bool (bif neg then !e else e)) [] := by
  have r1 := S.opd hG x; rw [hx] at r1
  have r2 := S.opd hG y; rw [hy] at r2
  obtain ⟨xs, v1, l1, q1⟩ := r1.inv_agg
  obtain ⟨ys, v2, l2, q2⟩ := r2.inv_agg
  obtain ⟨n1, n2⟩ := eqCells_length _ _ _ _ he
  have hrun := eq_run (P := P) (M := M) (ρ := ρ) (h := h) 20 ty ks true 9980 hs hagg (fun e => by cases e) xs ys 0 0 cx cy e w ⟨by omega, fun i hi => by rw [Nat.zero_add]; exact q1 i hi⟩ ⟨by omega, fun i hi => by rw [Nat.zero_add]; exact q2 i hi⟩ he
  have e1 : xs.extract 0 (0 + ks.length) = xs := by rw [Nat.zero_add, n1.symm.trans l1]; simp
  have e2 : ys.extract 0 (0 + ks.length) = ys := by rw [Nat.zero_add, n2.symm.trans l2]; simp
  simp only [valOf, cond_true, e1, e2] at hrun
  refine OpGoal.same S (v := .bool (bif neg then !e else e)) ?_ (.pure (.bool _))
  cases neg
  · simp only [execOp, ho, v1, v2, cond_false, Sem.run_bind, run_eqGuard_agg w _ _ _ _ _ _ hgd, Result.andThen_ok, run_eql_struct, hrun, Sem.run_pure]
  · simp only [execOp, ho, v1, v2, cond_true, Sem.run_bind, run_eqGuard_agg w _ _ _ _ _ _ hgd, Result.andThen_ok, run_neq_struct, hrun, Sem.run_pure]
end
end Sh
