/-
  Chapter 4's functions, walked over pure data: the library of the walk, the functions' code over data, and what each computes. (part 7)
-/
import Derived.Test.YtbkginjiknnobaaGreatDoorP6
import Derived.Lib.MapLaws
import Derived.Shelf.Small.Strs
import Derived.Shelf.Small.Wraps
import Derived.Shelf.Strings.Split
import Derived.Test.YtbkginjiknnobaaGreatDoorProg
set_option linter.unusedVariables false
set_option linter.unusedSimpArgs false
set_option maxRecDepth 100000
set_option linter.unusedSimpArgs false
set_option linter.unusedVariables false
namespace Sh
open Go Go.Proofs
def encPar (r : List Cel × Int × Int) : DV := .tuple [chn r.1, DV.int .i64 (r.2.1), DV.int .i64 (r.2.2)]
def strs (l : List (List UInt8)) : DV := .list (l.map DV.str)
theorem strs_get (l : List (List UInt8)) (i : Nat) (h : i < l.length) : (l.map DV.str).getD (Int.toNat (i : Int)) .undef = .str (l.getD i []) := getD_enc _ _ i [] h
theorem parE_step (rows : List (List UInt8)) (n i : Nat) (hi : i < n) (h : wrongW (splitC 32 (rows.getD i [])) = false) : parE rows (n - i) i = parE rows (n - (i + 1)) (i + 1) := by
  rw [show n - i = (n - (i + 1)) + 1 by omega, parE, h]; rfl
theorem parE_at (rows : List (List UInt8)) (n i : Nat) (hi : i < n) (h : wrongW (splitC 32 (rows.getD i [])) = true) : parE rows (n - i) i = some i := by
  rw [show n - i = (n - (i + 1)) + 1 by omega, parE, h]; rfl
theorem outW_succ (rows : List (List UInt8)) (i : Nat) (h : i < rows.length) : outW rows (i + 1) = outW rows i ++ [celW (splitC 32 (rows.getD i []))] := take_map_succ _ _ _ _ h
theorem outW_len (rows : List (List UInt8)) (i : Nat) (h : i ≤ rows.length) : (outW rows i).length = i := by unfold outW; simp; omega
def ptH (n : List Int) : Nat → List (Nat × DObj)
  | 0 => []
  | j + 1 => [(99, .row 2 ((ptsW (n.take (2 * (j + 1)))).map encPt) false)]
def ptT (n : List Int) : Nat → DV
  | 0 => .full []
  | j + 1 => .own 99 0 ((ptsW (n.take (2 * (j + 1)))).map encPt).length ((ptsW (n.take (2 * (j + 1)))).map encPt).length
theorem all_no {α : Type} {f : α → Bool} {l : List α} {j : Nat} (d : α) (h : j < l.length) (hf : f (l.getD j d) = false) : l.all f = false := by
  rw [List.all_eq_false]
  exact ⟨_, getD_in d h, by rw [hf]; exact Bool.false_ne_true⟩
theorem all_tk {α : Type} {f : α → Bool} {l : List α} {j : Nat} (d : α) (h : j < l.length) (h1 : (l.take j).all f = true) (hf : f (l.getD j d) = true) : (l.take (j + 1)).all f = true := by
  rw [take_snoc l j d h, List.all_append, h1]
  simp only [List.all, hf, Bool.and_self]
theorem drop_get1 {α : Type} (l : List α) (j : Nat) (d : α) : (l.drop 1).getD j d = l.getD (j + 1) d := by simp [List.getD_eq_getElem?_getD, Nat.add_comm]
def nd (w : List (List UInt8)) (j : Nat) : List DV := ((numsW w).take j).map (DV.int .i64)
theorem numsW_len (w : List (List UInt8)) : (numsW w).length = w.length - 1 := by simp [numsW]
theorem nd_len (w : List (List UInt8)) (j : Nat) (h : j + 1 ≤ w.length) : (nd w j).length = j := by simp [nd, numsW_len]; omega
theorem nd_succ (w : List (List UInt8)) (j : Nat) (h : j + 1 < w.length) : nd w (j + 1) = nd w j ++ [.int .i64 (digS (w.getD (j + 1) [])).1] := by
  unfold nd
  rw [take_map_succ _ _ j 0 (by rw [numsW_len]; omega)]
  congr 3
  unfold numsW
  rw [List.getD_eq_getElem?_getD, List.getElem?_map, ← drop_get1]
  simp [List.getD_eq_getElem?_getD, show j < w.length - 1 by omega, show 1 + j < w.length by omega]
theorem nget (N : List Int) (k : Nat) (h : k < N.length) : (N.map (DV.int .i64)).getD k .undef = DV.int .i64 (N.getD k 0) := by simp [List.getD_eq_getElem?_getD, h]
theorem ngetN (N : List Int) (k : Nat) (h : k < N.length) : (N.map (DV.int .i64)).getD (0 + Int.toNat (k : Int)) .undef = DV.int .i64 (N.getD k 0) := by
  rw [show 0 + Int.toNat (k : Int) = k by simp]; exact nget N k h
theorem celW_tb (w : List (List UInt8)) : (celW w).tb.length ≤ w.length := by
  show (ptsW ((numsW w).drop 2)).length ≤ _
  rw [ptsW_len, List.length_drop, numsW_len]; omega
theorem outW_tb (rows : List (List UInt8)) (m n : Nat) (h : ∀ r ∈ rows, r.length ≤ n) : ∀ c ∈ outW rows m, c.tb.length ≤ n + 1 := by
  intro c hc
  obtain ⟨r, hr, rfl⟩ := List.mem_map.1 hc
  have h1 := celW_tb (splitC 32 r)
  have h2 := (splitC_len 32 r).1
  have h3 := h r (List.mem_of_mem_take hr)
  omega
theorem parS_bad {s : List UInt8} {rows : List (List UInt8)} {m i : Nat} (h : ¬ 4096 < s.length) (hr : splitC 10 s = rows) (hm : rows.length = m + 1) (he : parE rows m 0 = some i) : parS s = ([], (i : Int), 25) := by
  unfold parS
  rw [if_neg h, hr, hm, Nat.add_sub_cancel, he]
theorem parS_ok {s : List UInt8} {rows : List (List UInt8)} {m : Nat} (h : ¬ 4096 < s.length) (hr : splitC 10 s = rows) (hm : rows.length = m + 1) (he : parE rows m 0 = none) :
    parS s = if rows.getD m [] ≠ [] then ([], (m : Int), 25) else if chkChain (outW rows m) ≠ 0 then ([], (m : Int), chkChain (outW rows m)) else (outW rows m, 0, 0) := by
  unfold parS
  rw [if_neg h, hr, hm, Nat.add_sub_cancel, he]
theorem r_Parse (s : List UInt8) (hs : s.length ≤ 4097) : PC 70 [.str s] (encPar (parS s)) := by
  refine pureCall_ofR dh70 rfl ?_
  conv => whnf
  refine ⟨fun hg => ?_, fun hg => ?_⟩
  · have hg : (4096 : Int) < s.length := of_decide_eq_true hg
    conv => whnf
    unfold parS
    rw [if_pos (by omega)]; rfl
  · have hg : ¬ (4096 : Int) < s.length := of_decide_eq_false hg
    have hl := splitC_len 10 s
    have hn := splitC_ne 10 s
    conv => whnf
    repeat' (first
      | (refine ⟨fun hg => ?_, fun hg => ?_⟩ <;> first | contradiction | (conv => whnf))
      | (refine Or.inl ?_; conv => whnf)
      | (refine ⟨_, q_Split s 10 (by omega), ?_⟩; conv => whnf)
      | (refine And.intro ?_ ?_; kernel_rfl; conv => whnf))
    generalize hr : splitC 10 s = rows at *
    obtain ⟨m, hm⟩ : ∃ m, rows.length = m + 1 := ⟨rows.length - 1, by have := List.length_pos_iff.2 hn; omega⟩
    have hbad : ∀ i, parE rows m 0 = some i → parS s = ([], (i : Int), 25) := fun i he => parS_bad (by omega) hr hm he
    have hok := fun he => parS_ok (by omega) hr hm he
    have e0 : ((rows.map DV.str).length : Int) = m + 1 := by simp; omega
    have e1 : IntKind.i64.wrap (((rows.map DV.str).length : Int) - 1) = m := by rw [e0, wrap_in (by omega) (by omega)]; omega
    rw [e1]
    clear e1 hn
    generalize parS s = R at *
    refine dwp_loopR (P := Tryz.prog) (G := GC) (k := dk70_2) (b := db70_2) (α := Nat) (fun i => [(5, strs rows), (6, DV.int .i64 (m)), (7, .own 7 0 ((outW rows i).map encC).length ((outW rows i).map encC).length), (8, DV.int .i64 (i))]) (fun i => [(7, .row 3 ((outW rows i).map encC) false)]) (fun i => i ≤ m ∧ parE rows m 0 = parE rows (m - i) i) (fun i => m - i) 0 ⟨rfl, rfl, rfl⟩ ⟨Nat.zero_le _, rfl⟩ ?_
    intro i ⟨h1, h2⟩
    conv => whnf
    refine ⟨fun hb => ?_, fun hb => ?_⟩
    · have hi : i < m := by have : (i : Int) < m := of_decide_eq_true hb; omega
      have hrl : (rows.getD i []).length ≤ s.length := hl.2 _ (getD_in [] (by omega))
      clear hb
      conv => whnf
      rw [strs_get rows i (by omega)]
      refine ⟨⟨by omega, by rw [e0]; omega, rfl⟩, ?_⟩
      repeat' (first
        | (refine ⟨fun hg => ?_, fun hg => ?_⟩ <;> first | contradiction | (conv => whnf))
        | (refine Or.inl ?_; conv => whnf)
        | (refine ⟨_, q_Split (rows.getD i []) 32 (by omega), ?_⟩; conv => whnf)
        | (refine And.intro ?_ ?_; kernel_rfl; conv => whnf))
      all_goals
        have hsu := outW_succ rows i (by omega)
        have hat := fun h => hbad i (h2.trans (parE_at rows m i hi h))
        have hst := fun h => h2.trans (parE_step rows m i hi h)
        have hwl := splitC_len 32 (rows.getD i [])
        generalize splitC 32 (rows.getD i []) = w at *
        have ew : ((w.map DV.str).length : Int) = w.length := by simp
        rw [ew] at *
        clear ew
      all_goals (try (refine ⟨by decide, ?_⟩; conv => whnf; rw [Int.tmod_eq_emod_of_nonneg (by omega)]))
      all_goals repeat' (first
        | (refine ⟨fun hg => ?_, fun hg => ?_⟩ <;> first | contradiction | (conv => whnf))
        | (refine Or.inl ?_; conv => whnf)
        | (rw [getD_enc' _ _ 0 [] (by decide) (by have := of_decide_eq_false ‹decide (((w.map DV.str).length : Int) < 3) = false›; simp at this; omega)]; refine ⟨idxB (by decide) (by have := of_decide_eq_false ‹decide (((w.map DV.str).length : Int) < 3) = false›; simp at this; omega) rfl, ?_⟩; conv => whnf)
        | (refine And.intro ?_ ?_; kernel_rfl; conv => whnf))
      any_goals
        have hw : wrongW w = true := by
          unfold wrongW badW
          first
          | (have h3 := of_decide_eq_true (show decide (((w.map DV.str).length : Int) < 3) = true from ‹decide (((w.map DV.str).length : Int) < 3) = !false›)
             simp only [List.length_map] at h3
             rw [decide_eq_true (show w.length < 3 by omega)]; rfl)
          | (have h3 := of_decide_eq_true (show decide ((w.length : Int) % 2 ≠ 1) = true from ‹(bif false then true else decide ((w.length : Int) % 2 ≠ 1)) = !false›)
             rw [decide_eq_true (show w.length % 2 ≠ 1 by omega), Bool.true_or, Bool.or_true]; rfl)
          | (have h3 := of_decide_eq_true hg
             rw [decide_eq_true (show w.getD 0 [] ≠ [99, 101, 108, 108] from h3), Bool.or_true, Bool.or_true]; rfl)
        rw [hat hw]; rfl
      have hw3 := of_decide_eq_false ‹decide (((w.map DV.str).length : Int) < 3) = false›
      have hw2 := of_decide_eq_false (show decide ((w.length : Int) % 2 ≠ 1) = false from ‹(bif false then true else decide ((w.length : Int) % 2 ≠ 1)) = false›)
      have hw0 := of_decide_eq_false (show decide (w.getD 0 [] ≠ [99, 101, 108, 108]) = false from hg)
      simp only [List.length_map] at hw3
      have hb : badW w = false := by
        unfold badW
        rw [decide_eq_false (show ¬ w.length < 3 by omega), decide_eq_false (show ¬ w.length % 2 ≠ 1 by omega), decide_eq_false hw0]; rfl
      have hwW : wrongW w = !((w.drop 1).all fun x => (digS x).2) := by unfold wrongW; rw [hb]; rfl
      have e2 : ((w.map DV.str).length : Int) = w.length := by simp
      refine dwp_loopR (P := Tryz.prog) (G := GC) (k := dk70_0) (b := db70_0) (α := Nat) (fun j => [(5, strs rows), (6, DV.int .i64 (m)), (7, .own 7 0 ((outW rows i).map encC).length ((outW rows i).map encC).length), (8, DV.int .i64 (i)), (9, strs w), (10, .own 10 0 (nd w j).length (nd w j).length), (11, DV.int .i64 ((j + 1 : Nat)))]) (fun j => [(7, .row 3 ((outW rows i).map encC) false), (10, .row 1 (nd w j) false)]) (fun j => j + 1 ≤ w.length ∧ ((w.drop 1).take j).all (fun x => (digS x).2) = true) (fun j => w.length - j) 0 ⟨rfl, rfl, rfl⟩ ⟨by omega, rfl⟩ ?_
      intro j ⟨hj, ha⟩
      have hnl := nd_len w j hj
      conv => whnf
      refine ⟨fun hc => ?_, fun hc => ?_⟩
      · have hj1 : j + 1 < w.length := by have := of_decide_eq_true hc; rw [e2] at this; omega
        clear hc
        conv => whnf
        rw [strs_get w (j + 1) hj1]
        refine ⟨⟨by omega, by rw [e2]; omega, rfl⟩, ?_⟩
        repeat' (first
          | (refine ⟨fun hg => ?_, fun hg => ?_⟩ <;> first | contradiction | (conv => whnf))
          | (refine Or.inl ?_; conv => whnf)
          | (refine ⟨_, q_Digits (w.getD (j + 1) []), ?_⟩; conv => whnf)
          | (refine And.intro ?_ ?_; kernel_rfl; conv => whnf))
        · have hf : (digS (w.getD (j + 1) [])).2 = false := by
            cases h : (digS (w.getD (j + 1) [])).2 with
            | true => rw [h] at hg; cases hg
            | false => rfl
          have : wrongW w = true := by
            rw [hwW, all_no (f := fun x => (digS x).2) (l := w.drop 1) (j := j) [] (by simp; omega) (by rw [drop_get1]; exact hf)]; rfl
          rw [hat this]; rfl
        · have hf : (digS (w.getD (j + 1) [])).2 = true := by
            cases h : (digS (w.getD (j + 1) [])).2 with
            | true => rfl
            | false => rw [h] at hg; cases hg
          clear hg
          refine ⟨⟨rfl, rfl, rfl, by rw [hnl]; simp; omega, fun e he => by simp at he; subst he; rfl⟩, ?_⟩
          conv => whnf
          rw [wrap_succ (j + 1) (by omega)]
          refine ⟨j + 1, rfl, ?_, ?_, ⟨by omega, all_tk [] (by simp; omega) ha (by rw [drop_get1]; exact hf)⟩, by omega⟩
          · rw [nd_succ w j hj1]; rfl
          · rw [nd_succ w j hj1]; rfl
      · have hj1 : j + 1 = w.length := by have := of_decide_eq_false hc; rw [e2] at this; omega
        clear hc
        have hgood : wrongW w = false := by
          rw [hwW, ← List.take_of_length_le (l := w.drop 1) (i := j) (by simp; omega), ha]; rfl
        have hN : nd w j = (numsW w).map (DV.int .i64) := by unfold nd; rw [List.take_of_length_le (by rw [numsW_len]; omega)]
        have hNl : (numsW w).length = j := by rw [numsW_len]; omega
        have hcel : celW w = ⟨ptsW ((numsW w).drop 2), (numsW w).getD 0 0, (numsW w).getD 1 0⟩ := rfl
        rw [hN]
        clear hat ha hnl hN hwW hb hg hw0 e2
        generalize numsW w = N at *
        generalize celW w = C at *
        have e3 : ((N.map (DV.int .i64)).length : Int) = j := by simp; omega
        have hst := hst hgood
        have hj2 : 2 ≤ j := by omega
        conv => whnf
        refine ⟨⟨rfl, by decide, by rw [e3]; omega⟩, ?_⟩
        conv => whnf
        refine ⟨⟨rfl, by decide⟩, ?_⟩
        rw [nget N _ (show 0 + Int.toNat 0 < N.length by simp; omega)]
        conv => whnf
        refine ⟨⟨rfl, by decide, by rw [e3]; omega⟩, ?_⟩
        conv => whnf
        refine ⟨⟨rfl, by decide⟩, ?_⟩
        rw [nget N _ (show 0 + Int.toNat 1 < N.length by simp; omega)]
        conv => whnf
        refine ⟨by kernel_rfl, ?_⟩
        conv => whnf
        refine dwp_loopR (P := Tryz.prog) (G := GC) (k := dk70_1) (b := db70_1) (α := Nat) (fun k => [(5, strs rows), (6, DV.int .i64 (m)), (7, .own 7 0 ((outW rows i).map encC).length ((outW rows i).map encC).length), (8, DV.int .i64 (i)), (10, .own 10 0 (N.map (DV.int .i64)).length (N.map (DV.int .i64)).length), (14, .bptr 14 0), (15, DV.int .i64 ((2 * k + 2 : Nat)))]) (fun k => [(7, .row 3 ((outW rows i).map encC) false), (10, .row 1 (N.map (DV.int .i64)) false), (14, .box 3 (.agg [ptT (N.drop 2) k, DV.int .i64 (N.getD 0 0), DV.int .i64 (N.getD 1 0)]))] ++ ptH (N.drop 2) k) (fun k => 2 * k + 2 ≤ j) (fun k => j - k) 0 ⟨rfl, rfl, rfl⟩ hj2 ?_
        intro k hk
        have e4 : IntKind.i64.wrap (((2 * k + 2 : Nat) : Int) + 1) = ((2 * k + 3 : Nat) : Int) := wrap_succ (2 * k + 2) (by omega)
        have e5 : IntKind.i64.wrap (((2 * k + 2 : Nat) : Int) + 2) = ((2 * (k + 1) + 2 : Nat) : Int) := by rw [wrap_in (by omega) (by omega)]; omega
        conv => whnf
        refine ⟨rfl, ?_⟩
        conv => whnf
        rw [e4]
        refine ⟨fun hc => ?_, fun hc => ?_⟩
        · have hk1 : 2 * k + 3 < j := by have := of_decide_eq_true hc; rw [e3] at this; omega
          clear hc
          have hp := ptsW_take (N.drop 2) k (by simp; omega)
          have hdx : (N.drop 2).getD (2 * k) 0 = N.getD (2 * k + 2) 0 := by simp [List.getD_eq_getElem?_getD, Nat.add_comm]
          have hdy : (N.drop 2).getD (2 * k + 1) 0 = N.getD (2 * k + 3) 0 := by simp [List.getD_eq_getElem?_getD, Nat.add_comm]; congr 2; omega
          rw [hdx, hdy] at hp
          have hpl := ptsW_len ((N.drop 2).take (2 * k))
          have hpl2 : ((N.drop 2).take (2 * k)).length ≤ 2 * k := List.length_take_le _ _
          have hT : ptT (N.drop 2) (k + 1) = .own 99 0 ((ptsW ((N.drop 2).take (2 * (k + 1)))).map encPt).length ((ptsW ((N.drop 2).take (2 * (k + 1)))).map encPt).length := rfl
          have hH : ptH (N.drop 2) (k + 1) = [(99, .row 2 ((ptsW ((N.drop 2).take (2 * (k + 1)))).map encPt) false)] := rfl
          rw [hp] at hT hH
          rw [List.map_append] at hT hH
          cases k with
          | zero =>
            conv => whnf
            refine ⟨⟨rfl, by omega, by rw [e3]; omega⟩, ?_⟩
            conv => whnf
            refine ⟨⟨rfl, by decide⟩, ?_⟩
            rw [ngetN N (2 * 0 + 2) (by omega)]
            conv => whnf
            rw [e4]
            refine ⟨⟨rfl, by omega, by rw [e3]; omega⟩, ?_⟩
            conv => whnf
            refine ⟨⟨rfl, by decide⟩, ?_⟩
            rw [ngetN N (2 * 0 + 3) (by omega)]
            conv => whnf
            refine ⟨⟨by simp, fun e he => by simp at he; subst he; rfl, fun e he => by simp at he, .inl rfl⟩, ?_⟩
            conv => whnf
            refine ⟨by kernel_rfl, ?_⟩
            conv => whnf
            rw [e5]
            refine ⟨0 + 1, rfl, ?_, ?_, ?_, ?_⟩
            · rfl
            · show _ = _ ++ _
              rw [hT, hH]; rfl
            · show 2 * (0 + 1) + 2 ≤ j; omega
            · show j - (0 + 1) < j - 0; omega
          | succ k =>
            conv => whnf
            refine ⟨⟨rfl, by omega, by rw [e3]; omega⟩, ?_⟩
            conv => whnf
            refine ⟨⟨rfl, by decide⟩, ?_⟩
            rw [ngetN N (2 * (k + 1) + 2) (by omega)]
            conv => whnf
            rw [e4]
            refine ⟨⟨rfl, by omega, by rw [e3]; omega⟩, ?_⟩
            conv => whnf
            refine ⟨⟨rfl, by decide⟩, ?_⟩
            rw [ngetN N (2 * (k + 1) + 3) (by omega)]
            conv => whnf
            refine ⟨⟨rfl, rfl, rfl, by simp; omega, fun e he => by simp at he; subst he; rfl⟩, ?_⟩
            conv => whnf
            refine ⟨by kernel_rfl, ?_⟩
            conv => whnf
            rw [e5]
            refine ⟨(k + 1) + 1, rfl, ?_, ?_, ?_, ?_⟩
            · rfl
            · show _ = _ ++ _
              rw [hT, hH]; rfl
            · show 2 * ((k + 1) + 1) + 2 ≤ j; omega
            · show j - ((k + 1) + 1) < j - (k + 1); omega
        · have hk1 : 2 * k + 2 = j := by have := of_decide_eq_false hc; rw [e3] at this; omega
          clear hc
          have hO : (outW rows (i + 1)).map encC = (outW rows i).map encC ++ [encC C] := by rw [hsu, List.map_append]; rfl
          have hol' : ((outW rows i).map encC).length = i := by rw [List.length_map, outW_len rows i (by omega)]
          have hC : encC C = .agg [.list ((ptsW ((N.drop 2).take (2 * k))).map encPt), DV.int .i64 (N.getD 0 0), DV.int .i64 (N.getD 1 0)] := by
            rw [hcel, List.take_of_length_le (l := N.drop 2) (by simp; omega)]; rfl
          cases k with
          | zero =>
            conv => whnf
            refine ⟨⟨rfl, rfl, rfl, by rw [hol']; simp; omega, fun e he => by simp at he; subst he; rfl⟩, ?_⟩
            conv => whnf
            rw [wrap_succ i (by omega)]
            refine ⟨i + 1, rfl, ?_, ?_, ⟨hi, hst⟩, by omega⟩
            · rw [hO, hC]; rfl
            · rw [hO, hC]; rfl
          | succ k =>
            conv => whnf
            refine ⟨rfl, ?_⟩
            rw [window_full]
            conv => whnf
            refine ⟨⟨rfl, rfl, rfl, by rw [hol']; simp; omega, fun e he => by simp at he; subst he; rfl⟩, ?_⟩
            conv => whnf
            rw [wrap_succ i (by omega)]
            refine ⟨i + 1, rfl, ?_, ?_, ⟨hi, hst⟩, by omega⟩
            · rw [hO, hC]; rfl
            · rw [hO, hC]; rfl
    · have hi : i = m := by have : ¬ (i : Int) < m := of_decide_eq_false hb; omega
      clear hb
      have h2 : parE rows m 0 = none := by rw [h2, hi, Nat.sub_self]; rfl
      have hok := hok h2
      have hol := outW_len rows m (by omega)
      have hcs := outW_tb rows m s.length (fun r hr => hl.2 r hr)
      subst hi
      conv => whnf
      rw [strs_get rows i (by omega)]
      refine ⟨⟨by omega, by rw [e0]; omega, rfl⟩, ?_⟩
      repeat' (first
        | (refine ⟨fun hg => ?_, fun hg => ?_⟩ <;> first | contradiction | (conv => whnf))
        | (refine Or.inl ?_; conv => whnf)
        | (refine And.intro ?_ ?_; kernel_rfl; conv => whnf))
      · have hg : rows.getD i [] ≠ [] := of_decide_eq_true hg
        rw [if_pos hg] at hok
        rw [hok]; rfl
      all_goals
        have hg : ¬ rows.getD i [] ≠ [] := of_decide_eq_false ‹decide (rows.getD i [] ≠ _) = false›
        rw [if_neg hg] at hok
      rw [window_full]
      repeat' (first
        | (refine ⟨fun hg => ?_, fun hg => ?_⟩ <;> first | contradiction | (conv => whnf))
        | (refine Or.inl ?_; conv => whnf)
        | (refine ⟨_, r_CheckChain (outW rows i) (by omega) (fun c hc => by have := hcs c hc; omega), ?_⟩; conv => whnf)
        | (refine And.intro ?_ ?_; kernel_rfl; conv => whnf))
      · have hg : chkChain (outW rows i) ≠ 0 := of_decide_eq_true hg
        rw [if_pos hg] at hok
        rw [hok]; rfl
      · have hg : ¬ chkChain (outW rows i) ≠ 0 := of_decide_eq_false hg
        rw [if_neg hg] at hok
        rw [hok]
        first | rfl | (rw [window_full]; rfl)
end Sh

set_option maxRecDepth 100000
set_option linter.unusedSimpArgs false
set_option linter.unusedVariables false
namespace Sh
open Go Go.Proofs
theorem get_bytes (s : List UInt8) (i : Nat) : (⟨s.toArray⟩ : ByteArray).get! i = s.getD i 0 := by
  simp [ByteArray.get!, List.getD_eq_getElem?_getD, Array.getElem!_eq_getD]
  rfl
theorem sdecode_ascii (s : List UInt8) (i : Nat) (h : (s.getD i 0).toNat < 128) : sdecode s i = ((s.getD i 0).toNat, 1) := by
  unfold sdecode
  rw [Lib.decode_at, get_bytes, Lib.decodeN, if_pos h]
theorem sdecode_other (s : List UInt8) (i : Nat) (h : ¬ (s.getD i 0).toNat < 128) : 128 ≤ (sdecode s i).1 := by
  unfold sdecode
  rw [Lib.decode_at, get_bytes]
  rcases Lib.decodeN_shape ((⟨s.toArray⟩ : ByteArray).size - i) (s.getD i 0).toNat (((⟨s.toArray⟩ : ByteArray).get! (i + 1)).toNat) (((⟨s.toArray⟩ : ByteArray).get! (i + 2)).toNat) (((⟨s.toArray⟩ : ByteArray).get! (i + 3)).toNat) with h1 | h1 | h1 | h1 | h1
  · exact absurd h1.1 h
  · rw [h1.2.2.2.2]; exact h1.2.2.2.1
  · obtain ⟨_, _, _, _, h2, _, h3⟩ := h1; rw [h3]; show 128 ≤ _; omega
  · obtain ⟨_, _, _, _, _, h2, _, h3⟩ := h1; rw [h3]; show 128 ≤ _; omega
  · rw [h1]; decide
theorem isD_iff (c : UInt8) : isD c = true ↔ 48 ≤ c.toNat ∧ c.toNat ≤ 57 := by unfold isD; rw [Bool.and_eq_true, decide_eq_true_eq, decide_eq_true_eq]
theorem rune_yes (s : List UInt8) (i : Nat) (h : isD (s.getD i 0) = true) : sdecode s i = ((s.getD i 0).toNat, 1) := sdecode_ascii s i (by have := (isD_iff _).1 h; omega)
theorem rune_no (s : List UInt8) (i : Nat) (h : isD (s.getD i 0) = false) : (sdecode s i).1 < 48 ∨ 57 < (sdecode s i).1 := by
  by_cases h1 : (s.getD i 0).toNat < 128
  · rw [sdecode_ascii s i h1]
    show (s.getD i 0).toNat < 48 ∨ 57 < (s.getD i 0).toNat
    false_or_by_contra
    have := (isD_iff (s.getD i 0)).2 ⟨by omega, by omega⟩
    rw [h] at this; cases this
  · have := sdecode_other s i h1; omega
def intS (s : List UInt8) : Int × Bool := if s.all isD && decide (s.length ≤ 9) then (valD s 0, decide (s ≠ []) && (decide (s.length = 1) || !decide (s.getD 0 0 = 48))) else (0, false)
theorem intS_dig (s : List UInt8) : (intS s).2 = (digS s).2 ∧ ((digS s).2 = true → (intS s).1 = (digS s).1) := by
  unfold intS digS badD
  have h0 : s = [] ↔ s.length = 0 := List.length_eq_zero_iff.symm
  have e0 : decide (s = []) = decide (s.length = 0) := by simp only [h0]
  have e00 : decide (s ≠ []) = !decide (s.length = 0) := by simp only [ne_eq, h0, decide_not]
  rw [e0, e00]
  generalize s.all isD = A
  generalize decide (s.getD 0 0 = 48) = Z
  generalize s.length = n at *
  by_cases h2 : n ≤ 9
  · rw [decide_eq_true h2, decide_eq_false (show ¬ 9 < n by omega)]
    by_cases h3 : n = 0
    · rw [decide_eq_true h3]; cases A <;> exact ⟨rfl, fun h => Bool.noConfusion h⟩
    · rw [decide_eq_false h3]
      by_cases h5 : n = 1
      · rw [decide_eq_true h5, decide_eq_false (show ¬ 1 < n by omega)]; cases A <;> exact ⟨rfl, fun _ => rfl⟩
      · rw [decide_eq_false h5, decide_eq_true (show 1 < n by omega)]
        cases A
        · cases Z <;> exact ⟨rfl, fun h => Bool.noConfusion h⟩
        · cases Z <;> exact ⟨rfl, fun _ => by first | rfl | contradiction⟩
  · rw [decide_eq_false h2, decide_eq_true (show 9 < n by omega), Bool.and_false, Bool.or_true, Bool.true_or]
    exact ⟨rfl, fun h => Bool.noConfusion h⟩
theorem wrap_i32 {n : Int} (h1 : -2147483648 ≤ n) (h2 : n ≤ 2147483647) : IntKind.i32.wrap n = n := by
  unfold IntKind.wrap
  simp only [IntKind.bits, IntKind.signed]
  simp; omega
theorem c_integer (s : List UInt8) (hs : s.length < 1073741824) : PC 135 [.str s] (.tuple [DV.int .i64 ((intS s).1), .bool (intS s).2]) := by
  refine pureCall_ofR dh135 rfl ?_
  conv => whnf
  refine dwp_loopR (P := Tryz.prog) (G := GC) (k := dk135_0) (b := db135_0) (α := Nat) (fun k => [(0, .str s), (4, DV.int .i64 (valD (s.take k) 0)), (8, .dict 8)]) (fun k => [(8, .siter s k)]) (fun k => k ≤ s.length ∧ (s.take k).all isD = true ∧ (0 < k → s.length ≤ 9)) (fun k => s.length - k) 0 ⟨rfl, rfl, rfl⟩ ⟨Nat.zero_le _, rfl, fun h => absurd h (by omega)⟩ ?_
  intro k ⟨h1, h2, h3⟩
  by_cases hk : k < s.length
  · have hb : Nat.blt k s.length = true := Nat.ble_eq_true_of_le hk
    dsimp only
    conv => whnf
    generalize hE : evalOp _ _ _ _ = E
    have : E = .ok none (.tuple [.bool true, DV.int .i64 ((k : Nat)), .int .i32 ((sdecode s k).1 : Nat)]) [(8, .siter s (k + (sdecode s k).2))] := by
      rw [← hE]
      show (match Nat.blt k s.length with
        | true => Ev.ok none (.tuple [.bool true, DV.int .i64 ((k : Nat)), .int .i32 ((sdecode s k).1 : Nat)]) [(8, .siter s (k + (sdecode s k).2))]
        | false => Ev.ok none (.tuple [.bool false]) []) = _
      rw [hb]
    subst this
    clear hE
    cases hd : isD (s.getD k 0) with
    | true =>
      rw [rune_yes s k hd]
      dsimp only
      have hd2 := (isD_iff _).1 hd
      have hst : valD (s.take (k + 1)) 0 = 10 * valD (s.take k) 0 + (((s.getD k 0).toNat : Int) - 48) := by
        rw [take_snoc s k 0 hk, valD_append]; rfl
      have hall : (s.take (k + 1)).all isD = true := all_tk 0 hk h2 hd
      generalize hcc : (s.getD k 0).toNat = c at *
      conv => whnf
      repeat' (first
        | (refine ⟨fun hg => ?_, fun hg => ?_⟩ <;> first | contradiction | (conv => whnf))
        | (refine Or.inl ?_; conv => whnf)
        | (refine And.intro ?_ ?_; kernel_rfl; conv => whnf))
      any_goals
        rw [show intS s = (0, false) from by
          unfold intS
          rw [if_neg]
          intro h
          rw [Bool.and_eq_true, decide_eq_true_eq] at h
          first
          | (have := of_decide_eq_true (show decide ((9 : Int) < (s.length : Int)) = true from ‹(bif false then true else decide ((9 : Int) < (s.length : Int))) = true›); omega)
          | (have := of_decide_eq_true (show decide ((57 : Int) < (c : Int)) = true from ‹(bif false then true else decide ((57 : Int) < (c : Int))) = !false›); omega)
          | (have := of_decide_eq_true (show decide ((c : Int) < 48) = true from ‹decide ((c : Int) < 48) = !false›); omega)]
        rfl
      have h9 := of_decide_eq_false (show decide ((9 : Int) < (s.length : Int)) = false from hg)
      have hv := valD_bd (s.take k) 0 0 h2 (Int.le_refl _) (by decide)
      have hp : (10 : Int) ^ (0 + (s.take k).length) ≤ 10 ^ 9 := by
        have : (10 : Nat) ^ (0 + (s.take k).length) ≤ 10 ^ 9 := Nat.pow_le_pow_right (by decide) (by simp; omega)
        exact_mod_cast this
      have hp9 : (10 : Int) ^ 9 = 1000000000 := by decide
      have ew : IntKind.i64.wrap (IntKind.i64.wrap (10 * valD (s.take k) 0) + IntKind.i64.wrap (IntKind.i32.wrap ((c : Int) - 48))) = valD (s.take (k + 1)) 0 := by
        rw [hst, wrap_i32 (by omega) (by omega), wrap_in (n := (c : Int) - 48) (by omega) (by omega), wrap_in (n := 10 * valD (s.take k) 0) (by omega) (by omega), wrap_in (by omega) (by omega)]
      rw [ew]
      exact ⟨k + 1, rfl, rfl, rfl, ⟨hk, hall, fun _ => by omega⟩, by omega⟩
    | false =>
      have hr := rune_no s k hd
      generalize (sdecode s k).1 = r at *
      generalize (sdecode s k).2 = q at *
      have hno : s.all isD = false := all_no 0 hk hd
      conv => whnf
      repeat' (first
        | (refine ⟨fun hg => ?_, fun hg => ?_⟩ <;> first | contradiction | (conv => whnf))
        | (refine Or.inl ?_; conv => whnf)
        | (refine And.intro ?_ ?_; kernel_rfl; conv => whnf))
      any_goals
        rw [show intS s = (0, false) from by
          unfold intS
          rw [hno]; rfl]
        rfl
      exfalso
      have h57 := of_decide_eq_false (show decide ((57 : Int) < (r : Int)) = false from ‹(bif false then true else decide ((57 : Int) < (r : Int))) = false›)
      have h48 := of_decide_eq_false ‹decide ((r : Int) < 48) = false›
      omega
  · have hb : Nat.blt k s.length = false := by
      cases h : Nat.blt k s.length with
      | false => rfl
      | true => exact absurd (Nat.le_of_ble_eq_true h) hk
    have hks : k = s.length := by omega
    subst hks
    dsimp only
    conv => whnf
    generalize hE : evalOp _ _ _ _ = E
    have : E = .ok none (.tuple [.bool false]) [] := by
      rw [← hE]
      show (match Nat.blt s.length s.length with
        | true => Ev.ok none (.tuple [.bool true, DV.int .i64 ((s.length : Nat)), .int .i32 ((sdecode s s.length).1 : Nat)]) [(8, .siter s (s.length + (sdecode s s.length).2))]
        | false => Ev.ok none (.tuple [.bool false]) []) = _
      rw [hb]
    subst this
    clear hE
    rw [List.take_length] at h2
    have hl9 : s.length ≤ 9 := by
      by_cases h0 : 0 < s.length
      · exact h3 h0
      · omega
    have hi : intS s = (valD s 0, decide (s ≠ []) && (decide (s.length = 1) || !decide (s.getD 0 0 = 48))) := by
      unfold intS
      rw [if_pos (by rw [h2, decide_eq_true hl9]; rfl)]
    rw [hi]
    conv => whnf
    repeat' (first
      | (refine ⟨fun hg => ?_, fun hg => ?_⟩ <;> first | contradiction | (conv => whnf))
      | (refine Or.inl ?_; conv => whnf)
      | (refine And.intro ?_ ?_; kernel_rfl; conv => whnf))
    · have h0 : s ≠ [] := of_decide_eq_true (show decide (s ≠ []) = true from ‹decide (s ≠ (⟨#[]⟩ : ByteArray).data.toList) = true›)
      have hl0 := List.length_pos_iff.2 h0
      have hl1 := of_decide_eq_false hg
      refine ⟨⟨by decide, by omega⟩, ?_⟩
      conv => whnf
      repeat' (first
        | (refine ⟨fun hg => ?_, fun hg => ?_⟩ <;> first | contradiction | (conv => whnf))
        | (refine Or.inl ?_; conv => whnf)
        | (refine And.intro ?_ ?_; kernel_rfl; conv => whnf))
      rw [List.take_length, decide_eq_true h0, decide_eq_false (show ¬ s.length = 1 by omega)]
      have h48 : (((s.getD 0 0).toNat : Int) ≠ 48) = ¬ s.getD 0 0 = 48 := by
        apply propext
        have h48 : (48 : UInt8).toNat = 48 := rfl
        exact ⟨fun h e => h (by rw [e]; rfl), fun h e => h (UInt8.toNat_inj.1 (by omega))⟩
      show DV.tuple [DV.int .i64 (valD s 0), .bool (decide (((s.getD 0 0).toNat : Int) ≠ 48))] = .tuple [DV.int .i64 (valD s 0), .bool (!decide (s.getD 0 0 = 48))]
      rw [← decide_not]
      congr 3
      simp only [h48]
    · have h0 : s ≠ [] := of_decide_eq_true (show decide (s ≠ []) = true from ‹decide (s ≠ (⟨#[]⟩ : ByteArray).data.toList) = true›)
      have hl1 := of_decide_eq_true (show decide ((s.length : Int) = 1) = true from hg)
      rw [List.take_length, decide_eq_true h0, decide_eq_true (show s.length = 1 by omega)]; rfl
    · have h0 := of_decide_eq_false (show decide (s ≠ []) = false from hg)
      rw [List.take_length, decide_eq_false h0]; rfl
end Sh

set_option maxRecDepth 100000
set_option linter.unusedSimpArgs false
set_option linter.unusedVariables false
namespace Sh
open Go Go.Proofs
def takO (ws : List (List UInt8)) (wr : Bool) : DObj := .box 2 (.agg [strs ws, .bool wr])
def numT : List (List UInt8) → Int
  | [] => 0
  | w :: _ => (intS w).1
def wrT (wr : Bool) : List (List UInt8) → Bool
  | [] => true
  | w :: _ => bif wr then true else !(intS w).2
theorem window_tail {α β : Type} (f : α → β) (a : α) (l : List α) : window ((a :: l).map f) (Int.toNat 1) (Int.toNat ((((a :: l).map f).length : Int) - 1)) = l.map f := by
  unfold window
  rw [show Int.toNat 1 = 1 from rfl, List.map_cons, List.drop_succ_cons, List.drop_zero, List.take_of_length_le (by simp)]
theorem c_number (ws : List (List UInt8)) (wr : Bool) (h : ∀ w ∈ ws, w.length < 1073741824) : HCall Tryz.prog GC 109 [.bptr 1 0] [(1, takO ws wr)] (DV.int .i64 (numT ws)) [(1, takO (ws.drop 1) (wrT wr ws))] := by
  refine hCall_ofR dh109 rfl (by kernel_rfl) (by kernel_rfl) ?_
  conv => whnf
  cases ws with
  | nil =>
    refine ⟨fun _ => ?_, fun hg => ?_⟩
    · conv => whnf
      exact ⟨rfl, rfl⟩
    · exact absurd hg (by decide)
  | cons w r =>
    have hw := h w (List.mem_cons_self ..)
    refine ⟨fun hg => ?_, fun hg => ?_⟩
    · exfalso
      have := of_decide_eq_true hg
      simp only [List.map_cons, List.length_cons] at this
      omega
    · conv => whnf
      refine ⟨⟨by decide, by simp, rfl⟩, ?_⟩
      repeat' (first
        | (refine ⟨fun hg => ?_, fun hg => ?_⟩ <;> first | contradiction | (conv => whnf))
        | (refine Or.inl ?_; conv => whnf)
        | (refine ⟨_, c_integer w hw, ?_⟩; conv => whnf)
        | (refine And.intro ?_ ?_; kernel_rfl; conv => whnf))
      refine ⟨⟨by decide, by simp; omega, by omega, fun e he => by obtain ⟨x, _, rfl⟩ := List.mem_map.1 he; rfl⟩, ?_⟩
      rw [window_tail]
      conv => whnf
      refine ⟨fun hg => ?_, fun hg => ?_⟩
      · have hg : wr = false := hg
        subst hg
        conv => whnf
        exact ⟨rfl, rfl⟩
      · have hg : wr = true := hg
        subst hg
        conv => whnf
        exact ⟨rfl, rfl⟩
end Sh

set_option maxRecDepth 100000
set_option linter.unusedSimpArgs false
set_option linter.unusedVariables false
namespace Go.Proofs
open Go.Shelf
def Tryz.lays104_ren : Go.Shelf.Ren := ⟨fun | 104 => 107 | 211 => 133 | 207 => 145 | n => n, fun | 9 => 9 | 4 => 4 | 24 => 152 | 3 => 3 | n => n, fun | n => n⟩
theorem Tryz.lays104 : Go.Proofs.Lays.n104 Tryz.prog Tryz.lays104_ren := {
  mixed := by kernel_rfl
  f104 := Tryz.func107.trans (congrArg some (by kernel_rfl))
  f207 := Tryz.func145.trans (congrArg some (by kernel_rfl))
  f211 := Tryz.func133.trans (congrArg some (by kernel_rfl))
  t3 := Tryz.underlying3
  a3 := Tryz.isAgg3
  z3 := Tryz.sizeOf3
  v3 := Tryz.zeroValue3
  t4 := Tryz.underlying4
  a4 := Tryz.isAgg4
  z4 := Tryz.sizeOf4
  v4 := Tryz.zeroValue4
  t9 := Tryz.underlying9
  a9 := Tryz.isAgg9
  z9 := Tryz.sizeOf9
  v9 := Tryz.zeroValue9
  t24 := Tryz.underlying152
  a24 := Tryz.isAgg152
  z24 := Tryz.sizeOf152
  v24 := Tryz.zeroValue152 }
def Tryz.lays137_ren : Go.Shelf.Ren := ⟨fun | 137 => 132 | 217 => 144 | 266 => 156 | n => n, fun | 9 => 9 | 5 => 5 | 3 => 3 | n => n, fun | n => n⟩
theorem Tryz.lays137 : Go.Proofs.Lays.n137 Tryz.prog Tryz.lays137_ren := {
  mixed := by kernel_rfl
  f137 := Tryz.func132.trans (congrArg some (by kernel_rfl))
  f217 := Tryz.func144.trans (congrArg some (by kernel_rfl))
  f266 := Tryz.func156.trans (congrArg some (by kernel_rfl))
  t3 := Tryz.underlying3
  a3 := Tryz.isAgg3
  z3 := Tryz.sizeOf3
  v3 := Tryz.zeroValue3
  t5 := Tryz.underlying5
  a5 := Tryz.isAgg5
  z5 := Tryz.sizeOf5
  v5 := Tryz.zeroValue5
  t9 := Tryz.underlying9
  a9 := Tryz.isAgg9
  z9 := Tryz.sizeOf9
  v9 := Tryz.zeroValue9 }
def Tryz.lays146_ren : Go.Shelf.Ren := ⟨fun | 146 => 108 | 221 => 134 | 268 => 146 | 138 => 147 | 143 => 148 | 195 => 157 | 197 => 158 | 218 => 159 | 219 => 160 | 260 => 166 | 217 => 144 | 225 => 167 | 224 => 168 | 267 => 169 | 266 => 156 | 314 => 172 | n => n, fun | 9 => 9 | 31 => 109 | 3 => 3 | 4 => 4 | 0 => 0 | 105 => 209 | 21 => 21 | 5 => 5 | 46 => 215 | 119 => 218 | 139 => 221 | 138 => 220 | 146 => 222 | 51 => 213 | n => n, fun | 1 => 1 | 3 => 3 | 4 => 4 | n => n⟩
theorem Tryz.lays146 : Go.Proofs.Lays.n146 Tryz.prog Tryz.lays146_ren := {
  mixed := by kernel_rfl
  f138 := Tryz.func147.trans (congrArg some (by kernel_rfl))
  f143 := Tryz.func148.trans (congrArg some (by kernel_rfl))
  f146 := Tryz.func108.trans (congrArg some (by kernel_rfl))
  f195 := Tryz.func157.trans (congrArg some (by kernel_rfl))
  f197 := Tryz.func158.trans (congrArg some (by kernel_rfl))
  f217 := Tryz.func144.trans (congrArg some (by kernel_rfl))
  f218 := Tryz.func159.trans (congrArg some (by kernel_rfl))
  f219 := Tryz.func160.trans (congrArg some (by kernel_rfl))
  f221 := Tryz.func134.trans (congrArg some (by kernel_rfl))
  f224 := Tryz.func168.trans (congrArg some (by kernel_rfl))
  f225 := Tryz.func167.trans (congrArg some (by kernel_rfl))
  f260 := Tryz.func166.trans (congrArg some (by kernel_rfl))
  f266 := Tryz.func156.trans (congrArg some (by kernel_rfl))
  f267 := Tryz.func169.trans (congrArg some (by kernel_rfl))
  f268 := Tryz.func146.trans (congrArg some (by kernel_rfl))
  f314 := Tryz.func172.trans (congrArg some (by kernel_rfl))
  t0 := Tryz.underlying0
  a0 := Tryz.isAgg0
  z0 := Tryz.sizeOf0
  v0 := Tryz.zeroValue0
  t3 := Tryz.underlying3
  a3 := Tryz.isAgg3
  z3 := Tryz.sizeOf3
  v3 := Tryz.zeroValue3
  t4 := Tryz.underlying4
  a4 := Tryz.isAgg4
  z4 := Tryz.sizeOf4
  v4 := Tryz.zeroValue4
  t5 := Tryz.underlying5
  a5 := Tryz.isAgg5
  z5 := Tryz.sizeOf5
  v5 := Tryz.zeroValue5
  t9 := Tryz.underlying9
  a9 := Tryz.isAgg9
  z9 := Tryz.sizeOf9
  v9 := Tryz.zeroValue9
  t21 := Tryz.underlying21
  a21 := Tryz.isAgg21
  z21 := Tryz.sizeOf21
  v21 := Tryz.zeroValue21
  t31 := Tryz.underlying109
  a31 := Tryz.isAgg109
  z31 := Tryz.sizeOf109
  v31 := Tryz.zeroValue109
  t46 := Tryz.underlying215
  a46 := Tryz.isAgg215
  z46 := Tryz.sizeOf215
  v46 := Tryz.zeroValue215
  t51 := Tryz.underlying213
  a51 := Tryz.isAgg213
  z51 := Tryz.sizeOf213
  v51 := Tryz.zeroValue213
  t105 := Tryz.underlying209
  a105 := Tryz.isAgg209
  z105 := Tryz.sizeOf209
  v105 := Tryz.zeroValue209
  t119 := Tryz.underlying218
  a119 := Tryz.isAgg218
  z119 := Tryz.sizeOf218
  t138 := Tryz.underlying220
  a138 := Tryz.isAgg220
  z138 := Tryz.sizeOf220
  v138 := Tryz.zeroValue220
  t139 := Tryz.underlying221
  a139 := Tryz.isAgg221
  z139 := Tryz.sizeOf221
  v139 := Tryz.zeroValue221
  t146 := Tryz.underlying222
  a146 := Tryz.isAgg222
  z146 := Tryz.sizeOf222
  v146 := Tryz.zeroValue222
  g1 := by kernel_rfl
  g3 := by kernel_rfl
  g4 := by kernel_rfl }
theorem Tryz.enters_CutSuffix : Sh.Enters Tryz.prog 107 := enters_of Tryz.lays104.f104 (by kernel_rfl) rfl
theorem Tryz.enters_IndexByte : Sh.Enters Tryz.prog 132 := enters_of Tryz.lays137.f137 (by kernel_rfl) rfl
theorem Tryz.enters_Split : Sh.Enters Tryz.prog 108 := enters_of Tryz.lays146.f146 (by kernel_rfl) rfl
end Go.Proofs
namespace Sh
open Go Go.Proofs
theorem relPs_two {M : Mem} {a b : DV} {vs : Array Value} (h : RelPs M [a, b] vs) : ∃ x y, vs = #[x, y] ∧ RelP M a x ∧ RelP M b y := by
  obtain ⟨r1, r2⟩ := h
  simp only [List.length_cons, List.length_nil] at r1
  refine ⟨vs.getD 0 Go.undef, vs.getD 1 Go.undef, ?_, r2 0 (by simp), r2 1 (by simp)⟩
  apply Array.ext
  · simpa using r1.symm
  · intro i i1 i2
    have : i = 0 ∨ i = 1 := by simp at i2; omega
    rcases this with rfl | rfl <;> simp [Array.getD_eq_getD_getElem?, i1]
theorem relP_str {M : Mem} {s : List UInt8} {v : Value} (h : RelP M (.str s) v) : v = .string ⟨s.toArray⟩ := by cases h; rfl
theorem relP_int {M : Mem} {k : IntKind} {n : Int} {v : Value} (h : RelP M (.int k n) v) : v = .int k n := by cases h; rfl
theorem s_CutSuffix (s p : List UInt8) (hs : s.length ≤ 1073741824) : PC 107 [.str s, .str p] (.tuple [.str (Lib.trimSuffix s p), .bool (Lib.hasSuffix s p)]) := by
  refine pure_of_calls Tryz.enters_CutSuffix (fun M w vs hG hT hM hr => ?_)
  obtain ⟨x, y, rfl, h1, h2⟩ := relPs_two hr
  rw [relP_str h1, relP_str h2]
  refine Calls.mono (Any.strings_CutSuffix Tryz.lays104 ⟨s.toArray⟩ ⟨p.toArray⟩ w (by show s.toArray.size ≤ _; simp; omega)) ?_
  rintro e w' ⟨rfl, rfl⟩
  refine after_flat hM (RowKit.Below.refl _ _) (.tuple _ _ rfl (fun i hi => ?_))
  have hi : i < 2 := hi
  have : i = 0 ∨ i = 1 := by omega
  rcases this with rfl | rfl
  · exact .str _
  · exact .bool _
theorem s_IndexByte (s : List UInt8) (c : UInt8) : PC 132 [.str s, .int .u8 (c.toNat)] (DV.int .i64 (Lib.indexByte s c)) := by
  refine pure_of_calls Tryz.enters_IndexByte (fun M w vs hG hT hM hr => ?_)
  obtain ⟨x, y, rfl, h1, h2⟩ := relPs_two hr
  rw [relP_str h1, relP_int h2]
  refine Calls.mono (Any.strings_IndexByte Tryz.lays137 ⟨s.toArray⟩ (c.toNat : Int) w) ?_
  rintro e w' ⟨rfl, rfl⟩
  have ec : ((c.toNat : Int)).toNat.toUInt8 = c := by simp
  rw [ec]
  exact after_flat hM (RowKit.Below.refl _ _) (.int _ _)
theorem splitK_C (c : UInt8) : ∀ s : List UInt8, Lib.splitK [c] 0 (Lib.count s [c]) s = splitC c s
  | [] => by rw [Lib.count_one]; rfl
  | b :: l => by
    have ih := splitK_C c l
    have hp : ∀ k (s : List UInt8), Lib.splitK [c] 0 (k + 1) s = if Lib.index s [c] == -1 then [s] else s.take ((Lib.index s [c]).toNat + 0) :: Lib.splitK [c] 0 k (s.drop ((Lib.index s [c]).toNat + [c].length)) := fun k s => rfl
    by_cases h : b = c
    · subst h
      rw [Lib.count_cons_eq, Nat.add_comm, hp]
      have hix : Lib.index (b :: l) [b] = 0 := by rw [Lib.index]; simp [List.isPrefixOf]
      rw [hix, splitC, if_pos rfl, ← ih]
      rfl
    · rw [Lib.count_cons_ne b c l h, splitC, if_neg h, ← ih]
      have hpre : ([c] : List UInt8).isPrefixOf (b :: l) = false := by simp [List.isPrefixOf, Ne.symm h]
      have hix : Lib.index (b :: l) [c] = if Lib.index l [c] == -1 then -1 else Lib.index l [c] + 1 := by rw [Lib.index, hpre]; simp
      by_cases hm : Lib.index l [c] = -1
      · rw [Lib.count_miss hm]; rfl
      · have hge := Lib.index_ge l [c]
        obtain ⟨i, hi⟩ : ∃ i : Nat, Lib.index l [c] = i := ⟨(Lib.index l [c]).toNat, by omega⟩
        rw [Lib.count_hit (by simp) hi, Nat.add_comm, hp, hp, hix, hi]
        have hn1 : ((i : Int) == -1) = false := beq_eq_false_iff_ne.2 (by omega)
        have hn2 : ((i : Int) + 1 == -1) = false := beq_eq_false_iff_ne.2 (by omega)
        simp only [hn1, hn2, Bool.false_eq_true, if_false, Int.toNat_natCast, show ((i : Int) + 1).toNat = i + 1 by omega, Nat.add_zero, List.take_succ_cons, glue, List.singleton_append, List.length_cons, List.length_nil]
        rfl
theorem s_Split (s : List UInt8) (c : UInt8) (hs : s.length ≤ 1073741824) : PC 108 [.str s, .str [c]] (strs (splitC c s)) := by
  refine pure_of_calls Tryz.enters_Split (fun M w vs hG hT hM hr => ?_)
  obtain ⟨x, y, rfl, h1, h2⟩ := relPs_two hr
  rw [relP_str h1, relP_str h2]
  obtain ⟨m, hm⟩ := (hT 1 _ rfl).2 rfl
  refine Calls.mono (Any.strings_Split Tryz.lays146 (by kernel_rfl) ⟨s.toArray⟩ ⟨#[c]⟩ m w (by show s.toArray.size < _; simp; omega) hm (Nat.le_refl 1)) ?_
  have hd := Lib.splitB_data ⟨#[c]⟩ 0 (Lib.countB ⟨s.toArray⟩ ⟨#[c]⟩) ⟨s.toArray⟩
  have hd : (Lib.splitB ⟨#[c]⟩ 0 (Lib.countB ⟨s.toArray⟩ ⟨#[c]⟩) ⟨s.toArray⟩).map (·.data.toList) = splitC c s := by
    rw [hd]; exact splitK_C c s
  have hl := Lib.splitB_all ⟨#[c]⟩ (Nat.le_refl 1) 0 _ ⟨s.toArray⟩ rfl
  generalize Lib.splitB ⟨#[c]⟩ 0 (Lib.countB ⟨s.toArray⟩ ⟨#[c]⟩) ⟨s.toArray⟩ = L at *
  rw [← hl, ← hd]
  clear hd hl
  rintro e w' ⟨rfl, rfl⟩
  have hold : ∀ b o v, M b o = some v → b ≠ w.heap.size := fun b o v e e2 => by
    have h1 : b < w.heap.size := World.block_lt_of_cell? (a := ⟨b, o, none⟩) _ (hM b o v e)
    omega
  have hnew : (w.alloc (.cells (L.map Value.string).toArray (Tryz.lays146_ren.t 9))).heap[w.heap.size]? = some (.cells (L.map Value.string).toArray (Tryz.lays146_ren.t 9)) := World.alloc_heap_new w _
  refine ⟨_, fun b o => if b = w.heap.size then (L.map Value.string).toArray[o]? else M b o, rfl, fun b o v e => ?_, fun b o v e => ?_, ?_, (RowKit.Below.refl _ _).alloc (Nat.le_refl _) _, fun b o v e e0 => ?_⟩
  · show (if b = w.heap.size then _ else _) = _
    rw [if_neg (hold b o v e)]; exact e
  · by_cases hb : b = w.heap.size
    · subst hb
      have e : (if w.heap.size = w.heap.size then (L.map Value.string).toArray[o]? else M w.heap.size o) = some v := e
      rw [if_pos rfl] at e
      rw [cell_of_heap hnew]; exact e
    · have e : (if b = w.heap.size then (L.map Value.string).toArray[o]? else M b o) = some v := e
      rw [if_neg hb] at e
      have h1 := hM b o v e
      rw [World.cell?_alloc_old _ _ _ hb]; exact h1
  · have hlen : ((L.map (·.data.toList)).map DV.str).length = L.length := by simp
    have hfl : flat ((L.map (·.data.toList)).map DV.str) = (L.map (·.data.toList)).map DV.str := by
      exact flat_strs _
    have hget : ∀ i, i < L.length → ((L.map (·.data.toList)).map DV.str).getD i .undef = .str (L.getD i ByteArray.empty).data.toList := fun i hi => by simp [List.getD_eq_getElem?_getD, hi]
    have := RelP.list (M := fun b o => if b = w.heap.size then (L.map Value.string).toArray[o]? else M b o) ((L.map (·.data.toList)).map DV.str) (some ⟨w.heap.size, 0, none⟩) L.length 1 w.heap.size 0 (fun i => .string (L.getD i ByteArray.empty)) (by rw [hlen]; exact Nat.le_refl _) (.inr rfl) (fun e he => by
        obtain ⟨x, _, rfl⟩ := List.mem_map.1 he; rfl) (fun i hi => by
        rw [hfl, hlen] at hi
        show (if w.heap.size = w.heap.size then _ else _) = _
        rw [if_pos rfl]; simp [List.getD_eq_getElem?_getD, hi]) (fun i hi => by
        rw [hfl, hlen] at hi
        rw [hfl, hget i hi]
        have e := RelP.str (M := fun b o => if b = w.heap.size then (L.map Value.string).toArray[o]? else M b o) (L.getD i ByteArray.empty).data.toList
        simpa using e)
    rw [hlen] at this
    exact this
  · by_cases hb : b = w.heap.size
    · omega
    · have e : (if b = w.heap.size then (L.map Value.string).toArray[o]? else M b o) = some v := e
      rw [if_neg hb, e0] at e; cases e
end Sh

set_option maxRecDepth 100000
namespace Sh
open Go
def dc106 : DFunc := ⟨4, 1, [(.tmp 2)], (.seq (.ops false [⟨(some 1), (.box 1 (.tmp 0)), none, []⟩, ⟨(some 2), (.mov (.const .nilFunc)), none, []⟩]) (.seq (.ops false [⟨(some 3), (.mkfunc 131 [(.tmp 1)]), none, []⟩, ⟨(some 2), (.mov (.tmp 3)), none, []⟩]) .ret))⟩
theorem dh106 : cProg Go.Proofs.Tryz.prog ⟨[], [], []⟩ 106 = some dc106 := by kernel_rfl
def db131_0 : DC := (.seq (.seq (.ops false [⟨(some 5), (.load none (.tmp 1)), none, []⟩, ⟨(some 6), (.lenS (.tmp 5)), none, []⟩, ⟨(some 7), (.bin .gtr (.tmp 6) (.const (.int .i64 0))), none, []⟩]) (.cond (.tmp 7) .skip (.exit 0))) (.block 1 none (.seq (.ops false [⟨(some 3), (.mov (.const (.string ⟨#[]⟩))), none, []⟩]) (.seq (.seq (.ops false [⟨(some 8), (.load none (.tmp 1)), none, []⟩, ⟨(some 9), (.call (.func 132) [(.tmp 8), (.const (.int .u8 10))]), none, []⟩, ⟨(some 4), (.mov (.tmp 9)), none, []⟩]) (.seq (.ops false [⟨(some 10), (.mov (.tmp 4)), none, []⟩, ⟨(some 11), (.bin .geq (.tmp 10) (.const (.int .i64 0))), none, []⟩]) (.cond (.tmp 11) (.ops true [⟨(some 12), (.load none (.tmp 1)), none, []⟩, ⟨(some 13), (.mov (.tmp 4)), none, []⟩, ⟨(some 14), (.bin .add (.tmp 13) (.const (.int .i64 1))), none, [1]⟩, ⟨(some 15), (.sliceS (.tmp 12) none (some (.tmp 14))), none, [0, 2, 1]⟩, ⟨(some 16), (.load none (.tmp 1)), none, []⟩, ⟨(some 17), (.mov (.tmp 4)), none, []⟩, ⟨(some 18), (.bin .add (.tmp 17) (.const (.int .i64 1))), none, [5]⟩, ⟨(some 19), (.sliceS (.tmp 16) (some (.tmp 18)) none), none, [4, 6, 5]⟩, ⟨(some 3), (.mov (.tmp 15)), none, [3, 0, 2, 1]⟩, ⟨none, (.store 1 (.tmp 1) (.tmp 19)), none, [7, 4, 6, 5, 8, 3, 0, 2, 1]⟩]) (.ops false [⟨(some 20), (.load none (.tmp 1)), none, []⟩, ⟨(some 3), (.mov (.tmp 20)), none, []⟩, ⟨none, (.store 1 (.tmp 1) (.const (.string ⟨#[]⟩))), none, []⟩])))) (.seq (.ops false [⟨(some 21), (.mov (.tmp 0)), none, []⟩, ⟨(some 22), (.mov (.tmp 3)), none, []⟩, ⟨(some 23), (.call (.tmp 21) [(.tmp 22)]), none, []⟩, ⟨(some 24), (.un .not (.tmp 23)), none, []⟩]) (.cond (.tmp 24) .ret .skip))))))
def dk131_0 : Keep := ⟨[], [0, 1], [0, 19]⟩
def dc131 : DFunc := ⟨25, 2, [], (.block 0 (some ⟨[], [], [0, 19]⟩) (.loop dk131_0 db131_0))⟩
theorem dh131 : cProg Go.Proofs.Tryz.prog ⟨[(0, ⟨[], [0, 1], [0, 19]⟩)], [(0, ⟨[], [], [0, 19]⟩)], []⟩ 131 = some dc131 := by kernel_rfl
end Sh

set_option maxRecDepth 100000
set_option linter.unusedSimpArgs false
set_option linter.unusedVariables false
namespace Sh
open Go Go.Proofs
def linesC : List UInt8 → List (List UInt8)
  | [] => []
  | c :: r => if c = 10 then [c] :: linesC r else glue [c] (linesC r)
theorem lines_idx : ∀ s : List UInt8, s ≠ [] → (Lib.indexByte s 10 = -1 ∧ linesC s = [s]) ∨ ∃ i : Nat, Lib.indexByte s 10 = i ∧ i < s.length ∧ linesC s = s.take (i + 1) :: linesC (s.drop (i + 1))
  | [], h => absurd rfl h
  | b :: l, _ => by
    by_cases hb : b = 10
    · subst hb
      exact .inr ⟨0, rfl, by simp, by simp [linesC]⟩
    · have hbe : (b == (10 : UInt8)) = false := beq_eq_false_iff_ne.2 hb
      have e1 : Lib.indexByte (b :: l) 10 = if Lib.indexByte l 10 == -1 then -1 else Lib.indexByte l 10 + 1 := by rw [Lib.indexByte, hbe]; rfl
      have e2 : linesC (b :: l) = glue [b] (linesC l) := by rw [linesC, if_neg hb]
      by_cases hl : l = []
      · subst hl
        exact .inl ⟨by rw [e1]; rfl, by rw [e2]; rfl⟩
      · rcases lines_idx l hl with ⟨h1, h2⟩ | ⟨i, h1, h2, h3⟩
        · exact .inl ⟨by rw [e1, h1]; rfl, by rw [e2, h2]; rfl⟩
        · refine .inr ⟨i + 1, ?_, by simp; omega, ?_⟩
          · have hn : ((i : Int) == -1) = false := beq_eq_false_iff_ne.2 (by omega)
            rw [e1, h1, hn]; simp
          · rw [e2, h3]; rfl
theorem window_take (s : List UInt8) (k : Nat) (h : k ≤ s.length) : window s 0 k = s.take k := by simp [window]
theorem window_drop (s : List UInt8) (k : Nat) : window s k (s.length - k) = s.drop k := by unfold window; rw [List.take_of_length_le (by simp)]
def lns (s : List UInt8) : List (List DV) := (linesC s).map fun l => [DV.str l]
theorem linesIt (s : List UInt8) (hs : s.length < 1073741824) : ISeqW Tryz.prog GC 131 [.bptr 19 0] [(19, .box 1 (.str s))] (lns s) := by
  refine iseqW_of dh131 rfl rfl (by kernel_rfl) rfl (fun x hx => by obtain ⟨v, _, rfl⟩ := List.mem_map.1 hx; rfl) (fun gl => ?_)
  conv => whnf
  refine dwp_loopY (P := Tryz.prog) (G := GC) (k := dk131_0) (b := db131_0) (α := List UInt8) (fun r => [(0, .dict 0), (1, .bptr 19 0)]) (fun r => [(0, .ghost (lns r) true gl), (19, .box 1 (.str r))]) (fun r => r.length < 1073741824) (fun r => r.length) s ⟨rfl, rfl, rfl⟩ hs ?_
  intro r hr
  conv => whnf
  refine ⟨fun hb => ?_, fun hb => ?_⟩
  · have hl : 0 < r.length := by have : (0 : Int) < r.length := of_decide_eq_true hb; omega
    clear hb
    have hix := lines_idx r (List.length_pos_iff.1 hl)
    conv => whnf
    repeat' (first
      | (refine ⟨fun hg => ?_, fun hg => ?_⟩ <;> first | contradiction | (conv => whnf))
      | (refine Or.inl ?_; conv => whnf)
      | (refine ⟨_, s_IndexByte r 10, ?_⟩; conv => whnf)
      | (refine And.intro ?_ ?_; kernel_rfl; conv => whnf))
    · have hg : 0 ≤ Lib.indexByte r 10 := of_decide_eq_true hg
      obtain ⟨i, h1, h2, h3⟩ : ∃ i : Nat, Lib.indexByte r 10 = i ∧ i < r.length ∧ linesC r = r.take (i + 1) :: linesC (r.drop (i + 1)) := by
        rcases hix with ⟨h1, _⟩ | h
        · omega
        · exact h
      have hL : lns r = [DV.str (r.take (i + 1))] :: lns (r.drop (i + 1)) := by unfold lns; rw [h3]; rfl
      have hdl : (r.drop (i + 1)).length < r.length := by simp; omega
      rw [hL, h1, wrap_succ i (by omega)]
      refine ⟨⟨by decide, by omega, by omega⟩, ?_⟩
      rw [show (((i + 1 : Nat) : Int) - 0).toNat = i + 1 by omega, show Int.toNat 0 = 0 from rfl, window_take r (i + 1) (by omega)]
      conv => whnf
      rw [wrap_succ i (by omega)]
      refine ⟨⟨by omega, by omega, by omega⟩, ?_⟩
      rw [show ((r.length : Int) - ((i + 1 : Nat) : Int)).toNat = r.length - (i + 1) by omega, Int.toNat_natCast, window_drop]
      conv => whnf
      generalize r.take (i + 1) = u at *
      generalize r.drop (i + 1) = q at *
      refine ⟨?_, ?_⟩
      · kernel_rfl
      conv => whnf
      refine ⟨rfl, fun b => ?_⟩
      conv => whnf
      refine ⟨fun hg => ?_, fun hg => ?_⟩
      · have hg : b = false := by simpa using hg
        subst hg
        conv => whnf
        intro e; cases e
      · have hg : b = true := by simpa using hg
        subst hg
        conv => whnf
        exact ⟨q, rfl, rfl, rfl, by omega, hdl⟩
    · have hg : ¬ 0 ≤ Lib.indexByte r 10 := of_decide_eq_false hg
      have h3 : linesC r = [r] := by
        rcases hix with ⟨_, h⟩ | ⟨i, h1, _⟩
        · exact h
        · omega
      have hL : lns r = [DV.str r] :: lns [] := by unfold lns; rw [h3]; rfl
      rw [hL]
      refine ⟨rfl, fun b => ?_⟩
      conv => whnf
      refine ⟨fun hg => ?_, fun hg => ?_⟩
      · have hg : b = false := by simpa using hg
        subst hg
        conv => whnf
        intro e; cases e
      · have hg : b = true := by simpa using hg
        subst hg
        conv => whnf
        exact ⟨[], rfl, rfl, rfl, by simp, hl⟩
  · have hl : r = [] := by have : ¬ (0 : Int) < r.length := of_decide_eq_false hb; exact List.eq_nil_of_length_eq_zero (by omega)
    subst hl
    conv => whnf
    intro _
    rfl
theorem s_Lines (s : List UInt8) : HCall Tryz.prog GC 106 [.str s] [] (.func 131 [.bptr 1 0]) [(1, .box 1 (.str s))] := by
  refine hCall_ofR dh106 rfl (by kernel_rfl) (by kernel_rfl) ?_
  conv => whnf
  exact ⟨rfl, rfl⟩
end Sh

set_option linter.unusedSimpArgs false
set_option linter.unusedVariables false
namespace Sh
open Go
def linesOf : List (List UInt8) → List (List UInt8)
  | [] => []
  | [l] => if l = [] then [] else [l]
  | h :: t => (h ++ [10]) :: linesOf t
theorem linesOf_cons (h : List UInt8) {t : List (List UInt8)} (ht : t ≠ []) : linesOf (h :: t) = (h ++ [10]) :: linesOf t := by
  cases t with
  | nil => exact absurd rfl ht
  | cons a r => rfl
theorem lines_split : ∀ s : List UInt8, linesC s = linesOf (splitC 10 s)
  | [] => rfl
  | c :: r => by
    have ih := lines_split r
    have hn := splitC_ne 10 r
    unfold linesC splitC
    by_cases h : c = 10
    · rw [if_pos h, if_pos h, linesOf_cons _ hn, ih, h]; rfl
    · rw [if_neg h, if_neg h, ih]
      cases hs : splitC 10 r with
      | nil => exact absurd hs hn
      | cons a t =>
        cases t with
        | nil =>
          simp only [linesOf, glue]
          by_cases ha : a = []
          · subst ha; rfl
          · rw [if_neg ha]; rfl
        | cons b u =>
          show glue [c] ((a ++ [10]) :: linesOf (b :: u)) = (([c] ++ a) ++ [10]) :: linesOf (b :: u)
          simp [glue]
theorem linesOf_len : ∀ (rows : List (List UInt8)) (m : Nat), rows.length = m + 1 → (linesOf rows).length = m + (if rows.getD m [] = [] then 0 else 1)
  | [], m, h => by simp at h
  | [l], m, h => by
    have : m = 0 := by simp at h; omega
    subst this
    unfold linesOf
    by_cases hl : l = [] <;> simp [hl]
  | h :: a :: t, m, hm => by
    obtain ⟨k, rfl⟩ : ∃ k, m = k + 1 := ⟨m - 1, by simp at hm; omega⟩
    have := linesOf_len (a :: t) k (by simpa using hm)
    rw [linesOf_cons h (by simp), List.length_cons, this]
    simp only [List.getD_cons_succ]; omega
theorem linesOf_get : ∀ (rows : List (List UInt8)) (m i : Nat), rows.length = m + 1 → i < m → (linesOf rows).getD i [] = rows.getD i [] ++ [10]
  | [], m, i, h, _ => by simp at h
  | [l], m, i, h, hi => by simp at h; omega
  | h :: a :: t, m, i, hm, hi => by
    obtain ⟨k, rfl⟩ : ∃ k, m = k + 1 := ⟨m - 1, by omega⟩
    rw [linesOf_cons h (by simp)]
    cases i with
    | zero => rfl
    | succ i =>
      rw [List.getD_cons_succ, List.getD_cons_succ]
      exact linesOf_get (a :: t) k i (by simpa using hm) (by omega)
theorem linesOf_last : ∀ (rows : List (List UInt8)) (m : Nat), rows.length = m + 1 → rows.getD m [] ≠ [] → (linesOf rows).getD m [] = rows.getD m []
  | [], m, h, _ => by simp at h
  | [l], m, h, hl => by
    have : m = 0 := by simp at h; omega
    subst this
    have hl : l ≠ [] := hl
    unfold linesOf
    rw [if_neg hl]
  | h :: a :: t, m, hm, hl => by
    obtain ⟨k, rfl⟩ : ∃ k, m = k + 1 := ⟨m - 1, by simp at hm; omega⟩
    rw [linesOf_cons h (by simp)]
    exact linesOf_last (a :: t) k (by simpa using hm) hl
theorem splitC_not (b : UInt8) : ∀ (s : List UInt8), ∀ x ∈ splitC b s, b ∉ x
  | [], x, hx => by simp [splitC] at hx; subst hx; simp
  | c :: r, x, hx => by
    have ih := splitC_not b r
    unfold splitC at hx
    by_cases h : c = b
    · rw [if_pos h] at hx
      rcases List.mem_cons.1 hx with rfl | hx
      · simp
      · exact ih x hx
    · rw [if_neg h] at hx
      cases hs : splitC b r with
      | nil => exact absurd hs (splitC_ne b r)
      | cons a t =>
        rw [hs] at hx ih
        simp only [glue] at hx
        rcases List.mem_cons.1 hx with rfl | hx
        · have := ih a (List.mem_cons_self ..)
          simp only [List.cons_append, List.nil_append, List.mem_cons, not_or]
          exact ⟨fun e => h e.symm, this⟩
        · exact ih x (List.mem_cons_of_mem _ hx)
theorem cut_yes (l : List UInt8) : Lib.trimSuffix (l ++ [10]) [10] = l ∧ Lib.hasSuffix (l ++ [10]) [10] = true := by
  have h : Lib.hasSuffix (l ++ [10]) [10] = true := by unfold Lib.hasSuffix; simp
  refine ⟨?_, h⟩
  unfold Lib.trimSuffix
  rw [if_pos h]; simp
theorem cut_no (l : List UInt8) (h : (10 : UInt8) ∉ l) : Lib.trimSuffix l [10] = l ∧ Lib.hasSuffix l [10] = false := by
  have h2 : Lib.hasSuffix l [10] = false := by
    cases e : Lib.hasSuffix l [10] with
    | false => rfl
    | true =>
      unfold Lib.hasSuffix at e
      rw [List.isSuffixOf_iff_suffix] at e
      obtain ⟨t, rfl⟩ := e
      exact absurd (by simp : (10 : UInt8) ∈ t ++ [10]) h
  refine ⟨?_, h2⟩
  unfold Lib.trimSuffix
  rw [h2]; rfl
def wrK (D : List (List UInt8)) : Nat → Bool
  | 0 => false
  | k + 1 => wrT (wrK D k) (D.drop k)
def numK (D : List (List UInt8)) (k : Nat) : Int := numT (D.drop k)
theorem wrK_true {D : List (List UInt8)} {k : Nat} (h : wrK D k = true) : wrK D (k + 1) = true := by
  unfold wrK; rw [h]; cases D.drop k <;> rfl
theorem wrK_false : ∀ {D : List (List UInt8)} {k : Nat}, wrK D k = false ↔ k ≤ D.length ∧ (D.take k).all (fun x => (intS x).2) = true
  | D, 0 => by simp [wrK]
  | D, k + 1 => by
    have ih := wrK_false (D := D) (k := k)
    by_cases hk : k < D.length
    · have hd := drop_getD D k [] hk
      have e1 : wrK D (k + 1) = (bif wrK D k then true else !(intS (D.getD k [])).2) := by rw [wrK, hd]; rfl
      have e2 : (D.take (k + 1)).all (fun x => (intS x).2) = ((D.take k).all (fun x => (intS x).2) && (intS (D.getD k [])).2) := by
        rw [take_snoc D k [] hk, List.all_append]; simp [List.all]
      rw [e1, e2]
      cases hw : wrK D k with
      | true =>
        refine ⟨fun h => Bool.noConfusion h, fun h => ?_⟩
        rw [Bool.and_eq_true] at h
        have := ih.2 ⟨by omega, h.2.1⟩
        rw [hw] at this; cases this
      | false =>
        have h1 := ih.1 hw
        rw [h1.2]
        cases (intS (D.getD k [])).2 <;> simp <;> omega
    · refine ⟨fun h => ?_, fun h => by omega⟩
      have : D.drop k = [] := List.drop_eq_nil_iff.2 (by omega)
      rw [wrK, this] at h; cases h
def ptK (D : List (List UInt8)) (j : Nat) : List Pt := rng j fun t => ⟨numK D (2 + 2 * t), numK D (2 + 2 * t + 1)⟩
theorem ptK_succ (D : List (List UInt8)) (j : Nat) : ptK D (j + 1) = ptK D j ++ [⟨numK D (2 + 2 * j), numK D (2 + 2 * j + 1)⟩] := rng_succ _ _
theorem ptK_len (D : List (List UInt8)) (j : Nat) : (ptK D j).length = j := rng_len _ _
theorem all_int (l : List (List UInt8)) : l.all (fun x => (intS x).2) = l.all (fun x => (digS x).2) := by
  congr 1; funext x; exact (intS_dig x).1
theorem numK_get {D : List (List UInt8)} (h : D.all (fun x => (intS x).2) = true) {k : Nat} (hk : k < D.length) : numK D k = (digS (D.getD k [])).1 := by
  have h1 : (intS (D.getD k [])).2 = true := List.all_eq_true.1 h _ (getD_in [] hk)
  unfold numK
  rw [drop_getD D k [] hk]
  show (intS (D.getD k [])).1 = _
  exact (intS_dig _).2 (by rw [← (intS_dig _).1]; exact h1)
theorem ptsW_rng : ∀ (j : Nat) (f : Nat → Int), ptsW (rng (2 * j) f) = rng j fun t => ⟨f (2 * t), f (2 * t + 1)⟩
  | 0, f => rfl
  | j + 1, f => by
    have e1 : rng (2 * (j + 1)) f = f 0 :: f 1 :: rng (2 * j) (fun t => f (t + 2)) := by
      unfold rng
      rw [show 2 * (j + 1) = 2 * j + 1 + 1 by omega, List.range_succ_eq_map, List.range_succ_eq_map]
      simp [Function.comp_def]
    have e2 : rng (j + 1) (fun t => (⟨f (2 * t), f (2 * t + 1)⟩ : Pt)) = ⟨f 0, f 1⟩ :: rng j (fun t => ⟨f (2 * t + 2), f (2 * t + 1 + 2)⟩) := by
      unfold rng
      rw [List.range_succ_eq_map]
      simp [Function.comp_def, Nat.mul_add]
      try (intro a _; constructor <;> congr 1 <;> omega)
    rw [e1, e2]
    simp only [ptsW]
    rw [ptsW_rng j (fun t => f (t + 2))]
theorem cel_read (w : List (List UInt8)) (j : Nat) (h1 : (w.drop 1).length ≤ 2 + 2 * j) (h2 : wrK (w.drop 1) (2 + 2 * j) = false) : celW w = ⟨ptK (w.drop 1) j, numK (w.drop 1) 0, numK (w.drop 1) 1⟩ := by
  obtain ⟨h3, h4⟩ := wrK_false.1 h2
  have hl : (w.drop 1).length = 2 + 2 * j := by omega
  rw [List.take_of_length_le (by omega)] at h4
  have hnum : numsW w = rng (2 + 2 * j) (numK (w.drop 1)) := by
    show (w.drop 1).map (fun x => (digS x).1) = (List.range (2 + 2 * j)).map (numK (w.drop 1))
    apply List.ext_getElem
    · rw [List.length_map, List.length_map, List.length_range]; exact hl
    · intro i i1 i2
      have hi : i < (w.drop 1).length := by rw [List.length_map] at i1; exact i1
      have e := numK_get h4 hi
      rw [List.getElem_map, List.getElem_map, List.getElem_range, e, List.getD_eq_getElem?_getD, List.getElem?_eq_getElem hi]
      rfl
  unfold celW
  rw [hnum]
  have hg : ∀ i, i < 2 + 2 * j → (rng (2 + 2 * j) (numK (w.drop 1))).getD i 0 = numK (w.drop 1) i := fun i hi => rng_getD _ _ hi
  rw [hg 0 (by omega), hg 1 (by omega)]
  congr 1
  have hd : (rng (2 + 2 * j) (numK (w.drop 1))).drop 2 = rng (2 * j) (fun t => numK (w.drop 1) (t + 2)) := by
    unfold rng
    rw [show 2 + 2 * j = 2 * j + 1 + 1 by omega, List.range_succ_eq_map, List.range_succ_eq_map]
    simp [Function.comp_def]
  rw [hd, ptsW_rng]
  unfold ptK
  congr 1
  funext t
  congr 1 <;> (congr 1; omega)
theorem wrong_read (w : List (List UInt8)) (j : Nat) (h1 : (w.drop 1).length ≤ 2 + 2 * j) (h0 : j = 0 ∨ 2 * j < (w.drop 1).length) : wrongW w = (decide (w.getD 0 [] ≠ [99, 101, 108, 108]) || wrK (w.drop 1) (2 + 2 * j)) := by
  unfold wrongW badW
  have hl : (w.drop 1).length = w.length - 1 := List.length_drop ..
  cases hw : wrK (w.drop 1) (2 + 2 * j) with
  | false =>
    obtain ⟨h3, h4⟩ := wrK_false.1 hw
    rw [List.take_of_length_le (by omega), all_int] at h4
    rw [h4, decide_eq_false (show ¬ w.length < 3 by omega), decide_eq_false (show ¬ w.length % 2 ≠ 1 by omega)]
    simp
  | true =>
    rw [Bool.or_true]
    by_cases h5 : w.length < 3
    · rw [decide_eq_true h5]; rfl
    by_cases h6 : w.length % 2 ≠ 1
    · rw [decide_eq_true h6, Bool.true_or, Bool.or_true]; rfl
    have h7 : (w.drop 1).all (fun x => (digS x).2) = false := by
      cases h8 : (w.drop 1).all (fun x => (digS x).2) with
      | false => rfl
      | true =>
        have := (wrK_false (D := w.drop 1) (k := 2 + 2 * j)).2 ⟨by omega, by rw [List.take_of_length_le (by omega), all_int]; exact h8⟩
        rw [hw] at this; cases this
    rw [h7]; simp
end Sh

set_option maxRecDepth 100000
set_option linter.unusedSimpArgs false
set_option linter.unusedVariables false
namespace Sh
open Go Go.Proofs
theorem rounds_invI {body : (DExit → SP) → SP} {kh ps : List Nat} {Q : DExit → SP} {t : Tmps} {xs : List (List DV)} (H : Nat → Heap) (inv : Nat → Prop) (h0 : inv 0)
    (mono : ∀ (R R' : DExit → SP) (t : Tmps) (s : Heap), (∀ e t s, R e t s → R' e t s) → body R t s → body R' t s)
    (step : ∀ i x, xs[i]? = some x → inv i → body (fun e _ h' => boxesOk kh (hlook h') kh = true ∧ match e with
      | .normal => keepH kh (hlook h') kh = H (i + 1) ∧ inv (i + 1)
      | e => Q e t (keepH kh (hlook h') kh)) (setPs ps x t) (H i))
    (fin : inv xs.length → Q .normal t (H xs.length)) : roundsN body kh ps Q t xs (H 0) := by
  have key : ∀ (r : List (List DV)) (i : Nat), i ≤ xs.length → xs.drop i = r → inv i → roundsN body kh ps Q t r (H i) := by
    intro r
    induction r with
    | nil =>
      intro i hl hi hv
      have hle : xs.length ≤ i := List.drop_eq_nil_iff.1 hi
      have e : i = xs.length := by omega
      subst e; exact fin hv
    | cons x r ih =>
      intro i hl hi hv
      have hx : xs[i]? = some x := by
        have := congrArg (fun l => l[0]?) hi
        simpa using this
      unfold roundsN
      refine mono _ _ _ _ (fun e t' s' hh => ⟨hh.1, ?_⟩) (step i x hx hv)
      have hh2 := hh.2
      cases e with
      | normal =>
        simp only at hh2 ⊢
        rw [hh2.1]
        refine ih (i + 1) (List.getElem?_eq_some_iff.1 hx).1 ?_ hh2.2
        have := congrArg (List.drop 1) hi
        simpa [List.drop_drop, Nat.add_comm] using this
      | ret => exact hh2
      | exit j => exact hh2
  exact key xs 0 (Nat.zero_le _) rfl h0
theorem range_WI {P : Program} {G : Nat → Option DV} {g : FuncId} {n sz : Nat} {d : DV} {k : Keep} {ps : List Nat} {Q : DExit → SP} {t : Tmps} {h : Heap} {x y : DC} (xs : List (List DV)) (H : Nat → Heap) (T : Tmps) (inv : Nat → Prop) (h0 : inv 0) (hi : ISeqW P G g [.bptr n 0] [(n, .box sz d)] xs)
    (hp : hlook h n = some (.box sz d) ∧ pureB d = true) (hn : n ≠ 0) (hk : memB n k.kh = false ∧ freeOf n h = true) (hl : ∀ z ∈ xs, z.length = ps.length)
    (hb : boxesOk k.kh (hlook (cutH n h)) k.kh = true) (hv : livH (keepH k.kh (hlook (cutH n h)) k.kh) = true) (hT : keepT k.kh (hlook (cutH n h)) (cutT n t) k.kt = T) (hH : keepH k.kh (hlook (cutH n h)) k.kh = H 0)
    (step : ∀ i z, xs[i]? = some z → inv i → dwpR P G x (seqQ (dwpR P G y (fun e _ h' => boxesOk k.kh (hlook h') k.kh = true ∧ match e with
      | .normal => keepH k.kh (hlook h') k.kh = H (i + 1) ∧ inv (i + 1)
      | e => Q e T (keepH k.kh (hlook h') k.kh))) (fun _ _ _ => False)) (setPs ps z T) (H i))
    (fin : inv xs.length → Q .normal T (H xs.length)) : rangeWp P G (fun R => dwpR P G x (seqQ (dwpR P G y R) (fun _ _ _ => False))) k ps Q (.func g [.bptr n 0]) t h := by
  unfold rangeWp
  refine .inr ⟨n, sz, d, xs, ⟨rfl, hp.1, hp.2, hn, hk.1, hk.2⟩, hi, hl, hb, hv, ?_⟩
  rw [hT, hH]
  refine rounds_invI H inv h0 (fun R R' t s hr hb => ?_) step fin
  rw [dwpR_eq, dwpR_eq] at *
  refine dwp_mono (fun e t s hh => ?_) hb
  cases e with
  | normal => exact dwp_mono hr hh
  | ret => exact hh
  | exit i => exact hh
theorem c_numK (D : List (List UInt8)) (k : Nat) (h : ∀ w ∈ D, w.length < 1073741824) : HCall Tryz.prog GC 109 [.bptr 1 0] [(1, takO (D.drop k) (wrK D k))] (DV.int .i64 (numK D k)) [(1, takO (D.drop (k + 1)) (wrK D (k + 1)))] := by
  have := c_number (D.drop k) (wrK D k) (fun w hw => h w (List.mem_of_mem_drop hw))
  rw [List.drop_drop] at this
  exact this
def ptU (D : List (List UInt8)) : Nat → List (Nat × DObj)
  | 0 => []
  | j + 1 => [(56, .row 2 ((ptK D (j + 1)).map encPt) false)]
def ptV (D : List (List UInt8)) : Nat → DV
  | 0 => .full []
  | j + 1 => .own 56 0 ((ptK D (j + 1)).map encPt).length ((ptK D (j + 1)).map encPt).length
def oSW (rows : List (List UInt8)) (i : Nat) : List DV := (outW rows i).map encC
def paH (rows : List (List UInt8)) : Nat → Heap
  | 0 => [(2, .box 1 (.full [])), (3, .box 1 (DV.int .i64 (0))), (4, .box 1 (DV.int .i64 (0))), (5, .box 1 (.full []))]
  | i + 1 => [(2, .box 1 (.full [])), (3, .box 1 (DV.int .i64 (0))), (4, .box 1 (DV.int .i64 (0))), (5, .box 1 (.own 77 0 (oSW rows (i + 1)).length (oSW rows (i + 1)).length)), (77, .row 3 (oSW rows (i + 1)) false)]
set_option maxHeartbeats 1000000 in
theorem c_Parse (s : List UInt8) (hs : s.length ≤ 4097) : PC 68 [.str s] (encPar (parS s)) := by
  refine pureCall_ofR dh68 rfl ?_
  conv => whnf
  refine ⟨fun hg => ?_, fun hg => ?_⟩
  · have hg : (4096 : Int) < s.length := of_decide_eq_true hg
    conv => whnf
    unfold parS
    rw [if_pos (by omega)]; rfl
  · have hg : ¬ (4096 : Int) < s.length := of_decide_eq_false hg
    have hl := splitC_len 10 s
    have hn := splitC_ne 10 s
    have hno := splitC_not 10 s
    have hls := lines_split s
    conv => whnf
    refine .inr ⟨[(1, 19)], _, _, _, _, s_Lines s, ⟨rfl, rfl, ?_, ?_⟩, ?_⟩
    · exact trivial
    · exact ⟨.inr rfl, trivial⟩
    conv => whnf
    generalize hr : splitC 10 s = rows at *
    obtain ⟨m, hm⟩ : ∃ m, rows.length = m + 1 := ⟨rows.length - 1, by have := List.length_pos_iff.2 hn; omega⟩
    have hbad : ∀ i, parE rows m 0 = some i → parS s = ([], (i : Int), 25) := fun i he => parS_bad (by omega) hr hm he
    have hok := fun he => parS_ok (by omega) hr hm he
    have hll := linesOf_len rows m hm
    generalize parS s = R at *
    refine range_WI (P := Tryz.prog) (G := GC) (x := db68_1x) (y := db68_1) (k := dk68_1) (lns s) (paH rows) [(2, .bptr 2 0), (3, .bptr 3 0), (4, .bptr 4 0), (5, .bptr 5 0)] (fun i => i ≤ m ∧ parE rows m 0 = parE rows (m - i) i) ⟨Nat.zero_le _, rfl⟩ (linesIt s (by omega)) ⟨rfl, rfl⟩ (by decide) ⟨rfl, rfl⟩ (fun z hz => by obtain ⟨v, _, rfl⟩ := List.mem_map.1 hz; rfl) rfl rfl rfl rfl ?_ ?_
    · intro i z hz ⟨h1, h2⟩
      obtain ⟨L, hz0, rfl, hc1, hc2, hL4⟩ : ∃ L, (linesOf rows)[i]? = some L ∧ z = [DV.str L] ∧ Lib.trimSuffix L [10] = rows.getD i [] ∧ Lib.hasSuffix L [10] = decide (i < m) ∧ L.length ≤ 1073741824 := by
        unfold lns at hz
        rw [hls, List.getElem?_map, Option.map_eq_some_iff] at hz
        obtain ⟨L, hz1, rfl⟩ := hz
        have hgd : (linesOf rows).getD i [] = L := by rw [List.getD_eq_getElem?_getD, hz1]; rfl
        have hil := (List.getElem?_eq_some_iff.1 hz1).1
        have hrl : (rows.getD i []).length ≤ s.length := hl.2 _ (getD_in [] (by omega))
        refine ⟨L, hz1, rfl, ?_⟩
        by_cases hi : i < m
        · rw [linesOf_get rows m i hm hi] at hgd
          subst hgd
          rw [decide_eq_true hi]
          exact ⟨(cut_yes _).1, (cut_yes _).2, by rw [List.length_append]; show _ + 1 ≤ _; omega⟩
        · have hi : i = m := by omega
          subst hi
          have hne : rows.getD i [] ≠ [] := fun e => by rw [if_pos e] at hll; omega
          rw [linesOf_last rows i hm hne] at hgd
          subst hgd
          have := cut_no _ (hno _ (getD_in [] (show i < rows.length by omega)))
          rw [decide_eq_false hi]
          exact ⟨this.1, this.2, by omega⟩
      clear hz
      have hrl : (rows.getD i []).length ≤ s.length := hl.2 _ (getD_in [] (by omega))
      rcases i with _ | i
      · obtain ⟨w0, D, hw⟩ : ∃ w0 D, splitC 32 (rows.getD 0 []) = w0 :: D := by
          cases h : splitC 32 (rows.getD 0 []) with
          | nil => exact absurd h (splitC_ne _ _)
          | cons a r => exact ⟨a, r, rfl⟩
        have hwl := splitC_len 32 (rows.getD 0 [])
        rw [hw] at hwl
        have hDl : D.length ≤ 4097 := by have := hwl.1; simp only [List.length_cons] at this; omega
        have hDw : ∀ x ∈ D, x.length < 1073741824 := fun x hx => by have := hwl.2 x (List.mem_cons_of_mem _ hx); omega
        conv => whnf
        repeat' (first
          | (refine ⟨fun hg => ?_, fun hg => ?_⟩ <;> first | contradiction | (conv => whnf))
          | (refine Or.inl ?_; conv => whnf)
          | (refine ⟨_, s_CutSuffix L [10] hL4, ?_⟩; conv => whnf)
          | (refine And.intro ?_ ?_; kernel_rfl; conv => whnf))
        rw [hc1, hc2]
        conv => whnf
        repeat' (first
          | (refine ⟨fun hg => ?_, fun hg => ?_⟩ <;> first | contradiction | (conv => whnf))
          | (refine Or.inl ?_; conv => whnf)
          | (refine ⟨_, s_Split (rows.getD 0 []) 32 (by omega), ?_⟩; conv => whnf)
          | (refine And.intro ?_ ?_; kernel_rfl; conv => whnf))
        rw [hw]
        refine ⟨⟨by decide, by simp; omega, by omega, fun e he => by obtain ⟨x, _, rfl⟩ := List.mem_map.1 he; rfl⟩, ?_⟩
        rw [window_tail]
        conv => whnf
        refine .inr ⟨[(1, 31)], _, _, _, _, c_numK D 0 hDw, ⟨rfl, rfl, ?_, ?_⟩, ?_⟩
        · exact ⟨rfl, trivial⟩
        · exact ⟨.inl rfl, trivial⟩
        conv => whnf
        refine .inr ⟨[(1, 31)], _, _, _, _, c_numK D 1 hDw, ⟨rfl, rfl, ?_, ?_⟩, ?_⟩
        · exact ⟨rfl, trivial⟩
        · exact ⟨.inl rfl, trivial⟩
        conv => whnf
        refine dwp_loopR (P := Tryz.prog) (G := GC) (k := dk68_0) (b := db68_0) (α := Nat) (fun j => [(2, .bptr 2 0), (3, .bptr 3 0), (4, .bptr 4 0), (5, .bptr 5 0), (8, .bool (decide (0 < m))), (9, strs (w0 :: D)), (10, .bptr 31 0), (11, .meth 109 [.bptr 31 0]), (12, .bptr 12 0)]) (fun j => [(2, .box 1 (.full [])), (3, .box 1 (DV.int .i64 (0))), (4, .box 1 (DV.int .i64 (0))), (5, .box 1 (.full [])), (12, .box 3 (.agg [ptV D j, DV.int .i64 (numK D 0), DV.int .i64 (numK D 1)])), (31, takO (D.drop (2 + 2 * j)) (wrK D (2 + 2 * j)))] ++ ptU D j) (fun j => j = 0 ∨ 2 * j < D.length) (fun j => D.length + 1 - j) 0 ⟨rfl, rfl, rfl⟩ (.inl rfl) ?_
        intro j hj
        have hdl : ((D.drop (2 + 2 * j)).map DV.str).length = D.length - (2 + 2 * j) := by simp
        conv => whnf
        refine ⟨fun hb => ?_, fun hb => ?_⟩
        · have hb : (0 : Int) < (((D.drop (2 + 2 * j)).map DV.str).length : Nat) := of_decide_eq_true hb
          have hp : (ptK D (j + 1)).map encPt = (ptK D j).map encPt ++ [encPt ⟨numK D (2 + 2 * j), numK D (2 + 2 * j + 1)⟩] := by rw [ptK_succ, List.map_append]; rfl
          have hpl := ptK_len D j
          have hV : ptV D (j + 1) = .own 56 0 ((ptK D (j + 1)).map encPt).length ((ptK D (j + 1)).map encPt).length := rfl
          have hU : ptU D (j + 1) = [(56, .row 2 ((ptK D (j + 1)).map encPt) false)] := rfl
          rw [hp] at hV hU
          rcases j with _ | j
          · conv => whnf
            refine .inr ⟨[(1, 31)], _, _, _, _, c_numK D (2 + 2 * 0) hDw, ⟨rfl, rfl, ?_, ?_⟩, ?_⟩
            · exact ⟨rfl, trivial⟩
            · exact ⟨.inl rfl, trivial⟩
            conv => whnf
            refine .inr ⟨[(1, 31)], _, _, _, _, c_numK D (2 + 2 * 0 + 1) hDw, ⟨rfl, rfl, ?_, ?_⟩, ?_⟩
            · exact ⟨rfl, trivial⟩
            · exact ⟨.inl rfl, trivial⟩
            conv => whnf
            refine ⟨⟨by simp, fun e he => by simp at he; subst he; rfl, fun e he => by simp at he, .inl rfl⟩, ?_⟩
            conv => whnf
            refine ⟨0 + 1, rfl, rfl, ?_, .inr (by omega), by omega⟩
            · show _ = _ ++ _
              rw [hV, hU]; rfl
          · conv => whnf
            refine .inr ⟨[(1, 31)], _, _, _, _, c_numK D (2 + 2 * (j + 1)) hDw, ⟨rfl, rfl, ?_, ?_⟩, ?_⟩
            · exact ⟨rfl, trivial⟩
            · exact ⟨.inl rfl, trivial⟩
            conv => whnf
            refine .inr ⟨[(1, 31)], _, _, _, _, c_numK D (2 + 2 * (j + 1) + 1) hDw, ⟨rfl, rfl, ?_, ?_⟩, ?_⟩
            · exact ⟨rfl, trivial⟩
            · exact ⟨.inl rfl, trivial⟩
            conv => whnf
            refine ⟨⟨rfl, rfl, rfl, by simp; omega, fun e he => by simp at he; subst he; rfl⟩, ?_⟩
            conv => whnf
            refine ⟨j + 1 + 1, rfl, rfl, ?_, .inr (by omega), by omega⟩
            · show _ = _ ++ _
              rw [hV, hU]; rfl
        · have hb : ¬ (0 : Int) < (((D.drop (2 + 2 * j)).map DV.str).length : Nat) := of_decide_eq_false hb
          have hend : ((w0 :: D).drop 1).length ≤ 2 + 2 * j := by show D.length ≤ _; omega
          have hce := cel_read (w0 :: D) j hend
          have hwr := wrong_read (w0 :: D) j hend hj
          have hO : wrK D (2 + 2 * j) = false → oSW rows (0 + 1) = oSW rows 0 ++ [encC ⟨ptK D j, numK D 0, numK D 1⟩] := fun h => by
            unfold oSW
            rw [outW_succ rows 0 (by omega), hw, hce h, List.map_append]; rfl
          have hgo : 0 < m → wrongW (w0 :: D) = false → 0 + 1 ≤ m ∧ parE rows m 0 = parE rows (m - (0 + 1)) (0 + 1) := fun h e => ⟨h, h2.trans (parE_step rows m _ h (by rw [hw]; exact e))⟩
          have hRw : 0 < m → wrongW (w0 :: D) = true → R = ([], ((0 : Nat) : Int), 25) := fun h e => hbad _ (h2.trans (parE_at rows m _ h (by rw [hw]; exact e)))
          have hRn : ¬ 0 < m → R = ([], ((0 : Nat) : Int), 25) := fun h => by
            have e : 0 = m := by omega
            have h3 : parE rows m 0 = none := by rw [h2, ← e, Nat.sub_self]; rfl
            have h4 := (List.getElem?_eq_some_iff.1 hz0).1
            have h5 : rows.getD m [] ≠ [] := fun h6 => by rw [if_pos h6] at hll; omega
            have h6 := hok h3
            rw [if_pos h5] at h6
            rw [h6, e]
          have hwin : encC ⟨ptK D j, numK D 0, numK D 1⟩ = .agg [.list (window ((ptK D j).map encPt) 0 ((ptK D j).map encPt).length), DV.int .i64 (numK D 0), DV.int .i64 (numK D 1)] := by rw [window_full]; rfl
          have hol : (oSW rows 0).length = 0 := by unfold oSW; rw [List.length_map, outW_len rows 0 (by omega)]
          have hwr2 : wrongW (w0 :: D) = (decide (w0 ≠ [99, 101, 108, 108]) || wrK D (2 + 2 * j)) := hwr
          rcases j with _ | j
          · conv => whnf
            repeat' (first
              | (refine ⟨fun hg => ?_, fun hg => ?_⟩ <;> first | contradiction | (conv => whnf))
              | (refine Or.inl ?_; conv => whnf)
              | (refine ⟨⟨by decide, by rw [List.length_map, List.length_cons]; omega, rfl⟩, ?_⟩; conv => whnf)
              | (refine And.intro ?_ ?_; kernel_rfl; conv => whnf))
            any_goals
              have hR : R = ([], ((0 : Nat) : Int), 25) := by
                by_cases him : 0 < m
                · refine hRw him ?_
                  rw [hwr2]
                  first
                  | (rw [show wrK D _ = true from ‹(bif false then true else wrK D _) = true›, Bool.or_true])
                  | (rw [show decide (w0 ≠ [99, 101, 108, 108]) = true from ‹(bif false then true else decide (w0 ≠ _)) = !false›, Bool.true_or])
                  | (have h8 : (!decide (0 < m)) = true := ‹(!decide (0 < m)) = !false›
                     rw [decide_eq_true him] at h8; cases h8)
                · exact hRn him
              rw [hR]
              first | rfl | (rw [hol]; rfl)
            have hwk : wrK D _ = false := hg
            have him : 0 < m := by
              have h8 : (!decide (0 < m)) = false := ‹(!decide (0 < m)) = false›
              exact of_decide_eq_true (by simpa using h8)
            have hgood := hgo him (by rw [hwr2, hwk, show decide (w0 ≠ [99, 101, 108, 108]) = false from ‹(bif false then true else decide (w0 ≠ _)) = false›]; rfl)
            have hO := hO hwk
            refine ⟨⟨by simp, fun e he => by simp at he; subst he; rfl, fun e he => by simp at he, .inl rfl⟩, ?_⟩
            conv => whnf
            refine ⟨rfl, ?_, hgood⟩
            show _ = [(2, _), (3, _), (4, _), (5, DObj.box 1 (.own 77 0 (oSW rows (0 + 1)).length (oSW rows (0 + 1)).length)), (77, .row 3 (oSW rows (0 + 1)) false)]
            rw [hO]
            first | rfl | (rw [hwin]; rfl)
          · conv => whnf
            repeat' (first
              | (refine ⟨fun hg => ?_, fun hg => ?_⟩ <;> first | contradiction | (conv => whnf))
              | (refine Or.inl ?_; conv => whnf)
              | (refine ⟨⟨by decide, by rw [List.length_map, List.length_cons]; omega, rfl⟩, ?_⟩; conv => whnf)
              | (refine And.intro ?_ ?_; kernel_rfl; conv => whnf))
            any_goals
              have hR : R = ([], ((0 : Nat) : Int), 25) := by
                by_cases him : 0 < m
                · refine hRw him ?_
                  rw [hwr2]
                  first
                  | (rw [show wrK D _ = true from ‹(bif false then true else wrK D _) = true›, Bool.or_true])
                  | (rw [show decide (w0 ≠ [99, 101, 108, 108]) = true from ‹(bif false then true else decide (w0 ≠ _)) = !false›, Bool.true_or])
                  | (have h8 : (!decide (0 < m)) = true := ‹(!decide (0 < m)) = !false›
                     rw [decide_eq_true him] at h8; cases h8)
                · exact hRn him
              rw [hR]
              first | rfl | (rw [hol]; rfl)
            have hwk : wrK D _ = false := hg
            have him : 0 < m := by
              have h8 : (!decide (0 < m)) = false := ‹(!decide (0 < m)) = false›
              exact of_decide_eq_true (by simpa using h8)
            have hgood := hgo him (by rw [hwr2, hwk, show decide (w0 ≠ [99, 101, 108, 108]) = false from ‹(bif false then true else decide (w0 ≠ _)) = false›]; rfl)
            have hO := hO hwk
            refine ⟨⟨by simp, fun e he => by simp at he; subst he; rfl, fun e he => by simp at he, .inl rfl⟩, ?_⟩
            conv => whnf
            refine ⟨rfl, ?_, hgood⟩
            show _ = [(2, _), (3, _), (4, _), (5, DObj.box 1 (.own 77 0 (oSW rows (0 + 1)).length (oSW rows (0 + 1)).length)), (77, .row 3 (oSW rows (0 + 1)) false)]
            rw [hO]
            first | rfl | (rw [hwin]; rfl)
      · obtain ⟨w0, D, hw⟩ : ∃ w0 D, splitC 32 (rows.getD (i + 1) []) = w0 :: D := by
          cases h : splitC 32 (rows.getD (i + 1) []) with
          | nil => exact absurd h (splitC_ne _ _)
          | cons a r => exact ⟨a, r, rfl⟩
        have hwl := splitC_len 32 (rows.getD (i + 1) [])
        rw [hw] at hwl
        have hDl : D.length ≤ 4097 := by have := hwl.1; simp only [List.length_cons] at this; omega
        have hDw : ∀ x ∈ D, x.length < 1073741824 := fun x hx => by have := hwl.2 x (List.mem_cons_of_mem _ hx); omega
        conv => whnf
        repeat' (first
          | (refine ⟨fun hg => ?_, fun hg => ?_⟩ <;> first | contradiction | (conv => whnf))
          | (refine Or.inl ?_; conv => whnf)
          | (refine ⟨_, s_CutSuffix L [10] hL4, ?_⟩; conv => whnf)
          | (refine And.intro ?_ ?_; kernel_rfl; conv => whnf))
        rw [hc1, hc2]
        conv => whnf
        repeat' (first
          | (refine ⟨fun hg => ?_, fun hg => ?_⟩ <;> first | contradiction | (conv => whnf))
          | (refine Or.inl ?_; conv => whnf)
          | (refine ⟨_, s_Split (rows.getD (i + 1) []) 32 (by omega), ?_⟩; conv => whnf)
          | (refine And.intro ?_ ?_; kernel_rfl; conv => whnf))
        rw [hw]
        refine ⟨⟨by decide, by simp; omega, by omega, fun e he => by obtain ⟨x, _, rfl⟩ := List.mem_map.1 he; rfl⟩, ?_⟩
        rw [window_tail]
        conv => whnf
        refine .inr ⟨[(1, 31)], _, _, _, _, c_numK D 0 hDw, ⟨rfl, rfl, ?_, ?_⟩, ?_⟩
        · exact ⟨rfl, trivial⟩
        · exact ⟨.inl rfl, trivial⟩
        conv => whnf
        refine .inr ⟨[(1, 31)], _, _, _, _, c_numK D 1 hDw, ⟨rfl, rfl, ?_, ?_⟩, ?_⟩
        · exact ⟨rfl, trivial⟩
        · exact ⟨.inl rfl, trivial⟩
        conv => whnf
        refine dwp_loopR (P := Tryz.prog) (G := GC) (k := dk68_0) (b := db68_0) (α := Nat) (fun j => [(2, .bptr 2 0), (3, .bptr 3 0), (4, .bptr 4 0), (5, .bptr 5 0), (8, .bool (decide ((i + 1) < m))), (9, strs (w0 :: D)), (10, .bptr 31 0), (11, .meth 109 [.bptr 31 0]), (12, .bptr 12 0)]) (fun j => [(2, .box 1 (.full [])), (3, .box 1 (DV.int .i64 (0))), (4, .box 1 (DV.int .i64 (0))), (5, .box 1 (.own 77 0 (oSW rows (i + 1)).length (oSW rows (i + 1)).length)), (12, .box 3 (.agg [ptV D j, DV.int .i64 (numK D 0), DV.int .i64 (numK D 1)])), (31, takO (D.drop (2 + 2 * j)) (wrK D (2 + 2 * j)))] ++ ptU D j ++ [(77, .row 3 (oSW rows (i + 1)) false)]) (fun j => j = 0 ∨ 2 * j < D.length) (fun j => D.length + 1 - j) 0 ⟨rfl, rfl, rfl⟩ (.inl rfl) ?_
        intro j hj
        have hdl : ((D.drop (2 + 2 * j)).map DV.str).length = D.length - (2 + 2 * j) := by simp
        conv => whnf
        refine ⟨fun hb => ?_, fun hb => ?_⟩
        · have hb : (0 : Int) < (((D.drop (2 + 2 * j)).map DV.str).length : Nat) := of_decide_eq_true hb
          have hp : (ptK D (j + 1)).map encPt = (ptK D j).map encPt ++ [encPt ⟨numK D (2 + 2 * j), numK D (2 + 2 * j + 1)⟩] := by rw [ptK_succ, List.map_append]; rfl
          have hpl := ptK_len D j
          have hV : ptV D (j + 1) = .own 56 0 ((ptK D (j + 1)).map encPt).length ((ptK D (j + 1)).map encPt).length := rfl
          have hU : ptU D (j + 1) = [(56, .row 2 ((ptK D (j + 1)).map encPt) false)] := rfl
          rw [hp] at hV hU
          rcases j with _ | j
          · conv => whnf
            refine .inr ⟨[(1, 31)], _, _, _, _, c_numK D (2 + 2 * 0) hDw, ⟨rfl, rfl, ?_, ?_⟩, ?_⟩
            · exact ⟨rfl, trivial⟩
            · exact ⟨.inl rfl, trivial⟩
            conv => whnf
            refine .inr ⟨[(1, 31)], _, _, _, _, c_numK D (2 + 2 * 0 + 1) hDw, ⟨rfl, rfl, ?_, ?_⟩, ?_⟩
            · exact ⟨rfl, trivial⟩
            · exact ⟨.inl rfl, trivial⟩
            conv => whnf
            refine ⟨⟨by simp, fun e he => by simp at he; subst he; rfl, fun e he => by simp at he, .inl rfl⟩, ?_⟩
            conv => whnf
            refine ⟨0 + 1, rfl, rfl, ?_, .inr (by omega), by omega⟩
            · show _ = _ ++ _ ++ _
              rw [hV, hU]; rfl
          · conv => whnf
            refine .inr ⟨[(1, 31)], _, _, _, _, c_numK D (2 + 2 * (j + 1)) hDw, ⟨rfl, rfl, ?_, ?_⟩, ?_⟩
            · exact ⟨rfl, trivial⟩
            · exact ⟨.inl rfl, trivial⟩
            conv => whnf
            refine .inr ⟨[(1, 31)], _, _, _, _, c_numK D (2 + 2 * (j + 1) + 1) hDw, ⟨rfl, rfl, ?_, ?_⟩, ?_⟩
            · exact ⟨rfl, trivial⟩
            · exact ⟨.inl rfl, trivial⟩
            conv => whnf
            refine ⟨⟨rfl, rfl, rfl, by simp; omega, fun e he => by simp at he; subst he; rfl⟩, ?_⟩
            conv => whnf
            refine ⟨j + 1 + 1, rfl, rfl, ?_, .inr (by omega), by omega⟩
            · show _ = _ ++ _ ++ _
              rw [hV, hU]; rfl
        · have hb : ¬ (0 : Int) < (((D.drop (2 + 2 * j)).map DV.str).length : Nat) := of_decide_eq_false hb
          have hend : ((w0 :: D).drop 1).length ≤ 2 + 2 * j := by show D.length ≤ _; omega
          have hce := cel_read (w0 :: D) j hend
          have hwr := wrong_read (w0 :: D) j hend hj
          have hO : wrK D (2 + 2 * j) = false → oSW rows ((i + 1) + 1) = oSW rows (i + 1) ++ [encC ⟨ptK D j, numK D 0, numK D 1⟩] := fun h => by
            unfold oSW
            rw [outW_succ rows (i + 1) (by omega), hw, hce h, List.map_append]; rfl
          have hgo : (i + 1) < m → wrongW (w0 :: D) = false → (i + 1) + 1 ≤ m ∧ parE rows m 0 = parE rows (m - ((i + 1) + 1)) ((i + 1) + 1) := fun h e => ⟨h, h2.trans (parE_step rows m _ h (by rw [hw]; exact e))⟩
          have hRw : (i + 1) < m → wrongW (w0 :: D) = true → R = ([], (((i + 1) : Nat) : Int), 25) := fun h e => hbad _ (h2.trans (parE_at rows m _ h (by rw [hw]; exact e)))
          have hRn : ¬ (i + 1) < m → R = ([], (((i + 1) : Nat) : Int), 25) := fun h => by
            have e : (i + 1) = m := by omega
            have h3 : parE rows m 0 = none := by rw [h2, ← e, Nat.sub_self]; rfl
            have h4 := (List.getElem?_eq_some_iff.1 hz0).1
            have h5 : rows.getD m [] ≠ [] := fun h6 => by rw [if_pos h6] at hll; omega
            have h6 := hok h3
            rw [if_pos h5] at h6
            rw [h6, e]
          have hwin : encC ⟨ptK D j, numK D 0, numK D 1⟩ = .agg [.list (window ((ptK D j).map encPt) 0 ((ptK D j).map encPt).length), DV.int .i64 (numK D 0), DV.int .i64 (numK D 1)] := by rw [window_full]; rfl
          have hol : (oSW rows (i + 1)).length = (i + 1) := by unfold oSW; rw [List.length_map, outW_len rows (i + 1) (by omega)]
          have hwr2 : wrongW (w0 :: D) = (decide (w0 ≠ [99, 101, 108, 108]) || wrK D (2 + 2 * j)) := hwr
          rcases j with _ | j
          · conv => whnf
            repeat' (first
              | (refine ⟨fun hg => ?_, fun hg => ?_⟩ <;> first | contradiction | (conv => whnf))
              | (refine Or.inl ?_; conv => whnf)
              | (refine ⟨⟨by decide, by rw [List.length_map, List.length_cons]; omega, rfl⟩, ?_⟩; conv => whnf)
              | (refine And.intro ?_ ?_; kernel_rfl; conv => whnf))
            any_goals
              have hR : R = ([], (((i + 1) : Nat) : Int), 25) := by
                by_cases him : (i + 1) < m
                · refine hRw him ?_
                  rw [hwr2]
                  first
                  | (rw [show wrK D _ = true from ‹(bif false then true else wrK D _) = true›, Bool.or_true])
                  | (rw [show decide (w0 ≠ [99, 101, 108, 108]) = true from ‹(bif false then true else decide (w0 ≠ _)) = !false›, Bool.true_or])
                  | (have h8 : (!decide ((i + 1) < m)) = true := ‹(!decide ((i + 1) < m)) = !false›
                     rw [decide_eq_true him] at h8; cases h8)
                · exact hRn him
              rw [hR]
              first | rfl | (rw [hol]; rfl)
            have hwk : wrK D _ = false := hg
            have him : (i + 1) < m := by
              have h8 : (!decide ((i + 1) < m)) = false := ‹(!decide ((i + 1) < m)) = false›
              exact of_decide_eq_true (by simpa using h8)
            have hgood := hgo him (by rw [hwr2, hwk, show decide (w0 ≠ [99, 101, 108, 108]) = false from ‹(bif false then true else decide (w0 ≠ _)) = false›]; rfl)
            have hO := hO hwk
            refine ⟨⟨rfl, rfl, rfl, by rw [hol]; simp; omega, fun e he => by simp at he; subst he; rfl⟩, ?_⟩
            conv => whnf
            refine ⟨rfl, ?_, hgood⟩
            show _ = [(2, _), (3, _), (4, _), (5, DObj.box 1 (.own 77 0 (oSW rows ((i + 1) + 1)).length (oSW rows ((i + 1) + 1)).length)), (77, .row 3 (oSW rows ((i + 1) + 1)) false)]
            rw [hO]
            first | rfl | (rw [hwin]; rfl)
          · conv => whnf
            repeat' (first
              | (refine ⟨fun hg => ?_, fun hg => ?_⟩ <;> first | contradiction | (conv => whnf))
              | (refine Or.inl ?_; conv => whnf)
              | (refine ⟨⟨by decide, by rw [List.length_map, List.length_cons]; omega, rfl⟩, ?_⟩; conv => whnf)
              | (refine And.intro ?_ ?_; kernel_rfl; conv => whnf))
            any_goals
              have hR : R = ([], (((i + 1) : Nat) : Int), 25) := by
                by_cases him : (i + 1) < m
                · refine hRw him ?_
                  rw [hwr2]
                  first
                  | (rw [show wrK D _ = true from ‹(bif false then true else wrK D _) = true›, Bool.or_true])
                  | (rw [show decide (w0 ≠ [99, 101, 108, 108]) = true from ‹(bif false then true else decide (w0 ≠ _)) = !false›, Bool.true_or])
                  | (have h8 : (!decide ((i + 1) < m)) = true := ‹(!decide ((i + 1) < m)) = !false›
                     rw [decide_eq_true him] at h8; cases h8)
                · exact hRn him
              rw [hR]
              first | rfl | (rw [hol]; rfl)
            have hwk : wrK D _ = false := hg
            have him : (i + 1) < m := by
              have h8 : (!decide ((i + 1) < m)) = false := ‹(!decide ((i + 1) < m)) = false›
              exact of_decide_eq_true (by simpa using h8)
            have hgood := hgo him (by rw [hwr2, hwk, show decide (w0 ≠ [99, 101, 108, 108]) = false from ‹(bif false then true else decide (w0 ≠ _)) = false›]; rfl)
            have hO := hO hwk
            refine ⟨⟨rfl, rfl, rfl, by rw [hol]; simp; omega, fun e he => by simp at he; subst he; rfl⟩, ?_⟩
            conv => whnf
            refine ⟨rfl, ?_, hgood⟩
            show _ = [(2, _), (3, _), (4, _), (5, DObj.box 1 (.own 77 0 (oSW rows ((i + 1) + 1)).length (oSW rows ((i + 1) + 1)).length)), (77, .row 3 (oSW rows ((i + 1) + 1)) false)]
            rw [hO]
            first | rfl | (rw [hwin]; rfl)
    · intro ⟨h1, h2⟩
      have hlen : (lns s).length = (linesOf rows).length := by unfold lns; rw [List.length_map, hls]
      have hz : rows.getD m [] = [] := by
        by_cases hz : rows.getD m [] = []
        · exact hz
        · rw [if_neg hz] at hll; omega
      rw [if_pos hz, Nat.add_zero] at hll
      rw [hlen, hll] at h2
      rw [hlen, hll]
      have hR := hok (h2.trans (by rw [Nat.sub_self]; rfl))
      rw [if_neg (fun h => h hz)] at hR
      have hcs := outW_tb rows m s.length (fun r hr => hl.2 r hr)
      have hol := outW_len rows m (by omega)
      clear hok h2 h1 hlen hbad hll hls
      rcases m with _ | m
      · conv => whnf
        repeat' (first
          | (refine ⟨fun hg => ?_, fun hg => ?_⟩ <;> first | contradiction | (conv => whnf))
          | (refine Or.inl ?_; conv => whnf)
          | (refine ⟨_, c_CheckChain (outW rows 0) (by omega) (fun c hc => by have := hcs c hc; omega), ?_⟩; conv => whnf)
          | (refine And.intro ?_ ?_; kernel_rfl; conv => whnf))
        · have hg : chkChain (outW rows 0) ≠ 0 := of_decide_eq_true hg
          rw [if_pos hg] at hR
          rw [hR]; rfl
        all_goals
          have hg : ¬ chkChain (outW rows 0) ≠ 0 := of_decide_eq_false hg
          rw [if_neg hg] at hR
          rw [hR]; rfl
      · have hol2 : (oSW rows (m + 1)).length = m + 1 := by unfold oSW; rw [List.length_map, hol]
        have hcc : PC 36 [DV.list (oSW rows (m + 1))] (DV.int .i64 (chkChain (outW rows (m + 1)))) := c_CheckChain (outW rows (m + 1)) (by omega) (fun c hc => by have := hcs c hc; omega)
        conv => whnf
        refine .inl ?_
        conv => whnf
        refine ⟨rfl, ?_⟩
        rw [window_full]
        refine ⟨_, hcc, ?_⟩
        conv => whnf
        repeat' (first
          | (refine ⟨fun hg => ?_, fun hg => ?_⟩ <;> first | contradiction | (conv => whnf))
          | (refine Or.inl ?_; conv => whnf)
          | (refine And.intro ?_ ?_; kernel_rfl; conv => whnf))
        · have hg : chkChain (outW rows (m + 1)) ≠ 0 := of_decide_eq_true hg
          rw [if_pos hg] at hR
          rw [hR, hol2]; rfl
        all_goals
          have hg : ¬ chkChain (outW rows (m + 1)) ≠ 0 := of_decide_eq_false hg
          rw [if_neg hg] at hR
          rw [hR, window_full]; rfl
end Sh

set_option maxRecDepth 100000
namespace Sh
open Go
def dc10 : DFunc := ⟨80, 2, [(.tmp 4)], (.seq (.ops false [⟨(some 4), (.mov (.const (.bool false))), none, []⟩]) (.seq (.seq (.ops false [⟨(some 15), (.mov (.tmp 0)), none, []⟩, ⟨(some 16), (.call (.func 27) [(.tmp 15)]), none, []⟩, ⟨(some 17), (.un .not (.tmp 16)), none, []⟩, ⟨(some 18), (.mov (.tmp 17)), none, []⟩, ⟨(some 19), (.mov (.tmp 1)), (some (18, false)), []⟩, ⟨(some 20), (.lenS (.tmp 19)), (some (18, false)), []⟩, ⟨(some 21), (.bin .gtr (.tmp 20) (.const (.int .i64 400))), (some (18, false)), []⟩, ⟨(some 22), (.mov (.tmp 21)), (some (18, false)), []⟩, ⟨(some 23), (.mov (.tmp 1)), (some (22, true)), []⟩, ⟨(some 24), (.lenS (.tmp 23)), (some (22, true)), []⟩, ⟨(some 25), (.bin .neq (.tmp 24) (.const (.int .i64 4097))), (some (22, true)), []⟩, ⟨(some 26), (.pick (.tmp 22) (.tmp 25) (.const (.bool false))), (some (18, false)), []⟩, ⟨(some 27), (.pick (.tmp 18) (.const (.bool true)) (.tmp 26)), none, []⟩]) (.cond (.tmp 27) (.seq (.ops false [⟨(some 28), (.call (.func 13) []), none, []⟩, ⟨(some 4), (.mov (.tmp 28)), none, []⟩]) .ret) .skip)) (.seq (.ops false [⟨(some 30), (.mov (.tmp 0)), none, []⟩, ⟨(some 31), (.call (.func 29) [(.tmp 30)]), none, []⟩, ⟨(some 32), (.call (.func 67) [(.tmp 31)]), none, []⟩, ⟨(some 29), (.mov (.tmp 32)), none, []⟩, ⟨(some 33), (.extract (.tmp 29) 0), none, []⟩, ⟨(some 34), (.extract (.tmp 29) 1), none, []⟩, ⟨(some 5), (.mov (.tmp 33)), none, []⟩, ⟨(some 6), (.mov (.tmp 34)), none, []⟩]) (.seq (.ops false [⟨(some 36), (.mov (.tmp 1)), none, []⟩, ⟨(some 37), (.call (.func 68) [(.tmp 36)]), none, []⟩, ⟨(some 35), (.mov (.tmp 37)), none, []⟩, ⟨(some 38), (.extract (.tmp 35) 0), none, []⟩, ⟨(some 39), (.extract (.tmp 35) 1), none, []⟩, ⟨(some 40), (.extract (.tmp 35) 2), none, []⟩, ⟨(some 7), (.mov (.tmp 38)), none, []⟩, ⟨(some 8), (.mov (.tmp 39)), none, []⟩, ⟨(some 9), (.mov (.tmp 40)), none, []⟩]) (.seq (.ops false [⟨(some 41), (.mov (.tmp 0)), none, []⟩, ⟨(some 42), (.call (.func 32) [(.tmp 41)]), none, []⟩, ⟨(some 10), (.mov (.tmp 42)), none, []⟩, ⟨(some 11), (.mov (.const (.string ⟨#[]⟩))), none, []⟩]) (.seq (.seq (.ops false [⟨(some 43), (.mov (.tmp 10)), none, []⟩, ⟨(some 44), (.bin .eql (.tmp 43) (.const (.int .i64 0))), none, []⟩]) (.cond (.tmp 44) (.ops false [⟨(some 45), (.mov (.tmp 0)), none, []⟩, ⟨(some 46), (.call (.func 69) [(.tmp 45)]), none, []⟩, ⟨(some 11), (.mov (.tmp 46)), none, []⟩]) .skip)) (.seq (.ops false [⟨(some 48), (.mov (.tmp 1)), none, []⟩, ⟨(some 49), (.call (.func 70) [(.tmp 48)]), none, []⟩, ⟨(some 47), (.mov (.tmp 49)), none, []⟩, ⟨(some 50), (.extract (.tmp 47) 0), none, []⟩, ⟨(some 51), (.extract (.tmp 47) 1), none, []⟩, ⟨(some 52), (.extract (.tmp 47) 2), none, []⟩, ⟨(some 12), (.mov (.tmp 50)), none, []⟩, ⟨(some 13), (.mov (.tmp 51)), none, []⟩, ⟨(some 14), (.mov (.tmp 52)), none, []⟩]) (.seq (.ops false [⟨(some 53), (.mov (.tmp 5)), none, []⟩, ⟨(some 54), (.mov (.tmp 11)), none, []⟩, ⟨(some 55), (.bin .eql (.tmp 53) (.tmp 54)), none, []⟩, ⟨(some 56), (.mov (.tmp 55)), none, []⟩, ⟨(some 57), (.mov (.tmp 6)), (some (56, true)), []⟩, ⟨(some 58), (.mov (.tmp 10)), (some (56, true)), []⟩, ⟨(some 59), (.bin .eql (.tmp 57) (.tmp 58)), (some (56, true)), []⟩, ⟨(some 60), (.pick (.tmp 56) (.tmp 59) (.const (.bool false))), none, []⟩, ⟨(some 61), (.mov (.tmp 60)), none, []⟩, ⟨(some 62), (.mov (.tmp 7)), (some (61, true)), []⟩, ⟨(some 63), (.call (.func 72) [(.tmp 62)]), (some (61, true)), []⟩, ⟨(some 64), (.mov (.tmp 12)), (some (61, true)), []⟩, ⟨(some 65), (.call (.func 71) [(.tmp 63), (.tmp 64)]), (some (61, true)), []⟩, ⟨(some 66), (.pick (.tmp 61) (.tmp 65) (.const (.bool false))), none, []⟩, ⟨(some 67), (.mov (.tmp 66)), none, []⟩, ⟨(some 68), (.mov (.tmp 8)), (some (67, true)), []⟩, ⟨(some 69), (.mov (.tmp 13)), (some (67, true)), []⟩, ⟨(some 70), (.bin .eql (.tmp 68) (.tmp 69)), (some (67, true)), []⟩, ⟨(some 71), (.pick (.tmp 67) (.tmp 70) (.const (.bool false))), none, []⟩, ⟨(some 72), (.mov (.tmp 71)), none, []⟩, ⟨(some 73), (.mov (.tmp 9)), (some (72, true)), []⟩, ⟨(some 74), (.mov (.tmp 14)), (some (72, true)), []⟩, ⟨(some 75), (.bin .eql (.tmp 73) (.tmp 74)), (some (72, true)), []⟩, ⟨(some 76), (.pick (.tmp 72) (.tmp 75) (.const (.bool false))), none, []⟩, ⟨(some 77), (.mov (.tmp 76)), none, []⟩, ⟨(some 78), (.call (.func 13) []), (some (77, true)), []⟩, ⟨(some 79), (.pick (.tmp 77) (.tmp 78) (.const (.bool false))), none, []⟩, ⟨(some 4), (.mov (.tmp 79)), none, []⟩]) .ret))))))))⟩
theorem dh10 : cProg Go.Proofs.Tryz.prog ⟨[], [], []⟩ 10 = some dc10 := by kernel_rfl
end Sh

set_option maxRecDepth 100000
set_option maxHeartbeats 2000000
set_option linter.unusedSimpArgs false
set_option linter.unusedVariables false
namespace Sh
open Go Go.Proofs
theorem parS_bd (s : List UInt8) (hs : s.length ≤ 4097) : (parS s).1.length < 1073741824 ∧ ∀ c ∈ (parS s).1, c.tb.length < 1073741824 := by
  have h0 : ([] : List Cel).length < 1073741824 ∧ ∀ c ∈ ([] : List Cel), c.tb.length < 1073741824 := ⟨by simp, by simp⟩
  have hl := splitC_len 10 s
  have hn := splitC_ne 10 s
  unfold parS
  split
  · exact h0
  · split
    · exact h0
    · split
      · exact h0
      · split
        · exact h0
        · have h1 := outW_len (splitC 10 s) ((splitC 10 s).length - 1) (by omega)
          have h2 := outW_tb (splitC 10 s) ((splitC 10 s).length - 1) s.length (fun r hr => hl.2 r hr)
          exact ⟨by show (outW _ _).length < _; omega, fun c hc => by have := h2 c hc; omega⟩
theorem l_CurveStrings (aw : PC 13 [] (.bool true)) (l : List Cel) (s : List UInt8) : PC 10 [chn l, .str s] (.bool true) := by
  refine pureCall_ofR dh10 rfl ?_
  conv => whnf
  repeat' (first
    | (refine ⟨fun hg => ?_, fun hg => ?_⟩ <;> first | contradiction | (conv => whnf))
    | (refine Or.inl ?_; conv => whnf)
    | (refine ⟨_, r_ShortChain .., ?_⟩; conv => whnf)
    | (refine ⟨_, aw .., ?_⟩; conv => whnf)
    | (refine And.intro ?_ ?_; kernel_rfl; conv => whnf))
  all_goals (try rfl)
  all_goals
    have hs := shortC_spec (l := l) (by simpa using ‹(!shortC l) = false›)
    have hsl : s.length ≤ 4097 := by
      first
      | (have h1 := of_decide_eq_false (show decide ((s.length : Int) ≠ 4097) = false from ‹(bif false then true else bif true then decide ((s.length : Int) ≠ 4097) else false) = false›); omega)
      | (have h1 := of_decide_eq_false (show decide ((400 : Int) < (s.length : Int)) = false from ‹decide ((400 : Int) < (s.length : Int)) = !true›); omega)
    have hl : l.length < 1073741824 := by omega
    have hc : ∀ c ∈ l, c.tb.length < 1073741824 := fun c h => by have := hs.2 c h; omega
    have hpb := parS_bd s hsl
    have k1 := l_cells l hl hc
    have k2 := c_Print l hl hc
    have k3 := c_Parse s hsl
    have k4 := r_Parse s hsl
    have k5 := r_CheckChain l hl hc
    have k7 := l_told (parS s).1 hpb.1
    have k8 := r_SameChain (parS s).1 hpb.1 hpb.2
    clear hg
    repeat' (first
      | (refine ⟨fun hg => ?_, fun hg => ?_⟩ <;> first | contradiction | (conv => whnf))
      | (refine Or.inl ?_; conv => whnf)
      | (refine ⟨_, k1, ?_⟩; conv => whnf)
      | (refine ⟨_, k2, ?_⟩; conv => whnf)
      | (refine ⟨_, k3, ?_⟩; conv => whnf)
      | (refine ⟨_, k4, ?_⟩; conv => whnf)
      | (refine ⟨_, k5, ?_⟩; conv => whnf)
      | (refine ⟨_, r_Print l (chkChain_zero (of_decide_eq_true (by assumption))), ?_⟩; conv => whnf)
      | (refine ⟨_, k7, ?_⟩; conv => whnf)
      | (refine ⟨_, k8, ?_⟩; conv => whnf)
      | (refine ⟨_, aw .., ?_⟩; conv => whnf)
      | (refine And.intro ?_ ?_; kernel_rfl; conv => whnf))
    all_goals (try rfl)
  all_goals
    exfalso
    clear k1 k2 k3 k4 k5 k7 k8 aw hpb hl hc hs
    by_cases hz : chkChain l = 0
    · have e : prtS l = (prtH l, 0) := by rw [prtS, if_neg (fun h => h hz)]
      generalize prtS l = p at *
      subst e
      simp [hz] at *
    · have e : prtS l = ([], chkChain l) := by rw [prtS, if_pos hz]
      generalize prtS l = p at *
      subst e
      simp [hz] at *
end Sh
