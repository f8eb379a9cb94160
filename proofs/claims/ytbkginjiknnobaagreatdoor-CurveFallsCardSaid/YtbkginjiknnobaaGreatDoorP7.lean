/-
  Chapter 4's functions, walked over pure data: the library of the walk, the functions' code over data, and what each computes. (part 7)
-/
import Derived.Test.YtbkginjiknnobaaGreatDoorP6
import Derived.Test.YtbkginjiknnobaaGreatDoorProg
set_option linter.unusedVariables false
set_option linter.unusedSimpArgs false
set_option maxRecDepth 100000
set_option linter.unusedSimpArgs false
set_option linter.unusedVariables false
namespace Sh
open Go Go.Proofs
theorem rounds_invI {body : (DExit → SP) → SP} {kh ps : List Nat} {Q : DExit → SP} {t : Tmps} {xs : List (List DV)} (H : Nat → Heap) (inv : Nat → Prop) (h0 : inv 0)
    (mono : ∀ (R R' : DExit → SP) (t : Tmps) (s : Heap), (∀ e t s, R e t s → R' e t s) → body R t s → body R' t s)
    (step : ∀ i x, xs[i]? = some x → inv i → body (fun e _ h' => boxesOk kh (hlook h') kh = true ∧ match e with
      | .normal => keepH kh (hlook h') kh = H (i + 1) ∧ inv (i + 1)
      | e => Q e t (keepH kh (hlook h') kh)) (setPs ps x t) (H i))
    (fin : inv xs.length → Q .normal t (H xs.length)) : roundsN body kh ps Q t xs (H 0) := by
  have key : ∀ (r : List (List DV)) (i : Nat), i ≤ xs.length → xs.drop i = r → inv i → roundsN body kh ps Q t r (H i) := by
    intro r
    induction r with
    | nil =>
      intro i hl hi hv
      have hle : xs.length ≤ i := List.drop_eq_nil_iff.1 hi
      have e : i = xs.length := by omega
      subst e; exact fin hv
    | cons x r ih =>
      intro i hl hi hv
      have hx : xs[i]? = some x := by
        have := congrArg (fun l => l[0]?) hi
        simpa using this
      unfold roundsN
      refine mono _ _ _ _ (fun e t' s' hh => ⟨hh.1, ?_⟩) (step i x hx hv)
      have hh2 := hh.2
      cases e with
      | normal =>
        simp only at hh2 ⊢
        rw [hh2.1]
        refine ih (i + 1) (List.getElem?_eq_some_iff.1 hx).1 ?_ hh2.2
        have := congrArg (List.drop 1) hi
        simpa [List.drop_drop, Nat.add_comm] using this
      | ret => exact hh2
      | exit j => exact hh2
  exact key xs 0 (Nat.zero_le _) rfl h0
theorem range_WI {P : Program} {G : Nat → Option DV} {g : FuncId} {n sz : Nat} {d : DV} {k : Keep} {ps : List Nat} {Q : DExit → SP} {t : Tmps} {h : Heap} {x y : DC} (xs : List (List DV)) (H : Nat → Heap) (T : Tmps) (inv : Nat → Prop) (h0 : inv 0) (hi : ISeqW P G g [.bptr n 0] [(n, .box sz d)] xs)
    (hp : hlook h n = some (.box sz d) ∧ pureB d = true) (hn : n ≠ 0) (hk : memB n k.kh = false ∧ freeOf n h = true) (hl : ∀ z ∈ xs, z.length = ps.length)
    (hb : boxesOk k.kh (hlook (cutH n h)) k.kh = true) (hv : livH (keepH k.kh (hlook (cutH n h)) k.kh) = true) (hT : keepT k.kh (hlook (cutH n h)) (cutT n t) k.kt = T) (hH : keepH k.kh (hlook (cutH n h)) k.kh = H 0)
    (step : ∀ i z, xs[i]? = some z → inv i → dwpR P G x (seqQ (dwpR P G y (fun e _ h' => boxesOk k.kh (hlook h') k.kh = true ∧ match e with
      | .normal => keepH k.kh (hlook h') k.kh = H (i + 1) ∧ inv (i + 1)
      | e => Q e T (keepH k.kh (hlook h') k.kh))) (fun _ _ _ => False)) (setPs ps z T) (H i))
    (fin : inv xs.length → Q .normal T (H xs.length)) : rangeWp P G (fun R => dwpR P G x (seqQ (dwpR P G y R) (fun _ _ _ => False))) k ps Q (.func g [.bptr n 0]) t h := by
  unfold rangeWp
  refine .inr ⟨n, sz, d, xs, ⟨rfl, hp.1, hp.2, hn, hk.1, hk.2⟩, hi, hl, hb, hv, ?_⟩
  rw [hT, hH]
  refine rounds_invI H inv h0 (fun R R' t s hr hb => ?_) step fin
  rw [dwpR_eq, dwpR_eq] at *
  refine dwp_mono (fun e t s hh => ?_) hb
  cases e with
  | normal => exact dwp_mono hr hh
  | ret => exact hh
  | exit i => exact hh
theorem c_numK (D : List (List UInt8)) (k : Nat) (h : ∀ w ∈ D, w.length < 1073741824) : HCall Tryz.prog GC 109 [.bptr 1 0] [(1, takO (D.drop k) (wrK D k))] (DV.int .i64 (numK D k)) [(1, takO (D.drop (k + 1)) (wrK D (k + 1)))] := by
  have := c_number (D.drop k) (wrK D k) (fun w hw => h w (List.mem_of_mem_drop hw))
  rw [List.drop_drop] at this
  exact this
def ptU (D : List (List UInt8)) : Nat → List (Nat × DObj)
  | 0 => []
  | j + 1 => [(56, .row 2 ((ptK D (j + 1)).map encPt) false)]
def ptV (D : List (List UInt8)) : Nat → DV
  | 0 => .full []
  | j + 1 => .own 56 0 ((ptK D (j + 1)).map encPt).length ((ptK D (j + 1)).map encPt).length
def oSW (rows : List (List UInt8)) (i : Nat) : List DV := (outW rows i).map encC
def paH (rows : List (List UInt8)) : Nat → Heap
  | 0 => [(2, .box 1 (.full [])), (3, .box 1 (DV.int .i64 (0))), (4, .box 1 (DV.int .i64 (0))), (5, .box 1 (.full []))]
  | i + 1 => [(2, .box 1 (.full [])), (3, .box 1 (DV.int .i64 (0))), (4, .box 1 (DV.int .i64 (0))), (5, .box 1 (.own 77 0 (oSW rows (i + 1)).length (oSW rows (i + 1)).length)), (77, .row 3 (oSW rows (i + 1)) false)]
set_option maxHeartbeats 1000000 in
theorem c_Parse (s : List UInt8) (hs : s.length ≤ 4097) : PC 68 [.str s] (encPar (parS s)) := by
  refine pureCall_ofR dh68 rfl ?_
  conv => whnf
  refine ⟨fun hg => ?_, fun hg => ?_⟩
  · have hg : (4096 : Int) < s.length := of_decide_eq_true hg
    conv => whnf
    unfold parS
    rw [if_pos (by omega)]; rfl
  · have hg : ¬ (4096 : Int) < s.length := of_decide_eq_false hg
    have hl := splitC_len 10 s
    have hn := splitC_ne 10 s
    have hno := splitC_not 10 s
    have hls := lines_split s
    conv => whnf
    refine .inr ⟨[(1, 19)], _, _, _, _, s_Lines s, ⟨rfl, rfl, ?_, ?_⟩, ?_⟩
    · exact trivial
    · exact ⟨.inr rfl, trivial⟩
    conv => whnf
    generalize hr : splitC 10 s = rows at *
    obtain ⟨m, hm⟩ : ∃ m, rows.length = m + 1 := ⟨rows.length - 1, by have := List.length_pos_iff.2 hn; omega⟩
    have hbad : ∀ i, parE rows m 0 = some i → parS s = ([], (i : Int), 25) := fun i he => parS_bad (by omega) hr hm he
    have hok := fun he => parS_ok (by omega) hr hm he
    have hll := linesOf_len rows m hm
    generalize parS s = R at *
    refine range_WI (P := Tryz.prog) (G := GC) (x := db68_1x) (y := db68_1) (k := dk68_1) (lns s) (paH rows) [(2, .bptr 2 0), (3, .bptr 3 0), (4, .bptr 4 0), (5, .bptr 5 0)] (fun i => i ≤ m ∧ parE rows m 0 = parE rows (m - i) i) ⟨Nat.zero_le _, rfl⟩ (linesIt s (by omega)) ⟨rfl, rfl⟩ (by decide) ⟨rfl, rfl⟩ (fun z hz => by obtain ⟨v, _, rfl⟩ := List.mem_map.1 hz; rfl) rfl rfl rfl rfl ?_ ?_
    · intro i z hz ⟨h1, h2⟩
      obtain ⟨L, hz0, rfl, hc1, hc2, hL4⟩ : ∃ L, (linesOf rows)[i]? = some L ∧ z = [DV.str L] ∧ Lib.trimSuffix L [10] = rows.getD i [] ∧ Lib.hasSuffix L [10] = decide (i < m) ∧ L.length ≤ 1073741824 := by
        unfold lns at hz
        rw [hls, List.getElem?_map, Option.map_eq_some_iff] at hz
        obtain ⟨L, hz1, rfl⟩ := hz
        have hgd : (linesOf rows).getD i [] = L := by rw [List.getD_eq_getElem?_getD, hz1]; rfl
        have hil := (List.getElem?_eq_some_iff.1 hz1).1
        have hrl : (rows.getD i []).length ≤ s.length := hl.2 _ (getD_in [] (by omega))
        refine ⟨L, hz1, rfl, ?_⟩
        by_cases hi : i < m
        · rw [linesOf_get rows m i hm hi] at hgd
          subst hgd
          rw [decide_eq_true hi]
          exact ⟨(cut_yes _).1, (cut_yes _).2, by rw [List.length_append]; show _ + 1 ≤ _; omega⟩
        · have hi : i = m := by omega
          subst hi
          have hne : rows.getD i [] ≠ [] := fun e => by rw [if_pos e] at hll; omega
          rw [linesOf_last rows i hm hne] at hgd
          subst hgd
          have := cut_no _ (hno _ (getD_in [] (show i < rows.length by omega)))
          rw [decide_eq_false hi]
          exact ⟨this.1, this.2, by omega⟩
      clear hz
      have hrl : (rows.getD i []).length ≤ s.length := hl.2 _ (getD_in [] (by omega))
      rcases i with _ | i
      · obtain ⟨w0, D, hw⟩ : ∃ w0 D, splitC 32 (rows.getD 0 []) = w0 :: D := by
          cases h : splitC 32 (rows.getD 0 []) with
          | nil => exact absurd h (splitC_ne _ _)
          | cons a r => exact ⟨a, r, rfl⟩
        have hwl := splitC_len 32 (rows.getD 0 [])
        rw [hw] at hwl
        have hDl : D.length ≤ 4097 := by have := hwl.1; simp only [List.length_cons] at this; omega
        have hDw : ∀ x ∈ D, x.length < 1073741824 := fun x hx => by have := hwl.2 x (List.mem_cons_of_mem _ hx); omega
        conv => whnf
        repeat' (first
          | (refine ⟨fun hg => ?_, fun hg => ?_⟩ <;> first | contradiction | (conv => whnf))
          | (refine Or.inl ?_; conv => whnf)
          | (refine ⟨_, s_CutSuffix L [10] hL4, ?_⟩; conv => whnf)
          | (refine And.intro ?_ ?_; kernel_rfl; conv => whnf))
        rw [hc1, hc2]
        conv => whnf
        repeat' (first
          | (refine ⟨fun hg => ?_, fun hg => ?_⟩ <;> first | contradiction | (conv => whnf))
          | (refine Or.inl ?_; conv => whnf)
          | (refine ⟨_, s_Split (rows.getD 0 []) 32 (by omega), ?_⟩; conv => whnf)
          | (refine And.intro ?_ ?_; kernel_rfl; conv => whnf))
        rw [hw]
        refine ⟨⟨by decide, by simp; omega, by omega, fun e he => by obtain ⟨x, _, rfl⟩ := List.mem_map.1 he; rfl⟩, ?_⟩
        rw [window_tail]
        conv => whnf
        refine .inr ⟨[(1, 31)], _, _, _, _, c_numK D 0 hDw, ⟨rfl, rfl, ?_, ?_⟩, ?_⟩
        · exact ⟨rfl, trivial⟩
        · exact ⟨.inl rfl, trivial⟩
        conv => whnf
        refine .inr ⟨[(1, 31)], _, _, _, _, c_numK D 1 hDw, ⟨rfl, rfl, ?_, ?_⟩, ?_⟩
        · exact ⟨rfl, trivial⟩
        · exact ⟨.inl rfl, trivial⟩
        conv => whnf
        refine dwp_loopR (P := Tryz.prog) (G := GC) (k := dk68_0) (b := db68_0) (α := Nat) (fun j => [(2, .bptr 2 0), (3, .bptr 3 0), (4, .bptr 4 0), (5, .bptr 5 0), (8, .bool (decide (0 < m))), (9, strs (w0 :: D)), (10, .bptr 31 0), (11, .meth 109 [.bptr 31 0]), (12, .bptr 12 0)]) (fun j => [(2, .box 1 (.full [])), (3, .box 1 (DV.int .i64 (0))), (4, .box 1 (DV.int .i64 (0))), (5, .box 1 (.full [])), (12, .box 3 (.agg [ptV D j, DV.int .i64 (numK D 0), DV.int .i64 (numK D 1)])), (31, takO (D.drop (2 + 2 * j)) (wrK D (2 + 2 * j)))] ++ ptU D j) (fun j => j = 0 ∨ 2 * j < D.length) (fun j => D.length + 1 - j) 0 ⟨rfl, rfl, rfl⟩ (.inl rfl) ?_
        intro j hj
        have hdl : ((D.drop (2 + 2 * j)).map DV.str).length = D.length - (2 + 2 * j) := by simp
        conv => whnf
        refine ⟨fun hb => ?_, fun hb => ?_⟩
        · have hb : (0 : Int) < (((D.drop (2 + 2 * j)).map DV.str).length : Nat) := of_decide_eq_true hb
          have hp : (ptK D (j + 1)).map encPt = (ptK D j).map encPt ++ [encPt ⟨numK D (2 + 2 * j), numK D (2 + 2 * j + 1)⟩] := by rw [ptK_succ, List.map_append]; rfl
          have hpl := ptK_len D j
          have hV : ptV D (j + 1) = .own 56 0 ((ptK D (j + 1)).map encPt).length ((ptK D (j + 1)).map encPt).length := rfl
          have hU : ptU D (j + 1) = [(56, .row 2 ((ptK D (j + 1)).map encPt) false)] := rfl
          rw [hp] at hV hU
          rcases j with _ | j
          · conv => whnf
            refine .inr ⟨[(1, 31)], _, _, _, _, c_numK D (2 + 2 * 0) hDw, ⟨rfl, rfl, ?_, ?_⟩, ?_⟩
            · exact ⟨rfl, trivial⟩
            · exact ⟨.inl rfl, trivial⟩
            conv => whnf
            refine .inr ⟨[(1, 31)], _, _, _, _, c_numK D (2 + 2 * 0 + 1) hDw, ⟨rfl, rfl, ?_, ?_⟩, ?_⟩
            · exact ⟨rfl, trivial⟩
            · exact ⟨.inl rfl, trivial⟩
            conv => whnf
            refine ⟨⟨by simp, fun e he => by simp at he; subst he; rfl, fun e he => by simp at he, .inl rfl⟩, ?_⟩
            conv => whnf
            refine ⟨0 + 1, rfl, rfl, ?_, .inr (by omega), by omega⟩
            · show _ = _ ++ _
              rw [hV, hU]; rfl
          · conv => whnf
            refine .inr ⟨[(1, 31)], _, _, _, _, c_numK D (2 + 2 * (j + 1)) hDw, ⟨rfl, rfl, ?_, ?_⟩, ?_⟩
            · exact ⟨rfl, trivial⟩
            · exact ⟨.inl rfl, trivial⟩
            conv => whnf
            refine .inr ⟨[(1, 31)], _, _, _, _, c_numK D (2 + 2 * (j + 1) + 1) hDw, ⟨rfl, rfl, ?_, ?_⟩, ?_⟩
            · exact ⟨rfl, trivial⟩
            · exact ⟨.inl rfl, trivial⟩
            conv => whnf
            refine ⟨⟨rfl, rfl, rfl, by simp; omega, fun e he => by simp at he; subst he; rfl⟩, ?_⟩
            conv => whnf
            refine ⟨j + 1 + 1, rfl, rfl, ?_, .inr (by omega), by omega⟩
            · show _ = _ ++ _
              rw [hV, hU]; rfl
        · have hb : ¬ (0 : Int) < (((D.drop (2 + 2 * j)).map DV.str).length : Nat) := of_decide_eq_false hb
          have hend : ((w0 :: D).drop 1).length ≤ 2 + 2 * j := by show D.length ≤ _; omega
          have hce := cel_read (w0 :: D) j hend
          have hwr := wrong_read (w0 :: D) j hend hj
          have hO : wrK D (2 + 2 * j) = false → oSW rows (0 + 1) = oSW rows 0 ++ [encC ⟨ptK D j, numK D 0, numK D 1⟩] := fun h => by
            unfold oSW
            rw [outW_succ rows 0 (by omega), hw, hce h, List.map_append]; rfl
          have hgo : 0 < m → wrongW (w0 :: D) = false → 0 + 1 ≤ m ∧ parE rows m 0 = parE rows (m - (0 + 1)) (0 + 1) := fun h e => ⟨h, h2.trans (parE_step rows m _ h (by rw [hw]; exact e))⟩
          have hRw : 0 < m → wrongW (w0 :: D) = true → R = ([], ((0 : Nat) : Int), 25) := fun h e => hbad _ (h2.trans (parE_at rows m _ h (by rw [hw]; exact e)))
          have hRn : ¬ 0 < m → R = ([], ((0 : Nat) : Int), 25) := fun h => by
            have e : 0 = m := by omega
            have h3 : parE rows m 0 = none := by rw [h2, ← e, Nat.sub_self]; rfl
            have h4 := (List.getElem?_eq_some_iff.1 hz0).1
            have h5 : rows.getD m [] ≠ [] := fun h6 => by rw [if_pos h6] at hll; omega
            have h6 := hok h3
            rw [if_pos h5] at h6
            rw [h6, e]
          have hwin : encC ⟨ptK D j, numK D 0, numK D 1⟩ = .agg [.list (window ((ptK D j).map encPt) 0 ((ptK D j).map encPt).length), DV.int .i64 (numK D 0), DV.int .i64 (numK D 1)] := by rw [window_full]; rfl
          have hol : (oSW rows 0).length = 0 := by unfold oSW; rw [List.length_map, outW_len rows 0 (by omega)]
          have hwr2 : wrongW (w0 :: D) = (decide (w0 ≠ [99, 101, 108, 108]) || wrK D (2 + 2 * j)) := hwr
          rcases j with _ | j
          · conv => whnf
            repeat' (first
              | (refine ⟨fun hg => ?_, fun hg => ?_⟩ <;> first | contradiction | (conv => whnf))
              | (refine Or.inl ?_; conv => whnf)
              | (refine ⟨⟨by decide, by rw [List.length_map, List.length_cons]; omega, rfl⟩, ?_⟩; conv => whnf)
              | (refine And.intro ?_ ?_; kernel_rfl; conv => whnf))
            any_goals
              have hR : R = ([], ((0 : Nat) : Int), 25) := by
                by_cases him : 0 < m
                · refine hRw him ?_
                  rw [hwr2]
                  first
                  | (rw [show wrK D _ = true from ‹(bif false then true else wrK D _) = true›, Bool.or_true])
                  | (rw [show decide (w0 ≠ [99, 101, 108, 108]) = true from ‹(bif false then true else decide (w0 ≠ _)) = !false›, Bool.true_or])
                  | (have h8 : (!decide (0 < m)) = true := ‹(!decide (0 < m)) = !false›
                     rw [decide_eq_true him] at h8; cases h8)
                · exact hRn him
              rw [hR]
              first | rfl | (rw [hol]; rfl)
            have hwk : wrK D _ = false := hg
            have him : 0 < m := by
              have h8 : (!decide (0 < m)) = false := ‹(!decide (0 < m)) = false›
              exact of_decide_eq_true (by simpa using h8)
            have hgood := hgo him (by rw [hwr2, hwk, show decide (w0 ≠ [99, 101, 108, 108]) = false from ‹(bif false then true else decide (w0 ≠ _)) = false›]; rfl)
            have hO := hO hwk
            refine ⟨⟨by simp, fun e he => by simp at he; subst he; rfl, fun e he => by simp at he, .inl rfl⟩, ?_⟩
            conv => whnf
            refine ⟨rfl, ?_, hgood⟩
            show _ = [(2, _), (3, _), (4, _), (5, DObj.box 1 (.own 77 0 (oSW rows (0 + 1)).length (oSW rows (0 + 1)).length)), (77, .row 3 (oSW rows (0 + 1)) false)]
            rw [hO]
            first | rfl | (rw [hwin]; rfl)
          · conv => whnf
            repeat' (first
              | (refine ⟨fun hg => ?_, fun hg => ?_⟩ <;> first | contradiction | (conv => whnf))
              | (refine Or.inl ?_; conv => whnf)
              | (refine ⟨⟨by decide, by rw [List.length_map, List.length_cons]; omega, rfl⟩, ?_⟩; conv => whnf)
              | (refine And.intro ?_ ?_; kernel_rfl; conv => whnf))
            any_goals
              have hR : R = ([], ((0 : Nat) : Int), 25) := by
                by_cases him : 0 < m
                · refine hRw him ?_
                  rw [hwr2]
                  first
                  | (rw [show wrK D _ = true from ‹(bif false then true else wrK D _) = true›, Bool.or_true])
                  | (rw [show decide (w0 ≠ [99, 101, 108, 108]) = true from ‹(bif false then true else decide (w0 ≠ _)) = !false›, Bool.true_or])
                  | (have h8 : (!decide (0 < m)) = true := ‹(!decide (0 < m)) = !false›
                     rw [decide_eq_true him] at h8; cases h8)
                · exact hRn him
              rw [hR]
              first | rfl | (rw [hol]; rfl)
            have hwk : wrK D _ = false := hg
            have him : 0 < m := by
              have h8 : (!decide (0 < m)) = false := ‹(!decide (0 < m)) = false›
              exact of_decide_eq_true (by simpa using h8)
            have hgood := hgo him (by rw [hwr2, hwk, show decide (w0 ≠ [99, 101, 108, 108]) = false from ‹(bif false then true else decide (w0 ≠ _)) = false›]; rfl)
            have hO := hO hwk
            refine ⟨⟨by simp, fun e he => by simp at he; subst he; rfl, fun e he => by simp at he, .inl rfl⟩, ?_⟩
            conv => whnf
            refine ⟨rfl, ?_, hgood⟩
            show _ = [(2, _), (3, _), (4, _), (5, DObj.box 1 (.own 77 0 (oSW rows (0 + 1)).length (oSW rows (0 + 1)).length)), (77, .row 3 (oSW rows (0 + 1)) false)]
            rw [hO]
            first | rfl | (rw [hwin]; rfl)
      · obtain ⟨w0, D, hw⟩ : ∃ w0 D, splitC 32 (rows.getD (i + 1) []) = w0 :: D := by
          cases h : splitC 32 (rows.getD (i + 1) []) with
          | nil => exact absurd h (splitC_ne _ _)
          | cons a r => exact ⟨a, r, rfl⟩
        have hwl := splitC_len 32 (rows.getD (i + 1) [])
        rw [hw] at hwl
        have hDl : D.length ≤ 4097 := by have := hwl.1; simp only [List.length_cons] at this; omega
        have hDw : ∀ x ∈ D, x.length < 1073741824 := fun x hx => by have := hwl.2 x (List.mem_cons_of_mem _ hx); omega
        conv => whnf
        repeat' (first
          | (refine ⟨fun hg => ?_, fun hg => ?_⟩ <;> first | contradiction | (conv => whnf))
          | (refine Or.inl ?_; conv => whnf)
          | (refine ⟨_, s_CutSuffix L [10] hL4, ?_⟩; conv => whnf)
          | (refine And.intro ?_ ?_; kernel_rfl; conv => whnf))
        rw [hc1, hc2]
        conv => whnf
        repeat' (first
          | (refine ⟨fun hg => ?_, fun hg => ?_⟩ <;> first | contradiction | (conv => whnf))
          | (refine Or.inl ?_; conv => whnf)
          | (refine ⟨_, s_Split (rows.getD (i + 1) []) 32 (by omega), ?_⟩; conv => whnf)
          | (refine And.intro ?_ ?_; kernel_rfl; conv => whnf))
        rw [hw]
        refine ⟨⟨by decide, by simp; omega, by omega, fun e he => by obtain ⟨x, _, rfl⟩ := List.mem_map.1 he; rfl⟩, ?_⟩
        rw [window_tail]
        conv => whnf
        refine .inr ⟨[(1, 31)], _, _, _, _, c_numK D 0 hDw, ⟨rfl, rfl, ?_, ?_⟩, ?_⟩
        · exact ⟨rfl, trivial⟩
        · exact ⟨.inl rfl, trivial⟩
        conv => whnf
        refine .inr ⟨[(1, 31)], _, _, _, _, c_numK D 1 hDw, ⟨rfl, rfl, ?_, ?_⟩, ?_⟩
        · exact ⟨rfl, trivial⟩
        · exact ⟨.inl rfl, trivial⟩
        conv => whnf
        refine dwp_loopR (P := Tryz.prog) (G := GC) (k := dk68_0) (b := db68_0) (α := Nat) (fun j => [(2, .bptr 2 0), (3, .bptr 3 0), (4, .bptr 4 0), (5, .bptr 5 0), (8, .bool (decide ((i + 1) < m))), (9, strs (w0 :: D)), (10, .bptr 31 0), (11, .meth 109 [.bptr 31 0]), (12, .bptr 12 0)]) (fun j => [(2, .box 1 (.full [])), (3, .box 1 (DV.int .i64 (0))), (4, .box 1 (DV.int .i64 (0))), (5, .box 1 (.own 77 0 (oSW rows (i + 1)).length (oSW rows (i + 1)).length)), (12, .box 3 (.agg [ptV D j, DV.int .i64 (numK D 0), DV.int .i64 (numK D 1)])), (31, takO (D.drop (2 + 2 * j)) (wrK D (2 + 2 * j)))] ++ ptU D j ++ [(77, .row 3 (oSW rows (i + 1)) false)]) (fun j => j = 0 ∨ 2 * j < D.length) (fun j => D.length + 1 - j) 0 ⟨rfl, rfl, rfl⟩ (.inl rfl) ?_
        intro j hj
        have hdl : ((D.drop (2 + 2 * j)).map DV.str).length = D.length - (2 + 2 * j) := by simp
        conv => whnf
        refine ⟨fun hb => ?_, fun hb => ?_⟩
        · have hb : (0 : Int) < (((D.drop (2 + 2 * j)).map DV.str).length : Nat) := of_decide_eq_true hb
          have hp : (ptK D (j + 1)).map encPt = (ptK D j).map encPt ++ [encPt ⟨numK D (2 + 2 * j), numK D (2 + 2 * j + 1)⟩] := by rw [ptK_succ, List.map_append]; rfl
          have hpl := ptK_len D j
          have hV : ptV D (j + 1) = .own 56 0 ((ptK D (j + 1)).map encPt).length ((ptK D (j + 1)).map encPt).length := rfl
          have hU : ptU D (j + 1) = [(56, .row 2 ((ptK D (j + 1)).map encPt) false)] := rfl
          rw [hp] at hV hU
          rcases j with _ | j
          · conv => whnf
            refine .inr ⟨[(1, 31)], _, _, _, _, c_numK D (2 + 2 * 0) hDw, ⟨rfl, rfl, ?_, ?_⟩, ?_⟩
            · exact ⟨rfl, trivial⟩
            · exact ⟨.inl rfl, trivial⟩
            conv => whnf
            refine .inr ⟨[(1, 31)], _, _, _, _, c_numK D (2 + 2 * 0 + 1) hDw, ⟨rfl, rfl, ?_, ?_⟩, ?_⟩
            · exact ⟨rfl, trivial⟩
            · exact ⟨.inl rfl, trivial⟩
            conv => whnf
            refine ⟨⟨by simp, fun e he => by simp at he; subst he; rfl, fun e he => by simp at he, .inl rfl⟩, ?_⟩
            conv => whnf
            refine ⟨0 + 1, rfl, rfl, ?_, .inr (by omega), by omega⟩
            · show _ = _ ++ _ ++ _
              rw [hV, hU]; rfl
          · conv => whnf
            refine .inr ⟨[(1, 31)], _, _, _, _, c_numK D (2 + 2 * (j + 1)) hDw, ⟨rfl, rfl, ?_, ?_⟩, ?_⟩
            · exact ⟨rfl, trivial⟩
            · exact ⟨.inl rfl, trivial⟩
            conv => whnf
            refine .inr ⟨[(1, 31)], _, _, _, _, c_numK D (2 + 2 * (j + 1) + 1) hDw, ⟨rfl, rfl, ?_, ?_⟩, ?_⟩
            · exact ⟨rfl, trivial⟩
            · exact ⟨.inl rfl, trivial⟩
            conv => whnf
            refine ⟨⟨rfl, rfl, rfl, by simp; omega, fun e he => by simp at he; subst he; rfl⟩, ?_⟩
            conv => whnf
            refine ⟨j + 1 + 1, rfl, rfl, ?_, .inr (by omega), by omega⟩
            · show _ = _ ++ _ ++ _
              rw [hV, hU]; rfl
        · have hb : ¬ (0 : Int) < (((D.drop (2 + 2 * j)).map DV.str).length : Nat) := of_decide_eq_false hb
          have hend : ((w0 :: D).drop 1).length ≤ 2 + 2 * j := by show D.length ≤ _; omega
          have hce := cel_read (w0 :: D) j hend
          have hwr := wrong_read (w0 :: D) j hend hj
          have hO : wrK D (2 + 2 * j) = false → oSW rows ((i + 1) + 1) = oSW rows (i + 1) ++ [encC ⟨ptK D j, numK D 0, numK D 1⟩] := fun h => by
            unfold oSW
            rw [outW_succ rows (i + 1) (by omega), hw, hce h, List.map_append]; rfl
          have hgo : (i + 1) < m → wrongW (w0 :: D) = false → (i + 1) + 1 ≤ m ∧ parE rows m 0 = parE rows (m - ((i + 1) + 1)) ((i + 1) + 1) := fun h e => ⟨h, h2.trans (parE_step rows m _ h (by rw [hw]; exact e))⟩
          have hRw : (i + 1) < m → wrongW (w0 :: D) = true → R = ([], (((i + 1) : Nat) : Int), 25) := fun h e => hbad _ (h2.trans (parE_at rows m _ h (by rw [hw]; exact e)))
          have hRn : ¬ (i + 1) < m → R = ([], (((i + 1) : Nat) : Int), 25) := fun h => by
            have e : (i + 1) = m := by omega
            have h3 : parE rows m 0 = none := by rw [h2, ← e, Nat.sub_self]; rfl
            have h4 := (List.getElem?_eq_some_iff.1 hz0).1
            have h5 : rows.getD m [] ≠ [] := fun h6 => by rw [if_pos h6] at hll; omega
            have h6 := hok h3
            rw [if_pos h5] at h6
            rw [h6, e]
          have hwin : encC ⟨ptK D j, numK D 0, numK D 1⟩ = .agg [.list (window ((ptK D j).map encPt) 0 ((ptK D j).map encPt).length), DV.int .i64 (numK D 0), DV.int .i64 (numK D 1)] := by rw [window_full]; rfl
          have hol : (oSW rows (i + 1)).length = (i + 1) := by unfold oSW; rw [List.length_map, outW_len rows (i + 1) (by omega)]
          have hwr2 : wrongW (w0 :: D) = (decide (w0 ≠ [99, 101, 108, 108]) || wrK D (2 + 2 * j)) := hwr
          rcases j with _ | j
          · conv => whnf
            repeat' (first
              | (refine ⟨fun hg => ?_, fun hg => ?_⟩ <;> first | contradiction | (conv => whnf))
              | (refine Or.inl ?_; conv => whnf)
              | (refine ⟨⟨by decide, by rw [List.length_map, List.length_cons]; omega, rfl⟩, ?_⟩; conv => whnf)
              | (refine And.intro ?_ ?_; kernel_rfl; conv => whnf))
            any_goals
              have hR : R = ([], (((i + 1) : Nat) : Int), 25) := by
                by_cases him : (i + 1) < m
                · refine hRw him ?_
                  rw [hwr2]
                  first
                  | (rw [show wrK D _ = true from ‹(bif false then true else wrK D _) = true›, Bool.or_true])
                  | (rw [show decide (w0 ≠ [99, 101, 108, 108]) = true from ‹(bif false then true else decide (w0 ≠ _)) = !false›, Bool.true_or])
                  | (have h8 : (!decide ((i + 1) < m)) = true := ‹(!decide ((i + 1) < m)) = !false›
                     rw [decide_eq_true him] at h8; cases h8)
                · exact hRn him
              rw [hR]
              first | rfl | (rw [hol]; rfl)
            have hwk : wrK D _ = false := hg
            have him : (i + 1) < m := by
              have h8 : (!decide ((i + 1) < m)) = false := ‹(!decide ((i + 1) < m)) = false›
              exact of_decide_eq_true (by simpa using h8)
            have hgood := hgo him (by rw [hwr2, hwk, show decide (w0 ≠ [99, 101, 108, 108]) = false from ‹(bif false then true else decide (w0 ≠ _)) = false›]; rfl)
            have hO := hO hwk
            refine ⟨⟨rfl, rfl, rfl, by rw [hol]; simp; omega, fun e he => by simp at he; subst he; rfl⟩, ?_⟩
            conv => whnf
            refine ⟨rfl, ?_, hgood⟩
            show _ = [(2, _), (3, _), (4, _), (5, DObj.box 1 (.own 77 0 (oSW rows ((i + 1) + 1)).length (oSW rows ((i + 1) + 1)).length)), (77, .row 3 (oSW rows ((i + 1) + 1)) false)]
            rw [hO]
            first | rfl | (rw [hwin]; rfl)
          · conv => whnf
            repeat' (first
              | (refine ⟨fun hg => ?_, fun hg => ?_⟩ <;> first | contradiction | (conv => whnf))
              | (refine Or.inl ?_; conv => whnf)
              | (refine ⟨⟨by decide, by rw [List.length_map, List.length_cons]; omega, rfl⟩, ?_⟩; conv => whnf)
              | (refine And.intro ?_ ?_; kernel_rfl; conv => whnf))
            any_goals
              have hR : R = ([], (((i + 1) : Nat) : Int), 25) := by
                by_cases him : (i + 1) < m
                · refine hRw him ?_
                  rw [hwr2]
                  first
                  | (rw [show wrK D _ = true from ‹(bif false then true else wrK D _) = true›, Bool.or_true])
                  | (rw [show decide (w0 ≠ [99, 101, 108, 108]) = true from ‹(bif false then true else decide (w0 ≠ _)) = !false›, Bool.true_or])
                  | (have h8 : (!decide ((i + 1) < m)) = true := ‹(!decide ((i + 1) < m)) = !false›
                     rw [decide_eq_true him] at h8; cases h8)
                · exact hRn him
              rw [hR]
              first | rfl | (rw [hol]; rfl)
            have hwk : wrK D _ = false := hg
            have him : (i + 1) < m := by
              have h8 : (!decide ((i + 1) < m)) = false := ‹(!decide ((i + 1) < m)) = false›
              exact of_decide_eq_true (by simpa using h8)
            have hgood := hgo him (by rw [hwr2, hwk, show decide (w0 ≠ [99, 101, 108, 108]) = false from ‹(bif false then true else decide (w0 ≠ _)) = false›]; rfl)
            have hO := hO hwk
            refine ⟨⟨rfl, rfl, rfl, by rw [hol]; simp; omega, fun e he => by simp at he; subst he; rfl⟩, ?_⟩
            conv => whnf
            refine ⟨rfl, ?_, hgood⟩
            show _ = [(2, _), (3, _), (4, _), (5, DObj.box 1 (.own 77 0 (oSW rows ((i + 1) + 1)).length (oSW rows ((i + 1) + 1)).length)), (77, .row 3 (oSW rows ((i + 1) + 1)) false)]
            rw [hO]
            first | rfl | (rw [hwin]; rfl)
    · intro ⟨h1, h2⟩
      have hlen : (lns s).length = (linesOf rows).length := by unfold lns; rw [List.length_map, hls]
      have hz : rows.getD m [] = [] := by
        by_cases hz : rows.getD m [] = []
        · exact hz
        · rw [if_neg hz] at hll; omega
      rw [if_pos hz, Nat.add_zero] at hll
      rw [hlen, hll] at h2
      rw [hlen, hll]
      have hR := hok (h2.trans (by rw [Nat.sub_self]; rfl))
      rw [if_neg (fun h => h hz)] at hR
      have hcs := outW_tb rows m s.length (fun r hr => hl.2 r hr)
      have hol := outW_len rows m (by omega)
      clear hok h2 h1 hlen hbad hll hls
      rcases m with _ | m
      · conv => whnf
        repeat' (first
          | (refine ⟨fun hg => ?_, fun hg => ?_⟩ <;> first | contradiction | (conv => whnf))
          | (refine Or.inl ?_; conv => whnf)
          | (refine ⟨_, c_CheckChain (outW rows 0) (by omega) (fun c hc => by have := hcs c hc; omega), ?_⟩; conv => whnf)
          | (refine And.intro ?_ ?_; kernel_rfl; conv => whnf))
        · have hg : chkChain (outW rows 0) ≠ 0 := of_decide_eq_true hg
          rw [if_pos hg] at hR
          rw [hR]; rfl
        all_goals
          have hg : ¬ chkChain (outW rows 0) ≠ 0 := of_decide_eq_false hg
          rw [if_neg hg] at hR
          rw [hR]; rfl
      · have hol2 : (oSW rows (m + 1)).length = m + 1 := by unfold oSW; rw [List.length_map, hol]
        have hcc : PC 36 [DV.list (oSW rows (m + 1))] (DV.int .i64 (chkChain (outW rows (m + 1)))) := c_CheckChain (outW rows (m + 1)) (by omega) (fun c hc => by have := hcs c hc; omega)
        conv => whnf
        refine .inl ?_
        conv => whnf
        refine ⟨rfl, ?_⟩
        rw [window_full]
        refine ⟨_, hcc, ?_⟩
        conv => whnf
        repeat' (first
          | (refine ⟨fun hg => ?_, fun hg => ?_⟩ <;> first | contradiction | (conv => whnf))
          | (refine Or.inl ?_; conv => whnf)
          | (refine And.intro ?_ ?_; kernel_rfl; conv => whnf))
        · have hg : chkChain (outW rows (m + 1)) ≠ 0 := of_decide_eq_true hg
          rw [if_pos hg] at hR
          rw [hR, hol2]; rfl
        all_goals
          have hg : ¬ chkChain (outW rows (m + 1)) ≠ 0 := of_decide_eq_false hg
          rw [if_neg hg] at hR
          rw [hR, window_full]; rfl
end Sh


set_option linter.unusedSimpArgs false
set_option linter.unusedVariables false
namespace Sh
open Go
theorem vDown_spec (c : Cel) (n : Int) : ∀ j, ((vDown c n j).2 = true ∧ ∃ k : Nat, (vDown c n j).1 = k ∧ k < j ∧ n ≤ curC c k ∧ ∀ i : Nat, k < i → i < j → curC c i < n) ∨ ((vDown c n j).2 = false ∧ (vDown c n j).1 = -c.dr ∧ ∀ i : Nat, i < j → curC c i < n)
  | 0 => .inr ⟨rfl, rfl, fun i h => by omega⟩
  | j + 1 => by
    unfold vDown
    by_cases h : n ≤ curC c (j : Int)
    · rw [if_pos h]
      exact .inl ⟨rfl, j, rfl, by omega, h, fun i h1 h2 => by omega⟩
    · rw [if_neg h]
      rcases vDown_spec c n j with ⟨h1, k, h2, h3, h4, h5⟩ | ⟨h1, h2, h3⟩
      · refine .inl ⟨h1, k, h2, by omega, h4, fun i a b => ?_⟩
        by_cases e : i = j
        · subst e; omega
        · exact h5 i a (by omega)
      · refine .inr ⟨h1, h2, fun i a => ?_⟩
        by_cases e : i = j
        · subst e; omega
        · exact h3 i (by omega)
theorem OkC.volt_spec {c : Cel} (h : OkC c) (n : Int) : ((voltC c n).2 = true ∧ 0 ≤ (voltC c n).1 ∧ (voltC c n).1 ≤ lastX c.tb ∧ n ≤ curC c (voltC c n).1 ∧ ((voltC c n).1 < lastX c.tb → curC c ((voltC c n).1 + 1) < n)) ∨ ((voltC c n).2 = false ∧ (voltC c n).1 = -c.dr) := by
  have hb := h.1.last_bd
  unfold voltC
  rcases vDown_spec c n ((lastX c.tb).toNat + 1) with ⟨h1, k, h2, h3, h4, h5⟩ | ⟨h1, h2, h3⟩
  · refine .inl ⟨h1, by omega, by omega, by rw [h2]; exact h4, fun hl => ?_⟩
    rw [h2] at hl ⊢
    exact h5 (k + 1) (by omega) (by omega)
  · exact .inr ⟨h1, h2⟩
theorem vDown_mono {c : Cel} (hd : 0 ≤ c.dr) {n m : Int} (h : n ≤ m) : ∀ j, (vDown c m j).1 ≤ (vDown c n j).1 ∧ ((vDown c m j).2 = true → (vDown c n j).2 = true)
  | 0 => ⟨Int.le_refl _, id⟩
  | j + 1 => by
    have ih := vDown_mono hd h j
    have hb := vDown_bd c m j
    unfold vDown
    by_cases h1 : m ≤ curC c (j : Int)
    · rw [if_pos h1, if_pos (by omega)]; exact ⟨Int.le_refl _, id⟩
    · rw [if_neg h1]
      by_cases h2 : n ≤ curC c (j : Int)
      · rw [if_pos h2]; exact ⟨by show _ ≤ (j : Int); omega, fun _ => rfl⟩
      · rw [if_neg h2]; exact ih
theorem OkC.volt_mono {c : Cel} (h : OkC c) {n m : Int} (hnm : n ≤ m) : (voltC c m).1 ≤ (voltC c n).1 ∧ ((voltC c m).2 = true → (voltC c n).2 = true) := vDown_mono h.2.2.2.1 hnm _
theorem hD_spec (l : List Cel) (v : Int) : ∀ k : Nat, (0 ≤ hD l v k → v ≤ chV l (hD l v k)) ∧ ∀ n : Nat, hD l v k < n → n < k → chV l n < v
  | 0 => ⟨fun h => by simp [hD] at h, fun n _ h => by omega⟩
  | k + 1 => by
    obtain ⟨h1, h2⟩ := hD_spec l v k
    have hb := hD_bd l v k
    unfold hD
    by_cases h : v ≤ chV l (k : Int)
    · rw [if_pos h]; exact ⟨fun _ => h, fun n a b => by omega⟩
    · rw [if_neg h]
      refine ⟨h1, fun n a b => ?_⟩
      by_cases e : n = k
      · subst e; omega
      · exact h2 n a (by omega)
theorem curH_spec (l : List Cel) (v : Int) : (0 < curH l v → v ≤ chV l (curH l v)) ∧ (curH l v < 200 → chV l (curH l v + 1) < v) := by
  obtain ⟨h1, h2⟩ := hD_spec l v 201
  have hb := hD_bd l v 201
  unfold curH
  by_cases h : 0 < hD l v 201
  · rw [if_pos h]
    refine ⟨fun _ => h1 (by omega), fun h3 => ?_⟩
    obtain ⟨u, hu⟩ : ∃ u : Nat, hD l v 201 + 1 = u := ⟨(hD l v 201 + 1).toNat, by omega⟩
    rw [hu]; exact h2 u (by omega) (by omega)
  · rw [if_neg h]
    exact ⟨fun h => by omega, fun _ => h2 1 (by omega) (by omega)⟩
theorem sumI_reverse (l : List Int) : sumI l.reverse = sumI l := by
  induction l with
  | nil => rfl
  | cons x r ih =>
    rw [List.reverse_cons, sumI_append, ih, sumI_one]
    show _ = x + sumI r
    omega
theorem chV_reverse (l : List Cel) (n : Int) : chV l.reverse n = chV l n := by unfold chV; rw [List.map_reverse, sumI_reverse]
theorem hD_reverse (l : List Cel) (v : Int) : ∀ k, hD l.reverse v k = hD l v k
  | 0 => rfl
  | k + 1 => by unfold hD; rw [chV_reverse, hD_reverse l v k]
theorem curH_reverse (l : List Cel) (v : Int) : curH l.reverse v = curH l v := by unfold curH; rw [hD_reverse]
theorem firstE_zeros : ∀ {l : List Int}, (∀ x ∈ l, x = 0) → firstE l = 0
  | [], _ => rfl
  | x :: r, h => by
    have h0 := h x (List.mem_cons_self ..)
    have ih := firstE_zeros (l := r) (fun y hy => h y (List.mem_cons_of_mem _ hy))
    simp [firstE, h0, ih]
theorem chkChain_cells {l : List Cel} (h : chkChain l = 0) : countE l.length 8 = 0 ∧ ∀ c ∈ l, chkCell c = 0 := by
  unfold chkChain at h
  split at h
  · exact absurd h ‹_›
  · exact ⟨Classical.not_not.1 ‹_›, fun c hc => firstE_mem h _ (List.mem_map_of_mem hc)⟩
theorem chkChain_of {l : List Cel} (h0 : countE l.length 8 = 0) (h : ∀ c ∈ l, chkCell c = 0) : chkChain l = 0 := by
  unfold chkChain
  rw [if_neg (by omega)]
  exact firstE_zeros fun x hx => by obtain ⟨c, hc, rfl⟩ := List.mem_map.1 hx; exact h c hc
theorem chkChain_reverse {l : List Cel} (h : chkChain l = 0) : chkChain l.reverse = 0 := by
  obtain ⟨h0, h1⟩ := chkChain_cells h
  exact chkChain_of (by rw [List.length_reverse]; exact h0) (fun c hc => h1 c (List.mem_reverse.1 hc))
theorem byp_mem (l : List Cel) (n : Int) (k i : Nat) (h : i < k) : decide ((i : Int) ∈ byp l n k) = !(voltC (l.getD i C0) n).2 := by
  have : ((i : Int) ∈ byp l n k) ↔ (!(voltC (l.getD i C0) n).2) = true := by
    unfold byp
    rw [List.mem_map]
    constructor
    · rintro ⟨j, hj, e⟩
      have : j = i := by omega
      subst this
      exact (List.mem_filter.1 hj).2
    · intro hh
      exact ⟨i, List.mem_filter.2 ⟨List.mem_range.2 h, hh⟩, rfl⟩
  cases hv : !(voltC (l.getD i C0) n).2 with
  | true => exact decide_eq_true (this.2 hv)
  | false => exact decide_eq_false (fun hh => by rw [this.1 hh] at hv; cases hv)
theorem splitC_app {b : UInt8} : ∀ {a : List UInt8} (r : List UInt8), b ∉ a → splitC b (a ++ b :: r) = a :: splitC b r
  | [], r, h => by show splitC b (b :: r) = _; rw [splitC, if_pos rfl]
  | c :: a, r, h => by
    have hc : ¬ c = b := fun e => h (e ▸ List.mem_cons_self ..)
    show splitC b (c :: (a ++ b :: r)) = _
    rw [splitC, if_neg hc, splitC_app r (fun hh => h (List.mem_cons_of_mem _ hh))]; rfl
theorem splitC_one {b : UInt8} : ∀ {a : List UInt8}, b ∉ a → splitC b a = [a]
  | [], _ => rfl
  | c :: a, h => by
    have hc : ¬ c = b := fun e => h (e ▸ List.mem_cons_self ..)
    rw [splitC, if_neg hc, splitC_one (fun hh => h (List.mem_cons_of_mem _ hh))]; rfl
theorem ofNat_dig {k : Nat} (h : k < 10) : (UInt8.ofNat (48 + k)).toNat = 48 + k := by
  rw [UInt8.toNat_ofNat']; omega
theorem dec_spec : ∀ n : Nat, (Lib.decDigits n).all isD = true ∧ (∀ a, valD (Lib.decDigits n) a = a * 10 ^ (Lib.decDigits n).length + n) ∧ Lib.decDigits n ≠ [] ∧ (n ≠ 0 → (Lib.decDigits n).getD 0 0 ≠ 48) := by
  intro n
  induction n using Nat.strongRecOn with
  | _ n ih =>
    by_cases h9 : n < 10
    · have e : Lib.decDigits n = [UInt8.ofNat (48 + n)] := by rw [Lib.decDigits, dif_pos h9]
      have ho := ofNat_dig h9
      rw [e]
      refine ⟨?_, fun a => ?_, by simp, fun hn h48 => ?_⟩
      · simp [isD, ho]; omega
      · simp only [valD, ho, List.length_cons, List.length_nil]; omega
      · have h48 : UInt8.ofNat (48 + n) = 48 := h48
        rw [h48] at ho
        have : (48 : UInt8).toNat = 48 := rfl
        omega
    · have e : Lib.decDigits n = Lib.decDigits (n / 10) ++ [UInt8.ofNat (48 + n % 10)] := by rw [Lib.decDigits, dif_neg h9]
      obtain ⟨h1, h2, h3, h4⟩ := ih (n / 10) (by omega)
      have ho := ofNat_dig (Nat.mod_lt n (by decide : 0 < 10))
      rw [e]
      refine ⟨?_, fun a => ?_, by simp, fun hn h48 => ?_⟩
      · rw [List.all_append, h1]; simp [isD, ho]; omega
      · rw [valD_append, h2]
        simp only [valD, ho, List.length_append, List.length_cons, List.length_nil]
        rw [Int.pow_succ, ← Int.mul_assoc]
        generalize a * 10 ^ (Lib.decDigits (n / 10)).length = z
        omega
      · refine h4 (by omega) ?_
        cases hd : Lib.decDigits (n / 10) with
        | nil => exact absurd hd h3
        | cons x r => rw [hd] at h48; exact h48
theorem dec_len : ∀ k n : Nat, n < 10 ^ (k + 1) → (Lib.decDigits n).length ≤ k + 1
  | 0, n, h => by
    rw [Lib.decDigits, dif_pos (by omega)]; simp
  | k + 1, n, h => by
    by_cases h9 : n < 10
    · rw [Lib.decDigits, dif_pos h9]; simp
    · have := dec_len k (n / 10) (by rw [Nat.pow_succ] at h; omega)
      rw [Lib.decDigits, dif_neg h9, List.length_append]
      simp; omega
theorem digS_itoa {n : Int} (h0 : 0 ≤ n) (h1 : n ≤ 999999999) : digS (Lib.itoa n) = (n, true) := by
  obtain ⟨u, rfl⟩ := Int.eq_ofNat_of_zero_le h0
  rw [itoa_nat]
  obtain ⟨a1, a2, a3, a4⟩ := dec_spec u
  have a5 := dec_len 8 u (by omega)
  have hb : badD (Lib.decDigits u) = false := by
    unfold badD
    rw [decide_eq_false a3, decide_eq_false (by omega : ¬ 9 < _)]
    by_cases hu : u = 0
    · subst hu
      rw [Lib.decDigits, dif_pos (by decide)]; rfl
    · rw [decide_eq_false (a4 hu), Bool.and_false]; rfl
  unfold digS
  rw [hb, a1, a2]
  simp
theorem itoa_not {b : UInt8} (hb : isD b = false) {n : Int} (h : 0 ≤ n) : b ∉ Lib.itoa n := by
  obtain ⟨u, rfl⟩ := Int.eq_ofNat_of_zero_le h
  rw [itoa_nat]
  intro hm
  have := List.all_eq_true.1 (dec_spec u).1 b hm
  rw [hb] at this; cases this
theorem split_wn : ∀ (a : List UInt8) (ns : List Int), 32 ∉ a → (∀ n ∈ ns, 0 ≤ n) → splitC 32 (a ++ wn ns) = a :: ns.map Lib.itoa
  | a, [], h, _ => by rw [wn_nil, List.append_nil, splitC_one h]; rfl
  | a, n :: r, h, hn => by
    rw [wn_cons, splitC_app _ h, split_wn (Lib.itoa n) r (itoa_not (by decide) (hn n (List.mem_cons_self ..))) (fun m hm => hn m (List.mem_cons_of_mem _ hm))]; rfl
theorem wn_not {b : UInt8} (hb : isD b = false) (h32 : b ≠ 32) : ∀ {ns : List Int}, (∀ n ∈ ns, 0 ≤ n) → b ∉ wn ns
  | [], _ => by rw [wn_nil]; simp
  | n :: r, hn => by
    rw [wn_cons]
    simp only [List.mem_cons, List.mem_append, not_or]
    exact ⟨h32, itoa_not hb (hn n (List.mem_cons_self ..)), wn_not hb h32 (fun m hm => hn m (List.mem_cons_of_mem _ hm))⟩
def bodyC (c : Cel) : List UInt8 := [99, 101, 108, 108] ++ wn (numsC c)
theorem ptsW_ptN : ∀ t : List Pt, ptsW (ptN t) = t
  | [] => rfl
  | p :: r => by
    have ih := ptsW_ptN r
    unfold ptN at *
    rw [List.flatMap_cons]
    show (⟨p.x, p.y⟩ : Pt) :: ptsW (r.flatMap fun p => [p.x, p.y]) = _
    rw [ih]
theorem words_body {c : Cel} (h : OkC c) : splitC 32 (bodyC c) = [99, 101, 108, 108] :: (numsC c).map Lib.itoa :=
  split_wn _ _ (by decide) (fun n hn => (h.nums n hn).1)
theorem nums_read {c : Cel} (h : OkC c) : numsW ([99, 101, 108, 108] :: (numsC c).map Lib.itoa) = numsC c := by
  unfold numsW
  show ((numsC c).map Lib.itoa).map (fun x => (digS x).1) = _
  rw [List.map_map]
  conv => rhs; rw [← List.map_id (numsC c)]
  refine List.map_congr_left fun n hn => ?_
  have := h.nums n hn
  show (digS (Lib.itoa n)).1 = n
  rw [digS_itoa this.1 (by omega)]
theorem body_ok {c : Cel} (h : OkC c) : wrongW (splitC 32 (bodyC c)) = false ∧ celW (splitC 32 (bodyC c)) = c := by
  rw [words_body h]
  have hl : (numsC c).length = 2 + 2 * c.tb.length := by
    have := ptN_len c.tb
    unfold ptN at this
    unfold numsC
    rw [List.length_append, this]; rfl
  constructor
  · unfold wrongW badW
    rw [List.length_cons, List.length_map, hl, decide_eq_false (by omega), decide_eq_false (by omega)]
    have : (List.drop 1 ([99, 101, 108, 108] :: (numsC c).map Lib.itoa)).all (fun x => (digS x).2) = true := by
      show ((numsC c).map Lib.itoa).all (fun x => (digS x).2) = true
      rw [List.all_eq_true]
      intro x hx
      obtain ⟨n, hn, rfl⟩ := List.mem_map.1 hx
      have := h.nums n hn
      rw [digS_itoa this.1 (by omega)]
    rw [this]; rfl
  · unfold celW
    rw [nums_read h]
    show (⟨ptsW (ptN c.tb), c.li, c.dr⟩ : Cel) = c
    rw [ptsW_ptN]
theorem body_not {c : Cel} (h : OkC c) : (10 : UInt8) ∉ bodyC c := by
  unfold bodyC
  rw [List.mem_append, not_or]
  exact ⟨by decide, wn_not (by decide) (by decide) (fun n hn => (h.nums n hn).1)⟩
theorem prtH_cons (c : Cel) (r : List Cel) : prtH (c :: r) = bodyC c ++ 10 :: prtH r := by
  unfold prtH
  rw [List.flatMap_cons, lineC_eq]
  unfold bodyC
  simp
theorem split_prtH : ∀ {l : List Cel} (b : List UInt8), (∀ c ∈ l, OkC c) → (10 : UInt8) ∉ b → splitC 10 (prtH l ++ b) = l.map bodyC ++ [b]
  | [], b, _, hb => splitC_one hb
  | c :: r, b, h, hb => by
    rw [prtH_cons, List.append_assoc, List.cons_append, splitC_app _ (body_not (h c (List.mem_cons_self ..))), split_prtH b (fun d hd => h d (List.mem_cons_of_mem _ hd)) hb]; rfl
theorem parE_none (rows : List (List UInt8)) : ∀ n i, (∀ j, i ≤ j → j < i + n → wrongW (splitC 32 (rows.getD j [])) = false) → parE rows n i = none
  | 0, _, _ => rfl
  | n + 1, i, h => by
    unfold parE
    rw [h i (Nat.le_refl _) (by omega)]
    exact parE_none rows n (i + 1) (fun j h1 h2 => h j (by omega) (by omega))
theorem rows_get {l : List Cel} {b : List UInt8} {j : Nat} (h : j < l.length) : (l.map bodyC ++ [b]).getD j [] = bodyC (l.getD j C0) := by
  simp [List.getD_eq_getElem?_getD, List.getElem?_append, h]
theorem rows_last {l : List Cel} {b : List UInt8} : (l.map bodyC ++ [b]).getD l.length [] = b := by
  simp [List.getD_eq_getElem?_getD, List.getElem?_append]
theorem outW_rows {l : List Cel} (b : List UInt8) (h : ∀ c ∈ l, OkC c) : outW (l.map bodyC ++ [b]) l.length = l := by
  unfold outW
  rw [List.take_append_of_le_length (by simp), List.take_of_length_le (by simp), List.map_map]
  conv => rhs; rw [← List.map_id l]
  exact List.map_congr_left fun c hc => (body_ok (h c hc)).2
theorem lineC_len2 {c : Cel} (h : OkC c) : (lineC c).length ≤ 401 := by
  rw [lineC_eq]
  have h1 := wn_len h.nums
  have h2 := ptN_len c.tb
  have h3 := h.1.2.1
  have hl : (numsC c).length = 2 + 2 * c.tb.length := by
    unfold ptN at h2
    unfold numsC
    rw [List.length_append, h2]; rfl
  rw [List.length_append, List.length_append]
  simp only [List.length_cons, List.length_nil]
  omega
theorem parS_prtH {l : List Cel} (hc : chkChain l = 0) (h4 : l.length ≤ 4) : parS (prtH l) = (l, 0, 0) := by
  have hok := (chkChain_zero hc).2.2
  have hlen := prtH_len hok
  have hs := split_prtH (l := l) [] hok (by simp)
  rw [List.append_nil] at hs
  unfold parS
  rw [if_neg (by omega), hs]
  have e : (l.map bodyC ++ [[]]).length - 1 = l.length := by simp
  rw [e, parE_none _ _ _ (fun j _ hj => by rw [rows_get (by omega)]; exact (body_ok (hok _ (getD_in C0 (by omega)))).1)]
  show (if _ then _ else _) = _
  rw [rows_last, if_neg (by simp), outW_rows [] hok, if_neg (by omega)]
theorem parS_cut {m : List Cel} {c : Cel} (hok : ∀ d ∈ m ++ [c], OkC d) (h4 : m.length ≤ 4) : parS (prtH m ++ bodyC c) = ([], (m.length : Int), 25) := by
  have hm : ∀ d ∈ m, OkC d := fun d hd => hok d (List.mem_append_left _ hd)
  have hcc : OkC c := hok c (by simp)
  have hlen := prtH_len hm
  have hll := lineC_len2 hcc
  have hbl : (bodyC c).length ≤ 401 := by
    rw [lineC_eq] at hll
    unfold bodyC
    rw [List.length_append] at hll
    omega
  have hs := split_prtH (l := m) (bodyC c) hm (body_not hcc)
  unfold parS
  rw [if_neg (by rw [List.length_append]; omega), hs]
  have e : (m.map bodyC ++ [bodyC c]).length - 1 = m.length := by simp
  rw [e, parE_none _ _ _ (fun j _ hj => by rw [rows_get (by omega)]; exact (body_ok (hm _ (getD_in C0 (by omega)))).1)]
  show (if _ then _ else _) = _
  rw [rows_last, if_pos (by unfold bodyC; simp)]
theorem prtH_cut {l : List Cel} (h : l ≠ []) : ∃ m c, l = m ++ [c] ∧ (prtH l).length = (prtH m ++ bodyC c).length + 1 ∧ window (prtH l) 0 ((prtH l).length - 1) = prtH m ++ bodyC c := by
  refine ⟨l.dropLast, l.getLast h, (List.dropLast_concat_getLast h).symm, ?_⟩
  have e : prtH l = (prtH l.dropLast ++ bodyC (l.getLast h)) ++ [10] := by
    conv => lhs; rw [← List.dropLast_concat_getLast h]
    unfold prtH
    rw [List.flatMap_append, List.flatMap_cons, List.flatMap_nil, List.append_nil, lineC_eq]
    unfold bodyC
    simp
  have hl : (prtH l).length = (prtH l.dropLast ++ bodyC (l.getLast h)).length + 1 := by
    conv => lhs; rw [e, List.length_append]
    rfl
  refine ⟨hl, ?_⟩
  rw [hl, Nat.add_sub_cancel]
  conv => lhs; rw [e]
  unfold window
  rw [List.drop_zero, List.take_left']
  rfl
end Sh


set_option maxRecDepth 100000
namespace Sh
open Go
def db11_0 : DC := (.seq (.seq (.ops false [⟨(some 100), (.mov (.tmp 14)), none, []⟩, ⟨(some 101), (.mov (.tmp 13)), none, []⟩, ⟨(some 102), (.bin .add (.tmp 101) (.const (.int .i64 1))), none, []⟩, ⟨(some 103), (.bin .leq (.tmp 100) (.tmp 102)), none, []⟩]) (.cond (.tmp 103) .skip (.exit 2))) (.seq (.block 3 none (.seq (.ops false [⟨(some 107), (.load (some 3) (.tmp 12)), none, []⟩, ⟨(some 108), (.call (.func 15) [(.tmp 107)]), none, []⟩, ⟨(some 109), (.mov (.tmp 14)), none, []⟩, ⟨(some 110), (.call (.func 14) [(.tmp 108), (.tmp 109)]), none, []⟩, ⟨(some 106), (.mov (.tmp 110)), none, []⟩, ⟨(some 111), (.extract (.tmp 106) 0), none, []⟩, ⟨(some 112), (.extract (.tmp 106) 1), none, []⟩, ⟨(some 15), (.mov (.tmp 111)), none, []⟩, ⟨(some 16), (.mov (.tmp 112)), none, []⟩]) (.seq (.ops false [⟨(some 114), (.load (some 3) (.tmp 12)), none, []⟩, ⟨(some 115), (.call (.func 15) [(.tmp 114)]), none, []⟩, ⟨(some 116), (.mov (.tmp 14)), none, []⟩, ⟨(some 117), (.bin .add (.tmp 116) (.const (.int .i64 1))), none, []⟩, ⟨(some 118), (.call (.func 14) [(.tmp 115), (.tmp 117)]), none, []⟩, ⟨(some 113), (.mov (.tmp 118)), none, []⟩, ⟨(some 119), (.extract (.tmp 113) 0), none, []⟩, ⟨(some 120), (.extract (.tmp 113) 1), none, []⟩, ⟨(some 17), (.mov (.tmp 119)), none, []⟩, ⟨(some 18), (.mov (.tmp 120)), none, []⟩]) (.seq (.ops false [⟨(some 121), (.mov (.tmp 16)), none, []⟩, ⟨(some 122), (.bin .neq (.tmp 121) (.const (.int .i64 0))), none, []⟩, ⟨(some 123), (.mov (.tmp 122)), none, []⟩, ⟨(some 124), (.mov (.tmp 18)), (some (123, false)), []⟩, ⟨(some 125), (.bin .neq (.tmp 124) (.const (.int .i64 0))), (some (123, false)), []⟩, ⟨(some 126), (.pick (.tmp 123) (.const (.bool true)) (.tmp 125)), none, []⟩, ⟨(some 127), (.mov (.tmp 126)), none, []⟩, ⟨(some 128), (.mov (.tmp 15)), (some (127, false)), []⟩, ⟨(some 129), (.mov (.tmp 17)), (some (127, false)), []⟩, ⟨(some 130), (.bin .lss (.tmp 128) (.tmp 129)), (some (127, false)), []⟩, ⟨(some 131), (.pick (.tmp 127) (.const (.bool true)) (.tmp 130)), none, []⟩, ⟨(some 132), (.mov (.tmp 131)), none, []⟩, ⟨(some 133), (.mov (.tmp 17)), (some (132, false)), []⟩, ⟨(some 134), (.bin .lss (.tmp 133) (.const (.int .i64 0))), (some (132, false)), []⟩, ⟨(some 135), (.pick (.tmp 132) (.const (.bool true)) (.tmp 134)), none, []⟩, ⟨(some 136), (.mov (.tmp 135)), none, []⟩, ⟨(some 137), (.mov (.tmp 14)), (some (136, false)), []⟩, ⟨(some 138), (.mov (.tmp 13)), (some (136, false)), []⟩, ⟨(some 139), (.bin .geq (.tmp 137) (.tmp 138)), (some (136, false)), []⟩, ⟨(some 140), (.mov (.tmp 139)), (some (136, false)), []⟩, ⟨(some 141), (.mov (.tmp 15)), (some (140, true)), []⟩, ⟨(some 142), (.bin .neq (.tmp 141) (.const (.int .i64 0))), (some (140, true)), []⟩, ⟨(some 143), (.pick (.tmp 140) (.tmp 142) (.const (.bool false))), (some (136, false)), []⟩, ⟨(some 144), (.pick (.tmp 136) (.const (.bool true)) (.tmp 143)), none, []⟩]) (.cond (.tmp 144) (.seq (.ops false [⟨(some 4), (.mov (.const (.bool false))), none, []⟩]) .ret) .skip))))) (.ops false [⟨(some 104), (.mov (.tmp 14)), none, []⟩, ⟨(some 105), (.bin .add (.tmp 104) (.const (.int .i64 1))), none, []⟩, ⟨(some 14), (.mov (.tmp 105)), none, []⟩])))
def dk11_0 : Keep := ⟨[], [0, 5, 6, 7, 8, 10, 11, 12, 13, 14, 80, 81, 82], [3, 12, 88, 90]⟩
def db11_1 : DC := (.seq (.ops false [⟨(some 83), (.bin .lss (.tmp 82) (.tmp 81)), none, []⟩]) (.seq (.cond (.tmp 83) .skip (.exit 0)) (.seq (.block 1 (some ⟨[], [0, 5, 6, 7, 8, 10, 80, 81, 82], [3]⟩) (.seq (.ops false [⟨(some 84), (.mov (.tmp 82)), none, []⟩, ⟨(some 85), (.iaddr 3 (.tmp 80) (.tmp 82)), none, []⟩, ⟨(some 86), (.load (some 3) (.tmp 85)), none, []⟩, ⟨(some 12), (.alloc (.agg [(.full []), (.int .i64 0), (.int .i64 0)]) 3), none, []⟩, ⟨(some 11), (.mov (.tmp 84)), none, []⟩, ⟨none, (.store 3 (.tmp 12) (.tmp 86)), none, []⟩]) (.seq (.ops false [⟨(some 87), (.load (some 3) (.tmp 12)), none, []⟩, ⟨(some 88), (.lit true 3 1 (.agg [(.full []), (.int .i64 0), (.int .i64 0)]) [(0, (.tmp 87))]), none, []⟩, ⟨(some 89), (.mov (.tmp 10)), none, []⟩, ⟨(some 90), (.append true 3 (.tmp 88) (.tmp 89)), none, []⟩, ⟨(some 10), (.mov (.tmp 90)), none, []⟩]) (.seq (.ops false [⟨(some 91), (.faddr 0 1 false (.tmp 12)), none, []⟩, ⟨(some 92), (.load none (.tmp 91)), none, []⟩, ⟨(some 93), (.faddr 0 1 false (.tmp 12)), none, []⟩, ⟨(some 94), (.load none (.tmp 93)), none, []⟩, ⟨(some 95), (.len (.tmp 94)), none, []⟩, ⟨(some 96), (.bin .sub (.tmp 95) (.const (.int .i64 1))), none, []⟩, ⟨(some 97), (.iaddr 2 (.tmp 92) (.tmp 96)), none, []⟩, ⟨(some 98), (.faddr 0 1 false (.tmp 97)), none, []⟩, ⟨(some 99), (.load none (.tmp 98)), none, []⟩, ⟨(some 13), (.mov (.tmp 99)), none, []⟩]) (.seq (.seq (.ops false [⟨(some 14), (.mov (.const (.int .i64 0))), none, []⟩]) (.block 2 (some ⟨[], [0, 5, 6, 7, 8, 10, 11, 12, 13, 80, 81, 82], [3, 12, 88, 90]⟩) (.loop dk11_0 db11_0))) (.seq (.ops false [⟨(some 146), (.load (some 3) (.tmp 12)), none, []⟩, ⟨(some 147), (.call (.func 15) [(.tmp 146)]), none, []⟩, ⟨(some 148), (.mov (.tmp 6)), none, []⟩, ⟨(some 149), (.call (.func 16) [(.tmp 147), (.tmp 148)]), none, []⟩, ⟨(some 145), (.mov (.tmp 149)), none, []⟩, ⟨(some 150), (.extract (.tmp 145) 0), none, []⟩, ⟨(some 151), (.extract (.tmp 145) 1), none, []⟩, ⟨(some 152), (.extract (.tmp 145) 2), none, []⟩, ⟨(some 19), (.mov (.tmp 150)), none, []⟩, ⟨(some 20), (.mov (.tmp 151)), none, []⟩, ⟨(some 21), (.mov (.tmp 152)), none, []⟩]) (.seq (.ops false [⟨(some 154), (.load (some 3) (.tmp 12)), none, []⟩, ⟨(some 155), (.call (.func 15) [(.tmp 154)]), none, []⟩, ⟨(some 156), (.mov (.tmp 6)), none, []⟩, ⟨(some 157), (.bin .add (.tmp 156) (.const (.int .i64 1))), none, []⟩, ⟨(some 158), (.minmax false (.const (.int .i64 200)) [(.tmp 157)]), none, []⟩, ⟨(some 159), (.call (.func 16) [(.tmp 155), (.tmp 158)]), none, []⟩, ⟨(some 153), (.mov (.tmp 159)), none, []⟩, ⟨(some 160), (.extract (.tmp 153) 0), none, []⟩, ⟨(some 161), (.extract (.tmp 153) 1), none, []⟩, ⟨(some 162), (.extract (.tmp 153) 2), none, []⟩, ⟨(some 22), (.mov (.tmp 160)), none, []⟩, ⟨(some 23), (.mov (.tmp 161)), none, []⟩, ⟨(some 24), (.mov (.tmp 162)), none, []⟩]) (.seq (.seq (.ops false [⟨(some 163), (.mov (.tmp 21)), none, []⟩, ⟨(some 164), (.bin .neq (.tmp 163) (.const (.int .i64 0))), none, []⟩, ⟨(some 165), (.mov (.tmp 164)), none, []⟩, ⟨(some 166), (.mov (.tmp 24)), (some (165, false)), []⟩, ⟨(some 167), (.bin .neq (.tmp 166) (.const (.int .i64 0))), (some (165, false)), []⟩, ⟨(some 168), (.pick (.tmp 165) (.const (.bool true)) (.tmp 167)), none, []⟩, ⟨(some 169), (.mov (.tmp 168)), none, []⟩, ⟨(some 170), (.mov (.tmp 22)), (some (169, false)), []⟩, ⟨(some 171), (.mov (.tmp 19)), (some (169, false)), []⟩, ⟨(some 172), (.bin .gtr (.tmp 170) (.tmp 171)), (some (169, false)), []⟩, ⟨(some 173), (.pick (.tmp 169) (.const (.bool true)) (.tmp 172)), none, []⟩, ⟨(some 174), (.mov (.tmp 173)), none, []⟩, ⟨(some 175), (.mov (.tmp 23)), (some (174, false)), []⟩, ⟨(some 176), (.mov (.tmp 175)), (some (174, false)), []⟩, ⟨(some 177), (.mov (.tmp 20)), (some (176, true)), []⟩, ⟨(some 178), (.un .not (.tmp 177)), (some (176, true)), []⟩, ⟨(some 179), (.pick (.tmp 176) (.tmp 178) (.const (.bool false))), (some (174, false)), []⟩, ⟨(some 180), (.pick (.tmp 174) (.const (.bool true)) (.tmp 179)), none, []⟩, ⟨(some 181), (.mov (.tmp 180)), none, []⟩, ⟨(some 182), (.mov (.tmp 20)), (some (181, false)), []⟩, ⟨(some 183), (.mov (.tmp 8)), (some (181, false)), []⟩, ⟨(some 184), (.mov (.tmp 11)), (some (181, false)), []⟩, ⟨(some 185), (.call (.func 65) [(.tmp 183), (.tmp 184)]), (some (181, false)), []⟩, ⟨(some 186), (.eqB false (.tmp 182) (.tmp 185)), (some (181, false)), []⟩, ⟨(some 187), (.pick (.tmp 181) (.const (.bool true)) (.tmp 186)), none, []⟩, ⟨(some 188), (.mov (.tmp 187)), none, []⟩, ⟨(some 189), (.mov (.tmp 20)), (some (188, false)), []⟩, ⟨(some 190), (.un .not (.tmp 189)), (some (188, false)), []⟩, ⟨(some 191), (.mov (.tmp 190)), (some (188, false)), []⟩, ⟨(some 192), (.mov (.tmp 19)), (some (191, true)), []⟩, ⟨(some 193), (.faddr 2 1 false (.tmp 12)), (some (191, true)), []⟩, ⟨(some 194), (.load none (.tmp 193)), (some (191, true)), []⟩, ⟨(some 195), (.un .neg (.tmp 194)), (some (191, true)), []⟩, ⟨(some 196), (.bin .neq (.tmp 192) (.tmp 195)), (some (191, true)), []⟩, ⟨(some 197), (.pick (.tmp 191) (.tmp 196) (.const (.bool false))), (some (188, false)), []⟩, ⟨(some 198), (.pick (.tmp 188) (.const (.bool true)) (.tmp 197)), none, []⟩, ⟨(some 199), (.mov (.tmp 198)), none, []⟩, ⟨(some 200), (.mov (.tmp 20)), (some (199, false)), []⟩, ⟨(some 201), (.mov (.tmp 200)), (some (199, false)), []⟩, ⟨(some 202), (.mov (.tmp 19)), (some (201, true)), []⟩, ⟨(some 203), (.bin .lss (.tmp 202) (.const (.int .i64 0))), (some (201, true)), []⟩, ⟨(some 204), (.mov (.tmp 203)), (some (201, true)), []⟩, ⟨(some 205), (.mov (.tmp 19)), (some (204, false)), []⟩, ⟨(some 206), (.mov (.tmp 13)), (some (204, false)), []⟩, ⟨(some 207), (.bin .gtr (.tmp 205) (.tmp 206)), (some (204, false)), []⟩, ⟨(some 208), (.pick (.tmp 204) (.const (.bool true)) (.tmp 207)), (some (201, true)), []⟩, ⟨(some 209), (.pick (.tmp 201) (.tmp 208) (.const (.bool false))), (some (199, false)), []⟩, ⟨(some 210), (.pick (.tmp 199) (.const (.bool true)) (.tmp 209)), none, []⟩]) (.cond (.tmp 210) (.seq (.ops false [⟨(some 4), (.mov (.const (.bool false))), none, []⟩]) .ret) .skip)) (.seq (.seq (.ops false [⟨(some 211), (.mov (.tmp 20)), none, []⟩]) (.cond (.tmp 211) (.seq (.ops false [⟨(some 213), (.load (some 3) (.tmp 12)), none, []⟩, ⟨(some 214), (.call (.func 15) [(.tmp 213)]), none, []⟩, ⟨(some 215), (.mov (.tmp 19)), none, []⟩, ⟨(some 216), (.call (.func 14) [(.tmp 214), (.tmp 215)]), none, []⟩, ⟨(some 212), (.mov (.tmp 216)), none, []⟩, ⟨(some 217), (.extract (.tmp 212) 0), none, []⟩, ⟨(some 218), (.extract (.tmp 212) 1), none, []⟩, ⟨(some 25), (.mov (.tmp 217)), none, []⟩, ⟨(some 26), (.mov (.tmp 218)), none, []⟩]) (.seq (.ops false [⟨(some 220), (.load (some 3) (.tmp 12)), none, []⟩, ⟨(some 221), (.call (.func 15) [(.tmp 220)]), none, []⟩, ⟨(some 222), (.mov (.tmp 19)), none, []⟩, ⟨(some 223), (.bin .add (.tmp 222) (.const (.int .i64 1))), none, []⟩, ⟨(some 224), (.call (.func 14) [(.tmp 221), (.tmp 223)]), none, []⟩, ⟨(some 219), (.mov (.tmp 224)), none, []⟩, ⟨(some 225), (.extract (.tmp 219) 0), none, []⟩, ⟨(some 226), (.extract (.tmp 219) 1), none, []⟩, ⟨(some 27), (.mov (.tmp 225)), none, []⟩, ⟨(some 28), (.mov (.tmp 226)), none, []⟩]) (.seq (.ops false [⟨(some 227), (.mov (.tmp 26)), none, []⟩, ⟨(some 228), (.bin .neq (.tmp 227) (.const (.int .i64 0))), none, []⟩, ⟨(some 229), (.mov (.tmp 228)), none, []⟩, ⟨(some 230), (.mov (.tmp 28)), (some (229, false)), []⟩, ⟨(some 231), (.bin .neq (.tmp 230) (.const (.int .i64 0))), (some (229, false)), []⟩, ⟨(some 232), (.pick (.tmp 229) (.const (.bool true)) (.tmp 231)), none, []⟩, ⟨(some 233), (.mov (.tmp 232)), none, []⟩, ⟨(some 234), (.mov (.tmp 25)), (some (233, false)), []⟩, ⟨(some 235), (.mov (.tmp 6)), (some (233, false)), []⟩, ⟨(some 236), (.bin .lss (.tmp 234) (.tmp 235)), (some (233, false)), []⟩, ⟨(some 237), (.pick (.tmp 233) (.const (.bool true)) (.tmp 236)), none, []⟩, ⟨(some 238), (.mov (.tmp 237)), none, []⟩, ⟨(some 239), (.mov (.tmp 19)), (some (238, false)), []⟩, ⟨(some 240), (.mov (.tmp 13)), (some (238, false)), []⟩, ⟨(some 241), (.bin .lss (.tmp 239) (.tmp 240)), (some (238, false)), []⟩, ⟨(some 242), (.mov (.tmp 241)), (some (238, false)), []⟩, ⟨(some 243), (.mov (.tmp 27)), (some (242, true)), []⟩, ⟨(some 244), (.mov (.tmp 6)), (some (242, true)), []⟩, ⟨(some 245), (.bin .geq (.tmp 243) (.tmp 244)), (some (242, true)), []⟩, ⟨(some 246), (.pick (.tmp 242) (.tmp 245) (.const (.bool false))), (some (238, false)), []⟩, ⟨(some 247), (.pick (.tmp 238) (.const (.bool true)) (.tmp 246)), none, []⟩]) (.cond (.tmp 247) (.seq (.ops false [⟨(some 4), (.mov (.const (.bool false))), none, []⟩]) .ret) .skip)))) .skip)) (.ops false [⟨(some 248), (.mov (.tmp 7)), none, []⟩, ⟨(some 249), (.mov (.tmp 19)), none, []⟩, ⟨(some 250), (.bin .add (.tmp 248) (.tmp 249)), none, []⟩, ⟨(some 7), (.mov (.tmp 250)), none, []⟩])))))))))) (.ops false [⟨(some 251), (.bin .add (.tmp 82) (.const (.int .i64 1))), none, []⟩, ⟨(some 82), (.mov (.tmp 251)), none, []⟩]))))
def dk11_1 : Keep := ⟨[], [0, 5, 6, 7, 8, 10, 80, 81, 82], [3]⟩
def dc11 : DFunc := ⟨410, 2, [(.tmp 4)], (.seq (.ops false [⟨(some 3), (.box 2 (.tmp 1)), none, []⟩, ⟨(some 4), (.mov (.const (.bool false))), none, []⟩]) (.seq (.seq (.ops false [⟨(some 49), (.mov (.tmp 0)), none, []⟩, ⟨(some 50), (.len (.tmp 49)), none, []⟩, ⟨(some 51), (.bin .gtr (.tmp 50) (.const (.int .i64 4))), none, []⟩, ⟨(some 52), (.mov (.tmp 51)), none, []⟩, ⟨(some 53), (.mov (.tmp 0)), (some (52, false)), []⟩, ⟨(some 54), (.call (.func 27) [(.tmp 53)]), (some (52, false)), []⟩, ⟨(some 55), (.un .not (.tmp 54)), (some (52, false)), []⟩, ⟨(some 56), (.pick (.tmp 52) (.const (.bool true)) (.tmp 55)), none, []⟩, ⟨(some 57), (.mov (.tmp 56)), none, []⟩, ⟨(some 58), (.mov (.tmp 0)), (some (57, false)), []⟩, ⟨(some 59), (.call (.func 32) [(.tmp 58)]), (some (57, false)), []⟩, ⟨(some 60), (.bin .neq (.tmp 59) (.const (.int .i64 0))), (some (57, false)), []⟩, ⟨(some 61), (.pick (.tmp 57) (.const (.bool true)) (.tmp 60)), none, []⟩]) (.cond (.tmp 61) (.seq (.ops false [⟨(some 62), (.call (.func 13) []), none, []⟩, ⟨(some 4), (.mov (.tmp 62)), none, []⟩]) .ret) .skip)) (.seq (.ops true [⟨(some 63), (.iaddrA 2 1 false (.tmp 3) (.const (.int .i64 0))), none, []⟩, ⟨(some 64), (.load none (.tmp 63)), none, [0]⟩, ⟨(some 65), (.conv .i64 (.tmp 64)), none, [1, 0]⟩, ⟨(some 66), (.bin .rem (.tmp 65) (.const (.int .i64 801))), none, [2, 1, 0]⟩, ⟨(some 67), (.iaddrA 2 1 false (.tmp 3) (.const (.int .i64 1))), none, []⟩, ⟨(some 68), (.load none (.tmp 67)), none, [4]⟩, ⟨(some 69), (.conv .i64 (.tmp 68)), none, [5, 4]⟩, ⟨(some 70), (.bin .rem (.tmp 69) (.const (.int .i64 201))), none, [6, 5, 4]⟩, ⟨(some 5), (.mov (.tmp 66)), none, [3, 2, 1, 0]⟩, ⟨(some 6), (.mov (.tmp 70)), none, [7, 6, 5, 4, 8, 3, 2, 1, 0]⟩]) (.seq (.ops false [⟨(some 7), (.mov (.const (.int .i64 0))), none, []⟩]) (.seq (.ops false [⟨(some 72), (.mov (.tmp 0)), none, []⟩, ⟨(some 73), (.call (.func 29) [(.tmp 72)]), none, []⟩, ⟨(some 74), (.mov (.tmp 6)), none, []⟩, ⟨(some 75), (.call (.func 31) [(.tmp 73), (.tmp 74)]), none, []⟩, ⟨(some 71), (.mov (.tmp 75)), none, []⟩, ⟨(some 76), (.extract (.tmp 71) 0), none, []⟩, ⟨(some 77), (.extract (.tmp 71) 1), none, []⟩, ⟨(some 8), (.mov (.tmp 76)), none, []⟩, ⟨(some 9), (.mov (.tmp 77)), none, []⟩]) (.seq (.seq (.ops false [⟨(some 78), (.mov (.tmp 9)), none, []⟩, ⟨(some 79), (.bin .neq (.tmp 78) (.const (.int .i64 0))), none, []⟩]) (.cond (.tmp 79) (.seq (.ops false [⟨(some 4), (.mov (.const (.bool false))), none, []⟩]) .ret) .skip)) (.seq (.ops false [⟨(some 10), (.mov (.const (.slice none 0 0))), none, []⟩]) (.seq (.seq (.ops false [⟨(some 80), (.mov (.tmp 0)), none, []⟩, ⟨(some 81), (.len (.tmp 80)), none, []⟩, ⟨(some 82), (.mov (.const (.int .i64 0))), none, []⟩]) (.block 0 (some ⟨[], [0, 5, 6, 7, 10], [3]⟩) (.loop dk11_1 db11_1))) (.seq (.ops false [⟨(some 253), (.mov (.tmp 0)), none, []⟩, ⟨(some 254), (.call (.func 29) [(.tmp 253)]), none, []⟩, ⟨(some 255), (.mov (.tmp 6)), none, []⟩, ⟨(some 256), (.call (.func 28) [(.tmp 254), (.tmp 255)]), none, []⟩, ⟨(some 252), (.mov (.tmp 256)), none, []⟩, ⟨(some 257), (.extract (.tmp 252) 0), none, []⟩, ⟨(some 258), (.extract (.tmp 252) 1), none, []⟩, ⟨(some 29), (.mov (.tmp 257)), none, []⟩, ⟨(some 30), (.mov (.tmp 258)), none, []⟩]) (.seq (.ops false [⟨(some 260), (.mov (.tmp 10)), none, []⟩, ⟨(some 261), (.call (.func 29) [(.tmp 260)]), none, []⟩, ⟨(some 262), (.mov (.tmp 6)), none, []⟩, ⟨(some 263), (.call (.func 28) [(.tmp 261), (.tmp 262)]), none, []⟩, ⟨(some 259), (.mov (.tmp 263)), none, []⟩, ⟨(some 264), (.extract (.tmp 259) 0), none, []⟩, ⟨(some 265), (.extract (.tmp 259) 1), none, []⟩, ⟨(some 31), (.mov (.tmp 264)), none, []⟩, ⟨(some 32), (.mov (.tmp 265)), none, []⟩]) (.seq (.ops false [⟨(some 267), (.mov (.tmp 0)), none, []⟩, ⟨(some 268), (.call (.func 29) [(.tmp 267)]), none, []⟩, ⟨(some 269), (.mov (.tmp 5)), none, []⟩, ⟨(some 270), (.call (.func 30) [(.tmp 268), (.tmp 269)]), none, []⟩, ⟨(some 266), (.mov (.tmp 270)), none, []⟩, ⟨(some 271), (.extract (.tmp 266) 0), none, []⟩, ⟨(some 272), (.extract (.tmp 266) 1), none, []⟩, ⟨(some 33), (.mov (.tmp 271)), none, []⟩, ⟨(some 34), (.mov (.tmp 272)), none, []⟩]) (.seq (.ops false [⟨(some 274), (.mov (.tmp 10)), none, []⟩, ⟨(some 275), (.call (.func 29) [(.tmp 274)]), none, []⟩, ⟨(some 276), (.mov (.tmp 5)), none, []⟩, ⟨(some 277), (.call (.func 30) [(.tmp 275), (.tmp 276)]), none, []⟩, ⟨(some 273), (.mov (.tmp 277)), none, []⟩, ⟨(some 278), (.extract (.tmp 273) 0), none, []⟩, ⟨(some 279), (.extract (.tmp 273) 1), none, []⟩, ⟨(some 35), (.mov (.tmp 278)), none, []⟩, ⟨(some 36), (.mov (.tmp 279)), none, []⟩]) (.seq (.seq (.ops false [⟨(some 280), (.mov (.tmp 30)), none, []⟩, ⟨(some 281), (.bin .neq (.tmp 280) (.const (.int .i64 0))), none, []⟩, ⟨(some 282), (.mov (.tmp 281)), none, []⟩, ⟨(some 283), (.mov (.tmp 32)), (some (282, false)), []⟩, ⟨(some 284), (.bin .neq (.tmp 283) (.const (.int .i64 0))), (some (282, false)), []⟩, ⟨(some 285), (.pick (.tmp 282) (.const (.bool true)) (.tmp 284)), none, []⟩, ⟨(some 286), (.mov (.tmp 285)), none, []⟩, ⟨(some 287), (.mov (.tmp 34)), (some (286, false)), []⟩, ⟨(some 288), (.bin .neq (.tmp 287) (.const (.int .i64 0))), (some (286, false)), []⟩, ⟨(some 289), (.pick (.tmp 286) (.const (.bool true)) (.tmp 288)), none, []⟩, ⟨(some 290), (.mov (.tmp 289)), none, []⟩, ⟨(some 291), (.mov (.tmp 36)), (some (290, false)), []⟩, ⟨(some 292), (.bin .neq (.tmp 291) (.const (.int .i64 0))), (some (290, false)), []⟩, ⟨(some 293), (.pick (.tmp 290) (.const (.bool true)) (.tmp 292)), none, []⟩, ⟨(some 294), (.mov (.tmp 293)), none, []⟩, ⟨(some 295), (.mov (.tmp 29)), (some (294, false)), []⟩, ⟨(some 296), (.mov (.tmp 7)), (some (294, false)), []⟩, ⟨(some 297), (.bin .neq (.tmp 295) (.tmp 296)), (some (294, false)), []⟩, ⟨(some 298), (.pick (.tmp 294) (.const (.bool true)) (.tmp 297)), none, []⟩, ⟨(some 299), (.mov (.tmp 298)), none, []⟩, ⟨(some 300), (.mov (.tmp 31)), (some (299, false)), []⟩, ⟨(some 301), (.mov (.tmp 7)), (some (299, false)), []⟩, ⟨(some 302), (.bin .neq (.tmp 300) (.tmp 301)), (some (299, false)), []⟩, ⟨(some 303), (.pick (.tmp 299) (.const (.bool true)) (.tmp 302)), none, []⟩, ⟨(some 304), (.mov (.tmp 303)), none, []⟩, ⟨(some 305), (.mov (.tmp 33)), (some (304, false)), []⟩, ⟨(some 306), (.mov (.tmp 35)), (some (304, false)), []⟩, ⟨(some 307), (.bin .neq (.tmp 305) (.tmp 306)), (some (304, false)), []⟩, ⟨(some 308), (.pick (.tmp 304) (.const (.bool true)) (.tmp 307)), none, []⟩, ⟨(some 309), (.mov (.tmp 308)), none, []⟩, ⟨(some 310), (.mov (.tmp 33)), (some (309, false)), []⟩, ⟨(some 311), (.bin .lss (.tmp 310) (.const (.int .i64 0))), (some (309, false)), []⟩, ⟨(some 312), (.pick (.tmp 309) (.const (.bool true)) (.tmp 311)), none, []⟩, ⟨(some 313), (.mov (.tmp 312)), none, []⟩, ⟨(some 314), (.mov (.tmp 33)), (some (313, false)), []⟩, ⟨(some 315), (.bin .gtr (.tmp 314) (.const (.int .i64 200))), (some (313, false)), []⟩, ⟨(some 316), (.pick (.tmp 313) (.const (.bool true)) (.tmp 315)), none, []⟩]) (.cond (.tmp 316) (.seq (.ops false [⟨(some 4), (.mov (.const (.bool false))), none, []⟩]) .ret) .skip)) (.seq (.seq (.ops false [⟨(some 317), (.mov (.tmp 33)), none, []⟩, ⟨(some 318), (.bin .gtr (.tmp 317) (.const (.int .i64 0))), none, []⟩]) (.cond (.tmp 318) (.seq (.ops false [⟨(some 320), (.mov (.tmp 0)), none, []⟩, ⟨(some 321), (.call (.func 29) [(.tmp 320)]), none, []⟩, ⟨(some 322), (.mov (.tmp 33)), none, []⟩, ⟨(some 323), (.call (.func 28) [(.tmp 321), (.tmp 322)]), none, []⟩, ⟨(some 319), (.mov (.tmp 323)), none, []⟩, ⟨(some 324), (.extract (.tmp 319) 0), none, []⟩, ⟨(some 325), (.extract (.tmp 319) 1), none, []⟩, ⟨(some 37), (.mov (.tmp 324)), none, []⟩, ⟨(some 38), (.mov (.tmp 325)), none, []⟩]) (.seq (.ops false [⟨(some 326), (.mov (.tmp 38)), none, []⟩, ⟨(some 327), (.bin .neq (.tmp 326) (.const (.int .i64 0))), none, []⟩, ⟨(some 328), (.mov (.tmp 327)), none, []⟩, ⟨(some 329), (.mov (.tmp 37)), (some (328, false)), []⟩, ⟨(some 330), (.mov (.tmp 5)), (some (328, false)), []⟩, ⟨(some 331), (.bin .lss (.tmp 329) (.tmp 330)), (some (328, false)), []⟩, ⟨(some 332), (.pick (.tmp 328) (.const (.bool true)) (.tmp 331)), none, []⟩]) (.cond (.tmp 332) (.seq (.ops false [⟨(some 4), (.mov (.const (.bool false))), none, []⟩]) .ret) .skip))) .skip)) (.seq (.seq (.ops false [⟨(some 333), (.mov (.tmp 33)), none, []⟩, ⟨(some 334), (.bin .lss (.tmp 333) (.const (.int .i64 200))), none, []⟩]) (.cond (.tmp 334) (.seq (.ops false [⟨(some 336), (.mov (.tmp 0)), none, []⟩, ⟨(some 337), (.call (.func 29) [(.tmp 336)]), none, []⟩, ⟨(some 338), (.mov (.tmp 33)), none, []⟩, ⟨(some 339), (.bin .add (.tmp 338) (.const (.int .i64 1))), none, []⟩, ⟨(some 340), (.call (.func 28) [(.tmp 337), (.tmp 339)]), none, []⟩, ⟨(some 335), (.mov (.tmp 340)), none, []⟩, ⟨(some 341), (.extract (.tmp 335) 0), none, []⟩, ⟨(some 342), (.extract (.tmp 335) 1), none, []⟩, ⟨(some 39), (.mov (.tmp 341)), none, []⟩, ⟨(some 40), (.mov (.tmp 342)), none, []⟩]) (.seq (.ops false [⟨(some 343), (.mov (.tmp 40)), none, []⟩, ⟨(some 344), (.bin .neq (.tmp 343) (.const (.int .i64 0))), none, []⟩, ⟨(some 345), (.mov (.tmp 344)), none, []⟩, ⟨(some 346), (.mov (.tmp 39)), (some (345, false)), []⟩, ⟨(some 347), (.mov (.tmp 5)), (some (345, false)), []⟩, ⟨(some 348), (.bin .geq (.tmp 346) (.tmp 347)), (some (345, false)), []⟩, ⟨(some 349), (.pick (.tmp 345) (.const (.bool true)) (.tmp 348)), none, []⟩]) (.cond (.tmp 349) (.seq (.ops false [⟨(some 4), (.mov (.const (.bool false))), none, []⟩]) .ret) .skip))) .skip)) (.seq (.ops false [⟨(some 351), (.mov (.tmp 0)), none, []⟩, ⟨(some 352), (.call (.func 29) [(.tmp 351)]), none, []⟩, ⟨(some 353), (.call (.func 67) [(.tmp 352)]), none, []⟩, ⟨(some 350), (.mov (.tmp 353)), none, []⟩, ⟨(some 354), (.extract (.tmp 350) 0), none, []⟩, ⟨(some 355), (.extract (.tmp 350) 1), none, []⟩, ⟨(some 41), (.mov (.tmp 354)), none, []⟩, ⟨(some 42), (.mov (.tmp 355)), none, []⟩]) (.seq (.ops false [⟨(some 357), (.mov (.tmp 41)), none, []⟩, ⟨(some 358), (.call (.func 68) [(.tmp 357)]), none, []⟩, ⟨(some 356), (.mov (.tmp 358)), none, []⟩, ⟨(some 359), (.extract (.tmp 356) 0), none, []⟩, ⟨(some 360), (.extract (.tmp 356) 1), none, []⟩, ⟨(some 361), (.extract (.tmp 356) 2), none, []⟩, ⟨(some 43), (.mov (.tmp 359)), none, []⟩, ⟨(some 44), (.mov (.tmp 360)), none, []⟩, ⟨(some 45), (.mov (.tmp 361)), none, []⟩]) (.seq (.seq (.ops false [⟨(some 362), (.mov (.tmp 42)), none, []⟩, ⟨(some 363), (.bin .neq (.tmp 362) (.const (.int .i64 0))), none, []⟩, ⟨(some 364), (.mov (.tmp 363)), none, []⟩, ⟨(some 365), (.mov (.tmp 45)), (some (364, false)), []⟩, ⟨(some 366), (.bin .neq (.tmp 365) (.const (.int .i64 0))), (some (364, false)), []⟩, ⟨(some 367), (.pick (.tmp 364) (.const (.bool true)) (.tmp 366)), none, []⟩, ⟨(some 368), (.mov (.tmp 367)), none, []⟩, ⟨(some 369), (.mov (.tmp 44)), (some (368, false)), []⟩, ⟨(some 370), (.bin .neq (.tmp 369) (.const (.int .i64 0))), (some (368, false)), []⟩, ⟨(some 371), (.pick (.tmp 368) (.const (.bool true)) (.tmp 370)), none, []⟩, ⟨(some 372), (.mov (.tmp 371)), none, []⟩, ⟨(some 373), (.mov (.tmp 43)), (some (372, false)), []⟩, ⟨(some 374), (.call (.func 72) [(.tmp 373)]), (some (372, false)), []⟩, ⟨(some 375), (.mov (.tmp 0)), (some (372, false)), []⟩, ⟨(some 376), (.call (.func 71) [(.tmp 374), (.tmp 375)]), (some (372, false)), []⟩, ⟨(some 377), (.un .not (.tmp 376)), (some (372, false)), []⟩, ⟨(some 378), (.pick (.tmp 372) (.const (.bool true)) (.tmp 377)), none, []⟩, ⟨(some 379), (.mov (.tmp 378)), none, []⟩, ⟨(some 380), (.mov (.tmp 41)), (some (379, false)), []⟩, ⟨(some 381), (.call (.func 73) [(.tmp 380), (.const (.int .u8 10))]), (some (379, false)), []⟩, ⟨(some 382), (.len (.tmp 381)), (some (379, false)), []⟩, ⟨(some 383), (.mov (.tmp 0)), (some (379, false)), []⟩, ⟨(some 384), (.len (.tmp 383)), (some (379, false)), []⟩, ⟨(some 385), (.bin .add (.tmp 384) (.const (.int .i64 1))), (some (379, false)), []⟩, ⟨(some 386), (.bin .neq (.tmp 382) (.tmp 385)), (some (379, false)), []⟩, ⟨(some 387), (.pick (.tmp 379) (.const (.bool true)) (.tmp 386)), none, []⟩]) (.cond (.tmp 387) (.seq (.ops false [⟨(some 4), (.mov (.const (.bool false))), none, []⟩]) .ret) .skip)) (.seq (.ops false [⟨(some 389), (.mov (.tmp 41)), none, []⟩, ⟨(some 390), (.mov (.tmp 41)), none, []⟩, ⟨(some 391), (.lenS (.tmp 390)), none, []⟩, ⟨(some 392), (.bin .sub (.tmp 391) (.const (.int .i64 1))), none, []⟩, ⟨(some 393), (.sliceS (.tmp 389) none (some (.tmp 392))), none, []⟩, ⟨(some 394), (.call (.func 68) [(.tmp 393)]), none, []⟩, ⟨(some 388), (.mov (.tmp 394)), none, []⟩, ⟨(some 395), (.extract (.tmp 388) 0), none, []⟩, ⟨(some 396), (.extract (.tmp 388) 1), none, []⟩, ⟨(some 397), (.extract (.tmp 388) 2), none, []⟩, ⟨(some 46), (.mov (.tmp 395)), none, []⟩, ⟨(some 47), (.mov (.tmp 396)), none, []⟩, ⟨(some 48), (.mov (.tmp 397)), none, []⟩]) (.seq (.ops false [⟨(some 398), (.mov (.tmp 48)), none, []⟩, ⟨(some 399), (.bin .eql (.tmp 398) (.const (.int .i64 25))), none, []⟩, ⟨(some 400), (.mov (.tmp 399)), none, []⟩, ⟨(some 401), (.mov (.tmp 47)), (some (400, true)), []⟩, ⟨(some 402), (.mov (.tmp 0)), (some (400, true)), []⟩, ⟨(some 403), (.len (.tmp 402)), (some (400, true)), []⟩, ⟨(some 404), (.bin .sub (.tmp 403) (.const (.int .i64 1))), (some (400, true)), []⟩, ⟨(some 405), (.bin .eql (.tmp 401) (.tmp 404)), (some (400, true)), []⟩, ⟨(some 406), (.pick (.tmp 400) (.tmp 405) (.const (.bool false))), none, []⟩, ⟨(some 407), (.mov (.tmp 406)), none, []⟩, ⟨(some 408), (.call (.func 13) []), (some (407, true)), []⟩, ⟨(some 409), (.pick (.tmp 407) (.tmp 408) (.const (.bool false))), none, []⟩, ⟨(some 4), (.mov (.tmp 409)), none, []⟩]) .ret))))))))))))))))))))⟩
theorem dh11 : cProg Go.Proofs.Tryz.prog ⟨[(0, ⟨[], [0, 5, 6, 7, 8, 10, 80, 81, 82], [3]⟩), (2, ⟨[], [0, 5, 6, 7, 8, 10, 11, 12, 13, 14, 80, 81, 82], [3, 12, 88, 90]⟩)], [(2, ⟨[], [0, 5, 6, 7, 8, 10, 11, 12, 13, 80, 81, 82], [3, 12, 88, 90]⟩), (1, ⟨[], [0, 5, 6, 7, 8, 10, 80, 81, 82], [3]⟩), (0, ⟨[], [0, 5, 6, 7, 10], [3]⟩)], [88, 90]⟩ 11 = some dc11 := by kernel_rfl
end Sh


set_option maxRecDepth 100000
set_option maxHeartbeats 4000000
set_option linter.unusedSimpArgs false
set_option linter.unusedVariables false
namespace Sh
open Go Go.Proofs
theorem q_HasInt (l : List Int) (n : Int) (hl : l.length < 4611686018427387904) : PC 65 [iL l, DV.int .i64 (n)] (.bool (decide (n ∈ l))) := by
  have e0 : ((l.map (DV.int .i64)).length : Int) = l.length := by simp
  refine pureCall_ofR dh65 rfl ?_
  conv => whnf
  refine dwp_loopR (P := Tryz.prog) (G := GC) (k := dk65_0) (b := db65_0) (α := Nat) (fun i => [(0, iL l), (1, DV.int .i64 (n)), (5, DV.int .i64 (i))]) (fun _ => []) (fun i => i ≤ l.length ∧ n ∉ l.take i) (fun i => l.length - i) 0 ⟨rfl, rfl, rfl⟩ ⟨Nat.zero_le _, by simp⟩ ?_
  intro i ⟨h1, h2⟩
  conv => whnf
  refine ⟨fun hb => ?_, fun hb => ?_⟩
  · have hi : i < l.length := by simpa using hb
    clear hb
    conv => whnf
    rw [getD_enc _ _ (i) 0 hi]
    refine ⟨idxA hi rfl, ?_⟩
    conv => whnf
    refine ⟨fun hg => ?_, fun hg => ?_⟩
    · have hg : l.getD i 0 = n := of_decide_eq_true hg
      conv => whnf
      exact bool_eq (decide_eq_true (by rw [← hg]; exact getD_in 0 hi)).symm
    · have hg : ¬ l.getD i 0 = n := of_decide_eq_false hg
      conv => whnf
      rw [wrap_succ i (by omega)]
      refine ⟨i + 1, rfl, rfl, rfl, ⟨hi, ?_⟩, by omega⟩
      rw [take_snoc l i 0 hi, List.mem_append]
      rintro (h | h)
      · exact h2 h
      · simp only [List.mem_cons, List.not_mem_nil, or_false] at h; exact hg h.symm
  · have hi : i = l.length := by have := of_decide_eq_false hb; rw [e0] at this; omega
    rw [hi, List.take_length] at h2
    conv => whnf
    exact bool_eq (decide_eq_false h2).symm
theorem sub_zeroE {a b : Int} (h1 : a = 0) (h2 : b = 0) : firstE [a, b] = 0 := by rw [h1, h2]; rfl
theorem withE_inF {n l h : Int} (h1 : l ≤ n) (h2 : n ≤ h) : withE n l h = 0 := by unfold withE; rw [if_neg (by omega)]
theorem bypS_ok {l : List Cel} {n : Int} (h : chkChain l = 0) (h1 : 0 ≤ n) (h2 : n ≤ 200) : bypS l n = (byp l n l.length, 0) := by
  have := sub_zeroE h (withE_inF h1 h2)
  unfold bypS; rw [if_neg (by omega)]
theorem currentS_ok {c : Cel} {v : Int} (h : chkCell c = 0) (h1 : 0 ≤ v) (h2 : v ≤ 800) : currentS c v = (curC c v, 0) := by
  have := sub_zeroE h (withE_inF h1 h2)
  unfold currentS; rw [if_neg (by omega)]
theorem voltS_ok {c : Cel} {n : Int} (h : chkCell c = 0) (h1 : 0 ≤ n) (h2 : n ≤ 200) : voltS c n = ((voltC c n).1, (voltC c n).2, 0) := by
  have := sub_zeroE h (withE_inF h1 h2)
  unfold voltS; rw [if_neg (by omega)]
theorem chainVoltS_ok {l : List Cel} {n : Int} (h : chkChain l = 0) (h1 : 0 ≤ n) (h2 : n ≤ 200) : chainVoltS l n = (chV l n, 0) := by
  have := sub_zeroE h (withE_inF h1 h2)
  unfold chainVoltS; rw [if_neg (by omega)]
theorem chainCurS_ok {l : List Cel} {v : Int} (h : chkChain l = 0) (h1 : 0 ≤ v) (h2 : v ≤ 800) : chainCurrentS l v = (curH l v, 0) := by
  have := sub_zeroE h (withE_inF h1 h2)
  unfold chainCurrentS; rw [if_neg (by omega)]
def bkD (l : List Cel) : Nat → DV
  | 0 => .full []
  | i + 1 => chn (l.take (i + 1)).reverse
theorem take_rev (l : List Cel) (i : Nat) (h : i < l.length) : (l.take (i + 1)).reverse = l.getD i C0 :: (l.take i).reverse := by
  rw [take_snoc l i C0 h, List.reverse_append]; rfl
theorem l_CurveFalls (aw : PC 13 [] (.bool true)) (l : List Cel) (ab : Int × Int) (hab : (0 ≤ ab.1 ∧ ab.1 ≤ 65535) ∧ (0 ≤ ab.2 ∧ ab.2 ≤ 65535)) : PC 11 [chn l, .agg [.int .u16 ab.1, .int .u16 ab.2]] (.bool true) := by
  obtain ⟨x, y⟩ := ab
  obtain ⟨hx, hy⟩ := hab
  simp only at hx hy
  show PC 11 [chn l, .agg [.int .u16 x, .int .u16 y]] (.bool true)
  have hwx : IntKind.i64.wrap x = x := W_in (by omega) (by omega)
  have hwy : IntKind.i64.wrap y = y := W_in (by omega) (by omega)
  refine pureCall_ofR dh11 rfl ?_
  conv => whnf
  have hvb : 0 ≤ (IntKind.i64.wrap x).tmod 801 ∧ (IntKind.i64.wrap x).tmod 801 ≤ 800 := by
    rw [hwx]
    have := Int.tmod_nonneg 801 hx.1
    have := Int.tmod_lt_of_pos x (show (0 : Int) < 801 by decide)
    omega
  have hnb : 0 ≤ (IntKind.i64.wrap y).tmod 201 ∧ (IntKind.i64.wrap y).tmod 201 ≤ 200 := by
    rw [hwy]
    have := Int.tmod_nonneg 201 hy.1
    have := Int.tmod_lt_of_pos y (show (0 : Int) < 201 by decide)
    omega
  repeat' (first
    | (refine ⟨fun hg => ?_, fun hg => ?_⟩ <;> first | contradiction | (conv => whnf))
    | (refine Or.inl ?_; conv => whnf)
    | (refine ⟨_, r_ShortChain .., ?_⟩; conv => whnf)
    | (refine ⟨_, aw .., ?_⟩; conv => whnf)
    | (refine And.intro ?_ ?_; kernel_rfl; conv => whnf))
  all_goals (try rfl)
  have hs := shortC_spec (l := l) (by simpa using hg)
  have h4 : l.length ≤ 4 := by
    have := of_decide_eq_false ‹decide (4 < ((l.map encC).length : Int)) = false›
    rw [List.length_map] at this; omega
  have hl : l.length < 1073741824 := by omega
  have hc : ∀ c ∈ l, c.tb.length < 1073741824 := fun c h => by have := hs.2 c h; omega
  have k5 := r_CheckChain l hl hc
  clear hg
  repeat' (first
    | (refine ⟨fun hg => ?_, fun hg => ?_⟩ <;> first | contradiction | (conv => whnf))
    | (refine Or.inl ?_; conv => whnf)
    | (refine ⟨_, k5, ?_⟩; conv => whnf)
    | (refine ⟨_, aw .., ?_⟩; conv => whnf)
    | (refine And.intro ?_ ?_; kernel_rfl; conv => whnf))
  all_goals (try rfl)
  have hz : chkChain l = 0 := Classical.not_not.1 (of_decide_eq_false (show decide (chkChain l ≠ 0) = false from hg))
  have hok := chkChain_zero hz
  have hzc := (chkChain_cells hz).2
  have hrz := chkChain_reverse hz
  clear hg hs
  repeat' (first
    | (refine ⟨fun hg => ?_, fun hg => ?_⟩ <;> first | contradiction | (conv => whnf))
    | (refine Or.inl ?_; conv => whnf)
    | (refine ⟨⟨by decide, by decide⟩, ?_⟩; conv => whnf)
    | (refine ⟨by decide, ?_⟩; conv => whnf)
    | (refine And.intro ?_ ?_; kernel_rfl; conv => whnf))
  generalize (IntKind.i64.wrap x).tmod 801 = v at *
  generalize (IntKind.i64.wrap y).tmod 201 = n at *
  clear hwx hwy hx hy k5
  have hlr : l.reverse.length < 1073741824 := by rw [List.length_reverse]; exact hl
  have hcr : ∀ c ∈ l.reverse, c.tb.length < 1073741824 := fun c h => hc c (List.mem_reverse.1 h)
  have k1 := l_cells l hl hc
  have k2 := l_cells l.reverse hlr hcr
  have k3 : PC 31 [chn l, DV.int .i64 (n)] (.tuple [iL (byp l n l.length), DV.int .i64 (0)]) := by have := c_Bypassed l n hl hc; rw [bypS_ok hz hnb.1 hnb.2] at this; exact this
  have k4 : ∀ u : Int, 0 ≤ u → u ≤ 200 → PC 28 [chn l, DV.int .i64 (u)] (.tuple [DV.int .i64 (chV l u), DV.int .i64 (0)]) := fun u h1 h2 => by have := c_ChainVolt l u hl hc; rw [chainVoltS_ok hz h1 h2] at this; exact this
  have k5 : PC 28 [chn l.reverse, DV.int .i64 (n)] (.tuple [DV.int .i64 (chV l n), DV.int .i64 (0)]) := by have := c_ChainVolt l.reverse n hlr hcr; rw [chainVoltS_ok hrz hnb.1 hnb.2, chV_reverse] at this; exact this
  have k6 : PC 30 [chn l, DV.int .i64 (v)] (.tuple [DV.int .i64 (curH l v), DV.int .i64 (0)]) := by have := c_ChainCurrent l v hl hc; rw [chainCurS_ok hz hvb.1 hvb.2] at this; exact this
  have k7 : PC 30 [chn l.reverse, DV.int .i64 (v)] (.tuple [DV.int .i64 (curH l v), DV.int .i64 (0)]) := by have := c_ChainCurrent l.reverse v hlr hcr; rw [chainCurS_ok hrz hvb.1 hvb.2, curH_reverse] at this; exact this
  have hbl := byp_len l n l.length
  have k8 : ∀ i, i < l.length → PC 65 [iL (byp l n l.length), DV.int .i64 (i)] (.bool (!(voltC (l.getD i C0) n).2)) := fun i h => by
    have := q_HasInt (byp l n l.length) i (by omega)
    rwa [byp_mem l n l.length i h] at this
  have hcH := curH_bd l v
  have hcS := curH_spec l v
  have hsz := prtH_len hok.2.2
  have k9 : PC 67 [chn l] (.tuple [.str (prtH l), DV.int .i64 (0)]) := by
    have := c_Print l hl hc
    have e : prtS l = (prtH l, 0) := by rw [prtS, if_neg (by omega)]
    rw [e] at this; exact this
  have k10 : PC 68 [.str (prtH l)] (.tuple [chn l, DV.int .i64 (0), DV.int .i64 (0)]) := by
    have := c_Parse (prtH l) (by omega)
    rw [parS_prtH hz h4] at this; exact this
  have k11 := l_told l hl
  have k12 := r_SameChain l hl hc
  have e0 : ((l.map encC).length : Int) = l.length := by simp
  repeat' (first
    | (refine ⟨fun hg => ?_, fun hg => ?_⟩ <;> first | contradiction | (conv => whnf))
    | (refine Or.inl ?_; conv => whnf)
    | (refine ⟨_, k1, ?_⟩; conv => whnf)
    | (refine ⟨_, k3, ?_⟩; conv => whnf)
    | (refine And.intro ?_ ?_; kernel_rfl; conv => whnf))
  refine dwp_loopR (P := Tryz.prog) (G := GC) (k := dk11_1) (b := db11_1) (α := Nat) (fun i => [(0, chn l), (5, DV.int .i64 (v)), (6, DV.int .i64 (n)), (7, DV.int .i64 (chVi l n i)), (8, iL (byp l n l.length)), (10, bkD l i), (80, chn l), (81, .int .i64 (l.map encC).length), (82, DV.int .i64 (i))]) (fun _ => [(3, .box 2 (.agg [.int .u16 x, .int .u16 y]))]) (fun i => i ≤ l.length) (fun i => l.length - i) 0 ⟨rfl, rfl, rfl⟩ (Nat.zero_le _) ?_
  intro i h1
  conv => whnf
  refine ⟨fun hb => ?_, fun hb => ?_⟩
  · have hi : i < l.length := by simpa using hb
    clear hb
    have hcell := hok.2.2 _ (getD_in C0 hi)
    have hlast := hcell.1.last_bd
    have hlc := hc _ (getD_in C0 hi)
    have hzi := hzc _ (getD_in C0 hi)
    have htl := hcell.1.1
    have htl2 := hcell.1.2.1
    have kc := l_cell (l.getD (i) C0) hlc
    have mC : ∀ u : Int, 0 ≤ u → u ≤ 800 → PC 14 [encC (l.getD (i) C0), DV.int .i64 (u)] (.tuple [DV.int .i64 (curC (l.getD (i) C0) u), DV.int .i64 (0)]) := fun u h1 h2 => by have := c_Current _ u hlc; rw [currentS_ok hzi h1 h2] at this; exact this
    obtain ⟨n1, hn1⟩ : ∃ n1 : Int, n1 = minmaxI false 200 (IntKind.i64.wrap (n + 1)) := ⟨_, rfl⟩
    have hn1b : n ≤ n1 ∧ n1 ≤ 200 := by
      rw [show IntKind.i64.wrap (n + 1) = n + 1 from W_in (by omega) (by omega)] at hn1
      unfold minmaxI at hn1
      simp only [cond_false] at hn1
      split at hn1 <;> omega
    have mV : PC 16 [encC (l.getD (i) C0), DV.int .i64 (n)] (.tuple [DV.int .i64 ((voltC (l.getD (i) C0) n).1), .bool (voltC (l.getD (i) C0) n).2, DV.int .i64 (0)]) := by have := c_Volt _ n hlc; rw [voltS_ok hzi hnb.1 hnb.2] at this; exact this
    have mV1 : PC 16 [encC (l.getD (i) C0), DV.int .i64 (n1)] (.tuple [DV.int .i64 ((voltC (l.getD (i) C0) n1).1), .bool (voltC (l.getD (i) C0) n1).2, DV.int .i64 (0)]) := by have := c_Volt _ n1 hlc; rw [voltS_ok hzi (by omega) hn1b.2] at this; exact this
    have kB := k8 _ hi
    have hvs := hcell.volt_spec n
    have hvm := hcell.volt_mono hn1b.1
    conv => whnf
    rw [getD_enc _ _ (i) C0 hi]
    refine ⟨idxA hi rfl, ?_⟩
    conv => whnf
    rcases i with _ | i
    · have hbk : bkD l (0 + 1) = .list ([encC (l.getD 0 C0)].reverse ++ []) := by show chn (l.take (0 + 1)).reverse = _; rw [take_rev l 0 hi]; rfl
      conv => whnf
      refine ⟨⟨by first | (simp; done) | (simp; omega), fun e he => by first | (simp at he; done) | (obtain ⟨q, _, rfl⟩ := List.mem_map.1 he; rfl), fun e he => by simp at he; subst he; rfl⟩, ?_⟩
      conv => whnf
      have et : (((l.getD (0) C0).tb.map encPt).length : Int) = (l.getD (0) C0).tb.length := by simp
      rw [et, wrap_pred _ (by omega) (by omega), getD_enc _ _ ((l.getD (0) C0).tb.length - 1) P0 (by omega)]
      refine ⟨⟨by omega, by omega, rfl⟩, ?_⟩
      conv => whnf
      rw [← lastX_getD _ (by intro e; rw [e] at htl; simp at htl)]
      refine dwp_loopR (P := Tryz.prog) (G := GC) (k := dk11_0) (b := db11_0) (α := Nat) (fun j => [(0, chn l), (5, DV.int .i64 (v)), (6, DV.int .i64 (n)), (7, DV.int .i64 (chVi l n (0))), (8, iL (byp l n l.length)), (10, bkD l (0 + 1)), (11, DV.int .i64 ((0 : Nat))), (12, .bptr 12 0), (13, DV.int .i64 (lastX (l.getD (0) C0).tb)), (14, DV.int .i64 (j)), (80, chn l), (81, .int .i64 (l.map encC).length), (82, DV.int .i64 ((0 : Nat)))]) (fun _ => [(3, .box 2 (.agg [.int .u16 x, .int .u16 y])), (12, .box 3 (encC (l.getD (0) C0)))]) (fun j => j ≤ (lastX (l.getD (0) C0).tb).toNat + 2) (fun j => (lastX (l.getD (0) C0).tb).toNat + 2 - j) 0 ⟨rfl, ?_, rfl⟩ (Nat.zero_le _) ?_
      · rw [hbk]; rfl
      intro j hj
      have hwl : IntKind.i64.wrap (lastX (l.getD (0) C0).tb + 1) = lastX (l.getD (0) C0).tb + 1 := W_in (by omega) (by omega)
      conv => whnf
      refine ⟨fun hb => ?_, fun hb => ?_⟩
      · have hj2 := of_decide_eq_true hb
        rw [hwl] at hj2
        clear hb
        have hca := hcell.cur_bd (v := (j : Int)) (by omega)
        have hcm := hcell.cur_mono (v := (j : Int)) (w := ((j + 1 : Nat) : Int)) (by omega) (by omega)
        have hcb := hcell.cur_bd (v := ((j + 1 : Nat) : Int)) (by omega)
        have hcz : lastX (l.getD (0) C0).tb ≤ (j : Int) → curC (l.getD (0) C0) (j : Int) = 0 := fun h => hcell.cur_last h
        have m1 := mC (j : Int) (by omega) (by omega)
        have m2 := mC ((j + 1 : Nat) : Int) (by omega) (by omega)
        have hws := wrap_succ j (by omega)
        conv => whnf
        repeat' (first
          | (refine ⟨fun hg => ?_, fun hg => ?_⟩ <;> first | contradiction | (replace hg := of_decide_eq_true hg; first | (exfalso; omega; done) | (conv => whnf)) | (replace hg := of_decide_eq_false hg; first | (exfalso; omega; done) | (conv => whnf)) | (skip; conv => whnf) | (conv => whnf))
          | (refine Or.inl ?_; conv => whnf)
          | (refine ⟨_, kc .., ?_⟩; conv => whnf)
          | (refine ⟨_, m1 .., ?_⟩; conv => whnf)
          | (rw [hws]; refine ⟨_, m2, ?_⟩; conv => whnf)
          | (refine And.intro ?_ ?_; kernel_rfl; conv => whnf))
        all_goals (rw [wrap_succ j (by omega)]; exact ⟨j + 1, rfl, rfl, rfl, by omega, by omega⟩)
      · clear hb
        have hn1' : minmaxI false 200 (IntKind.i64.wrap (n + 1)) = n1 := hn1.symm
        have hsum : IntKind.i64.wrap (chVi l n (0) + (voltC (l.getD (0) C0) n).1) = chVi l n (0 + 1) := by
          have h2 := chVi_bd hok n (0 + 1)
          rw [chVi_succ l n (0) hi] at h2 ⊢
          exact W_in (by omega) (by omega)
        have hneg : IntKind.i64.wrap (-(l.getD (0) C0).dr) = -(l.getD (0) C0).dr := by
          have := hcell.2.2.2
          exact W_in (by omega) (by omega)
        rcases hvs with ⟨e2, a1, a2, a3, a4⟩ | ⟨e2, a1⟩
        · rw [e2] at mV kB
          have m3 := mC _ a1 (by omega)
          have m4 := mC ((voltC (l.getD (0) C0) n).1 + 1) (by omega) (by omega)
          have hw4 : IntKind.i64.wrap ((voltC (l.getD (0) C0) n).1 + 1) = (voltC (l.getD (0) C0) n).1 + 1 := W_in (by omega) (by omega)
          generalize (voltC (l.getD (0) C0) n).1 = at_ at *
          cases e3 : (voltC (l.getD (0) C0) n1).2
          all_goals
            rw [e3] at mV1
            have hvm1 := hvm.1
            clear hvm
            generalize (voltC (l.getD (0) C0) n1).1 = at1 at *
            conv => whnf
            repeat' (first
              | (refine ⟨fun hg => ?_, fun hg => ?_⟩ <;> first | contradiction | (replace hg := of_decide_eq_true hg; first | (exfalso; omega; done) | (conv => whnf)) | (replace hg := of_decide_eq_false hg; first | (exfalso; omega; done) | (conv => whnf)) | ((first | (exfalso; cases hg; done) | skip); conv => whnf) | (conv => whnf))
              | (refine Or.inl ?_; conv => whnf)
              | (refine ⟨_, kc .., ?_⟩; conv => whnf)
              | (refine ⟨_, mV .., ?_⟩; conv => whnf)
              | (rw [hn1']; refine ⟨_, mV1, ?_⟩; conv => whnf)
              | (refine ⟨_, kB .., ?_⟩; conv => whnf)
              | (refine ⟨_, m3 .., ?_⟩; conv => whnf)
              | (rw [hw4]; refine ⟨_, m4, ?_⟩; conv => whnf)
              | (refine And.intro ?_ ?_; kernel_rfl; conv => whnf))
            all_goals (rw [hsum, wrap_succ (0) (by omega)]; exact ⟨0 + 1, rfl, rfl, rfl, hi, by omega⟩)
        · rw [e2] at mV kB hvm
          have e3 : (voltC (l.getD (0) C0) n1).2 = false := by
            cases h : (voltC (l.getD (0) C0) n1).2 with
            | false => rfl
            | true => exact (hvm.2 h).symm
          rw [e3] at mV1
          have hvm1 := hvm.1
          clear hvm
          generalize (voltC (l.getD (0) C0) n).1 = at_ at *
          generalize (voltC (l.getD (0) C0) n1).1 = at1 at *
          conv => whnf
          repeat' (first
            | (refine ⟨fun hg => ?_, fun hg => ?_⟩ <;> first | contradiction | (replace hg := of_decide_eq_true hg; first | (exfalso; omega; done) | (conv => whnf)) | (replace hg := of_decide_eq_false hg; first | (exfalso; omega; done) | (conv => whnf)) | ((first | (exfalso; cases hg; done) | (rw [hneg] at hg; exfalso; omega; done) | skip); conv => whnf) | (conv => whnf))
            | (refine Or.inl ?_; conv => whnf)
            | (refine ⟨_, kc .., ?_⟩; conv => whnf)
            | (refine ⟨_, mV .., ?_⟩; conv => whnf)
            | (rw [hn1']; refine ⟨_, mV1, ?_⟩; conv => whnf)
            | (refine ⟨_, kB .., ?_⟩; conv => whnf)
            | (refine And.intro ?_ ?_; kernel_rfl; conv => whnf))
          all_goals (rw [hsum, wrap_succ (0) (by omega)]; exact ⟨0 + 1, rfl, rfl, rfl, hi, by omega⟩)
    · have hbk : bkD l (i + 1 + 1) = .list ([encC (l.getD (i + 1) C0)].reverse ++ (l.take (i + 1)).reverse.map encC) := by show chn (l.take (i + 1 + 1)).reverse = _; rw [take_rev l (i + 1) hi]; rfl
      conv => whnf
      refine ⟨⟨by first | (simp; done) | (simp; omega), fun e he => by first | (simp at he; done) | (obtain ⟨q, _, rfl⟩ := List.mem_map.1 he; rfl), fun e he => by simp at he; subst he; rfl⟩, ?_⟩
      conv => whnf
      have et : (((l.getD (i + 1) C0).tb.map encPt).length : Int) = (l.getD (i + 1) C0).tb.length := by simp
      rw [et, wrap_pred _ (by omega) (by omega), getD_enc _ _ ((l.getD (i + 1) C0).tb.length - 1) P0 (by omega)]
      refine ⟨⟨by omega, by omega, rfl⟩, ?_⟩
      conv => whnf
      rw [← lastX_getD _ (by intro e; rw [e] at htl; simp at htl)]
      refine dwp_loopR (P := Tryz.prog) (G := GC) (k := dk11_0) (b := db11_0) (α := Nat) (fun j => [(0, chn l), (5, DV.int .i64 (v)), (6, DV.int .i64 (n)), (7, DV.int .i64 (chVi l n (i + 1))), (8, iL (byp l n l.length)), (10, bkD l (i + 1 + 1)), (11, DV.int .i64 ((i + 1 : Nat))), (12, .bptr 12 0), (13, DV.int .i64 (lastX (l.getD (i + 1) C0).tb)), (14, DV.int .i64 (j)), (80, chn l), (81, .int .i64 (l.map encC).length), (82, DV.int .i64 ((i + 1 : Nat)))]) (fun _ => [(3, .box 2 (.agg [.int .u16 x, .int .u16 y])), (12, .box 3 (encC (l.getD (i + 1) C0)))]) (fun j => j ≤ (lastX (l.getD (i + 1) C0).tb).toNat + 2) (fun j => (lastX (l.getD (i + 1) C0).tb).toNat + 2 - j) 0 ⟨rfl, ?_, rfl⟩ (Nat.zero_le _) ?_
      · rw [hbk]; rfl
      intro j hj
      have hwl : IntKind.i64.wrap (lastX (l.getD (i + 1) C0).tb + 1) = lastX (l.getD (i + 1) C0).tb + 1 := W_in (by omega) (by omega)
      conv => whnf
      refine ⟨fun hb => ?_, fun hb => ?_⟩
      · have hj2 := of_decide_eq_true hb
        rw [hwl] at hj2
        clear hb
        have hca := hcell.cur_bd (v := (j : Int)) (by omega)
        have hcm := hcell.cur_mono (v := (j : Int)) (w := ((j + 1 : Nat) : Int)) (by omega) (by omega)
        have hcb := hcell.cur_bd (v := ((j + 1 : Nat) : Int)) (by omega)
        have hcz : lastX (l.getD (i + 1) C0).tb ≤ (j : Int) → curC (l.getD (i + 1) C0) (j : Int) = 0 := fun h => hcell.cur_last h
        have m1 := mC (j : Int) (by omega) (by omega)
        have m2 := mC ((j + 1 : Nat) : Int) (by omega) (by omega)
        have hws := wrap_succ j (by omega)
        conv => whnf
        repeat' (first
          | (refine ⟨fun hg => ?_, fun hg => ?_⟩ <;> first | contradiction | (replace hg := of_decide_eq_true hg; first | (exfalso; omega; done) | (conv => whnf)) | (replace hg := of_decide_eq_false hg; first | (exfalso; omega; done) | (conv => whnf)) | (skip; conv => whnf) | (conv => whnf))
          | (refine Or.inl ?_; conv => whnf)
          | (refine ⟨_, kc .., ?_⟩; conv => whnf)
          | (refine ⟨_, m1 .., ?_⟩; conv => whnf)
          | (rw [hws]; refine ⟨_, m2, ?_⟩; conv => whnf)
          | (refine And.intro ?_ ?_; kernel_rfl; conv => whnf))
        all_goals (rw [wrap_succ j (by omega)]; exact ⟨j + 1, rfl, rfl, rfl, by omega, by omega⟩)
      · clear hb
        have hn1' : minmaxI false 200 (IntKind.i64.wrap (n + 1)) = n1 := hn1.symm
        have hsum : IntKind.i64.wrap (chVi l n (i + 1) + (voltC (l.getD (i + 1) C0) n).1) = chVi l n (i + 1 + 1) := by
          have h2 := chVi_bd hok n (i + 1 + 1)
          rw [chVi_succ l n (i + 1) hi] at h2 ⊢
          exact W_in (by omega) (by omega)
        have hneg : IntKind.i64.wrap (-(l.getD (i + 1) C0).dr) = -(l.getD (i + 1) C0).dr := by
          have := hcell.2.2.2
          exact W_in (by omega) (by omega)
        rcases hvs with ⟨e2, a1, a2, a3, a4⟩ | ⟨e2, a1⟩
        · rw [e2] at mV kB
          have m3 := mC _ a1 (by omega)
          have m4 := mC ((voltC (l.getD (i + 1) C0) n).1 + 1) (by omega) (by omega)
          have hw4 : IntKind.i64.wrap ((voltC (l.getD (i + 1) C0) n).1 + 1) = (voltC (l.getD (i + 1) C0) n).1 + 1 := W_in (by omega) (by omega)
          generalize (voltC (l.getD (i + 1) C0) n).1 = at_ at *
          cases e3 : (voltC (l.getD (i + 1) C0) n1).2
          all_goals
            rw [e3] at mV1
            have hvm1 := hvm.1
            clear hvm
            generalize (voltC (l.getD (i + 1) C0) n1).1 = at1 at *
            conv => whnf
            repeat' (first
              | (refine ⟨fun hg => ?_, fun hg => ?_⟩ <;> first | contradiction | (replace hg := of_decide_eq_true hg; first | (exfalso; omega; done) | (conv => whnf)) | (replace hg := of_decide_eq_false hg; first | (exfalso; omega; done) | (conv => whnf)) | ((first | (exfalso; cases hg; done) | skip); conv => whnf) | (conv => whnf))
              | (refine Or.inl ?_; conv => whnf)
              | (refine ⟨_, kc .., ?_⟩; conv => whnf)
              | (refine ⟨_, mV .., ?_⟩; conv => whnf)
              | (rw [hn1']; refine ⟨_, mV1, ?_⟩; conv => whnf)
              | (refine ⟨_, kB .., ?_⟩; conv => whnf)
              | (refine ⟨_, m3 .., ?_⟩; conv => whnf)
              | (rw [hw4]; refine ⟨_, m4, ?_⟩; conv => whnf)
              | (refine And.intro ?_ ?_; kernel_rfl; conv => whnf))
            all_goals (rw [hsum, wrap_succ (i + 1) (by omega)]; exact ⟨i + 1 + 1, rfl, rfl, rfl, hi, by omega⟩)
        · rw [e2] at mV kB hvm
          have e3 : (voltC (l.getD (i + 1) C0) n1).2 = false := by
            cases h : (voltC (l.getD (i + 1) C0) n1).2 with
            | false => rfl
            | true => exact (hvm.2 h).symm
          rw [e3] at mV1
          have hvm1 := hvm.1
          clear hvm
          generalize (voltC (l.getD (i + 1) C0) n).1 = at_ at *
          generalize (voltC (l.getD (i + 1) C0) n1).1 = at1 at *
          conv => whnf
          repeat' (first
            | (refine ⟨fun hg => ?_, fun hg => ?_⟩ <;> first | contradiction | (replace hg := of_decide_eq_true hg; first | (exfalso; omega; done) | (conv => whnf)) | (replace hg := of_decide_eq_false hg; first | (exfalso; omega; done) | (conv => whnf)) | ((first | (exfalso; cases hg; done) | (rw [hneg] at hg; exfalso; omega; done) | skip); conv => whnf) | (conv => whnf))
            | (refine Or.inl ?_; conv => whnf)
            | (refine ⟨_, kc .., ?_⟩; conv => whnf)
            | (refine ⟨_, mV .., ?_⟩; conv => whnf)
            | (rw [hn1']; refine ⟨_, mV1, ?_⟩; conv => whnf)
            | (refine ⟨_, kB .., ?_⟩; conv => whnf)
            | (refine And.intro ?_ ?_; kernel_rfl; conv => whnf))
          all_goals (rw [hsum, wrap_succ (i + 1) (by omega)]; exact ⟨i + 1 + 1, rfl, rfl, rfl, hi, by omega⟩)
  · have hi : i = l.length := by have := of_decide_eq_false hb; rw [e0] at this; omega
    clear hb
    have hn0 : l ≠ [] := fun e => by have := hok.1; rw [e] at this; simp at this
    obtain ⟨m, hm⟩ : ∃ m, l.length = m + 1 := ⟨l.length - 1, by have := hok.1; omega⟩
    have hbk : bkD l i = chn l.reverse := by
      rw [hi, hm]
      show chn (l.take (m + 1)).reverse = _
      rw [← hm, List.take_length]
    have hsum : chVi l n i = chV l n := by rw [hi, chVi_all]
    rw [hbk, hsum]
    obtain ⟨mm, cc, hmc, hlen, hcut⟩ := prtH_cut hn0
    have k13 : PC 68 [.str (prtH mm ++ bodyC cc)] (.tuple [chn [], DV.int .i64 (mm.length), DV.int .i64 (25)]) := by
      have := c_Parse (prtH mm ++ bodyC cc) (by omega)
      rw [parS_cut (by rw [← hmc]; exact hok.2.2) (by rw [hmc] at h4; simp at h4; omega)] at this
      exact this
    have hml : (mm.length : Int) = l.length - 1 := by rw [hmc]; simp
    have k14 : PC 73 [.str (prtH l), .int .u8 10] (.list ((splitC 10 (prtH l)).map DV.str)) := q_Split (prtH l) 10 (by omega)
    have hsp := split_prtH (l := l) [] hok.2.2 (by simp)
    rw [List.append_nil] at hsp
    have hsl : (((splitC 10 (prtH l)).map DV.str).length : Int) = l.length + 1 := by rw [hsp]; simp
    have hw1 : IntKind.i64.wrap (((l.map encC).length : Int) + 1) = l.length + 1 := by rw [e0]; exact W_in (by omega) (by omega)
    have hwS : IntKind.i64.wrap (((prtH l).length : Int) - 1) = (((prtH l).length - 1 : Nat) : Int) := wrap_pred _ (by omega) (by omega)
    have ew : window (prtH l) (Int.toNat 0) (Int.toNat ((((prtH l).length - 1 : Nat) : Int) - 0)) = prtH mm ++ bodyC cc := by
      rw [← hcut, Int.sub_zero, Int.toNat_natCast]; rfl
    have hw2 : IntKind.i64.wrap (((l.map encC).length : Int) - 1) = l.length - 1 := by rw [e0]; exact W_in (by omega) (by omega)
    have hwH : curH l v < 200 → IntKind.i64.wrap (curH l v + 1) = curH l v + 1 := fun h => W_in (by omega) (by omega)
    have k15 : curH l v < 200 → PC 28 [chn l, DV.int .i64 (curH l v + 1)] (.tuple [DV.int .i64 (chV l (curH l v + 1)), DV.int .i64 (0)]) := fun h => k4 _ (by omega) (by omega)
    have k16 := k4 (curH l v) (by omega) (by omega)
    have k17 := k4 n hnb.1 hnb.2
    conv => whnf
    repeat' (first
      | (refine ⟨fun hg => ?_, fun hg => ?_⟩ <;> first | contradiction | (replace hg := of_decide_eq_true hg; first | (exfalso; omega; done) | (conv => whnf)) | (replace hg := of_decide_eq_false hg; first | (exfalso; omega; done) | (conv => whnf)) | ((first | (exfalso; cases hg; done) | (exfalso; have := hcS.1 (by assumption); omega; done) | (exfalso; have := hcS.2 (by assumption); omega; done) | skip); conv => whnf) | (conv => whnf))
      | (refine Or.inl ?_; conv => whnf)
      | (refine ⟨_, k1, ?_⟩; conv => whnf)
      | (refine ⟨_, k2, ?_⟩; conv => whnf)
      | (refine ⟨_, k17, ?_⟩; conv => whnf)
      | (refine ⟨_, k5, ?_⟩; conv => whnf)
      | (refine ⟨_, k6, ?_⟩; conv => whnf)
      | (refine ⟨_, k7, ?_⟩; conv => whnf)
      | (refine ⟨_, k16, ?_⟩; conv => whnf)
      | (rw [hwH (by assumption)]; refine ⟨_, k15 (by assumption), ?_⟩; conv => whnf)
      | (refine ⟨_, k9, ?_⟩; conv => whnf)
      | (refine ⟨_, k10, ?_⟩; conv => whnf)
      | (refine ⟨_, k11, ?_⟩; conv => whnf)
      | (refine ⟨_, k12, ?_⟩; conv => whnf)
      | (refine ⟨_, k14, ?_⟩; conv => whnf)
      | (refine ⟨_, aw .., ?_⟩; conv => whnf)
      | (refine And.intro ?_ ?_; kernel_rfl; conv => whnf))
    all_goals (rw [hwS]; refine ⟨⟨by omega, by omega, by omega⟩, ?_⟩; conv => whnf)
    all_goals
      rw [ew]
      repeat' (first
        | (refine ⟨fun hg => ?_, fun hg => ?_⟩ <;> first | contradiction | (replace hg := of_decide_eq_true hg; first | (exfalso; omega; done) | (conv => whnf)) | (replace hg := of_decide_eq_false hg; first | (exfalso; omega; done) | (conv => whnf)) | ((first | (exfalso; cases hg; done) | skip); conv => whnf) | (conv => whnf))
        | (refine Or.inl ?_; conv => whnf)
        | (refine ⟨_, k13, ?_⟩; conv => whnf)
        | (refine ⟨_, aw .., ?_⟩; conv => whnf)
        | (refine And.intro ?_ ?_; kernel_rfl; conv => whnf))
    all_goals rfl
end Sh

