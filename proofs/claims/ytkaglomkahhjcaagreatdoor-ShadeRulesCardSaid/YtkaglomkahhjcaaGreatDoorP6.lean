/-
  Chapter 3's functions, walked over pure data: the library of the walk, the functions' code over data, and what each computes. (part 6)
-/
import Derived.Test.YtkaglomkahhjcaaGreatDoorP5
import Derived.Test.YtkaglomkahhjcaaGreatDoorProg
import Derived.Lay
import Derived.Test.YtkaglomkahhjcaaGreatDoorRows
import Derived.Test.YtkaglomkahhjcaaGreatDoorCards
import Derived.Test.YtkaglomkahhjcaaGreatDoorTie
set_option linter.unusedVariables false
set_option linter.unusedSimpArgs false
set_option maxRecDepth 100000
namespace Sh
open Go
def db75_0 : DC := (.seq (.ops false [⟨(some 26), (.bin .lss (.tmp 25) (.tmp 24)), none, []⟩]) (.seq (.cond (.tmp 26) .skip (.exit 2)) (.seq (.block 3 none (.seq (.ops false [⟨(some 27), (.iaddr 3 (.tmp 23) (.tmp 25)), none, []⟩, ⟨(some 28), (.load (some 3) (.tmp 27)), none, []⟩, ⟨(some 10), (.alloc (.agg [(.int .i64 0), (.int .i64 0), (.int .i64 0)]) 3), none, []⟩, ⟨none, (.store 3 (.tmp 10) (.tmp 28)), none, []⟩]) (.ops true [⟨(some 29), (.mov (.tmp 5)), none, []⟩, ⟨(some 30), (.faddr 0 1 false (.tmp 10)), none, []⟩, ⟨(some 31), (.load none (.tmp 30)), none, [1]⟩, ⟨(some 32), (.call (.tmp 29) [(.tmp 31)]), none, [0, 2, 1]⟩, ⟨(some 33), (.bin .add (.const (.string ⟨#[32]⟩)) (.tmp 32)), none, [3, 0, 2, 1]⟩, ⟨(some 34), (.bin .add (.tmp 33) (.const (.string ⟨#[32]⟩))), none, [4, 3, 0, 2, 1]⟩, ⟨(some 35), (.mov (.tmp 5)), none, []⟩, ⟨(some 36), (.faddr 1 1 false (.tmp 10)), none, []⟩, ⟨(some 37), (.load none (.tmp 36)), none, [7]⟩, ⟨(some 38), (.call (.tmp 35) [(.tmp 37)]), none, [6, 8, 7, 3, 0, 2, 1]⟩, ⟨(some 39), (.bin .add (.tmp 34) (.tmp 38)), none, [5, 4, 3, 0, 2, 1, 9, 6, 8, 7]⟩, ⟨(some 40), (.bin .add (.tmp 39) (.const (.string ⟨#[32]⟩))), none, [10, 5, 4, 3, 0, 2, 1, 9, 6, 8, 7]⟩, ⟨(some 41), (.mov (.tmp 5)), none, []⟩, ⟨(some 42), (.faddr 2 1 false (.tmp 10)), none, []⟩, ⟨(some 43), (.load none (.tmp 42)), none, [13]⟩, ⟨(some 44), (.call (.tmp 41) [(.tmp 43)]), none, [12, 14, 13, 9, 6, 8, 7, 3, 0, 2, 1]⟩, ⟨(some 45), (.bin .add (.tmp 40) (.tmp 44)), none, [11, 10, 5, 4, 3, 0, 2, 1, 9, 6, 8, 7, 15, 12, 14, 13]⟩, ⟨(some 46), (.call (.func 135) [(.tmp 6), (.tmp 45)]), none, [16, 11, 10, 5, 4, 3, 0, 2, 1, 9, 6, 8, 7, 15, 12, 14, 13]⟩]))) (.ops false [⟨(some 47), (.bin .add (.tmp 25) (.const (.int .i64 1))), none, []⟩, ⟨(some 25), (.mov (.tmp 47)), none, []⟩]))))
def dk75_0 : Keep := ⟨[], [5, 6, 16, 17, 18, 23, 24, 25], [185000006, 6000090]⟩
def db75_1 : DC := (.seq (.ops false [⟨(some 19), (.bin .lss (.tmp 18) (.tmp 17)), none, []⟩]) (.seq (.cond (.tmp 19) .skip (.exit 0)) (.seq (.block 1 (some ⟨[], [5, 6, 16, 17, 18], [185000006, 6000090]⟩) (.seq (.ops false [⟨(some 20), (.iaddr 1 (.tmp 16) (.tmp 18)), none, []⟩, ⟨(some 21), (.load none (.tmp 20)), none, []⟩, ⟨(some 8), (.mov (.tmp 21)), none, []⟩]) (.seq (.ops false [⟨(some 22), (.call (.func 135) [(.tmp 6), (.const (.string ⟨#[115, 104, 97, 112, 101]⟩))]), none, []⟩]) (.seq (.seq (.ops false [⟨(some 23), (.mov (.tmp 8)), none, []⟩, ⟨(some 24), (.len (.tmp 23)), none, []⟩, ⟨(some 25), (.mov (.const (.int .i64 0))), none, []⟩]) (.block 2 (some ⟨[], [5, 6, 16, 17, 18], [185000006, 6000090]⟩) (.loop dk75_0 db75_0))) (.ops false [⟨(some 48), (.call (.func 135) [(.tmp 6), (.const (.string ⟨#[10]⟩))]), none, []⟩]))))) (.ops false [⟨(some 49), (.bin .add (.tmp 18) (.const (.int .i64 1))), none, []⟩, ⟨(some 18), (.mov (.tmp 49)), none, []⟩]))))
def dk75_1 : Keep := ⟨[], [5, 6, 16, 17, 18], [185000006, 6000090]⟩
def dc75 : DFunc := ⟨51, 1, [(.tmp 2), (.tmp 3)], (.seq (.ops false [⟨(some 2), (.mov (.const (.string ⟨#[]⟩))), none, []⟩, ⟨(some 3), (.mov (.const (.int .i64 0))), none, []⟩]) (.seq (.seq (.ops false [⟨(some 11), (.mov (.tmp 0)), none, []⟩, ⟨(some 12), (.call (.func 92) [(.tmp 11)]), none, []⟩, ⟨(some 4), (.mov (.tmp 12)), none, []⟩]) (.seq (.ops false [⟨(some 13), (.mov (.tmp 4)), none, []⟩, ⟨(some 14), (.bin .neq (.tmp 13) (.const (.int .i64 0))), none, []⟩]) (.cond (.tmp 14) (.seq (.ops false [⟨(some 15), (.mov (.tmp 4)), none, []⟩, ⟨(some 2), (.mov (.const (.string ⟨#[]⟩))), none, []⟩, ⟨(some 3), (.mov (.tmp 15)), none, []⟩]) .ret) .skip))) (.seq (.ops false [⟨(some 5), (.mov (.func 134)), none, []⟩]) (.seq (.ops false [⟨(some 6), (.alloc (.agg [.nilptr, .nilsl]) 185000002), none, []⟩]) (.seq (.seq (.ops false [⟨(some 16), (.mov (.tmp 0)), none, []⟩, ⟨(some 17), (.len (.tmp 16)), none, []⟩, ⟨(some 18), (.mov (.const (.int .i64 0))), none, []⟩]) (.block 0 (some ⟨[], [6], [185000006, 6000090]⟩) (.loop dk75_1 db75_1))) (.seq (.ops false [⟨(some 50), (.call (.func 136) [(.tmp 6)]), none, []⟩, ⟨(some 2), (.mov (.tmp 50)), none, []⟩, ⟨(some 3), (.mov (.const (.int .i64 0))), none, []⟩]) .ret))))))⟩
theorem dh75 : cProg Go.Proofs.Tryz.prog ⟨[(0, ⟨[], [5, 6, 16, 17, 18], [185000006, 6000090]⟩), (2, ⟨[], [5, 6, 16, 17, 18, 23, 24, 25], [185000006, 6000090]⟩)], [(2, ⟨[], [5, 6, 16, 17, 18], [185000006, 6000090]⟩), (1, ⟨[], [5, 6, 16, 17, 18], [185000006, 6000090]⟩), (0, ⟨[], [6], [185000006, 6000090]⟩)], []⟩ 75 = some dc75 := by kernel_rfl
end Sh


set_option maxRecDepth 100000
set_option linter.unusedSimpArgs false
set_option linter.unusedVariables false
namespace Sh
open Go Go.Proofs
def bH : List UInt8 → Heap
  | [] => [(bN, .box 2 (.agg [.nilptr, .nilsl]))]
  | c :: r => [(bN, .box 2 (.agg [.bptr bN 0, .own rN 0 (c :: r).length (c :: r).length])), (rN, .row 1 (byD (c :: r)) false)]
theorem bH_ne {bs : List UInt8} (h : bs ≠ []) : bH bs = [(bN, .box 2 (.agg [.bptr bN 0, .own rN 0 bs.length bs.length])), (rN, .row 1 (byD bs) false)] := by
  cases bs with
  | nil => exact absurd rfl h
  | cons c r => rfl
theorem c_Print (l : List (List V3)) (hl : l.length < 1073741824) (hs : ∀ s ∈ l, s.length < 1073741824) : PC 75 [shps l] (.tuple [.str (prtS l).1, DV.int .i64 ((prtS l).2)]) := by
  have e0 : ((l.map shp).length : Int) = l.length := by simp
  have k1 := c_checkShapes l hl hs
  refine pureCall_ofR dh75 rfl ?_
  conv => whnf
  repeat' (first
    | (refine ⟨fun hg => ?_, fun hg => ?_⟩ <;> first | contradiction | (conv => whnf))
    | (refine Or.inl ?_; conv => whnf)
    | (refine ⟨_, k1, ?_⟩; conv => whnf)
    | (refine And.intro ?_ ?_; kernel_rfl; conv => whnf))
  · have hg : chkShps l ≠ 0 := of_decide_eq_true hg
    have e : prtS l = ([], chkShps l) := if_pos hg
    rw [e]; rfl
  · have hg : ¬ chkShps l ≠ 0 := of_decide_eq_false hg
    have e : prtS l = (prtH l, 0) := if_neg hg
    rw [e]
    clear e k1
    obtain ⟨h8, hS, _⟩ := chkShps_oks (Classical.not_not.1 hg)
    clear hg
    refine dwp_loopU (P := Tryz.prog) (G := GC) (k := dk75_1) (b := db75_1) (α := Nat) (fun i => [(18, DV.int .i64 (i))]) (fun i => bH (prtH (l.take i))) (fun i => i ≤ l.length) (fun i => l.length - i) 0 (Nat.zero_le _) ?_
    conv => whnf
    refine ⟨rfl, rfl, ?_⟩
    conv => whnf
    refine ⟨rfl, ?_⟩
    intro i h1
    have hpl := prtH_len (l := l.take i) (by simp; omega) (fun c hc => hS c (List.mem_of_mem_take hc))
    have hpl2 : (l.take i).length ≤ 8 := by simp; omega
    by_cases hi : i < l.length
    · have hSi := hS _ (getD_in [] hi)
      have hs6 := hSi.2.1
      have hsu := prtH_succ l i hi
      have hpp : ∃ bs, prtH (l.take i) = bs := ⟨_, rfl⟩
      obtain ⟨bs, hbs⟩ := hpp
      rw [hbs] at hsu hpl ⊢
      generalize hss : l.getD i [] = s at hSi hs6 hsu
      have e1 : ((s.map encV).length : Int) = s.length := by simp
      rcases bs with _ | ⟨c0, bs⟩
      · conv => whnf
        refine ⟨fun hb => ?_, fun hb => ?_⟩
        · clear hb
          conv => whnf
          rw [getD_enc _ _ i [] hi, hss]
          refine ⟨idxA hi rfl, ?_⟩
          conv => whnf
          refine .inr ⟨[(185000006, 185000006), (6000090, 6000090)], _, _, _, _, s_W0 shpB (by decide) (by decide), ⟨rfl, rfl, ?_, ?_⟩, ?_⟩
          · exact ⟨rfl, trivial⟩
          · exact ⟨.inl rfl, .inr rfl, trivial⟩
          conv => whnf
          refine dwp_loopU (P := Tryz.prog) (G := GC) (k := dk75_0) (b := db75_0) (α := Nat) (fun k => [(25, DV.int .i64 (k))]) (fun k => [(bN, .box 2 (.agg [.bptr bN 0, .own rN 0 (([] : List UInt8) ++ shpB ++ wn (numsV (s.take k))).length (([] : List UInt8) ++ shpB ++ wn (numsV (s.take k))).length])), (rN, .row 1 (byD (([] : List UInt8) ++ shpB ++ wn (numsV (s.take k)))) false)]) (fun k => k ≤ s.length) (fun k => s.length - k) 0 (Nat.zero_le _) ?_
          conv => whnf
          refine ⟨rfl, by show _ = [(bN, DObj.box 2 (.agg [.bptr bN 0, .own rN 0 ((([] : List UInt8) ++ shpB) ++ []).length ((([] : List UInt8) ++ shpB) ++ []).length])), (rN, .row 1 (byD ((([] : List UInt8) ++ shpB) ++ [])) false)]; rw [List.append_nil]; rfl, ?_⟩
          conv => whnf
          refine ⟨rfl, ?_⟩
          intro k hk1
          have hpk := okS_take hSi k
          have e5 : shpB.length = 5 := rfl
          conv => whnf
          refine ⟨fun hb => ?_, fun hb => ?_⟩
          · have hk : k < s.length := by have := of_decide_eq_true hb; rw [e1] at this; omega
            have hv := (hSi.2.2 _ (getD_in V0 hk)).1
            have hsk := numsV_take s k hk
            clear hb
            conv => whnf
            rw [getD_enc _ _ k V0 hk]
            refine ⟨idxA hk rfl, ?_⟩
            generalize hpp : s.getD k V0 = v at *
            obtain ⟨hx, hy, hz⟩ := hv
            have t1 := Lib.itoa_length_le v.x (by omega) (by omega)
            have t2 := Lib.itoa_length_le v.y (by omega) (by omega)
            have t3 := Lib.itoa_length_le v.z (by omega) (by omega)
            have k1 := s_Itoa v.x (by omega) (by omega)
            have k2 := s_Itoa v.y (by omega) (by omega)
            have k3 := s_Itoa v.z (by omega) (by omega)
            have hS1 : (([] : List UInt8) ++ shpB ++ wn (numsV (s.take k))) ++ ([32] ++ Lib.itoa v.x ++ [32] ++ Lib.itoa v.y ++ [32] ++ Lib.itoa v.z) = ([] : List UInt8) ++ shpB ++ wn (numsV (s.take (k + 1))) := by
              rw [hsk, wn_append]
              simp [wn, Lib.joinTail]
            have hVne : (([] : List UInt8) ++ shpB ++ wn (numsV (s.take k))) ≠ [] := by unfold shpB; simp
            have hVl : (([] : List UInt8) ++ shpB ++ wn (numsV (s.take k))).length ≤ 5000 := by simp only [List.length_append, List.length_cons, List.length_nil] at hpl ⊢; omega
            generalize hV : (([] : List UInt8) ++ shpB ++ wn (numsV (s.take k))) = V at *
            conv => whnf
            refine .inl ?_
            conv => whnf
            refine ⟨_, k1 .., ?_⟩
            conv => whnf
            refine ⟨by simp only [List.length_append, List.length_cons, List.length_nil]; omega, ?_⟩
            conv => whnf
            refine ⟨by simp only [List.length_append, List.length_cons, List.length_nil]; omega, ?_⟩
            conv => whnf
            refine .inl ?_
            conv => whnf
            refine ⟨_, k2 .., ?_⟩
            conv => whnf
            refine ⟨by simp only [List.length_append, List.length_cons, List.length_nil]; omega, ?_⟩
            conv => whnf
            refine ⟨by simp only [List.length_append, List.length_cons, List.length_nil]; omega, ?_⟩
            conv => whnf
            refine .inl ?_
            conv => whnf
            refine ⟨_, k3 .., ?_⟩
            conv => whnf
            refine ⟨by simp only [List.length_append, List.length_cons, List.length_nil]; omega, ?_⟩
            conv => whnf
            refine .inr ⟨[(185000006, 185000006), (6000090, 6000090)], _, _, _, _, s_W1 V ([32] ++ Lib.itoa v.x ++ [32] ++ Lib.itoa v.y ++ [32] ++ Lib.itoa v.z) hVne (by simp) (by simp only [List.length_append, List.length_cons, List.length_nil]; omega), ⟨rfl, by kernel_rfl, ?_, ?_⟩, ?_⟩
            · exact ⟨rfl, rfl, trivial⟩
            · exact ⟨.inl rfl, .inl rfl, trivial⟩
            rw [hS1]
            conv => whnf
            refine ⟨by kernel_rfl, ?_⟩
            conv => whnf
            rw [wrap_succ k (by omega)]
            exact ⟨k + 1, rfl, rfl, rfl, hk, by omega⟩
          · have hk : k = s.length := by have := of_decide_eq_false hb; rw [e1] at this; omega
            clear hb
            have hVne : (([] : List UInt8) ++ shpB ++ wn (numsV (s.take k))) ≠ [] := by unfold shpB; simp
            have hVl : (([] : List UInt8) ++ shpB ++ wn (numsV (s.take k))).length ≤ 5000 := by simp only [List.length_append, List.length_cons, List.length_nil] at hpl ⊢; omega
            have hS1 : (([] : List UInt8) ++ shpB ++ wn (numsV (s.take k))) ++ [10] = prtH (l.take (i + 1)) := by
              rw [hsu, hk, List.take_length]
              unfold linB
              simp
            have hne : prtH (l.take (i + 1)) ≠ [] := by rw [← hS1]; simp
            generalize hV : (([] : List UInt8) ++ shpB ++ wn (numsV (s.take k))) = V at *
            conv => whnf
            refine .inr ⟨[(185000006, 185000006), (6000090, 6000090)], _, _, _, _, s_W1 V [10] hVne (by simp) (by simp only [List.length_append, List.length_cons, List.length_nil]; omega), ⟨rfl, by kernel_rfl, ?_, ?_⟩, ?_⟩
            · exact ⟨rfl, rfl, trivial⟩
            · exact ⟨.inl rfl, .inl rfl, trivial⟩
            rw [hS1]
            conv => whnf
            rw [wrap_succ i (by omega)]
            refine ⟨i + 1, rfl, rfl, ?_, hi, by omega⟩
            rw [bH_ne hne]
            rfl
        · have := of_decide_eq_false hb
          rw [e0] at this
          omega
      · conv => whnf
        refine ⟨fun hb => ?_, fun hb => ?_⟩
        · clear hb
          conv => whnf
          rw [getD_enc _ _ i [] hi, hss]
          refine ⟨idxA hi rfl, ?_⟩
          conv => whnf
          refine .inr ⟨[(185000006, 185000006), (6000090, 6000090)], _, _, _, _, s_W1 (c0 :: bs) shpB (by simp) (by decide) (by have : shpB.length = 5 := rfl; omega), ⟨rfl, by kernel_rfl, ?_, ?_⟩, ?_⟩
          · exact ⟨rfl, rfl, trivial⟩
          · exact ⟨.inl rfl, .inl rfl, trivial⟩
          conv => whnf
          refine dwp_loopU (P := Tryz.prog) (G := GC) (k := dk75_0) (b := db75_0) (α := Nat) (fun k => [(25, DV.int .i64 (k))]) (fun k => [(bN, .box 2 (.agg [.bptr bN 0, .own rN 0 ((c0 :: bs) ++ shpB ++ wn (numsV (s.take k))).length ((c0 :: bs) ++ shpB ++ wn (numsV (s.take k))).length])), (rN, .row 1 (byD ((c0 :: bs) ++ shpB ++ wn (numsV (s.take k)))) false)]) (fun k => k ≤ s.length) (fun k => s.length - k) 0 (Nat.zero_le _) ?_
          conv => whnf
          refine ⟨rfl, by show _ = [(bN, DObj.box 2 (.agg [.bptr bN 0, .own rN 0 (((c0 :: bs) ++ shpB) ++ []).length (((c0 :: bs) ++ shpB) ++ []).length])), (rN, .row 1 (byD (((c0 :: bs) ++ shpB) ++ [])) false)]; rw [List.append_nil]; rfl, ?_⟩
          conv => whnf
          refine ⟨rfl, ?_⟩
          intro k hk1
          have hpk := okS_take hSi k
          have e5 : shpB.length = 5 := rfl
          conv => whnf
          refine ⟨fun hb => ?_, fun hb => ?_⟩
          · have hk : k < s.length := by have := of_decide_eq_true hb; rw [e1] at this; omega
            have hv := (hSi.2.2 _ (getD_in V0 hk)).1
            have hsk := numsV_take s k hk
            clear hb
            conv => whnf
            rw [getD_enc _ _ k V0 hk]
            refine ⟨idxA hk rfl, ?_⟩
            generalize hpp : s.getD k V0 = v at *
            obtain ⟨hx, hy, hz⟩ := hv
            have t1 := Lib.itoa_length_le v.x (by omega) (by omega)
            have t2 := Lib.itoa_length_le v.y (by omega) (by omega)
            have t3 := Lib.itoa_length_le v.z (by omega) (by omega)
            have k1 := s_Itoa v.x (by omega) (by omega)
            have k2 := s_Itoa v.y (by omega) (by omega)
            have k3 := s_Itoa v.z (by omega) (by omega)
            have hS1 : ((c0 :: bs) ++ shpB ++ wn (numsV (s.take k))) ++ ([32] ++ Lib.itoa v.x ++ [32] ++ Lib.itoa v.y ++ [32] ++ Lib.itoa v.z) = (c0 :: bs) ++ shpB ++ wn (numsV (s.take (k + 1))) := by
              rw [hsk, wn_append]
              simp [wn, Lib.joinTail]
            have hVne : ((c0 :: bs) ++ shpB ++ wn (numsV (s.take k))) ≠ [] := by unfold shpB; simp
            have hVl : ((c0 :: bs) ++ shpB ++ wn (numsV (s.take k))).length ≤ 5000 := by simp only [List.length_append, List.length_cons, List.length_nil] at hpl ⊢; omega
            generalize hV : ((c0 :: bs) ++ shpB ++ wn (numsV (s.take k))) = V at *
            conv => whnf
            refine .inl ?_
            conv => whnf
            refine ⟨_, k1 .., ?_⟩
            conv => whnf
            refine ⟨by simp only [List.length_append, List.length_cons, List.length_nil]; omega, ?_⟩
            conv => whnf
            refine ⟨by simp only [List.length_append, List.length_cons, List.length_nil]; omega, ?_⟩
            conv => whnf
            refine .inl ?_
            conv => whnf
            refine ⟨_, k2 .., ?_⟩
            conv => whnf
            refine ⟨by simp only [List.length_append, List.length_cons, List.length_nil]; omega, ?_⟩
            conv => whnf
            refine ⟨by simp only [List.length_append, List.length_cons, List.length_nil]; omega, ?_⟩
            conv => whnf
            refine .inl ?_
            conv => whnf
            refine ⟨_, k3 .., ?_⟩
            conv => whnf
            refine ⟨by simp only [List.length_append, List.length_cons, List.length_nil]; omega, ?_⟩
            conv => whnf
            refine .inr ⟨[(185000006, 185000006), (6000090, 6000090)], _, _, _, _, s_W1 V ([32] ++ Lib.itoa v.x ++ [32] ++ Lib.itoa v.y ++ [32] ++ Lib.itoa v.z) hVne (by simp) (by simp only [List.length_append, List.length_cons, List.length_nil]; omega), ⟨rfl, by kernel_rfl, ?_, ?_⟩, ?_⟩
            · exact ⟨rfl, rfl, trivial⟩
            · exact ⟨.inl rfl, .inl rfl, trivial⟩
            rw [hS1]
            conv => whnf
            refine ⟨by kernel_rfl, ?_⟩
            conv => whnf
            rw [wrap_succ k (by omega)]
            exact ⟨k + 1, rfl, rfl, rfl, hk, by omega⟩
          · have hk : k = s.length := by have := of_decide_eq_false hb; rw [e1] at this; omega
            clear hb
            have hVne : ((c0 :: bs) ++ shpB ++ wn (numsV (s.take k))) ≠ [] := by unfold shpB; simp
            have hVl : ((c0 :: bs) ++ shpB ++ wn (numsV (s.take k))).length ≤ 5000 := by simp only [List.length_append, List.length_cons, List.length_nil] at hpl ⊢; omega
            have hS1 : ((c0 :: bs) ++ shpB ++ wn (numsV (s.take k))) ++ [10] = prtH (l.take (i + 1)) := by
              rw [hsu, hk, List.take_length]
              unfold linB
              simp
            have hne : prtH (l.take (i + 1)) ≠ [] := by rw [← hS1]; simp
            generalize hV : ((c0 :: bs) ++ shpB ++ wn (numsV (s.take k))) = V at *
            conv => whnf
            refine .inr ⟨[(185000006, 185000006), (6000090, 6000090)], _, _, _, _, s_W1 V [10] hVne (by simp) (by simp only [List.length_append, List.length_cons, List.length_nil]; omega), ⟨rfl, by kernel_rfl, ?_, ?_⟩, ?_⟩
            · exact ⟨rfl, rfl, trivial⟩
            · exact ⟨.inl rfl, .inl rfl, trivial⟩
            rw [hS1]
            conv => whnf
            rw [wrap_succ i (by omega)]
            refine ⟨i + 1, rfl, rfl, ?_, hi, by omega⟩
            rw [bH_ne hne]
            rfl
        · have := of_decide_eq_false hb
          rw [e0] at this
          omega
    · have hi : i = l.length := by omega
      rw [hi, List.take_length]
      have hpl := prtH_len h8 hS
      generalize prtH l = bs at *
      rcases bs with _ | ⟨c0, bs⟩
      · conv => whnf
        refine ⟨fun hb => ?_, fun hb => ?_⟩
        · have := of_decide_eq_true hb; rw [e0] at this; omega
        · clear hb
          conv => whnf
          refine .inr ⟨[(185000006, 185000006)], _, _, _, _, s_S0, ⟨rfl, by kernel_rfl, ?_, ?_⟩, ?_⟩
          · exact ⟨rfl, trivial⟩
          · exact ⟨.inl rfl, trivial⟩
          conv => whnf
          rfl
      · conv => whnf
        refine ⟨fun hb => ?_, fun hb => ?_⟩
        · have := of_decide_eq_true hb; rw [e0] at this; omega
        · clear hb
          conv => whnf
          refine .inr ⟨[(185000006, 185000006), (6000090, 6000090)], _, _, _, _, s_S1 (c0 :: bs) (by simp) (by omega), ⟨rfl, by kernel_rfl, ?_, ?_⟩, ?_⟩
          · exact ⟨rfl, rfl, trivial⟩
          · exact ⟨.inl rfl, .inl rfl, trivial⟩
          conv => whnf
          rfl
end Sh


set_option maxRecDepth 100000
set_option linter.unusedSimpArgs false
set_option linter.unusedVariables false
namespace Sh
open Go Go.Proofs
theorem bad_nm {b : List UInt8} {m : Bool} (h : (b.all isD && decide (b.length ≤ 9)) = false) : nmS b m = (0, false) := by
  unfold nmS; rw [h]; rfl
theorem c_number (s : List UInt8) (hs : s.length < 1073741824) : PC 162 [.str s] (.tuple [DV.int .i64 ((sgnS s).1), .bool (sgnS s).2]) := by
  have hb := trimP_len s [45]
  have k1 := s_CutPrefix s [45] (by omega)
  rw [sgn_nm s]
  generalize Lib.trimPrefix s [45] = b at *
  generalize Lib.hasPrefix s [45] = m at *
  refine pureCall_ofR dh162 rfl ?_
  conv => whnf
  repeat' (first
    | (refine ⟨fun hg => ?_, fun hg => ?_⟩ <;> first | contradiction | (conv => whnf))
    | (refine Or.inl ?_; conv => whnf)
    | (refine ⟨_, k1, ?_⟩; conv => whnf)
    | (refine And.intro ?_ ?_; kernel_rfl; conv => whnf))
  refine dwp_loopU (P := Tryz.prog) (G := GC) (k := dk162_0) (b := db162_0) (α := Nat) (fun k => [(6, DV.int .i64 (valD (b.take k) 0))]) (fun k => [(15, .siter b k)]) (fun k => k ≤ b.length ∧ (b.take k).all isD = true ∧ (0 < k → b.length ≤ 9)) (fun k => b.length - k) 0 ⟨Nat.zero_le _, rfl, fun h => absurd h (by omega)⟩ ?_
  conv => whnf
  refine ⟨rfl, rfl, ?_⟩
  conv => whnf
  refine ⟨rfl, ?_⟩
  intro k ⟨h1, h2, h3⟩
  by_cases hk : k < b.length
  · have hb : Nat.blt k b.length = true := Nat.ble_eq_true_of_le hk
    dsimp only
    conv => whnf
    generalize hE : evalOp _ _ _ _ = E
    have : E = .ok none (.tuple [.bool true, DV.int .i64 ((k : Nat)), .int .i32 ((sdecode b k).1 : Nat)]) [(15, .siter b (k + (sdecode b k).2))] := by
      rw [← hE]
      show (match Nat.blt k b.length with
        | true => Ev.ok none (.tuple [.bool true, DV.int .i64 ((k : Nat)), .int .i32 ((sdecode b k).1 : Nat)]) [(15, .siter b (k + (sdecode b k).2))]
        | false => Ev.ok none (.tuple [.bool false]) []) = _
      rw [hb]
    subst this
    clear hE
    cases hd : isD (b.getD k 0) with
    | true =>
      rw [rune_yes b k hd]
      dsimp only
      have hd2 := (isD_iff _).1 hd
      have hst : valD (b.take (k + 1)) 0 = 10 * valD (b.take k) 0 + (((b.getD k 0).toNat : Int) - 48) := by
        rw [take_snoc b k 0 hk, valD_append]; rfl
      have hall : (b.take (k + 1)).all isD = true := all_take isD b k 0 hk h2 hd
      generalize hcc : (b.getD k 0).toNat = c at *
      conv => whnf
      repeat' (first
        | (refine ⟨fun hg => ?_, fun hg => ?_⟩ <;> first | contradiction | (conv => whnf))
        | (refine Or.inl ?_; conv => whnf)
        | (refine And.intro ?_ ?_; kernel_rfl; conv => whnf))
      any_goals
        rw [show nmS b m = (0, false) from by
          refine bad_nm ?_
          cases hq : (b.all isD && decide (b.length ≤ 9)) with
          | false => rfl
          | true =>
          exfalso
          have h := hq
          rw [Bool.and_eq_true, decide_eq_true_eq] at h
          first
          | (have := of_decide_eq_true (show decide ((9 : Int) < (b.length : Int)) = true from ‹(bif false then true else decide ((9 : Int) < (b.length : Int))) = true›); omega)
          | (have := of_decide_eq_true (show decide ((57 : Int) < (c : Int)) = true from ‹(bif false then true else decide ((57 : Int) < (c : Int))) = !false›); omega)
          | (have := of_decide_eq_true (show decide ((c : Int) < 48) = true from ‹decide ((c : Int) < 48) = !false›); omega)]
        rfl
      have h9 := of_decide_eq_false (show decide ((9 : Int) < (b.length : Int)) = false from hg)
      have hv := valD_bd (b.take k) 0 0 h2 (Int.le_refl _) (by decide)
      have hp : (10 : Int) ^ (0 + (b.take k).length) ≤ 10 ^ 9 := by
        have : (10 : Nat) ^ (0 + (b.take k).length) ≤ 10 ^ 9 := Nat.pow_le_pow_right (by decide) (by simp; omega)
        exact_mod_cast this
      have hp9 : (10 : Int) ^ 9 = 1000000000 := by decide
      have ew : IntKind.i64.wrap (IntKind.i64.wrap (10 * valD (b.take k) 0) + IntKind.i64.wrap (IntKind.i32.wrap ((c : Int) - 48))) = valD (b.take (k + 1)) 0 := by
        rw [hst, wrap_i32 (by omega) (by omega), wrap_in (n := (c : Int) - 48) (by omega) (by omega), wrap_in (n := 10 * valD (b.take k) 0) (by omega) (by omega), wrap_in (by omega) (by omega)]
      rw [ew]
      exact ⟨k + 1, rfl, rfl, rfl, ⟨hk, hall, fun _ => by omega⟩, by omega⟩
    | false =>
      have hr := rune_no b k hd
      generalize (sdecode b k).1 = r at *
      generalize (sdecode b k).2 = q at *
      have hno : b.all isD = false := all_no 0 hk hd
      conv => whnf
      repeat' (first
        | (refine ⟨fun hg => ?_, fun hg => ?_⟩ <;> first | contradiction | (conv => whnf))
        | (refine Or.inl ?_; conv => whnf)
        | (refine And.intro ?_ ?_; kernel_rfl; conv => whnf))
      any_goals
        rw [show nmS b m = (0, false) from bad_nm (by rw [hno]; rfl)]
        rfl
      exfalso
      have h57 := of_decide_eq_false (show decide ((57 : Int) < (r : Int)) = false from ‹(bif false then true else decide ((57 : Int) < (r : Int))) = false›)
      have h48 := of_decide_eq_false ‹decide ((r : Int) < 48) = false›
      omega
  · have hb : Nat.blt k b.length = false := by
      cases h : Nat.blt k b.length with
      | false => rfl
      | true => exact absurd (Nat.le_of_ble_eq_true h) hk
    have hks : k = b.length := by omega
    subst hks
    dsimp only
    conv => whnf
    generalize hE : evalOp _ _ _ _ = E
    have : E = .ok none (.tuple [.bool false]) [] := by
      rw [← hE]
      show (match Nat.blt b.length b.length with
        | true => Ev.ok none (.tuple [.bool true, DV.int .i64 ((b.length : Nat)), .int .i32 ((sdecode b b.length).1 : Nat)]) [(15, .siter b (b.length + (sdecode b b.length).2))]
        | false => Ev.ok none (.tuple [.bool false]) []) = _
      rw [hb]
    subst this
    clear hE
    rw [List.take_length] at h2
    have hl9 : b.length ≤ 9 := by
      by_cases h0 : 0 < b.length
      · exact h3 h0
      · omega
    have hcond : (b.all isD && decide (b.length ≤ 9)) = true := by rw [h2, decide_eq_true hl9]; rfl
    have hv := valD_bd b 0 0 h2 (Int.le_refl _) (by decide)
    have hp : (10 : Int) ^ (0 + b.length) ≤ 10 ^ 9 := by
      have : (10 : Nat) ^ (0 + b.length) ≤ 10 ^ 9 := Nat.pow_le_pow_right (by decide) (by omega)
      exact_mod_cast this
    have hp9 : (10 : Int) ^ 9 = 1000000000 := by decide
    have hneg : IntKind.i64.wrap (-(valD b 0)) = -(valD b 0) := wrap_in (by omega) (by omega)
    rw [List.take_length]
    by_cases h0 : b = []
    · have hnm : nmS b m = (0, false) := by unfold nmS; rw [hcond, decide_eq_false (show ¬ b ≠ [] from fun h => h h0)]; rfl
      rw [hnm]
      clear hnm hneg hv hp hcond
      subst h0
      conv => whnf
      repeat' (first
        | (refine ⟨fun hg => ?_, fun hg => ?_⟩ <;> first | contradiction | (conv => whnf))
        | (refine Or.inl ?_; conv => whnf)
        | (refine And.intro ?_ ?_; kernel_rfl; conv => whnf))
      all_goals rfl
    · have hl0 := List.length_pos_iff.2 h0
      have hnm : nmS b m = if (decide (b.getD 0 0 = 48) && (decide (1 < b.length) || m)) then (0, false) else (if m then -(valD b 0) else valD b 0, true) := by
        unfold nmS; rw [hcond, decide_eq_true h0]
        cases (decide (b.getD 0 0 = 48) && (decide (1 < b.length) || m)) <;> rfl
      have h48 : decide (((b.getD 0 0).toNat : Int) = 48) = decide (b.getD 0 0 = 48) := by
        have h48 : (48 : UInt8).toNat = 48 := rfl
        congr 1; apply propext
        exact ⟨fun h => UInt8.toNat_inj.1 (by omega), fun h => by rw [h]; rfl⟩
      have h1l : decide ((1 : Int) < (b.length : Int)) = decide (1 < b.length) := by congr 1; apply propext; omega
      have hbe : decide (b = (⟨#[]⟩ : ByteArray).data.toList) = false := decide_eq_false h0
      clear hcond hv hp hp9 hbe
      cases m
      all_goals
        conv => whnf
        repeat' (first
          | (refine ⟨fun hg => ?_, fun hg => ?_⟩ <;> first | contradiction | (conv => whnf))
          | (refine Or.inl ?_; conv => whnf)
          | (refine ⟨⟨by decide, by omega⟩, ?_⟩; conv => whnf)
          | (refine And.intro ?_ ?_; kernel_rfl; conv => whnf))
        all_goals
          first
          | (exfalso; exact h0 (of_decide_eq_true (show decide (b = []) = true from ‹decide (b = (⟨#[]⟩ : ByteArray).data.toList) = !false›)))
          | (exfalso; exact h0 (of_decide_eq_true (show decide (b = []) = true from ‹decide (b = (⟨#[]⟩ : ByteArray).data.toList) = true›)))
          | (rw [hnm]
             first
             | (have hX : decide (b.getD 0 0 = 48) = false := by (rw [← h48]; (first | exact ‹decide (((b.getD (Int.toNat 0) 0).toNat : Int) = 48) = false› | exact ‹decide (((b.getD (Int.toNat 0) 0).toNat : Int) = 48) = !true›))
                rw [hX]
                first | rfl | (rw [hneg]; rfl))
             | (have hX : decide (b.getD 0 0 = 48) = true := by (rw [← h48]; (first | exact ‹decide (((b.getD (Int.toNat 0) 0).toNat : Int) = 48) = true› | exact ‹decide (((b.getD (Int.toNat 0) 0).toNat : Int) = 48) = !false›))
                rw [hX]
                first
                | rfl
                | (have hY : decide (1 < b.length) = true := by (rw [← h1l]; (first | exact ‹decide ((1 : Int) < (b.length : Int)) = true› | exact ‹decide ((1 : Int) < (b.length : Int)) = !false›))
                   rw [hY]; rfl)
                | (have hY : decide (1 < b.length) = false := by (rw [← h1l]; (first | exact ‹decide ((1 : Int) < (b.length : Int)) = false› | exact ‹decide ((1 : Int) < (b.length : Int)) = !true›))
                   rw [hY]
                   first | rfl | (rw [hneg]; rfl))))
end Sh


set_option maxRecDepth 100000
set_option linter.unusedSimpArgs false
set_option linter.unusedVariables false
namespace Sh
open Go Go.Proofs
def takO (ws : List (List UInt8)) (wr : Bool) : DObj := .box 2 (.agg [strs ws, .bool wr])
theorem window_tail {α β : Type} (f : α → β) (a : α) (l : List α) : window ((a :: l).map f) (Int.toNat 1) (Int.toNat ((((a :: l).map f).length : Int) - 1)) = l.map f := by
  unfold window
  rw [show Int.toNat 1 = 1 from rfl, List.map_cons, List.drop_succ_cons, List.drop_zero, List.take_of_length_le (by simp)]
theorem c_take (ws : List (List UInt8)) (wr : Bool) (h : ∀ w ∈ ws, w.length < 1073741824) : HCall Tryz.prog GC 140 [.bptr 1 0] [(1, takO ws wr)] (DV.int .i64 (numT ws)) [(1, takO (ws.drop 1) (wrT wr ws))] := by
  refine hCall_ofR dh140 rfl (by kernel_rfl) (by kernel_rfl) ?_
  conv => whnf
  cases ws with
  | nil =>
    refine ⟨fun _ => ?_, fun hg => ?_⟩
    · conv => whnf
      exact ⟨rfl, rfl⟩
    · exact absurd hg (by decide)
  | cons w r =>
    have hw := h w (List.mem_cons_self ..)
    refine ⟨fun hg => ?_, fun hg => ?_⟩
    · exfalso
      have := of_decide_eq_true hg
      simp only [List.map_cons, List.length_cons] at this
      omega
    · conv => whnf
      refine ⟨⟨by decide, by simp, rfl⟩, ?_⟩
      repeat' (first
        | (refine ⟨fun hg => ?_, fun hg => ?_⟩ <;> first | contradiction | (conv => whnf))
        | (refine Or.inl ?_; conv => whnf)
        | (refine ⟨_, c_number w hw, ?_⟩; conv => whnf)
        | (refine And.intro ?_ ?_; kernel_rfl; conv => whnf))
      refine ⟨⟨by decide, by simp; omega, by omega, fun e he => by obtain ⟨x, _, rfl⟩ := List.mem_map.1 he; rfl⟩, ?_⟩
      rw [window_tail]
      conv => whnf
      refine ⟨fun hg => ?_, fun hg => ?_⟩
      · have hg : wr = false := hg
        subst hg
        conv => whnf
        exact ⟨rfl, rfl⟩
      · have hg : wr = true := hg
        subst hg
        conv => whnf
        exact ⟨rfl, rfl⟩
end Sh


set_option maxRecDepth 100000
namespace Sh
open Go
def db76_0 : DC := (.seq (.seq (.ops false [⟨(some 34), (.mov (.tmp 10)), none, []⟩, ⟨(some 35), (.nilCheck (.tmp 34)), none, []⟩, ⟨(some 36), (.faddr 0 1 false (.tmp 35)), none, []⟩, ⟨(some 37), (.load none (.tmp 36)), none, []⟩, ⟨(some 38), (.len (.tmp 37)), none, []⟩, ⟨(some 39), (.bin .gtr (.tmp 38) (.const (.int .i64 0))), none, []⟩]) (.cond (.tmp 39) .skip (.exit 2))) (.block 3 none (.seq (.ops false [⟨(some 40), (.mov (.tmp 11)), none, []⟩, ⟨(some 41), (.call (.tmp 40) []), none, []⟩, ⟨(some 42), (.build [(.int .i64 0), (.int .i64 0), (.int .i64 0)] [(0, (1, (.tmp 41)))]), none, []⟩, ⟨(some 13), (.alloc (.agg [(.int .i64 0), (.int .i64 0), (.int .i64 0)]) 3), none, []⟩, ⟨none, (.store 3 (.tmp 13) (.tmp 42)), none, []⟩]) (.seq (.ops false [⟨(some 43), (.mov (.tmp 11)), none, []⟩, ⟨(some 44), (.call (.tmp 43) []), none, []⟩, ⟨(some 45), (.faddr 1 1 false (.tmp 13)), none, []⟩, ⟨none, (.store 1 (.tmp 45) (.tmp 44)), none, []⟩]) (.seq (.ops false [⟨(some 46), (.mov (.tmp 11)), none, []⟩, ⟨(some 47), (.call (.tmp 46) []), none, []⟩, ⟨(some 48), (.faddr 2 1 false (.tmp 13)), none, []⟩, ⟨none, (.store 1 (.tmp 48) (.tmp 47)), none, []⟩]) (.ops false [⟨(some 49), (.mov (.tmp 12)), none, []⟩, ⟨(some 50), (.load (some 3) (.tmp 13)), none, []⟩, ⟨(some 51), (.lit true 3 1 (.agg [(.int .i64 0), (.int .i64 0), (.int .i64 0)]) [(0, (.tmp 50))]), none, []⟩, ⟨(some 52), (.append false 3 (.tmp 49) (.tmp 51)), none, []⟩, ⟨(some 12), (.mov (.tmp 52)), none, []⟩]))))))
def dk76_0 : Keep := ⟨[(12, 3)], [2, 3, 4, 5, 8, 9, 10, 11, 12], [2, 3, 4, 5, 12, 31, 71, 72]⟩
def db76_1x : DC := (.ops false [⟨(some 6), (.mov (.tmp 20)), none, []⟩])
def db76_1 : DC := (.block 1 (some ⟨[], [], [2, 3, 4, 5, 72]⟩) (.seq (.ops false [⟨(some 22), (.mov (.tmp 6)), none, []⟩, ⟨(some 23), (.call (.func 138) [(.tmp 22), (.const (.string ⟨#[10]⟩))]), none, []⟩, ⟨(some 21), (.mov (.tmp 23)), none, []⟩, ⟨(some 24), (.extract (.tmp 21) 0), none, []⟩, ⟨(some 25), (.extract (.tmp 21) 1), none, []⟩, ⟨(some 7), (.mov (.tmp 24)), none, []⟩, ⟨(some 8), (.mov (.tmp 25)), none, []⟩]) (.seq (.ops false [⟨(some 26), (.mov (.tmp 7)), none, []⟩, ⟨(some 27), (.call (.func 139) [(.tmp 26), (.const (.string ⟨#[32]⟩))]), none, []⟩, ⟨(some 9), (.mov (.tmp 27)), none, []⟩]) (.seq (.ops false [⟨(some 28), (.mov (.tmp 9)), none, []⟩, ⟨(some 29), (.slice 1 (.tmp 28) (some (.const (.int .i64 1))) none none), none, []⟩, ⟨(some 30), (.build [(.full []), (.bool false)] [(0, (1, (.tmp 29)))]), none, []⟩, ⟨(some 31), (.box 2 (.tmp 30)), none, []⟩, ⟨(some 10), (.mov (.tmp 31)), none, []⟩]) (.seq (.ops false [⟨(some 32), (.mov (.tmp 10)), none, []⟩, ⟨(some 33), (.mkmeth 140 [(.tmp 32)]), none, []⟩, ⟨(some 11), (.mov (.tmp 33)), none, []⟩]) (.seq (.ops false [⟨(some 12), (.mov (.const (.slice none 0 0))), none, []⟩]) (.seq (.block 2 (some ⟨[], [2, 3, 4, 5, 8, 9, 10, 12], [2, 3, 4, 5, 12, 31, 71, 72]⟩) (.loop dk76_0 db76_0)) (.seq (.seq (.ops false [⟨(some 53), (.mov (.tmp 8)), none, []⟩, ⟨(some 54), (.un .not (.tmp 53)), none, []⟩, ⟨(some 55), (.mov (.tmp 54)), none, []⟩, ⟨(some 56), (.mov (.tmp 9)), (some (55, false)), []⟩, ⟨(some 57), (.iaddr 1 (.tmp 56) (.const (.int .i64 0))), (some (55, false)), []⟩, ⟨(some 58), (.load none (.tmp 57)), (some (55, false)), []⟩, ⟨(some 59), (.bin .neq (.tmp 58) (.const (.string ⟨#[115, 104, 97, 112, 101]⟩))), (some (55, false)), []⟩, ⟨(some 60), (.pick (.tmp 55) (.const (.bool true)) (.tmp 59)), none, []⟩, ⟨(some 61), (.mov (.tmp 60)), none, []⟩, ⟨(some 62), (.mov (.tmp 10)), (some (61, false)), []⟩, ⟨(some 63), (.nilCheck (.tmp 62)), (some (61, false)), []⟩, ⟨(some 64), (.faddr 1 1 false (.tmp 63)), (some (61, false)), []⟩, ⟨(some 65), (.load none (.tmp 64)), (some (61, false)), []⟩, ⟨(some 66), (.pick (.tmp 61) (.const (.bool true)) (.tmp 65)), none, []⟩]) (.cond (.tmp 66) (.seq (.ops true [⟨(some 67), (.load none (.tmp 5)), none, []⟩, ⟨(some 68), (.len (.tmp 67)), none, [0]⟩, ⟨none, (.store 1 (.tmp 2) (.const (.slice none 0 0))), none, []⟩, ⟨none, (.store 1 (.tmp 3) (.tmp 68)), none, [1, 0, 2]⟩, ⟨none, (.store 1 (.tmp 4) (.const (.int .i64 25))), none, [3, 1, 0, 2]⟩]) .ret) .skip)) (.ops false [⟨(some 69), (.load none (.tmp 5)), none, []⟩, ⟨(some 70), (.mov (.tmp 12)), none, []⟩, ⟨(some 71), (.lit true 1 1 (.full []) [(0, (.tmp 70))]), none, []⟩, ⟨(some 72), (.append false 1 (.tmp 69) (.tmp 71)), none, []⟩, ⟨none, (.store 1 (.tmp 5) (.tmp 72)), none, []⟩])))))))))
def dk76_1 : Keep := ⟨[], [2, 3, 4, 5], [2, 3, 4, 5, 72]⟩
def dc76 : DFunc := ⟨81, 1, [(.cell 2 none), (.cell 3 none), (.cell 4 none)], (.seq (.ops false [⟨(some 2), (.alloc (.full []) 1), none, []⟩, ⟨(some 3), (.alloc (.int .i64 0) 1), none, []⟩, ⟨(some 4), (.alloc (.int .i64 0) 1), none, []⟩]) (.seq (.seq (.ops false [⟨(some 15), (.mov (.tmp 0)), none, []⟩, ⟨(some 16), (.lenS (.tmp 15)), none, []⟩, ⟨(some 17), (.bin .gtr (.tmp 16) (.const (.int .i64 4096))), none, []⟩]) (.cond (.tmp 17) (.seq (.ops false [⟨none, (.store 1 (.tmp 2) (.const (.slice none 0 0))), none, []⟩, ⟨none, (.store 1 (.tmp 3) (.const (.int .i64 0))), none, []⟩, ⟨none, (.store 1 (.tmp 4) (.const (.int .i64 26))), none, []⟩]) .ret) .skip)) (.seq (.ops false [⟨(some 5), (.alloc (.full []) 1), none, []⟩]) (.seq (.seq (.ops false [⟨(some 18), (.mov (.tmp 0)), none, []⟩, ⟨(some 19), (.call (.func 137) [(.tmp 18)]), none, []⟩]) (.block 0 (some ⟨[], [2, 3, 4, 5], [2, 3, 4, 5, 72]⟩) (.rangeF dk76_1 (.tmp 19) [20] db76_1x db76_1))) (.seq (.seq (.ops false [⟨(some 73), (.load none (.tmp 5)), none, []⟩, ⟨(some 74), (.call (.func 92) [(.tmp 73)]), none, []⟩, ⟨(some 14), (.mov (.tmp 74)), none, []⟩]) (.seq (.ops false [⟨(some 75), (.mov (.tmp 14)), none, []⟩, ⟨(some 76), (.bin .neq (.tmp 75) (.const (.int .i64 0))), none, []⟩]) (.cond (.tmp 76) (.seq (.ops true [⟨(some 77), (.load none (.tmp 5)), none, []⟩, ⟨(some 78), (.len (.tmp 77)), none, [0]⟩, ⟨(some 79), (.mov (.tmp 14)), none, []⟩, ⟨none, (.store 1 (.tmp 2) (.const (.slice none 0 0))), none, []⟩, ⟨none, (.store 1 (.tmp 3) (.tmp 78)), none, [1, 0, 3]⟩, ⟨none, (.store 1 (.tmp 4) (.tmp 79)), none, [2, 4, 1, 0, 3]⟩]) .ret) .skip))) (.seq (.ops false [⟨(some 80), (.load none (.tmp 5)), none, []⟩, ⟨none, (.store 1 (.tmp 2) (.tmp 80)), none, []⟩, ⟨none, (.store 1 (.tmp 3) (.const (.int .i64 0))), none, []⟩, ⟨none, (.store 1 (.tmp 4) (.const (.int .i64 0))), none, []⟩]) .ret))))))⟩
theorem dh76 : cProg Go.Proofs.Tryz.prog ⟨[(0, ⟨[], [2, 3, 4, 5], [2, 3, 4, 5, 72]⟩), (2, ⟨[(12, 3)], [2, 3, 4, 5, 8, 9, 10, 11, 12], [2, 3, 4, 5, 12, 31, 71, 72]⟩)], [(2, ⟨[], [2, 3, 4, 5, 8, 9, 10, 12], [2, 3, 4, 5, 12, 31, 71, 72]⟩), (1, ⟨[], [], [2, 3, 4, 5, 72]⟩), (0, ⟨[], [2, 3, 4, 5], [2, 3, 4, 5, 72]⟩)], [51, 71]⟩ 76 = some dc76 := by kernel_rfl
def dc137 : DFunc := ⟨4, 1, [(.tmp 2)], (.seq (.ops false [⟨(some 1), (.box 1 (.tmp 0)), none, []⟩, ⟨(some 2), (.mov (.const .nilFunc)), none, []⟩]) (.seq (.ops false [⟨(some 3), (.mkfunc 158 [(.tmp 1)]), none, []⟩, ⟨(some 2), (.mov (.tmp 3)), none, []⟩]) .ret))⟩
theorem dh137 : cProg Go.Proofs.Tryz.prog ⟨[], [], []⟩ 137 = some dc137 := by kernel_rfl
end Sh


set_option maxRecDepth 100000
set_option linter.unusedSimpArgs false
set_option linter.unusedVariables false
namespace Sh
open Go Go.Proofs
def lns (s : List UInt8) : List (List DV) := (linesC s).map fun l => [DV.str l]
theorem linesIt (s : List UInt8) (hs : s.length < 1073741824) : ISeqW Tryz.prog GC 158 [.bptr 19 0] [(19, .box 1 (.str s))] (lns s) := by
  refine iseqW_of dh158 rfl rfl (by kernel_rfl) rfl (fun x hx => by obtain ⟨v, _, rfl⟩ := List.mem_map.1 hx; rfl) (fun gl => ?_)
  conv => whnf
  refine dwp_loopY (P := Tryz.prog) (G := GC) (k := dk158_0) (b := db158_0) (α := List UInt8) (fun r => [(0, .dict 0), (1, .bptr 19 0)]) (fun r => [(0, .ghost (lns r) true gl), (19, .box 1 (.str r))]) (fun r => r.length < 1073741824) (fun r => r.length) s ⟨rfl, rfl, rfl⟩ hs ?_
  intro r hr
  conv => whnf
  refine ⟨fun hb => ?_, fun hb => ?_⟩
  · have hl : 0 < r.length := by have : (0 : Int) < r.length := of_decide_eq_true hb; omega
    clear hb
    have hix := lines_idx r (List.length_pos_iff.1 hl)
    conv => whnf
    repeat' (first
      | (refine ⟨fun hg => ?_, fun hg => ?_⟩ <;> first | contradiction | (conv => whnf))
      | (refine Or.inl ?_; conv => whnf)
      | (refine ⟨_, s_IndexByte r 10, ?_⟩; conv => whnf)
      | (refine And.intro ?_ ?_; kernel_rfl; conv => whnf))
    · have hg : 0 ≤ Lib.indexByte r 10 := of_decide_eq_true hg
      obtain ⟨i, h1, h2, h3⟩ : ∃ i : Nat, Lib.indexByte r 10 = i ∧ i < r.length ∧ linesC r = r.take (i + 1) :: linesC (r.drop (i + 1)) := by
        rcases hix with ⟨h1, _⟩ | h
        · omega
        · exact h
      have hL : lns r = [DV.str (r.take (i + 1))] :: lns (r.drop (i + 1)) := by unfold lns; rw [h3]; rfl
      have hdl : (r.drop (i + 1)).length < r.length := by simp; omega
      rw [hL, h1, wrap_succ i (by omega)]
      refine ⟨⟨by decide, by omega, by omega⟩, ?_⟩
      rw [show (((i + 1 : Nat) : Int) - 0).toNat = i + 1 by omega, show Int.toNat 0 = 0 from rfl, window_take r (i + 1) (by omega)]
      conv => whnf
      rw [wrap_succ i (by omega)]
      refine ⟨⟨by omega, by omega, by omega⟩, ?_⟩
      rw [show ((r.length : Int) - ((i + 1 : Nat) : Int)).toNat = r.length - (i + 1) by omega, Int.toNat_natCast, window_drop]
      conv => whnf
      generalize r.take (i + 1) = u at *
      generalize r.drop (i + 1) = q at *
      refine ⟨?_, ?_⟩
      · kernel_rfl
      conv => whnf
      refine ⟨rfl, fun b => ?_⟩
      conv => whnf
      refine ⟨fun hg => ?_, fun hg => ?_⟩
      · have hg : b = false := by simpa using hg
        subst hg
        conv => whnf
        intro e; cases e
      · have hg : b = true := by simpa using hg
        subst hg
        conv => whnf
        exact ⟨q, rfl, rfl, rfl, by omega, hdl⟩
    · have hg : ¬ 0 ≤ Lib.indexByte r 10 := of_decide_eq_false hg
      have h3 : linesC r = [r] := by
        rcases hix with ⟨_, h⟩ | ⟨i, h1, _⟩
        · exact h
        · omega
      have hL : lns r = [DV.str r] :: lns [] := by unfold lns; rw [h3]; rfl
      rw [hL]
      refine ⟨rfl, fun b => ?_⟩
      conv => whnf
      refine ⟨fun hg => ?_, fun hg => ?_⟩
      · have hg : b = false := by simpa using hg
        subst hg
        conv => whnf
        intro e; cases e
      · have hg : b = true := by simpa using hg
        subst hg
        conv => whnf
        exact ⟨[], rfl, rfl, rfl, by simp, hl⟩
  · have hl : r = [] := by have : ¬ (0 : Int) < r.length := of_decide_eq_false hb; exact List.eq_nil_of_length_eq_zero (by omega)
    subst hl
    conv => whnf
    intro _
    rfl
theorem s_Lines (s : List UInt8) : HCall Tryz.prog GC 137 [.str s] [] (.func 158 [.bptr 1 0]) [(1, .box 1 (.str s))] := by
  refine hCall_ofR dh137 rfl (by kernel_rfl) (by kernel_rfl) ?_
  conv => whnf
  exact ⟨rfl, rfl⟩
theorem rounds_invI {body : (DExit → SP) → SP} {kh ps : List Nat} {Q : DExit → SP} {t : Tmps} {xs : List (List DV)} (H : Nat → Heap) (inv : Nat → Prop) (h0 : inv 0)
    (mono : ∀ (R R' : DExit → SP) (t : Tmps) (s : Heap), (∀ e t s, R e t s → R' e t s) → body R t s → body R' t s)
    (step : ∀ i x, xs[i]? = some x → inv i → body (fun e _ h' => boxesOk kh (hlook h') kh = true ∧ match e with
      | .normal => keepH kh (hlook h') kh = H (i + 1) ∧ inv (i + 1)
      | e => Q e t (keepH kh (hlook h') kh)) (setPs ps x t) (H i))
    (fin : inv xs.length → Q .normal t (H xs.length)) : roundsN body kh ps Q t xs (H 0) := by
  have key : ∀ (r : List (List DV)) (i : Nat), i ≤ xs.length → xs.drop i = r → inv i → roundsN body kh ps Q t r (H i) := by
    intro r
    induction r with
    | nil =>
      intro i hl hi hv
      have hle : xs.length ≤ i := List.drop_eq_nil_iff.1 hi
      have e : i = xs.length := by omega
      subst e; exact fin hv
    | cons x r ih =>
      intro i hl hi hv
      have hx : xs[i]? = some x := by
        have := congrArg (fun l => l[0]?) hi
        simpa using this
      unfold roundsN
      refine mono _ _ _ _ (fun e t' s' hh => ⟨hh.1, ?_⟩) (step i x hx hv)
      have hh2 := hh.2
      cases e with
      | normal =>
        simp only at hh2 ⊢
        rw [hh2.1]
        refine ih (i + 1) (List.getElem?_eq_some_iff.1 hx).1 ?_ hh2.2
        have := congrArg (List.drop 1) hi
        simpa [List.drop_drop, Nat.add_comm] using this
      | ret => exact hh2
      | exit j => exact hh2
  exact key xs 0 (Nat.zero_le _) rfl h0
theorem range_WI {P : Program} {G : Nat → Option DV} {g : FuncId} {n sz : Nat} {d : DV} {k : Keep} {ps : List Nat} {Q : DExit → SP} {t : Tmps} {h : Heap} {x y : DC} (xs : List (List DV)) (H : Nat → Heap) (T : Tmps) (inv : Nat → Prop) (h0 : inv 0) (hi : ISeqW P G g [.bptr n 0] [(n, .box sz d)] xs)
    (hp : hlook h n = some (.box sz d) ∧ pureB d = true) (hn : n ≠ 0) (hk : memB n k.kh = false ∧ freeOf n h = true) (hl : ∀ z ∈ xs, z.length = ps.length)
    (hb : boxesOk k.kh (hlook (cutH n h)) k.kh = true) (hv : livH (keepH k.kh (hlook (cutH n h)) k.kh) = true) (hT : keepT k.kh (hlook (cutH n h)) (cutT n t) k.kt = T) (hH : keepH k.kh (hlook (cutH n h)) k.kh = H 0)
    (step : ∀ i z, xs[i]? = some z → inv i → dwpR P G x (seqQ (dwpR P G y (fun e _ h' => boxesOk k.kh (hlook h') k.kh = true ∧ match e with
      | .normal => keepH k.kh (hlook h') k.kh = H (i + 1) ∧ inv (i + 1)
      | e => Q e T (keepH k.kh (hlook h') k.kh))) (fun _ _ _ => False)) (setPs ps z T) (H i))
    (fin : inv xs.length → Q .normal T (H xs.length)) : rangeWp P G (fun R => dwpR P G x (seqQ (dwpR P G y R) (fun _ _ _ => False))) k ps Q (.func g [.bptr n 0]) t h := by
  unfold rangeWp
  refine .inr ⟨n, sz, d, xs, ⟨rfl, hp.1, hp.2, hn, hk.1, hk.2⟩, hi, hl, hb, hv, ?_⟩
  rw [hT, hH]
  refine rounds_invI H inv h0 (fun R R' t s hr hb => ?_) step fin
  rw [dwpR_eq, dwpR_eq] at *
  refine dwp_mono (fun e t s hh => ?_) hb
  cases e with
  | normal => exact dwp_mono hr hh
  | ret => exact hh
  | exit i => exact hh
end Sh


set_option maxRecDepth 100000
set_option linter.unusedSimpArgs false
set_option linter.unusedVariables false
namespace Sh
open Go Go.Proofs
theorem c_numK (D : List (List UInt8)) (k : Nat) (h : ∀ w ∈ D, w.length < 1073741824) : HCall Tryz.prog GC 140 [.bptr 1 0] [(1, takO (D.drop k) (wrK D k))] (DV.int .i64 (numK D k)) [(1, takO (D.drop (k + 1)) (wrK D (k + 1)))] := by
  have := c_take (D.drop k) (wrK D k) (fun w hw => h w (List.mem_of_mem_drop hw))
  rw [List.drop_drop] at this
  exact this
def oSW (rows : List (List UInt8)) (i : Nat) : List DV := (outW rows i).map shp
def paH (rows : List (List UInt8)) : Nat → Heap
  | 0 => [(2, .box 1 (.full [])), (3, .box 1 (DV.int .i64 (0))), (4, .box 1 (DV.int .i64 (0))), (5, .box 1 (.full []))]
  | i + 1 => [(2, .box 1 (.full [])), (3, .box 1 (DV.int .i64 (0))), (4, .box 1 (DV.int .i64 (0))), (5, .box 1 (.own 72 0 (oSW rows (i + 1)).length (oSW rows (i + 1)).length)), (72, .row 1 (oSW rows (i + 1)) false)]
set_option maxHeartbeats 1000000 in
theorem c_Parse (s : List UInt8) (hs : s.length ≤ 4097) : PC 76 [.str s] (encPar (parS s)) := by
  refine pureCall_ofR dh76 rfl ?_
  conv => whnf
  refine ⟨fun hg => ?_, fun hg => ?_⟩
  · have hg : (4096 : Int) < s.length := of_decide_eq_true hg
    conv => whnf
    unfold parS
    rw [if_pos (by omega)]; rfl
  · have hg : ¬ (4096 : Int) < s.length := of_decide_eq_false hg
    have hl := splitC_len 10 s
    have hn := splitC_ne 10 s
    have hno := splitC_not 10 s
    have hls := lines_split s
    conv => whnf
    refine .inr ⟨[(1, 19)], _, _, _, _, s_Lines s, ⟨rfl, by kernel_rfl, ?_, ?_⟩, ?_⟩
    · exact trivial
    · exact ⟨.inr rfl, trivial⟩
    conv => whnf
    generalize hr : splitC 10 s = rows at *
    obtain ⟨m, hm⟩ : ∃ m, rows.length = m + 1 := ⟨rows.length - 1, by have := List.length_pos_iff.2 hn; omega⟩
    have hbad : ∀ i, parE rows m 0 = some i → parS s = ([], (i : Int), 25) := fun i he => parS_bad (by omega) hr hm he
    have hok := fun he => parS_ok (by omega) hr hm he
    have hll := linesOf_len rows m hm
    generalize parS s = R at *
    refine range_WI (P := Tryz.prog) (G := GC) (x := db76_1x) (y := db76_1) (k := dk76_1) (lns s) (paH rows) [(2, .bptr 2 0), (3, .bptr 3 0), (4, .bptr 4 0), (5, .bptr 5 0)] (fun i => i ≤ m ∧ parE rows m 0 = parE rows (m - i) i) ⟨Nat.zero_le _, rfl⟩ (linesIt s (by omega)) ⟨rfl, rfl⟩ (by decide) ⟨rfl, rfl⟩ (fun z hz => by obtain ⟨v, _, rfl⟩ := List.mem_map.1 hz; rfl) rfl rfl rfl rfl ?_ ?_
    · intro i z hz ⟨h1, h2⟩
      obtain ⟨L, hz0, rfl, hc1, hc2, hL4⟩ : ∃ L, (linesOf rows)[i]? = some L ∧ z = [DV.str L] ∧ Lib.trimSuffix L [10] = rows.getD i [] ∧ Lib.hasSuffix L [10] = decide (i < m) ∧ L.length ≤ 1073741824 := by
        unfold lns at hz
        rw [hls, List.getElem?_map, Option.map_eq_some_iff] at hz
        obtain ⟨L, hz1, rfl⟩ := hz
        have hgd : (linesOf rows).getD i [] = L := by rw [List.getD_eq_getElem?_getD, hz1]; rfl
        have hil := (List.getElem?_eq_some_iff.1 hz1).1
        have hrl : (rows.getD i []).length ≤ s.length := hl.2 _ (getD_in [] (by omega))
        refine ⟨L, hz1, rfl, ?_⟩
        by_cases hi : i < m
        · rw [linesOf_get rows m i hm hi] at hgd
          subst hgd
          rw [decide_eq_true hi]
          exact ⟨(cut_yes _).1, (cut_yes _).2, by rw [List.length_append]; show _ + 1 ≤ _; omega⟩
        · have hi : i = m := by omega
          subst hi
          have hne : rows.getD i [] ≠ [] := fun e => by rw [if_pos e] at hll; omega
          rw [linesOf_last rows i hm hne] at hgd
          subst hgd
          have := cut_no _ (hno _ (getD_in [] (show i < rows.length by omega)))
          rw [decide_eq_false hi]
          exact ⟨this.1, this.2, by omega⟩
      clear hz
      have hrl : (rows.getD i []).length ≤ s.length := hl.2 _ (getD_in [] (by omega))
      rcases i with _ | i
      · obtain ⟨w0, D, hw⟩ : ∃ w0 D, splitC 32 (rows.getD 0 []) = w0 :: D := by
          cases h : splitC 32 (rows.getD 0 []) with
          | nil => exact absurd h (splitC_ne _ _)
          | cons a r => exact ⟨a, r, rfl⟩
        have hwl := splitC_len 32 (rows.getD 0 [])
        rw [hw] at hwl
        have hDl : D.length ≤ 4097 := by have := hwl.1; simp only [List.length_cons] at this; omega
        have hDw : ∀ x ∈ D, x.length < 1073741824 := fun x hx => by have := hwl.2 x (List.mem_cons_of_mem _ hx); omega
        conv => whnf
        repeat' (first
          | (refine ⟨fun hg => ?_, fun hg => ?_⟩ <;> first | contradiction | (conv => whnf))
          | (refine Or.inl ?_; conv => whnf)
          | (refine ⟨_, s_CutSuffix L [10] hL4, ?_⟩; conv => whnf)
          | (refine And.intro ?_ ?_; kernel_rfl; conv => whnf))
        rw [hc1, hc2]
        conv => whnf
        repeat' (first
          | (refine ⟨fun hg => ?_, fun hg => ?_⟩ <;> first | contradiction | (conv => whnf))
          | (refine Or.inl ?_; conv => whnf)
          | (refine ⟨_, s_Split (rows.getD 0 []) 32 (by omega), ?_⟩; conv => whnf)
          | (refine And.intro ?_ ?_; kernel_rfl; conv => whnf))
        rw [hw]
        refine ⟨⟨by decide, by simp; omega, by omega, fun e he => by obtain ⟨x, _, rfl⟩ := List.mem_map.1 he; rfl⟩, ?_⟩
        rw [window_tail]
        conv => whnf
        refine dwp_loopU (P := Tryz.prog) (G := GC) (k := dk76_0) (b := db76_0) (α := Nat) (fun j => [(12, .own 12 0 ((vcK D j).map encV).length ((vcK D j).map encV).length)]) (fun j => [(2, .box 1 (.full [])), (3, .box 1 (DV.int .i64 (0))), (4, .box 1 (DV.int .i64 (0))), (5, .box 1 (.full [])), (12, .row 3 ((vcK D j).map encV) false), (31, takO (D.drop (3 * j)) (wrK D (3 * j)))]) (fun j => j = 0 ∨ 3 * j < D.length + 3) (fun j => D.length + 1 - j) 0 (.inl rfl) ?_
        conv => whnf
        refine ⟨rfl, rfl, ?_⟩
        conv => whnf
        refine ⟨rfl, ?_⟩
        intro j hj
        have hdl : ((D.drop (3 * j)).map DV.str).length = D.length - 3 * j := by simp
        have hpl := vcK_len D j
        conv => whnf
        refine ⟨fun hb => ?_, fun hb => ?_⟩
        · have hb : (0 : Int) < (((D.drop (3 * j)).map DV.str).length : Nat) := of_decide_eq_true hb
          have hp : (vcK D (j + 1)).map encV = (vcK D j).map encV ++ [encV ⟨numK D (3 * j), numK D (3 * j + 1), numK D (3 * j + 2)⟩] := by rw [vcK_succ, List.map_append]; rfl
          conv => whnf
          refine .inr ⟨[(1, 31)], _, _, _, _, c_numK D (3 * j) hDw, ⟨rfl, by kernel_rfl, ?_, ?_⟩, ?_⟩
          · exact ⟨rfl, trivial⟩
          · exact ⟨.inl rfl, trivial⟩
          conv => whnf
          refine .inr ⟨[(1, 31)], _, _, _, _, c_numK D (3 * j + 1) hDw, ⟨rfl, by kernel_rfl, ?_, ?_⟩, ?_⟩
          · exact ⟨rfl, trivial⟩
          · exact ⟨.inl rfl, trivial⟩
          conv => whnf
          refine .inr ⟨[(1, 31)], _, _, _, _, c_numK D (3 * j + 2) hDw, ⟨rfl, by kernel_rfl, ?_, ?_⟩, ?_⟩
          · exact ⟨rfl, trivial⟩
          · exact ⟨.inl rfl, trivial⟩
          conv => whnf
          refine ⟨⟨rfl, rfl, rfl, by rw [List.length_map, hpl]; simp; omega, fun e he => by simp at he; subst he; rfl⟩, ?_⟩
          conv => whnf
          refine ⟨j + 1, rfl, ?_, ?_, .inr (by omega), by omega⟩
          · rw [hp]; rfl
          · rw [hp]; rfl
        · have hb : ¬ (0 : Int) < (((D.drop (3 * j)).map DV.str).length : Nat) := of_decide_eq_false hb
          have hend : ((w0 :: D).drop 1).length ≤ 3 * j := by show D.length ≤ _; omega
          have hce := shp_read (w0 :: D) j hend
          have hwr := wrong_read (w0 :: D) j hend hj (by simp)
          have hO : wrK D (3 * j) = false → oSW rows (0 + 1) = oSW rows 0 ++ [shp (vcK D j)] := fun h => by
            unfold oSW
            rw [outW_succ rows 0 (by omega), hw, hce h, List.map_append]; rfl
          have hgo : 0 < m → wrongW (w0 :: D) = false → 0 + 1 ≤ m ∧ parE rows m 0 = parE rows (m - (0 + 1)) (0 + 1) := fun h e => ⟨h, h2.trans (parE_step rows m _ h (by rw [hw]; exact e))⟩
          have hRw : 0 < m → wrongW (w0 :: D) = true → R = ([], ((0 : Nat) : Int), 25) := fun h e => hbad _ (h2.trans (parE_at rows m _ h (by rw [hw]; exact e)))
          have hRn : ¬ 0 < m → R = ([], ((0 : Nat) : Int), 25) := fun h => by
            have e : 0 = m := by omega
            have h3 : parE rows m 0 = none := by rw [h2, ← e, Nat.sub_self]; rfl
            have h4 := (List.getElem?_eq_some_iff.1 hz0).1
            have h5 : rows.getD m [] ≠ [] := fun h6 => by rw [if_pos h6] at hll; omega
            have h6 := hok h3
            rw [if_pos h5] at h6
            rw [h6, e]
          have hwin : shp (vcK D j) = .list (window ((vcK D j).map encV) 0 ((vcK D j).map encV).length) := by rw [window_full]; rfl
          have hol : (oSW rows 0).length = 0 := by unfold oSW; rw [List.length_map, outW_len rows 0 (by omega)]
          have hwr2 : wrongW (w0 :: D) = (decide (w0 ≠ shpB) || wrK D (3 * j)) := hwr
          conv => whnf
          repeat' (first
            | (refine ⟨fun hg => ?_, fun hg => ?_⟩ <;> first | contradiction | (conv => whnf))
            | (refine Or.inl ?_; conv => whnf)
            | (refine ⟨⟨by decide, by rw [List.length_map, List.length_cons]; omega, rfl⟩, ?_⟩; conv => whnf)
            | (refine And.intro ?_ ?_; kernel_rfl; conv => whnf))
          any_goals
            have hR : R = ([], ((0 : Nat) : Int), 25) := by
              by_cases him : 0 < m
              · refine hRw him ?_
                rw [hwr2]
                first
                | (rw [show wrK D _ = true from ‹(bif false then true else wrK D _) = true›, Bool.or_true])
                | (rw [show decide (w0 ≠ shpB) = true from ‹(bif false then true else decide (w0 ≠ _)) = !false›, Bool.true_or])
                | (have h8 : (!decide (0 < m)) = true := ‹(!decide (0 < m)) = !false›
                   rw [decide_eq_true him] at h8; cases h8)
              · exact hRn him
            rw [hR]
            first | rfl | (rw [hol]; rfl)
          have hwk : wrK D _ = false := hg
          have him : 0 < m := by
            have h8 : (!decide (0 < m)) = false := ‹(!decide (0 < m)) = false›
            exact of_decide_eq_true (by simpa using h8)
          have hgood := hgo him (by rw [hwr2, hwk, show decide (w0 ≠ shpB) = false from ‹(bif false then true else decide (w0 ≠ _)) = false›]; rfl)
          have hO := hO hwk
          refine ⟨⟨by simp, fun e he => by simp at he; subst he; rfl, fun e he => by simp at he, .inl rfl⟩, ?_⟩
          conv => whnf
          refine ⟨rfl, ?_, hgood⟩
          show _ = [(2, _), (3, _), (4, _), (5, DObj.box 1 (.own 72 0 (oSW rows (0 + 1)).length (oSW rows (0 + 1)).length)), (72, .row 1 (oSW rows (0 + 1)) false)]
          rw [hO]
          first | rfl | (rw [hwin]; rfl)
      · obtain ⟨w0, D, hw⟩ : ∃ w0 D, splitC 32 (rows.getD (i + 1) []) = w0 :: D := by
          cases h : splitC 32 (rows.getD (i + 1) []) with
          | nil => exact absurd h (splitC_ne _ _)
          | cons a r => exact ⟨a, r, rfl⟩
        have hwl := splitC_len 32 (rows.getD (i + 1) [])
        rw [hw] at hwl
        have hDl : D.length ≤ 4097 := by have := hwl.1; simp only [List.length_cons] at this; omega
        have hDw : ∀ x ∈ D, x.length < 1073741824 := fun x hx => by have := hwl.2 x (List.mem_cons_of_mem _ hx); omega
        conv => whnf
        repeat' (first
          | (refine ⟨fun hg => ?_, fun hg => ?_⟩ <;> first | contradiction | (conv => whnf))
          | (refine Or.inl ?_; conv => whnf)
          | (refine ⟨_, s_CutSuffix L [10] hL4, ?_⟩; conv => whnf)
          | (refine And.intro ?_ ?_; kernel_rfl; conv => whnf))
        rw [hc1, hc2]
        conv => whnf
        repeat' (first
          | (refine ⟨fun hg => ?_, fun hg => ?_⟩ <;> first | contradiction | (conv => whnf))
          | (refine Or.inl ?_; conv => whnf)
          | (refine ⟨_, s_Split (rows.getD (i + 1) []) 32 (by omega), ?_⟩; conv => whnf)
          | (refine And.intro ?_ ?_; kernel_rfl; conv => whnf))
        rw [hw]
        refine ⟨⟨by decide, by simp; omega, by omega, fun e he => by obtain ⟨x, _, rfl⟩ := List.mem_map.1 he; rfl⟩, ?_⟩
        rw [window_tail]
        conv => whnf
        refine dwp_loopU (P := Tryz.prog) (G := GC) (k := dk76_0) (b := db76_0) (α := Nat) (fun j => [(12, .own 12 0 ((vcK D j).map encV).length ((vcK D j).map encV).length)]) (fun j => [(2, .box 1 (.full [])), (3, .box 1 (DV.int .i64 (0))), (4, .box 1 (DV.int .i64 (0))), (5, .box 1 (.own 72 0 (oSW rows (i + 1)).length (oSW rows (i + 1)).length)), (12, .row 3 ((vcK D j).map encV) false), (31, takO (D.drop (3 * j)) (wrK D (3 * j)))] ++ [(72, .row 1 (oSW rows (i + 1)) false)]) (fun j => j = 0 ∨ 3 * j < D.length + 3) (fun j => D.length + 1 - j) 0 (.inl rfl) ?_
        conv => whnf
        refine ⟨rfl, rfl, ?_⟩
        conv => whnf
        refine ⟨rfl, ?_⟩
        intro j hj
        have hdl : ((D.drop (3 * j)).map DV.str).length = D.length - 3 * j := by simp
        have hpl := vcK_len D j
        conv => whnf
        refine ⟨fun hb => ?_, fun hb => ?_⟩
        · have hb : (0 : Int) < (((D.drop (3 * j)).map DV.str).length : Nat) := of_decide_eq_true hb
          have hp : (vcK D (j + 1)).map encV = (vcK D j).map encV ++ [encV ⟨numK D (3 * j), numK D (3 * j + 1), numK D (3 * j + 2)⟩] := by rw [vcK_succ, List.map_append]; rfl
          conv => whnf
          refine .inr ⟨[(1, 31)], _, _, _, _, c_numK D (3 * j) hDw, ⟨rfl, by kernel_rfl, ?_, ?_⟩, ?_⟩
          · exact ⟨rfl, trivial⟩
          · exact ⟨.inl rfl, trivial⟩
          conv => whnf
          refine .inr ⟨[(1, 31)], _, _, _, _, c_numK D (3 * j + 1) hDw, ⟨rfl, by kernel_rfl, ?_, ?_⟩, ?_⟩
          · exact ⟨rfl, trivial⟩
          · exact ⟨.inl rfl, trivial⟩
          conv => whnf
          refine .inr ⟨[(1, 31)], _, _, _, _, c_numK D (3 * j + 2) hDw, ⟨rfl, by kernel_rfl, ?_, ?_⟩, ?_⟩
          · exact ⟨rfl, trivial⟩
          · exact ⟨.inl rfl, trivial⟩
          conv => whnf
          refine ⟨⟨rfl, rfl, rfl, by rw [List.length_map, hpl]; simp; omega, fun e he => by simp at he; subst he; rfl⟩, ?_⟩
          conv => whnf
          refine ⟨j + 1, rfl, ?_, ?_, .inr (by omega), by omega⟩
          · rw [hp]; rfl
          · rw [hp]; rfl
        · have hb : ¬ (0 : Int) < (((D.drop (3 * j)).map DV.str).length : Nat) := of_decide_eq_false hb
          have hend : ((w0 :: D).drop 1).length ≤ 3 * j := by show D.length ≤ _; omega
          have hce := shp_read (w0 :: D) j hend
          have hwr := wrong_read (w0 :: D) j hend hj (by simp)
          have hO : wrK D (3 * j) = false → oSW rows ((i + 1) + 1) = oSW rows (i + 1) ++ [shp (vcK D j)] := fun h => by
            unfold oSW
            rw [outW_succ rows (i + 1) (by omega), hw, hce h, List.map_append]; rfl
          have hgo : (i + 1) < m → wrongW (w0 :: D) = false → (i + 1) + 1 ≤ m ∧ parE rows m 0 = parE rows (m - ((i + 1) + 1)) ((i + 1) + 1) := fun h e => ⟨h, h2.trans (parE_step rows m _ h (by rw [hw]; exact e))⟩
          have hRw : (i + 1) < m → wrongW (w0 :: D) = true → R = ([], (((i + 1) : Nat) : Int), 25) := fun h e => hbad _ (h2.trans (parE_at rows m _ h (by rw [hw]; exact e)))
          have hRn : ¬ (i + 1) < m → R = ([], (((i + 1) : Nat) : Int), 25) := fun h => by
            have e : (i + 1) = m := by omega
            have h3 : parE rows m 0 = none := by rw [h2, ← e, Nat.sub_self]; rfl
            have h4 := (List.getElem?_eq_some_iff.1 hz0).1
            have h5 : rows.getD m [] ≠ [] := fun h6 => by rw [if_pos h6] at hll; omega
            have h6 := hok h3
            rw [if_pos h5] at h6
            rw [h6, e]
          have hwin : shp (vcK D j) = .list (window ((vcK D j).map encV) 0 ((vcK D j).map encV).length) := by rw [window_full]; rfl
          have hol : (oSW rows (i + 1)).length = (i + 1) := by unfold oSW; rw [List.length_map, outW_len rows (i + 1) (by omega)]
          have hwr2 : wrongW (w0 :: D) = (decide (w0 ≠ shpB) || wrK D (3 * j)) := hwr
          conv => whnf
          repeat' (first
            | (refine ⟨fun hg => ?_, fun hg => ?_⟩ <;> first | contradiction | (conv => whnf))
            | (refine Or.inl ?_; conv => whnf)
            | (refine ⟨⟨by decide, by rw [List.length_map, List.length_cons]; omega, rfl⟩, ?_⟩; conv => whnf)
            | (refine And.intro ?_ ?_; kernel_rfl; conv => whnf))
          any_goals
            have hR : R = ([], (((i + 1) : Nat) : Int), 25) := by
              by_cases him : (i + 1) < m
              · refine hRw him ?_
                rw [hwr2]
                first
                | (rw [show wrK D _ = true from ‹(bif false then true else wrK D _) = true›, Bool.or_true])
                | (rw [show decide (w0 ≠ shpB) = true from ‹(bif false then true else decide (w0 ≠ _)) = !false›, Bool.true_or])
                | (have h8 : (!decide ((i + 1) < m)) = true := ‹(!decide ((i + 1) < m)) = !false›
                   rw [decide_eq_true him] at h8; cases h8)
              · exact hRn him
            rw [hR]
            first | rfl | (rw [hol]; rfl)
          have hwk : wrK D _ = false := hg
          have him : (i + 1) < m := by
            have h8 : (!decide ((i + 1) < m)) = false := ‹(!decide ((i + 1) < m)) = false›
            exact of_decide_eq_true (by simpa using h8)
          have hgood := hgo him (by rw [hwr2, hwk, show decide (w0 ≠ shpB) = false from ‹(bif false then true else decide (w0 ≠ _)) = false›]; rfl)
          have hO := hO hwk
          refine ⟨⟨rfl, rfl, rfl, by rw [hol]; simp; omega, fun e he => by simp at he; subst he; rfl⟩, ?_⟩
          conv => whnf
          refine ⟨rfl, ?_, hgood⟩
          show _ = [(2, _), (3, _), (4, _), (5, DObj.box 1 (.own 72 0 (oSW rows ((i + 1) + 1)).length (oSW rows ((i + 1) + 1)).length)), (72, .row 1 (oSW rows ((i + 1) + 1)) false)]
          rw [hO]
          first | rfl | (rw [hwin]; rfl)
    · intro ⟨h1, h2⟩
      have hlen : (lns s).length = (linesOf rows).length := by unfold lns; rw [List.length_map, hls]
      have hz : rows.getD m [] = [] := by
        by_cases hz : rows.getD m [] = []
        · exact hz
        · rw [if_neg hz] at hll; omega
      rw [if_pos hz, Nat.add_zero] at hll
      rw [hlen, hll] at h2
      rw [hlen, hll]
      have hR := hok (h2.trans (by rw [Nat.sub_self]; rfl))
      rw [if_neg (fun h => h hz)] at hR
      have hcs := outW_tb rows m s.length (fun r hr => hl.2 r hr)
      have hol := outW_len rows m (by omega)
      clear hok h2 h1 hlen hbad hll hls
      rcases m with _ | m
      · conv => whnf
        repeat' (first
          | (refine ⟨fun hg => ?_, fun hg => ?_⟩ <;> first | contradiction | (conv => whnf))
          | (refine Or.inl ?_; conv => whnf)
          | (refine ⟨_, c_checkShapes (outW rows 0) (by omega) (fun c hc => by have := hcs c hc; omega), ?_⟩; conv => whnf)
          | (refine And.intro ?_ ?_; kernel_rfl; conv => whnf))
        all_goals
          first
          | (have hg : chkShps (outW rows 0) ≠ 0 := of_decide_eq_true hg
             rw [if_pos hg] at hR
             rw [hR]; rfl)
          | (have hg : ¬ chkShps (outW rows 0) ≠ 0 := of_decide_eq_false hg
             rw [if_neg hg] at hR
             rw [hR]; rfl)
          | (have hg : ¬ chkShps (outW rows 0) ≠ 0 := of_decide_eq_false ‹decide (chkShps (outW rows 0) ≠ 0) = false›
             rw [if_neg hg] at hR
             rw [hR]; rfl)
      · have hol2 : (oSW rows (m + 1)).length = m + 1 := by unfold oSW; rw [List.length_map, hol]
        have hcc : PC 92 [DV.list (oSW rows (m + 1))] (DV.int .i64 (chkShps (outW rows (m + 1)))) := c_checkShapes (outW rows (m + 1)) (by omega) (fun c hc => by have := hcs c hc; omega)
        conv => whnf
        refine .inl ?_
        conv => whnf
        refine ⟨rfl, ?_⟩
        rw [window_full]
        refine ⟨_, hcc, ?_⟩
        conv => whnf
        repeat' (first
          | (refine ⟨fun hg => ?_, fun hg => ?_⟩ <;> first | contradiction | (conv => whnf))
          | (refine Or.inl ?_; conv => whnf)
          | (refine And.intro ?_ ?_; kernel_rfl; conv => whnf))
        · have hg : chkShps (outW rows (m + 1)) ≠ 0 := of_decide_eq_true hg
          rw [if_pos hg] at hR
          rw [hR, hol2]; rfl
        all_goals
          have hg : ¬ chkShps (outW rows (m + 1)) ≠ 0 := of_decide_eq_false hg
          rw [if_neg hg] at hR
          rw [hR, window_full]; rfl
end Sh


set_option maxRecDepth 100000
set_option linter.unusedSimpArgs false
set_option linter.unusedVariables false
namespace Sh
open Go Go.Proofs
theorem pt_ext {p q : Pt} (h1 : p.x = q.x) (h2 : p.y = q.y) : p = q := by cases p; cases q; simp_all
theorem flatMap_nodup {α : Type} (f : α → List Pt) (key : α → Pt → Prop) : ∀ (l : List α), (∀ a ∈ l, (f a).Nodup) → l.Nodup → (∀ a ∈ l, ∀ b ∈ l, ∀ p, p ∈ f a → p ∈ f b → a = b) → (l.flatMap f).Nodup
  | [], _, _, _ => List.nodup_nil
  | a :: r, h1, h2, h3 => by
    rw [List.flatMap_cons, List.nodup_append]
    have hn := List.nodup_cons.1 h2
    refine ⟨h1 a (by simp), flatMap_nodup f key r (fun b hb => h1 b (by simp [hb])) hn.2 (fun b hb c hc => h3 b (by simp [hb]) c (by simp [hc])), ?_⟩
    intro p hp q hq e
    subst e
    obtain ⟨b, hb, hpb⟩ := List.mem_flatMap.1 hq
    exact hn.1 (h3 a (by simp) b (by simp [hb]) p hp hpb ▸ hb)
theorem spots_nodup (c : Bx) : (spotsL c).Nodup := by
  have hr : ∀ j, (rowB c j 0).Nodup := fun j => by
    unfold rowB
    refine List.pairwise_map.2 (List.Pairwise.imp (fun hne e => hne ?_) (List.nodup_range' (step := 1)))
    have := congrArg Pt.x e
    unfold spotB at this
    simp at this; omega
  unfold spotsL restB
  refine flatMap_nodup _ (fun _ _ => True) _ (fun a _ => hr a) List.nodup_range' ?_
  intro a _ b _ p ha hb
  unfold rowB at ha hb
  obtain ⟨i, _, rfl⟩ := List.mem_map.1 ha
  obtain ⟨j, _, e⟩ := List.mem_map.1 hb
  have := congrArg Pt.y e
  unfold spotB at this
  simp at this; omega
def seenK (l : List (List V3)) (sun : V3) (ps : List Pt) (i k : Nat) : List Pt := ((List.range i).flatMap fun i => cutI l sun i ps) ++ cutI l sun i (ps.take k)
theorem seenK_zero (l : List (List V3)) (sun : V3) (ps : List Pt) (i : Nat) : seenK l sun ps i ps.length = seenK l sun ps (i + 1) 0 := by
  unfold seenK
  rw [List.take_length, List.range_succ, List.flatMap_append]
  simp [cutI]
theorem any_take {l : List (List V3)} {sun : V3} {p : Pt} : ∀ {i : Nat}, i ≤ l.length → (anyHid (l.take i) sun p = true ↔ ∃ j, j < i ∧ anyHid (l.take j) sun p = false ∧ hidB (l.getD j []) sun p = true)
  | 0, _ => by simp [anyHid]
  | i + 1, h => by
    have ih := any_take (l := l) (sun := sun) (p := p) (show i ≤ l.length by omega)
    cases ha : anyHid (l.take i) sun p with
    | true =>
      have hx : anyHid (l.take (i + 1)) sun p = true := by
        unfold anyHid at *
        rw [take_snoc l i [] (by omega), List.any_append, ha]; rfl
      refine ⟨fun _ => ?_, fun _ => hx⟩
      obtain ⟨j, h1, h2⟩ := ih.1 ha
      exact ⟨j, by omega, h2⟩
    | false =>
      rw [any_snoc (by omega) ha]
      refine ⟨fun hh => ⟨i, by omega, ha, hh⟩, fun ⟨j, h1, h2⟩ => ?_⟩
      by_cases e : j = i
      · subst e; exact h2.2
      · exact absurd (ih.2 ⟨j, by omega, h2⟩) (by rw [ha]; simp)
theorem seen_mem {l : List (List V3)} {sun : V3} {ps : List Pt} (hd : ps.Nodup) {i k : Nat} (hi : i < l.length) (hk : k < ps.length) : ps.getD k P0 ∈ seenK l sun ps i k ↔ anyHid (l.take i) sun (ps.getD k P0) = true := by
  have hp := getD_in P0 hk
  have hnt : ps.getD k P0 ∉ ps.take k := by
    intro hm
    obtain ⟨j, hj, e⟩ := List.mem_iff_getElem.1 hm
    rw [List.length_take] at hj
    rw [List.getElem_take] at e
    have e2 : ps.getD k P0 = ps[k] := by simp [List.getD_eq_getElem?_getD, hk]
    rw [e2] at e
    exact (List.pairwise_iff_getElem.1 hd) j k (by omega) hk (by omega) e
  unfold seenK
  rw [any_take (by omega), List.mem_append, List.mem_flatMap]
  constructor
  · rintro (⟨j, hj, hm⟩ | hm)
    · have := (List.mem_filter.1 hm).2
      rw [Bool.and_eq_true, Bool.not_eq_true'] at this
      exact ⟨j, List.mem_range.1 hj, this.1, this.2⟩
    · exact absurd (List.mem_filter.1 hm).1 hnt
  · rintro ⟨j, hj, h1, h2⟩
    refine .inl ⟨j, List.mem_range.2 hj, List.mem_filter.2 ⟨hp, ?_⟩⟩
    rw [h1, h2]; rfl
def entP (ks : List Pt) : List (DV × DV) := ks.map fun p => (encPt p, DV.bool true)
theorem keyP (p q : Pt) : keyEq 3 [1, 1] (encPt p) (encPt q) = some (decide (p.x = q.x) && (decide (p.y = q.y) && true)) := rfl
theorem find_yes {p : Pt} : ∀ {ks : List Pt} (i : Nat), p ∈ ks → ∃ j, dfind (keyEq 3 [1, 1]) (encPt p) (entP ks) i = some (some (j, .bool true))
  | [], i, h => absurd h List.not_mem_nil
  | q :: r, i, h => by
    unfold entP
    rw [List.map_cons]
    unfold dfind
    rw [keyP]
    by_cases e : p = q
    · subst e; simp
    · have hr : p ∈ r := by rcases List.mem_cons.1 h with h | h; exact absurd h e; exact h
      have : (decide (p.x = q.x) && (decide (p.y = q.y) && true)) = false := by
        rw [Bool.and_true, ← Bool.not_eq_true, Bool.and_eq_true, decide_eq_true_eq, decide_eq_true_eq]
        exact fun ⟨h1, h2⟩ => e (pt_ext h1 h2)
      rw [this]
      exact find_yes (i + 1) hr
theorem find_no {p : Pt} : ∀ {ks : List Pt} (i : Nat), p ∉ ks → dfind (keyEq 3 [1, 1]) (encPt p) (entP ks) i = some none
  | [], i, h => rfl
  | q :: r, i, h => by
    unfold entP
    rw [List.map_cons]
    unfold dfind
    rw [keyP]
    have : (decide (p.x = q.x) && (decide (p.y = q.y) && true)) = false := by
      rw [Bool.and_true, ← Bool.not_eq_true, Bool.and_eq_true, decide_eq_true_eq, decide_eq_true_eq]
      exact fun ⟨h1, h2⟩ => h (by rw [pt_ext h1 h2]; simp)
    rw [this]
    exact find_no (i + 1) (fun hh => h (by simp [hh]))
end Sh


set_option maxRecDepth 100000
set_option linter.unusedSimpArgs false
set_option linter.unusedVariables false
namespace Sh
open Go Go.Proofs
def ctM (l : List (List V3)) (sun : V3) (ps : List Pt) (i k m : Nat) : Int := if m < i then ((cutI l sun m ps).length : Int) else if m = i then ctN l sun ps i k else 0
def ctX (l : List (List V3)) (sun : V3) (ps : List Pt) (i k : Nat) : List DV := rng l.length fun m => DV.int .i64 (ctM l sun ps i k m)
theorem ctX_zero (l : List (List V3)) (sun : V3) (ps : List Pt) : ctX l sun ps 0 0 = List.replicate (l.map shp).length (DV.int .i64 (0)) := by
  rw [List.length_map, rng_const]
  unfold ctX
  refine rng_congr fun m _ => int_eq ?_
  unfold ctM
  rw [if_neg (by omega)]
  by_cases e : m = 0
  · rw [if_pos e]; rfl
  · rw [if_neg e]
theorem ctX_next (l : List (List V3)) (sun : V3) (ps : List Pt) (i : Nat) : ctX l sun ps i ps.length = ctX l sun ps (i + 1) 0 := by
  unfold ctX
  refine rng_congr fun m _ => int_eq ?_
  unfold ctM
  by_cases e : m < i
  · rw [if_pos e, if_pos (by omega)]
  · by_cases e2 : m = i
    · subst e2
      rw [if_neg e, if_pos rfl, if_pos (by omega)]
      unfold ctN; rw [List.take_length]
    · rw [if_neg e, if_neg e2, if_neg (by omega)]
      by_cases e3 : m = i + 1
      · rw [if_pos e3]; rfl
      · rw [if_neg e3]
theorem ctX_all (l : List (List V3)) (sun : V3) (ps : List Pt) : ctX l sun ps l.length 0 = (rng l.length fun i => ((cutI l sun i ps).length : Int)).map (DV.int .i64) := by
  rw [rng_map]
  unfold ctX
  refine rng_congr fun m h => int_eq ?_
  unfold ctM
  rw [if_pos h]
theorem ctX_len (l : List (List V3)) (sun : V3) (ps : List Pt) (i k : Nat) : (ctX l sun ps i k).length = l.length := rng_len _ _
theorem ctX_get {l : List (List V3)} {sun : V3} {ps : List Pt} {i k : Nat} (h : i < l.length) : (ctX l sun ps i k).getD i .undef = DV.int .i64 (ctN l sun ps i k) := by
  unfold ctX
  rw [rng_getD _ _ h]
  unfold ctM
  rw [if_neg (by omega), if_pos rfl]
def ctC (l : List (List V3)) (sun : V3) (i : Nat) (p : Pt) : Bool := !anyHid (l.take i) sun p && hidB (l.getD i []) sun p
theorem ctN_yes {l : List (List V3)} {sun : V3} {ps : List Pt} {i k : Nat} (hk : k < ps.length) (h : ctC l sun i (ps.getD k P0) = true) : ctN l sun ps i (k + 1) = ctN l sun ps i k + 1 ∧ seenK l sun ps i (k + 1) = seenK l sun ps i k ++ [ps.getD k P0] := by
  unfold ctC at h
  unfold ctN seenK cutI
  rw [take_snoc ps k P0 hk, List.filter_append, List.length_append, List.filter_cons, h]
  simp
theorem ctN_no {l : List (List V3)} {sun : V3} {ps : List Pt} {i k : Nat} (hk : k < ps.length) (h : ctC l sun i (ps.getD k P0) = false) : ctN l sun ps i (k + 1) = ctN l sun ps i k ∧ seenK l sun ps i (k + 1) = seenK l sun ps i k := by
  unfold ctC at h
  unfold ctN seenK cutI
  rw [take_snoc ps k P0 hk, List.filter_append, List.length_append, List.filter_cons, h]
  simp
theorem ctX_same {l : List (List V3)} {sun : V3} {ps : List Pt} {i k : Nat} (h : ctN l sun ps i (k + 1) = ctN l sun ps i k) : ctX l sun ps i (k + 1) = ctX l sun ps i k := by
  unfold ctX ctM; rw [h]
theorem ctX_set {l : List (List V3)} {sun : V3} {ps : List Pt} {i k : Nat} (h : ctN l sun ps i (k + 1) = ctN l sun ps i k + 1) : (ctX l sun ps i k).set i (DV.int .i64 (ctN l sun ps i k + 1)) = ctX l sun ps i (k + 1) := by
  unfold ctX
  rw [rng_set]
  refine rng_congr fun m _ => ?_
  unfold ctM
  by_cases e : m = i
  · subst e; rw [if_pos rfl, if_neg (by omega), if_pos rfl, h]
  · rw [if_neg e]
    by_cases e2 : m < i
    · rw [if_pos e2, if_pos e2]
    · rw [if_neg e2, if_neg e2, if_neg e, if_neg e]
theorem entP_snoc (ks : List Pt) (p : Pt) : entP ks ++ [(encPt p, DV.bool true)] = entP (ks ++ [p]) := by unfold entP; rw [List.map_append]; rfl
theorem c_cut (l : List (List V3)) (sun : V3) (c : Bx) (h8 : l.length ≤ 8) (h1 : ∀ s ∈ l, OkS s) (h2 : bdV 1000 sun) (h3 : OkB c) : PC 109 [shps l, encV sun, encB c] (iL (cutS l sun c)) := by
  have e0 : ((l.map shp).length : Int) = l.length := by simp
  have hn := h3.spN
  have hsp : ∀ p ∈ spotsL c, (-1000 ≤ p.x ∧ p.x ≤ 1000) ∧ (-1000 ≤ p.y ∧ p.y ≤ 1000) := fun p hp => h3.spot hp
  have hit := spotsIt c h3
  have hnd := spots_nodup c
  have k6 := c_spots c
  unfold cutS
  generalize spotsL c = ps at *
  refine pureCall_ofR dh109 rfl ?_
  conv => whnf
  refine ⟨⟨by omega, by omega, by omega, rfl, rfl⟩, ?_⟩
  conv => whnf
  refine dwp_loopU (P := Tryz.prog) (G := GC) (k := dk109_1) (b := db109_1) (α := Nat) (fun i => [(18, DV.int .i64 (i))]) (fun i => [(4, .box 3 (encV sun)), (5, .box 4 (encB c)), (7, .box 1 (.dict 12)), (8, .box 1 (.own 15 0 (l.map shp).length (l.map shp).length)), (12, .dict (entP (seenK l sun ps i 0))), (15, .row 1 (ctX l sun ps i 0) false)]) (fun i => i ≤ l.length) (fun i => l.length - i) 0 (Nat.zero_le _) ?_
  conv => whnf
  refine ⟨rfl, by rw [ctX_zero]; rfl, ?_⟩
  conv => whnf
  refine ⟨rfl, ?_⟩
  intro i j1
  conv => whnf
  refine ⟨fun hb => ?_, fun hb => ?_⟩
  · have hi : i < l.length := by simpa using hb
    have hS := h1 _ (getD_in [] hi)
    clear hb
    conv => whnf
    rw [getD_enc _ _ (i) [] hi]
    refine ⟨idxA hi rfl, ?_⟩
    conv => whnf
    repeat' (first
      | (refine ⟨fun hg => ?_, fun hg => ?_⟩ <;> first | contradiction | (conv => whnf))
      | (refine Or.inl ?_; conv => whnf)
      | (refine ⟨_, k6, ?_⟩; conv => whnf)
      | (refine And.intro ?_ ?_; kernel_rfl; conv => whnf))
    generalize hss : l.getD i [] = s at *
    refine range_R (P := Tryz.prog) (G := GC) (x := db109_0x) (y := db109_0) (k := dk109_0) (one1 ps) (fun k => [(4, .box 3 (encV sun)), (5, .box 4 (encB c)), (7, .box 1 (.dict 12)), (8, .box 1 (.own 15 0 (l.map shp).length (l.map shp).length)), (9, .box 1 (DV.int .i64 (i))), (10, .box 1 (shp s)), (12, .dict (entP (seenK l sun ps i k))), (15, .row 1 (ctX l sun ps i k) false)]) [(4, .bptr 4 0), (5, .bptr 5 0), (6, .full []), (7, .bptr 7 0), (8, .bptr 8 0), (9, .bptr 9 0), (10, .bptr 10 0), (16, shps l), (17, DV.int .i64 ((l.map shp).length)), (18, DV.int .i64 (i))] hit rfl one1_len rfl rfl rfl rfl ?_ ?_
    · intro k z hz
      obtain ⟨hk, rfl⟩ := one1_get hz
      have hpp := hsp _ (getD_in P0 hk)
      have hsm := seen_mem (l := l) (sun := sun) hnd hi hk
      have hyes := ctN_yes (l := l) (sun := sun) (i := i) hk
      have hno := ctN_no (l := l) (sun := sun) (i := i) hk
      dsimp only
      generalize hpk : ps.getD k P0 = p at *
      have k5 := c_hides s sun p hS h2 hpp
      unfold ctC at hyes hno
      rw [hss] at hyes hno
      cases hA : anyHid (l.take i) sun p with
      | true =>
        rw [hA] at hsm hyes hno
        obtain ⟨j, hj⟩ := find_yes 0 (hsm.2 rfl)
        conv => whnf
        rw [ev_lookup_some (q := 12) (es := entP (seenK l sun ps i k)) rfl rfl rfl hj]
        conv => whnf
        refine ⟨fun h => absurd h (by decide), fun _ => ?_⟩
        conv => whnf
        refine ⟨fun h => absurd h (by decide), fun _ => ?_⟩
        conv => whnf
        obtain ⟨q1, q2⟩ := hno rfl
        refine ⟨rfl, ?_⟩
        rw [q2, ctX_same q1]
        rfl
      | false =>
        rw [hA] at hsm hyes hno
        have hj := find_no 0 (show p ∉ seenK l sun ps i k from fun h => by have := hsm.1 h; cases this)
        conv => whnf
        rw [ev_lookup_none (q := 12) (es := entP (seenK l sun ps i k)) rfl rfl rfl hj]
        conv => whnf
        refine ⟨fun _ => ?_, fun h => absurd h (by decide)⟩
        conv => whnf
        refine .inl ?_
        conv => whnf
        refine ⟨_, k5 .., ?_⟩
        conv => whnf
        refine ⟨fun hg => ?_, fun hg => ?_⟩
        · have hg : hidB s sun p = true := hg
          obtain ⟨q1, q2⟩ := hyes (by rw [hg]; rfl)
          have hlx := ctX_len l sun ps i k
          have e3 : ((ctX l sun ps i k).length : Int) = l.length := by rw [hlx]
          have hget : (ctX l sun ps i k).getD (0 + Int.toNat (i : Int)) .undef = DV.int .i64 (ctN l sun ps i k) := by rw [Nat.zero_add, Int.toNat_natCast]; exact ctX_get hi
          have hb1 : 0 ≤ ctN l sun ps i k ∧ ctN l sun ps i k ≤ 4000000 := by
            unfold ctN
            refine ⟨by omega, ?_⟩
            have h1 := List.length_filter_le (fun p => !anyHid (l.take i) sun p && hidB (l.getD i []) sun p) (ps.take k)
            have h2 : (ps.take k).length ≤ ps.length := List.length_take_le' _ _
            unfold cutI
            omega
          conv => whnf
          rw [ev_mapset_none (q := 12) (es := entP (seenK l sun ps i k)) (kv := encPt p) (vv := .bool true) rfl rfl rfl rfl rfl hj, entP_snoc, ← q2]
          conv => whnf
          refine ⟨⟨by rw [hlx, List.length_map], by omega, by rw [e0]; omega⟩, ?_⟩
          conv => whnf
          refine ⟨⟨by rw [hlx, List.length_map], by decide⟩, ?_⟩
          rw [hget]
          conv => whnf
          refine ⟨⟨by rw [hlx, List.length_map], by omega, by rw [e0]; omega⟩, ?_⟩
          conv => whnf
          rw [wrap_in (by omega) (by omega)]
          refine ⟨⟨by rw [hlx, List.length_map], by decide, rfl⟩, ?_⟩
          conv => whnf
          refine ⟨rfl, ?_⟩
          have hset : (ctX l sun ps i k).set (0 + Int.toNat (i : Int)) (DV.int .i64 (ctN l sun ps i k + 1)) = ctX l sun ps i (k + 1) := by rw [Nat.zero_add, Int.toNat_natCast]; exact ctX_set q1
          rw [← hset]
          rfl
        · have hg : hidB s sun p = false := hg
          obtain ⟨q1, q2⟩ := hno (by rw [hg]; rfl)
          conv => whnf
          refine ⟨rfl, ?_⟩
          rw [q2, ctX_same q1]
          rfl
    · rw [show (one1 ps).length = ps.length from List.length_map _]
      rw [seenK_zero, ctX_next]
      conv => whnf
      rw [wrap_succ i (by omega)]
      exact ⟨i + 1, rfl, rfl, rfl, hi, by omega⟩
  · have hi : i = l.length := by have := of_decide_eq_false hb; rw [e0] at this; omega
    clear hb
    rw [hi, ctX_all]
    conv => whnf
    have hlen : (l.map shp).length = ((rng l.length fun i => ((cutI l sun i ps).length : Int)).map (DV.int .i64)).length := by rw [List.length_map, List.length_map, rng_len]
    refine ⟨hlen, ?_⟩
    rw [hlen, window_full]
    rfl
def cuS (l : List (List V3)) (sun : V3) (c : Bx) : List Int × Int := if lgE l sun c ≠ 0 then ([], lgE l sun c) else (cutS l sun c, 0)
theorem c_Cut (l : List (List V3)) (sun : V3) (c : Bx) (hl : l.length < 1073741824) (hs : ∀ s ∈ l, s.length < 1073741824) : PC 32 [shps l, encV sun, encB c] (.tuple [iL (cuS l sun c).1, DV.int .i64 ((cuS l sun c).2)]) := by
  have k1 := c_checkShapes l hl hs
  have k2 := c_CheckSun sun
  have k3 := c_CheckCell c
  have k4 := c_first [chkShps l, chkSun sun, chkBx c] (by simp)
  refine pureCall_ofR dh32 rfl ?_
  conv => whnf
  repeat' (first
    | (refine ⟨fun hg => ?_, fun hg => ?_⟩ <;> first | contradiction | (conv => whnf))
    | (refine Or.inl ?_; conv => whnf)
    | (refine ⟨_, k1, ?_⟩; conv => whnf)
    | (refine ⟨_, k2, ?_⟩; conv => whnf)
    | (refine ⟨_, k3, ?_⟩; conv => whnf)
    | (refine ⟨_, k4, ?_⟩; conv => whnf)
    | (refine And.intro ?_ ?_; kernel_rfl; conv => whnf))
  · have hg : lgE l sun c ≠ 0 := of_decide_eq_true hg
    have e : cuS l sun c = ([], lgE l sun c) := if_pos hg
    rw [e]; rfl
  · have hg : ¬ lgE l sun c ≠ 0 := of_decide_eq_false hg
    have e : cuS l sun c = (cutS l sun c, 0) := if_neg hg
    obtain ⟨⟨h8, h1⟩, h2, h3⟩ := lgE_zero (Classical.not_not.1 hg)
    have k5 := c_cut l sun c h8 h1 h2 h3
    repeat' (first
      | (refine ⟨fun hg => ?_, fun hg => ?_⟩ <;> first | contradiction | (conv => whnf))
      | (refine Or.inl ?_; conv => whnf)
      | (refine ⟨_, k5, ?_⟩; conv => whnf)
      | (refine And.intro ?_ ?_; kernel_rfl; conv => whnf))
    rw [e]; rfl
end Sh


set_option maxRecDepth 100000
namespace Sh
open Go
def dc14 : DFunc := ⟨417, 0, [(.tmp 0)], (.seq (.ops false [⟨(some 0), (.mov (.const (.bool false))), none, []⟩]) (.seq (.ops false [⟨(some 53), (.call (.func 82) [(.const (.int .i64 0)), (.const (.int .i64 (-1))), (.const (.int .i64 1))]), none, []⟩, ⟨(some 54), (.call (.func 82) [(.const (.int .i64 1)), (.const (.int .i64 (-1))), (.const (.int .i64 2))]), none, []⟩, ⟨(some 1), (.alloc (.agg [(.int .i64 0), (.int .i64 0), (.int .i64 0)]) 3), none, []⟩, ⟨(some 2), (.alloc (.agg [(.int .i64 0), (.int .i64 0), (.int .i64 0)]) 3), none, []⟩, ⟨none, (.store 3 (.tmp 1) (.tmp 53)), none, []⟩, ⟨none, (.store 3 (.tmp 2) (.tmp 54)), none, []⟩]) (.seq (.ops true [⟨(some 56), (.call (.func 84) []), none, []⟩, ⟨(some 57), (.load (some 3) (.tmp 1)), none, []⟩, ⟨(some 58), (.call (.func 81) [(.const (.int .i64 2)), (.const (.int .i64 4))]), none, [0]⟩, ⟨(some 59), (.call (.func 15) [(.tmp 56), (.tmp 57), (.tmp 58)]), none, [0, 1, 2]⟩, ⟨(some 55), (.mov (.tmp 59)), none, [3, 0, 1, 2]⟩, ⟨(some 60), (.extract (.tmp 55) 0), none, [4, 3, 0, 1, 2]⟩, ⟨(some 61), (.extract (.tmp 55) 1), none, [4, 3, 0, 1, 2]⟩, ⟨(some 3), (.mov (.tmp 60)), none, [5, 4, 3, 0, 1, 2]⟩, ⟨(some 4), (.mov (.tmp 61)), none, [6, 4, 3, 0, 1, 2, 7, 5]⟩]) (.seq (.ops true [⟨(some 63), (.call (.func 84) []), none, []⟩, ⟨(some 64), (.load (some 3) (.tmp 1)), none, []⟩, ⟨(some 65), (.call (.func 81) [(.const (.int .i64 2)), (.const (.int .i64 5))]), none, [0]⟩, ⟨(some 66), (.call (.func 15) [(.tmp 63), (.tmp 64), (.tmp 65)]), none, [0, 1, 2]⟩, ⟨(some 62), (.mov (.tmp 66)), none, [3, 0, 1, 2]⟩, ⟨(some 67), (.extract (.tmp 62) 0), none, [4, 3, 0, 1, 2]⟩, ⟨(some 68), (.extract (.tmp 62) 1), none, [4, 3, 0, 1, 2]⟩, ⟨(some 5), (.mov (.tmp 67)), none, [5, 4, 3, 0, 1, 2]⟩, ⟨(some 6), (.mov (.tmp 68)), none, [6, 4, 3, 0, 1, 2, 7, 5]⟩]) (.seq (.ops true [⟨(some 70), (.call (.func 84) []), none, []⟩, ⟨(some 71), (.load (some 3) (.tmp 1)), none, []⟩, ⟨(some 72), (.call (.func 81) [(.const (.int .i64 2)), (.const (.int .i64 (-1)))]), none, [0]⟩, ⟨(some 73), (.call (.func 15) [(.tmp 70), (.tmp 71), (.tmp 72)]), none, [0, 1, 2]⟩, ⟨(some 69), (.mov (.tmp 73)), none, [3, 0, 1, 2]⟩, ⟨(some 74), (.extract (.tmp 69) 0), none, [4, 3, 0, 1, 2]⟩, ⟨(some 75), (.extract (.tmp 69) 1), none, [4, 3, 0, 1, 2]⟩, ⟨(some 7), (.mov (.tmp 74)), none, [5, 4, 3, 0, 1, 2]⟩, ⟨(some 8), (.mov (.tmp 75)), none, [6, 4, 3, 0, 1, 2, 7, 5]⟩]) (.seq (.ops true [⟨(some 77), (.call (.func 84) []), none, []⟩, ⟨(some 78), (.load (some 3) (.tmp 2)), none, []⟩, ⟨(some 79), (.call (.func 81) [(.const (.int .i64 0)), (.const (.int .i64 2))]), none, [0]⟩, ⟨(some 80), (.call (.func 15) [(.tmp 77), (.tmp 78), (.tmp 79)]), none, [0, 1, 2]⟩, ⟨(some 76), (.mov (.tmp 80)), none, [3, 0, 1, 2]⟩, ⟨(some 81), (.extract (.tmp 76) 0), none, [4, 3, 0, 1, 2]⟩, ⟨(some 82), (.extract (.tmp 76) 1), none, [4, 3, 0, 1, 2]⟩, ⟨(some 9), (.mov (.tmp 81)), none, [5, 4, 3, 0, 1, 2]⟩, ⟨(some 10), (.mov (.tmp 82)), none, [6, 4, 3, 0, 1, 2, 7, 5]⟩]) (.seq (.ops true [⟨(some 84), (.call (.func 84) []), none, []⟩, ⟨(some 85), (.load (some 3) (.tmp 2)), none, []⟩, ⟨(some 86), (.call (.func 81) [(.const (.int .i64 4)), (.const (.int .i64 1))]), none, [0]⟩, ⟨(some 87), (.call (.func 15) [(.tmp 84), (.tmp 85), (.tmp 86)]), none, [0, 1, 2]⟩, ⟨(some 83), (.mov (.tmp 87)), none, [3, 0, 1, 2]⟩, ⟨(some 88), (.extract (.tmp 83) 0), none, [4, 3, 0, 1, 2]⟩, ⟨(some 89), (.extract (.tmp 83) 1), none, [4, 3, 0, 1, 2]⟩, ⟨(some 11), (.mov (.tmp 88)), none, [5, 4, 3, 0, 1, 2]⟩, ⟨(some 12), (.mov (.tmp 89)), none, [6, 4, 3, 0, 1, 2, 7, 5]⟩]) (.seq (.ops true [⟨(some 91), (.call (.func 84) []), none, []⟩, ⟨(some 92), (.load (some 3) (.tmp 1)), none, []⟩, ⟨(some 93), (.call (.func 85) []), none, [0]⟩, ⟨(some 94), (.call (.func 31) [(.tmp 91), (.tmp 92), (.tmp 93)]), none, [0, 1, 2]⟩, ⟨(some 90), (.mov (.tmp 94)), none, [3, 0, 1, 2]⟩, ⟨(some 95), (.extract (.tmp 90) 0), none, [4, 3, 0, 1, 2]⟩, ⟨(some 96), (.extract (.tmp 90) 1), none, [4, 3, 0, 1, 2]⟩, ⟨(some 13), (.mov (.tmp 95)), none, [5, 4, 3, 0, 1, 2]⟩, ⟨(some 14), (.mov (.tmp 96)), none, [6, 4, 3, 0, 1, 2, 7, 5]⟩]) (.seq (.ops true [⟨(some 98), (.call (.func 84) []), none, []⟩, ⟨(some 99), (.call (.func 86) []), none, [0]⟩, ⟨(some 100), (.lit true 1 2 (.full []) [(0, (.tmp 98)), (1, (.tmp 99))]), none, [0, 1]⟩, ⟨(some 101), (.load (some 3) (.tmp 1)), none, []⟩, ⟨(some 102), (.call (.func 85) []), none, [1, 0]⟩, ⟨(some 103), (.call (.func 32) [(.tmp 100), (.tmp 101), (.tmp 102)]), none, [2, 0, 1, 3, 4]⟩, ⟨(some 97), (.mov (.tmp 103)), none, [5, 2, 0, 1, 3, 4]⟩, ⟨(some 104), (.extract (.tmp 97) 0), none, [6, 5, 2, 0, 1, 3, 4]⟩, ⟨(some 105), (.extract (.tmp 97) 1), none, [6, 5, 2, 0, 1, 3, 4]⟩, ⟨(some 15), (.mov (.tmp 104)), none, [7, 6, 5, 2, 0, 1, 3, 4]⟩, ⟨(some 16), (.mov (.tmp 105)), none, [8, 6, 5, 2, 0, 1, 3, 4, 9, 7]⟩]) (.seq (.ops true [⟨(some 107), (.call (.func 86) []), none, []⟩, ⟨(some 108), (.call (.func 84) []), none, [0]⟩, ⟨(some 109), (.lit true 1 2 (.full []) [(0, (.tmp 107)), (1, (.tmp 108))]), none, [0, 1]⟩, ⟨(some 110), (.load (some 3) (.tmp 1)), none, []⟩, ⟨(some 111), (.call (.func 85) []), none, [1, 0]⟩, ⟨(some 112), (.call (.func 32) [(.tmp 109), (.tmp 110), (.tmp 111)]), none, [2, 0, 1, 3, 4]⟩, ⟨(some 106), (.mov (.tmp 112)), none, [5, 2, 0, 1, 3, 4]⟩, ⟨(some 113), (.extract (.tmp 106) 0), none, [6, 5, 2, 0, 1, 3, 4]⟩, ⟨(some 114), (.extract (.tmp 106) 1), none, [6, 5, 2, 0, 1, 3, 4]⟩, ⟨(some 17), (.mov (.tmp 113)), none, [7, 6, 5, 2, 0, 1, 3, 4]⟩, ⟨(some 18), (.mov (.tmp 114)), none, [8, 6, 5, 2, 0, 1, 3, 4, 9, 7]⟩]) (.seq (.ops true [⟨(some 116), (.call (.func 84) []), none, []⟩, ⟨(some 117), (.call (.func 86) []), none, [0]⟩, ⟨(some 118), (.lit true 1 2 (.full []) [(0, (.tmp 116)), (1, (.tmp 117))]), none, [0, 1]⟩, ⟨(some 119), (.load (some 3) (.tmp 1)), none, []⟩, ⟨(some 120), (.call (.func 85) []), none, [1, 0]⟩, ⟨(some 121), (.call (.func 33) [(.tmp 118), (.tmp 119), (.tmp 120)]), none, [2, 0, 1, 3, 4]⟩, ⟨(some 115), (.mov (.tmp 121)), none, [5, 2, 0, 1, 3, 4]⟩, ⟨(some 122), (.extract (.tmp 115) 0), none, [6, 5, 2, 0, 1, 3, 4]⟩, ⟨(some 123), (.extract (.tmp 115) 1), none, [6, 5, 2, 0, 1, 3, 4]⟩, ⟨(some 19), (.mov (.tmp 122)), none, [7, 6, 5, 2, 0, 1, 3, 4]⟩, ⟨(some 20), (.mov (.tmp 123)), none, [8, 6, 5, 2, 0, 1, 3, 4, 9, 7]⟩]) (.seq (.ops true [⟨(some 125), (.call (.func 84) []), none, []⟩, ⟨(some 126), (.lit true 1 1 (.full []) [(0, (.tmp 125))]), none, [0]⟩, ⟨(some 127), (.load (some 3) (.tmp 1)), none, []⟩, ⟨(some 128), (.call (.func 85) []), none, [0]⟩, ⟨(some 129), (.lit true 4 1 (.agg [(.int .i64 0), (.int .i64 0), (.int .i64 0), (.int .i64 0)]) [(0, (.tmp 128))]), none, [3, 0]⟩, ⟨(some 130), (.call (.func 34) [(.tmp 126), (.tmp 127), (.tmp 129)]), none, [1, 0, 2, 4, 3]⟩, ⟨(some 124), (.mov (.tmp 130)), none, [5, 1, 0, 2, 4, 3]⟩, ⟨(some 131), (.extract (.tmp 124) 0), none, [6, 5, 1, 0, 2, 4, 3]⟩, ⟨(some 132), (.extract (.tmp 124) 1), none, [6, 5, 1, 0, 2, 4, 3]⟩, ⟨(some 21), (.mov (.tmp 131)), none, [7, 6, 5, 1, 0, 2, 4, 3]⟩, ⟨(some 22), (.mov (.tmp 132)), none, [8, 6, 5, 1, 0, 2, 4, 3, 9, 7]⟩]) (.seq (.ops true [⟨(some 134), (.call (.func 84) []), none, []⟩, ⟨(some 135), (.call (.func 86) []), none, [0]⟩, ⟨(some 136), (.lit true 1 2 (.full []) [(0, (.tmp 134)), (1, (.tmp 135))]), none, [0, 1]⟩, ⟨(some 137), (.load (some 3) (.tmp 1)), none, []⟩, ⟨(some 138), (.call (.func 81) [(.const (.int .i64 3)), (.const (.int .i64 1))]), none, [1, 0]⟩, ⟨(some 139), (.call (.func 18) [(.tmp 136), (.tmp 137), (.tmp 138)]), none, [2, 0, 1, 3, 4]⟩, ⟨(some 133), (.mov (.tmp 139)), none, [5, 2, 0, 1, 3, 4]⟩, ⟨(some 140), (.extract (.tmp 133) 0), none, [6, 5, 2, 0, 1, 3, 4]⟩, ⟨(some 141), (.extract (.tmp 133) 1), none, [6, 5, 2, 0, 1, 3, 4]⟩, ⟨(some 23), (.mov (.tmp 140)), none, [7, 6, 5, 2, 0, 1, 3, 4]⟩, ⟨(some 24), (.mov (.tmp 141)), none, [8, 6, 5, 2, 0, 1, 3, 4, 9, 7]⟩]) (.seq (.seq (.ops true [⟨(some 142), (.mov (.tmp 4)), none, []⟩, ⟨(some 143), (.mov (.tmp 6)), none, []⟩, ⟨(some 144), (.bin .add (.tmp 142) (.tmp 143)), none, [0, 1]⟩, ⟨(some 145), (.mov (.tmp 8)), none, []⟩, ⟨(some 146), (.bin .add (.tmp 144) (.tmp 145)), none, [2, 0, 1, 3]⟩, ⟨(some 147), (.mov (.tmp 10)), none, []⟩, ⟨(some 148), (.bin .add (.tmp 146) (.tmp 147)), none, [4, 2, 0, 1, 3, 5]⟩, ⟨(some 149), (.mov (.tmp 12)), none, []⟩, ⟨(some 150), (.bin .add (.tmp 148) (.tmp 149)), none, [6, 4, 2, 0, 1, 3, 5, 7]⟩, ⟨(some 151), (.mov (.tmp 14)), none, []⟩, ⟨(some 152), (.bin .add (.tmp 150) (.tmp 151)), none, [8, 6, 4, 2, 0, 1, 3, 5, 7, 9]⟩, ⟨(some 153), (.mov (.tmp 16)), none, []⟩, ⟨(some 154), (.bin .add (.tmp 152) (.tmp 153)), none, [10, 8, 6, 4, 2, 0, 1, 3, 5, 7, 9, 11]⟩, ⟨(some 155), (.mov (.tmp 18)), none, []⟩, ⟨(some 156), (.bin .add (.tmp 154) (.tmp 155)), none, [12, 10, 8, 6, 4, 2, 0, 1, 3, 5, 7, 9, 11, 13]⟩, ⟨(some 157), (.mov (.tmp 20)), none, []⟩, ⟨(some 158), (.bin .add (.tmp 156) (.tmp 157)), none, [14, 12, 10, 8, 6, 4, 2, 0, 1, 3, 5, 7, 9, 11, 13, 15]⟩, ⟨(some 159), (.mov (.tmp 22)), none, []⟩, ⟨(some 160), (.bin .add (.tmp 158) (.tmp 159)), none, [16, 14, 12, 10, 8, 6, 4, 2, 0, 1, 3, 5, 7, 9, 11, 13, 15, 17]⟩, ⟨(some 161), (.mov (.tmp 24)), none, []⟩, ⟨(some 162), (.bin .add (.tmp 160) (.tmp 161)), none, [18, 16, 14, 12, 10, 8, 6, 4, 2, 0, 1, 3, 5, 7, 9, 11, 13, 15, 17, 19]⟩, ⟨(some 163), (.bin .neq (.tmp 162) (.const (.int .i64 0))), none, [20, 18, 16, 14, 12, 10, 8, 6, 4, 2, 0, 1, 3, 5, 7, 9, 11, 13, 15, 17, 19]⟩, ⟨(some 164), (.mov (.tmp 163)), none, [21, 20, 18, 16, 14, 12, 10, 8, 6, 4, 2, 0, 1, 3, 5, 7, 9, 11, 13, 15, 17, 19]⟩, ⟨(some 165), (.mov (.tmp 3)), (some (164, false)), [22, 21, 20, 18, 16, 14, 12, 10, 8, 6, 4, 2, 0, 1, 3, 5, 7, 9, 11, 13, 15, 17, 19]⟩, ⟨(some 166), (.un .not (.tmp 165)), (some (164, false)), [23, 22, 21, 20, 18, 16, 14, 12, 10, 8, 6, 4, 2, 0, 1, 3, 5, 7, 9, 11, 13, 15, 17, 19]⟩, ⟨(some 167), (.pick (.tmp 164) (.const (.bool true)) (.tmp 166)), none, [22, 21, 20, 18, 16, 14, 12, 10, 8, 6, 4, 2, 0, 1, 3, 5, 7, 9, 11, 13, 15, 17, 19, 24, 23]⟩, ⟨(some 168), (.mov (.tmp 167)), none, [25, 22, 21, 20, 18, 16, 14, 12, 10, 8, 6, 4, 2, 0, 1, 3, 5, 7, 9, 11, 13, 15, 17, 19, 24, 23]⟩, ⟨(some 169), (.mov (.tmp 5)), (some (168, false)), [26, 25, 22, 21, 20, 18, 16, 14, 12, 10, 8, 6, 4, 2, 0, 1, 3, 5, 7, 9, 11, 13, 15, 17, 19, 24, 23]⟩, ⟨(some 170), (.pick (.tmp 168) (.const (.bool true)) (.tmp 169)), none, [26, 25, 22, 21, 20, 18, 16, 14, 12, 10, 8, 6, 4, 2, 0, 1, 3, 5, 7, 9, 11, 13, 15, 17, 19, 24, 23, 27]⟩, ⟨(some 171), (.mov (.tmp 170)), none, [28, 26, 25, 22, 21, 20, 18, 16, 14, 12, 10, 8, 6, 4, 2, 0, 1, 3, 5, 7, 9, 11, 13, 15, 17, 19, 24, 23, 27]⟩, ⟨(some 172), (.mov (.tmp 7)), (some (171, false)), [29, 28, 26, 25, 22, 21, 20, 18, 16, 14, 12, 10, 8, 6, 4, 2, 0, 1, 3, 5, 7, 9, 11, 13, 15, 17, 19, 24, 23, 27]⟩, ⟨(some 173), (.pick (.tmp 171) (.const (.bool true)) (.tmp 172)), none, [29, 28, 26, 25, 22, 21, 20, 18, 16, 14, 12, 10, 8, 6, 4, 2, 0, 1, 3, 5, 7, 9, 11, 13, 15, 17, 19, 24, 23, 27, 30]⟩, ⟨(some 174), (.mov (.tmp 173)), none, [31, 29, 28, 26, 25, 22, 21, 20, 18, 16, 14, 12, 10, 8, 6, 4, 2, 0, 1, 3, 5, 7, 9, 11, 13, 15, 17, 19, 24, 23, 27, 30]⟩, ⟨(some 175), (.mov (.tmp 9)), (some (174, false)), [32, 31, 29, 28, 26, 25, 22, 21, 20, 18, 16, 14, 12, 10, 8, 6, 4, 2, 0, 1, 3, 5, 7, 9, 11, 13, 15, 17, 19, 24, 23, 27, 30]⟩, ⟨(some 176), (.un .not (.tmp 175)), (some (174, false)), [33, 32, 31, 29, 28, 26, 25, 22, 21, 20, 18, 16, 14, 12, 10, 8, 6, 4, 2, 0, 1, 3, 5, 7, 9, 11, 13, 15, 17, 19, 24, 23, 27, 30]⟩, ⟨(some 177), (.pick (.tmp 174) (.const (.bool true)) (.tmp 176)), none, [32, 31, 29, 28, 26, 25, 22, 21, 20, 18, 16, 14, 12, 10, 8, 6, 4, 2, 0, 1, 3, 5, 7, 9, 11, 13, 15, 17, 19, 24, 23, 27, 30, 34, 33]⟩, ⟨(some 178), (.mov (.tmp 177)), none, [35, 32, 31, 29, 28, 26, 25, 22, 21, 20, 18, 16, 14, 12, 10, 8, 6, 4, 2, 0, 1, 3, 5, 7, 9, 11, 13, 15, 17, 19, 24, 23, 27, 30, 34, 33]⟩, ⟨(some 179), (.mov (.tmp 11)), (some (178, false)), [36, 35, 32, 31, 29, 28, 26, 25, 22, 21, 20, 18, 16, 14, 12, 10, 8, 6, 4, 2, 0, 1, 3, 5, 7, 9, 11, 13, 15, 17, 19, 24, 23, 27, 30, 34, 33]⟩, ⟨(some 180), (.pick (.tmp 178) (.const (.bool true)) (.tmp 179)), none, [36, 35, 32, 31, 29, 28, 26, 25, 22, 21, 20, 18, 16, 14, 12, 10, 8, 6, 4, 2, 0, 1, 3, 5, 7, 9, 11, 13, 15, 17, 19, 24, 23, 27, 30, 34, 33, 37]⟩, ⟨(some 181), (.mov (.tmp 180)), none, [38, 36, 35, 32, 31, 29, 28, 26, 25, 22, 21, 20, 18, 16, 14, 12, 10, 8, 6, 4, 2, 0, 1, 3, 5, 7, 9, 11, 13, 15, 17, 19, 24, 23, 27, 30, 34, 33, 37]⟩, ⟨(some 182), (.mov (.tmp 13)), (some (181, false)), [39, 38, 36, 35, 32, 31, 29, 28, 26, 25, 22, 21, 20, 18, 16, 14, 12, 10, 8, 6, 4, 2, 0, 1, 3, 5, 7, 9, 11, 13, 15, 17, 19, 24, 23, 27, 30, 34, 33, 37]⟩, ⟨(some 183), (.len (.tmp 182)), (some (181, false)), [40, 39, 38, 36, 35, 32, 31, 29, 28, 26, 25, 22, 21, 20, 18, 16, 14, 12, 10, 8, 6, 4, 2, 0, 1, 3, 5, 7, 9, 11, 13, 15, 17, 19, 24, 23, 27, 30, 34, 33, 37]⟩, ⟨(some 184), (.bin .neq (.tmp 183) (.const (.int .i64 20))), (some (181, false)), [41, 40, 39, 38, 36, 35, 32, 31, 29, 28, 26, 25, 22, 21, 20, 18, 16, 14, 12, 10, 8, 6, 4, 2, 0, 1, 3, 5, 7, 9, 11, 13, 15, 17, 19, 24, 23, 27, 30, 34, 33, 37]⟩, ⟨(some 185), (.pick (.tmp 181) (.const (.bool true)) (.tmp 184)), none, [39, 38, 36, 35, 32, 31, 29, 28, 26, 25, 22, 21, 20, 18, 16, 14, 12, 10, 8, 6, 4, 2, 0, 1, 3, 5, 7, 9, 11, 13, 15, 17, 19, 24, 23, 27, 30, 34, 33, 37, 42, 41, 40]⟩, ⟨(some 186), (.mov (.tmp 185)), none, [43, 39, 38, 36, 35, 32, 31, 29, 28, 26, 25, 22, 21, 20, 18, 16, 14, 12, 10, 8, 6, 4, 2, 0, 1, 3, 5, 7, 9, 11, 13, 15, 17, 19, 24, 23, 27, 30, 34, 33, 37, 42, 41, 40]⟩, ⟨(some 187), (.mov (.tmp 13)), (some (186, false)), [44, 43, 39, 38, 36, 35, 32, 31, 29, 28, 26, 25, 22, 21, 20, 18, 16, 14, 12, 10, 8, 6, 4, 2, 0, 1, 3, 5, 7, 9, 11, 13, 15, 17, 19, 24, 23, 27, 30, 34, 33, 37, 42, 41, 40]⟩, ⟨(some 188), (.iaddr 2 (.tmp 187) (.const (.int .i64 0))), (some (186, false)), [45, 44, 43, 39, 38, 36, 35, 32, 31, 29, 28, 26, 25, 22, 21, 20, 18, 16, 14, 12, 10, 8, 6, 4, 2, 0, 1, 3, 5, 7, 9, 11, 13, 15, 17, 19, 24, 23, 27, 30, 34, 33, 37, 42, 41, 40]⟩, ⟨(some 189), (.load (some 2) (.tmp 188)), (some (186, false)), [46, 45, 44, 43, 39, 38, 36, 35, 32, 31, 29, 28, 26, 25, 22, 21, 20, 18, 16, 14, 12, 10, 8, 6, 4, 2, 0, 1, 3, 5, 7, 9, 11, 13, 15, 17, 19, 24, 23, 27, 30, 34, 33, 37, 42, 41, 40]⟩, ⟨(some 190), (.call (.func 81) [(.const (.int .i64 0)), (.const (.int .i64 1))]), (some (186, false)), [44, 43, 39, 38, 36, 35, 32, 31, 29, 28, 26, 25, 22, 21, 20, 18, 16, 14, 12, 10, 8, 6, 4, 2, 0, 1, 3, 5, 7, 9, 11, 13, 15, 17, 19, 24, 23, 27, 30, 34, 33, 37, 42, 41, 40]⟩, ⟨(some 191), (.eqA true [1, 1] (.tmp 189) (.tmp 190)), (some (186, false)), [47, 46, 45, 44, 43, 39, 38, 36, 35, 32, 31, 29, 28, 26, 25, 22, 21, 20, 18, 16, 14, 12, 10, 8, 6, 4, 2, 0, 1, 3, 5, 7, 9, 11, 13, 15, 17, 19, 24, 23, 27, 30, 34, 33, 37, 42, 41, 40, 48]⟩, ⟨(some 192), (.pick (.tmp 186) (.const (.bool true)) (.tmp 191)), none, [44, 43, 39, 38, 36, 35, 32, 31, 29, 28, 26, 25, 22, 21, 20, 18, 16, 14, 12, 10, 8, 6, 4, 2, 0, 1, 3, 5, 7, 9, 11, 13, 15, 17, 19, 24, 23, 27, 30, 34, 33, 37, 42, 41, 40, 49, 47, 46, 45, 48]⟩, ⟨(some 193), (.mov (.tmp 192)), none, [50, 44, 43, 39, 38, 36, 35, 32, 31, 29, 28, 26, 25, 22, 21, 20, 18, 16, 14, 12, 10, 8, 6, 4, 2, 0, 1, 3, 5, 7, 9, 11, 13, 15, 17, 19, 24, 23, 27, 30, 34, 33, 37, 42, 41, 40, 49, 47, 46, 45, 48]⟩, ⟨(some 194), (.mov (.tmp 15)), (some (193, false)), [51, 50, 44, 43, 39, 38, 36, 35, 32, 31, 29, 28, 26, 25, 22, 21, 20, 18, 16, 14, 12, 10, 8, 6, 4, 2, 0, 1, 3, 5, 7, 9, 11, 13, 15, 17, 19, 24, 23, 27, 30, 34, 33, 37, 42, 41, 40, 49, 47, 46, 45, 48]⟩, ⟨(some 195), (.lit true 1 2 (.int .i64 0) [(0, (.const (.int .i64 20))), (1, (.const (.int .i64 2)))]), (some (193, false)), [51, 50, 44, 43, 39, 38, 36, 35, 32, 31, 29, 28, 26, 25, 22, 21, 20, 18, 16, 14, 12, 10, 8, 6, 4, 2, 0, 1, 3, 5, 7, 9, 11, 13, 15, 17, 19, 24, 23, 27, 30, 34, 33, 37, 42, 41, 40, 49, 47, 46, 45, 48]⟩, ⟨(some 196), (.call (.func 29) [(.tmp 194), (.tmp 195)]), (some (193, false)), [52, 51, 50, 44, 43, 39, 38, 36, 35, 32, 31, 29, 28, 26, 25, 22, 21, 20, 18, 16, 14, 12, 10, 8, 6, 4, 2, 0, 1, 3, 5, 7, 9, 11, 13, 15, 17, 19, 24, 23, 27, 30, 34, 33, 37, 42, 41, 40, 49, 47, 46, 45, 48, 53]⟩, ⟨(some 197), (.un .not (.tmp 196)), (some (193, false)), [54, 52, 51, 50, 44, 43, 39, 38, 36, 35, 32, 31, 29, 28, 26, 25, 22, 21, 20, 18, 16, 14, 12, 10, 8, 6, 4, 2, 0, 1, 3, 5, 7, 9, 11, 13, 15, 17, 19, 24, 23, 27, 30, 34, 33, 37, 42, 41, 40, 49, 47, 46, 45, 48, 53]⟩, ⟨(some 198), (.pick (.tmp 193) (.const (.bool true)) (.tmp 197)), none, [51, 50, 44, 43, 39, 38, 36, 35, 32, 31, 29, 28, 26, 25, 22, 21, 20, 18, 16, 14, 12, 10, 8, 6, 4, 2, 0, 1, 3, 5, 7, 9, 11, 13, 15, 17, 19, 24, 23, 27, 30, 34, 33, 37, 42, 41, 40, 49, 47, 46, 45, 48, 55, 54, 52, 53]⟩, ⟨(some 199), (.mov (.tmp 198)), none, [56, 51, 50, 44, 43, 39, 38, 36, 35, 32, 31, 29, 28, 26, 25, 22, 21, 20, 18, 16, 14, 12, 10, 8, 6, 4, 2, 0, 1, 3, 5, 7, 9, 11, 13, 15, 17, 19, 24, 23, 27, 30, 34, 33, 37, 42, 41, 40, 49, 47, 46, 45, 48, 55, 54, 52, 53]⟩, ⟨(some 200), (.mov (.tmp 17)), (some (199, false)), [57, 56, 51, 50, 44, 43, 39, 38, 36, 35, 32, 31, 29, 28, 26, 25, 22, 21, 20, 18, 16, 14, 12, 10, 8, 6, 4, 2, 0, 1, 3, 5, 7, 9, 11, 13, 15, 17, 19, 24, 23, 27, 30, 34, 33, 37, 42, 41, 40, 49, 47, 46, 45, 48, 55, 54, 52, 53]⟩, ⟨(some 201), (.lit true 1 2 (.int .i64 0) [(0, (.const (.int .i64 8))), (1, (.const (.int .i64 14)))]), (some (199, false)), [57, 56, 51, 50, 44, 43, 39, 38, 36, 35, 32, 31, 29, 28, 26, 25, 22, 21, 20, 18, 16, 14, 12, 10, 8, 6, 4, 2, 0, 1, 3, 5, 7, 9, 11, 13, 15, 17, 19, 24, 23, 27, 30, 34, 33, 37, 42, 41, 40, 49, 47, 46, 45, 48, 55, 54, 52, 53]⟩, ⟨(some 202), (.call (.func 29) [(.tmp 200), (.tmp 201)]), (some (199, false)), [58, 57, 56, 51, 50, 44, 43, 39, 38, 36, 35, 32, 31, 29, 28, 26, 25, 22, 21, 20, 18, 16, 14, 12, 10, 8, 6, 4, 2, 0, 1, 3, 5, 7, 9, 11, 13, 15, 17, 19, 24, 23, 27, 30, 34, 33, 37, 42, 41, 40, 49, 47, 46, 45, 48, 55, 54, 52, 53, 59]⟩, ⟨(some 203), (.un .not (.tmp 202)), (some (199, false)), [60, 58, 57, 56, 51, 50, 44, 43, 39, 38, 36, 35, 32, 31, 29, 28, 26, 25, 22, 21, 20, 18, 16, 14, 12, 10, 8, 6, 4, 2, 0, 1, 3, 5, 7, 9, 11, 13, 15, 17, 19, 24, 23, 27, 30, 34, 33, 37, 42, 41, 40, 49, 47, 46, 45, 48, 55, 54, 52, 53, 59]⟩, ⟨(some 204), (.pick (.tmp 199) (.const (.bool true)) (.tmp 203)), none, [57, 56, 51, 50, 44, 43, 39, 38, 36, 35, 32, 31, 29, 28, 26, 25, 22, 21, 20, 18, 16, 14, 12, 10, 8, 6, 4, 2, 0, 1, 3, 5, 7, 9, 11, 13, 15, 17, 19, 24, 23, 27, 30, 34, 33, 37, 42, 41, 40, 49, 47, 46, 45, 48, 55, 54, 52, 53, 61, 60, 58, 59]⟩, ⟨(some 205), (.mov (.tmp 204)), none, [62, 57, 56, 51, 50, 44, 43, 39, 38, 36, 35, 32, 31, 29, 28, 26, 25, 22, 21, 20, 18, 16, 14, 12, 10, 8, 6, 4, 2, 0, 1, 3, 5, 7, 9, 11, 13, 15, 17, 19, 24, 23, 27, 30, 34, 33, 37, 42, 41, 40, 49, 47, 46, 45, 48, 55, 54, 52, 53, 61, 60, 58, 59]⟩, ⟨(some 206), (.mov (.tmp 19)), (some (205, false)), [63, 62, 57, 56, 51, 50, 44, 43, 39, 38, 36, 35, 32, 31, 29, 28, 26, 25, 22, 21, 20, 18, 16, 14, 12, 10, 8, 6, 4, 2, 0, 1, 3, 5, 7, 9, 11, 13, 15, 17, 19, 24, 23, 27, 30, 34, 33, 37, 42, 41, 40, 49, 47, 46, 45, 48, 55, 54, 52, 53, 61, 60, 58, 59]⟩, ⟨(some 207), (.bin .neq (.tmp 206) (.const (.int .i64 14))), (some (205, false)), [64, 63, 62, 57, 56, 51, 50, 44, 43, 39, 38, 36, 35, 32, 31, 29, 28, 26, 25, 22, 21, 20, 18, 16, 14, 12, 10, 8, 6, 4, 2, 0, 1, 3, 5, 7, 9, 11, 13, 15, 17, 19, 24, 23, 27, 30, 34, 33, 37, 42, 41, 40, 49, 47, 46, 45, 48, 55, 54, 52, 53, 61, 60, 58, 59]⟩, ⟨(some 208), (.pick (.tmp 205) (.const (.bool true)) (.tmp 207)), none, [63, 62, 57, 56, 51, 50, 44, 43, 39, 38, 36, 35, 32, 31, 29, 28, 26, 25, 22, 21, 20, 18, 16, 14, 12, 10, 8, 6, 4, 2, 0, 1, 3, 5, 7, 9, 11, 13, 15, 17, 19, 24, 23, 27, 30, 34, 33, 37, 42, 41, 40, 49, 47, 46, 45, 48, 55, 54, 52, 53, 61, 60, 58, 59, 65, 64]⟩, ⟨(some 209), (.mov (.tmp 208)), none, [66, 63, 62, 57, 56, 51, 50, 44, 43, 39, 38, 36, 35, 32, 31, 29, 28, 26, 25, 22, 21, 20, 18, 16, 14, 12, 10, 8, 6, 4, 2, 0, 1, 3, 5, 7, 9, 11, 13, 15, 17, 19, 24, 23, 27, 30, 34, 33, 37, 42, 41, 40, 49, 47, 46, 45, 48, 55, 54, 52, 53, 61, 60, 58, 59, 65, 64]⟩, ⟨(some 210), (.mov (.tmp 21)), (some (209, false)), [67, 66, 63, 62, 57, 56, 51, 50, 44, 43, 39, 38, 36, 35, 32, 31, 29, 28, 26, 25, 22, 21, 20, 18, 16, 14, 12, 10, 8, 6, 4, 2, 0, 1, 3, 5, 7, 9, 11, 13, 15, 17, 19, 24, 23, 27, 30, 34, 33, 37, 42, 41, 40, 49, 47, 46, 45, 48, 55, 54, 52, 53, 61, 60, 58, 59, 65, 64]⟩, ⟨(some 211), (.call (.func 87) [(.const (.int .i64 4)), (.const (.int .i64 9))]), (some (209, false)), [67, 66, 63, 62, 57, 56, 51, 50, 44, 43, 39, 38, 36, 35, 32, 31, 29, 28, 26, 25, 22, 21, 20, 18, 16, 14, 12, 10, 8, 6, 4, 2, 0, 1, 3, 5, 7, 9, 11, 13, 15, 17, 19, 24, 23, 27, 30, 34, 33, 37, 42, 41, 40, 49, 47, 46, 45, 48, 55, 54, 52, 53, 61, 60, 58, 59, 65, 64]⟩, ⟨(some 212), (.lit true 2 1 (.agg [(.int .i64 0), (.int .i64 0)]) [(0, (.tmp 211))]), (some (209, false)), [69, 67, 66, 63, 62, 57, 56, 51, 50, 44, 43, 39, 38, 36, 35, 32, 31, 29, 28, 26, 25, 22, 21, 20, 18, 16, 14, 12, 10, 8, 6, 4, 2, 0, 1, 3, 5, 7, 9, 11, 13, 15, 17, 19, 24, 23, 27, 30, 34, 33, 37, 42, 41, 40, 49, 47, 46, 45, 48, 55, 54, 52, 53, 61, 60, 58, 59, 65, 64]⟩, ⟨(some 213), (.call (.func 44) [(.tmp 210), (.tmp 212)]), (some (209, false)), [68, 67, 66, 63, 62, 57, 56, 51, 50, 44, 43, 39, 38, 36, 35, 32, 31, 29, 28, 26, 25, 22, 21, 20, 18, 16, 14, 12, 10, 8, 6, 4, 2, 0, 1, 3, 5, 7, 9, 11, 13, 15, 17, 19, 24, 23, 27, 30, 34, 33, 37, 42, 41, 40, 49, 47, 46, 45, 48, 55, 54, 52, 53, 61, 60, 58, 59, 65, 64, 70, 69]⟩, ⟨(some 214), (.un .not (.tmp 213)), (some (209, false)), [71, 68, 67, 66, 63, 62, 57, 56, 51, 50, 44, 43, 39, 38, 36, 35, 32, 31, 29, 28, 26, 25, 22, 21, 20, 18, 16, 14, 12, 10, 8, 6, 4, 2, 0, 1, 3, 5, 7, 9, 11, 13, 15, 17, 19, 24, 23, 27, 30, 34, 33, 37, 42, 41, 40, 49, 47, 46, 45, 48, 55, 54, 52, 53, 61, 60, 58, 59, 65, 64, 70, 69]⟩, ⟨(some 215), (.pick (.tmp 209) (.const (.bool true)) (.tmp 214)), none, [67, 66, 63, 62, 57, 56, 51, 50, 44, 43, 39, 38, 36, 35, 32, 31, 29, 28, 26, 25, 22, 21, 20, 18, 16, 14, 12, 10, 8, 6, 4, 2, 0, 1, 3, 5, 7, 9, 11, 13, 15, 17, 19, 24, 23, 27, 30, 34, 33, 37, 42, 41, 40, 49, 47, 46, 45, 48, 55, 54, 52, 53, 61, 60, 58, 59, 65, 64, 72, 71, 68, 70, 69]⟩, ⟨(some 216), (.mov (.tmp 215)), none, [73, 67, 66, 63, 62, 57, 56, 51, 50, 44, 43, 39, 38, 36, 35, 32, 31, 29, 28, 26, 25, 22, 21, 20, 18, 16, 14, 12, 10, 8, 6, 4, 2, 0, 1, 3, 5, 7, 9, 11, 13, 15, 17, 19, 24, 23, 27, 30, 34, 33, 37, 42, 41, 40, 49, 47, 46, 45, 48, 55, 54, 52, 53, 61, 60, 58, 59, 65, 64, 72, 71, 68, 70, 69]⟩, ⟨(some 217), (.mov (.tmp 23)), (some (216, false)), [74, 73, 67, 66, 63, 62, 57, 56, 51, 50, 44, 43, 39, 38, 36, 35, 32, 31, 29, 28, 26, 25, 22, 21, 20, 18, 16, 14, 12, 10, 8, 6, 4, 2, 0, 1, 3, 5, 7, 9, 11, 13, 15, 17, 19, 24, 23, 27, 30, 34, 33, 37, 42, 41, 40, 49, 47, 46, 45, 48, 55, 54, 52, 53, 61, 60, 58, 59, 65, 64, 72, 71, 68, 70, 69]⟩, ⟨(some 218), (.lit true 1 2 (.int .i64 0) [(0, (.const (.int .i64 0))), (1, (.const (.int .i64 1)))]), (some (216, false)), [74, 73, 67, 66, 63, 62, 57, 56, 51, 50, 44, 43, 39, 38, 36, 35, 32, 31, 29, 28, 26, 25, 22, 21, 20, 18, 16, 14, 12, 10, 8, 6, 4, 2, 0, 1, 3, 5, 7, 9, 11, 13, 15, 17, 19, 24, 23, 27, 30, 34, 33, 37, 42, 41, 40, 49, 47, 46, 45, 48, 55, 54, 52, 53, 61, 60, 58, 59, 65, 64, 72, 71, 68, 70, 69]⟩, ⟨(some 219), (.call (.func 29) [(.tmp 217), (.tmp 218)]), (some (216, false)), [75, 74, 73, 67, 66, 63, 62, 57, 56, 51, 50, 44, 43, 39, 38, 36, 35, 32, 31, 29, 28, 26, 25, 22, 21, 20, 18, 16, 14, 12, 10, 8, 6, 4, 2, 0, 1, 3, 5, 7, 9, 11, 13, 15, 17, 19, 24, 23, 27, 30, 34, 33, 37, 42, 41, 40, 49, 47, 46, 45, 48, 55, 54, 52, 53, 61, 60, 58, 59, 65, 64, 72, 71, 68, 70, 69, 76]⟩, ⟨(some 220), (.un .not (.tmp 219)), (some (216, false)), [77, 75, 74, 73, 67, 66, 63, 62, 57, 56, 51, 50, 44, 43, 39, 38, 36, 35, 32, 31, 29, 28, 26, 25, 22, 21, 20, 18, 16, 14, 12, 10, 8, 6, 4, 2, 0, 1, 3, 5, 7, 9, 11, 13, 15, 17, 19, 24, 23, 27, 30, 34, 33, 37, 42, 41, 40, 49, 47, 46, 45, 48, 55, 54, 52, 53, 61, 60, 58, 59, 65, 64, 72, 71, 68, 70, 69, 76]⟩, ⟨(some 221), (.pick (.tmp 216) (.const (.bool true)) (.tmp 220)), none, [74, 73, 67, 66, 63, 62, 57, 56, 51, 50, 44, 43, 39, 38, 36, 35, 32, 31, 29, 28, 26, 25, 22, 21, 20, 18, 16, 14, 12, 10, 8, 6, 4, 2, 0, 1, 3, 5, 7, 9, 11, 13, 15, 17, 19, 24, 23, 27, 30, 34, 33, 37, 42, 41, 40, 49, 47, 46, 45, 48, 55, 54, 52, 53, 61, 60, 58, 59, 65, 64, 72, 71, 68, 70, 69, 78, 77, 75, 76]⟩]) (.cond (.tmp 221) (.seq (.ops false [⟨(some 0), (.mov (.const (.bool false))), none, []⟩]) .ret) .skip)) (.seq (.ops true [⟨(some 223), (.call (.func 84) []), none, []⟩, ⟨(some 224), (.load (some 3) (.tmp 2)), none, []⟩, ⟨(some 225), (.call (.func 45) [(.tmp 223), (.tmp 224)]), none, [0, 1]⟩, ⟨(some 222), (.mov (.tmp 225)), none, [2, 0, 1]⟩, ⟨(some 226), (.extract (.tmp 222) 0), none, [3, 2, 0, 1]⟩, ⟨(some 227), (.extract (.tmp 222) 1), none, [3, 2, 0, 1]⟩, ⟨(some 25), (.mov (.tmp 226)), none, [4, 3, 2, 0, 1]⟩, ⟨(some 26), (.mov (.tmp 227)), none, [5, 3, 2, 0, 1, 6, 4]⟩]) (.seq (.ops true [⟨(some 229), (.call (.func 84) []), none, []⟩, ⟨(some 230), (.load (some 3) (.tmp 1)), none, []⟩, ⟨(some 231), (.call (.func 46) [(.tmp 229), (.tmp 230)]), none, [0, 1]⟩, ⟨(some 228), (.mov (.tmp 231)), none, [2, 0, 1]⟩, ⟨(some 232), (.extract (.tmp 228) 0), none, [3, 2, 0, 1]⟩, ⟨(some 233), (.extract (.tmp 228) 1), none, [3, 2, 0, 1]⟩, ⟨(some 27), (.alloc (.agg [(.int .i64 0), (.int .i64 0)]) 2), none, []⟩, ⟨none, (.store 2 (.tmp 27) (.tmp 232)), none, [6, 4, 3, 2, 0, 1]⟩, ⟨(some 28), (.mov (.tmp 233)), none, [5, 3, 2, 0, 1, 7, 6, 4]⟩]) (.seq (.ops true [⟨(some 235), (.call (.func 84) []), none, []⟩, ⟨(some 236), (.load (some 3) (.tmp 2)), none, []⟩, ⟨(some 237), (.call (.func 46) [(.tmp 235), (.tmp 236)]), none, [0, 1]⟩, ⟨(some 234), (.mov (.tmp 237)), none, [2, 0, 1]⟩, ⟨(some 238), (.extract (.tmp 234) 0), none, [3, 2, 0, 1]⟩, ⟨(some 239), (.extract (.tmp 234) 1), none, [3, 2, 0, 1]⟩, ⟨(some 29), (.alloc (.agg [(.int .i64 0), (.int .i64 0)]) 2), none, []⟩, ⟨none, (.store 2 (.tmp 29) (.tmp 238)), none, [6, 4, 3, 2, 0, 1]⟩, ⟨(some 30), (.mov (.tmp 239)), none, [5, 3, 2, 0, 1, 7, 6, 4]⟩]) (.seq (.seq (.ops true [⟨(some 240), (.mov (.tmp 26)), none, []⟩, ⟨(some 241), (.mov (.tmp 28)), none, []⟩, ⟨(some 242), (.bin .add (.tmp 240) (.tmp 241)), none, [0, 1]⟩, ⟨(some 243), (.mov (.tmp 30)), none, []⟩, ⟨(some 244), (.bin .add (.tmp 242) (.tmp 243)), none, [2, 0, 1, 3]⟩, ⟨(some 245), (.bin .neq (.tmp 244) (.const (.int .i64 0))), none, [4, 2, 0, 1, 3]⟩, ⟨(some 246), (.mov (.tmp 245)), none, [5, 4, 2, 0, 1, 3]⟩, ⟨(some 247), (.mov (.tmp 25)), (some (246, false)), [6, 5, 4, 2, 0, 1, 3]⟩, ⟨(some 248), (.len (.tmp 247)), (some (246, false)), [7, 6, 5, 4, 2, 0, 1, 3]⟩, ⟨(some 249), (.bin .neq (.tmp 248) (.const (.int .i64 4))), (some (246, false)), [8, 7, 6, 5, 4, 2, 0, 1, 3]⟩, ⟨(some 250), (.pick (.tmp 246) (.const (.bool true)) (.tmp 249)), none, [6, 5, 4, 2, 0, 1, 3, 9, 8, 7]⟩, ⟨(some 251), (.mov (.tmp 250)), none, [10, 6, 5, 4, 2, 0, 1, 3, 9, 8, 7]⟩, ⟨(some 252), (.mov (.tmp 25)), (some (251, false)), [11, 10, 6, 5, 4, 2, 0, 1, 3, 9, 8, 7]⟩, ⟨(some 253), (.iaddr 4 (.tmp 252) (.const (.int .i64 2))), (some (251, false)), [12, 11, 10, 6, 5, 4, 2, 0, 1, 3, 9, 8, 7]⟩, ⟨(some 254), (.load (some 4) (.tmp 253)), (some (251, false)), [13, 12, 11, 10, 6, 5, 4, 2, 0, 1, 3, 9, 8, 7]⟩, ⟨(some 255), (.call (.func 87) [(.const (.int .i64 2)), (.const (.int .i64 1))]), (some (251, false)), [11, 10, 6, 5, 4, 2, 0, 1, 3, 9, 8, 7]⟩, ⟨(some 256), (.call (.func 87) [(.const (.int .i64 2)), (.const (.int .i64 1))]), (some (251, false)), [15, 11, 10, 6, 5, 4, 2, 0, 1, 3, 9, 8, 7]⟩, ⟨(some 257), (.build [(.int .i64 0), (.int .i64 0), (.int .i64 0), (.int .i64 0)] [(0, (2, (.tmp 255))), (2, (2, (.tmp 256)))]), (some (251, false)), [15, 11, 10, 6, 5, 4, 2, 0, 1, 3, 9, 8, 7, 16]⟩, ⟨(some 258), (.eqA true [1, 1, 1, 1] (.tmp 254) (.tmp 257)), (some (251, false)), [14, 13, 12, 11, 10, 6, 5, 4, 2, 0, 1, 3, 9, 8, 7, 17, 15, 16]⟩, ⟨(some 259), (.pick (.tmp 251) (.const (.bool true)) (.tmp 258)), none, [11, 10, 6, 5, 4, 2, 0, 1, 3, 9, 8, 7, 18, 14, 13, 12, 17, 15, 16]⟩, ⟨(some 260), (.mov (.tmp 259)), none, [19, 11, 10, 6, 5, 4, 2, 0, 1, 3, 9, 8, 7, 18, 14, 13, 12, 17, 15, 16]⟩, ⟨(some 261), (.load (some 2) (.tmp 27)), (some (260, false)), [20, 19, 11, 10, 6, 5, 4, 2, 0, 1, 3, 9, 8, 7, 18, 14, 13, 12, 17, 15, 16]⟩, ⟨(some 262), (.call (.func 87) [(.const (.int .i64 16)), (.const (.int .i64 1))]), (some (260, false)), [20, 19, 11, 10, 6, 5, 4, 2, 0, 1, 3, 9, 8, 7, 18, 14, 13, 12, 17, 15, 16]⟩, ⟨(some 263), (.eqA true [1, 1] (.tmp 261) (.tmp 262)), (some (260, false)), [21, 20, 19, 11, 10, 6, 5, 4, 2, 0, 1, 3, 9, 8, 7, 18, 14, 13, 12, 17, 15, 16, 22]⟩, ⟨(some 264), (.pick (.tmp 260) (.const (.bool true)) (.tmp 263)), none, [20, 19, 11, 10, 6, 5, 4, 2, 0, 1, 3, 9, 8, 7, 18, 14, 13, 12, 17, 15, 16, 23, 21, 22]⟩, ⟨(some 265), (.mov (.tmp 264)), none, [24, 20, 19, 11, 10, 6, 5, 4, 2, 0, 1, 3, 9, 8, 7, 18, 14, 13, 12, 17, 15, 16, 23, 21, 22]⟩, ⟨(some 266), (.load (some 2) (.tmp 29)), (some (265, false)), [25, 24, 20, 19, 11, 10, 6, 5, 4, 2, 0, 1, 3, 9, 8, 7, 18, 14, 13, 12, 17, 15, 16, 23, 21, 22]⟩, ⟨(some 267), (.call (.func 87) [(.const (.int .i64 8)), (.const (.int .i64 1))]), (some (265, false)), [25, 24, 20, 19, 11, 10, 6, 5, 4, 2, 0, 1, 3, 9, 8, 7, 18, 14, 13, 12, 17, 15, 16, 23, 21, 22]⟩, ⟨(some 268), (.eqA true [1, 1] (.tmp 266) (.tmp 267)), (some (265, false)), [26, 25, 24, 20, 19, 11, 10, 6, 5, 4, 2, 0, 1, 3, 9, 8, 7, 18, 14, 13, 12, 17, 15, 16, 23, 21, 22, 27]⟩, ⟨(some 269), (.pick (.tmp 265) (.const (.bool true)) (.tmp 268)), none, [25, 24, 20, 19, 11, 10, 6, 5, 4, 2, 0, 1, 3, 9, 8, 7, 18, 14, 13, 12, 17, 15, 16, 23, 21, 22, 28, 26, 27]⟩]) (.cond (.tmp 269) (.seq (.ops false [⟨(some 0), (.mov (.const (.bool false))), none, []⟩]) .ret) .skip)) (.seq (.ops false [⟨(some 270), (.call (.func 82) [(.const (.int .i64 0)), (.const (.int .i64 3)), (.const (.int .i64 4))]), none, []⟩, ⟨(some 31), (.alloc (.agg [(.int .i64 0), (.int .i64 0), (.int .i64 0)]) 3), none, []⟩, ⟨none, (.store 3 (.tmp 31) (.tmp 270)), none, []⟩]) (.seq (.ops true [⟨(some 272), (.call (.func 81) [(.const (.int .i64 4)), (.const (.int .i64 (-3)))]), none, []⟩, ⟨(some 273), (.load (some 3) (.tmp 31)), none, []⟩, ⟨(some 274), (.call (.func 55) [(.tmp 272), (.tmp 273)]), none, [0, 1]⟩, ⟨(some 271), (.mov (.tmp 274)), none, [2, 0, 1]⟩, ⟨(some 275), (.extract (.tmp 271) 0), none, [3, 2, 0, 1]⟩, ⟨(some 276), (.extract (.tmp 271) 1), none, [3, 2, 0, 1]⟩, ⟨(some 32), (.mov (.tmp 275)), none, [4, 3, 2, 0, 1]⟩, ⟨(some 33), (.mov (.tmp 276)), none, [5, 3, 2, 0, 1, 6, 4]⟩]) (.seq (.ops true [⟨(some 278), (.call (.func 81) [(.const (.int .i64 12)), (.const (.int .i64 0))]), none, []⟩, ⟨(some 279), (.load (some 3) (.tmp 31)), none, []⟩, ⟨(some 280), (.call (.func 56) [(.tmp 278), (.tmp 279)]), none, [0, 1]⟩, ⟨(some 277), (.mov (.tmp 280)), none, [2, 0, 1]⟩, ⟨(some 281), (.extract (.tmp 277) 0), none, [3, 2, 0, 1]⟩, ⟨(some 282), (.extract (.tmp 277) 1), none, [3, 2, 0, 1]⟩, ⟨(some 34), (.mov (.tmp 281)), none, [4, 3, 2, 0, 1]⟩, ⟨(some 35), (.mov (.tmp 282)), none, [5, 3, 2, 0, 1, 6, 4]⟩]) (.seq (.ops true [⟨(some 284), (.call (.func 81) [(.const (.int .i64 3)), (.const (.int .i64 (-4)))]), none, []⟩, ⟨(some 285), (.call (.func 81) [(.const (.int .i64 12)), (.const (.int .i64 0))]), none, [0]⟩, ⟨(some 286), (.load (some 3) (.tmp 31)), none, []⟩, ⟨(some 287), (.call (.func 57) [(.tmp 284), (.tmp 285), (.tmp 286)]), none, [0, 1, 2]⟩, ⟨(some 283), (.mov (.tmp 287)), none, [3, 0, 1, 2]⟩, ⟨(some 288), (.extract (.tmp 283) 0), none, [4, 3, 0, 1, 2]⟩, ⟨(some 289), (.extract (.tmp 283) 1), none, [4, 3, 0, 1, 2]⟩, ⟨(some 36), (.mov (.tmp 288)), none, [5, 4, 3, 0, 1, 2]⟩, ⟨(some 37), (.mov (.tmp 289)), none, [6, 4, 3, 0, 1, 2, 7, 5]⟩]) (.seq (.ops true [⟨(some 291), (.call (.func 81) [(.const (.int .i64 4)), (.const (.int .i64 (-3)))]), none, []⟩, ⟨(some 292), (.call (.func 81) [(.const (.int .i64 10)), (.const (.int .i64 0))]), none, [0]⟩, ⟨(some 293), (.load (some 3) (.tmp 31)), none, []⟩, ⟨(some 294), (.call (.func 58) [(.tmp 291), (.tmp 292), (.tmp 293)]), none, [0, 1, 2]⟩, ⟨(some 290), (.mov (.tmp 294)), none, [3, 0, 1, 2]⟩, ⟨(some 295), (.extract (.tmp 290) 0), none, [4, 3, 0, 1, 2]⟩, ⟨(some 296), (.extract (.tmp 290) 1), none, [4, 3, 0, 1, 2]⟩, ⟨(some 38), (.alloc (.agg [(.int .i64 0), (.int .i64 0)]) 2), none, []⟩, ⟨none, (.store 2 (.tmp 38) (.tmp 295)), none, [7, 5, 4, 3, 0, 1, 2]⟩, ⟨(some 39), (.mov (.tmp 296)), none, [6, 4, 3, 0, 1, 2, 8, 7, 5]⟩]) (.seq (.ops true [⟨(some 298), (.call (.func 88) []), none, []⟩, ⟨(some 299), (.call (.func 81) [(.const (.int .i64 12)), (.const (.int .i64 0))]), none, [0]⟩, ⟨(some 300), (.load (some 3) (.tmp 31)), none, []⟩, ⟨(some 301), (.call (.func 65) [(.tmp 298), (.tmp 299), (.tmp 300)]), none, [0, 1, 2]⟩, ⟨(some 297), (.mov (.tmp 301)), none, [3, 0, 1, 2]⟩, ⟨(some 302), (.extract (.tmp 297) 0), none, [4, 3, 0, 1, 2]⟩, ⟨(some 303), (.extract (.tmp 297) 1), none, [4, 3, 0, 1, 2]⟩, ⟨(some 40), (.mov (.tmp 302)), none, [5, 4, 3, 0, 1, 2]⟩, ⟨(some 41), (.mov (.tmp 303)), none, [6, 4, 3, 0, 1, 2, 7, 5]⟩]) (.seq (.ops true [⟨(some 305), (.call (.func 88) []), none, []⟩, ⟨(some 306), (.call (.func 81) [(.const (.int .i64 12)), (.const (.int .i64 0))]), none, [0]⟩, ⟨(some 307), (.load (some 3) (.tmp 31)), none, []⟩, ⟨(some 308), (.call (.func 82) [(.const (.int .i64 0)), (.const (.int .i64 0)), (.const (.int .i64 5))]), none, [1, 0]⟩, ⟨(some 309), (.call (.func 82) [(.const (.int .i64 0)), (.const (.int .i64 3)), (.const (.int .i64 0))]), none, [3, 1, 0]⟩, ⟨(some 310), (.lit true 3 3 (.agg [(.int .i64 0), (.int .i64 0), (.int .i64 0)]) [(0, (.tmp 307)), (1, (.tmp 308)), (2, (.tmp 309))]), none, [2, 3, 1, 0, 4]⟩, ⟨(some 311), (.call (.func 68) [(.tmp 305), (.tmp 306), (.tmp 310)]), none, [0, 1, 5, 2, 3, 4]⟩, ⟨(some 304), (.mov (.tmp 311)), none, [6, 0, 1, 5, 2, 3, 4]⟩, ⟨(some 312), (.extract (.tmp 304) 0), none, [7, 6, 0, 1, 5, 2, 3, 4]⟩, ⟨(some 313), (.extract (.tmp 304) 1), none, [7, 6, 0, 1, 5, 2, 3, 4]⟩, ⟨(some 42), (.mov (.tmp 312)), none, [8, 7, 6, 0, 1, 5, 2, 3, 4]⟩, ⟨(some 43), (.mov (.tmp 313)), none, [9, 7, 6, 0, 1, 5, 2, 3, 4, 10, 8]⟩]) (.seq (.ops true [⟨(some 314), (.call (.func 88) []), none, []⟩, ⟨(some 315), (.call (.func 81) [(.const (.int .i64 12)), (.const (.int .i64 0))]), none, [0]⟩, ⟨(some 316), (.load (some 3) (.tmp 31)), none, []⟩, ⟨(some 317), (.call (.func 67) [(.tmp 314), (.tmp 315), (.tmp 316), (.const (.int .i64 1))]), none, [0, 1, 2]⟩, ⟨(some 44), (.mov (.tmp 317)), none, [3, 0, 1, 2]⟩]) (.seq (.ops true [⟨(some 318), (.call (.func 88) []), none, []⟩, ⟨(some 319), (.call (.func 81) [(.const (.int .i64 12)), (.const (.int .i64 0))]), none, [0]⟩, ⟨(some 320), (.load (some 3) (.tmp 31)), none, []⟩, ⟨(some 321), (.call (.func 67) [(.tmp 318), (.tmp 319), (.tmp 320), (.const (.int .i64 0))]), none, [0, 1, 2]⟩, ⟨(some 45), (.mov (.tmp 321)), none, [3, 0, 1, 2]⟩]) (.seq (.ops false [⟨(some 323), (.call (.func 84) []), none, []⟩, ⟨(some 324), (.lit true 1 1 (.full []) [(0, (.tmp 323))]), none, []⟩, ⟨(some 325), (.call (.func 75) [(.tmp 324)]), none, []⟩, ⟨(some 322), (.mov (.tmp 325)), none, []⟩, ⟨(some 326), (.extract (.tmp 322) 0), none, []⟩, ⟨(some 327), (.extract (.tmp 322) 1), none, []⟩, ⟨(some 46), (.mov (.tmp 326)), none, []⟩, ⟨(some 47), (.mov (.tmp 327)), none, []⟩]) (.seq (.ops false [⟨(some 329), (.mov (.tmp 46)), none, []⟩, ⟨(some 330), (.call (.func 76) [(.tmp 329)]), none, []⟩, ⟨(some 328), (.mov (.tmp 330)), none, []⟩, ⟨(some 331), (.extract (.tmp 328) 0), none, []⟩, ⟨(some 332), (.extract (.tmp 328) 1), none, []⟩, ⟨(some 333), (.extract (.tmp 328) 2), none, []⟩, ⟨(some 48), (.mov (.tmp 331)), none, []⟩, ⟨(some 49), (.mov (.tmp 332)), none, []⟩, ⟨(some 50), (.mov (.tmp 333)), none, []⟩]) (.seq (.ops false [⟨(some 335), (.call (.func 84) []), none, []⟩, ⟨(some 336), (.call (.func 82) [(.const (.int .i64 1)), (.const (.int .i64 2)), (.const (.int .i64 0))]), none, []⟩, ⟨(some 337), (.call (.func 47) [(.tmp 335), (.tmp 336)]), none, []⟩, ⟨(some 334), (.mov (.tmp 337)), none, []⟩, ⟨(some 338), (.extract (.tmp 334) 0), none, []⟩, ⟨(some 339), (.extract (.tmp 334) 1), none, []⟩, ⟨(some 51), (.mov (.tmp 338)), none, []⟩, ⟨(some 52), (.mov (.tmp 339)), none, []⟩]) (.seq (.ops true [⟨(some 340), (.mov (.tmp 33)), none, []⟩, ⟨(some 341), (.mov (.tmp 35)), none, []⟩, ⟨(some 342), (.bin .add (.tmp 340) (.tmp 341)), none, [0, 1]⟩, ⟨(some 343), (.mov (.tmp 37)), none, []⟩, ⟨(some 344), (.bin .add (.tmp 342) (.tmp 343)), none, [2, 0, 1, 3]⟩, ⟨(some 345), (.mov (.tmp 39)), none, []⟩, ⟨(some 346), (.bin .add (.tmp 344) (.tmp 345)), none, [4, 2, 0, 1, 3, 5]⟩, ⟨(some 347), (.mov (.tmp 41)), none, []⟩, ⟨(some 348), (.bin .add (.tmp 346) (.tmp 347)), none, [6, 4, 2, 0, 1, 3, 5, 7]⟩, ⟨(some 349), (.mov (.tmp 43)), none, []⟩, ⟨(some 350), (.bin .add (.tmp 348) (.tmp 349)), none, [8, 6, 4, 2, 0, 1, 3, 5, 7, 9]⟩, ⟨(some 351), (.mov (.tmp 47)), none, []⟩, ⟨(some 352), (.bin .add (.tmp 350) (.tmp 351)), none, [10, 8, 6, 4, 2, 0, 1, 3, 5, 7, 9, 11]⟩, ⟨(some 353), (.mov (.tmp 50)), none, []⟩, ⟨(some 354), (.bin .add (.tmp 352) (.tmp 353)), none, [12, 10, 8, 6, 4, 2, 0, 1, 3, 5, 7, 9, 11, 13]⟩, ⟨(some 355), (.mov (.tmp 52)), none, []⟩, ⟨(some 356), (.bin .add (.tmp 354) (.tmp 355)), none, [14, 12, 10, 8, 6, 4, 2, 0, 1, 3, 5, 7, 9, 11, 13, 15]⟩, ⟨(some 357), (.bin .eql (.tmp 356) (.const (.int .i64 0))), none, [16, 14, 12, 10, 8, 6, 4, 2, 0, 1, 3, 5, 7, 9, 11, 13, 15]⟩, ⟨(some 358), (.mov (.tmp 357)), none, [17, 16, 14, 12, 10, 8, 6, 4, 2, 0, 1, 3, 5, 7, 9, 11, 13, 15]⟩, ⟨(some 359), (.mov (.tmp 44)), (some (358, true)), [18, 17, 16, 14, 12, 10, 8, 6, 4, 2, 0, 1, 3, 5, 7, 9, 11, 13, 15]⟩, ⟨(some 360), (.bin .eql (.tmp 359) (.const (.int .i64 32))), (some (358, true)), [19, 18, 17, 16, 14, 12, 10, 8, 6, 4, 2, 0, 1, 3, 5, 7, 9, 11, 13, 15]⟩, ⟨(some 361), (.pick (.tmp 358) (.tmp 360) (.const (.bool false))), none, [18, 17, 16, 14, 12, 10, 8, 6, 4, 2, 0, 1, 3, 5, 7, 9, 11, 13, 15, 20, 19]⟩, ⟨(some 362), (.mov (.tmp 361)), none, [21, 18, 17, 16, 14, 12, 10, 8, 6, 4, 2, 0, 1, 3, 5, 7, 9, 11, 13, 15, 20, 19]⟩, ⟨(some 363), (.mov (.tmp 45)), (some (362, true)), [22, 21, 18, 17, 16, 14, 12, 10, 8, 6, 4, 2, 0, 1, 3, 5, 7, 9, 11, 13, 15, 20, 19]⟩, ⟨(some 364), (.bin .eql (.tmp 363) (.const (.int .i64 19))), (some (362, true)), [23, 22, 21, 18, 17, 16, 14, 12, 10, 8, 6, 4, 2, 0, 1, 3, 5, 7, 9, 11, 13, 15, 20, 19]⟩, ⟨(some 365), (.pick (.tmp 362) (.tmp 364) (.const (.bool false))), none, [22, 21, 18, 17, 16, 14, 12, 10, 8, 6, 4, 2, 0, 1, 3, 5, 7, 9, 11, 13, 15, 20, 19, 24, 23]⟩, ⟨(some 366), (.mov (.tmp 365)), none, [25, 22, 21, 18, 17, 16, 14, 12, 10, 8, 6, 4, 2, 0, 1, 3, 5, 7, 9, 11, 13, 15, 20, 19, 24, 23]⟩, ⟨(some 367), (.mov (.tmp 32)), (some (366, true)), [26, 25, 22, 21, 18, 17, 16, 14, 12, 10, 8, 6, 4, 2, 0, 1, 3, 5, 7, 9, 11, 13, 15, 20, 19, 24, 23]⟩, ⟨(some 368), (.bin .eql (.tmp 367) (.const (.int .i64 25))), (some (366, true)), [27, 26, 25, 22, 21, 18, 17, 16, 14, 12, 10, 8, 6, 4, 2, 0, 1, 3, 5, 7, 9, 11, 13, 15, 20, 19, 24, 23]⟩, ⟨(some 369), (.pick (.tmp 366) (.tmp 368) (.const (.bool false))), none, [26, 25, 22, 21, 18, 17, 16, 14, 12, 10, 8, 6, 4, 2, 0, 1, 3, 5, 7, 9, 11, 13, 15, 20, 19, 24, 23, 28, 27]⟩, ⟨(some 370), (.mov (.tmp 369)), none, [29, 26, 25, 22, 21, 18, 17, 16, 14, 12, 10, 8, 6, 4, 2, 0, 1, 3, 5, 7, 9, 11, 13, 15, 20, 19, 24, 23, 28, 27]⟩, ⟨(some 371), (.mov (.tmp 34)), (some (370, true)), [30, 29, 26, 25, 22, 21, 18, 17, 16, 14, 12, 10, 8, 6, 4, 2, 0, 1, 3, 5, 7, 9, 11, 13, 15, 20, 19, 24, 23, 28, 27]⟩, ⟨(some 372), (.bin .eql (.tmp 371) (.const (.int .i64 48))), (some (370, true)), [31, 30, 29, 26, 25, 22, 21, 18, 17, 16, 14, 12, 10, 8, 6, 4, 2, 0, 1, 3, 5, 7, 9, 11, 13, 15, 20, 19, 24, 23, 28, 27]⟩, ⟨(some 373), (.pick (.tmp 370) (.tmp 372) (.const (.bool false))), none, [30, 29, 26, 25, 22, 21, 18, 17, 16, 14, 12, 10, 8, 6, 4, 2, 0, 1, 3, 5, 7, 9, 11, 13, 15, 20, 19, 24, 23, 28, 27, 32, 31]⟩, ⟨(some 374), (.mov (.tmp 373)), none, [33, 30, 29, 26, 25, 22, 21, 18, 17, 16, 14, 12, 10, 8, 6, 4, 2, 0, 1, 3, 5, 7, 9, 11, 13, 15, 20, 19, 24, 23, 28, 27, 32, 31]⟩, ⟨(some 375), (.mov (.tmp 36)), (some (374, true)), [34, 33, 30, 29, 26, 25, 22, 21, 18, 17, 16, 14, 12, 10, 8, 6, 4, 2, 0, 1, 3, 5, 7, 9, 11, 13, 15, 20, 19, 24, 23, 28, 27, 32, 31]⟩, ⟨(some 376), (.pick (.tmp 374) (.tmp 375) (.const (.bool false))), none, [34, 33, 30, 29, 26, 25, 22, 21, 18, 17, 16, 14, 12, 10, 8, 6, 4, 2, 0, 1, 3, 5, 7, 9, 11, 13, 15, 20, 19, 24, 23, 28, 27, 32, 31, 35]⟩, ⟨(some 377), (.mov (.tmp 376)), none, [36, 34, 33, 30, 29, 26, 25, 22, 21, 18, 17, 16, 14, 12, 10, 8, 6, 4, 2, 0, 1, 3, 5, 7, 9, 11, 13, 15, 20, 19, 24, 23, 28, 27, 32, 31, 35]⟩, ⟨(some 378), (.load (some 2) (.tmp 38)), (some (377, true)), [37, 36, 34, 33, 30, 29, 26, 25, 22, 21, 18, 17, 16, 14, 12, 10, 8, 6, 4, 2, 0, 1, 3, 5, 7, 9, 11, 13, 15, 20, 19, 24, 23, 28, 27, 32, 31, 35]⟩, ⟨(some 379), (.call (.func 87) [(.const (.int .i64 1)), (.const (.int .i64 5))]), (some (377, true)), [37, 36, 34, 33, 30, 29, 26, 25, 22, 21, 18, 17, 16, 14, 12, 10, 8, 6, 4, 2, 0, 1, 3, 5, 7, 9, 11, 13, 15, 20, 19, 24, 23, 28, 27, 32, 31, 35]⟩, ⟨(some 380), (.eqA false [1, 1] (.tmp 378) (.tmp 379)), (some (377, true)), [38, 37, 36, 34, 33, 30, 29, 26, 25, 22, 21, 18, 17, 16, 14, 12, 10, 8, 6, 4, 2, 0, 1, 3, 5, 7, 9, 11, 13, 15, 20, 19, 24, 23, 28, 27, 32, 31, 35, 39]⟩, ⟨(some 381), (.pick (.tmp 377) (.tmp 380) (.const (.bool false))), none, [37, 36, 34, 33, 30, 29, 26, 25, 22, 21, 18, 17, 16, 14, 12, 10, 8, 6, 4, 2, 0, 1, 3, 5, 7, 9, 11, 13, 15, 20, 19, 24, 23, 28, 27, 32, 31, 35, 40, 38, 39]⟩, ⟨(some 382), (.mov (.tmp 381)), none, [41, 37, 36, 34, 33, 30, 29, 26, 25, 22, 21, 18, 17, 16, 14, 12, 10, 8, 6, 4, 2, 0, 1, 3, 5, 7, 9, 11, 13, 15, 20, 19, 24, 23, 28, 27, 32, 31, 35, 40, 38, 39]⟩, ⟨(some 383), (.mov (.tmp 40)), (some (382, true)), [42, 41, 37, 36, 34, 33, 30, 29, 26, 25, 22, 21, 18, 17, 16, 14, 12, 10, 8, 6, 4, 2, 0, 1, 3, 5, 7, 9, 11, 13, 15, 20, 19, 24, 23, 28, 27, 32, 31, 35, 40, 38, 39]⟩, ⟨(some 384), (.bin .eql (.tmp 383) (.const (.int .i64 2))), (some (382, true)), [43, 42, 41, 37, 36, 34, 33, 30, 29, 26, 25, 22, 21, 18, 17, 16, 14, 12, 10, 8, 6, 4, 2, 0, 1, 3, 5, 7, 9, 11, 13, 15, 20, 19, 24, 23, 28, 27, 32, 31, 35, 40, 38, 39]⟩, ⟨(some 385), (.pick (.tmp 382) (.tmp 384) (.const (.bool false))), none, [42, 41, 37, 36, 34, 33, 30, 29, 26, 25, 22, 21, 18, 17, 16, 14, 12, 10, 8, 6, 4, 2, 0, 1, 3, 5, 7, 9, 11, 13, 15, 20, 19, 24, 23, 28, 27, 32, 31, 35, 40, 38, 39, 44, 43]⟩, ⟨(some 386), (.mov (.tmp 385)), none, [45, 42, 41, 37, 36, 34, 33, 30, 29, 26, 25, 22, 21, 18, 17, 16, 14, 12, 10, 8, 6, 4, 2, 0, 1, 3, 5, 7, 9, 11, 13, 15, 20, 19, 24, 23, 28, 27, 32, 31, 35, 40, 38, 39, 44, 43]⟩, ⟨(some 387), (.mov (.tmp 42)), (some (386, true)), [46, 45, 42, 41, 37, 36, 34, 33, 30, 29, 26, 25, 22, 21, 18, 17, 16, 14, 12, 10, 8, 6, 4, 2, 0, 1, 3, 5, 7, 9, 11, 13, 15, 20, 19, 24, 23, 28, 27, 32, 31, 35, 40, 38, 39, 44, 43]⟩, ⟨(some 388), (.lit true 1 3 (.int .i64 0) [(0, (.const (.int .i64 2))), (1, (.const (.int .i64 0))), (2, (.const (.int .i64 (-1))))]), (some (386, true)), [46, 45, 42, 41, 37, 36, 34, 33, 30, 29, 26, 25, 22, 21, 18, 17, 16, 14, 12, 10, 8, 6, 4, 2, 0, 1, 3, 5, 7, 9, 11, 13, 15, 20, 19, 24, 23, 28, 27, 32, 31, 35, 40, 38, 39, 44, 43]⟩, ⟨(some 389), (.call (.func 29) [(.tmp 387), (.tmp 388)]), (some (386, true)), [47, 46, 45, 42, 41, 37, 36, 34, 33, 30, 29, 26, 25, 22, 21, 18, 17, 16, 14, 12, 10, 8, 6, 4, 2, 0, 1, 3, 5, 7, 9, 11, 13, 15, 20, 19, 24, 23, 28, 27, 32, 31, 35, 40, 38, 39, 44, 43, 48]⟩, ⟨(some 390), (.pick (.tmp 386) (.tmp 389) (.const (.bool false))), none, [46, 45, 42, 41, 37, 36, 34, 33, 30, 29, 26, 25, 22, 21, 18, 17, 16, 14, 12, 10, 8, 6, 4, 2, 0, 1, 3, 5, 7, 9, 11, 13, 15, 20, 19, 24, 23, 28, 27, 32, 31, 35, 40, 38, 39, 44, 43, 49, 47, 48]⟩, ⟨(some 391), (.mov (.tmp 390)), none, [50, 46, 45, 42, 41, 37, 36, 34, 33, 30, 29, 26, 25, 22, 21, 18, 17, 16, 14, 12, 10, 8, 6, 4, 2, 0, 1, 3, 5, 7, 9, 11, 13, 15, 20, 19, 24, 23, 28, 27, 32, 31, 35, 40, 38, 39, 44, 43, 49, 47, 48]⟩, ⟨(some 392), (.mov (.tmp 46)), (some (391, true)), [51, 50, 46, 45, 42, 41, 37, 36, 34, 33, 30, 29, 26, 25, 22, 21, 18, 17, 16, 14, 12, 10, 8, 6, 4, 2, 0, 1, 3, 5, 7, 9, 11, 13, 15, 20, 19, 24, 23, 28, 27, 32, 31, 35, 40, 38, 39, 44, 43, 49, 47, 48]⟩, ⟨(some 393), (.bin .eql (.tmp 392) (.const (.string ⟨#[115, 104, 97, 112, 101, 32, 48, 32, 48, 32, 48, 32, 52, 32, 48, 32, 48, 32, 52, 32, 48, 32, 52, 32, 48, 32, 48, 32, 52, 10]⟩))), (some (391, true)), [52, 51, 50, 46, 45, 42, 41, 37, 36, 34, 33, 30, 29, 26, 25, 22, 21, 18, 17, 16, 14, 12, 10, 8, 6, 4, 2, 0, 1, 3, 5, 7, 9, 11, 13, 15, 20, 19, 24, 23, 28, 27, 32, 31, 35, 40, 38, 39, 44, 43, 49, 47, 48]⟩, ⟨(some 394), (.pick (.tmp 391) (.tmp 393) (.const (.bool false))), none, [51, 50, 46, 45, 42, 41, 37, 36, 34, 33, 30, 29, 26, 25, 22, 21, 18, 17, 16, 14, 12, 10, 8, 6, 4, 2, 0, 1, 3, 5, 7, 9, 11, 13, 15, 20, 19, 24, 23, 28, 27, 32, 31, 35, 40, 38, 39, 44, 43, 49, 47, 48, 53, 52]⟩, ⟨(some 395), (.mov (.tmp 394)), none, [54, 51, 50, 46, 45, 42, 41, 37, 36, 34, 33, 30, 29, 26, 25, 22, 21, 18, 17, 16, 14, 12, 10, 8, 6, 4, 2, 0, 1, 3, 5, 7, 9, 11, 13, 15, 20, 19, 24, 23, 28, 27, 32, 31, 35, 40, 38, 39, 44, 43, 49, 47, 48, 53, 52]⟩, ⟨(some 396), (.mov (.tmp 49)), (some (395, true)), [55, 54, 51, 50, 46, 45, 42, 41, 37, 36, 34, 33, 30, 29, 26, 25, 22, 21, 18, 17, 16, 14, 12, 10, 8, 6, 4, 2, 0, 1, 3, 5, 7, 9, 11, 13, 15, 20, 19, 24, 23, 28, 27, 32, 31, 35, 40, 38, 39, 44, 43, 49, 47, 48, 53, 52]⟩, ⟨(some 397), (.bin .eql (.tmp 396) (.const (.int .i64 0))), (some (395, true)), [56, 55, 54, 51, 50, 46, 45, 42, 41, 37, 36, 34, 33, 30, 29, 26, 25, 22, 21, 18, 17, 16, 14, 12, 10, 8, 6, 4, 2, 0, 1, 3, 5, 7, 9, 11, 13, 15, 20, 19, 24, 23, 28, 27, 32, 31, 35, 40, 38, 39, 44, 43, 49, 47, 48, 53, 52]⟩, ⟨(some 398), (.pick (.tmp 395) (.tmp 397) (.const (.bool false))), none, [55, 54, 51, 50, 46, 45, 42, 41, 37, 36, 34, 33, 30, 29, 26, 25, 22, 21, 18, 17, 16, 14, 12, 10, 8, 6, 4, 2, 0, 1, 3, 5, 7, 9, 11, 13, 15, 20, 19, 24, 23, 28, 27, 32, 31, 35, 40, 38, 39, 44, 43, 49, 47, 48, 53, 52, 57, 56]⟩, ⟨(some 399), (.mov (.tmp 398)), none, [58, 55, 54, 51, 50, 46, 45, 42, 41, 37, 36, 34, 33, 30, 29, 26, 25, 22, 21, 18, 17, 16, 14, 12, 10, 8, 6, 4, 2, 0, 1, 3, 5, 7, 9, 11, 13, 15, 20, 19, 24, 23, 28, 27, 32, 31, 35, 40, 38, 39, 44, 43, 49, 47, 48, 53, 52, 57, 56]⟩, ⟨(some 400), (.mov (.tmp 48)), (some (399, true)), [59, 58, 55, 54, 51, 50, 46, 45, 42, 41, 37, 36, 34, 33, 30, 29, 26, 25, 22, 21, 18, 17, 16, 14, 12, 10, 8, 6, 4, 2, 0, 1, 3, 5, 7, 9, 11, 13, 15, 20, 19, 24, 23, 28, 27, 32, 31, 35, 40, 38, 39, 44, 43, 49, 47, 48, 53, 52, 57, 56]⟩, ⟨(some 401), (.call (.func 84) []), (some (399, true)), [59, 58, 55, 54, 51, 50, 46, 45, 42, 41, 37, 36, 34, 33, 30, 29, 26, 25, 22, 21, 18, 17, 16, 14, 12, 10, 8, 6, 4, 2, 0, 1, 3, 5, 7, 9, 11, 13, 15, 20, 19, 24, 23, 28, 27, 32, 31, 35, 40, 38, 39, 44, 43, 49, 47, 48, 53, 52, 57, 56]⟩, ⟨(some 402), (.lit true 1 1 (.full []) [(0, (.tmp 401))]), (some (399, true)), [61, 59, 58, 55, 54, 51, 50, 46, 45, 42, 41, 37, 36, 34, 33, 30, 29, 26, 25, 22, 21, 18, 17, 16, 14, 12, 10, 8, 6, 4, 2, 0, 1, 3, 5, 7, 9, 11, 13, 15, 20, 19, 24, 23, 28, 27, 32, 31, 35, 40, 38, 39, 44, 43, 49, 47, 48, 53, 52, 57, 56]⟩, ⟨(some 403), (.call (.func 79) [(.tmp 400), (.tmp 402)]), (some (399, true)), [60, 59, 58, 55, 54, 51, 50, 46, 45, 42, 41, 37, 36, 34, 33, 30, 29, 26, 25, 22, 21, 18, 17, 16, 14, 12, 10, 8, 6, 4, 2, 0, 1, 3, 5, 7, 9, 11, 13, 15, 20, 19, 24, 23, 28, 27, 32, 31, 35, 40, 38, 39, 44, 43, 49, 47, 48, 53, 52, 57, 56, 62, 61]⟩, ⟨(some 404), (.pick (.tmp 399) (.tmp 403) (.const (.bool false))), none, [59, 58, 55, 54, 51, 50, 46, 45, 42, 41, 37, 36, 34, 33, 30, 29, 26, 25, 22, 21, 18, 17, 16, 14, 12, 10, 8, 6, 4, 2, 0, 1, 3, 5, 7, 9, 11, 13, 15, 20, 19, 24, 23, 28, 27, 32, 31, 35, 40, 38, 39, 44, 43, 49, 47, 48, 53, 52, 57, 56, 63, 60, 62, 61]⟩, ⟨(some 405), (.mov (.tmp 404)), none, [64, 59, 58, 55, 54, 51, 50, 46, 45, 42, 41, 37, 36, 34, 33, 30, 29, 26, 25, 22, 21, 18, 17, 16, 14, 12, 10, 8, 6, 4, 2, 0, 1, 3, 5, 7, 9, 11, 13, 15, 20, 19, 24, 23, 28, 27, 32, 31, 35, 40, 38, 39, 44, 43, 49, 47, 48, 53, 52, 57, 56, 63, 60, 62, 61]⟩, ⟨(some 406), (.mov (.tmp 51)), (some (405, true)), [65, 64, 59, 58, 55, 54, 51, 50, 46, 45, 42, 41, 37, 36, 34, 33, 30, 29, 26, 25, 22, 21, 18, 17, 16, 14, 12, 10, 8, 6, 4, 2, 0, 1, 3, 5, 7, 9, 11, 13, 15, 20, 19, 24, 23, 28, 27, 32, 31, 35, 40, 38, 39, 44, 43, 49, 47, 48, 53, 52, 57, 56, 63, 60, 62, 61]⟩, ⟨(some 407), (.len (.tmp 406)), (some (405, true)), [66, 65, 64, 59, 58, 55, 54, 51, 50, 46, 45, 42, 41, 37, 36, 34, 33, 30, 29, 26, 25, 22, 21, 18, 17, 16, 14, 12, 10, 8, 6, 4, 2, 0, 1, 3, 5, 7, 9, 11, 13, 15, 20, 19, 24, 23, 28, 27, 32, 31, 35, 40, 38, 39, 44, 43, 49, 47, 48, 53, 52, 57, 56, 63, 60, 62, 61]⟩, ⟨(some 408), (.bin .eql (.tmp 407) (.const (.int .i64 4))), (some (405, true)), [67, 66, 65, 64, 59, 58, 55, 54, 51, 50, 46, 45, 42, 41, 37, 36, 34, 33, 30, 29, 26, 25, 22, 21, 18, 17, 16, 14, 12, 10, 8, 6, 4, 2, 0, 1, 3, 5, 7, 9, 11, 13, 15, 20, 19, 24, 23, 28, 27, 32, 31, 35, 40, 38, 39, 44, 43, 49, 47, 48, 53, 52, 57, 56, 63, 60, 62, 61]⟩, ⟨(some 409), (.pick (.tmp 405) (.tmp 408) (.const (.bool false))), none, [65, 64, 59, 58, 55, 54, 51, 50, 46, 45, 42, 41, 37, 36, 34, 33, 30, 29, 26, 25, 22, 21, 18, 17, 16, 14, 12, 10, 8, 6, 4, 2, 0, 1, 3, 5, 7, 9, 11, 13, 15, 20, 19, 24, 23, 28, 27, 32, 31, 35, 40, 38, 39, 44, 43, 49, 47, 48, 53, 52, 57, 56, 63, 60, 62, 61, 68, 67, 66]⟩, ⟨(some 410), (.mov (.tmp 409)), none, [69, 65, 64, 59, 58, 55, 54, 51, 50, 46, 45, 42, 41, 37, 36, 34, 33, 30, 29, 26, 25, 22, 21, 18, 17, 16, 14, 12, 10, 8, 6, 4, 2, 0, 1, 3, 5, 7, 9, 11, 13, 15, 20, 19, 24, 23, 28, 27, 32, 31, 35, 40, 38, 39, 44, 43, 49, 47, 48, 53, 52, 57, 56, 63, 60, 62, 61, 68, 67, 66]⟩, ⟨(some 411), (.mov (.tmp 51)), (some (410, true)), [70, 69, 65, 64, 59, 58, 55, 54, 51, 50, 46, 45, 42, 41, 37, 36, 34, 33, 30, 29, 26, 25, 22, 21, 18, 17, 16, 14, 12, 10, 8, 6, 4, 2, 0, 1, 3, 5, 7, 9, 11, 13, 15, 20, 19, 24, 23, 28, 27, 32, 31, 35, 40, 38, 39, 44, 43, 49, 47, 48, 53, 52, 57, 56, 63, 60, 62, 61, 68, 67, 66]⟩, ⟨(some 412), (.iaddr 3 (.tmp 411) (.const (.int .i64 2))), (some (410, true)), [71, 70, 69, 65, 64, 59, 58, 55, 54, 51, 50, 46, 45, 42, 41, 37, 36, 34, 33, 30, 29, 26, 25, 22, 21, 18, 17, 16, 14, 12, 10, 8, 6, 4, 2, 0, 1, 3, 5, 7, 9, 11, 13, 15, 20, 19, 24, 23, 28, 27, 32, 31, 35, 40, 38, 39, 44, 43, 49, 47, 48, 53, 52, 57, 56, 63, 60, 62, 61, 68, 67, 66]⟩, ⟨(some 413), (.load (some 3) (.tmp 412)), (some (410, true)), [72, 71, 70, 69, 65, 64, 59, 58, 55, 54, 51, 50, 46, 45, 42, 41, 37, 36, 34, 33, 30, 29, 26, 25, 22, 21, 18, 17, 16, 14, 12, 10, 8, 6, 4, 2, 0, 1, 3, 5, 7, 9, 11, 13, 15, 20, 19, 24, 23, 28, 27, 32, 31, 35, 40, 38, 39, 44, 43, 49, 47, 48, 53, 52, 57, 56, 63, 60, 62, 61, 68, 67, 66]⟩, ⟨(some 414), (.call (.func 82) [(.const (.int .i64 5)), (.const (.int .i64 2)), (.const (.int .i64 4))]), (some (410, true)), [70, 69, 65, 64, 59, 58, 55, 54, 51, 50, 46, 45, 42, 41, 37, 36, 34, 33, 30, 29, 26, 25, 22, 21, 18, 17, 16, 14, 12, 10, 8, 6, 4, 2, 0, 1, 3, 5, 7, 9, 11, 13, 15, 20, 19, 24, 23, 28, 27, 32, 31, 35, 40, 38, 39, 44, 43, 49, 47, 48, 53, 52, 57, 56, 63, 60, 62, 61, 68, 67, 66]⟩, ⟨(some 415), (.eqA false [1, 1, 1] (.tmp 413) (.tmp 414)), (some (410, true)), [73, 72, 71, 70, 69, 65, 64, 59, 58, 55, 54, 51, 50, 46, 45, 42, 41, 37, 36, 34, 33, 30, 29, 26, 25, 22, 21, 18, 17, 16, 14, 12, 10, 8, 6, 4, 2, 0, 1, 3, 5, 7, 9, 11, 13, 15, 20, 19, 24, 23, 28, 27, 32, 31, 35, 40, 38, 39, 44, 43, 49, 47, 48, 53, 52, 57, 56, 63, 60, 62, 61, 68, 67, 66, 74]⟩, ⟨(some 416), (.pick (.tmp 410) (.tmp 415) (.const (.bool false))), none, [70, 69, 65, 64, 59, 58, 55, 54, 51, 50, 46, 45, 42, 41, 37, 36, 34, 33, 30, 29, 26, 25, 22, 21, 18, 17, 16, 14, 12, 10, 8, 6, 4, 2, 0, 1, 3, 5, 7, 9, 11, 13, 15, 20, 19, 24, 23, 28, 27, 32, 31, 35, 40, 38, 39, 44, 43, 49, 47, 48, 53, 52, 57, 56, 63, 60, 62, 61, 68, 67, 66, 75, 73, 72, 71, 74]⟩, ⟨(some 0), (.mov (.tmp 416)), none, [76, 70, 69, 65, 64, 59, 58, 55, 54, 51, 50, 46, 45, 42, 41, 37, 36, 34, 33, 30, 29, 26, 25, 22, 21, 18, 17, 16, 14, 12, 10, 8, 6, 4, 2, 0, 1, 3, 5, 7, 9, 11, 13, 15, 20, 19, 24, 23, 28, 27, 32, 31, 35, 40, 38, 39, 44, 43, 49, 47, 48, 53, 52, 57, 56, 63, 60, 62, 61, 68, 67, 66, 75, 73, 72, 71, 74]⟩]) .ret)))))))))))))))))))))))))))))))⟩
theorem dh14 : cProg Go.Proofs.Tryz.prog ⟨[], [], [100, 109, 118, 126, 129, 136, 195, 201, 212, 218, 310, 324, 388, 402]⟩ 14 = some dc14 := by kernel_rfl
end Sh


set_option maxRecDepth 100000
set_option linter.unusedSimpArgs false
set_option linter.unusedVariables false
namespace Sh
open Go Go.Proofs
def lowL : List V3 := [⟨2, 0, 0⟩, ⟨6, 0, 0⟩, ⟨6, 0, 2⟩, ⟨2, 0, 2⟩]
def sA : V3 := ⟨0, -1, 1⟩
def sB : V3 := ⟨1, -1, 2⟩
def sC : V3 := ⟨0, 3, 4⟩
def gL : List Pt := [⟨0, 1⟩, ⟨1, 1⟩, ⟨2, 1⟩, ⟨3, 1⟩, ⟨4, 1⟩, ⟨0, 2⟩, ⟨1, 2⟩, ⟨2, 2⟩, ⟨3, 2⟩, ⟨4, 2⟩, ⟨0, 3⟩, ⟨1, 3⟩, ⟨2, 3⟩, ⟨3, 3⟩, ⟨4, 3⟩, ⟨0, 4⟩, ⟨1, 4⟩, ⟨2, 4⟩, ⟨3, 4⟩, ⟨4, 4⟩]
def oL : List ((Int × Int) × (Int × Int)) := [((0, 1), 0, 1), ((4, 1), 0, 1), ((2, 1), 2, 1), ((-2, 1), 2, 1)]
def mvL : List V3 := [⟨1, 2, 0⟩, ⟨5, 2, 0⟩, ⟨5, 2, 4⟩, ⟨1, 2, 4⟩]
def txL : List UInt8 := [115, 104, 97, 112, 101, 32, 48, 32, 48, 32, 48, 32, 52, 32, 48, 32, 48, 32, 52, 32, 48, 32, 52, 32, 48, 32, 48, 32, 52, 10]
theorem one_len : ∀ s ∈ [wallL], s.length < 1073741824 := fun s h => by simp at h; subst h; decide
theorem two_len : ∀ s ∈ [wallL, lowL], s.length < 1073741824 := fun s h => by simp at h; rcases h with rfl | rfl <;> decide
theorem two_len' : ∀ s ∈ [lowL, wallL], s.length < 1073741824 := fun s h => by simp at h; rcases h with rfl | rfl <;> decide
theorem v1 : hdS wallL sA ⟨2, 4⟩ = (true, 0) := by kernel_rfl
theorem v2 : hdS wallL sA ⟨2, 5⟩ = (false, 0) := by kernel_rfl
theorem v3 : hdS wallL sA ⟨2, -1⟩ = (false, 0) := by kernel_rfl
theorem v4 : hdS wallL sB ⟨0, 2⟩ = (true, 0) := by kernel_rfl
theorem v5 : hdS wallL sB ⟨4, 1⟩ = (false, 0) := by kernel_rfl
theorem v6 : shS wallL sA sqrB = (gL, 0) := by kernel_rfl
theorem v7 : cuS [wallL, lowL] sA sqrB = ([20, 2], 0) := by kernel_rfl
theorem v8 : cuS [lowL, wallL] sA sqrB = ([8, 14], 0) := by kernel_rfl
theorem v9 : lgS [wallL, lowL] sA sqrB = (14, 0) := by kernel_rfl
theorem v10 : srS [wallL] sA [sqrB] = ([(4, 9)], 0) := by kernel_rfl
theorem v11 : hgS [wallL, lowL] sA ⟨3, 1⟩ = ([0, 1], 0) := by kernel_rfl
theorem v12 : olS wallL sB = (oL, 0) := by kernel_rfl
theorem v13 : arS wallL sA = ((16, 1), 0) := by kernel_rfl
theorem v14 : arS wallL sB = ((8, 1), 0) := by kernel_rfl
theorem v15 : gnS ⟨4, -3⟩ sC = (25, 0) := by kernel_rfl
theorem v16 : rmS ⟨12, 0⟩ sC = (48, 0) := by kernel_rfl
theorem v17 : frS ⟨3, -4⟩ ⟨12, 0⟩ sC = (true, 0) := by kernel_rfl
theorem v18 : sdS ⟨4, -3⟩ ⟨10, 0⟩ sC = ((1, 5), 0) := by kernel_rfl
theorem v19 : rlS tiltL ⟨12, 0⟩ sC = (2, 0) := by kernel_rfl
theorem v20 : tkS tiltL ⟨12, 0⟩ [sC, ⟨0, 0, 5⟩, ⟨0, 3, 0⟩] = ([2, 0, -1], 0) := by kernel_rfl
theorem v21 : crS tiltL ⟨12, 0⟩ sC 1 = 32 := by kernel_rfl
theorem v22 : crS tiltL ⟨12, 0⟩ sC 0 = 19 := by kernel_rfl
theorem v23 : prtS [wallL] = (txL, 0) := by kernel_rfl
theorem v24 : parS txL = ([wallL], 0, 0) := by kernel_rfl
theorem v25 : mvS wallL ⟨1, 2, 0⟩ = (mvL, 0) := by kernel_rfl
theorem k1 : PC 15 [shp wallL, encV sA, encPt ⟨2, 4⟩] (.tuple [.bool true, DV.int .i64 (0)]) := by have := c_Hides wallL sA ⟨2, 4⟩ (by decide); rwa [v1] at this
theorem k2 : PC 15 [shp wallL, encV sA, encPt ⟨2, 5⟩] (.tuple [.bool false, DV.int .i64 (0)]) := by have := c_Hides wallL sA ⟨2, 5⟩ (by decide); rwa [v2] at this
theorem k3 : PC 15 [shp wallL, encV sA, encPt ⟨2, -1⟩] (.tuple [.bool false, DV.int .i64 (0)]) := by have := c_Hides wallL sA ⟨2, -1⟩ (by decide); rwa [v3] at this
theorem k4 : PC 15 [shp wallL, encV sB, encPt ⟨0, 2⟩] (.tuple [.bool true, DV.int .i64 (0)]) := by have := c_Hides wallL sB ⟨0, 2⟩ (by decide); rwa [v4] at this
theorem k5 : PC 15 [shp wallL, encV sB, encPt ⟨4, 1⟩] (.tuple [.bool false, DV.int .i64 (0)]) := by have := c_Hides wallL sB ⟨4, 1⟩ (by decide); rwa [v5] at this
theorem k6 : PC 31 [shp wallL, encV sA, encB sqrB] (.tuple [pts gL, DV.int .i64 (0)]) := by have := c_Shadow wallL sA sqrB (by decide); rwa [v6] at this
theorem k7 : PC 32 [shps [wallL, lowL], encV sA, encB sqrB] (.tuple [iL [20, 2], DV.int .i64 (0)]) := by have := c_Cut [wallL, lowL] sA sqrB (by decide) two_len; rwa [v7] at this
theorem k8 : PC 32 [shps [lowL, wallL], encV sA, encB sqrB] (.tuple [iL [8, 14], DV.int .i64 (0)]) := by have := c_Cut [lowL, wallL] sA sqrB (by decide) two_len'; rwa [v8] at this
theorem k9 : PC 33 [shps [wallL, lowL], encV sA, encB sqrB] (.tuple [DV.int .i64 (14), DV.int .i64 (0)]) := by have := c_Light [wallL, lowL] sA sqrB (by decide) two_len; rwa [v9] at this
theorem k10 : PC 34 [shps [wallL], encV sA, cels [sqrB]] (.tuple [rats [(4, 9)], DV.int .i64 (0)]) := by have := c_Shares [wallL] sA [sqrB] (by decide) one_len (by decide); rwa [v10] at this
theorem k11 : PC 18 [shps [wallL, lowL], encV sA, encPt ⟨3, 1⟩] (.tuple [iL [0, 1], DV.int .i64 (0)]) := by have := c_Hiding [wallL, lowL] sA ⟨3, 1⟩ (by decide) two_len; rwa [v11] at this
theorem k12 : PC 45 [shp wallL, encV sB] (.tuple [crns oL, DV.int .i64 (0)]) := by have := c_Outline wallL sB (by decide); rwa [v12] at this
theorem k13 : PC 46 [shp wallL, encV sA] (.tuple [encR (16, 1), DV.int .i64 (0)]) := by have := c_Area wallL sA (by decide); rwa [v13] at this
theorem k14 : PC 46 [shp wallL, encV sB] (.tuple [encR (8, 1), DV.int .i64 (0)]) := by have := c_Area wallL sB (by decide); rwa [v14] at this
theorem k15 : PC 55 [encPt ⟨4, -3⟩, encV sC] (.tuple [DV.int .i64 (25), DV.int .i64 (0)]) := by have := c_Gain ⟨4, -3⟩ sC; rwa [v15] at this
theorem k16 : PC 56 [encPt ⟨12, 0⟩, encV sC] (.tuple [DV.int .i64 (48), DV.int .i64 (0)]) := by have := c_Room ⟨12, 0⟩ sC; rwa [v16] at this
theorem k17 : PC 57 [encPt ⟨3, -4⟩, encPt ⟨12, 0⟩, encV sC] (.tuple [.bool true, DV.int .i64 (0)]) := by have := c_Free ⟨3, -4⟩ ⟨12, 0⟩ sC; rwa [v17] at this
theorem k18 : PC 58 [encPt ⟨4, -3⟩, encPt ⟨10, 0⟩, encV sC] (.tuple [encR (1, 5), DV.int .i64 (0)]) := by have := c_Shaded ⟨4, -3⟩ ⟨10, 0⟩ sC; rwa [v18] at this
theorem k19 : PC 65 [pts tiltL, encPt ⟨12, 0⟩, encV sC] (.tuple [DV.int .i64 (2), DV.int .i64 (0)]) := by have := c_Rule tiltL ⟨12, 0⟩ sC (by decide); rwa [v19] at this
theorem k20 : PC 68 [pts tiltL, encPt ⟨12, 0⟩, .list ([sC, ⟨0, 0, 5⟩, ⟨0, 3, 0⟩].map encV)] (.tuple [iL [2, 0, -1], DV.int .i64 (0)]) := by have := c_Tracked tiltL ⟨12, 0⟩ [sC, ⟨0, 0, 5⟩, ⟨0, 3, 0⟩] (by decide) (by decide); rwa [v20] at this
theorem k21 : PC 67 [pts tiltL, encPt ⟨12, 0⟩, encV sC, DV.int .i64 (1)] (DV.int .i64 (32)) := by have := c_CheckRule tiltL ⟨12, 0⟩ sC 1 (by decide); rwa [v21] at this
theorem k22 : PC 67 [pts tiltL, encPt ⟨12, 0⟩, encV sC, DV.int .i64 (0)] (DV.int .i64 (19)) := by have := c_CheckRule tiltL ⟨12, 0⟩ sC 0 (by decide); rwa [v22] at this
theorem k23 : PC 75 [shps [wallL]] (.tuple [.str txL, DV.int .i64 (0)]) := by have := c_Print [wallL] (by decide) one_len; rwa [v23] at this
theorem k24 : PC 76 [.str txL] (.tuple [shps [wallL], DV.int .i64 (0), DV.int .i64 (0)]) := by have := c_Parse txL (by decide); rwa [v24] at this
theorem k25 : PC 47 [shp wallL, encV ⟨1, 2, 0⟩] (.tuple [shp mvL, DV.int .i64 (0)]) := by have := c_Moved wallL ⟨1, 2, 0⟩ (by decide); rwa [v25] at this
end Sh


set_option maxRecDepth 100000
set_option linter.unusedSimpArgs false
set_option linter.unusedVariables false
namespace Sh
open Go Go.Proofs
theorem q_SameInts (a b : List Int) (hl : a.length < 4611686018427387904) : PC 29 [iL a, iL b] (.bool (decide (a = b))) := by
  have e0 : ((a.map (DV.int .i64)).length : Int) = a.length := by simp
  have e1 : ((b.map (DV.int .i64)).length : Int) = b.length := by simp
  refine pureCall_ofR dh29 rfl ?_
  conv => whnf
  repeat' (first
    | (refine ⟨fun hg => ?_, fun hg => ?_⟩ <;> first | contradiction | (conv => whnf))
    | (refine Or.inl ?_; conv => whnf)
    | (refine And.intro ?_ ?_; kernel_rfl; conv => whnf))
  · have hg := of_decide_eq_true hg
    rw [e0, e1] at hg
    exact bool_eq (by symm; rw [decide_eq_false_iff_not]; intro e; rw [e] at hg; exact hg rfl)
  · have hg := of_decide_eq_false hg
    rw [e0, e1] at hg
    have hab : a.length = b.length := by omega
    refine dwp_loopR (P := Tryz.prog) (G := GC) (k := dk29_0) (b := db29_0) (α := Nat) (fun i => [(0, iL a), (1, iL b), (5, DV.int .i64 (i))]) (fun _ => []) (fun i => i ≤ a.length ∧ a.take i = b.take i) (fun i => a.length - i) 0 ⟨rfl, rfl, rfl⟩ ⟨Nat.zero_le _, rfl⟩ ?_
    intro i ⟨h1, h2⟩
    conv => whnf
    refine ⟨fun hb => ?_, fun hb => ?_⟩
    · have hi : i < a.length := by simpa using hb
      conv => whnf
      rw [getD_enc _ _ (i) 0 hi]
      refine ⟨idxA hi rfl, ?_⟩
      conv => whnf
      rw [getD_enc _ _ (i) 0 (by omega : i < b.length)]
      refine ⟨idxA (by omega : i < b.length) rfl, ?_⟩
      conv => whnf
      repeat' (first
        | (refine ⟨fun hg => ?_, fun hg => ?_⟩ <;> first | contradiction | (conv => whnf))
        | (refine Or.inl ?_; conv => whnf)
        | (refine And.intro ?_ ?_; kernel_rfl; conv => whnf))
      · have hg := of_decide_eq_true hg
        exact bool_eq (by symm; rw [decide_eq_false_iff_not]; intro e; rw [e] at hg; exact hg rfl)
      · have hg := Classical.not_not.1 (of_decide_eq_false hg)
        rw [wrap_succ i (by omega)]
        exact ⟨i + 1, rfl, rfl, rfl, ⟨hi, by rw [take_snoc a i 0 hi, take_snoc b i 0 (by omega), h2, hg]⟩, by omega⟩
    · have hi : i = a.length := by have := of_decide_eq_false hb; rw [e0] at this; omega
      conv => whnf
      refine bool_eq ?_
      symm
      rw [decide_eq_true_eq]
      rw [hi, List.take_length, hab, List.take_length] at h2
      exact h2
end Sh


set_option maxRecDepth 100000
set_option maxHeartbeats 8000000
set_option linter.unusedSimpArgs false
set_option linter.unusedVariables false
namespace Sh
open Go Go.Proofs
theorem j1 : PC 29 [iL [20, 2], iL [20, 2]] (.bool true) := by have := q_SameInts [20, 2] [20, 2] (by decide); rwa [decide_eq_true rfl] at this
theorem j2 : PC 29 [iL [8, 14], iL [8, 14]] (.bool true) := by have := q_SameInts [8, 14] [8, 14] (by decide); rwa [decide_eq_true rfl] at this
theorem j3 : PC 29 [iL [0, 1], iL [0, 1]] (.bool true) := by have := q_SameInts [0, 1] [0, 1] (by decide); rwa [decide_eq_true rfl] at this
theorem j4 : PC 29 [iL [2, 0, -1], iL [2, 0, -1]] (.bool true) := by have := q_SameInts [2, 0, -1] [2, 0, -1] (by decide); rwa [decide_eq_true rfl] at this
theorem l_awake : PC 14 [] (.bool true) := by
  refine pureCall_ofR dh14 rfl ?_
  conv => whnf
  repeat' (first
  | (refine ⟨fun hg => ?_, fun hg => ?_⟩ <;> first | contradiction | (exfalso; revert hg; decide) | (clear hg; conv => whnf))
  | (refine Or.inl ?_; conv => whnf)
  | (refine ⟨_, l_at .., ?_⟩; conv => whnf)
  | (refine ⟨_, l_wall, ?_⟩; conv => whnf)
  | (refine ⟨_, l_low, ?_⟩; conv => whnf)
  | (refine ⟨_, l_square, ?_⟩; conv => whnf)
  | (refine ⟨_, l_spot .., ?_⟩; conv => whnf)
  | (refine ⟨_, l_ratio .., ?_⟩; conv => whnf)
  | (refine ⟨_, l_tilts, ?_⟩; conv => whnf)
  | (refine ⟨_, k1, ?_⟩; conv => whnf)
  | (refine ⟨_, k2, ?_⟩; conv => whnf)
  | (refine ⟨_, k3, ?_⟩; conv => whnf)
  | (refine ⟨_, k4, ?_⟩; conv => whnf)
  | (refine ⟨_, k5, ?_⟩; conv => whnf)
  | (refine ⟨_, k6, ?_⟩; conv => whnf)
  | (refine ⟨_, k7, ?_⟩; conv => whnf)
  | (refine ⟨_, k8, ?_⟩; conv => whnf)
  | (refine ⟨_, k9, ?_⟩; conv => whnf)
  | (refine ⟨_, k10, ?_⟩; conv => whnf)
  | (refine ⟨_, k11, ?_⟩; conv => whnf)
  | (refine ⟨_, k12, ?_⟩; conv => whnf)
  | (refine ⟨_, k13, ?_⟩; conv => whnf)
  | (refine ⟨_, k14, ?_⟩; conv => whnf)
  | (refine ⟨_, k15, ?_⟩; conv => whnf)
  | (refine ⟨_, k16, ?_⟩; conv => whnf)
  | (refine ⟨_, k17, ?_⟩; conv => whnf)
  | (refine ⟨_, k18, ?_⟩; conv => whnf)
  | (refine ⟨_, k19, ?_⟩; conv => whnf)
  | (refine ⟨_, k20, ?_⟩; conv => whnf)
  | (refine ⟨_, k21, ?_⟩; conv => whnf)
  | (refine ⟨_, k22, ?_⟩; conv => whnf)
  | (refine ⟨_, k23, ?_⟩; conv => whnf)
  | (refine ⟨_, k24, ?_⟩; conv => whnf)
  | (refine ⟨_, k25, ?_⟩; conv => whnf)
  | (refine ⟨_, j1, ?_⟩; conv => whnf)
  | (refine ⟨_, j2, ?_⟩; conv => whnf)
  | (refine ⟨_, j3, ?_⟩; conv => whnf)
  | (refine ⟨_, j4, ?_⟩; conv => whnf)
  | (refine ⟨_, r_SameRatios [(4, 9)] (by decide), ?_⟩; conv => whnf)
  | (refine ⟨_, r_SameShapes [wallL] (by decide) one_len, ?_⟩; conv => whnf)
  | (refine ⟨⟨by decide, by decide, rfl⟩, ?_⟩; conv => whnf)
  | (refine And.intro ?_ ?_; kernel_rfl; conv => whnf))
  all_goals (first | rfl | kernel_rfl)
end Sh


set_option maxRecDepth 100000
set_option maxHeartbeats 2000000
set_option linter.unusedSimpArgs false
set_option linter.unusedVariables false
namespace Sh
open Go Go.Proofs
structure Rw where
  t : Pt
  p : Pt
  s : V3
  i : Int
def encW (r : Rw) : DV := .agg [DV.int .i64 (r.t.x), DV.int .i64 (r.t.y), DV.int .i64 (r.p.x), DV.int .i64 (r.p.y), DV.int .i64 (r.s.x), DV.int .i64 (r.s.y), DV.int .i64 (r.s.z), DV.int .i64 (r.i)]
def i64P (n : Int) : Prop := -9223372036854775808 ≤ n ∧ n ≤ 9223372036854775807
theorem i64_of {n : Int} (h : (Lit.int .i64 n).wf = true) : i64P n := by
  unfold Lit.wf at h
  unfold i64P
  simpa [IntKind.min, IntKind.max, IntKind.signed, IntKind.bits] using h
def shortB (l : List (List V3)) : Bool := (decide ((l.length : Int) ≤ 4) || decide ((l.length : Int) = 9)) && l.all fun s => !decide (7 < (s.length : Int))
theorem r_ShortU (l : List (List V3)) (hl : l.length ≤ 9223372036854775807) : PC 13 [shps l] (.bool (shortB l)) := by
  unfold shortB
  have e0 : ((l.map shp).length : Int) = l.length := by simp
  refine pureCall_ofR dh13 rfl ?_
  conv => whnf
  refine dwp_loopU (P := Tryz.prog) (G := GC) (k := dk13_0) (b := db13_0) (α := Nat) (fun i => [(3, DV.int .i64 (i))]) (fun _ => []) (fun i => i ≤ l.length ∧ ((l.take i).all fun s => !decide (7 < (s.length : Int))) = true) (fun i => l.length - i) 0 ⟨Nat.zero_le _, rfl⟩ ?_
  conv => whnf
  refine ⟨rfl, rfl, ?_⟩
  conv => whnf
  refine ⟨rfl, ?_⟩
  intro i ⟨h1, h2⟩
  conv => whnf
  refine ⟨fun hb => ?_, fun hb => ?_⟩
  · have hi : i < l.length := by simpa using hb
    have e1 : (((l.getD i []).map encV).length : Int) = (l.getD i []).length := by simp
    clear hb
    conv => whnf
    rw [getD_enc _ _ (i) [] hi]
    refine ⟨idxA hi rfl, ?_⟩
    conv => whnf
    repeat' (first
      | (refine ⟨fun hg => ?_, fun hg => ?_⟩ <;> first | contradiction | (conv => whnf))
      | (refine Or.inl ?_; conv => whnf)
      | (refine And.intro ?_ ?_; kernel_rfl; conv => whnf))
    · have hg := of_decide_eq_true hg
      rw [e1] at hg
      have : (l.all fun s => !decide (7 < (s.length : Int))) = false := by
        rw [List.all_eq_false]
        exact ⟨_, getD_in [] hi, by rw [decide_eq_true hg]; simp⟩
      exact bool_eq (by rw [this, Bool.and_false])
    · have hg := of_decide_eq_false hg
      rw [e1] at hg
      rw [show IntKind.i64.wrap ((i : Int) + 1) = ((i + 1 : Nat) : Int) from by rw [wrap_in (by omega) (by omega)]; omega]
      refine ⟨i + 1, rfl, rfl, rfl, ⟨hi, ?_⟩, by omega⟩
      rw [take_snoc l i [] hi, List.all_append, h2]
      simp only [List.all_cons, List.all_nil, decide_eq_false hg]; rfl
  · have hi : i = l.length := by have := of_decide_eq_false hb; rw [e0] at this; omega
    rw [hi, List.take_length] at h2
    clear hb
    conv => whnf
    repeat' (first
      | (refine ⟨fun hg => ?_, fun hg => ?_⟩ <;> first | contradiction | (conv => whnf))
      | (refine Or.inl ?_; conv => whnf)
      | (refine And.intro ?_ ?_; kernel_rfl; conv => whnf))
    all_goals
      refine bool_eq ?_
      rw [h2, Bool.and_true]
      rw [e0] at hg
      first
        | (rw [show decide ((l.length : Int) ≤ 4) = true from hg]; rfl)
        | (rw [show decide ((l.length : Int) ≤ 4) = false from hg, e0]; rfl)
theorem short_spec {l : List (List V3)} (h : shortB l = true) : l.length ≤ 9 ∧ ∀ s ∈ l, s.length ≤ 7 := by
  unfold shortB at h
  rw [Bool.and_eq_true, Bool.or_eq_true, decide_eq_true_eq, decide_eq_true_eq, List.all_eq_true] at h
  refine ⟨by omega, fun s hs => ?_⟩
  have := h.2 s hs
  rw [Bool.not_eq_true', decide_eq_false_iff_not] at this
  omega
theorem short_len {l : List (List V3)} (h : shortB l = true) : l.length < 1073741824 ∧ (∀ s ∈ l, s.length < 1073741824) ∧ (l.getD 0 []).length < 1073741824 := by
  obtain ⟨h1, h2⟩ := short_spec h
  refine ⟨by omega, fun s hs => by have := h2 s hs; omega, ?_⟩
  cases l with
  | nil => decide
  | cons a r => have := h2 a (List.mem_cons_self ..); show a.length < _; omega
theorem dec_same {α : Type} [DecidableEq α] (a : α) : decide (a = a) = true := decide_eq_true rfl
end Sh


set_option maxRecDepth 100000
set_option linter.unusedVariables false
namespace Sh
open Go Go.Proofs Go.Proofs.YtkaglomkahhjcaaGreatDoor
section
variable {P : Program} {H : Type} {enc : TypeId × Value → H} {W : World}
theorem opens_struct4 {t : TypeId} {f0 f1 f2 f3 : Field} {α β γ δ : Type} {e0 : α → List DV} {B0 : α → Prop} {e1 : β → List DV} {B1 : β → Prop} {e2 : γ → List DV} {B2 : γ → Prop} {e3 : δ → List DV} {B3 : δ → Prop} (ht : P.underlying t = some (.struct #[f0, f1, f2, f3])) (c0 c1 c2 c3 : Nat)
    (h0 : P.cellsOf f0.type = c0) (h1 : P.cellsOf f1.type = c1) (h2 : P.cellsOf f2.type = c2) (h3 : P.cellsOf f3.type = c3) (hc : P.cellsOf t = c0 + (c1 + (c2 + c3))) (o0 : f0.offset = 0) (o1 : f1.offset = c0) (o2 : f2.offset = c0 + c1) (o3 : f3.offset = c0 + c1 + c2)
    (k0 : Opens enc P W f0.type e0 B0) (k1 : Opens enc P W f1.type e1 B1) (k2 : Opens enc P W f2.type e2 B2) (k3 : Opens enc P W f3.type e3 B3) :
    Opens enc P W t (fun a : α × β × γ × δ => e0 a.1 ++ (e1 a.2.1 ++ (e2 a.2.2.1 ++ e3 a.2.2.2))) (fun a => B0 a.1 ∧ B1 a.2.1 ∧ B2 a.2.2.1 ∧ B3 a.2.2.2) := by
  intro base sp hd fuel cs x hx
  obtain ⟨xs, n, _, _, hl, hlen, hf⟩ := DataW.trod_struct ht hx
  match xs, hlen with
  | [y0, y1, y2, y3], _ =>
    have r0 := hf 0 f0 rfl
    have r1 := hf 1 f1 rfl
    have r2 := hf 2 f2 rfl
    have r3 := hf 3 f3 rfl
    rw [h0, o0] at r0
    rw [h1, o1] at r1
    rw [h2, o2] at r2
    rw [h3, o3] at r3
    rw [hc] at hl
    obtain ⟨a, a1, a2⟩ := k0 _ _ _ _ _ _ r0
    obtain ⟨b, b1, b2⟩ := k1 _ _ _ _ _ _ r1
    obtain ⟨c, d1, d2⟩ := k2 _ _ _ _ _ _ r2
    obtain ⟨d, f1, f2⟩ := k3 _ _ _ _ _ _ r3
    refine ⟨(a, b, c, d), ?_, a2, b2, d2, f2⟩
    have h4 := a1.append (b1.append (d1.append f1))
    have e4 : (cs.drop (c0 + c1)).take c2 ++ (cs.drop (c0 + c1 + c2)).take c3 = cs.drop (c0 + c1) := by
      have := split2 (cs := cs.drop (c0 + c1)) (c0 := c2) (c1 := c3) (by simp; omega)
      rwa [List.drop_drop, List.drop_drop, Nat.add_zero] at this
    have e3 : (cs.drop c0).take c1 ++ cs.drop (c0 + c1) = cs.drop c0 := by
      rw [← List.drop_drop, List.take_append_drop]
    rw [e4, e3, List.drop_zero, List.take_append_drop] at h4
    exact h4
theorem known_struct1 {t : TypeId} {f0 : Field} {x0 : DataW H} {d0 : List DV} (ht : P.underlying t = some (.struct #[f0])) (c0 : Nat)
    (h0 : P.cellsOf f0.type = c0) (hc : P.cellsOf t = c0) (o0 : f0.offset = 0) (k0 : Known enc P W f0.type x0 d0) : Known enc P W t (.agg [x0]) d0 := by
  intro base sp fuel cs p hx
  obtain ⟨y0, n, e, hl, r0⟩ := ChangeShapes.trod_struct1 ht hx
  simp only [Prod.mk.injEq, DataW.agg.injEq, List.cons.injEq, and_true] at e
  obtain ⟨e0, _⟩ := e
  rw [h0, o0] at r0
  rw [hc] at hl
  have a1 := k0 _ _ _ _ y0.2 (by rw [r0, e0])
  rwa [List.drop_zero, List.take_of_length_le (by omega)] at a1
end
theorem A_laid : laidOutB Tryz.prog = true := by kernel_rfl
theorem own : ownKnob Tryz.prog.godebug = none := by kernel_rfl
theorem cl3 : Tryz.prog.cellsOf 3 = 1 := by kernel_rfl
theorem cl41 : Tryz.prog.cellsOf 41 = 1 := by kernel_rfl
theorem cl24 : Tryz.prog.cellsOf 24 = 3 := by kernel_rfl
theorem cl32 : Tryz.prog.cellsOf 32 = 1 := by kernel_rfl
theorem cl26 : Tryz.prog.cellsOf 26 = 2 := by kernel_rfl
theorem cl52 : Tryz.prog.cellsOf 52 = 4 := by kernel_rfl
theorem cl95 : Tryz.prog.cellsOf 95 = 8 := by kernel_rfl
theorem cl168 : Tryz.prog.cellsOf 168 = 1 := by kernel_rfl
theorem cl169 : Tryz.prog.cellsOf 169 = 2 := by kernel_rfl
section
variable {H : Type} {enc : TypeId × Value → H} {W : World}
theorem opPt : Opens enc Tryz.prog W 26 (fun p : Pt => (encPt p).cells) (fun p => i64P p.x ∧ i64P p.y) :=
  (opens_struct2 Tryz.underlying26 1 1 cl3 cl3 cl26 rfl rfl (opens_int Tryz.underlying3) (opens_int Tryz.underlying3)).map (fun a => Pt.mk a.1 a.2) (fun _ => rfl) (fun _ h => ⟨i64_of h.1, i64_of h.2⟩)
theorem opV3 : Opens enc Tryz.prog W 24 (fun v : V3 => (encV v).cells) (fun v => i64P v.x ∧ i64P v.y ∧ i64P v.z) :=
  (opens_struct3 Tryz.underlying24 1 1 1 cl3 cl3 cl3 cl24 rfl rfl rfl (opens_int Tryz.underlying3) (opens_int Tryz.underlying3) (opens_int Tryz.underlying3)).map (fun a => V3.mk a.1 a.2.1 a.2.2) (fun _ => rfl) (fun _ h => ⟨i64_of h.1, i64_of h.2.1, i64_of h.2.2⟩)
theorem opShp : Opens enc Tryz.prog W 32 (fun s : List V3 => [shp s]) (fun s => s.length ≤ 9223372036854775807) :=
  (opens_slice Tryz.underlying32 3 cl24 (by decide) opV3).map id (fun _ => rfl) (fun _ h => h.1)
theorem opShps : Opens enc Tryz.prog W 22 (fun l : List (List V3) => [shps l]) (fun l => l.length ≤ 9223372036854775807) :=
  (opens_slice Tryz.underlying22 1 cl32 (by decide) (f := shp) opShp).map id (fun _ => rfl) (fun _ h => h.1)
theorem opPts : Opens enc Tryz.prog W 54 (fun l : List Pt => [pts l]) (fun l => l.length ≤ 9223372036854775807) :=
  (opens_slice Tryz.underlying54 2 cl26 (by decide) opPt).map id (fun _ => rfl) (fun _ h => h.1)
theorem opBx : Opens enc Tryz.prog W 52 (fun c : Bx => (encB c).cells) (fun _ => True) :=
  (opens_struct2 Tryz.underlying52 2 2 cl26 cl26 cl52 rfl rfl opPt opPt).map (fun a => Bx.mk a.1 a.2) (fun _ => rfl) (fun _ _ => trivial)
theorem opCells : Opens enc Tryz.prog W 50 (fun l : List Bx => [cels l]) (fun l => l.length ≤ 9223372036854775807) :=
  (opens_slice Tryz.underlying50 4 cl52 (by decide) opBx).map id (fun _ => rfl) (fun _ h => h.1)
theorem opRow : Opens enc Tryz.prog W 95 (fun r : Rw => (encW r).cells) (fun r => i64P r.i) :=
  (opens_struct4 Tryz.underlying95 2 2 3 1 cl26 cl26 cl24 cl3 cl95 rfl rfl rfl rfl opPt opPt opV3 (opens_int Tryz.underlying3)).map (fun a => Rw.mk a.1 a.2.1 a.2.2.1 a.2.2.2) (fun _ => rfl) (fun _ h => i64_of h.2.2.2)
end
theorem known_axis {W : World} {b : UInt8} {r : List UInt8} {f0 : FuncId} (hone : ((List.range Tryz.prog.funcs.size).filter fun f => (Tryz.prog.funcs[f]?).any (·.name.toUTF8.data.toList == b :: r)) = [f0]) :
    Known (funcToken Tryz.prog) Tryz.prog W 168 (.agg [.held (b :: r)]) [.func f0 []] :=
  known_struct1 Tryz.underlying168 1 cl41 cl168 rfl (known_func Tryz.underlying41 hone)
def aName (k : UInt8) : List UInt8 := [111, 109, 98, 105, 110, 101, 114, 47, 115, 104, 97, 100, 101, 46, 97, 120, 101, 115, 36, k]
def axesX : List (DataW (List UInt8)) := [.agg [.held (99 :: aName 49)], .agg [.held (99 :: aName 50)]]
def axesD : List (List DV) := [[.func 214 []], [.func 215 []]]
theorem known_axes {W : World} : Known (funcToken Tryz.prog) Tryz.prog W 169 (.agg axesX) axesD.flatten := by
  refine known_array (c := 1) Tryz.underlying169 cl168 cl169 rfl ?_
  intro i x ds e1 e2
  match i, e1, e2 with
  | 0, e1, e2 => cases Option.some.inj e1; cases Option.some.inj e2; exact known_axis (by kernel_rfl)
  | 1, e1, e2 => cases Option.some.inj e1; cases Option.some.inj e2; exact known_axis (by kernel_rfl)
section
variable {L : List (String × DataW Unit)}
theorem axes_at (hm : ("combiner/shade.axes", Rows.laid_combiner_shade_axes) ∈ L) {W : World} (h : laidMetH Tryz.prog L W) : ∃ cs : Array Value, W.var? Tryz.prog "combiner/shade.axes" = some cs ∧ RelL (memOf W) axesD.flatten cs.toList := by
  obtain ⟨g, t, cs, fuel, p, hg, ht, hv, hd⟩ := h.funcs (n := "combiner/shade.axes") hm
  obtain rfl := Option.some.inj ((show Tryz.prog.globalNamed "combiner/shade.axes" = some 0 by kernel_rfl).symm.trans hg)
  obtain rfl := Option.some.inj ((show (Tryz.prog.globals[0]?).map (·.type) = some 169 by kernel_rfl).symm.trans ht)
  have hd' : DataW.trod (funcToken Tryz.prog) Tryz.prog W 0 (fun _ => true) true fuel 169 cs.toList = some (.agg axesX, p) := hd
  exact ⟨cs, hv, known_axes _ _ _ _ _ hd'⟩
theorem pow_at (e : (L.filter fun x => x.1 == "internal/strconv.uint64pow10") = [("internal/strconv.uint64pow10", Lib.tabData .u64 Lib.pow10Tab)]) {W : World} (h : laidMetH Tryz.prog L W) : Lib.TabIs Tryz.prog W "internal/strconv.uint64pow10" .u64 Lib.pow10Tab := by
  have h1 := h.filter fun x => x.1 == "internal/strconv.uint64pow10"
  rw [e, MakeChecks.laidMetH_plain _ _ _ (by kernel_rfl)] at h1
  exact Lib.tabIs_of_head (g := 1) (t := 232) (e := 223) (n := 20) (by kernel_rfl) (by kernel_rfl) Tryz.underlying232 Tryz.underlying223 (by kernel_rfl) (by kernel_rfl) h1
theorem len_at {W : World} (hsh : W.ShapedOpen Tryz.prog) : (∃ m, W.cell? ⟨2, 0, none⟩ = some (.int .i64 m)) ∧ blockLen W 2 = some 1 :=
  open_var (t := 3) (zero := #[.int .i64 0]) hsh (of_decide_eq_true (by kernel_rfl)) (by kernel_rfl) rfl (by kernel_rfl) (by kernel_rfl) Tryz.underlying3
theorem gokC (hm : ("combiner/shade.axes", Rows.laid_combiner_shade_axes) ∈ L) (e : (L.filter fun x => x.1 == "internal/strconv.uint64pow10") = [("internal/strconv.uint64pow10", Lib.tabData .u64 Lib.pow10Tab)]) {W : World} (h : laidMetH Tryz.prog L W) (hsh : W.ShapedOpen Tryz.prog) : GOk GC (memOf W) ∧ Tabs GC W := by
  obtain ⟨cs, hv, hr⟩ := axes_at hm h
  have hp := pow_at e h
  have hm := len_at hsh
  unfold Lib.TabIs at hp
  have g0 : Tryz.prog.globalNamed "combiner/shade.axes" = some 0 := by kernel_rfl
  have g2 : Tryz.prog.globalNamed "internal/strconv.uint64pow10" = some 1 := by kernel_rfl
  refine ⟨fun g d hg => ?_, fun g d hg => ?_⟩
  all_goals unfold GC at hg
  all_goals split at hg
  · next e =>
    subst e
    obtain rfl := Option.some.inj hg
    exact gok_of (cs := cs) (fun i => World.var?_cell g0 hv i) hr
  · split at hg
    · next e =>
      subst e
      obtain rfl := Option.some.inj hg
      exact gok_of (fun i => World.var?_cell g2 hp i) (by simpa using relL_ints Lib.pow10Tab)
    · split at hg
      · next e =>
        subst e
        obtain rfl := Option.some.inj hg
        exact gok_open hm.1
      · cases hg
  · next e =>
    subst e
    obtain rfl := Option.some.inj hg
    refine ⟨?_, fun ho => by cases ho⟩
    rw [len_of g0 hv, ← Array.length_toList, ← hr.1]
    rfl
  · split at hg
    · next e =>
      subst e
      obtain rfl := Option.some.inj hg
      refine ⟨?_, fun ho => by cases ho⟩
      rw [len_of g2 hp]
      rfl
    · split at hg
      · next e =>
        subst e
        obtain rfl := Option.some.inj hg
        exact ⟨hm.2, fun _ => hm.1⟩
      · cases hg
end
noncomputable def startW (os : Os) : World := (World.doorLaid Tryz.prog 600 os).layVars Tryz.prog [("unicode/utf8.first", Go.Pinned.utf8First)]
end Sh

