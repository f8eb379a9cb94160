/-
  The card of TradeSettles: versions, prices and settlements. Whatever the arguments are, the law returns true and they read as before. No condition but the card's own: the listed package-level variables hold what the program's text lays.
-/
import Derived.Test.YtjgckckimeldeaaGreatDoorP7
set_option maxRecDepth 100000
set_option linter.unusedVariables false
set_option linter.unusedSimpArgs false
namespace Go.Proofs.YtjgckckimeldeaaGreatDoor.tradeSettles
open Go.ChangeShapes Go.WideShapes Go.ChangeAt Go.RowKit
open Sh (GC)
theorem door_met (os : Os) (args : Array Value) : laidMetH Tryz.prog Rows.tradeSettlesRow.laid ((Sh.startW os).forCall (fun _ _ => 0) ⟨#[], args, []⟩).memory :=
  laidMetH_of_parts3 (fuel := 8) (laidMet_of_run' 8 (by kernel_rfl) (by kernel_rfl)) (by kernel_rfl) (by kernel_rfl)
/-- WHAT THE WALK GIVES, FOR EVERY ARGUMENT AND EVERY WORLD THAT HOLDS THE TABLES. -/
theorem contract (H : Type) (enc : TypeId × Value → H) (W : World) (base : Nat) (args : Array Value) (ds gs : List (DataW H)) (before : List MemPlace)
    (hval : ∀ (j : Nat) t v, Tryz.f7.params[j]? = some t → args[j]? = some v → Value.okWide Tryz.prog W .any base t v)
    (hW : DataW.Whole enc Tryz.prog Tryz.f7.params.toList Rows.tradeSettlesSpec.vars false W args.toList ds gs before) (hL : laidMetH Tryz.prog Rows.tradeSettlesRow.laid W) (hsh : W.ShapedOpen Tryz.prog) :
    Calls Tryz.prog 7 args W fun e W' => ∃ v, e = .returned v ∧ Rows.tradeSettlesSpec.post enc Tryz.prog Tryz.f7 false true false false W args v W' := by
  have hW' := hW
  have hlt : ∀ p ∈ before, p.block < W.heap.size := fun p hp => hW.lt p hp
  obtain ⟨p, q, hA0, hV, rfl, hfz, hnd⟩ := hW
  have hA : DataW.TrodAll enc Tryz.prog W 0 (fun _ => true) true Tryz.f7.params.toList args.toList ds p := hA0
  rw [Tryz.params7] at hA hval
  obtain ⟨v0, v1, v2, d0, d1, d2, p0, p1, p2, rfl, rfl, rfl, h0, h1, h2⟩ := trodAll_three hA
  obtain ⟨rfl, rfl⟩ := trodVars_none hV
  obtain ⟨a0, r0, b0⟩ := Sh.arg_slice Tryz.underlying92 Sh.opVrs (hval 0 92 v0 rfl rfl) h0
  obtain ⟨a1, rfl, b1⟩ := Sh.arg_int Tryz.underlying3 (hval 1 3 v1 rfl rfl) h1
  have r1 : Sh.RelP (Sh.memOf W) (.int .i64 a1) (.int .i64 a1) := .int _ _
  obtain ⟨a2, r2, b2⟩ := Sh.arg_struct Tryz.underlying94 Sh.opPd (hval 2 94 v2 rfl rfl) h2
  have hr : Sh.RelPs (Sh.memOf W) [Sh.vrV a0, .int .i64 a1, Sh.encPd a2.1 a2.2.1 a2.2.2] _ := Sh.relPs_of (.cons r0 (.cons r1 (.cons r2 (.nil))))
  obtain ⟨g1, g2⟩ := Sh.gokC (L := Rows.tradeSettlesRow.laid) (W := W) (by kernel_rfl) (by kernel_rfl) (by kernel_rfl) hL hsh
  refine (Sh.calls_of_pure (Sh.l_TradeSettles Sh.l_awake a0 a1 a2) g1 g2 hr).mono fun e W' ⟨v, M', he, _, hrel, hb⟩ => ?_
  cases hrel
  subst he
  exact ⟨_, rfl, Sh.postOfBelow (pv := []) hW' (fun _ _ _ => trodAll_mk1 (shut_bool Tryz.underlying4 _)) (fun sp hsp => Sh.trodAll_stays Sh.A_laid hb hA0 (by rw [Tryz.params7]; kernel_rfl) (fun x hx => hlt x (List.mem_append_left _ hx)) (fun x hx => hsp x (List.mem_append_left _ hx))) (fun _ _ => rfl) rfl hb
    (ok_one (by kernel_rfl) rfl (okWide_bool_mk Tryz.underlying4 _))⟩

theorem lifted (os : Os) (started : os.Started) (H : Type) (enc : TypeId × Value → H) :
    ReturnsInHanded {} Tryz.checked os 7 .any (fun w args => (Rows.tradeSettlesSpec.pre enc Tryz.prog Tryz.f7 [] false w args ∧ laidMetH Tryz.prog Rows.tradeSettlesRow.laid w) ∧ sizedMet enc Tryz.prog Tryz.f7 (OpenSpec.ofChange Rows.tradeSettlesSpec) false w args)
      (Rows.tradeSettlesSpec.post enc Tryz.prog Tryz.f7 false true false false) := by
  refine Sh.handed_shaped (C := Tryz.checked) (X := fun w _ => laidMetH Tryz.prog Rows.tradeSettlesRow.laid w) (fun _ _ _ hh h => h.of_heap hh) Sh.own started (by kernel_rfl) Tryz.func7
    (ChangeSpec.witness_shaped (enc := enc) (C := Tryz.checked) (os := os) (X := fun w _ => laidMetH Tryz.prog Rows.tradeSettlesRow.laid w) false (Sh.startW os) #[.slice none 0 0, .int .i64 0, .agg #[.slice none 0 0, .slice none 0 0, .int .i64 0]] 8 rfl (World.shaped_of_RefB (by kernel_rfl) (by kernel_rfl)) (by kernel_rfl) (by kernel_rfl) (by kernel_rfl) (door_met os _)) ?_
  intro W base args ds gs before hval hW hL hsh
  exact contract H enc W base args ds gs before hval hW hL hsh

theorem jf0 : (Rows.tradeSettlesRow.wf (OpenSpec.ofChange Rows.tradeSettlesSpec)) = true := by kernel_rfl
theorem jf3 : (Tryz.f7.params.all (Tryz.prog.readableRec ·)) = true := by kernel_rfl
theorem jf4 : (namedTie Tryz.prog Rows.tradeSettlesRow.named Rows.tradeSettlesSpec.vars) = true := by kernel_rfl
theorem jf5 : ((Rows.tradeSettlesRow.stops == [])) = true := by kernel_rfl
theorem jf6 : ((Tryz.prog.stops == [])) = true := by kernel_rfl
theorem jf7 : ((Rows.tradeSettlesRow.knobs == [])) = true := by kernel_rfl
theorem jf8 : ((Tryz.prog.stopKnobs == [])) = true := by kernel_rfl
theorem jf9 : ((Rows.tradeSettlesRow.inPlace == Tryz.prog.inPlace 7)) = true := by kernel_rfl
theorem jf10 : ((Rows.tradeSettlesRow.unfollowed == Tryz.prog.unfollowed 7)) = true := by kernel_rfl
theorem jf11 : ((Rows.tradeSettlesRow.recurses == Tryz.prog.recurses 7)) = true := by kernel_rfl
theorem jf12 : ((Rows.tradeSettlesRow.named == Tryz.prog.varsNamed 7)) = true := by kernel_rfl
theorem jf13 : ((Rows.tradeSettlesRow.maps == (Tryz.f7.params.toList ++ Rows.tradeSettlesSpec.plain.varTypes Tryz.prog).any (Tryz.prog.mapsRec ·))) = true := by kernel_rfl
theorem jf14 : ((Rows.tradeSettlesRow.ifaces == (Tryz.f7.params.toList ++ Rows.tradeSettlesSpec.plain.varTypes Tryz.prog).any (Tryz.prog.ifacesRec ·))) = true := by kernel_rfl
theorem jf15 : ((Rows.tradeSettlesRow.mapsOut == Tryz.prog.mapsAmong Tryz.f7.resultTypes.toList)) = true := by kernel_rfl
theorem jf16 : ((Rows.tradeSettlesRow.loops == (Tryz.f7.params.toList ++ Rows.tradeSettlesSpec.plain.varTypes Tryz.prog).any (Tryz.prog.loopsFrom ·))) = true := by kernel_rfl
theorem jf17 : ((Rows.tradeSettlesRow.wideKeys == (Tryz.f7.params.toList ++ Rows.tradeSettlesSpec.plain.varTypes Tryz.prog ++ Tryz.f7.resultTypes.toList).any (Tryz.prog.wideKeysFrom ·))) = true := by kernel_rfl
theorem jf18 : (Rows.tradeSettlesSpec.vars.all (Tryz.prog.varReadable ·)) = true := by kernel_rfl
theorem jf19 : (Tryz.f7.resultTypes.all (fun t => Tryz.prog.readableRec t && decide (t < Tryz.prog.types.size))) = true := by kernel_rfl
theorem jf20 : ((Rows.tradeSettlesRow.ifacesOut == Tryz.f7.resultTypes.toList.any (Tryz.prog.ifacesRec ·))) = true := by kernel_rfl
theorem jf21 : ((Rows.tradeSettlesRow.loopsOut == Tryz.f7.resultTypes.toList.any (Tryz.prog.loopsFrom ·))) = true := by kernel_rfl
theorem jf23 : (Rows.tradeSettlesRow.shortTexts.isNone) = true := by kernel_rfl
theorem jf28 : ((Rows.tradeSettlesRow.kinds == (if Rows.tradeSettlesRow.domain.isEmpty then [] else Tryz.f7.params.toList.map fun t => match Tryz.prog.underlying t with | some (.int k) => some k | _ => none))) = true := by kernel_rfl
theorem jf29 : ((Rows.tradeSettlesRow.pinned == Rows.tradeSettlesRow.pinnedBy)) = true := by kernel_rfl
theorem jf30 : ((Rows.tradeSettlesRow.veiled == (Tryz.f7.params.toList ++ Rows.tradeSettlesSpec.plain.varTypes Tryz.prog ++ Tryz.f7.resultTypes.toList).any (Tryz.prog.veiledRec ·))) = true := by kernel_rfl
theorem jf31 : (Rows.tradeSettlesRow.veiledFits Tryz.prog Tryz.f7.params.toList (Tryz.f7.params.toList ++ Rows.tradeSettlesSpec.plain.varTypes Tryz.prog ++ Tryz.f7.resultTypes.toList)) = true := by kernel_rfl
theorem closed : joinedFacts Tryz.prog 7 Tryz.f7 Rows.tradeSettlesSpec Rows.tradeSettlesRow = true := Sh.ajI (Sh.ajI (Sh.ajI (Sh.ajI (Sh.ajI (Sh.ajI (Sh.ajI (Sh.ajI (Sh.ajI (Sh.ajI (Sh.ajI (Sh.ajI (Sh.ajI (Sh.ajI (Sh.ajI (Sh.ajI (Sh.ajI (Sh.ajI (Sh.ajI (Sh.ajI (Sh.ajI (Sh.ajI (Sh.ajI (Sh.ajI (Sh.ajI (Sh.ajI (Sh.ajI (Sh.ajI (Sh.ajI (Sh.ajI (Sh.ajI jf0 Sh.A_laid) Sh.J_maps) jf3) jf4) jf5) jf6) jf7) jf8) jf9) jf10) jf11) jf12) jf13) jf14) jf15) jf16) jf17) jf18) jf19) jf20) jf21) Sh.J_keys) jf23) Sh.J_heard) Sh.J_enter) Sh.J_lift) Sh.J_make) jf28) jf29) jf30) jf31
theorem said : Rows.TradeSettlesSaid :=
  OpenClaim.holds_of_wide 7 Tryz.f7 rfl rfl rfl rfl rfl rfl rfl ⟨rfl, rfl, rfl, rfl, rfl⟩ rfl rfl rfl rfl rfl (by kernel_rfl) Tryz.func7 closed
    (of_decide_eq_true (by kernel_rfl)) (by unfold Func.isWrapper; first | (rw [if_pos (by decide +kernel)]; kernel_rfl) | (rw [if_neg (by decide +kernel)]; exact ⟨rfl, rfl⟩))
    (fun os started H enc _ => lifted os started H enc)

theorem plain (f : FuncId) (fn : Func) (hf : Tryz.pinned.checked.prog.funcNamed "combiner/combinerlaw09.TradeSettles" = some f) (hfn : Tryz.pinned.checked.prog.funcs[f]? = some fn) :
    false = Tryz.pinned.checked.prog.looks [] ∧ ∀ (j : Nat) t, fn.params[j]? = some t → Tryz.pinned.checked.prog.wantsStandIn t = false := by
  obtain rfl : f = 7 := Option.some.inj ((show Tryz.prog.funcNamed "combiner/combinerlaw09.TradeSettles" = some 7 by kernel_rfl).symm.trans hf) |>.symm
  obtain rfl : fn = Tryz.f7 := (Option.some.inj (Tryz.func7.symm.trans hfn)).symm
  refine ⟨by kernel_rfl, fun j t ht => ?_⟩
  rw [Tryz.params7] at ht
  have hm : t ∈ [92, 3, 94] := by simpa using Array.mem_of_getElem? ht
  have hall : ([92, 3, 94].all fun u => !Tryz.prog.wantsStandIn u) = true := by kernel_rfl
  exact (show Tryz.prog.wantsStandIn t = false by simpa using List.all_eq_true.1 hall t hm)

/-- ████ THE CARD ████ -/
theorem card : Rows.TradeSettlesCardSaid :=
  Claim7.holds_tied_plain_at .later [] _ _ _ _ said (fun _ h => by cases h) (by kernel_rfl) (fun _ h => by cases h) tradeSettles_row_tie rfl ⟨rfl, rfl⟩ (by kernel_rfl) rfl plain (by kernel_rfl)
#print axioms card
end Go.Proofs.YtjgckckimeldeaaGreatDoor.tradeSettles
