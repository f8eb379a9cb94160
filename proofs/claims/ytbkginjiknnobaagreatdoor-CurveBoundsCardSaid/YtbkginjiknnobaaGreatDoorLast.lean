/-
  The card of CurveBounds: Bounds returns the interval or the error of the reference. Whatever the arguments are, the law returns true and they read as before. No condition but the card's own: the listed package-level variables hold what the program's text lays.
-/
import Derived.Test.YtbkginjiknnobaaGreatDoorP7
set_option maxRecDepth 100000
set_option linter.unusedVariables false
set_option linter.unusedSimpArgs false
namespace Go.Proofs.YtbkginjiknnobaaGreatDoor.curveBounds
open Go.ChangeShapes Go.WideShapes Go.ChangeAt Go.RowKit
open Sh (GC)
theorem door_met (os : Os) (args : Array Value) : laidMetH Tryz.prog Rows.curveBoundsRow.laid ((World.doorLaid Tryz.prog 600 os).forCall (fun _ _ => 0) ⟨#[], args, []⟩).memory :=
  laidMetH_of_parts3 (fuel := 8) (laidMet_of_run' 8 (by kernel_rfl) (by kernel_rfl)) (by kernel_rfl) (by kernel_rfl)
/-- WHAT THE WALK GIVES, FOR EVERY ARGUMENT AND EVERY WORLD THAT HOLDS THE TABLES. -/
theorem contract (H : Type) (enc : TypeId × Value → H) (W : World) (base : Nat) (args : Array Value) (ds gs : List (DataW H)) (before : List MemPlace)
    (hval : ∀ (j : Nat) t v, Tryz.f6.params[j]? = some t → args[j]? = some v → Value.okWide Tryz.prog W .any base t v)
    (hW : DataW.Whole enc Tryz.prog Tryz.f6.params.toList Rows.curveBoundsSpec.vars false W args.toList ds gs before) (hL : laidMetH Tryz.prog Rows.curveBoundsRow.laid W) (hsh : W.ShapedOpen Tryz.prog) :
    Calls Tryz.prog 6 args W fun e W' => ∃ v, e = .returned v ∧ Rows.curveBoundsSpec.post enc Tryz.prog Tryz.f6 false true false false W args v W' := by
  have hW' := hW
  have hlt : ∀ p ∈ before, p.block < W.heap.size := fun p hp => hW.lt p hp
  obtain ⟨p, q, hA0, hV, rfl, hfz, hnd⟩ := hW
  have hA : DataW.TrodAll enc Tryz.prog W 0 (fun _ => true) true Tryz.f6.params.toList args.toList ds p := hA0
  rw [Tryz.params6] at hA hval
  obtain ⟨v0, v1, v2, d0, d1, d2, p0, p1, p2, rfl, rfl, rfl, h0, h1, h2⟩ := trodAll_three hA
  obtain ⟨rfl, rfl⟩ := trodVars_none hV
  obtain ⟨a0, r0, b0⟩ := Sh.arg_slice Tryz.underlying62 Sh.opFld (hval 0 62 v0 rfl rfl) h0
  obtain ⟨a1, rfl, b1⟩ := Sh.arg_int Tryz.underlying3 (hval 1 3 v1 rfl rfl) h1
  have r1 : Sh.RelP (Sh.memOf W) (.int .i64 a1) (.int .i64 a1) := .int _ _
  obtain ⟨a2, rfl, b2⟩ := Sh.arg_int Tryz.underlying3 (hval 2 3 v2 rfl rfl) h2
  have r2 : Sh.RelP (Sh.memOf W) (.int .i64 a2) (.int .i64 a2) := .int _ _
  have hr : Sh.RelPs (Sh.memOf W) [Sh.fld a0, .int .i64 a1, .int .i64 a2] _ := Sh.relPs_of (.cons r0 (.cons r1 (.cons r2 (.nil))))
  obtain ⟨g1, g2⟩ := Sh.gokC (L := Rows.curveBoundsRow.laid) (W := W) (by repeat (first | exact List.Mem.head _ | apply List.Mem.tail)) (by kernel_rfl) hL hsh
  refine (Sh.calls_of_pure (Sh.l_CurveBounds Sh.l_awake a0 a1 a2) g1 g2 hr).mono fun e W' ⟨v, M', he, _, hrel, hb⟩ => ?_
  cases hrel
  subst he
  exact ⟨_, rfl, Sh.postOfBelow (pv := []) hW' (fun _ _ _ => trodAll_mk1 (shut_bool Tryz.underlying4 _)) (fun sp hsp => Sh.trodAll_stays Sh.A_laid hb hA0 (by rw [Tryz.params6]; kernel_rfl) (fun x hx => hlt x (List.mem_append_left _ hx)) (fun x hx => hsp x (List.mem_append_left _ hx))) (fun _ _ => rfl) rfl hb
    (ok_one (by kernel_rfl) rfl (okWide_bool_mk Tryz.underlying4 _))⟩

theorem lifted (os : Os) (started : os.Started) (H : Type) (enc : TypeId × Value → H) :
    ReturnsInHanded {} Tryz.checked os 6 .any (fun w args => (Rows.curveBoundsSpec.pre enc Tryz.prog Tryz.f6 [] false w args ∧ laidMetH Tryz.prog Rows.curveBoundsRow.laid w) ∧ sizedMet enc Tryz.prog Tryz.f6 (OpenSpec.ofChange Rows.curveBoundsSpec) false w args)
      (Rows.curveBoundsSpec.post enc Tryz.prog Tryz.f6 false true false false) := by
  refine Sh.handed_shaped (C := Tryz.checked) (X := fun w _ => laidMetH Tryz.prog Rows.curveBoundsRow.laid w) (fun _ _ _ hh h => h.of_heap hh) Sh.own started (by kernel_rfl) Tryz.func6
    (ChangeSpec.witness_shaped (enc := enc) (C := Tryz.checked) (os := os) (X := fun w _ => laidMetH Tryz.prog Rows.curveBoundsRow.laid w) false (World.doorLaid Tryz.prog 600 os) #[.slice none 0 0, .int .i64 0, .int .i64 0] 8 rfl (World.shaped_of_RefB (by kernel_rfl) (by kernel_rfl)) (by kernel_rfl) (by kernel_rfl) (by kernel_rfl) (door_met os _)) ?_
  intro W base args ds gs before hval hW hL hsh
  exact contract H enc W base args ds gs before hval hW hL hsh

theorem said : Rows.CurveBoundsSaid :=
  OpenClaim.holds_of_wide 6 Tryz.f6 rfl rfl rfl rfl rfl rfl rfl ⟨rfl, rfl, rfl, rfl, rfl⟩ rfl rfl rfl rfl rfl (by kernel_rfl) Tryz.func6 (by kernel_rfl)
    (of_decide_eq_true (by kernel_rfl)) (by unfold Func.isWrapper; first | (rw [if_pos (by decide +kernel)]; kernel_rfl) | (rw [if_neg (by decide +kernel)]; exact ⟨rfl, rfl⟩))
    (fun os started H enc _ => lifted os started H enc)

theorem plain (f : FuncId) (fn : Func) (hf : Tryz.pinned.checked.prog.funcNamed "combiner/combinerlaw04.CurveBounds" = some f) (hfn : Tryz.pinned.checked.prog.funcs[f]? = some fn) :
    false = Tryz.pinned.checked.prog.looks [] ∧ ∀ (j : Nat) t, fn.params[j]? = some t → Tryz.pinned.checked.prog.wantsStandIn t = false := by
  obtain rfl : f = 6 := Option.some.inj ((show Tryz.prog.funcNamed "combiner/combinerlaw04.CurveBounds" = some 6 by kernel_rfl).symm.trans hf) |>.symm
  obtain rfl : fn = Tryz.f6 := (Option.some.inj (Tryz.func6.symm.trans hfn)).symm
  refine ⟨by kernel_rfl, fun j t ht => ?_⟩
  rw [Tryz.params6] at ht
  have hm : t ∈ [62, 3, 3] := by simpa using Array.mem_of_getElem? ht
  have hall : ([62, 3, 3].all fun u => !Tryz.prog.wantsStandIn u) = true := by kernel_rfl
  exact (show Tryz.prog.wantsStandIn t = false by simpa using List.all_eq_true.1 hall t hm)

/-- ████ THE CARD ████ -/
theorem card : Rows.CurveBoundsCardSaid :=
  Claim7.holds_tied_plain_at .later [] _ _ _ _ said (fun _ h => by cases h) (by kernel_rfl) (fun _ h => by cases h) curveBounds_row_tie rfl ⟨rfl, rfl⟩ (by kernel_rfl) rfl plain (by kernel_rfl)
#print axioms card
end Go.Proofs.YtbkginjiknnobaaGreatDoor.curveBounds
