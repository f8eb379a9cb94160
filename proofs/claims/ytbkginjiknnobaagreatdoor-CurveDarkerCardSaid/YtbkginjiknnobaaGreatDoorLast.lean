/-
  The card of CurveDarker: less light gives no more current, light within an error gives a current within Bounds, and a field turned over has the same mismatch, which is never below zero and zero for equal chains. Whatever the arguments are, the law returns true and they read as before. No condition but the card's own: the listed package-level variables hold what the program's text lays.
-/
import Derived.Test.YtbkginjiknnobaaGreatDoorP7
set_option maxRecDepth 100000
set_option linter.unusedVariables false
set_option linter.unusedSimpArgs false
namespace Go.Proofs.YtbkginjiknnobaaGreatDoor.curveDarker
open Go.ChangeShapes Go.WideShapes Go.ChangeAt Go.RowKit
open Sh (GC)
theorem door_met (os : Os) (args : Array Value) : laidMetH Tryz.prog Rows.curveDarkerRow.laid ((World.doorLaid Tryz.prog 600 os).forCall (fun _ _ => 0) ⟨#[], args, []⟩).memory :=
  laidMetH_of_parts3 (fuel := 8) (laidMet_of_run' 8 (by kernel_rfl) (by kernel_rfl)) (by kernel_rfl) (by kernel_rfl)
/-- WHAT THE WALK GIVES, FOR EVERY ARGUMENT AND EVERY WORLD THAT HOLDS THE TABLES. -/
theorem contract (H : Type) (enc : TypeId × Value → H) (W : World) (base : Nat) (args : Array Value) (ds gs : List (DataW H)) (before : List MemPlace)
    (hval : ∀ (j : Nat) t v, Tryz.f9.params[j]? = some t → args[j]? = some v → Value.okWide Tryz.prog W .any base t v)
    (hW : DataW.Whole enc Tryz.prog Tryz.f9.params.toList Rows.curveDarkerSpec.vars false W args.toList ds gs before) (hL : laidMetH Tryz.prog Rows.curveDarkerRow.laid W) (hsh : W.ShapedOpen Tryz.prog) :
    Calls Tryz.prog 9 args W fun e W' => ∃ v, e = .returned v ∧ Rows.curveDarkerSpec.post enc Tryz.prog Tryz.f9 false true false false W args v W' := by
  have hW' := hW
  have hlt : ∀ p ∈ before, p.block < W.heap.size := fun p hp => hW.lt p hp
  obtain ⟨p, q, hA0, hV, rfl, hfz, hnd⟩ := hW
  have hA : DataW.TrodAll enc Tryz.prog W 0 (fun _ => true) true Tryz.f9.params.toList args.toList ds p := hA0
  rw [Tryz.params9] at hA hval
  obtain ⟨v0, v1, v2, d0, d1, d2, p0, p1, p2, rfl, rfl, rfl, h0, h1, h2⟩ := trodAll_three hA
  obtain ⟨rfl, rfl⟩ := trodVars_none hV
  obtain ⟨a0, r0, b0⟩ := Sh.arg_slice Tryz.underlying62 Sh.opFld (hval 0 62 v0 rfl rfl) h0
  obtain ⟨a1, r1, b1⟩ := Sh.arg_array Tryz.underlying93 Sh.opU2 (hval 1 93 v1 rfl rfl) h1
  obtain ⟨a2, r2, b2⟩ := Sh.arg_slice Tryz.underlying94 Sh.opU16s (hval 2 94 v2 rfl rfl) h2
  have hr : Sh.RelPs (Sh.memOf W) [Sh.fld a0, .agg [.int .u16 a1.1, .int .u16 a1.2], Sh.uL a2] _ := Sh.relPs_of (.cons r0 (.cons r1 (.cons r2 (.nil))))
  obtain ⟨g1, g2⟩ := Sh.gokC (L := Rows.curveDarkerRow.laid) (W := W) (by repeat (first | exact List.Mem.head _ | apply List.Mem.tail)) (by kernel_rfl) hL hsh
  refine (Sh.calls_of_pure (Sh.l_CurveDarker Sh.l_awake a0 a1 b1 a2 b2) g1 g2 hr).mono fun e W' ⟨v, M', he, _, hrel, hb⟩ => ?_
  cases hrel
  subst he
  exact ⟨_, rfl, Sh.postOfBelow (pv := []) hW' (fun _ _ _ => trodAll_mk1 (shut_bool Tryz.underlying4 _)) (fun sp hsp => Sh.trodAll_stays Sh.A_laid hb hA0 (by rw [Tryz.params9]; kernel_rfl) (fun x hx => hlt x (List.mem_append_left _ hx)) (fun x hx => hsp x (List.mem_append_left _ hx))) (fun _ _ => rfl) rfl hb
    (ok_one (by kernel_rfl) rfl (okWide_bool_mk Tryz.underlying4 _))⟩

theorem lifted (os : Os) (started : os.Started) (H : Type) (enc : TypeId × Value → H) :
    ReturnsInHanded {} Tryz.checked os 9 .any (fun w args => (Rows.curveDarkerSpec.pre enc Tryz.prog Tryz.f9 [] false w args ∧ laidMetH Tryz.prog Rows.curveDarkerRow.laid w) ∧ sizedMet enc Tryz.prog Tryz.f9 (OpenSpec.ofChange Rows.curveDarkerSpec) false w args)
      (Rows.curveDarkerSpec.post enc Tryz.prog Tryz.f9 false true false false) := by
  refine Sh.handed_shaped (C := Tryz.checked) (X := fun w _ => laidMetH Tryz.prog Rows.curveDarkerRow.laid w) (fun _ _ _ hh h => h.of_heap hh) Sh.own started (by kernel_rfl) Tryz.func9
    (ChangeSpec.witness_shaped (enc := enc) (C := Tryz.checked) (os := os) (X := fun w _ => laidMetH Tryz.prog Rows.curveDarkerRow.laid w) false (World.doorLaid Tryz.prog 600 os) #[.slice none 0 0, .agg #[.int .u16 0, .int .u16 0], .slice none 0 0] 8 rfl (World.shaped_of_RefB (by kernel_rfl) (by kernel_rfl)) (by kernel_rfl) (by kernel_rfl) (by kernel_rfl) (door_met os _)) ?_
  intro W base args ds gs before hval hW hL hsh
  exact contract H enc W base args ds gs before hval hW hL hsh

theorem said : Rows.CurveDarkerSaid :=
  OpenClaim.holds_of_wide 9 Tryz.f9 rfl rfl rfl rfl rfl rfl rfl ⟨rfl, rfl, rfl, rfl, rfl⟩ rfl rfl rfl rfl rfl (by kernel_rfl) Tryz.func9 (by kernel_rfl)
    (of_decide_eq_true (by kernel_rfl)) (by unfold Func.isWrapper; first | (rw [if_pos (by decide +kernel)]; kernel_rfl) | (rw [if_neg (by decide +kernel)]; exact ⟨rfl, rfl⟩))
    (fun os started H enc _ => lifted os started H enc)

theorem plain (f : FuncId) (fn : Func) (hf : Tryz.pinned.checked.prog.funcNamed "combiner/combinerlaw04.CurveDarker" = some f) (hfn : Tryz.pinned.checked.prog.funcs[f]? = some fn) :
    false = Tryz.pinned.checked.prog.looks [] ∧ ∀ (j : Nat) t, fn.params[j]? = some t → Tryz.pinned.checked.prog.wantsStandIn t = false := by
  obtain rfl : f = 9 := Option.some.inj ((show Tryz.prog.funcNamed "combiner/combinerlaw04.CurveDarker" = some 9 by kernel_rfl).symm.trans hf) |>.symm
  obtain rfl : fn = Tryz.f9 := (Option.some.inj (Tryz.func9.symm.trans hfn)).symm
  refine ⟨by kernel_rfl, fun j t ht => ?_⟩
  rw [Tryz.params9] at ht
  have hm : t ∈ [62, 93, 94] := by simpa using Array.mem_of_getElem? ht
  have hall : ([62, 93, 94].all fun u => !Tryz.prog.wantsStandIn u) = true := by kernel_rfl
  exact (show Tryz.prog.wantsStandIn t = false by simpa using List.all_eq_true.1 hall t hm)

/-- ████ THE CARD ████ -/
theorem card : Rows.CurveDarkerCardSaid :=
  Claim7.holds_tied_plain_at .later [] _ _ _ _ said (fun _ h => by cases h) (by kernel_rfl) (fun _ h => by cases h) curveDarker_row_tie rfl ⟨rfl, rfl⟩ (by kernel_rfl) rfl plain (by kernel_rfl)
#print axioms card
end Go.Proofs.YtbkginjiknnobaaGreatDoor.curveDarker
