/-
  The card of ShadeTracked: at each tick of a tracked day the tilt that is chosen is free, and shades no share of the next row, across which the extents of both are asked at all integers of the sun; no free tilt gains more; where none is chosen, it is night, or each tilt shades the next row; and a field with a greater pitch chooses no tilt that gains less. Whatever the arguments are, the law returns true and they read as before. No condition but the card's own: the listed package-level variables hold what the program's text lays.
-/
import Derived.Test.YtkaglomkahhjcaaGreatDoorP7
set_option maxRecDepth 100000
set_option linter.unusedVariables false
set_option linter.unusedSimpArgs false
namespace Go.Proofs.YtkaglomkahhjcaaGreatDoor.shadeTracked
open Go.ChangeShapes Go.WideShapes Go.ChangeAt Go.RowKit
open Sh (GC)
theorem door_met (os : Os) (args : Array Value) : laidMetH Tryz.prog Rows.shadeTrackedRow.laid ((Sh.startW os).forCall (fun _ _ => 0) ⟨#[], args, []⟩).memory :=
  laidMetH_of_parts3 (fuel := 8) (laidMet_of_run' 8 (by kernel_rfl) (by kernel_rfl)) (by kernel_rfl) (by kernel_rfl)
/-- WHAT THE WALK GIVES, FOR EVERY ARGUMENT AND EVERY WORLD THAT HOLDS THE TABLES. -/
theorem contract (H : Type) (enc : TypeId × Value → H) (W : World) (base : Nat) (args : Array Value) (ds gs : List (DataW H)) (before : List MemPlace)
    (hval : ∀ (j : Nat) t v, Tryz.f11.params[j]? = some t → args[j]? = some v → Value.okWide Tryz.prog W .any base t v)
    (hW : DataW.Whole enc Tryz.prog Tryz.f11.params.toList Rows.shadeTrackedSpec.vars false W args.toList ds gs before) (hL : laidMetH Tryz.prog Rows.shadeTrackedRow.laid W) (hsh : W.ShapedOpen Tryz.prog) :
    Calls Tryz.prog 11 args W fun e W' => ∃ v, e = .returned v ∧ Rows.shadeTrackedSpec.post enc Tryz.prog Tryz.f11 false true false false W args v W' := by
  have hW' := hW
  have hlt : ∀ p ∈ before, p.block < W.heap.size := fun p hp => hW.lt p hp
  obtain ⟨p, q, hA0, hV, rfl, hfz, hnd⟩ := hW
  have hA : DataW.TrodAll enc Tryz.prog W 0 (fun _ => true) true Tryz.f11.params.toList args.toList ds p := hA0
  rw [Tryz.params11] at hA hval
  obtain ⟨v0, v1, v2, d0, d1, d2, p0, p1, p2, rfl, rfl, rfl, h0, h1, h2⟩ := trodAll_three hA
  obtain ⟨rfl, rfl⟩ := trodVars_none hV
  obtain ⟨a0, r0, b0⟩ := Sh.arg_slice Tryz.underlying54 Sh.opPts (hval 0 54 v0 rfl rfl) h0
  obtain ⟨a1, r1, b1⟩ := Sh.arg_struct Tryz.underlying26 Sh.opPt (hval 1 26 v1 rfl rfl) h1
  obtain ⟨a2, r2, b2⟩ := Sh.arg_slice Tryz.underlying32 Sh.opShp (hval 2 32 v2 rfl rfl) h2
  have hr : Sh.RelPs (Sh.memOf W) [Sh.pts a0, Sh.encPt a1, Sh.shp a2] _ := Sh.relPs_of (.cons r0 (.cons r1 (.cons r2 (.nil))))
  obtain ⟨g1, g2⟩ := Sh.gokC (L := Rows.shadeTrackedRow.laid) (W := W) (by repeat (first | exact List.Mem.head _ | apply List.Mem.tail)) (by kernel_rfl) hL hsh
  refine (Sh.calls_of_pure (Sh.l_ShadeTracked Sh.l_awake a0 a1 a2) g1 g2 hr).mono fun e W' ⟨v, M', he, _, hrel, hb⟩ => ?_
  cases hrel
  subst he
  exact ⟨_, rfl, Sh.postOfBelow (pv := []) hW' (fun _ _ _ => trodAll_mk1 (shut_bool Tryz.underlying4 _)) (fun sp hsp => Sh.trodAll_stays Sh.A_laid hb hA0 (by rw [Tryz.params11]; kernel_rfl) (fun x hx => hlt x (List.mem_append_left _ hx)) (fun x hx => hsp x (List.mem_append_left _ hx))) (fun _ _ => rfl) rfl hb
    (ok_one (by kernel_rfl) rfl (okWide_bool_mk Tryz.underlying4 _))⟩

theorem lifted (os : Os) (started : os.Started) (H : Type) (enc : TypeId × Value → H) :
    ReturnsInHanded {} Tryz.checked os 11 .any (fun w args => (Rows.shadeTrackedSpec.pre enc Tryz.prog Tryz.f11 [] false w args ∧ laidMetH Tryz.prog Rows.shadeTrackedRow.laid w) ∧ sizedMet enc Tryz.prog Tryz.f11 (OpenSpec.ofChange Rows.shadeTrackedSpec) false w args)
      (Rows.shadeTrackedSpec.post enc Tryz.prog Tryz.f11 false true false false) := by
  refine Sh.handed_shaped (C := Tryz.checked) (X := fun w _ => laidMetH Tryz.prog Rows.shadeTrackedRow.laid w) (fun _ _ _ hh h => h.of_heap hh) Sh.own started (by kernel_rfl) Tryz.func11
    (ChangeSpec.witness_shaped (enc := enc) (C := Tryz.checked) (os := os) (X := fun w _ => laidMetH Tryz.prog Rows.shadeTrackedRow.laid w) false (Sh.startW os) #[.slice none 0 0, .agg #[.int .i64 0, .int .i64 0], .slice none 0 0] 8 rfl (World.shaped_of_RefB (by kernel_rfl) (by kernel_rfl)) (by kernel_rfl) (by kernel_rfl) (by kernel_rfl) (door_met os _)) ?_
  intro W base args ds gs before hval hW hL hsh
  exact contract H enc W base args ds gs before hval hW hL hsh

theorem said : Rows.ShadeTrackedSaid :=
  OpenClaim.holds_of_wide 11 Tryz.f11 rfl rfl rfl rfl rfl rfl rfl ⟨rfl, rfl, rfl, rfl, rfl⟩ rfl rfl rfl rfl rfl (by kernel_rfl) Tryz.func11 (by kernel_rfl)
    (of_decide_eq_true (by kernel_rfl)) (by unfold Func.isWrapper; first | (rw [if_pos (by decide +kernel)]; kernel_rfl) | (rw [if_neg (by decide +kernel)]; exact ⟨rfl, rfl⟩))
    (fun os started H enc _ => lifted os started H enc)

theorem plain (f : FuncId) (fn : Func) (hf : Tryz.pinned.checked.prog.funcNamed "combiner/combinerlaw03.ShadeTracked" = some f) (hfn : Tryz.pinned.checked.prog.funcs[f]? = some fn) :
    false = Tryz.pinned.checked.prog.looks [] ∧ ∀ (j : Nat) t, fn.params[j]? = some t → Tryz.pinned.checked.prog.wantsStandIn t = false := by
  obtain rfl : f = 11 := Option.some.inj ((show Tryz.prog.funcNamed "combiner/combinerlaw03.ShadeTracked" = some 11 by kernel_rfl).symm.trans hf) |>.symm
  obtain rfl : fn = Tryz.f11 := (Option.some.inj (Tryz.func11.symm.trans hfn)).symm
  refine ⟨by kernel_rfl, fun j t ht => ?_⟩
  rw [Tryz.params11] at ht
  have hm : t ∈ [54, 26, 32] := by simpa using Array.mem_of_getElem? ht
  have hall : ([54, 26, 32].all fun u => !Tryz.prog.wantsStandIn u) = true := by kernel_rfl
  exact (show Tryz.prog.wantsStandIn t = false by simpa using List.all_eq_true.1 hall t hm)

/-- ████ THE CARD ████ -/
theorem card : Rows.ShadeTrackedCardSaid :=
  Claim7.holds_tied_plain_at .later [] _ _ _ _ said (fun _ h => by cases h) (by kernel_rfl) (fun _ h => by cases h) shadeTracked_row_tie rfl ⟨rfl, rfl⟩ (by kernel_rfl) rfl plain (by kernel_rfl)
#print axioms card
end Go.Proofs.YtkaglomkahhjcaaGreatDoor.shadeTracked
