/-
  The card of ShadeSame: a shape that is turned around, or that begins with another corner, hides the same spot, and one that is moved along the ground hides the spot that is moved with it; moved along the sun it casts the same outline, with the same area; with a sun of the same direction twice as long the same is hidden; and a spot that is hidden lies in the outline, on the same side of all of its edges. Whatever the arguments are, the law returns true and they read as before. No condition but the card's own: the listed package-level variables hold what the program's text lays.
-/
import Derived.Test.YtkaglomkahhjcaaGreatDoorP7
set_option maxRecDepth 100000
set_option linter.unusedVariables false
set_option linter.unusedSimpArgs false
namespace Go.Proofs.YtkaglomkahhjcaaGreatDoor.shadeSame
open Go.ChangeShapes Go.WideShapes Go.ChangeAt Go.RowKit
open Sh (GC)
theorem door_met (os : Os) (args : Array Value) : laidMetH Tryz.prog Rows.shadeSameRow.laid ((Sh.startW os).forCall (fun _ _ => 0) ⟨#[], args, []⟩).memory :=
  laidMetH_of_parts3 (fuel := 8) (laidMet_of_run' 8 (by kernel_rfl) (by kernel_rfl)) (by kernel_rfl) (by kernel_rfl)
/-- WHAT THE WALK GIVES, FOR EVERY ARGUMENT AND EVERY WORLD THAT HOLDS THE TABLES. -/
theorem contract (H : Type) (enc : TypeId × Value → H) (W : World) (base : Nat) (args : Array Value) (ds gs : List (DataW H)) (before : List MemPlace)
    (hval : ∀ (j : Nat) t v, Tryz.f10.params[j]? = some t → args[j]? = some v → Value.okWide Tryz.prog W .any base t v)
    (hW : DataW.Whole enc Tryz.prog Tryz.f10.params.toList Rows.shadeSameSpec.vars false W args.toList ds gs before) (hL : laidMetH Tryz.prog Rows.shadeSameRow.laid W) (hsh : W.ShapedOpen Tryz.prog) :
    Calls Tryz.prog 10 args W fun e W' => ∃ v, e = .returned v ∧ Rows.shadeSameSpec.post enc Tryz.prog Tryz.f10 false true false false W args v W' := by
  have hW' := hW
  have hlt : ∀ p ∈ before, p.block < W.heap.size := fun p hp => hW.lt p hp
  obtain ⟨p, q, hA0, hV, rfl, hfz, hnd⟩ := hW
  have hA : DataW.TrodAll enc Tryz.prog W 0 (fun _ => true) true Tryz.f10.params.toList args.toList ds p := hA0
  rw [Tryz.params10] at hA hval
  obtain ⟨v0, v1, v2, d0, d1, d2, p0, p1, p2, rfl, rfl, rfl, h0, h1, h2⟩ := trodAll_three hA
  obtain ⟨rfl, rfl⟩ := trodVars_none hV
  obtain ⟨a0, r0, b0⟩ := Sh.arg_slice Tryz.underlying32 Sh.opShp (hval 0 32 v0 rfl rfl) h0
  obtain ⟨a1, r1, b1⟩ := Sh.arg_struct Tryz.underlying24 Sh.opV3 (hval 1 24 v1 rfl rfl) h1
  obtain ⟨a2, r2, b2⟩ := Sh.arg_struct Tryz.underlying130 Sh.opMvg (hval 2 130 v2 rfl rfl) h2
  have hr : Sh.RelPs (Sh.memOf W) [Sh.shp a0, Sh.encV a1, Sh.encM a2] _ := Sh.relPs_of (.cons r0 (.cons r1 (.cons r2 (.nil))))
  obtain ⟨g1, g2⟩ := Sh.gokC (L := Rows.shadeSameRow.laid) (W := W) (by repeat (first | exact List.Mem.head _ | apply List.Mem.tail)) (by kernel_rfl) hL hsh
  refine (Sh.calls_of_pure (Sh.l_ShadeSame Sh.l_awake a0 a1 a2 b2) g1 g2 hr).mono fun e W' ⟨v, M', he, _, hrel, hb⟩ => ?_
  cases hrel
  subst he
  exact ⟨_, rfl, Sh.postOfBelow (pv := []) hW' (fun _ _ _ => trodAll_mk1 (shut_bool Tryz.underlying4 _)) (fun sp hsp => Sh.trodAll_stays Sh.A_laid hb hA0 (by rw [Tryz.params10]; kernel_rfl) (fun x hx => hlt x (List.mem_append_left _ hx)) (fun x hx => hsp x (List.mem_append_left _ hx))) (fun _ _ => rfl) rfl hb
    (ok_one (by kernel_rfl) rfl (okWide_bool_mk Tryz.underlying4 _))⟩

theorem lifted (os : Os) (started : os.Started) (H : Type) (enc : TypeId × Value → H) :
    ReturnsInHanded {} Tryz.checked os 10 .any (fun w args => (Rows.shadeSameSpec.pre enc Tryz.prog Tryz.f10 [] false w args ∧ laidMetH Tryz.prog Rows.shadeSameRow.laid w) ∧ sizedMet enc Tryz.prog Tryz.f10 (OpenSpec.ofChange Rows.shadeSameSpec) false w args)
      (Rows.shadeSameSpec.post enc Tryz.prog Tryz.f10 false true false false) := by
  refine Sh.handed_shaped (C := Tryz.checked) (X := fun w _ => laidMetH Tryz.prog Rows.shadeSameRow.laid w) (fun _ _ _ hh h => h.of_heap hh) Sh.own started (by kernel_rfl) Tryz.func10
    (ChangeSpec.witness_shaped (enc := enc) (C := Tryz.checked) (os := os) (X := fun w _ => laidMetH Tryz.prog Rows.shadeSameRow.laid w) false (Sh.startW os) #[.slice none 0 0, .agg #[.int .i64 0, .int .i64 0, .int .i64 0], .agg #[.int .i64 0, .int .i64 0, .int .u8 0, .int .i8 0, .int .i8 0]] 8 rfl (World.shaped_of_RefB (by kernel_rfl) (by kernel_rfl)) (by kernel_rfl) (by kernel_rfl) (by kernel_rfl) (door_met os _)) ?_
  intro W base args ds gs before hval hW hL hsh
  exact contract H enc W base args ds gs before hval hW hL hsh

theorem said : Rows.ShadeSameSaid :=
  OpenClaim.holds_of_wide 10 Tryz.f10 rfl rfl rfl rfl rfl rfl rfl ⟨rfl, rfl, rfl, rfl, rfl⟩ rfl rfl rfl rfl rfl (by kernel_rfl) Tryz.func10 (by kernel_rfl)
    (of_decide_eq_true (by kernel_rfl)) (by unfold Func.isWrapper; first | (rw [if_pos (by decide +kernel)]; kernel_rfl) | (rw [if_neg (by decide +kernel)]; exact ⟨rfl, rfl⟩))
    (fun os started H enc _ => lifted os started H enc)

theorem plain (f : FuncId) (fn : Func) (hf : Tryz.pinned.checked.prog.funcNamed "combiner/combinerlaw03.ShadeSame" = some f) (hfn : Tryz.pinned.checked.prog.funcs[f]? = some fn) :
    false = Tryz.pinned.checked.prog.looks [] ∧ ∀ (j : Nat) t, fn.params[j]? = some t → Tryz.pinned.checked.prog.wantsStandIn t = false := by
  obtain rfl : f = 10 := Option.some.inj ((show Tryz.prog.funcNamed "combiner/combinerlaw03.ShadeSame" = some 10 by kernel_rfl).symm.trans hf) |>.symm
  obtain rfl : fn = Tryz.f10 := (Option.some.inj (Tryz.func10.symm.trans hfn)).symm
  refine ⟨by kernel_rfl, fun j t ht => ?_⟩
  rw [Tryz.params10] at ht
  have hm : t ∈ [32, 24, 130] := by simpa using Array.mem_of_getElem? ht
  have hall : ([32, 24, 130].all fun u => !Tryz.prog.wantsStandIn u) = true := by kernel_rfl
  exact (show Tryz.prog.wantsStandIn t = false by simpa using List.all_eq_true.1 hall t hm)

/-- ████ THE CARD ████ -/
theorem card : Rows.ShadeSameCardSaid :=
  Claim7.holds_tied_plain_at .later [] _ _ _ _ said (fun _ h => by cases h) (by kernel_rfl) (fun _ h => by cases h) shadeSame_row_tie rfl ⟨rfl, rfl⟩ (by kernel_rfl) rfl plain (by kernel_rfl)
#print axioms card
end Go.Proofs.YtkaglomkahhjcaaGreatDoor.shadeSame
