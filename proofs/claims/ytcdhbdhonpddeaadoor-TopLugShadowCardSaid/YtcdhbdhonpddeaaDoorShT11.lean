/-
  The card of TopLugShadow: whatever a direction and the four numbers are, the law returns true and the arguments read as before. No condition but the card's own: the table of the axes holds what the program's text lays.
-/
import Derived.Test.YtcdhbdhonpddeaaDoorShT10
import Derived.Test.YtcdhbdhonpddeaaDoorCards
import Derived.Test.YtcdhbdhonpddeaaDoorTie
import Derived.ProofKit
import Derived.LaidMore
import Derived.Below
import Derived.ChangeSame
import Derived.Carry
import Derived.OpenShut
import Derived.Stop.Joined
import Derived.Lib.SmallJoins
import Derived.Deep.DeepHandedRow
import Derived.Deep.Strs
namespace Sh
open Go
section
open Go.RowKit Go.WideShapes Go.ChangeShapes
variable {H : Type} {enc : TypeId × Value → H} {P : Program}
theorem postOfBelow {f : Func} {s : ChangeSpec} {apart fresh handsOn again : Bool} {W W' : World} {args : Array Value} {v : Value} {ds gs : List (DataW H)} {before pa pv : List MemPlace}
    (hW : DataW.Whole enc P f.params.toList s.vars apart W args.toList ds gs before)
    (hres : ∀ (b : Nat) (sp : Nat → Bool) (hd : Bool), DataW.TrodAll enc P W' b sp hd f.resultTypes.toList (v.resultList f.resultTypes.size) (s.fn H (ds ++ gs)).results [])
    (hargs : ∀ sp : Nat → Bool, (∀ p ∈ before, sp p.block = true) → DataW.TrodAll enc P W' 0 sp true f.params.toList args.toList (s.fn H (ds ++ gs)).args pa)
    (hvars : ∀ sp : Nat → Bool, (∀ p ∈ before, sp p.block = true) → DataW.TrodVars enc P W' sp s.vars (s.fn H (ds ++ gs)).vars pv)
    (hps : before = pa ++ pv) (hb : Below W.heap.size W W')
    (hok : ∀ (j : Nat) (t : TypeId) (r : Value), f.resultTypes[j]? = some t → (v.resultList f.resultTypes.size)[j]? = some r → Value.okWide P W' .any 0 t r) :
    s.post enc P f apart fresh handsOn again W args v W' := by
  have hlt : ∀ p ∈ before, p.block < W.heap.size := fun p hp => hW.lt p hp
  have hold : ∀ p ∈ before, (fun b => decide (b < W.heap.size)) p.block = true := fun p hp => by simpa using hlt p hp
  refine ⟨ds, gs, before, [], pa, pv, hW, hres _ _ _, hargs _ hold, hvars _ hold, World.keptBut_mono (fun p hp => ⟨hp, ?_⟩) (hb.frame (· ∈ before)), fun _ => ?_⟩
  · rw [hps, List.mem_append] at hp
    exact Or.inr hp
  · obtain ⟨_, _, _, _, _, hz, hn⟩ := hW
    refine ⟨hok, _, _, ([] ++ pa) ++ pv, ⟨[] ++ pa, pv, trodAll_append (hargs _ (fun _ _ => rfl)) (hres _ _ _), hvars _ (fun _ _ => rfl), rfl, ?_, ?_⟩, ?_⟩
    · intro b off hp
      have hin : MemPlace.cell b off ∈ before := by rw [hps]; simpa using hp
      rw [hb.frozen (hlt _ hin)]
      exact hz b off hin
    · intro ha
      have := hn ha
      rw [hps] at this
      simpa using this
    · intro p hp _
      rw [hps]
      simpa using hp
end
/-- The memory of a world: all its cells. -/
def memOf (W : World) : Mem := fun b o => W.cell? ⟨b, o, none⟩
theorem memOf_holds (W : World) : (memOf W).holds W := fun _ _ _ h => h
/-- A pure contract is a contract of the kit. -/
theorem calls_of_pure {G : Nat → Option DV} {f : FuncId} {ds : List DV} {d : DV} {P : Program} (h : PureCall P G f ds d) {W : World} {vs : Array Value} (hG : GOk G (memOf W)) (hr : RelPs (memOf W) ds vs) :
    Calls P f vs W fun e w' => ∃ v M', e = .returned v ∧ M'.holds w' ∧ RelP M' d v ∧ RowKit.Below W.heap.size W w' := by
  have h1 := h.2 Fence.wide 0 (fun _ => trivial) rfl rfl (memOf W) W vs hG (memOf_holds W) hr
  refine (callsIn_wide.1 h1).mono fun e w' ⟨v, M', a, _, b, c, d, _⟩ => ⟨v, M', a, b, c, d⟩
end Sh
namespace Go.Proofs.YtcdhbdhonpddeaaDoor.topLugShadow
set_option maxRecDepth 100000
open Go.ChangeShapes Go.WideShapes Go.ChangeAt Go.RowKit
open Sh (GD)
theorem own : ownKnob Tryd.prog.godebug = none := by kernel_rfl
theorem gAxes : Tryd.prog.globalNamed "combiner/shade.axes" = some 1 := by kernel_rfl
theorem tAxes : (Tryd.prog.globals[1]?).map (·.type) = some 101 := by kernel_rfl
theorem cells101 : Tryd.prog.cellsOf 101 = 2 := by kernel_rfl
theorem cells100 : Tryd.prog.cellsOf 100 = 1 := by kernel_rfl
theorem door_met (os : Os) (args : Array Value) : laidMetH Tryd.prog Rows.topLugShadowRow.laid ((World.doorLaid Tryd.prog 600 os).forCall (fun _ _ => 0) ⟨#[], args, []⟩).memory :=
  laidMetH_of_parts3 (fuel := 8) (laidMet_of_run' 8 (by kernel_rfl) (by kernel_rfl)) (by kernel_rfl) (by kernel_rfl)
/-- WHAT THE CONDITION GIVES: the table's two functions. -/
theorem of_laid {W : World} (h : laidMetH Tryd.prog Rows.topLugShadowRow.laid W) : W.cell? ⟨1, 0, none⟩ = some (.func (.func 162) #[] #[]) ∧ W.cell? ⟨1, 1, none⟩ = some (.func (.func 163) #[] #[]) := by
  obtain ⟨g, t, cs, fuel, p, hg, ht, hv, hd⟩ := h.funcs (List.mem_singleton.2 rfl)
  obtain rfl := Option.some.inj (gAxes.symm.trans hg)
  obtain rfl := Option.some.inj (tAxes.symm.trans ht)
  have hd' : DataW.trod (funcToken Tryd.prog) Tryd.prog W 0 (fun _ => true) true fuel 101 cs.toList = some (.agg [.agg [.held [99, 111, 109, 98, 105, 110, 101, 114, 47, 115, 104, 97, 100, 101, 46, 97, 120, 101, 115, 36, 49]], .agg [.held [99, 111, 109, 98, 105, 110, 101, 114, 47, 115, 104, 97, 100, 101, 46, 97, 120, 101, 115, 36, 50]]], p) := hd
  obtain ⟨xs, m, rfl, hx, hl, hn, hel⟩ := DataW.trod_array Tryd.underlying101 hd'
  rw [cells101] at hl
  match xs, hn with
  | [x0, x1], _ =>
    simp only [List.map_cons, List.map_nil, Prod.mk.injEq, DataW.agg.injEq, List.cons.injEq, and_true] at hx
    obtain ⟨⟨hx0, hx1⟩, _⟩ := hx
    have h0 := hel 0 (by decide)
    have h1 := hel 1 (by decide)
    rw [cells100] at h0 h1
    obtain ⟨c0, c1, rfl⟩ := Go.Joins.array2 (cs := cs) (by simpa using hl)
    have h0' : DataW.trod (funcToken Tryd.prog) Tryd.prog W 0 (fun _ => true) true m 100 [c0] = some x0 := by simpa using h0
    have h1' : DataW.trod (funcToken Tryd.prog) Tryd.prog W 0 (fun _ => true) true m 100 [c1] = some x1 := by simpa using h1
    obtain ⟨y0, n0, e0, _, k0⟩ := trod_struct1 Tryd.underlying100 h0'
    obtain ⟨y1, n1, e1, _, k1⟩ := trod_struct1 Tryd.underlying100 h1'
    subst e0 e1
    obtain ⟨y0a, y0b⟩ := y0
    obtain ⟨y1a, y1b⟩ := y1
    simp only [DataW.agg.injEq, List.cons.injEq, and_true] at hx0 hx1
    subst hx0 hx1
    have c98 : Tryd.prog.cellsOf 98 = 1 := by kernel_rfl
    have k0' : DataW.trod (funcToken Tryd.prog) Tryd.prog W 0 (fun _ => true) true n0 98 [c0] = some (.held [99, 111, 109, 98, 105, 110, 101, 114, 47, 115, 104, 97, 100, 101, 46, 97, 120, 101, 115, 36, 49], y0b) := by simpa [c98] using k0
    have k1' : DataW.trod (funcToken Tryd.prog) Tryd.prog W 0 (fun _ => true) true n1 98 [c1] = some (.held [99, 111, 109, 98, 105, 110, 101, 114, 47, 115, 104, 97, 100, 101, 46, 97, 120, 101, 115, 36, 50], y1b) := by simpa [c98] using k1
    obtain rfl := func_of_trod (f0 := 162) Tryd.underlying98 (by kernel_rfl) k0'
    obtain rfl := func_of_trod (f0 := 163) Tryd.underlying98 (by kernel_rfl) k1'
    exact ⟨by simpa using World.var?_cell hg hv 0, by simpa using World.var?_cell hg hv 1⟩
theorem gok {W : World} (h : laidMetH Tryd.prog Rows.topLugShadowRow.laid W) : Sh.GOk GD (Sh.memOf W) := by
  obtain ⟨h0, h1⟩ := of_laid h
  intro g d hg
  unfold Sh.GD at hg
  split at hg
  · next e =>
    subst e
    obtain rfl := Option.some.inj hg
    refine .ip _ 1 0 (fun i => if i = 0 then .func (.func 162) #[] #[] else .func (.func 163) #[] #[]) ?_ ?_
    · intro i hi
      match i, hi with
      | 0, _ => exact h0
      | 1, _ => exact h1
    · intro i hi
      match i, hi with
      | 0, _ => exact .func 162 [] #[] rfl (fun i hi => absurd hi (Nat.not_lt_zero i))
      | 1, _ => exact .func 163 [] #[] rfl (fun i hi => absurd hi (Nat.not_lt_zero i))
  · cases hg
theorem A_laid : laidOutB Tryd.prog = true := by kernel_rfl
theorem cells33 : Tryd.prog.cellsOf 33 = 4 := by kernel_rfl
theorem cells34 : Tryd.prog.cellsOf 34 = 4 := by kernel_rfl
theorem cells31 : Tryd.prog.cellsOf 31 = 3 := by kernel_rfl
theorem cells3 : Tryd.prog.cellsOf 3 = 1 := by kernel_rfl
theorem cells5 : Tryd.prog.cellsOf 5 = 1 := by kernel_rfl
section
variable {H : Type} {enc : TypeId × Value → H} {W : World} {base b0 : Nat} {sp : Nat → Bool} {hd : Bool}
theorem open33 {v : Value} {d : DataW H} {p : List MemPlace} (hv : Value.okWide Tryd.prog W .any b0 33 v) (h : DataW.Trod enc Tryd.prog W base sp hd 33 v d p) :
    ∃ x y z w : Int, v = .agg #[.int .i64 x, .int .i64 y, .int .i64 z, .int .i64 w] := by
  obtain ⟨cs, rfl, hsz⟩ := okWide_struct Tryd.underlying33 hv
  obtain ⟨c0, c1, c2, c3, rfl⟩ := Go.Joins.array4 (hsz.trans cells33)
  obtain ⟨fuel, hf⟩ := h
  obtain ⟨y0, y1, n, _, _, k0, k1⟩ := trod_struct2 Tryd.underlying33 hf
  simp only [Value.cells, cells31, cells3, List.drop_zero] at k0 k1
  have k0' : DataW.trod enc Tryd.prog W base sp hd n 31 [c0, c1, c2] = some y0 := k0
  have k1' : DataW.trod enc Tryd.prog W base sp hd n 3 [c3] = some y1 := k1
  obtain ⟨z0, z1, z2, m, _, _, r0, r1, r2⟩ := Go.Deep.trod_struct3 Tryd.underlying31 k0'
  simp only [cells3, List.drop_zero] at r0 r1 r2
  have r0' : DataW.trod enc Tryd.prog W base sp hd m 3 [c0] = some z0 := r0
  have r1' : DataW.trod enc Tryd.prog W base sp hd m 3 [c1] = some z1 := r1
  have r2' : DataW.trod enc Tryd.prog W base sp hd m 3 [c2] = some z2 := r2
  obtain ⟨a, ea, _⟩ := DataW.trod_int Tryd.underlying3 r0'
  obtain ⟨b, eb, _⟩ := DataW.trod_int Tryd.underlying3 r1'
  obtain ⟨c, ec, _⟩ := DataW.trod_int Tryd.underlying3 r2'
  obtain ⟨e, ee, _⟩ := DataW.trod_int Tryd.underlying3 k1'
  cases ea; cases eb; cases ec; cases ee
  exact ⟨a, b, c, e, rfl⟩
theorem open34 {v : Value} {d : DataW H} {p : List MemPlace} (hv : Value.okWide Tryd.prog W .any b0 34 v) (h : DataW.Trod enc Tryd.prog W base sp hd 34 v d p) :
    ∃ n0 n1 n2 n3 : Nat, v = .agg #[.int .u8 n0, .int .u8 n1, .int .u8 n2, .int .u8 n3] ∧ n0 < 256 ∧ n1 < 256 ∧ n2 < 256 ∧ n3 < 256 := by
  obtain ⟨cs, rfl, hsz⟩ : ∃ cs, v = .agg cs ∧ cs.size = Tryd.prog.cellsOf 34 := by
    unfold Value.okWide at hv
    rw [Tryd.underlying34] at hv
    obtain ⟨cs, a, b, _⟩ := hv
    exact ⟨cs, a, b⟩
  obtain ⟨c0, c1, c2, c3, rfl⟩ := Go.Joins.array4 (hsz.trans cells34)
  obtain ⟨fuel, hf⟩ := h
  obtain ⟨xs, m, _, _, _, hn, hel⟩ := DataW.trod_array Tryd.underlying34 hf
  have k : ∀ i (c : Value), i < 4 → #[c0, c1, c2, c3][i]? = some c → ∃ n : Nat, c = .int .u8 n ∧ n < 256 := by
    intro i c hi hc
    have h1 := hel i hi
    rw [cells5, Nat.mul_one] at h1
    have h2 : ((Value.agg #[c0, c1, c2, c3]).cells.toList.drop i).take 1 = [c] := by
      match i, hi, hc with
      | 0, _, hc => exact congrArg (fun x => [x]) (Option.some.inj hc)
      | 1, _, hc => exact congrArg (fun x => [x]) (Option.some.inj hc)
      | 2, _, hc => exact congrArg (fun x => [x]) (Option.some.inj hc)
      | 3, _, hc => exact congrArg (fun x => [x]) (Option.some.inj hc)
    rw [h2] at h1
    cases e : xs[i]? with
    | none => exact absurd (List.getElem?_eq_none_iff.1 e) (by omega)
    | some x =>
      rw [e] at h1
      obtain ⟨a, ea, _, wa⟩ := DataW.trod_int Tryd.underlying5 h1
      cases ea
      have hb := Go.bounds_u8 wa
      obtain ⟨n, rfl⟩ := Int.eq_ofNat_of_zero_le hb.1
      exact ⟨n, rfl, by omega⟩
  obtain ⟨n0, rfl, l0⟩ := k 0 c0 (by decide) rfl
  obtain ⟨n1, rfl, l1⟩ := k 1 c1 (by decide) rfl
  obtain ⟨n2, rfl, l2⟩ := k 2 c2 (by decide) rfl
  obtain ⟨n3, rfl, l3⟩ := k 3 c3 (by decide) rfl
  exact ⟨n0, n1, n2, n3, rfl, l0, l1, l2, l3⟩
end
theorem relInts (M : Sh.Mem) (l : List (IntKind × Int)) : Sh.RelP M (.agg (l.map fun x => .int x.1 x.2)) (.agg (l.map fun x => Value.int x.1 x.2).toArray) := by
  refine .agg _ _ (by simp) (fun i hi => ?_)
  rw [List.length_map] at hi
  have e1 : (l.map fun x => Sh.DV.int x.1 x.2).getD i .undef = .int (l[i]).1 (l[i]).2 := by simp [List.getD_eq_getElem?_getD, hi]
  have e2 : ((l.map fun x => Value.int x.1 x.2).toArray).getD i Go.undef = .int (l[i]).1 (l[i]).2 := by simp [Array.getD, hi]
  rw [e1, e2]
  exact .int _ _
/-- WHAT THE WALK GIVES, FOR EVERY ARGUMENT AND EVERY WORLD THAT HOLDS THE TABLE. -/
theorem contract (H : Type) (enc : TypeId × Value → H) (W : World) (base : Nat) (args : Array Value) (ds gs : List (DataW H)) (before : List MemPlace)
    (hval : ∀ (j : Nat) t v, Tryd.f4.params[j]? = some t → args[j]? = some v → Value.okWide Tryd.prog W .any base t v)
    (hW : DataW.Whole enc Tryd.prog Tryd.f4.params.toList Rows.topLugShadowSpec.vars false W args.toList ds gs before) (hL : laidMetH Tryd.prog Rows.topLugShadowRow.laid W) :
    Calls Tryd.prog 4 args W fun e W' => ∃ v, e = .returned v ∧ Rows.topLugShadowSpec.post enc Tryd.prog Tryd.f4 false true false false W args v W' := by
  have hW' := hW
  have hlt : ∀ p ∈ before, p.block < W.heap.size := fun p hp => hW.lt p hp
  obtain ⟨p, q, hA0, hV, rfl, hfz, hnd⟩ := hW
  have hA : DataW.TrodAll enc Tryd.prog W 0 (fun _ => true) true Tryd.f4.params.toList args.toList ds p := hA0
  rw [Tryd.params4] at hA hval
  obtain ⟨v0, v1, d0, d1, p0, p1, rfl, rfl, rfl, h0, h1⟩ := trodAll_two hA
  obtain ⟨rfl, rfl⟩ := trodVars_none hV
  obtain ⟨x, y, z, w, rfl⟩ := open33 (hval 0 33 v0 rfl rfl) h0
  obtain ⟨n0, n1, n2, n3, rfl, l0, l1, l2, l3⟩ := open34 (hval 1 34 v1 rfl rfl) h1
  clear hA0
  have hr : Sh.RelPs (Sh.memOf W) [Sh.encD ⟨⟨x, y, z⟩, w⟩, .agg [.int .u8 n0, .int .u8 n1, .int .u8 n2, .int .u8 n3]] #[.agg #[.int .i64 x, .int .i64 y, .int .i64 z, .int .i64 w], .agg #[.int .u8 n0, .int .u8 n1, .int .u8 n2, .int .u8 n3]] := by
    refine ⟨rfl, fun i hi => ?_⟩
    match i, hi with
    | 0, _ => exact relInts _ [(.i64, x), (.i64, y), (.i64, z), (.i64, w)]
    | 1, _ => exact relInts _ [(.u8, n0), (.u8, n1), (.u8, n2), (.u8, n3)]
  refine (Sh.calls_of_pure (Sh.pc4 ⟨⟨x, y, z⟩, w⟩ n0 n1 n2 n3 l0 l1 l2 l3) (gok hL) hr).mono fun e W' ⟨v, M', he, _, hrel, hb⟩ => ?_
  cases hrel
  subst he
  have hold : ∀ sp : Nat → Bool, (∀ p ∈ (p0 ++ p1) ++ [], sp p.block = true) → DataW.TrodAll enc Tryd.prog W' 0 sp true [33, 34] [_, _] [d0, d1] (p0 ++ p1) := fun sp hsp =>
    trodAll_mk2 (WideElems.Trod_stays A_laid (by kernel_rfl) (of_decide_eq_true (by kernel_rfl)) h0 (fun x hx => hb.same (hlt x (by simp [hx]))) (fun x hx => hsp x (by simp [hx])))
      (WideElems.Trod_stays A_laid (by kernel_rfl) (of_decide_eq_true (by kernel_rfl)) h1 (fun x hx => hb.same (hlt x (by simp [hx]))) (fun x hx => hsp x (by simp [hx])))
  exact ⟨_, rfl, Sh.postOfBelow (pa := p0 ++ p1) (pv := []) hW' (fun _ _ _ => trodAll_mk1 (shut_bool Tryd.underlying4 _)) (fun sp hsp => hold sp hsp) (fun _ _ => rfl) rfl hb
    (ok_one (by kernel_rfl) rfl (okWide_bool_mk Tryd.underlying4 _))⟩

theorem lifted (os : Os) (started : os.Started) (H : Type) (enc : TypeId × Value → H) :
    ReturnsInHanded {} Tryd.checked os 4 .any (fun w args => (Rows.topLugShadowSpec.pre enc Tryd.prog Tryd.f4 [] false w args ∧ laidMetH Tryd.prog Rows.topLugShadowRow.laid w) ∧ sizedMet enc Tryd.prog Tryd.f4 (OpenSpec.ofChange Rows.topLugShadowSpec) false w args)
      (Rows.topLugShadowSpec.post enc Tryd.prog Tryd.f4 false true false false) := by
  refine returnsInHanded_of_change_and (C := Tryd.checked) (X := fun w _ => laidMetH Tryd.prog Rows.topLugShadowRow.laid w) (fun _ _ _ hh h => h.of_heap hh) own started (by kernel_rfl) Tryd.func4
    (ChangeSpec.witness_shaped (enc := enc) (C := Tryd.checked) (os := os) (X := fun w _ => laidMetH Tryd.prog Rows.topLugShadowRow.laid w) false (World.doorLaid Tryd.prog 600 os) #[.agg #[.int .i64 0, .int .i64 0, .int .i64 0, .int .i64 0], .agg #[.int .u8 0, .int .u8 0, .int .u8 0, .int .u8 0]] 8 rfl (World.shaped_of_RefB (by kernel_rfl) (by kernel_rfl)) (by kernel_rfl) (by kernel_rfl) (by kernel_rfl) (door_met os _)) ?_
  intro W base args ds gs before hval hW _ _ hL _
  exact contract H enc W base args ds gs before hval hW hL

theorem said : Rows.TopLugShadowSaid :=
  OpenClaim.holds_of_wide 4 Tryd.f4 rfl rfl rfl rfl rfl rfl rfl ⟨rfl, rfl, rfl, rfl, rfl⟩ rfl rfl rfl rfl rfl (by kernel_rfl) Tryd.func4 (by kernel_rfl)
    (of_decide_eq_true (by kernel_rfl)) (by unfold Func.isWrapper; first | (rw [if_pos (by decide +kernel)]; kernel_rfl) | (rw [if_neg (by decide +kernel)]; exact ⟨rfl, rfl⟩))
    (fun os started H enc _ => lifted os started H enc)

theorem plain (f : FuncId) (fn : Func) (hf : Tryd.pinned.checked.prog.funcNamed "combiner/combinertop.TopLugShadow" = some f) (hfn : Tryd.pinned.checked.prog.funcs[f]? = some fn) :
    false = Tryd.pinned.checked.prog.looks [] ∧ ∀ (j : Nat) t, fn.params[j]? = some t → Tryd.pinned.checked.prog.wantsStandIn t = false := by
  obtain rfl : f = 4 := Option.some.inj ((show Tryd.prog.funcNamed "combiner/combinertop.TopLugShadow" = some 4 by kernel_rfl).symm.trans hf) |>.symm
  obtain rfl : fn = Tryd.f4 := (Option.some.inj (Tryd.func4.symm.trans hfn)).symm
  refine ⟨by kernel_rfl, fun j t ht => ?_⟩
  rw [Tryd.params4] at ht
  have hm : t ∈ [33, 34] := by simpa using Array.mem_of_getElem? ht
  have hall : ([33, 34].all fun u => !Tryd.prog.wantsStandIn u) = true := by kernel_rfl
  exact (show Tryd.prog.wantsStandIn t = false by simpa using List.all_eq_true.1 hall t hm)

/-- ████ THE CARD ████ -/
theorem card : Rows.TopLugShadowCardSaid :=
  Claim7.holds_tied_plain_at .later [] _ _ _ _ said (fun _ h => by cases h) (by kernel_rfl) (fun _ h => by cases h) topLugShadow_row_tie rfl ⟨rfl, rfl⟩ (by kernel_rfl) rfl plain (by kernel_rfl)
#print axioms card
end Go.Proofs.YtcdhbdhonpddeaaDoor.topLugShadow
