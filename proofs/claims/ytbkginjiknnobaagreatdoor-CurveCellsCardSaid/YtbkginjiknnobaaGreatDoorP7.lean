/-
  Chapter 4's functions, walked over pure data: the library of the walk, the functions' code over data, and what each computes. (part 7)
-/
import Derived.Test.YtbkginjiknnobaaGreatDoorP6
import Derived.Test.YtbkginjiknnobaaGreatDoorRows
import Derived.Test.YtbkginjiknnobaaGreatDoorCards
import Derived.Test.YtbkginjiknnobaaGreatDoorTie
import Derived.ProofKit
import Derived.Carry
import Derived.ChangeSame
import Derived.OpenShut
import Derived.Stop.Joined
import Derived.Deep.DeepHandedRow
import Derived.Lib.LaidTab
import Derived.MakeChecks
import Derived.LaidSub
import Derived.LaidHandle
/-! What the cards of chapter 4 have in common: the arguments, the package-level variables, what the post asks. -/
set_option maxRecDepth 100000
set_option linter.unusedVariables false
namespace Sh
open Go Go.Proofs Go.Proofs.YtbkginjiknnobaaGreatDoor
section
open Go.RowKit Go.WideShapes Go.ChangeShapes
variable {H : Type} {enc : TypeId × Value → H} {P : Program}
theorem postOfBelow {f : Func} {s : ChangeSpec} {apart fresh handsOn again : Bool} {W W' : World} {args : Array Value} {v : Value} {ds gs : List (DataW H)} {before pa pv : List MemPlace}
    (hW : DataW.Whole enc P f.params.toList s.vars apart W args.toList ds gs before)
    (hres : ∀ (b : Nat) (sp : Nat → Bool) (hd : Bool), DataW.TrodAll enc P W' b sp hd f.resultTypes.toList (v.resultList f.resultTypes.size) (s.fn H (ds ++ gs)).results [])
    (hargs : ∀ sp : Nat → Bool, (∀ p ∈ before, sp p.block = true) → DataW.TrodAll enc P W' 0 sp true f.params.toList args.toList (s.fn H (ds ++ gs)).args pa)
    (hvars : ∀ sp : Nat → Bool, (∀ p ∈ before, sp p.block = true) → DataW.TrodVars enc P W' sp s.vars (s.fn H (ds ++ gs)).vars pv)
    (hps : before = pa ++ pv) (hb : Below W.heap.size W W')
    (hok : ∀ (j : Nat) (t : TypeId) (r : Value), f.resultTypes[j]? = some t → (v.resultList f.resultTypes.size)[j]? = some r → Value.okWide P W' .any 0 t r) :
    s.post enc P f apart fresh handsOn again W args v W' := by
  have hlt : ∀ p ∈ before, p.block < W.heap.size := fun p hp => hW.lt p hp
  have hold : ∀ p ∈ before, (fun b => decide (b < W.heap.size)) p.block = true := fun p hp => by simpa using hlt p hp
  refine ⟨ds, gs, before, [], pa, pv, hW, hres _ _ _, hargs _ hold, hvars _ hold, World.keptBut_mono (fun p hp => ⟨hp, ?_⟩) (hb.frame (· ∈ before)), fun _ => ?_⟩
  · rw [hps, List.mem_append] at hp
    exact Or.inr hp
  · obtain ⟨_, _, _, _, _, hz, hn⟩ := hW
    refine ⟨hok, _, _, ([] ++ pa) ++ pv, ⟨[] ++ pa, pv, trodAll_append (hargs _ (fun _ _ => rfl)) (hres _ _ _), hvars _ (fun _ _ => rfl), rfl, ?_, ?_⟩, ?_⟩
    · intro b off hp
      have hin : MemPlace.cell b off ∈ before := by rw [hps]; simpa using hp
      rw [hb.frozen (hlt _ hin)]
      exact hz b off hin
    · intro ha
      have := hn ha
      rw [hps] at this
      simpa using this
    · intro p hp _
      rw [hps]
      simpa using hp
/-- All arguments read as before. -/
theorem trodAll_stays (hl : laidOutB P = true) {W W' : World} (hb : Below W.heap.size W W') {sp : Nat → Bool} : ∀ {ts : List TypeId} {vs : List Value} {ds : List (DataW H)} {ps : List MemPlace}, DataW.TrodAll enc P W 0 (fun _ => true) true ts vs ds ps →
    (ts.all fun t => P.readableRec t && decide (t < P.types.size)) = true → (∀ p ∈ ps, p.block < W.heap.size) → (∀ p ∈ ps, sp p.block = true) → DataW.TrodAll enc P W' 0 sp true ts vs ds ps
  | [], _, _, _, h, _, _, _ => by
    obtain ⟨rfl, rfl, rfl⟩ := trodAll_nil h
    rfl
  | t :: ts, _, _, _, h, ht, hlt, hsp => by
    obtain ⟨v, vs, d, ds, p, q, rfl, rfl, rfl, h1, h2⟩ := trodAll_cons h
    rw [List.all_cons, Bool.and_eq_true, Bool.and_eq_true] at ht
    exact trodAll_cons_mk (WideElems.Trod_stays hl ht.1.1 (of_decide_eq_true ht.1.2) h1 (fun x hx => hb.same (hlt x (by simp [hx]))) (fun x hx => hsp x (by simp [hx])))
      (trodAll_stays hl hb h2 ht.2 (fun x hx => hlt x (by simp [hx])) (fun x hx => hsp x (by simp [hx])))
end
theorem A_laid : laidOutB Tryz.prog = true := by kernel_rfl
theorem own : ownKnob Tryz.prog.godebug = none := by kernel_rfl
theorem cl3 : Tryz.prog.cellsOf 3 = 1 := by kernel_rfl
theorem cl9 : Tryz.prog.cellsOf 9 = 1 := by kernel_rfl
theorem cl114 : Tryz.prog.cellsOf 114 = 1 := by kernel_rfl
theorem cl23 : Tryz.prog.cellsOf 23 = 1 := by kernel_rfl
theorem cl25 : Tryz.prog.cellsOf 25 = 3 := by kernel_rfl
theorem cl48 : Tryz.prog.cellsOf 48 = 1 := by kernel_rfl
theorem cl108 : Tryz.prog.cellsOf 108 = 2 := by kernel_rfl
theorem cl165 : Tryz.prog.cellsOf 165 = 2 := by kernel_rfl
theorem cl166 : Tryz.prog.cellsOf 166 = 10 := by kernel_rfl
section
variable {H : Type} {enc : TypeId × Value → H} {W : World}
theorem opPt : Opens enc Tryz.prog W 108 (fun p : Pt => (encPt p).cells) (fun _ => True) :=
  (opens_struct2 Tryz.underlying108 1 1 cl3 cl3 cl108 rfl rfl (opens_int Tryz.underlying3) (opens_int Tryz.underlying3)).map (fun a => Pt.mk a.1 a.2) (fun _ => rfl) (fun _ _ => trivial)
theorem opTbl : Opens enc Tryz.prog W 23 (fun t : List Pt => [tbl t]) (fun t => t.length ≤ maxLen) :=
  (opens_slice Tryz.underlying23 2 cl108 (by decide) opPt).map id (fun _ => rfl) (fun _ h => h.1)
theorem opCel : Opens enc Tryz.prog W 25 (fun c : Cel => (encC c).cells) (fun _ => True) :=
  (opens_struct3 Tryz.underlying25 1 1 1 cl23 cl3 cl3 cl25 rfl rfl rfl opTbl (opens_int Tryz.underlying3) (opens_int Tryz.underlying3)).map (fun a => Cel.mk a.1 a.2.1 a.2.2) (fun _ => rfl) (fun _ _ => trivial)
theorem opChn : Opens enc Tryz.prog W 48 (fun l : List Cel => [chn l]) (fun l => l.length ≤ maxLen) :=
  (opens_slice Tryz.underlying48 3 cl25 (by decide) opCel).map id (fun _ => rfl) (fun _ h => h.1)
theorem opFld : Opens enc Tryz.prog W 62 (fun f : List (List Cel) => [fld f]) (fun f => f.length ≤ maxLen) :=
  (opens_slice Tryz.underlying62 1 cl48 (by decide) (f := chn) opChn).map id (fun _ => rfl) (fun _ h => h.1)
theorem opInts : Opens enc Tryz.prog W 53 (fun l : List Int => [iL l]) (fun l => l.length ≤ maxLen) :=
  (opens_slice Tryz.underlying53 1 cl3 (by decide) (f := DV.int .i64) (opens_int Tryz.underlying3)).map id (fun _ => rfl) (fun _ h => h.1)
end
theorem relL_ints {M : Mem} {k : IntKind} (zs : List Int) : RelL M (zs.map (DV.int k)) (zs.map fun z => Value.int k z) := by
  refine ⟨by simp, fun i hi => ?_⟩
  rw [List.length_map] at hi
  have e1 : (zs.map (DV.int k)).getD i .undef = .int k zs[i] := by simp [List.getD_eq_getElem?_getD, hi]
  have e2 : (zs.map fun z => Value.int k z).getD i Go.undef = .int k zs[i] := by simp [List.getD_eq_getElem?_getD, hi]
  rw [e1, e2]
  exact .int _ _
theorem known_word {W : World} (s : List UInt8) {b : UInt8} {r : List UInt8} {f0 : FuncId} (hone : ((List.range Tryz.prog.funcs.size).filter fun f => (Tryz.prog.funcs[f]?).any (·.name.toUTF8.data.toList == b :: r)) = [f0]) :
    Known (funcToken Tryz.prog) Tryz.prog W 165 (.agg [.lit (.string s), .held (b :: r)]) [.str s, .func f0 []] :=
  known_struct2 (d0 := [.str s]) (d1 := [.func f0 []]) Tryz.underlying165 1 1 cl9 cl114 cl165 rfl rfl (known_string Tryz.underlying9 s) (known_func Tryz.underlying114 hone)
def wName (k : UInt8) : List UInt8 := [111, 109, 98, 105, 110, 101, 114, 47, 99, 117, 114, 118, 101, 46, 119, 111, 114, 100, 115, 36, k]
def wordsX : List (DataW (List UInt8)) := [.agg [.lit (.string [115, 97, 109, 101]), .held (99 :: wName 49)], .agg [.lit (.string [109, 111, 114, 101]), .held (99 :: wName 50)], .agg [.lit (.string [111, 112, 101, 110]), .held (99 :: wName 51)], .agg [.lit (.string [100, 97, 114, 107]), .held (99 :: wName 52)], .agg [.lit (.string [98, 121, 112, 97, 115, 115, 101, 100]), .held (99 :: wName 53)]]
def wordsD : List (List DV) := [[.str [115, 97, 109, 101], .func 190 []], [.str [109, 111, 114, 101], .func 192 []], [.str [111, 112, 101, 110], .func 193 []], [.str [100, 97, 114, 107], .func 194 []], [.str [98, 121, 112, 97, 115, 115, 101, 100], .func 195 []]]
theorem known_words {W : World} : Known (funcToken Tryz.prog) Tryz.prog W 166 (.agg wordsX) wordsD.flatten := by
  refine known_array (c := 2) Tryz.underlying166 cl165 cl166 rfl ?_
  intro i x ds e1 e2
  match i, e1, e2 with
  | 0, e1, e2 => cases Option.some.inj e1; cases Option.some.inj e2; exact known_word _ (by kernel_rfl)
  | 1, e1, e2 => cases Option.some.inj e1; cases Option.some.inj e2; exact known_word _ (by kernel_rfl)
  | 2, e1, e2 => cases Option.some.inj e1; cases Option.some.inj e2; exact known_word _ (by kernel_rfl)
  | 3, e1, e2 => cases Option.some.inj e1; cases Option.some.inj e2; exact known_word _ (by kernel_rfl)
  | 4, e1, e2 => cases Option.some.inj e1; cases Option.some.inj e2; exact known_word _ (by kernel_rfl)
def laidC : List (String × DataW Unit) := Rows.curveCellsRow.laid
theorem words_at {W : World} (h : laidMetH Tryz.prog laidC W) : ∃ cs : Array Value, W.var? Tryz.prog "combiner/curve.words" = some cs ∧ RelL (memOf W) wordsD.flatten cs.toList := by
  obtain ⟨g, t, cs, fuel, p, hg, ht, hv, hd⟩ := h.funcs (n := "combiner/curve.words") (.tail _ (.tail _ (.tail _ (.head _))))
  obtain rfl := Option.some.inj ((show Tryz.prog.globalNamed "combiner/curve.words" = some 0 by kernel_rfl).symm.trans hg)
  obtain rfl := Option.some.inj ((show (Tryz.prog.globals[0]?).map (·.type) = some 166 by kernel_rfl).symm.trans ht)
  have hd' : DataW.trod (funcToken Tryz.prog) Tryz.prog W 0 (fun _ => true) true fuel 166 cs.toList = some (.agg wordsX, p) := hd
  exact ⟨cs, hv, known_words _ _ _ _ _ hd'⟩
theorem pow_at {W : World} (h : laidMetH Tryz.prog laidC W) : Lib.TabIs Tryz.prog W "internal/strconv.uint64pow10" .u64 Lib.pow10Tab := by
  have h1 := h.filter fun x => x.1 == "internal/strconv.uint64pow10"
  have e : (laidC.filter fun x => x.1 == "internal/strconv.uint64pow10") = [("internal/strconv.uint64pow10", Lib.tabData .u64 Lib.pow10Tab)] := by kernel_rfl
  rw [e, MakeChecks.laidMetH_plain _ _ _ (by kernel_rfl)] at h1
  exact Lib.tabIs_of_head (g := 2) (t := 212) (e := 203) (n := 20) (by kernel_rfl) (by kernel_rfl) Tryz.underlying212 Tryz.underlying203 (by kernel_rfl) (by kernel_rfl) h1
theorem gokC {W : World} (h : laidMetH Tryz.prog laidC W) : GOk GC (memOf W) ∧ Tabs GC W := by
  obtain ⟨cs, hv, hr⟩ := words_at h
  have hp := pow_at h
  unfold Lib.TabIs at hp
  have g0 : Tryz.prog.globalNamed "combiner/curve.words" = some 0 := by kernel_rfl
  have g2 : Tryz.prog.globalNamed "internal/strconv.uint64pow10" = some 2 := by kernel_rfl
  refine ⟨fun g d hg => ?_, fun g d hg => ?_⟩
  all_goals unfold GC at hg
  all_goals split at hg
  · next e =>
    subst e
    obtain rfl := Option.some.inj hg
    exact gok_of (cs := cs) (fun i => World.var?_cell g0 hv i) hr
  · split at hg
    · next e =>
      subst e
      obtain rfl := Option.some.inj hg
      exact gok_of (fun i => World.var?_cell g2 hp i) (by simpa using relL_ints Lib.pow10Tab)
    · cases hg
  · next e =>
    subst e
    obtain rfl := Option.some.inj hg
    rw [len_of g0 hv, ← Array.length_toList, ← hr.1]
    rfl
  · split at hg
    · next e =>
      subst e
      obtain rfl := Option.some.inj hg
      rw [len_of g2 hp]
      rfl
    · cases hg
end Sh
