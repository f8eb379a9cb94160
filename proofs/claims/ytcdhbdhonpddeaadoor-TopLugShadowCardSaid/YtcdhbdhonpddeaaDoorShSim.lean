/- The relation between the shadow state and the state of the model. -/
import Derived.Test.YtcdhbdhonpddeaaDoorShWalk
set_option linter.unusedVariables false
namespace Sh
open Go

/-- The deferred calls of the activation are marks of loops over functions alone. -/
def MarksOk (B : Base) (w : World) (ds : List Deferred) : Prop :=
  (∀ d ∈ ds, ∃ D, d = { target := .collected D, args := #[] } ∧ B.lo ≤ D ∧ w.heap[D]? = some (.deferred (some []))) ∧ ds.Pairwise (· ≠ ·)

structure Sim (B : Base) (nt : Nat) (M0 : Mem) (w0 : World) (M : Mem) (ρ : Locs) (t : Tmps) (h : Heap) (a : Act) (w : World) : Prop where
  le : M0.le M
  tm : ∀ i, RelV M ρ h (tget t i) (a.tmps.getD i Go.undef)
  mem : M.holds w
  obj : ∀ n o, hlook h n = some o → ObjRel B M ρ h w n o
  dis : ∀ n m o p b c b' c', n ≠ m → hlook h n = some o → hlook h m = some p → ρ n = some (b, c) → ρ m = some (b', c') → b ≠ b'
  below : B.touch w0 w
  hB : B.lo = w0.heap.size
  new : ∀ b o v, M b o = some v → M0 b o = none → B.wr b
  size : a.tmps.size = nt
  marks : MarksOk B w a.defers
  ext : Ext M0 B.ρ0 B.h0 M ρ h

/-- The relation speaks of what the lists hold, not of how they hold it. -/
theorem RelV.congr {M : Mem} {ρ : Locs} {h h' : Heap} (e : ∀ n, hlook h' n = hlook h n) {d : DV} {v : Value} (hr : RelV M ρ h d v) : RelV M ρ h' d v :=
  hr.ext ⟨M.le_refl, fun n sz es fr hl => ⟨sz, es, fr, by rw [e]; exact hl, Nat.le_refl _, fun _ => ⟨.inl rfl, rfl⟩⟩, fun n o hl hk => ⟨rfl, o, by rw [e]; exact hl, like_refl hk⟩⟩

theorem ObjRel.congr {B : Base} {M : Mem} {ρ : Locs} {h h' : Heap} {w : World} {n : Nat} (e : ∀ n, hlook h' n = hlook h n) {o : DObj} (ho : ObjRel B M ρ h w n o) : ObjRel B M ρ h' w n o := by
  cases o with
  | row sz es fr => exact ho
  | box sz d =>
    obtain ⟨b, c, h1, h2, cs, t, h3, h4, h5, h6, h7⟩ := ho
    exact ⟨b, c, h1, h2, cs, t, h3, h4, h5, fun i hi => (h6 i hi).congr e, h7⟩
  | fbox sz d => exact ho
  | dict _ => exact ho
  | siter _ _ => exact ho

theorem Sim.congr {B : Base} {nt : Nat} {M0 : Mem} {w0 : World} {M : Mem} {ρ : Locs} {t t' : Tmps} {h h' : Heap} {a : Act} {w : World} (S : Sim B nt M0 w0 M ρ t h a w)
    (et : ∀ i, tget t' i = tget t i) (eh : ∀ n, hlook h' n = hlook h n) : Sim B nt M0 w0 M ρ t' h' a w :=
  { le := S.le, tm := fun i => by rw [et]; exact (S.tm i).congr eh, mem := S.mem, obj := fun n o hn => (S.obj n o (by rw [← eh]; exact hn)).congr eh,
    dis := fun n m o p b c b' c' hne h1 h2 => S.dis n m o p b c b' c' hne (by rw [← eh]; exact h1) (by rw [← eh]; exact h2),
    below := S.below, hB := S.hB, new := S.new, size := S.size, marks := S.marks,
    ext := S.ext.trans ⟨M.le_refl, fun n sz es fr hl => ⟨sz, es, fr, by rw [eh]; exact hl, Nat.le_refl _, fun _ => ⟨.inl rfl, rfl⟩⟩, fun n o hl hk => ⟨rfl, o, by rw [eh]; exact hl, like_refl hk⟩⟩ }

theorem natbeq (k i : Nat) : Nat.beq k i = decide (k = i) := by
  by_cases e : k = i
  · subst e; simp
  · rw [decide_eq_false e]
    cases hb : Nat.beq k i with
    | false => rfl
    | true => exact absurd (Nat.eq_of_beq_eq_true hb) e

theorem tget_cons (k : Nat) (d : DV) (t : Tmps) (i : Nat) : tget ((k, d) :: t) i = if k = i then d else tget t i := by
  show (bif Nat.beq k i then d else tget t i) = _
  rw [natbeq]
  by_cases e : k = i <;> simp [e]

theorem hlook_cons (k : Nat) (o : DObj) (h : Heap) (i : Nat) : hlook ((k, o) :: h) i = if k = i then some o else hlook h i := by
  show (bif Nat.beq k i then some o else hlook h i) = _
  rw [natbeq]
  by_cases e : k = i <;> simp [e]

/-- A value is put into a temporary. -/
theorem Sim.put {B : Base} {nt : Nat} {M0 : Mem} {w0 : World} {M : Mem} {ρ : Locs} {t : Tmps} {h : Heap} {a : Act} {w : World} (S : Sim B nt M0 w0 M ρ t h a w) {dst : Option Nat} (hd : ∀ k, dst = some k → k < nt)
    {d : DV} {v : Value} (hr : RelV M ρ h d v) : Sim B nt M0 w0 M ρ (putO dst d t) h (a.put dst v) w := by
  cases dst with
  | none => exact S
  | some k =>
    refine { S with tm := fun i => ?_, size := by simpa [Act.put] using S.size, marks := S.marks }
    simp only [putO, tget_cons, Act.put]
    have hk : k < a.tmps.size := by rw [S.size]; exact hd k rfl
    by_cases e : k = i
    · subst e; simp [hk, hr, Array.getD_eq_getD_getElem?]
    · simp only [e, if_false]
      have : (a.tmps.setIfInBounds k v).getD i Go.undef = a.tmps.getD i Go.undef := by
        simp [Array.getD_eq_getD_getElem?, Array.getElem?_setIfInBounds_ne e]
      rw [this]; exact S.tm i

theorem relP_ofCell (M : Mem) (v : Value) : RelP M (ofCell v) v := by
  unfold ofCell
  split
  · exact .bool _
  · exact .int _ _
  · rename_i s
    have : Value.string s = .string ⟨s.data.toList.toArray⟩ := by simp
    rw [this]; exact .str _
  · exact .full [] none 0 0 0 (fun _ => Go.undef) (.inl rfl) (by simp) (by simp [flat]) (by simp [flat])
  · exact .nilptr
  · exact .nilfunc
  · rename_i vs
    split
    · rename_i hv
      have : vs = #[] := by simpa using hv
      subst this
      exact .tuple [] #[] rfl (by simp)
    · exact .undef _
  · exact .undef _

theorem relP_ofValue (M : Mem) (v : Value) : RelP M (ofValue v) v := by
  unfold ofValue
  split
  · rename_i cs
    refine .agg _ _ (by simp) (fun i hi => ?_)
    simp only [List.length_map, Array.length_toList] at hi
    have h1 : (cs.toList.map ofCell).getD i .undef = ofCell cs[i] := by simp [List.getD_eq_getElem?_getD, hi]
    have h2 : cs.getD i Go.undef = cs[i] := by simp [Array.getD_eq_getD_getElem?, hi]
    rw [h1, h2]; exact relP_ofCell M _
  · exact relP_ofCell M _

/-- What an operand comes to. -/
theorem Sim.opd {G : Nat → Option DV} {B : Base} {nt : Nat} {M0 : Mem} {w0 : World} {M : Mem} {ρ : Locs} {t : Tmps} {h : Heap} {a : Act} {w : World} (hG : GOk G M0) (S : Sim B nt M0 w0 M ρ t h a w) (x : Operand) :
    RelV M ρ h (evalOpd G t x) (a.eval x) := by
  cases x with
  | tmp i => exact S.tm i
  | const v => exact .pure (relP_ofValue M v)
  | func f => exact .pure (.func f [] #[] rfl (by simp))
  | global g =>
    simp only [evalOpd, Act.eval]
    cases hg : G g with
    | none => exact .pure (.undef _)
    | some d => exact .pure ((hG g d hg).mono S.le)
end Sh
