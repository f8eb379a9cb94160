/- What single operations come to: maps, and ranges over strings. -/
import Derived.Test.YtcdhbdhonpddeaaDoorShOps10
import Derived.Test.YtcdhbdhonpddeaaDoorShEq
set_option linter.unusedVariables false
set_option linter.unusedSectionVars false
set_option linter.unusedSimpArgs false
namespace Sh
open Go

/-- Entries of the model, from a place on, against entries of the shadow. -/
inductive EntRel (M : Mem) : List (DV × DV) → List MapEntry → Prop
  | nil : EntRel M [] []
  | cons {k v : DV} {e : MapEntry} {es : List (DV × DV)} {E : List MapEntry} (hk : RelP M k e.key) (hv : RelP M v e.val) (h : EntRel M es E) : EntRel M ((k, v) :: es) (e :: E)

theorem entRel_of {M : Mem} : ∀ (es : List (DV × DV)) (E : List MapEntry), E.length = es.length → (∀ i e, E[i]? = some e → RelP M (es.getD i (.undef, .undef)).1 e.key ∧ RelP M (es.getD i (.undef, .undef)).2 e.val) → EntRel M es E
  | [], [], _, _ => .nil
  | [], _ :: _, h, _ => by simp at h
  | _ :: _, [], h, _ => by simp at h
  | (k, v) :: es, e :: E, h, hr => .cons (hr 0 e rfl).1 (hr 0 e rfl).2 (entRel_of es E (by simpa using h) (fun i x hx => by simpa using hr (i + 1) x (by simpa using hx)))

/-- Keys of a plain type. -/
def plainKey (kk : Nat) : TypeDesc → Prop
  | .bool => kk = 0
  | .int _ => kk = 1
  | .string => kk = 2
  | _ => False

theorem bytes_beq {s t : List UInt8} : ((⟨s.toArray⟩ : ByteArray) == ⟨t.toArray⟩) = decide (s = t) := by
  show (s.toArray == t.toArray) = _
  rw [Bool.eq_iff_iff]; simp

theorem sameNow_of {M : Mem} {kk : Nat} {ks : List Nat} {desc : TypeDesc} (hd : plainKey kk desc) {a b : DV} {u v : Value} (ha : RelP M a u) (hb : RelP M b v) {r : Bool} (he : keyEq kk ks a b = some r) : Instr.sameNow desc u v = some r := by
  cases desc with
  | bool =>
    simp only [plainKey] at hd; subst hd
    simp only [keyEq] at he
    split at he
    · cases ha; cases hb; simp only [Option.some.injEq] at he; subst he; rfl
    · cases he
  | int q =>
    simp only [plainKey] at hd; subst hd
    simp only [keyEq] at he
    split at he
    · rename_i j m k n
      cases ha; cases hb
      cases hk : kindEq j k with
      | false => rw [hk] at he; cases he
      | true =>
        rw [hk] at he; simp only [cond_true, Option.some.injEq] at he; subst he
        have := kindEq_eq hk; subst this
        simp [Instr.sameNow, Bool.beq_eq_decide_eq]
    · cases he
  | string =>
    simp only [plainKey] at hd; subst hd
    simp only [keyEq] at he
    split at he
    · cases ha; cases hb; simp only [Option.some.injEq] at he; subst he
      simp only [Instr.sameNow, bytes_beq]
    · cases he
  | _ => exact hd.elim

theorem findNow_of {M : Mem} {kk : Nat} {ks : List Nat} {desc : TypeDesc} (hd : plainKey kk desc) {k : DV} {u : Value} (hk : RelP M k u) {es : List (DV × DV)} {E : List MapEntry} (hr : EntRel M es E) : ∀ (i : Nat) (r : Option (Nat × DV)), dfind (keyEq kk ks) k es i = some r →
    (r = none → Instr.findNow desc u E i = some none) ∧ ∀ j v, r = some (j, v) → i ≤ j ∧ ∃ e, E[j - i]? = some e ∧ Instr.findNow desc u E i = some (some (j, e.val)) ∧ RelP M v e.val ∧ ∃ k', keyEq kk ks k k' = some true ∧ RelP M k' e.key := by
  induction hr with
  | nil => intro i r h; simp only [dfind, Option.some.injEq] at h; subst h; exact ⟨fun _ => rfl, fun j v e => by cases e⟩
  | @cons k' v' e es E hk' hv' _ ih =>
    intro i r h
    simp only [dfind] at h
    split at h
    · rename_i he
      simp only [Option.some.injEq] at h; subst h
      refine ⟨fun e => (by cases e), fun j v e2 => ?_⟩
      cases e2
      refine ⟨Nat.le_refl _, e, by simp, ?_, hv', k', he, hk'⟩
      simp only [Instr.findNow, sameNow_of hd hk hk' he]
    · rename_i he
      obtain ⟨q1, q2⟩ := ih (i + 1) r h
      refine ⟨fun e2 => ?_, fun j v e2 => ?_⟩
      · simp only [Instr.findNow, sameNow_of hd hk hk' he]; exact q1 e2
      · obtain ⟨g0, x, g1, g2, g3, g4⟩ := q2 j v e2
        refine ⟨by omega, x, ?_, ?_, g3, g4⟩
        · rw [show j - i = (j - (i + 1)) + 1 by omega]; simpa using g1
        · simp only [Instr.findNow, sameNow_of hd hk hk' he]; exact g2
    · cases h

theorem sameBits_of {M : Mem} {kk : Nat} {ks : List Nat} {desc : TypeDesc} (hd : plainKey kk desc) {a b : DV} {u v : Value} (ha : RelP M a u) (hb : RelP M b v) (he : keyEq kk ks a b = some true) : Instr.sameBits 10000 v u = true := by
  cases desc with
  | bool =>
    simp only [plainKey] at hd; subst hd
    simp only [keyEq] at he
    split at he
    · cases ha; cases hb; simp at he; subst he; simp [Instr.sameBits]
    · cases he
  | int q =>
    simp only [plainKey] at hd; subst hd
    simp only [keyEq] at he
    split at he
    · rename_i j m k n
      cases ha; cases hb
      cases hk : kindEq j k with
      | false => rw [hk] at he; cases he
      | true =>
        rw [hk] at he; simp at he; subst he
        have := kindEq_eq hk; subst this
        simp [Instr.sameBits]
    · cases he
  | string =>
    simp only [plainKey] at hd; subst hd
    simp only [keyEq] at he
    split at he
    · cases ha; cases hb; simp at he; subst he; simp [Instr.sameBits, bytes_beq]
    · cases he
  | _ => exact hd.elim

section
variable {P : Program} {w : World}

theorem checkKey_plain {kk : Nat} {desc : TypeDesc} (hd : plainKey kk desc) {k : TypeId} (hk : P.underlying k = some desc) (b : Bool) (n : Nat) (v : Value) : (Instr.checkKey b (n + 1) k v).run P w = .ok () w := by
  cases desc <;> first | exact hd.elim | (cases v <;> simp [Instr.checkKey, run_underlying hk])

theorem findKey_plain {desc : TypeDesc} {k : TypeId} (hk : P.underlying k = some desc) {u : Value} {E : List MapEntry} {r : Option (Nat × Value)} (h : Instr.findNow desc u E 0 = some r) : (Instr.findKey k u E).run P w = .ok r w := by
  simp [Instr.findKey, run_underlying hk, h]

theorem keyT_spec {k : TypeId} {kk : Nat} {ks : List Nat} (h : keyT P k = some (kk, ks)) : ∃ desc, P.underlying k = some desc ∧ plainKey kk desc := by
  unfold keyT at h
  split at h
  · rename_i hu; cases h; exact ⟨_, hu, rfl⟩
  · rename_i hu; cases h; exact ⟨_, hu, rfl⟩
  · rename_i hu; cases h; exact ⟨_, hu, rfl⟩
  · cases h

theorem mapT_spec {t k e : TypeId} {kk : Nat} {ks : List Nat} (h : mapT P t = some (k, e, kk, ks)) : P.underlying t = some (.map k e) ∧ keyT P k = some (kk, ks) := by
  unfold mapT at h
  split at h
  · rename_i hu
    split at h
    · rename_i hk
      simp only [Option.some.injEq, Prod.mk.injEq] at h; obtain ⟨rfl, rfl, rfl, rfl⟩ := h
      exact ⟨hu, hk⟩
    · cases h
  · cases h
end

section
variable {P : Program} {G : Nat → Option DV} {B : Base} {nt : Nat} {M0 : Mem} {w0 : World} {M : Mem} {ρ : Locs} {t : Tmps} {h : Heap} {a : Act} {w : World} {o : Oper}

theorem inv_dict {n : Nat} {v : Value} (r : RelV M ρ h (.dict n) v) {es : List (DV × DV)} (hl : hlook h n = some (.dict es)) : ∃ b c, ρ n = some (b, c) ∧ v = .map (some b) := by
  cases r with
  | pure hp => cases hp
  | dictv _ b c es' hl' hρ => exact ⟨b, c, hρ, rfl⟩
  | sitv _ b c pos s hl' hρ => rw [hl] at hl'; cases hl'

theorem inv_siter {n : Nat} {v : Value} (r : RelV M ρ h (.dict n) v) {s : List UInt8} {pos : Nat} (hl : hlook h n = some (.siter s pos)) : ∃ b c, ρ n = some (b, c) ∧ v = .pointer (some ⟨b, 0, none⟩) := by
  cases r with
  | pure hp => cases hp
  | dictv _ b c es' hl' hρ => rw [hl] at hl'; cases hl'
  | sitv _ b c pos s hl' hρ => exact ⟨b, c, hρ, rfl⟩

theorem ext_setOth (M : Mem) (ρ : Locs) {h : Heap} {n : Nat} {o o' : DObj} (hn : hlook h n = some o) (hr : o.isRow = false) (hl : o.like o') : Ext M ρ h M ρ ((n, o') :: h) := by
  refine ⟨M.le_refl, fun m sz' es fr e => ⟨sz', es, fr, ?_, Nat.le_refl _, fun _ => ⟨.inl rfl, rfl⟩⟩, fun m p e hk => ⟨rfl, ?_⟩⟩
  · rw [hlook_cons]
    by_cases e2 : n = m
    · subst e2; rw [hn] at e; cases e; cases hr
    · rw [if_neg e2]; exact e
  · rw [hlook_cons]
    by_cases e2 : n = m
    · subst e2; rw [hn] at e; cases e; exact ⟨_, by rw [if_pos rfl], hl⟩
    · exact ⟨p, by rw [if_neg e2]; exact e, like_refl hk⟩

/-- A block of the call's own that is no cells is turned. -/
theorem Sim.turn (S : Sim B nt M0 w0 M ρ t h a w) {n b c : Nat} {ob ob' : DObj} {x x' : Obj} (hn : hlook h n = some ob) (hr : ob.isRow = false) (hl : ob.like ob') (hρ : ρ n = some (b, c)) (hB : B.wr b) (hb : w.heap[b]? = some x) (hnd : ∀ ds, x ≠ .deferred ds)
    (hfree : ∀ o, M b o = none) (ho' : ObjRel B M ρ ((n, ob') :: h) { w with heap := w.heap.setIfInBounds b x' } n ob') : Sim B nt M0 w0 M ρ t ((n, ob') :: h) a { w with heap := w.heap.setIfInBounds b x' } := by
  have hk : ∀ k, k ≠ b → (w.heap.setIfInBounds b x')[k]? = w.heap[k]? := fun k hk => Array.getElem?_setIfInBounds_ne (Ne.symm hk)
  refine S.setObj hn hρ hk ?_ hfree hb hnd (ext_setOth M ρ hn hr hl) ho'
  exact S.below.trans ⟨rfl, rfl, rfl, by simp, fun k hk' => hk k (fun e => hk' (by rw [e]; exact hB))⟩

theorem dict_spec (S : Sim B nt M0 w0 M ρ t h a w) {n b c : Nat} {es : List (DV × DV)} (hl : hlook h n = some (.dict es)) (hρ : ρ n = some (b, c)) :
    B.wr b ∧ (∃ E, w.heap[b]? = some (.map E es.length) ∧ E.size = es.length ∧ (∀ i e, E[i]? = some e → e.born = i ∧ RelP M (es.getD i (.undef, .undef)).1 e.key ∧ RelP M (es.getD i (.undef, .undef)).2 e.val) ∧ EntRel M es E.toList) ∧ ∀ o, M b o = none := by
  obtain ⟨b', c', q1, q2, ⟨E, q3, q4, q5⟩, q6⟩ := S.obj n _ hl
  rw [hρ] at q1; cases q1
  exact ⟨q2, ⟨E, q3, q4, q5, entRel_of es E.toList (by simpa using q4) (fun i e he => (q5 i e (by simpa using he)).2)⟩, q6⟩

theorem op_makemap (S : Sim B nt M0 w0 M ρ t h a w) (ty : TypeId) (n : Nat) (ho : o.op = .makeMap ty none) (hn : hlook h n = none) : OpGoal P B nt M0 w0 M ρ t h a w o (.dict n) [(n, .dict [])] := by
  have hln : locWith ρ n w.heap.size 1 n = some (w.heap.size, 1) := by unfold locWith; rw [if_pos rfl]
  have hs : Sim B nt M0 w0 M (locWith ρ n w.heap.size 1) t ((n, .dict []) :: h) a (w.alloc (.map #[] 0)) := by
    refine (S.alloc _).addObj hn (fun m p c' hm e' => ?_) ?_
    · have := S.loc_lt hm e'; omega
    · exact ⟨w.heap.size, 1, hln, .inl S.Bsize, ⟨#[], alloc_new w _, rfl, by simp⟩, fun o => S.free_mem (Nat.le_refl _) o⟩
  refine ⟨_, .map (some w.heap.size), _, M, _, ?_, .inl rfl, hs, .dictv n w.heap.size 1 [] (by show hlook ((n, DObj.dict []) :: h) n = _; rw [hlook_cons, if_pos rfl]) hln⟩
  simp only [execOp, ho, Option.map_none]
  rfl

theorem run_mapUpdate {t k e : TypeId} (ht : P.underlying t = some (.map k e)) {kk : Nat} {ks : List Nat} (hk : keyT P k = some (kk, ks)) {kd : DV} {kv vv : Value} (hkv : RelP M kd kv) {b : Nat} {es : List (DV × DV)} {E : Array MapEntry} {cl : Nat}
    (hb : w.heap[b]? = some (.map E cl)) (hE : EntRel M es E.toList) {r : Option (Nat × DV)} (hf : dfind (keyEq kk ks) kd es 0 = some r) :
    (r = none → (Instr.mapUpdate t (.map (some b)) kv vv).run P w = .ok () { w with heap := w.heap.setIfInBounds b (.map (E.push { key := kv, val := vv, born := cl }) (cl + 1)) }) ∧
    (∀ i v, r = some (i, v) → (Instr.mapUpdate t (.map (some b)) kv vv).run P w = .ok () { w with heap := w.heap.setIfInBounds b (.map (E.modify i fun e => { e with key := kv, val := vv }) cl) }) := by
  obtain ⟨desc, hu, hd⟩ := keyT_spec hk
  obtain ⟨q1, q2⟩ := findNow_of hd hkv hE 0 r hf
  refine ⟨fun e => ?_, fun i v e => ?_⟩
  · have := findKey_plain (P := P) (w := w) hu (q1 e)
    simp only [Instr.mapUpdate, Sem.run_bind, run_underlying ht, Result.andThen_ok, MapKept.run_getObj_map hb, checkKey_plain hd hu, this, MapKept.run_setObj_map _ hb]
  · obtain ⟨_, x, g1, g2, g3, k', g4, g5⟩ := q2 i v e
    have hfk := findKey_plain (P := P) (w := w) hu g2
    rw [Nat.sub_zero] at g1
    have hx : E[i]? = some x := by simpa using g1
    have hsb := sameBits_of hd hkv g5 g4
    simp only [Instr.mapUpdate, Sem.run_bind, run_underlying ht, Result.andThen_ok, MapKept.run_getObj_map hb, checkKey_plain hd hu, hfk, hx, Option.map_some, Option.getD_some, Instr.keyThatStays, hsb, if_true, Sem.run_pure, MapKept.run_setObj_map _ hb]

theorem set_getD {α : Type} (l : List α) (i j : Nat) (x d : α) (hi : i < l.length) : (l.set i x).getD j d = if i = j then x else l.getD j d := by
  by_cases e : i = j
  · subst e; simp [List.getD_eq_getElem?_getD, hi]
  · simp [List.getD_eq_getElem?_getD, List.getElem?_set, e]

theorem dfind_lt {eq : DV → DV → Option Bool} {k : DV} : ∀ {es : List (DV × DV)} {i j : Nat} {v : DV}, dfind eq k es i = some (some (j, v)) → i ≤ j ∧ j - i < es.length ∧ (es.getD (j - i) (.undef, .undef)).2 = v
  | [], i, j, v, h => by simp [dfind] at h
  | (k', v') :: r, i, j, v, h => by
    simp only [dfind] at h
    split at h
    · cases h; simp
    · obtain ⟨h1, h2, h3⟩ := dfind_lt h
      refine ⟨by omega, by simp only [List.length_cons]; omega, ?_⟩
      rw [show j - i = (j - (i + 1)) + 1 by omega]; simpa using h3
    · cases h

/-- What is left where an entry's key and value are written. -/
theorem dict_mod (S : Sim B nt M0 w0 M ρ t h a w) {n b c : Nat} {es : List (DV × DV)} (hl : hlook h n = some (.dict es)) (hρ : ρ n = some (b, c)) {E : Array MapEntry} (hb : w.heap[b]? = some (.map E es.length)) (hs : E.size = es.length)
    (hE : ∀ i e, E[i]? = some e → e.born = i ∧ RelP M (es.getD i (.undef, .undef)).1 e.key ∧ RelP M (es.getD i (.undef, .undef)).2 e.val) (i : Nat) (hi : i < es.length) {kd vd : DV} {f : MapEntry → MapEntry}
    (hf : ∀ e, E[i]? = some e → (f e).born = e.born ∧ RelP M kd (f e).key ∧ RelP M vd (f e).val) :
    Sim B nt M0 w0 M ρ t ((n, .dict (es.set i (kd, vd))) :: h) a { w with heap := w.heap.setIfInBounds b (.map (E.modify i f) es.length) } := by
  obtain ⟨h1, _, h3⟩ := dict_spec S hl hρ
  have hlt : b < w.heap.size := (Array.getElem?_eq_some_iff.1 hb).1
  refine S.turn (ob' := .dict _) hl rfl trivial hρ h1 hb (fun _ e => by cases e) h3 ⟨b, c, hρ, h1, ⟨E.modify i f, ?_, ?_, fun j e he => ?_⟩, h3⟩
  · simp [hlt]
  · simp [hs]
  · rw [Array.getElem?_modify] at he
    rw [set_getD es i j _ _ hi]
    by_cases hij : i = j
    · subst hij
      rw [if_pos rfl] at he ⊢
      cases hx : E[i]? with
      | none => rw [hx] at he; cases he
      | some x =>
        rw [hx] at he; cases he
        obtain ⟨g1, g2, g3⟩ := hf x hx
        exact ⟨g1.trans (hE i x hx).1, g2, g3⟩
    · rw [if_neg hij] at he ⊢
      exact hE j e he

/-- What is left where an entry is put in. -/
theorem dict_push (S : Sim B nt M0 w0 M ρ t h a w) {n b c : Nat} {es : List (DV × DV)} (hl : hlook h n = some (.dict es)) (hρ : ρ n = some (b, c)) {E : Array MapEntry} (hb : w.heap[b]? = some (.map E es.length)) (hs : E.size = es.length)
    (hE : ∀ i e, E[i]? = some e → e.born = i ∧ RelP M (es.getD i (.undef, .undef)).1 e.key ∧ RelP M (es.getD i (.undef, .undef)).2 e.val) {kd vd : DV} {kv vv : Value} (h4 : RelP M kd kv) (h5 : RelP M vd vv) :
    Sim B nt M0 w0 M ρ t ((n, .dict (es ++ [(kd, vd)])) :: h) a { w with heap := w.heap.setIfInBounds b (.map (E.push { key := kv, val := vv, born := es.length }) (es.length + 1)) } := by
  obtain ⟨h1, _, h3⟩ := dict_spec S hl hρ
  have hlt : b < w.heap.size := (Array.getElem?_eq_some_iff.1 hb).1
  refine S.turn (ob' := .dict _) hl rfl trivial hρ h1 hb (fun _ e => by cases e) h3 ⟨b, c, hρ, h1, ⟨E.push { key := kv, val := vv, born := es.length }, ?_, ?_, fun j e he => ?_⟩, h3⟩
  · simp [hlt]
  · simp [hs]
  · rw [Array.getElem?_push] at he
    by_cases hj : j = E.size
    · rw [if_pos hj] at he; cases he
      subst hj
      rw [hs]
      refine ⟨rfl, ?_, ?_⟩ <;> simp [List.getD_eq_getElem?_getD, h4, h5]
    · rw [if_neg hj] at he
      have hlt2 : j < es.length := by
        have := (Array.getElem?_eq_some_iff.1 he).1; omega
      rw [show (es ++ [(kd, vd)]).getD j (.undef, .undef) = es.getD j (.undef, .undef) by simp [List.getD_eq_getElem?_getD, List.getElem?_append, hlt2]]
      exact hE j e he

theorem key_pure {kk : Nat} {ks : List Nat} {k k' : DV} {r : Bool} (h : keyEq kk ks k k' = some r) (hd : kk ≤ 2) : pureB k = true := by
  match kk, hd with
  | 0, _ => simp only [keyEq] at h; split at h <;> first | rfl | cases h
  | 1, _ => simp only [keyEq] at h; split at h <;> first | rfl | cases h
  | 2, _ => simp only [keyEq] at h; split at h <;> first | rfl | cases h

/-- A key of a plain type that the shadow tells is pure. -/
theorem dfind_key {kk : Nat} {ks : List Nat} {k : DV} {es : List (DV × DV)} {r : Option (Nat × DV)} (h : dfind (keyEq kk ks) k es 0 = some r) (hd : kk ≤ 2) : es = [] ∨ pureB k = true := by
  cases es with
  | nil => exact .inl rfl
  | cons p es =>
    obtain ⟨k', v⟩ := p
    simp only [dfind] at h
    split at h
    · exact .inr (key_pure ‹_› hd)
    · exact .inr (key_pure ‹_› hd)
    · cases h

theorem op_mapset (hG : GOk G M0) (S : Sim B nt M0 w0 M ρ t h a w) (ty kt et : TypeId) (m k v : Operand) (kk : Nat) (ks : List Nat) (ho : o.op = .mapUpdate ty m k v ∨ o.op = .insert ty m k v) (ht : mapT P ty = some (kt, et, kk, ks)) (n : Nat) (es : List (DV × DV))
    (hm : evalOpd G t m = .dict n) (hl : hlook h n = some (.dict es)) (hkp : pureB (evalOpd G t k) = true) (hvp : pureB (evalOpd G t v) = true) {r : Option (Nat × DV)} (hf : dfind (keyEq kk ks) (evalOpd G t k) es 0 = some r) :
    OpGoal P B nt M0 w0 M ρ t h a w o (.tuple []) [(n, .dict (match r with | some (i, _) => es.set i (evalOpd G t k, evalOpd G t v) | none => es ++ [(evalOpd G t k, evalOpd G t v)]))] := by
  obtain ⟨hu, hkt⟩ := mapT_spec ht
  have r1 := S.opd hG m; rw [hm] at r1
  obtain ⟨b, c, hρ, e1⟩ := inv_dict r1 hl
  have r2 := relV_pure _ _ hkp (S.opd hG k)
  have r3 := relV_pure _ _ hvp (S.opd hG v)
  obtain ⟨h1, ⟨E, h2, h3, h4, h5⟩, h6⟩ := dict_spec S hl hρ
  obtain ⟨u1, u2⟩ := run_mapUpdate (vv := a.eval v) hu hkt r2 h2 h5 hf
  have hex : ∀ w', (Instr.mapUpdate ty (.map (some b)) (a.eval k) (a.eval v)).run P w = .ok () w' → (execOp a.eval o).run P w = .ok .skip w' := fun w' hr => by
    rcases ho with ho | ho <;> simp only [execOp, ho, e1, Sem.run_bind, hr, Result.andThen_ok, Sem.run_pure]
  cases r with
  | none => exact ⟨_, Go.undef, _, M, ρ, hex _ (u1 rfl), .inr ⟨rfl, rfl⟩, dict_push S hl hρ h2 h3 h4 r2 r3, .pure (.tuple [] #[] rfl (by simp))⟩
  | some p =>
    obtain ⟨i, v'⟩ := p
    obtain ⟨_, g2, _⟩ := dfind_lt hf
    exact ⟨_, Go.undef, _, M, ρ, hex _ (u2 i v' rfl), .inr ⟨rfl, rfl⟩, dict_mod S hl hρ h2 h3 h4 i (by simpa using g2) (fun e _ => ⟨rfl, r2, r3⟩), .pure (.tuple [] #[] rfl (by simp))⟩

theorem run_lookup {t k e : TypeId} (ht : P.underlying t = some (.map k e)) {kk : Nat} {ks : List Nat} (hk : keyT P k = some (kk, ks)) {kd : DV} {kv : Value} (hkv : RelP M kd kv) {b : Nat} {es : List (DV × DV)} {E : Array MapEntry} {cl : Nat}
    (hb : w.heap[b]? = some (.map E cl)) (hE : EntRel M es E.toList) {z : Value} (hz : (zeroValue e).run P w = .ok z w) (ok : Bool) {r : Option (Nat × DV)} (hf : dfind (keyEq kk ks) kd es 0 = some r) :
    (r = none → (Instr.lookup t (.map (some b)) kv ok).run P w = .ok (if ok then .tuple #[z, .bool false] else z) w) ∧
    (∀ i v, r = some (i, v) → ∃ x, RelP M v x ∧ (Instr.lookup t (.map (some b)) kv ok).run P w = .ok (if ok then .tuple #[x, .bool true] else x) w) := by
  obtain ⟨desc, hu, hd⟩ := keyT_spec hk
  obtain ⟨q1, q2⟩ := findNow_of hd hkv hE 0 r hf
  refine ⟨fun e => ?_, fun i v e => ?_⟩
  · have := findKey_plain (P := P) (w := w) hu (q1 e)
    simp only [Instr.lookup, Sem.run_bind, run_underlying ht, Result.andThen_ok, MapKept.run_getObj_map hb, checkKey_plain hd hu, this, hz, Sem.run_pure]
  · obtain ⟨_, x, g1, g2, g3, k', g4, g5⟩ := q2 i v e
    have hfk := findKey_plain (P := P) (w := w) hu g2
    refine ⟨x.val, g3, ?_⟩
    simp only [Instr.lookup, Sem.run_bind, run_underlying ht, Result.andThen_ok, MapKept.run_getObj_map hb, checkKey_plain hd hu, hfk, Sem.run_pure]

theorem zero_run {e : TypeId} {z : Value} (hz : zeroT P e = some z) : (zeroValue e).run P w = .ok z w := by
  unfold zeroT at hz
  cases hi : P.info? e with
  | none => rw [hi] at hz; cases hz
  | some i =>
    rw [hi] at hz
    simp only [Option.bind_some] at hz
    simp only [zeroValue, typeInfo, Sem.run_bind, run_program, Result.andThen_ok, hi, Sem.run_pure, hz]

theorem relP_pair {M : Mem} {x y : DV} {u v : Value} (hx : RelP M x u) (hy : RelP M y v) : RelP M (.tuple [x, y]) (.tuple #[u, v]) := by
  refine .tuple [x, y] #[u, v] rfl (fun i hi => ?_)
  match i, hi with
  | 0, _ => exact hx
  | 1, _ => exact hy

theorem op_lookup (hG : GOk G M0) (S : Sim B nt M0 w0 M ρ t h a w) (ty kt et : TypeId) (m k : Operand) (kk : Nat) (ks : List Nat) (ok : Bool) (z : Value) (ho : o.op = .lookup ty m k ok) (ht : mapT P ty = some (kt, et, kk, ks)) (hz : zeroT P et = some z) (n : Nat) (es : List (DV × DV))
    (hm : evalOpd G t m = .dict n) (hl : hlook h n = some (.dict es)) (hkp : pureB (evalOpd G t k) = true) {r : Option (Nat × DV)} (hf : dfind (keyEq kk ks) (evalOpd G t k) es 0 = some r) :
    OpGoal P B nt M0 w0 M ρ t h a w o (match r with | some (_, v) => (bif ok then .tuple [v, .bool true] else v) | none => (bif ok then .tuple [ofValue z, .bool false] else ofValue z)) [] := by
  obtain ⟨hu, hkt⟩ := mapT_spec ht
  have r1 := S.opd hG m; rw [hm] at r1
  obtain ⟨b, c, hρ, e1⟩ := inv_dict r1 hl
  have r2 := relV_pure _ _ hkp (S.opd hG k)
  obtain ⟨h1, ⟨E, h2, h3, h4, h5⟩, h6⟩ := dict_spec S hl hρ
  obtain ⟨u1, u2⟩ := run_lookup hu hkt r2 h2 h5 (zero_run (w := w) hz) ok hf
  cases r with
  | none =>
    refine OpGoal.same S (v := if ok then .tuple #[z, .bool false] else z) ?_ ?_
    · simp only [execOp, ho, e1, Sem.run_bind, u1 rfl, Result.andThen_ok, Sem.run_pure]
    · cases ok
      · exact .pure (relP_ofValue M z)
      · exact .pure (relP_pair (relP_ofValue M z) (.bool _))
  | some p =>
    obtain ⟨i, v⟩ := p
    obtain ⟨x, g1, g2⟩ := u2 i v rfl
    refine OpGoal.same S (v := if ok then .tuple #[x, .bool true] else x) ?_ ?_
    · simp only [execOp, ho, e1, Sem.run_bind, g2, Result.andThen_ok, Sem.run_pure]
    · cases ok
      · exact .pure g1
      · exact .pure (relP_pair g1 (.bool _))

theorem op_mapentry (hG : GOk G M0) (S : Sim B nt M0 w0 M ρ t h a w) (ty kt et : TypeId) (m k : Operand) (kk : Nat) (ks : List Nat) (z : Value) (ho : o.op = .mapEntry ty m k) (ht : mapT P ty = some (kt, et, kk, ks)) (hz : zeroT P et = some z) (n : Nat) (es : List (DV × DV))
    (hm : evalOpd G t m = .dict n) (hl : hlook h n = some (.dict es)) (hkp : pureB (evalOpd G t k) = true) {r : Option (Nat × DV)} (hf : dfind (keyEq kk ks) (evalOpd G t k) es 0 = some r) :
    OpGoal P B nt M0 w0 M ρ t h a w o (match r with | some (i, v) => .tuple [v, .int .i64 i] | none => .tuple [ofValue z, .int .i64 es.length])
      [(n, .dict (match r with | some (i, v) => es.set i (evalOpd G t k, v) | none => es ++ [(evalOpd G t k, ofValue z)]))] := by
  obtain ⟨hu, hkt⟩ := mapT_spec ht
  obtain ⟨desc, hud, hd⟩ := keyT_spec hkt
  have r1 := S.opd hG m; rw [hm] at r1
  obtain ⟨b, c, hρ, e1⟩ := inv_dict r1 hl
  have r2 := relV_pure _ _ hkp (S.opd hG k)
  obtain ⟨h1, ⟨E, h2, h3, h4, h5⟩, h6⟩ := dict_spec S hl hρ
  obtain ⟨q1, q2⟩ := findNow_of hd r2 h5 0 r hf
  cases r with
  | none =>
    have hfk := findKey_plain (P := P) (w := w) hud (q1 rfl)
    refine ⟨_, _, _, M, ρ, ?_, .inl rfl, dict_push S hl hρ h2 h3 h4 r2 (relP_ofValue M z), .pure (relP_pair (relP_ofValue M z) (.int .i64 _))⟩
    simp only [execOp, ho, e1, Instr.mapEntry, Sem.run_bind, run_underlying hu, Result.andThen_ok, MapKept.run_getObj_map h2, checkKey_plain hd hud, hfk, zero_run hz, MapKept.run_setObj_map _ h2, Sem.run_pure, goInt]
  | some p =>
    obtain ⟨i, v⟩ := p
    obtain ⟨_, x, g1, g2, g3, k', g4, g5⟩ := q2 i v rfl
    have hfk := findKey_plain (P := P) (w := w) hud g2
    rw [Nat.sub_zero] at g1
    have hx : E[i]? = some x := by simpa using g1
    have hsb := sameBits_of hd r2 g5 g4
    obtain ⟨_, g6, _⟩ := dfind_lt hf
    refine ⟨_, _, _, M, ρ, ?_, .inl rfl, dict_mod S hl hρ h2 h3 h4 i (by simpa using g6) (f := fun e => { e with key := a.eval k }) (kd := evalOpd G t k) (vd := v) (fun e he => ⟨rfl, r2, ?_⟩), .pure (relP_pair g3 (.int .i64 _))⟩
    · simp only [execOp, ho, e1, Instr.mapEntry, Sem.run_bind, run_underlying hu, Result.andThen_ok, MapKept.run_getObj_map h2, checkKey_plain hd hud, hfk, hx, Option.map_some, Option.getD_some, Instr.keyThatStays, hsb, if_true, MapKept.run_setObj_map _ h2, Sem.run_pure, goInt, (h4 i x hx).1]
    · rw [hx] at he; cases he; exact g3

theorem op_entrystore (hG : GOk G M0) (S : Sim B nt M0 w0 M ρ t h a w) (ty : TypeId) (m s v : Operand) (ho : o.op = .entryStore ty m s v) (n : Nat) (es : List (DV × DV)) (k : IntKind) (i : Int)
    (hm : evalOpd G t m = .dict n) (hs : evalOpd G t s = .int k i) (hl : hlook h n = some (.dict es)) (hvp : pureB (evalOpd G t v) = true) (hb : 0 ≤ i ∧ i < es.length) :
    OpGoal P B nt M0 w0 M ρ t h a w o (.tuple []) [(n, .dict (es.set i.toNat ((es.getD i.toNat (.undef, .undef)).1, evalOpd G t v)))] := by
  have r1 := S.opd hG m; rw [hm] at r1
  obtain ⟨b, c, hρ, e1⟩ := inv_dict r1 hl
  have r2 := S.opd hG s; rw [hs] at r2
  have r3 := relV_pure _ _ hvp (S.opd hG v)
  obtain ⟨h1, ⟨E, h2, h3, h4, h5⟩, h6⟩ := dict_spec S hl hρ
  have hlt : i.toNat < E.size := by omega
  have hfi : E.findIdx? (fun e => (e.born : Int) == i) = some i.toNat := by
    rw [Array.findIdx?_eq_some_iff_getElem]
    refine ⟨hlt, ?_, fun j hj => ?_⟩
    · have := (h4 i.toNat _ (Array.getElem?_eq_getElem hlt)).1
      rw [this]; simp; omega
    · have := (h4 j _ (Array.getElem?_eq_getElem (by omega))).1
      rw [this]; simp; omega
  refine ⟨_, Go.undef, _, M, ρ, ?_, .inr ⟨rfl, rfl⟩, dict_mod S hl hρ h2 h3 h4 i.toNat (by omega) (f := fun e => { e with val := a.eval v }) (fun e he => ⟨rfl, (h4 _ e he).2.1, r3⟩), .pure (.tuple [] #[] rfl (by simp))⟩
  simp only [execOp, ho, e1, r2.inv_int, Instr.entryStore, Sem.run_bind, MapKept.run_getObj_map h2, Result.andThen_ok, asInt, asIntOf, hfi, MapKept.run_setObj_map _ h2, Sem.run_pure]

theorem op_lenM (hG : GOk G M0) (S : Sim B nt M0 w0 M ρ t h a w) (ty kt et : TypeId) (x : Operand) (ho : o.op = .call ⟨.builtin .len, #[x], #[ty]⟩) (ht : P.underlying ty = some (.map kt et)) (n : Nat) (es : List (DV × DV)) (hx : evalOpd G t x = .dict n) (hl : hlook h n = some (.dict es)) :
    OpGoal P B nt M0 w0 M ρ t h a w o (.int .i64 es.length) [] := by
  have r1 := S.opd hG x; rw [hx] at r1
  obtain ⟨b, c, hρ, e1⟩ := inv_dict r1 hl
  obtain ⟨h1, ⟨E, h2, h3, h4, h5⟩, h6⟩ := dict_spec S hl hρ
  refine OpGoal.same S (v := goInt es.length) ?_ (.pure (.int _ _))
  have hrun : (Builtin.len_ #[ty] o.type #[.map (some b)]).run P w = .ok (goInt es.length) w := by
    simp [Builtin.len_, run_underlying ht, MapKept.run_getObj_map h2, h3]
  simp only [execOp, ho, resolve, Array.map_singleton, invoke, builtin, Sem.run_bind, Sem.run_pure, Result.andThen_ok, e1, hrun]

theorem op_rangeS (hG : GOk G M0) (S : Sim B nt M0 w0 M ρ t h a w) (ty : TypeId) (x : Operand) (n : Nat) (s : List UInt8) (ho : o.op = .range ty x) (ht : P.underlying ty = some .string) (hx : evalOpd G t x = .str s) (hn : hlook h n = none) :
    OpGoal P B nt M0 w0 M ρ t h a w o (.dict n) [(n, .siter s 0)] := by
  have r1 := S.opd hG x; rw [hx] at r1
  have e1 := r1.inv_str
  have hln : locWith ρ n w.heap.size 1 n = some (w.heap.size, 1) := by unfold locWith; rw [if_pos rfl]
  have hs : Sim B nt M0 w0 M (locWith ρ n w.heap.size 1) t ((n, .siter s 0) :: h) a (w.alloc (.stringIter ⟨s.toArray⟩ 0)) := by
    refine (S.alloc _).addObj hn (fun m p c' hm e' => ?_) ?_
    · have := S.loc_lt hm e'; omega
    · exact ⟨w.heap.size, 1, hln, .inl S.Bsize, alloc_new w _, fun o => S.free_mem (Nat.le_refl _) o⟩
  refine ⟨_, .pointer (some ⟨w.heap.size, 0, none⟩), _, M, _, ?_, .inl rfl, hs, .sitv n w.heap.size 1 0 s (by show hlook ((n, DObj.siter s 0) :: h) n = _; rw [hlook_cons, if_pos rfl]) hln⟩
  simp only [execOp, ho, e1, Instr.range, Sem.run_bind, run_underlying ht, Result.andThen_ok, Sem.run_pure, run_newObj_alloc]

theorem op_nextS (hG : GOk G M0) (S : Sim B nt M0 w0 M ρ t h a w) (x : Operand) (n : Nat) (s : List UInt8) (pos : Nat) (ho : o.op = .next x true) (hx : evalOpd G t x = .dict n) (hl : hlook h n = some (.siter s pos)) :
    (pos < s.length → OpGoal P B nt M0 w0 M ρ t h a w o (.tuple [.bool true, .int .i64 pos, .int .i32 (sdecode s pos).1]) [(n, .siter s (pos + (sdecode s pos).2))]) ∧
    (¬ pos < s.length → OpGoal P B nt M0 w0 M ρ t h a w o (.tuple [.bool false]) []) := by
  have r1 := S.opd hG x; rw [hx] at r1
  obtain ⟨b, c, hρ, e1⟩ := inv_siter r1 hl
  obtain ⟨b', c', q1, q2, q3, q4⟩ := S.obj n _ hl
  rw [hρ] at q1; cases q1
  have hlt : b < w.heap.size := (Array.getElem?_eq_some_iff.1 q3).1
  have hget : (getObj b).run P w = .ok (.stringIter ⟨s.toArray⟩ pos) w := by simp [getObj, Sem.run, q3]
  have hset : ∀ o', (setObj b o').run P w = .ok () { w with heap := w.heap.setIfInBounds b o' } := fun o' => by simp [setObj, Sem.run, q3]
  refine ⟨fun hp => ?_, fun hp => ?_⟩
  · have hp' : pos < (⟨s.toArray⟩ : ByteArray).size := by rw [bsize]; exact hp
    refine ⟨_, .tuple #[.bool true, goInt pos, .int .i32 (sdecode s pos).1], _, M, ρ, ?_, .inl rfl, S.turn (ob' := .siter s (pos + (sdecode s pos).2)) (x' := .stringIter ⟨s.toArray⟩ (pos + (sdecode s pos).2)) hl rfl trivial hρ q2 q3 (fun _ e => by cases e) q4 ⟨b, c, hρ, q2, ?_, q4⟩, .pure ?_⟩
    · simp only [execOp, ho, e1, Instr.next, Sem.run_bind, hget, Result.andThen_ok, hp', if_true, hset, Sem.run_pure]
      rfl
    · simp [hlt]
    · refine .tuple _ _ rfl (fun i hi => ?_)
      match i, hi with
      | 0, _ => exact .bool _
      | 1, _ => exact .int _ _
      | 2, _ => exact .int _ _
  · have hp' : ¬ pos < (⟨s.toArray⟩ : ByteArray).size := by rw [bsize]; exact hp
    refine OpGoal.same S (v := .tuple #[.bool false]) ?_ (.pure ?_)
    · simp only [execOp, ho, e1, Instr.next, Sem.run_bind, hget, Result.andThen_ok, hp', if_false, Sem.run_pure]
    · refine .tuple _ _ rfl (fun i hi => ?_)
      match i, hi with
      | 0, _ => exact .bool _
end
end Sh
