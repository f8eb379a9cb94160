/- What an operation comes to depends on what it looks at; a run of operations in the order of the text. -/
import Derived.Test.YtcdhbdhonpddeaaDoorShDisp
set_option linter.unusedVariables false
set_option linter.unusedSectionVars false
set_option linter.unusedSimpArgs false
namespace Sh
open Go

section
variable {lk lk' : Nat → Option DObj}

mutual
theorem pur_congr (d : DV) (h : ∀ n ∈ names d, lk' n = lk n) : pur lk' d = pur lk d := by
  cases d with
  | own n off len tot => simp only [pur]; rw [h n (by simp [names])]
  | bptr n off => simp only [pur]; rw [h n (by simp [names])]
  | agg cs => simp only [pur]; rw [purs_congr cs (fun n hn => h n (by simpa [names] using hn))]
  | tuple cs => simp only [pur]; rw [purs_congr cs (fun n hn => h n (by simpa [names] using hn))]
  | func f cs => simp only [pur]; rw [purs_congr cs (fun n hn => h n (by simpa [names] using hn))]
  | _ => rfl
theorem purs_congr (ds : List DV) (h : ∀ n ∈ namess ds, lk' n = lk n) : purs lk' ds = purs lk ds := by
  cases ds with
  | nil => rfl
  | cons d r =>
    simp only [purs]
    rw [pur_congr d (fun n hn => h n (by simp [namess, hn])), purs_congr r (fun n hn => h n (by simp [namess, hn]))]
end

theorem elems_congr (d : DV) (h : ∀ n ∈ names d, lk' n = lk n) : elems lk' d = elems lk d := by
  cases d with
  | own n off len tot => simp only [elems]; rw [h n (by simp [names])]
  | _ => rfl

variable {ev ev' : Operand → DV}

theorem map_ev (l : List Operand) (h : ∀ x ∈ l, ev' x = ev x) : l.map ev' = l.map ev := List.map_congr_left h

theorem litElems_congr : ∀ (ps : List (Nat × Operand)) (es : List DV), (∀ x ∈ ps.map (·.2), ev' x = ev x) → litElems ev' ps es = litElems ev ps es
  | [], _, _ => rfl
  | (i, x) :: r, es, h => by
    simp only [litElems]
    rw [h x (by simp)]
    exact litElems_congr r _ (fun y hy => h y (by simp at hy ⊢; exact .inr hy))

theorem fillCells_congr : ∀ (ps : List (Nat × Nat × Operand)) (cs : List DV), (∀ x ∈ ps.map (·.2.2), ev' x = ev x) → fillCells ev' ps cs = fillCells ev ps cs
  | [], _, _ => rfl
  | (o, s, x) :: r, cs, h => by
    simp only [fillCells]
    rw [h x (by simp), fillCells_congr r _ (fun y hy => h y (by simp at hy ⊢; exact .inr hy))]

theorem minmaxAll_congr (mx : Bool) (k : IntKind) : ∀ (r : List Operand) (a : Int), (∀ x ∈ r, ev' x = ev x) → minmaxAll ev' mx k r a = minmaxAll ev mx k r a
  | [], _, _ => rfl
  | x :: r, a, h => by
    simp only [minmaxAll]
    rw [h x (by simp)]
    split
    · rw [minmaxAll_congr mx k r _ (fun y hy => h y (by simp [hy]))]
    · rfl

theorem bound_congr (o : Option Operand) (d : Int) (h : ∀ x ∈ o.toList, ev' x = ev x) : bound o ev' d = bound o ev d := by
  cases o with
  | none => rfl
  | some x => simp only [bound]; rw [h x (by simp)]

theorem all_okE_congr (sz : Nat) (ps : List (Nat × Operand)) (h : ∀ x ∈ ps.map (·.2), ev' x = ev x) : (ps.all fun q => okE sz (ev' q.2)) = (ps.all fun q => okE sz (ev q.2)) := by
  induction ps with
  | nil => rfl
  | cons p r ih =>
    simp only [List.all_cons]
    rw [h p.2 (by simp), ih (fun y hy => h y (by simp at hy ⊢; exact .inr hy))]

theorem readsOf_congr {n : Nat} (op : DOp) (he : ∀ x ∈ operandsOf op, ev' x = ev x) : readsOf ev' n op = readsOf ev n op := by
  cases op <;> simp only [operandsOf, List.mem_cons, List.not_mem_nil, or_false, forall_eq_or_imp, forall_eq] at he <;> simp only [readsOf, he]
  case lit imm sz len z ps => rw [litElems_congr ps _ he]
  case call f args => rw [map_ev args he.2]

theorem evalOp_congr {n : Nat} (op : DOp) (he : ∀ x ∈ operandsOf op, ev' x = ev x) (hl : ∀ m ∈ readsOf ev n op, lk' m = lk m) : evalOp ev' lk' n op = evalOp ev lk n op := by
  cases op with
  | mov x => simp only [operandsOf, List.mem_singleton, forall_eq] at he; simp only [evalOp, he]
  | same x => simp only [operandsOf, List.mem_singleton, forall_eq] at he; simp only [evalOp, he]
  | pick c a b => simp only [operandsOf, List.mem_cons, List.not_mem_nil, or_false, forall_eq_or_imp, forall_eq] at he; simp only [evalOp, he]
  | alloc z sz => simp only [evalOp]; rw [hl n (by simp [readsOf])]
  | box sz x =>
    simp only [operandsOf, List.mem_singleton, forall_eq] at he
    simp only [evalOp, he]; rw [hl n (by simp [readsOf])]
  | build z ps => simp only [evalOp]; rw [fillCells_congr ps z he]
  | lit imm sz len z ps =>
    simp only [evalOp]
    rw [litElems_congr ps _ he, all_okE_congr sz ps he]
    rw [purs_congr _ (fun m hm => hl m (by simp only [readsOf, List.mem_cons]; exact .inr hm))]
    rw [hl n (by simp [readsOf])]
  | load agg a =>
    simp only [operandsOf, List.mem_singleton, forall_eq] at he
    simp only [evalOp, he]
    simp only [readsOf] at hl
    cases hd : ev a <;> rw [hd] at hl <;> first | rfl | skip
    case ptr m i off tot => simp only; rw [hl m (by simp [names])]
    case bptr m off => simp only; rw [hl m (by simp [names])]
  | store k a x =>
    simp only [operandsOf, List.mem_cons, List.not_mem_nil, or_false, forall_eq_or_imp, forall_eq] at he
    simp only [evalOp, he]
    simp only [readsOf, List.mem_append] at hl
    rw [pur_congr (ev x) (fun m hm => hl m (.inr hm))]
    replace hl := fun m hm => hl m (.inl hm)
    cases hd : ev a <;> rw [hd] at hl <;> first | rfl | skip
    case ptr m i off tot => simp only; rw [hl m (by simp [names])]
    case bptr m off => simp only; rw [hl m (by simp [names])]
  | nilCheck x =>
    simp only [operandsOf, List.mem_singleton, forall_eq] at he
    simp only [evalOp, he]
    simp only [readsOf] at hl
    cases hd : ev x <;> rw [hd] at hl <;> first | rfl | skip
    case ptr m i off tot => simp only; rw [hl m (by simp [names])]
  | bin op x y => simp only [operandsOf, List.mem_cons, List.not_mem_nil, or_false, forall_eq_or_imp, forall_eq] at he; simp only [evalOp, he]
  | eqB neg x y => simp only [operandsOf, List.mem_cons, List.not_mem_nil, or_false, forall_eq_or_imp, forall_eq] at he; simp only [evalOp, he]
  | eqA neg k x y => simp only [operandsOf, List.mem_cons, List.not_mem_nil, or_false, forall_eq_or_imp, forall_eq] at he; simp only [evalOp, he]
  | un op x => simp only [operandsOf, List.mem_singleton, forall_eq] at he; simp only [evalOp, he]
  | conv k x => simp only [operandsOf, List.mem_singleton, forall_eq] at he; simp only [evalOp, he]
  | mkfunc f caps => simp only [evalOp]; rw [map_ev caps he]
  | slice sz x lo hi mx =>
    simp only [operandsOf] at he
    have e1 := he x (by simp)
    have e2 := fun d => bound_congr (ev := ev) (ev' := ev') lo d (fun y hy => he y (by simp only [List.mem_cons, List.mem_append]; exact .inr (.inl (.inl hy))))
    have e3 := fun d => bound_congr (ev := ev) (ev' := ev') hi d (fun y hy => he y (by simp only [List.mem_cons, List.mem_append]; exact .inr (.inl (.inr hy))))
    replace hl : ∀ m ∈ names (ev x), lk' m = lk m := hl
    cases mx with
    | none =>
      simp only [evalOp, e1, e2, e3]
      cases hd : ev x <;> rw [hd] at hl <;> first | rfl | skip
      case own m off len tot => simp only; rw [hl m (by simp [names])]
    | some m =>
      have e4 := he m (by simp)
      simp only [evalOp, e1, e2, e3, e4]
  | sliceS x lo hi =>
    simp only [operandsOf] at he
    have e1 := he x (by simp)
    have e2 := fun d => bound_congr (ev := ev) (ev' := ev') lo d (fun y hy => he y (by simp only [List.mem_cons, List.mem_append]; exact .inr (.inl hy)))
    have e3 := fun d => bound_congr (ev := ev) (ev' := ev') hi d (fun y hy => he y (by simp only [List.mem_cons, List.mem_append]; exact .inr (.inr hy)))
    simp only [evalOp, e1, e2, e3]
  | sliceA k esz agg x => simp only [operandsOf, List.mem_singleton, forall_eq] at he; simp only [evalOp, he]
  | faddr off sz agg x =>
    simp only [operandsOf, List.mem_singleton, forall_eq] at he
    simp only [evalOp, he]
    simp only [readsOf] at hl
    cases hd : ev x <;> rw [hd] at hl <;> first | rfl | skip
    case ptr m i o tot => simp only; rw [hl m (by simp [names])]
    case ip d => cases d <;> rfl
  | field off sz agg x => simp only [operandsOf, List.mem_singleton, forall_eq] at he; simp only [evalOp, he]
  | iaddr sz x i =>
    simp only [operandsOf, List.mem_cons, List.not_mem_nil, or_false, forall_eq_or_imp, forall_eq] at he
    simp only [evalOp, he]
    simp only [readsOf] at hl
    cases hd : ev x <;> rw [hd] at hl <;> first | rfl | skip
    case own m off len tot => simp only; rw [hl m (by simp [names])]
  | iaddrA len esz agg x i =>
    simp only [operandsOf, List.mem_cons, List.not_mem_nil, or_false, forall_eq_or_imp, forall_eq] at he
    simp only [evalOp, he]
    simp only [readsOf] at hl
    cases hd : ev x <;> rw [hd] at hl <;> first | rfl | skip
    case ptr m i o tot => simp only; rw [hl m (by simp [names])]
    case ip d => cases d <;> rfl
  | indexS x i => simp only [operandsOf, List.mem_cons, List.not_mem_nil, or_false, forall_eq_or_imp, forall_eq] at he; simp only [evalOp, he]
  | indexA len esz agg x i => simp only [operandsOf, List.mem_cons, List.not_mem_nil, or_false, forall_eq_or_imp, forall_eq] at he; simp only [evalOp, he]
  | extract x i => simp only [operandsOf, List.mem_singleton, forall_eq] at he; simp only [evalOp, he]
  | call f args =>
    simp only [operandsOf, List.mem_cons, forall_eq_or_imp] at he
    simp only [evalOp, he.1]; rw [map_ev args he.2]
  | len x =>
    simp only [operandsOf, List.mem_singleton, forall_eq] at he
    simp only [evalOp, he]
    simp only [readsOf] at hl
    cases hd : ev x <;> rw [hd] at hl <;> first | rfl | skip
    case own m off l tot => simp only; rw [hl m (by simp [names])]
  | lenS x => simp only [operandsOf, List.mem_singleton, forall_eq] at he; simp only [evalOp, he]
  | lenC n => rfl
  | append imm sz s x =>
    simp only [operandsOf, List.mem_cons, List.not_mem_nil, or_false, forall_eq_or_imp, forall_eq] at he
    simp only [evalOp, he]
    simp only [readsOf, List.mem_cons, List.mem_append] at hl
    rw [elems_congr (ev x) (fun m hm => hl m (.inr (.inr hm))), hl n (.inl rfl)]
    replace hl := fun m hm => hl m (.inr (.inl hm))
    cases hd : ev s <;> rw [hd] at hl <;> first | rfl | skip
    case own m off l tot => simp only; rw [hl m (by simp [names])]
  | copy sz d x =>
    simp only [operandsOf, List.mem_cons, List.not_mem_nil, or_false, forall_eq_or_imp, forall_eq] at he
    simp only [evalOp, he]
    simp only [readsOf, List.mem_append] at hl
    rw [elems_congr (ev x) (fun m hm => hl m (.inr hm))]
    replace hl := fun m hm => hl m (.inl hm)
    cases hd : ev d <;> rw [hd] at hl <;> first | rfl | skip
    case own m off l tot => simp only; rw [hl m (by simp [names])]
  | minmax mx x r =>
    simp only [operandsOf, List.mem_cons, forall_eq_or_imp] at he
    simp only [evalOp, he.1]
    split
    · rw [minmaxAll_congr mx _ r _ he.2]
    · rfl
  | mkslice sz z l c =>
    simp only [operandsOf, List.mem_cons, List.not_mem_nil, or_false, forall_eq_or_imp, forall_eq] at he
    simp only [evalOp, he]
    rw [hl n (by simp [readsOf])]
  | makemap => simp only [evalOp]; rw [hl n (by simp [readsOf])]
  | mapset kk ks m k v =>
    simp only [operandsOf, List.mem_cons, List.not_mem_nil, or_false, forall_eq_or_imp, forall_eq] at he
    simp only [evalOp, he]
    simp only [readsOf] at hl
    cases hd : ev m <;> rw [hd] at hl <;> first | rfl | skip
    case dict q => simp only; rw [hl q (by simp [names])]
  | lookup kk ks ok z m k =>
    simp only [operandsOf, List.mem_cons, List.not_mem_nil, or_false, forall_eq_or_imp, forall_eq] at he
    simp only [evalOp, he]
    simp only [readsOf] at hl
    cases hd : ev m <;> rw [hd] at hl <;> first | rfl | skip
    case dict q => simp only; rw [hl q (by simp [names])]
  | mapentry kk ks z m k =>
    simp only [operandsOf, List.mem_cons, List.not_mem_nil, or_false, forall_eq_or_imp, forall_eq] at he
    simp only [evalOp, he]
    simp only [readsOf] at hl
    cases hd : ev m <;> rw [hd] at hl <;> first | rfl | skip
    case dict q => simp only; rw [hl q (by simp [names])]
  | entrystore m s v =>
    simp only [operandsOf, List.mem_cons, List.not_mem_nil, or_false, forall_eq_or_imp, forall_eq] at he
    simp only [evalOp, he]
    simp only [readsOf] at hl
    cases hd : ev m <;> rw [hd] at hl <;> first | rfl | skip
    case dict q => cases ev s <;> first | rfl | (simp only; rw [hl q (by simp [names])])
  | lenM x =>
    simp only [operandsOf, List.mem_singleton, forall_eq] at he
    simp only [evalOp, he]
    simp only [readsOf] at hl
    cases hd : ev x <;> rw [hd] at hl <;> first | rfl | skip
    case dict q => simp only; rw [hl q (by simp [names])]
  | rangeS x =>
    simp only [operandsOf, List.mem_singleton, forall_eq] at he
    simp only [evalOp, he]; rw [hl n (by simp [readsOf])]
  | nextS x =>
    simp only [operandsOf, List.mem_singleton, forall_eq] at he
    simp only [evalOp, he]
    simp only [readsOf] at hl
    cases hd : ev x <;> rw [hd] at hl <;> first | rfl | skip
    case dict q => simp only; rw [hl q (by simp [names])]
end

/-- Only a call comes to a call. -/
theorem evalOp_call {ev : Operand → DV} {lk : Nat → Option DObj} {n : Nat} {op : DOp} {f : FuncId} {vs : List DV} (h : evalOp ev lk n op = .call f vs) :
    ∃ fo args caps, op = .call fo args ∧ ev fo = .func f caps ∧ vs = args.map ev ++ caps := by
  cases op with
  | call fo args =>
    simp only [evalOp] at h
    split at h
    · rename_i g caps hg; cases h; exact ⟨fo, args, caps, rfl, hg, rfl⟩
    · cases h
  | bin op x y =>
    exfalso
    simp only [evalOp] at h
    split at h
    · rename_i j a k b _ _
      generalize kindEq j k = q at h
      cases q
      · cases h
      · cases op <;> cases h
    · cases op <;> cases h
    · cases h
  | lit imm sz len z ps =>
    exfalso
    simp only [evalOp] at h
    split at h
    · rename_i p es _
      revert h
      cases ps.all fun q => okE sz (ev q.2)
      · intro h; cases h
      · cases imm
        · simp only [cond_true, cond_false]; split <;> intro h <;> cases h
        · intro h; cases h
    · cases h
  | _ =>
    exfalso
    simp only [evalOp] at h
    repeat' first
      | cases h
      | (rw [cond_eq_ite] at h)
      | split at h

/-! One operation. -/

def Guarded (o : DOper) (t : Tmps) : Prop := ∀ g want, o.guard = some (g, want) → tget t g = .bool want

section
variable (P : Program) (G : Nat → Option DV)

inductive Step (o : DOper) (t : Tmps) (h : Heap) : DV → List Nat → Heap → List Nat → Prop
  | skip (g : Nat) (want : Bool) (hg : o.guard = some (g, want)) (hv : tget t g = .bool (!want) ∨ tget t g = .tuple []) : Step o t h (.tuple []) [] [] []
  | ok (hg : Guarded o t) (p : Option Prop) (d : DV) (u : Heap) (he : evalOp (evalOpd G t) (hlook h) (o.dst.getD 0) o.op = .ok p d u) (hp : holds p) : Step o t h d [] u (readsOf (evalOpd G t) (o.dst.getD 0) o.op)
  | okF (hg : Guarded o t) (ns : List Nat) (p : Option Prop) (d : DV) (u : Heap) (he : evalOp (evalOpd G t) (hlook h) (o.dst.getD 0) o.op = .okF ns p d u) (hp : holds p) : Step o t h d ns u (readsOf (evalOpd G t) (o.dst.getD 0) o.op)
  | flat (hg : Guarded o t) (f : FuncId) (vs : List DV) (p : Option Prop) (ds : List DV) (d : DV) (he : evalOp (evalOpd G t) (hlook h) (o.dst.getD 0) o.op = .call f vs) (hv : purs (hlook h) vs = some (p, ds)) (hp : holds p)
      (hc : PureCall P G f ds d) (hf : flatB d = true) : Step o t h d [] [] (namess vs)
  | frz (hg : Guarded o t) (f : FuncId) (vs : List DV) (p : Option Prop) (ds : List DV) (d : DV) (he : evalOp (evalOpd G t) (hlook h) (o.dst.getD 0) o.op = .call f vs) (hv : purs (hlook h) vs = some (p, ds)) (hp : holds p)
      (hc : PureCall P G f ds d) : Step o t h d (namess vs) [] (namess vs)
  | heap (hg : Guarded o t) (f : FuncId) (vs : List DV) (π : List (Nat × Nat)) (ds : List DV) (hs : Heap) (d : DV) (hs' : Heap) (he : evalOp (evalOpd G t) (hlook h) (o.dst.getD 0) o.op = .call f vs)
      (hc : HCall P G f ds hs d hs') (hi : rens π ds = vs ∧ instOk π ds hs hs' = true ∧ hereH (hlook h) π hs ∧ freeH (hlook h) π hs hs') :
      Step o t h (ren π d) [] (renH π hs') (namess vs ++ (hs'.map fun x => app π x.1))

structure StepTo (o : DOper) (ft : Foot) (t : Tmps) (h : Heap) (t' : Tmps) (h' : Heap) : Prop where
  bef : ft.bef = o.bef
  step : ∃ d ns u, Step P G o t h d ns u ft.rd ∧ (∀ i, tget t' i = tget (putO o.dst d t) i) ∧ (∀ n, hlook h' n = hlook (u.reverse ++ freeze ns h) n) ∧ ∀ n, n ∈ ft.wr ↔ n ∈ ns ∨ n ∈ u.map (·.1)

inductive Chain : List DOper → List Foot → Tmps → Heap → Tmps → Heap → Prop
  | nil (t h) : Chain [] [] t h t h
  | cons {o r ft fs t h t1 h1 t2 h2} : StepTo P G o ft t h t1 h1 → Chain r fs t1 h1 t2 h2 → Chain (o :: r) (ft :: fs) t h t2 h2
end

section
variable {P : Program} {G : Nat → Option DV} {o : DOper} {t t' : Tmps} {h h' : Heap} {d : DV} {ns : List Nat} {u : Heap} {rd : List Nat}

theorem hereH_congr {lk lk' : Nat → Option DObj} {π : List (Nat × Nat)} : ∀ {hs : Heap}, (∀ n o, (n, o) ∈ hs → lk' (app π n) = lk (app π n)) → hereH lk π hs → hereH lk' π hs
  | [], _, _ => trivial
  | (n, o) :: r, h, hs => ⟨by rw [h n o (by simp)]; exact hs.1, hereH_congr (fun m p hm => h m p (by simp [hm])) hs.2⟩

theorem freeH_congr {lk lk' : Nat → Option DObj} {π : List (Nat × Nat)} {h0 : Heap} : ∀ {hs : Heap}, (∀ n o, (n, o) ∈ hs → lk' (app π n) = lk (app π n)) → freeH lk π h0 hs → freeH lk' π h0 hs
  | [], _, _ => trivial
  | (n, o) :: r, h, hs => ⟨by rw [h n o (by simp)]; exact hs.1, freeH_congr (fun m p hm => h m p (by simp [hm])) hs.2⟩

theorem any_beq {n : Nat} {l : List Nat} : l.any (Nat.beq n) = true ↔ n ∈ l := by
  rw [List.any_eq_true]
  constructor
  · rintro ⟨x, hx, e⟩; rw [Nat.eq_of_beq_eq_true e]; exact hx
  · intro h; exact ⟨n, h, Nat.beq_refl n⟩

theorem inst_sub {π : List (Nat × Nat)} {ds : List DV} {h h' : Heap} (hi : instOk π ds h h' = true) {n : Nat} (hn : n ∈ h.map (·.1)) : ∃ x ∈ h', x.1 = n := by
  simp only [instOk, Bool.and_eq_true] at hi
  have h1 := List.all_eq_true.1 hi.1.1.2 n hn
  obtain ⟨x, hx, e⟩ := List.mem_map.1 (any_beq.1 h1)
  exact ⟨x, hx, e⟩

theorem renH_names (π : List (Nat × Nat)) : ∀ h : Heap, (renH π h).map (·.1) = h.map fun x => app π x.1
  | [] => rfl
  | (n, o) :: r => by simp [renH, renH_names π r]

theorem mem_looksOf {x : Nat} (hx : Operand.tmp x ∈ operandsOf o.op) : x ∈ looksOf o := by
  unfold looksOf
  exact List.mem_append_left _ (List.mem_filterMap.2 ⟨.tmp x, hx, rfl⟩)

theorem mem_looksOf_guard {g : Nat} {want : Bool} (hg : o.guard = some (g, want)) : g ∈ looksOf o := by
  unfold looksOf; rw [hg]; simp

theorem opd_congr (ht : ∀ x ∈ looksOf o, tget t' x = tget t x) : ∀ x ∈ operandsOf o.op, evalOpd G t' x = evalOpd G t x := fun x hx => by
  cases x with
  | tmp i => exact ht i (mem_looksOf hx)
  | _ => rfl

theorem Guarded.congr (hg : Guarded o t) (ht : ∀ x ∈ looksOf o, tget t' x = tget t x) : Guarded o t' := fun g want e => by
  rw [ht g (mem_looksOf_guard e)]; exact hg g want e

theorem call_reads {ev : Operand → DV} {lk : Nat → Option DObj} {n : Nat} {op : DOp} {f : FuncId} {vs : List DV} (h : evalOp ev lk n op = .call f vs) : ∀ m ∈ readsOf ev n op, m ∈ namess vs := by
  obtain ⟨fo, args, caps, rfl, e2, rfl⟩ := evalOp_call h
  have happ : ∀ a b : List DV, namess (a ++ b) = namess a ++ namess b := fun a b => by induction a <;> simp_all [namess]
  intro m hm
  simp only [readsOf, e2, names, List.mem_append] at hm
  rw [happ, List.mem_append]; exact hm.symm

theorem Step.congr (S : Step P G o t h d ns u rd) (ht : ∀ x ∈ looksOf o, tget t' x = tget t x) (hh : ∀ n ∈ rd, hlook h' n = hlook h n) : Step P G o t' h' d ns u rd := by
  have he0 := opd_congr (G := G) ht
  cases S with
  | skip g want hg hv => exact .skip g want hg (by rw [ht g (mem_looksOf_guard hg)]; exact hv)
  | ok hg p d u he hp =>
    rw [← readsOf_congr (ev' := evalOpd G t') (ev := evalOpd G t) o.op he0]
    exact .ok (hg.congr ht) p d u (by rw [evalOp_congr o.op he0 hh]; exact he) hp
  | okF hg ns p d u he hp =>
    rw [← readsOf_congr (ev' := evalOpd G t') (ev := evalOpd G t) o.op he0]
    exact .okF (hg.congr ht) ns p d u (by rw [evalOp_congr o.op he0 hh]; exact he) hp
  | flat hg f vs p ds d he hv hp hc hf =>
    exact .flat (hg.congr ht) f vs p ds d (by rw [evalOp_congr o.op he0 (fun m hm => hh m (call_reads he m hm))]; exact he) (by rw [purs_congr vs hh]; exact hv) hp hc hf
  | frz hg f vs p ds d he hv hp hc =>
    exact .frz (hg.congr ht) f vs p ds d (by rw [evalOp_congr o.op he0 (fun m hm => hh m (call_reads he m hm))]; exact he) (by rw [purs_congr vs hh]; exact hv) hp hc
  | heap hg f vs π ds hs d hs' he hc hi =>
    obtain ⟨i1, i2, i3, i4⟩ := hi
    have hh1 : ∀ n ∈ hs'.map (fun x => app π x.1), hlook h' n = hlook h n := fun n hn => hh n (List.mem_append_right _ hn)
    refine .heap (hg.congr ht) f vs π ds hs d hs' (by rw [evalOp_congr o.op he0 (fun m hm => hh m (List.mem_append_left _ (call_reads he m hm)))]; exact he) hc ⟨i1, i2, ?_, ?_⟩
    · exact hereH_congr (fun n o hn => hh1 _ (by
        obtain ⟨x, hx, e⟩ := inst_sub i2 (List.mem_map.2 ⟨(n, o), hn, rfl⟩)
        exact List.mem_map.2 ⟨x, hx, by rw [e]⟩)) i3
    · exact freeH_congr (fun n o hn => hh1 _ (List.mem_map.2 ⟨(n, o), hn, rfl⟩)) i4

theorem putK_eq (dst : Option Nat) (d : DV) (t : Tmps) (k : Tmps → Prop) : putK dst d t k = k (putO dst d t) := by
  cases dst with
  | none => rfl
  | some n => simp [putK, putO, force_eq]

theorem putD_eq (deep : Bool) (dst : Option Nat) (d : DV) (t : Tmps) (k : Tmps → Prop) : putD deep dst d t k = k (putO dst d t) := by
  cases deep with
  | false => exact putK_eq dst d t k
  | true =>
    simp only [putD, cond_true, force_eq]
    cases d with
    | agg cs => simp [forceS_eq, putK_eq]
    | _ => exact putK_eq dst _ t k

theorem forceU_eq (k : Heap → Prop) : ∀ (u h : Heap), forceU k u h = k (u.reverse ++ h)
  | [], h => rfl
  | (n, .box sz d) :: r, h => by simp [forceU, force_eq, forceU_eq k r]
  | (n, .row _ _ _) :: r, h => by simp [forceU, forceU_eq k r]
  | (n, .fbox _ _) :: r, h => by simp [forceU, forceU_eq k r]
  | (n, .dict _) :: r, h => by simp [forceU, forceU_eq k r]
  | (n, .siter _ _) :: r, h => by simp [forceU, forceU_eq k r]

theorem tget_dup {g : Nat} {v : DV} (hv : tget t g = v) (i : Nat) : tget ((g, v) :: t) i = tget t i := by
  rw [tget_cons]; split
  · rename_i e; subst e; exact hv.symm
  · rfl

theorem tget_putO {dst : Option Nat} (i : Nat) : tget (putO dst d t) i = if dst = some i then d else tget t i := by
  cases dst with
  | none => simp [putO]
  | some k => simp only [putO, tget_cons, Option.some.injEq]

/-- What 'opsWp' and 'drawWp' say about the first operation. -/
theorem drawRun_step {fs : List Foot} {N : List Foot → SP} (hg : Guarded o t) (hs : drawRun P G o fs N t h) : ∃ ft t' h', StepTo P G o ft t h t' h' ∧ N (ft :: fs) t' h' := by
  unfold drawRun at hs
  split at hs
  · exact hs.elim
  · rename_i p d u he
    obtain ⟨hp, hs⟩ := pre_holds hs
    rw [putD_eq, forceU_eq] at hs
    exact ⟨_, _, _, ⟨rfl, d, [], u, .ok hg p d u he hp, fun _ => rfl, fun _ => rfl, fun n => by simp⟩, hs⟩
  · rename_i ns p d u he
    obtain ⟨hp, hs⟩ := pre_holds hs
    rw [putK_eq, freezeK_eq, forceU_eq] at hs
    exact ⟨_, _, _, ⟨rfl, d, ns, u, .okF hg ns p d u he hp, fun _ => rfl, fun _ => rfl, fun n => by simp⟩, hs⟩
  · rename_i f vs he
    rcases hs with hs | ⟨π, ds, hs0, d, hs', hc, hi, hs⟩
    · split at hs
      · exact hs.elim
      · rename_i p ds hv
        obtain ⟨hp, d, hc, hs⟩ := pre_holds hs
        rw [putK_eq] at hs
        cases hf : flatB d with
        | true =>
          rw [hf] at hs
          exact ⟨_, _, _, ⟨rfl, d, [], [], .flat hg f vs p ds d he hv hp hc hf, fun _ => rfl, fun _ => rfl, fun n => by simp⟩, hs⟩
        | false =>
          rw [hf] at hs
          simp only [cond_false, freezeK_eq] at hs
          exact ⟨_, _, _, ⟨rfl, d, namess vs, [], .frz hg f vs p ds d he hv hp hc, fun _ => rfl, fun _ => rfl, fun n => by simp⟩, hs⟩
    · rw [putK_eq, forceU_eq] at hs
      exact ⟨_, _, _, ⟨rfl, ren π d, [], renH π hs', .heap hg f vs π ds hs0 d hs' he hc hi, fun _ => rfl, fun _ => rfl, fun n => by rw [renH_names]; simp⟩, hs⟩

theorem stepWp_draw {N : SP} (hs : stepWp P G o N t h) : drawRun P G o [] (fun _ => N) t h := by
  unfold stepWp at hs; unfold drawRun
  split
  · rename_i he; rw [he] at hs; exact hs
  · rename_i he; rw [he] at hs; exact hs
  · rename_i he; rw [he] at hs; exact hs
  · rename_i he; rw [he] at hs; exact hs

theorem StepTo.of_dup {ft : Foot} {g : Nat} {v : DV} (hv : tget t g = v) (S : StepTo P G o ft ((g, v) :: t) h t' h') : StepTo P G o ft t h t' h' := by
  obtain ⟨b, d, ns, u, s, e1, e2, e3⟩ := S
  refine ⟨b, d, ns, u, s.congr (fun x _ => (tget_dup hv x).symm) (fun _ _ => rfl), fun i => ?_, e2, e3⟩
  rw [e1, tget_putO, tget_putO, tget_dup hv]

theorem StepTo.skip {g : Nat} {want : Bool} (hg : o.guard = some (g, want)) (hv : tget t g = .bool (!want) ∨ tget t g = .tuple []) {t1 : Tmps} (ht : ∀ i, tget t1 i = tget t i) :
    StepTo P G o ⟨o.bef, [], []⟩ t h (putO o.dst (.tuple []) t1) h :=
  ⟨rfl, .tuple [], [], [], .skip g want hg hv, fun i => by rw [tget_putO, tget_putO, ht], fun _ => rfl, fun n => by simp⟩

theorem guarded_of {g : Nat} {want : Bool} (hg : o.guard = some (g, want)) : Guarded o ((g, .bool want) :: t) := fun g' w' e => by
  rw [hg] at e; cases e; rw [tget_cons, if_pos rfl]

theorem opsWp_chain : ∀ {l : List DOper} {K : List Nat} {Q : SP} {t : Tmps} {h : Heap}, opsWp P G l K Q t h → ∃ fs t' h', Chain P G l fs t h t' h' ∧ Q t' h'
  | [], _, _, t, h, hs => ⟨[], t, h, .nil t h, hs⟩
  | o :: r, K, Q, t, h, hs => by
    unfold opsWp at hs
    split at hs
    · rename_i hg
      obtain ⟨ft, t1, h1, st, hs⟩ := drawRun_step (fun g want e => by rw [hg] at e; cases e) (stepWp_draw hs)
      obtain ⟨fs, t2, h2, ch, hq⟩ := opsWp_chain hs
      exact ⟨_, _, _, .cons st ch, hq⟩
    · rename_i g want hg
      split at hs
      · rename_i b hb
        have hs := onG_spec hs
        by_cases e : b = want
        · subst e
          obtain ⟨ft, t1, h1, st, hs⟩ := drawRun_step (guarded_of hg) (stepWp_draw (hs.1 rfl))
          obtain ⟨fs, t2, h2, ch, hq⟩ := opsWp_chain hs
          exact ⟨_, _, _, .cons (st.of_dup hb) ch, hq⟩
        · have e2 : b = !want := by cases b <;> cases want <;> simp_all
          have hs := hs.2 e2
          rw [putK_eq] at hs
          obtain ⟨fs, t2, h2, ch, hq⟩ := opsWp_chain hs
          exact ⟨_, _, _, .cons (.skip hg (.inl (by rw [hb, e2])) (tget_dup (by rw [hb, e2]))) ch, hq⟩
      · rename_i hb
        rw [putK_eq] at hs
        obtain ⟨fs, t2, h2, ch, hq⟩ := opsWp_chain hs
        exact ⟨_, _, _, .cons (.skip hg (.inr hb) (fun _ => rfl)) ch, hq⟩
      · exact hs.elim

theorem drawWp_chain : ∀ {l : List DOper} {K : List Nat} {fs0 : List Foot} {Q : SP} {t : Tmps} {h : Heap}, drawWp P G l K fs0 Q t h → ∃ fs t' h', Chain P G l fs t h t' h' ∧ allFeet [] (fs0.reverse ++ fs) = true ∧ Q t' h'
  | [], _, fs0, _, t, h, hs => ⟨[], t, h, .nil t h, by rw [List.append_nil]; exact hs.1, hs.2⟩
  | o :: r, K, fs0, Q, t, h, hs => by
    unfold drawWp at hs
    have key : ∀ (ft : Foot) (fs : List Foot), (ft :: fs0).reverse ++ fs = fs0.reverse ++ ft :: fs := fun ft fs => by simp
    split at hs
    · rename_i hg
      obtain ⟨ft, t1, h1, st, hs⟩ := drawRun_step (fun g want e => by rw [hg] at e; cases e) hs
      obtain ⟨fs, t2, h2, ch, ha, hq⟩ := drawWp_chain hs
      rw [key] at ha
      exact ⟨_, _, _, .cons st ch, ha, hq⟩
    · rename_i g want hg
      split at hs
      · rename_i b hb
        have hs := onG_spec hs
        by_cases e : b = want
        · subst e
          obtain ⟨ft, t1, h1, st, hs⟩ := drawRun_step (guarded_of hg) (hs.1 rfl)
          obtain ⟨fs, t2, h2, ch, ha, hq⟩ := drawWp_chain hs
          rw [key] at ha
          exact ⟨_, _, _, .cons (st.of_dup hb) ch, ha, hq⟩
        · have e2 : b = !want := by cases b <;> cases want <;> simp_all
          have hs := hs.2 e2
          rw [putK_eq] at hs
          obtain ⟨fs, t2, h2, ch, ha, hq⟩ := drawWp_chain hs
          rw [key] at ha
          exact ⟨_, _, _, .cons (.skip hg (.inl (by rw [hb, e2])) (tget_dup (by rw [hb, e2]))) ch, ha, hq⟩
      · rename_i hb
        rw [putK_eq] at hs
        obtain ⟨fs, t2, h2, ch, ha, hq⟩ := drawWp_chain hs
        rw [key] at ha
        exact ⟨_, _, _, .cons (.skip hg (.inr hb) (fun _ => rfl)) ch, ha, hq⟩
      · exact hs.elim
end
end Sh
