import Derived.Test.YtcdhbdhonpddeaaDoorShAid
import Derived.Test.YtcdhbdhonpddeaaDoorShRun
/-! The same semantics by recursors: what the kernel unfolds is then the very term that whnf shows, and no step is compared anew. -/
namespace Sh
open Go
def opsR (P : Program) (G : Nat → Option DV) (l : List DOper) : List Nat → SP → SP :=
  List.rec (motive := fun _ => List Nat → SP → SP) (fun _ Q t h => Q t h)
    (fun o _ ih K Q t h => match o.guard with
      | none => stepWp P G o (ih K Q) t h
      | some (g, want) => match tget t g with
        | .bool b => onG (memB g K) b want (stepWp P G o (ih (g :: K) Q) ((g, .bool want) :: t) h) (putK o.dst (.tuple []) ((g, .bool (!want)) :: t) fun t' => ih (g :: K) Q t' h)
        | .tuple [] => putK o.dst (.tuple []) t fun t' => ih K Q t' h
        | _ => False) l
def drawR (P : Program) (G : Nat → Option DV) (l : List DOper) : List Nat → List Foot → SP → SP :=
  List.rec (motive := fun _ => List Nat → List Foot → SP → SP) (fun _ fs Q t h => allFeet [] fs.reverse = true ∧ Q t h)
    (fun o _ ih K fs Q t h => match o.guard with
      | none => drawRun P G o fs (fun fs => ih K fs Q) t h
      | some (g, want) => match tget t g with
        | .bool b => onG (memB g K) b want (drawRun P G o fs (fun fs => ih (g :: K) fs Q) ((g, .bool want) :: t) h)
            (putK o.dst (.tuple []) ((g, .bool (!want)) :: t) fun t' => ih (g :: K) (⟨o.bef, [], []⟩ :: fs) Q t' h)
        | .tuple [] => putK o.dst (.tuple []) t fun t' => ih K (⟨o.bef, [], []⟩ :: fs) Q t' h
        | _ => False) l
def dwpR (P : Program) (G : Nat → Option DV) (d : DC) : (DExit → SP) → SP :=
  DC.rec (motive := fun _ => (DExit → SP) → SP) (fun Q t h => Q .normal t h)
    (fun dr l Q t h => match dr with
      | false => opsR P G l [] (Q .normal) t h
      | true => drawR P G l [] [] (Q .normal) t h)
    (fun _ _ ia ib Q t h => ia (seqQ (ib Q) Q) t h)
    (fun c _ _ ia ib Q t h => match evalOpd G t c with
      | .bool v => (v = true → ia Q t h) ∧ (v = false → ib Q t h)
      | _ => False)
    (fun id k _ ia Q t h => ia (blockQ id k Q) t h)
    (fun k _ ib Q t h => loopWp ib k Q t h)
    (fun id Q t h => Q (.exit id) t h)
    (fun Q t h => Q .ret t h) d
theorem opsR_eq (P : Program) (G : Nat → Option DV) : ∀ l : List DOper, opsR P G l = opsWp P G l
  | [] => rfl
  | o :: r => by
    have ih := opsR_eq P G r
    funext K Q t h
    show (match o.guard with
      | none => stepWp P G o (opsR P G r K Q) t h
      | some (g, want) => match tget t g with
        | .bool b => onG (memB g K) b want (stepWp P G o (opsR P G r (g :: K) Q) ((g, .bool want) :: t) h) (putK o.dst (.tuple []) ((g, .bool (!want)) :: t) fun t' => opsR P G r (g :: K) Q t' h)
        | .tuple [] => putK o.dst (.tuple []) t fun t' => opsR P G r K Q t' h
        | _ => False) = _
    rw [ih]; rfl
theorem drawR_eq (P : Program) (G : Nat → Option DV) : ∀ l : List DOper, drawR P G l = drawWp P G l
  | [] => rfl
  | o :: r => by
    have ih := drawR_eq P G r
    funext K fs Q t h
    show (match o.guard with
      | none => drawRun P G o fs (fun fs => drawR P G r K fs Q) t h
      | some (g, want) => match tget t g with
        | .bool b => onG (memB g K) b want (drawRun P G o fs (fun fs => drawR P G r (g :: K) fs Q) ((g, .bool want) :: t) h)
            (putK o.dst (.tuple []) ((g, .bool (!want)) :: t) fun t' => drawR P G r (g :: K) (⟨o.bef, [], []⟩ :: fs) Q t' h)
        | .tuple [] => putK o.dst (.tuple []) t fun t' => drawR P G r K (⟨o.bef, [], []⟩ :: fs) Q t' h
        | _ => False) = _
    rw [ih]; rfl
theorem dwpR_eq (P : Program) (G : Nat → Option DV) : ∀ d : DC, dwpR P G d = dwp P G d
  | .skip => rfl
  | .ops false l => by
    funext Q t h
    show opsR P G l [] (Q .normal) t h = _
    rw [opsR_eq]; rfl
  | .ops true l => by
    funext Q t h
    show drawR P G l [] [] (Q .normal) t h = _
    rw [drawR_eq]; rfl
  | .seq a b => by
    funext Q t h
    show dwpR P G a (seqQ (dwpR P G b Q) Q) t h = _
    rw [dwpR_eq P G a, dwpR_eq P G b]; rfl
  | .cond c a b => by
    funext Q t h
    show (match evalOpd G t c with
      | .bool v => (v = true → dwpR P G a Q t h) ∧ (v = false → dwpR P G b Q t h)
      | _ => False) = _
    rw [dwpR_eq P G a, dwpR_eq P G b]; rfl
  | .block id k a => by
    funext Q t h
    show dwpR P G a (blockQ id k Q) t h = _
    rw [dwpR_eq P G a]; rfl
  | .loop k b => by
    funext Q t h
    show loopWp (dwpR P G b) k Q t h = _
    rw [dwpR_eq P G b]; rfl
  | .exit _ => rfl
  | .ret => rfl
theorem pureCall_ofR {P : Program} {G : Nat → Option DV} {ann : Ann} {f : FuncId} {ds : List DV} {d : DV} {df : DFunc} (hc : cProg P ann f = some df) (hn : ds.length = df.nargs)
    (h : dwpR P G df.body (retQ df.results d) (params ds 0) []) : PureCall P G f ds d := pureCall_of hc hn (by rw [← dwpR_eq]; exact h)
theorem hCall_ofR {P : Program} {G : Nat → Option DV} {ann : Ann} {f : FuncId} {ds : List DV} {d : DV} {hs hs' : Heap} {df : DFunc} (hc : cProg P ann f = some df) (hn : ds.length = df.nargs) (hk : keepsAll (hs.map (·.1)) df.body = true)
    (hsub : (hs.map (·.1)).all (fun n => (hs'.map (·.1)).any (Nat.beq n)) = true) (hw : dwpR P G df.body (retH df.results d hs') (params ds 0) hs) : HCall P G f ds hs d hs' :=
  hCall_of hc hn hk hsub (by rw [← dwpR_eq]; exact hw)
theorem dwp_loopR {P : Program} {G : Nat → Option DV} {α : Type} (T : α → Tmps) (H : α → Heap) (inv : α → Prop) (μ : α → Nat) {k : Keep} {b : DC} {Q : DExit → SP} {t : Tmps} {s : Heap} (a0 : α)
    (h0 : enterK k.cv t s fun t' h' => boxesOk k.kh (hlook h') k.kh = true ∧ keepT k.kh (hlook h') t' k.kt = T a0 ∧ keepH k.kh (hlook h') k.kh = H a0) (hi : inv a0)
    (step : ∀ a, inv a → dwpR P G b (seqQ (fun t' h' => ∃ a', boxesOk k.kh (hlook h') k.kh = true ∧ keepT k.kh (hlook h') t' k.kt = T a' ∧ keepH k.kh (hlook h') k.kh = H a' ∧ inv a' ∧ μ a' < μ a) Q) (T a) (H a)) :
    loopWp (dwpR P G b) k Q t s := by
  rw [dwpR_eq]
  exact dwp_loop T H inv μ a0 h0 hi fun a ha => by rw [← dwpR_eq]; exact step a ha
end Sh
