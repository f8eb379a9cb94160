import Derived.Test.YtcdhbdhonpddeaaDoorShDDefs
import Derived.Test.YtcdhbdhonpddeaaDoorShAid
namespace Sh
open Go Go.Proofs
def GD : Nat → Option DV := fun g => if g = 1 then some (.agg [.func 162 [], .func 163 []]) else none
def iL (l : List Int) : DV := .list (l.map (DV.int .i64))
def firstE : List Int → Int
  | [] => 0
  | a :: r => if a ≠ 0 then a else firstE r
theorem firstE_drop (l : List Int) (i : Nat) (h : i < l.length) : firstE (l.drop i) = if l.getD i 0 ≠ 0 then l.getD i 0 else firstE (l.drop (i + 1)) := by
  rw [List.drop_eq_getElem_cons h]; simp [firstE, List.getD_eq_getElem?_getD, h]
def withE (n l h : Int) : Int := if n < l ∨ h < n then 3 else 0
def whenE (b : Bool) (e : Int) : Int := if b then e else 0
structure V3 where
  x : Int
  y : Int
  z : Int
def encV (p : V3) : DV := .agg [.int .i64 p.x, .int .i64 p.y, .int .i64 p.z]
structure P2 where
  x : Int
  y : Int
def encP (p : P2) : DV := .agg [.int .i64 p.x, .int .i64 p.y]
def lessV (a b : V3) : V3 := ⟨W (a.x - b.x), W (a.y - b.y), W (a.z - b.z)⟩
def dotV (a b : V3) : Int := W (a.x*b.x+a.y*b.y+a.z*b.z)
def crossV (a b : V3) : V3 := ⟨W (a.y*b.z-a.z*b.y), W (a.z*b.x-a.x*b.z), W (a.x*b.y-a.y*b.x)⟩
def acrossS (a : P2) (b : V3) : Int := W (a.x * b.z - a.y * b.y)
def checkTiltS (p : P2) : Int := firstE [withE p.x 1 100, withE p.y (-100) 100]
def checkSunS (v : V3) : Int := firstE [withE v.x (-1000) 1000, withE v.y (-1000) 1000, withE v.z 1 1000]

def gainE (p : P2) (v : V3) : Int := firstE [checkTiltS p, checkSunS v]
theorem int_eq {a b : Int} (h : a = b) : DV.int .i64 a = .int .i64 b := by rw [h]
theorem idxA {α : Type} {enc : α → DV} {l : List α} {i n : Nat} {x : DV} (h : i < l.length) (hx : x.cells.length = n) : 0 ≤ (i : Int) ∧ (i : Int) < ((l.map enc).length : Nat) ∧ x.cells.length = n := ⟨by omega, by simpa using h, hx⟩
theorem idxB {α : Type} {enc : α → DV} {l : List α} {i : Int} {n : Nat} {x : DV} (h0 : 0 ≤ i) (h : i < l.length) (hx : x.cells.length = n) : 0 ≤ i ∧ i < ((l.map enc).length : Nat) ∧ x.cells.length = n := ⟨h0, by simpa using h, hx⟩
theorem wrap_succ (i : Nat) (h : i < 4611686018427387904) : IntKind.i64.wrap ((i : Int) + 1) = ((i + 1 : Nat) : Int) := by
  rw [wrap_W, W_in (by omega) (by omega)]; omega
theorem pc90 (b : Bool) (e : Int) : PureCall Tryd.prog GD 90 [.bool b, .int .i64 e] (.int .i64 (whenE b e)) := by
  refine pureCall_of dh90 rfl ?_
  conv => whnf
  refine ⟨fun hb => ?_, fun hb => ?_⟩ <;> try (exact absurd hb (by decide))
  all_goals conv => whnf
  all_goals subst hb; rfl
theorem pc89 (n l h : Int) : PureCall Tryd.prog GD 89 [.int .i64 n, .int .i64 l, .int .i64 h] (.int .i64 (withE n l h)) := by
  refine pureCall_of dh89 rfl ?_
  conv => whnf
  refine ⟨fun hb => ?_, fun hb => ?_⟩ <;> try (exact absurd hb (by decide))
  all_goals conv => whnf
  · refine .inl ?_
    conv => whnf
    refine ⟨_, pc90 _ _, ?_⟩
    conv => whnf
    exact int_eq (by simp_all [withE, whenE]; split <;> split <;> omega)
  · refine .inl ?_
    conv => whnf
    refine ⟨_, pc90 _ _, ?_⟩
    conv => whnf
    exact int_eq (by simp_all [withE, whenE])
theorem pc49 (l : List Int) (hl : l.length < 4611686018427387904) : PureCall Tryd.prog GD 49 [iL l] (.int .i64 (firstE l)) := by
  refine pureCall_of dh49 rfl ?_
  conv => whnf
  refine dwp_loop (α := Nat) (fun i => [(5, iL l), (6, .int .i64 (l.map (DV.int .i64)).length), (7, .int .i64 i)]) (fun _ => []) (fun i => i ≤ l.length ∧ firstE l = firstE (l.drop i)) (fun i => l.length - i) 0 ⟨rfl, rfl, rfl⟩ ⟨Nat.zero_le _, rfl⟩ ?_
  intro i ⟨h1, h2⟩
  conv => whnf
  refine ⟨fun hb => ?_, fun hb => ?_⟩ <;> try (exact absurd hb (by decide))
  · have hi : i < l.length := by simpa using hb
    have hd := firstE_drop l i hi
    conv => whnf
    rw [getD_enc _ _ _ 0 hi]
    refine ⟨⟨by omega, by simpa using hi, rfl⟩, ?_⟩
    conv => whnf
    refine ⟨fun hb => ?_, fun hb => ?_⟩ <;> try (exact absurd hb (by decide))
    · conv => whnf
      exact int_eq (by simp_all)
    · conv => whnf
      rw [wrap_succ i (by omega)]
      exact ⟨i + 1, rfl, rfl, rfl, ⟨hi, by simp_all⟩, by omega⟩
  · conv => whnf
    have : i = l.length := by simp at hb; omega
    subst this
    exact int_eq (by rw [h2]; simp [firstE])
theorem pc116 (a b : V3) : PureCall Tryd.prog GD 116 [encV a, encV b] (encV (lessV a b)) := by
  refine pureCall_of dh116 rfl ?_
  conv => whnf
  rfl
theorem pc117 (a b : V3) : PureCall Tryd.prog GD 117 [encV a, encV b] (.int .i64 (dotV a b)) := by
  refine pureCall_of dh117 rfl ?_
  conv => whnf
  exact int_eq (by simp only [wrap_W, dotV, W_add_l, W_add_r])
theorem pc118 (a b : V3) : PureCall Tryd.prog GD 118 [encV a, encV b] (encV (crossV a b)) := by
  refine pureCall_of dh118 rfl ?_
  conv => whnf
  simp only [wrap_W, crossV, encV, W_sub_l, W_sub_r]
  rfl
theorem pc162 (a : V3) : PureCall Tryd.prog GD 162 [encV a] (.int .i64 a.x) := by
  refine pureCall_of dh162 rfl ?_
  conv => whnf
  rfl
theorem pc163 (a : V3) : PureCall Tryd.prog GD 163 [encV a] (.int .i64 a.y) := by
  refine pureCall_of dh163 rfl ?_
  conv => whnf
  rfl
theorem pc52 (a : P2) (b : V3) : PureCall Tryd.prog GD 52 [encP a, encV b] (.int .i64 (acrossS a b)) := by
  refine pureCall_of dh52 rfl ?_
  conv => whnf
  exact int_eq (by simp only [acrossS, wrap_W, W_sub_l, W_sub_r])
theorem pc50 (p : P2) : PureCall Tryd.prog GD 50 [encP p] (.int .i64 (checkTiltS p)) := by
  refine pureCall_of dh50 rfl ?_
  conv => whnf
  refine .inl ?_
  conv => whnf
  refine ⟨_, pc89 _ _ _, ?_⟩
  conv => whnf
  refine .inl ?_
  conv => whnf
  refine ⟨_, pc89 _ _ _, ?_⟩
  conv => whnf
  refine .inl ?_
  conv => whnf
  refine ⟨_, pc49 [_, _] (by simp), ?_⟩
  conv => whnf
  refine ⟨rfl, ?_⟩
  conv => whnf
  rfl
theorem pc51 (p : V3) : PureCall Tryd.prog GD 51 [encV p] (.int .i64 (checkSunS p)) := by
  refine pureCall_of dh51 rfl ?_
  conv => whnf
  refine .inl ?_
  conv => whnf
  refine ⟨_, pc89 _ _ _, ?_⟩
  conv => whnf
  refine .inl ?_
  conv => whnf
  refine ⟨_, pc89 _ _ _, ?_⟩
  conv => whnf
  refine .inl ?_
  conv => whnf
  refine ⟨_, pc89 _ _ _, ?_⟩
  conv => whnf
  refine .inl ?_
  conv => whnf
  refine ⟨_, pc49 [_, _, _] (by simp), ?_⟩
  conv => whnf
  refine ⟨rfl, ?_⟩
  conv => whnf
  rfl
theorem fin_err {e x : Int} (hb : decide (e ≠ 0) = true) : DV.tuple [.int .i64 0, .int .i64 e] = .tuple [.int .i64 (if e ≠ 0 then 0 else x), .int .i64 e] := by
  have := of_decide_eq_true hb; rw [if_pos this]
theorem fin_ok {e x : Int} (hb : decide (e ≠ 0) = false) : DV.tuple [.int .i64 x, .int .i64 0] = .tuple [.int .i64 (if e ≠ 0 then 0 else x), .int .i64 e] := by
  have h1 := of_decide_eq_false hb
  rw [if_neg h1]; have : e = 0 := Classical.not_not.1 h1
  rw [this]
theorem pc13 (p : P2) (v : V3) : PureCall Tryd.prog GD 13 [encP p, encV v] (.tuple [.int .i64 (if gainE p v ≠ 0 then 0 else acrossS p v), .int .i64 (gainE p v)]) := by
  refine pureCall_of dh13 rfl ?_
  conv => whnf
  refine .inl ?_
  conv => whnf
  refine ⟨_, pc50 _, ?_⟩
  conv => whnf
  refine .inl ?_
  conv => whnf
  refine ⟨_, pc51 _, ?_⟩
  conv => whnf
  refine .inl ?_
  conv => whnf
  refine ⟨_, pc49 [_, _] (by simp), ?_⟩
  conv => whnf
  refine ⟨rfl, ?_⟩
  conv => whnf
  refine ⟨fun hb => ?_, fun hb => ?_⟩ <;> try (exact absurd hb (by decide))
  · conv => whnf
    exact fin_err hb
  · conv => whnf
    refine .inl ?_
    conv => whnf
    refine ⟨_, pc52 _ _, ?_⟩
    conv => whnf
    exact fin_ok hb
theorem tmod_nat (m n : Nat) : ((m : Int).tmod (n : Int)) = ((m % n : Nat) : Int) := by rw [Int.tmod_eq_emod_of_nonneg (by omega)]; exact (Int.natCast_emod m n).symm
theorem pc61 (m n : Nat) : PureCall Tryd.prog GD 61 [.int .i64 m, .int .i64 n] (.int .i64 (Nat.gcd m n : Nat)) := by
  refine pureCall_of dh61 rfl ?_
  conv => whnf
  refine dwp_loop (α := Nat × Nat) (fun s => [(0, .int .i64 s.1), (1, .int .i64 s.2)]) (fun _ => []) (fun s => Nat.gcd s.1 s.2 = Nat.gcd m n) (fun s => s.2) (m, n) ⟨rfl, rfl, rfl⟩ rfl ?_
  intro ⟨x, y⟩ h1
  conv => whnf
  refine ⟨fun hb => ?_, fun hb => ?_⟩ <;> try (exact absurd hb (by decide))
  · have hy : y ≠ 0 := by simpa using hb
    conv => whnf
    refine ⟨by omega, ?_⟩
    rw [tmod_nat]
    conv => whnf
    refine ⟨rfl, ?_⟩
    conv => whnf
    exact ⟨(y, x % y), rfl, rfl, rfl, by rw [← h1]; exact (Nat.gcd_comm _ _).trans ((Nat.gcd_rec y x).symm.trans (Nat.gcd_comm _ _)), Nat.mod_lt _ (by omega)⟩
  · have hy : y = 0 := by simpa using hb
    subst hy
    conv => whnf
    exact int_eq (by rw [← h1]; simp)
theorem max_neg (n : Int) (h : -4611686018427387904 ≤ n) (h2 : n ≤ 4611686018427387904) : minmaxI true n (IntKind.i64.wrap (-n)) = (n.natAbs : Int) := by
  rw [wrap_W, W_in (by omega) (by omega)]; simp only [minmaxI, cond_true]; split <;> omega
theorem sub0 (n : Int) (h : -4611686018427387904 ≤ n) (h2 : n ≤ 4611686018427387904) : IntKind.i64.wrap (0 - n) = -n := by
  rw [wrap_W, W_in (by omega) (by omega)]; omega
theorem max_sub (n : Int) (h : -4611686018427387904 ≤ n) (h2 : n ≤ 4611686018427387904) : minmaxI true n (IntKind.i64.wrap (0 - n)) = (n.natAbs : Int) := by
  rw [sub0 n h h2]; simp only [minmaxI, cond_true]; split <;> omega
theorem pc62 (a b : Int) (ha : -4611686018427387904 ≤ a ∧ a ≤ 4611686018427387904) (hb : -4611686018427387904 ≤ b ∧ b ≤ 4611686018427387904) : PureCall Tryd.prog GD 62 [.int .i64 a, .int .i64 b] (.int .i64 (Int.gcd a b : Nat)) := by
  refine pureCall_of dh62 rfl ?_
  conv => whnf
  rw [max_sub a ha.1 ha.2, max_sub b hb.1 hb.2]
  refine dwp_loop (α := Nat × Nat) (fun s => [(0, .int .i64 s.1), (1, .int .i64 s.2)]) (fun _ => []) (fun s => Nat.gcd s.1 s.2 = Int.gcd a b) (fun s => s.2) (a.natAbs, b.natAbs) ⟨rfl, rfl, rfl⟩ rfl ?_
  intro ⟨x, y⟩ h1
  conv => whnf
  refine ⟨fun hb => ?_, fun hb => ?_⟩ <;> try (exact absurd hb (by decide))
  · have hy : y ≠ 0 := by simpa using hb
    conv => whnf
    refine ⟨by omega, ?_⟩
    rw [tmod_nat]
    conv => whnf
    refine ⟨rfl, ?_⟩
    conv => whnf
    exact ⟨(y, x % y), rfl, rfl, rfl, by rw [← h1]; exact (Nat.gcd_comm _ _).trans ((Nat.gcd_rec y x).symm.trans (Nat.gcd_comm _ _)), Nat.mod_lt _ (by omega)⟩
  · have hy : y = 0 := by simpa using hb
    subst hy
    conv => whnf
    exact int_eq (by rw [← h1]; simp)
def lowS (num den : Int) : P2 := ⟨num.tdiv (Int.gcd num den), den.tdiv (Int.gcd num den)⟩
theorem tdiv_bd (a : Int) (n : Nat) (h : -4611686018427387904 ≤ a ∧ a ≤ 4611686018427387904) : IntKind.i64.wrap (a.tdiv (n : Int)) = a.tdiv n := by
  have h1 : (a.tdiv (n : Int)).natAbs ≤ a.natAbs := by
    rw [Int.natAbs_tdiv]; exact Nat.div_le_self _ _
  rw [wrap_W, W_in (by omega) (by omega)]
theorem gcd_pos {a b : Int} (h : 0 < b) : ((Int.gcd a b : Nat) : Int) ≠ 0 := by
  have : 0 < Int.gcd a b := Int.gcd_pos_of_ne_zero_right a (by omega)
  omega
theorem pc56 (num den : Int) (hn : -4611686018427387904 ≤ num ∧ num ≤ 4611686018427387904) (hd : 0 < den ∧ den ≤ 4611686018427387904) : PureCall Tryd.prog GD 56 [.int .i64 num, .int .i64 den] (encP (lowS num den)) := by
  obtain ⟨k, rfl⟩ := Int.eq_ofNat_of_zero_le (show 0 ≤ den by omega)
  refine pureCall_of dh56 rfl ?_
  conv => whnf
  rw [max_neg num hn.1 hn.2]
  refine dwp_loop (α := Nat × Nat) (fun s => [(0, .int .i64 num), (1, .int .i64 (k : Int)), (4, .bptr 4 0), (5, .int .i64 s.1), (6, .int .i64 s.2)]) (fun _ => [(4, .box 2 (.agg [.int .i64 0, .int .i64 0]))]) (fun s => Nat.gcd s.1 s.2 = Int.gcd num k) (fun s => s.2) (num.natAbs, k) ⟨rfl, rfl, rfl⟩ rfl ?_
  intro ⟨x, y⟩ h1
  conv => whnf
  refine ⟨fun hb => ?_, fun hb => ?_⟩ <;> try (exact absurd hb (by decide))
  · have hy : y ≠ 0 := by simpa using hb
    conv => whnf
    refine ⟨by omega, ?_⟩
    rw [tmod_nat]
    conv => whnf
    refine ⟨rfl, ?_⟩
    conv => whnf
    exact ⟨(y, x % y), rfl, rfl, rfl, by rw [← h1]; exact (Nat.gcd_comm _ _).trans ((Nat.gcd_rec y x).symm.trans (Nat.gcd_comm _ _)), Nat.mod_lt _ (by omega)⟩
  · have hy : y = 0 := by simpa using hb
    subst hy
    have hx : x = Int.gcd num k := by rw [← h1]; simp
    subst hx
    conv => whnf
    refine ⟨gcd_pos hd.1, ?_⟩
    conv => whnf
    refine ⟨gcd_pos hd.1, ?_⟩
    conv => whnf
    refine ⟨rfl, ?_⟩
    rw [tdiv_bd num _ hn, tdiv_bd (k : Int) _ ⟨by omega, hd.2⟩]
    conv => whnf
    rfl
def vL (l : List V3) : DV := .list (l.map encV)
def szOf : Nat → Nat → Nat
  | _, 0 => 0
  | s, _ + 1 => s
theorem window_all {α : Type} (l : List α) (n : Nat) (h : n = l.length) : window l 0 n = l := by subst h; simp [window]
theorem take_snoc {α : Type} (l : List α) (i : Nat) (d : α) (h : i < l.length) : l.take (i + 1) = l.take i ++ [l.getD i d] := by
  rw [List.take_succ_eq_append_getElem h]; simp [List.getD_eq_getElem?_getD, h]
def tkM {α : Type} (F : α → DV) (l : List α) (i : Nat) : List DV := (l.take i).map F
theorem tkM_succ {α : Type} {F : α → DV} (l : List α) (i : Nat) (d : α) (h : i < l.length) : tkM F l (i + 1) = tkM F l i ++ [F (l.getD i d)] := by unfold tkM; rw [take_snoc l i d h, List.map_append]; rfl
theorem tkM_len {α : Type} {F : α → DV} (l : List α) (i : Nat) (h : i ≤ l.length) : (tkM F l i).length = i := by simp [tkM]; omega
theorem tkM_all {α : Type} {F : α → DV} (l : List α) : tkM F l l.length = l.map F := by simp [tkM]
theorem okE1 {sz : Nat} {e : DV} (h : okE sz e = true) : ∀ x ∈ [e], okE sz x = true := by intro x hx; rw [List.mem_singleton.1 hx]; exact h
theorem pc91 (l : List V3) (hl : l.length < 1073741824) (f : Nat) (g : V3 → Int) (hf : ∀ v, PureCall Tryd.prog GD f [encV v] (.int .i64 (g v))) :
    PureCall Tryd.prog GD 91 [vL l, .func f []] (iL (l.map g)) := by
  refine pureCall_of dh91 rfl ?_
  conv => whnf
  refine dwp_loop (α := Nat) (fun i => [(1, .func f []), (5, .own 5 0 (tkM (fun v => DV.int .i64 (g v)) l i).length (tkM (fun v => DV.int .i64 (g v)) l i).length), (8, vL l), (9, .int .i64 (l.map encV).length), (10, .int .i64 i)]) (fun i => [(5, .row (szOf 1 i) (tkM (fun v => DV.int .i64 (g v)) l i) false)]) (fun i => i ≤ l.length) (fun i => l.length - i) 0 ⟨rfl, rfl, rfl⟩ (Nat.zero_le _) ?_
  intro i h1
  conv => whnf
  refine ⟨fun hb => ?_, fun hb => ?_⟩ <;> try (exact absurd hb (by decide))
  · have hi : i < l.length := by simpa using hb
    have e1 := tkM_succ (F := fun v => DV.int .i64 (g v)) l i ⟨0, 0, 0⟩ hi
    conv => whnf
    rw [getD_enc _ _ _ ⟨0, 0, 0⟩ hi]
    refine ⟨⟨by omega, by simpa using hi, rfl⟩, ?_⟩
    conv => whnf
    refine .inl ?_
    conv => whnf
    refine ⟨_, hf _, ?_⟩
    conv => whnf
    cases i with
    | zero =>
      refine ⟨⟨rfl, rfl, rfl, Nat.le_of_ble_eq_true rfl, okE1 rfl⟩, ?_⟩
      conv => whnf
      refine ⟨1, rfl, ?_, ?_, hi, by omega⟩
      · rw [e1]; rfl
      · rw [e1]; rfl
    | succ i =>
      refine ⟨⟨rfl, rfl, rfl, ?_, okE1 rfl⟩, ?_⟩
      · rw [tkM_len _ _ h1]; show i + 1 + 1 ≤ 1073741824; omega
      conv => whnf
      rw [wrap_succ (i + 1) (by omega)]
      refine ⟨i + 2, rfl, ?_, ?_, hi, by omega⟩
      · rw [e1]; rfl
      · rw [e1]; rfl
  · conv => whnf
    have : i = l.length := by simp at hb; omega
    subst this
    refine ⟨rfl, ?_⟩
    rw [window_all _ _ rfl, tkM_all]
    unfold iL
    rw [List.map_map]
    rfl
end Sh
