/- Plain lemmas for walks over the shadow semantics. -/
import Derived.Test.YtcdhbdhonpddeaaDoorShRun
set_option linter.unusedVariables false
namespace Sh
open Go

theorem getD_enc {α : Type} (f : α → DV) (l : List α) (i : Nat) (d : α) (h : i < l.length) : (l.map f).getD (Int.toNat (i : Int)) .undef = f (l.getD i d) := by
  simp [List.getD_eq_getElem?_getD, h]
theorem getD_enc' {α : Type} (f : α → DV) (l : List α) (i : Int) (d : α) (h0 : 0 ≤ i) (h : i < l.length) : (l.map f).getD i.toNat .undef = f (l.getD i.toNat d) := by
  have : i.toNat < l.length := by omega
  simp [List.getD_eq_getElem?_getD, this]

/-- The wrap-around of 64 bits. -/
def W (n : Int) : Int := IntKind.i64.wrap n
theorem W_def (n : Int) : W n = if 9223372036854775808 ≤ n % 18446744073709551616 then n % 18446744073709551616 - 18446744073709551616 else n % 18446744073709551616 := by
  unfold W IntKind.wrap
  simp [IntKind.bits, IntKind.signed]
theorem W_in {n : Int} (h1 : -9223372036854775808 ≤ n) (h2 : n ≤ 9223372036854775807) : W n = n := by rw [W_def]; split <;> omega
theorem W_bd (n : Int) : -9223372036854775808 ≤ W n ∧ W n ≤ 9223372036854775807 := by rw [W_def]; split <;> omega
theorem W_spec (n : Int) : ∃ k, W n = n + k * 18446744073709551616 := by
  rw [W_def]; split
  · exact ⟨-(n / 18446744073709551616) - 1, by omega⟩
  · exact ⟨-(n / 18446744073709551616), by omega⟩
theorem W_mod (n k : Int) : W (n + k * 18446744073709551616) = W n := by
  simp only [W_def]
  have : (n + k * 18446744073709551616) % 18446744073709551616 = n % 18446744073709551616 := by omega
  rw [this]
theorem W_add_l (a b : Int) : W (W a + b) = W (a + b) := by
  obtain ⟨k, e⟩ := W_spec a; rw [e, show a + k * 18446744073709551616 + b = (a + b) + k * 18446744073709551616 by omega, W_mod]
theorem W_add_r (a b : Int) : W (a + W b) = W (a + b) := by rw [Int.add_comm, W_add_l, Int.add_comm]
theorem W_sub_l (a b : Int) : W (W a - b) = W (a - b) := by
  obtain ⟨k, e⟩ := W_spec a; rw [e, show a + k * 18446744073709551616 - b = (a - b) + k * 18446744073709551616 by omega, W_mod]
theorem W_sub_r (a b : Int) : W (a - W b) = W (a - b) := by
  obtain ⟨k, e⟩ := W_spec b; rw [e, show a - (b + k * 18446744073709551616) = (a - b) + (-k) * 18446744073709551616 by omega, W_mod]
theorem W_neg (a : Int) : W (-(W a)) = W (-a) := by
  obtain ⟨k, e⟩ := W_spec a; rw [e, show -(a + k * 18446744073709551616) = -a + (-k) * 18446744073709551616 by omega, W_mod]
theorem W_mul_l (a b : Int) : W (W a * b) = W (a * b) := by
  obtain ⟨k, e⟩ := W_spec a; rw [e, show (a + k * 18446744073709551616) * b = a * b + (k * b) * 18446744073709551616 by rw [Int.add_mul, Int.mul_assoc, Int.mul_comm 18446744073709551616 b, ← Int.mul_assoc], W_mod]
theorem W_mul_r (a b : Int) : W (a * W b) = W (a * b) := by rw [Int.mul_comm, W_mul_l, Int.mul_comm]
theorem W_W (a : Int) : W (W a) = W a := by have := W_bd a; rw [W_in this.1 this.2]
theorem wrap_W (a : Int) : IntKind.i64.wrap a = W a := rfl
end Sh
