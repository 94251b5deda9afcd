/-
  math/bits.TrailingZeros64, walked: the table is read.
-/
import Derived.Test.YtnkpegdmbocgaaaDoorPA
import Derived.Test.YtnkpegdmbocgaaaDoorExY
import Derived.Test.YtnkpegdmbocgaaaDoorBase
namespace Go.Proofs.YtnkpegdmbocgaaaDoor
open Go Go.RowKit
def tzTab : List Int := [0, 1, 56, 2, 57, 49, 28, 3, 61, 58, 42, 50, 38, 29, 17, 4, 62, 47, 59, 36, 45, 43, 51, 22, 53, 39, 33, 30, 24, 18, 12, 5, 63, 55, 48, 27, 60, 41, 37, 16, 46, 35, 44, 21, 52, 32, 23, 11, 54, 26, 40, 15, 34, 20, 31, 10, 25, 14, 19, 9, 13, 8, 7, 6]
theorem tz_tab : ∀ k : Nat, k < 64 → tzTab.getD ((2 ^ k * 285870213051353865 % 18446744073709551616) / 288230376151711744) 0 = (k : Int) := by decide
theorem tz_idx : ∀ k : Nat, k < 64 → (2 ^ k * 285870213051353865 % 18446744073709551616) / 288230376151711744 < 64 := by decide
/-- The lowest bit alone. -/
theorem low_bit (n k : Nat) (hk : k < 64) (hn : n < 2 ^ 64) (hb : n.testBit k = true) (hl : ∀ j, j < k → n.testBit j = false) : n &&& (2 ^ 64 - n) = 2 ^ k := by
  obtain ⟨q, hq⟩ : ∃ q, n = 2 ^ k * (2 * q + 1) := by
    have h1 : n % 2 ^ k = 0 := by
      apply Nat.eq_of_testBit_eq
      intro i
      rw [Nat.testBit_mod_two_pow, Nat.zero_testBit]
      by_cases hi : i < k
      · simp [hi, hl i hi]
      · simp [hi]
    have h2 : n / 2 ^ k % 2 = 1 := by
      have := Nat.testBit_eq_decide_div_mod_eq (x := n) (i := k)
      rw [hb] at this
      simpa using this.symm
    refine ⟨n / 2 ^ k / 2, ?_⟩
    have e1 := Nat.div_add_mod n (2 ^ k)
    have e2 := Nat.div_add_mod (n / 2 ^ k) 2
    rw [h1] at e1
    rw [h2] at e2
    rw [e2]
    omega
  have hle : 2 ^ k * (2 ^ (64 - k)) = 2 ^ 64 := by rw [← Nat.pow_add]; congr 1; omega
  have hr : 2 ^ 64 - n = 2 ^ k * (2 ^ (64 - k) - (2 * q + 1)) := by rw [Nat.mul_sub, hle, ← hq]
  have hp : 2 ^ (64 - k) = 2 * 2 ^ (63 - k) := by rw [← Nat.pow_succ']; congr 1; omega
  have hq2 : 2 * q + 1 < 2 ^ (64 - k) := by
    have := hn
    rw [hq, ← hle] at this
    exact Nat.lt_of_mul_lt_mul_left this
  have hr2 : 2 ^ (64 - k) - (2 * q + 1) = 2 * (2 ^ (63 - k) - 1 - q) + 1 := by omega
  rw [hr, hr2, hq]
  apply Nat.eq_of_testBit_eq
  intro i
  simp only [Nat.testBit_and, Nat.testBit_two_pow_mul, Nat.testBit_two_pow]
  by_cases hi : k ≤ i
  · simp only [hi, decide_true, Bool.true_and]
    obtain ⟨j, rfl⟩ : ∃ j, i = k + j := ⟨i - k, by omega⟩
    simp only [Nat.add_sub_cancel_left]
    cases j with
    | zero => simp [Nat.testBit_zero]
    | succ j =>
      have e : ∀ a, (2 * a + 1).testBit (j + 1) = a.testBit j := fun a => by
        rw [Nat.testBit_succ]; congr 1; omega
      rw [e, e]
      have hql : q < 2 ^ (63 - k) := by omega
      have hsub : ∀ j, (2 ^ (63 - k) - 1 - q).testBit j = (decide (j < 63 - k) && !q.testBit j) := fun j => by
        rw [show 2 ^ (63 - k) - 1 - q = 2 ^ (63 - k) - (q + 1) by omega]
        exact Nat.testBit_two_pow_sub_succ hql j
      rw [hsub]
      have : ¬ k = k + (j + 1) := by omega
      cases q.testBit j <;> simp [this]
  · simp [hi]
    omega
def tzN (n : Nat) : Nat := ((List.range 64).find? n.testBit).getD 64
theorem tzN_some {n k : Nat} (h : (List.range 64).find? n.testBit = some k) : k < 64 ∧ n.testBit k = true ∧ ∀ j, j < k → n.testBit j = false := by
  rw [List.find?_range_eq_some] at h
  obtain ⟨h1, h2, h3⟩ := h
  exact ⟨by simpa using h2, h1, fun j hj => by simpa using h3 j hj⟩
theorem tzN_none {n : Nat} (hn : n < 2 ^ 64) (h : (List.range 64).find? n.testBit = none) : n = 0 := by
  apply Nat.eq_of_testBit_eq
  intro i
  rw [Nat.zero_testBit]
  by_cases hi : i < 64
  · have := List.find?_eq_none.1 h i (List.mem_range.2 hi)
    simpa using this
  · exact Nat.testBit_lt_two_pow (Nat.lt_of_lt_of_le hn (Nat.pow_le_pow_right (by decide) (by omega)))
theorem tzN_zero : tzN 0 = 64 := by decide
/-- What the table is asked. -/
def tzI (x : Int) : Int := (IntKind.u64.wrap (bits .and .u64 x (IntKind.u64.wrap (-x)) * 285870213051353865)) / 288230376151711744
theorem tzI_eq {x : Int} (h0 : 0 ≤ x) (h1 : x < 2 ^ 64) (hx : x ≠ 0) : 0 ≤ tzI x ∧ tzI x < 64 ∧ tzTab.getD (tzI x).toNat 0 = (tzN x.toNat : Int) := by
  obtain ⟨n, rfl⟩ : ∃ n : Nat, x = n := ⟨x.toNat, by omega⟩
  have hn : n < 2 ^ 64 := by omega
  have hn0 : n ≠ 0 := by omega
  have hw : IntKind.u64.wrap (-(n : Int)) = ((2 ^ 64 - n : Nat) : Int) := by
    simp only [IntKind.wrap, IntKind.bits, IntKind.signed]
    simp
    omega
  have hand : bits .and .u64 (n : Int) ((2 ^ 64 - n : Nat) : Int) = ((n &&& (2 ^ 64 - n) : Nat) : Int) := by
    have h := bits_nat .u64 64 (by decide) (fun n h1 h2 => by simp only [IntKind.wrap, IntKind.bits, IntKind.signed]; simp; omega) n (2 ^ 64 - n) hn (by omega)
    exact h.1
  cases hf : (List.range 64).find? n.testBit with
  | none => exact absurd (tzN_none hn hf) hn0
  | some k =>
    obtain ⟨k1, k2, k3⟩ := tzN_some hf
    have e : tzI n = ((2 ^ k * 285870213051353865 % 18446744073709551616 / 288230376151711744 : Nat) : Int) := by
      unfold tzI
      rw [hw, hand, low_bit n k k1 hn k2 k3]
      simp only [IntKind.wrap, IntKind.bits, IntKind.signed]
      simp
    rw [e]
    refine ⟨by omega, by have := tz_idx k k1; omega, ?_⟩
    rw [Int.toNat_natCast, tz_tab k k1]
    simp [tzN, hf]
end Go.Proofs.YtnkpegdmbocgaaaDoor
