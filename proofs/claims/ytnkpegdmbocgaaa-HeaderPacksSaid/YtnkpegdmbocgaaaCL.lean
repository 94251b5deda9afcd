/-
  Classes: the plain laws.
-/
import Derived.Lib.ItoaNum
import Derived.Lib.BitFns
import Derived.Test.YtnkpegdmbocgaaaSD
namespace Go.Proofs.Ytnkpegdmbocgaaa
open Go Go.RowKit
theorem wru (x : Int) (h : 0 ≤ x) (h' : x ≤ 18446744073709551615) : IntKind.u64.wrap x = x := IntWalk.u64_in x ⟨h, h'⟩
theorem bl_gt (x k : Nat) (hx : x < 18446744073709551616) : k < Lib.bitLen x ↔ 2 ^ k ≤ x := by
  by_cases h0 : x = 0
  · subst h0
    have h1 : Lib.bitLen 0 = 0 := Lib.bitLenAux_zero 64
    have h2 : 0 < 2 ^ k := Nat.pow_pos (by omega)
    omega
  · obtain ⟨h1, h2, h3⟩ := Lib.bitLenAux_bounds 64 x (by omega) h0
    change 1 ≤ Lib.bitLen x at h1
    change 2 ^ (Lib.bitLen x - 1) ≤ x at h2
    change x < 2 ^ Lib.bitLen x at h3
    constructor
    · intro h
      exact Nat.le_trans (Nat.pow_le_pow_right (by omega) (by omega)) h2
    · intro h
      refine Nat.lt_of_not_le fun hc => ?_
      have := Nat.pow_le_pow_right (show 0 < 2 by omega) hc
      omega
theorem class_of (n : Int) (h : -9223372036854775808 ≤ n) (h' : n ≤ 9223372036854775807) : class_Of_0 n = haymowref04_Of_0 n ∧ c_class_Of n = true := by
  unfold class_Of_0 haymowref04_Of_0 c_class_Of
  by_cases c : n ≤ 1
  · rw [decide_eq_true c, decide_eq_false (show ¬ 1 < n by omega)]
    exact ⟨rfl, rfl⟩
  · rw [decide_eq_false c, wr (n - 1) (by omega) (by omega), wru (n - 1) (by omega) (by omega), decide_eq_true (show 0 ≤ n - 1 by omega), decide_eq_true (show n - 1 ≤ 18446744073709551615 by omega)]
    refine ⟨?_, rfl⟩
    obtain ⟨x, hx⟩ : ∃ x : Nat, n = x + 1 := ⟨(n - 1).toNat, by omega⟩
    subst hx
    have e : ((x : Int) + 1 - 1).toNat = x := by omega
    rw [e]
    have k0 := bl_gt x 0 (by omega)
    have k1 := bl_gt x 1 (by omega)
    have k2 := bl_gt x 2 (by omega)
    have k3 := bl_gt x 3 (by omega)
    have k4 := bl_gt x 4 (by omega)
    have k5 := bl_gt x 5 (by omega)
    have k6 := bl_gt x 6 (by omega)
    have k7 := bl_gt x 7 (by omega)
    have k8 := bl_gt x 8 (by omega)
    have k9 := bl_gt x 9 (by omega)
    have k10 := bl_gt x 10 (by omega)
    have k11 := bl_gt x 11 (by omega)
    have k12 := bl_gt x 12 (by omega)
    generalize Lib.bitLen x = L at *
    rw [cond_false]
    simp only [Bool.cond_eq_ite, decide_eq_true_eq]
    simp only [Nat.reducePow] at *
    (repeat' split) <;> omega
end Go.Proofs.Ytnkpegdmbocgaaa
