/-
  A number put into a field above all bits: a sum.
-/
import Derived.IntWalk
import Derived.Laws.Bits64
import Derived.Test.YtnkpegdmbocgaaaFI
namespace Go.Proofs.Ytnkpegdmbocgaaa
open Go Go.RowKit
theorem and_shift (x K a : Nat) (h : x < 2 ^ a) : x &&& (K <<< a) = 0 := by
  apply Nat.eq_of_testBit_eq
  intro i
  rw [Nat.testBit_and, Nat.testBit_shiftLeft, Nat.zero_testBit]
  by_cases c : a ≤ i
  · rw [Nat.testBit_lt_two_pow (Nat.lt_of_lt_of_le h (Nat.pow_le_pow_right (by omega) c))]
    rfl
  · simp [c]
theorem andNot_keep (x m : BitVec 64) (h : x.toNat &&& m.toNat = 0) : x &&& ~~~m = x := by
  apply BitVec.eq_of_getLsbD_eq
  intro i hi
  have h1 : (x.toNat &&& m.toNat).testBit i = false := by rw [h]; exact Nat.zero_testBit i
  rw [Nat.testBit_and] at h1
  simp only [BitVec.getLsbD_and, BitVec.getLsbD_not, hi, decide_true, Bool.true_and]
  simp only [BitVec.getLsbD]
  cases hx : x.toNat.testBit i <;> cases hm : m.toNat.testBit i <;> simp_all
theorem bits_keep {w m : Int} (hw : 0 ≤ w ∧ w < 18446744073709551616) (hm : 0 ≤ m ∧ m < 18446744073709551616) (h : w.toNat &&& m.toNat = 0) : bits .andNot .u64 w m = w := by
  have e1 : (BitVec.ofInt 64 w).toNat = w.toNat := by rw [BitVec.toNat_ofInt]; congr 1; omega
  have e2 : (BitVec.ofInt 64 m).toNat = m.toNat := by rw [BitVec.toNat_ofInt]; congr 1; omega
  have hk := andNot_keep (BitVec.ofInt 64 w) (BitVec.ofInt 64 m) (by rw [e1, e2]; exact h)
  have hb : bits .andNot .u64 w m = IntKind.u64.wrap ((BitVec.ofInt 64 w &&& ~~~ (BitVec.ofInt 64 m)).toNat : Int) := rfl
  rw [hb, hk, e1, IntWalk.u64_in _ (by omega)]
  omega
theorem bits_sum {w n : Int} {a : Nat} (hw : 0 ≤ w ∧ w < 2 ^ a) (hn : 0 ≤ n) (h : n * 2 ^ a + w < 18446744073709551616) : bits .or .u64 w (n * 2 ^ a) = n * 2 ^ a + w := by
  obtain ⟨x, rfl⟩ := Int.eq_ofNat_of_zero_le hw.1
  obtain ⟨y, rfl⟩ := Int.eq_ofNat_of_zero_le hn
  have hp : ((2 ^ a : Nat) : Int) = (2 : Int) ^ a := by simp
  have hx : x < 2 ^ a := by omega
  have hs : (y : Int) * 2 ^ a = ((y * 2 ^ a : Nat) : Int) := by rw [Int.natCast_mul, hp]
  rw [hs] at h ⊢
  have e1 : (BitVec.ofInt 64 (x : Int)).toNat = x := by rw [BitVec.toNat_ofInt]; omega
  have e2 : (BitVec.ofInt 64 ((y * 2 ^ a : Nat) : Int)).toNat = y * 2 ^ a := by rw [BitVec.toNat_ofInt]; omega
  have hb : bits .or .u64 (x : Int) ((y * 2 ^ a : Nat) : Int) = IntKind.u64.wrap ((BitVec.ofInt 64 (x : Int) ||| BitVec.ofInt 64 ((y * 2 ^ a : Nat) : Int)).toNat : Int) := rfl
  rw [hb, BitVec.toNat_or, e1, e2, Nat.or_comm]
  have ho : y * 2 ^ a ||| x = y * 2 ^ a + x := by
    have := Nat.shiftLeft_add_eq_or_of_lt hx y
    rw [Nat.shiftLeft_eq] at this
    exact this.symm
  rw [ho, IntWalk.u64_in _ (by omega)]
  omega
end Go.Proofs.Ytnkpegdmbocgaaa
