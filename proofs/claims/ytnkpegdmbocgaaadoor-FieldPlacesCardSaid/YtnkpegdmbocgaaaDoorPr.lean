/-
  field.Ones counts the bits that are 1.
-/
import Derived.Test.YtnkpegdmbocgaaaDoorPo
namespace Go.Proofs.YtnkpegdmbocgaaaDoor
open Go Go.RowKit
theorem andU (a b : Nat) (ha : a < 2 ^ 64) (hb : b < 2 ^ 64) : bits .and .u64 (a : Int) (b : Int) = ((a &&& b : Nat) : Int) :=
  (bits_nat .u64 64 (by decide) (fun n h1 h2 => by simp only [IntKind.wrap, IntKind.bits, IntKind.signed]; simp; omega) a b ha hb).1
theorem orU (a b : Nat) (ha : a < 2 ^ 64) (hb : b < 2 ^ 64) : bits .or .u64 (a : Int) (b : Int) = ((a ||| b : Nat) : Int) :=
  (bits_nat .u64 64 (by decide) (fun n h1 h2 => by simp only [IntKind.wrap, IntKind.bits, IntKind.signed]; simp; omega) a b ha hb).2
theorem fdivN (a : Nat) (k : Nat) (hk : 0 < k) : ((a : Int)).fdiv (k : Int) = ((a / k : Nat) : Int) := by
  rw [Int.fdiv_eq_ediv_of_nonneg _ (by omega)]; rfl
theorem ones_eq (n : Nat) (hn : n < 2 ^ 64) : math_bits_OnesCount64_0 n = ((placesN n).length : Int) := by
  obtain ⟨q0, q1, q2, q3, q4⟩ := pop_nat n hn
  have eA : IntKind.u64.wrap (bits .and .u64 ((n : Int).fdiv 2) 6148914691236517205 + bits .and .u64 (n : Int) 6148914691236517205) = ((pcA n : Nat) : Int) := by
    have h1 : bits .and .u64 ((n : Int).fdiv 2) 6148914691236517205 = (((n >>> 1) &&& 6148914691236517205 : Nat) : Int) := by
      have := andU (n / 2) 6148914691236517205 (by omega) (by decide)
      rw [Nat.shiftRight_eq_div_pow]
      have e := fdivN n 2 (by decide)
      rw [show ((2 : Nat) : Int) = 2 from rfl] at e
      rw [e]; exact this
    have h2 : bits .and .u64 (n : Int) 6148914691236517205 = ((n &&& 6148914691236517205 : Nat) : Int) := andU n 6148914691236517205 hn (by decide)
    rw [h1, h2]
    exact wrapU (pcA n) q1
  have eB : IntKind.u64.wrap (bits .and .u64 ((pcA n : Int).fdiv 4) 3689348814741910323 + bits .and .u64 (pcA n : Int) 3689348814741910323) = ((pcB (pcA n) : Nat) : Int) := by
    generalize pcA n = A at *
    have h1 : bits .and .u64 ((A : Int).fdiv 4) 3689348814741910323 = (((A >>> 2) &&& 3689348814741910323 : Nat) : Int) := by
      have := andU (A / 4) 3689348814741910323 (by omega) (by decide)
      rw [Nat.shiftRight_eq_div_pow]
      have e := fdivN A 4 (by decide)
      rw [show ((4 : Nat) : Int) = 4 from rfl] at e
      rw [e]; exact this
    have h2 : bits .and .u64 (A : Int) 3689348814741910323 = ((A &&& 3689348814741910323 : Nat) : Int) := andU A 3689348814741910323 q1 (by decide)
    rw [h1, h2]
    exact wrapU (pcB A) (by omega)
  have eC : bits .and .u64 (IntKind.u64.wrap ((pcB (pcA n) : Int).fdiv 16 + (pcB (pcA n) : Int))) 1085102592571150095 = ((pcC (pcB (pcA n)) : Nat) : Int) := by
    generalize pcB (pcA n) = B at *
    have e := fdivN B 16 (by decide)
    rw [show ((16 : Nat) : Int) = 16 from rfl] at e
    rw [e]
    have h1 : IntKind.u64.wrap (((B / 16 : Nat) : Int) + (B : Int)) = ((B / 16 + B : Nat) : Int) := wrapU (B / 16 + B) q3
    rw [h1]
    exact andU _ _ q3 (by decide)
  unfold math_bits_OnesCount64_0
  rw [eA, eB, eC]
  generalize pcC (pcB (pcA n)) = C at *
  have e1 : IntKind.u64.wrap ((C : Int) + (C : Int).fdiv 256) = ((C + C / 256 : Nat) : Int) := by
    have e := fdivN C 256 (by decide)
    rw [show ((256 : Nat) : Int) = 256 from rfl] at e
    rw [e]
    exact wrapU (C + C / 256) (by omega)
  rw [e1]
  generalize hD : C + C / 256 = D at *
  have e2 : IntKind.u64.wrap ((D : Int) + (D : Int).fdiv 65536) = ((D + D / 65536 : Nat) : Int) := by
    have e := fdivN D 65536 (by decide)
    rw [show ((65536 : Nat) : Int) = 65536 from rfl] at e
    rw [e]
    exact wrapU (D + D / 65536) (by omega)
  rw [e2]
  generalize hE : D + D / 65536 = E at *
  have e3 : IntKind.u64.wrap ((E : Int) + (E : Int).fdiv 4294967296) = ((E + E / 4294967296 : Nat) : Int) := by
    have e := fdivN E 4294967296 (by decide)
    rw [show ((4294967296 : Nat) : Int) = 4294967296 from rfl] at e
    rw [e]
    exact wrapU (E + E / 4294967296) (by omega)
  rw [e3, ← q4]
  generalize hG : E + E / 4294967296 = G at *
  have hG63 : G < 2 ^ 62 := by omega
  have e4 : IntKind.i64.wrap (G : Int) = G := by rw [IntKind.wrap_i64]; omega
  rw [e4]
  have h := (bits_nat .i64 63 (by decide) (fun n h1 h2 => by rw [IntKind.wrap_i64]; omega) G 127 (by omega) (by decide)).1
  have h' : bits .and .i64 (G : Int) 127 = ((G &&& 127 : Nat) : Int) := h
  rw [h', show (127 : Nat) = 2 ^ 7 - 1 from rfl, Nat.and_two_pow_sub_one_eq_mod]
end Go.Proofs.YtnkpegdmbocgaaaDoor
