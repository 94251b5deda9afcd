/-
  How many bits are 1: the trick of adding side by side counts them.
-/
import Derived.Test.YtnkpegdmbocgaaaDoorPA
import Derived.Test.YtnkpegdmbocgaaaDoorPp
namespace Go.Proofs.YtnkpegdmbocgaaaDoor
open Go Go.RowKit
theorem tb_lo {a b i : Nat} (ha : a < 256) (hi : i < 8) : (a + 256 * b).testBit i = a.testBit i := by
  rw [show a + 256 * b = 2 ^ 8 * b + a by omega, Nat.testBit_two_pow_mul_add _ (by omega), if_pos hi]
theorem tb_hi {a b i : Nat} (ha : a < 256) : (a + 256 * b).testBit (8 + i) = b.testBit i := by
  rw [show a + 256 * b = 2 ^ 8 * b + a by omega, Nat.testBit_two_pow_mul_add _ (by omega), if_neg (by omega)]
  congr 1; omega
theorem and8 {a b c d s : Nat} (hs : s ≤ 8) (ha : a < 256) (hc : c < 2 ^ (8 - s)) : ((a + 256 * b) >>> s) &&& (c + 256 * d) = ((a >>> s) &&& c) + 256 * ((b >>> s) &&& d) := by
  have hc' : c < 256 := Nat.lt_of_lt_of_le hc (by have := Nat.pow_le_pow_right (n := 2) (by decide) (show 8 - s ≤ 8 by omega); omega)
  have hu : (a >>> s) &&& c < 256 := Nat.lt_of_le_of_lt Nat.and_le_right hc'
  apply Nat.eq_of_testBit_eq
  intro i
  rw [Nat.testBit_and, Nat.testBit_shiftRight]
  by_cases hi : i < 8
  · rw [tb_lo hc' hi, tb_lo hu hi, Nat.testBit_and, Nat.testBit_shiftRight]
    by_cases h2 : s + i < 8
    · rw [tb_lo ha h2]
    · have : c.testBit i = false := Nat.testBit_lt_two_pow (Nat.lt_of_lt_of_le hc (Nat.pow_le_pow_right (by decide) (by omega)))
      rw [this, Bool.and_false, Bool.and_false]
  · obtain ⟨j, rfl⟩ : ∃ j, i = 8 + j := ⟨i - 8, by omega⟩
    rw [tb_hi hc', tb_hi hu, Nat.testBit_and, Nat.testBit_shiftRight, show s + (8 + j) = 8 + (s + j) by omega, tb_hi ha]
def popB (a : Nat) : Nat := (List.range 8).countP a.testBit
def pA (a : Nat) : Nat := ((a >>> 1) &&& 85) + (a &&& 85)
def pB2 (a : Nat) : Nat := ((a >>> 2) &&& 51) + (a &&& 51)
theorem byte_fact : ∀ a : Nat, a < 256 → pA a < 256 ∧ pB2 (pA a) % 16 ≤ 4 ∧ pB2 (pA a) / 16 ≤ 4 ∧ pB2 (pA a) / 16 + pB2 (pA a) % 16 = popB a := by decide +kernel
theorem count_add (a b k : Nat) (ha : a < 256) : (List.range (8 + k)).countP (a + 256 * b).testBit = popB a + (List.range k).countP b.testBit := by
  rw [List.range_add, List.countP_append, List.countP_map]
  congr 1
  · exact List.countP_congr fun i hi => by rw [tb_lo ha (List.mem_range.1 hi)]
  · exact List.countP_congr fun i _ => by simp only [Function.comp]; rw [tb_hi ha]
theorem bytes8 (n : Nat) (hn : n < 2 ^ 64) : ∃ a0 a1 a2 a3 a4 a5 a6 a7 : Nat, a0 < 256 ∧ a1 < 256 ∧ a2 < 256 ∧ a3 < 256 ∧ a4 < 256 ∧ a5 < 256 ∧ a6 < 256 ∧ a7 < 256 ∧
    n = a0 + 256 * (a1 + 256 * (a2 + 256 * (a3 + 256 * (a4 + 256 * (a5 + 256 * (a6 + 256 * a7)))))) :=
  ⟨n % 256, n / 256 % 256, n / 65536 % 256, n / 16777216 % 256, n / 4294967296 % 256, n / 1099511627776 % 256, n / 281474976710656 % 256, n / 72057594037927936 % 256, by omega, by omega, by omega, by omega, by omega, by omega, by omega, by omega, by omega⟩
def pcA (n : Nat) : Nat := ((n >>> 1) &&& 6148914691236517205) + (n &&& 6148914691236517205)
def pcB (n : Nat) : Nat := ((n >>> 2) &&& 3689348814741910323) + (n &&& 3689348814741910323)
def pcC (n : Nat) : Nat := (n / 16 + n) &&& 1085102592571150095
theorem stage1 (s m1 mAll : Nat) (hs : s ≤ 8) (hm : m1 < 2 ^ (8 - s)) (hall : mAll = m1 + 256 * (m1 + 256 * (m1 + 256 * (m1 + 256 * (m1 + 256 * (m1 + 256 * (m1 + 256 * m1)))))))
    (a0 a1 a2 a3 a4 a5 a6 a7 : Nat) (h0 : a0 < 256) (h1 : a1 < 256) (h2 : a2 < 256) (h3 : a3 < 256) (h4 : a4 < 256) (h5 : a5 < 256) (h6 : a6 < 256) :
    ((a0 + 256 * (a1 + 256 * (a2 + 256 * (a3 + 256 * (a4 + 256 * (a5 + 256 * (a6 + 256 * a7))))))) >>> s) &&& mAll =
      ((a0 >>> s) &&& m1) + 256 * (((a1 >>> s) &&& m1) + 256 * (((a2 >>> s) &&& m1) + 256 * (((a3 >>> s) &&& m1) + 256 * (((a4 >>> s) &&& m1) + 256 * (((a5 >>> s) &&& m1) + 256 * (((a6 >>> s) &&& m1) + 256 * ((a7 >>> s) &&& m1))))))) := by
  rw [hall, and8 hs h0 hm, and8 hs h1 hm, and8 hs h2 hm, and8 hs h3 hm, and8 hs h4 hm, and8 hs h5 hm, and8 hs h6 hm]
theorem add8 (x0 x1 x2 x3 x4 x5 x6 x7 y0 y1 y2 y3 y4 y5 y6 y7 : Nat) : (x0 + 256 * (x1 + 256 * (x2 + 256 * (x3 + 256 * (x4 + 256 * (x5 + 256 * (x6 + 256 * x7))))))) + (y0 + 256 * (y1 + 256 * (y2 + 256 * (y3 + 256 * (y4 + 256 * (y5 + 256 * (y6 + 256 * y7))))))) =
    (x0 + y0) + 256 * ((x1 + y1) + 256 * ((x2 + y2) + 256 * ((x3 + y3) + 256 * ((x4 + y4) + 256 * ((x5 + y5) + 256 * ((x6 + y6) + 256 * (x7 + y7))))))) := by omega
theorem fin8 (p0 p1 p2 p3 p4 p5 p6 p7 : Nat) (u0 : p0 ≤ 8) (u1 : p1 ≤ 8) (u2 : p2 ≤ 8) (u3 : p3 ≤ 8) (u4 : p4 ≤ 8) (u5 : p5 ≤ 8) (u6 : p6 ≤ 8) (u7 : p7 ≤ 8) (x y z : Nat)
    (hx : x = p0 + 256 * (p1 + 256 * (p2 + 256 * (p3 + 256 * (p4 + 256 * (p5 + 256 * (p6 + 256 * p7))))))) (hy : y = x + x / 256) (hz : z = y + y / 65536) : (z + z / 4294967296) % 128 = p0 + (p1 + (p2 + (p3 + (p4 + (p5 + (p6 + p7)))))) := by
  have e1 : x / 256 = p1 + 256 * (p2 + 256 * (p3 + 256 * (p4 + 256 * (p5 + 256 * (p6 + 256 * p7))))) := by omega
  have ey : y = (p0 + p1) + 256 * ((p1 + p2) + 256 * ((p2 + p3) + 256 * ((p3 + p4) + 256 * ((p4 + p5) + 256 * ((p5 + p6) + 256 * ((p6 + p7) + 256 * p7)))))) := by omega
  have e2 : y / 65536 = (p2 + p3) + 256 * ((p3 + p4) + 256 * ((p4 + p5) + 256 * ((p5 + p6) + 256 * ((p6 + p7) + 256 * p7)))) := by clear hx hy hz e1; omega
  have ez : z = (p0 + p1 + p2 + p3) + 256 * ((p1 + p2 + p3 + p4) + 256 * ((p2 + p3 + p4 + p5) + 256 * ((p3 + p4 + p5 + p6) + 256 * ((p4 + p5 + p6 + p7) + 256 * ((p5 + p6 + p7) + 256 * ((p6 + p7) + 256 * p7)))))) := by clear hx hy e1; omega
  have e3 : z / 4294967296 = (p4 + p5 + p6 + p7) + 256 * ((p5 + p6 + p7) + 256 * ((p6 + p7) + 256 * p7)) := by clear hx hy hz e1 e2 ey; omega
  clear hx hy hz e1 e2 ey
  omega
theorem nib8 (r0 r1 r2 r3 r4 r5 r6 r7 B : Nat) (hB : B = r0 + 256 * (r1 + 256 * (r2 + 256 * (r3 + 256 * (r4 + 256 * (r5 + 256 * (r6 + 256 * r7))))))) : B / 16 + B =
    (r0 / 16 + r0 % 16 + 16 * (r0 / 16 + r1 % 16)) + 256 * ((r1 / 16 + r1 % 16 + 16 * (r1 / 16 + r2 % 16)) + 256 * ((r2 / 16 + r2 % 16 + 16 * (r2 / 16 + r3 % 16)) + 256 * ((r3 / 16 + r3 % 16 + 16 * (r3 / 16 + r4 % 16)) + 256 * ((r4 / 16 + r4 % 16 + 16 * (r4 / 16 + r5 % 16)) + 256 * ((r5 / 16 + r5 % 16 + 16 * (r5 / 16 + r6 % 16)) + 256 * ((r6 / 16 + r6 % 16 + 16 * (r6 / 16 + r7 % 16)) + 256 * (r7 / 16 + r7 % 16 + 16 * (r7 / 16)))))))) := by omega
set_option maxHeartbeats 1000000 in
theorem pop_nat (n : Nat) (hn : n < 2 ^ 64) : pcC (pcB (pcA n)) < 2 ^ 60 ∧ pcA n < 2 ^ 64 ∧ pcB (pcA n) < 2 ^ 63 ∧ pcB (pcA n) / 16 + pcB (pcA n) < 2 ^ 64 ∧
    ((pcC (pcB (pcA n)) + pcC (pcB (pcA n)) / 256) + (pcC (pcB (pcA n)) + pcC (pcB (pcA n)) / 256) / 65536 + ((pcC (pcB (pcA n)) + pcC (pcB (pcA n)) / 256) + (pcC (pcB (pcA n)) + pcC (pcB (pcA n)) / 256) / 65536) / 4294967296) % 128 = (placesN n).length := by
  obtain ⟨a0, a1, a2, a3, a4, a5, a6, a7, h0, h1, h2, h3, h4, h5, h6, h7, e⟩ := bytes8 n hn
  have hlen : (placesN n).length = popB a0 + (popB a1 + (popB a2 + (popB a3 + (popB a4 + (popB a5 + (popB a6 + popB a7)))))) := by
    unfold placesN
    rw [List.length_map, ← List.countP_eq_length_filter, e, show 64 = 8 + (8 + (8 + (8 + (8 + (8 + (8 + 8)))))) from rfl, count_add _ _ _ h0, count_add _ _ _ h1, count_add _ _ _ h2, count_add _ _ _ h3, count_add _ _ _ h4, count_add _ _ _ h5, count_add _ _ _ h6]
    rfl
  have z : ∀ x : Nat, x >>> 0 = x := fun x => rfl
  obtain ⟨f0, k0, l0, s0⟩ := byte_fact a0 h0
  obtain ⟨f1, k1, l1, s1⟩ := byte_fact a1 h1
  obtain ⟨f2, k2, l2, s2⟩ := byte_fact a2 h2
  obtain ⟨f3, k3, l3, s3⟩ := byte_fact a3 h3
  obtain ⟨f4, k4, l4, s4⟩ := byte_fact a4 h4
  obtain ⟨f5, k5, l5, s5⟩ := byte_fact a5 h5
  obtain ⟨f6, k6, l6, s6⟩ := byte_fact a6 h6
  obtain ⟨f7, k7, l7, s7⟩ := byte_fact a7 h7
  have eA : pcA n = pA a0 + 256 * (pA a1 + 256 * (pA a2 + 256 * (pA a3 + 256 * (pA a4 + 256 * (pA a5 + 256 * (pA a6 + 256 * pA a7)))))) := by
    unfold pcA
    have q1 := stage1 1 85 6148914691236517205 (by decide) (by decide) (by decide) a0 a1 a2 a3 a4 a5 a6 a7 h0 h1 h2 h3 h4 h5 h6
    have q2 := stage1 0 85 6148914691236517205 (by decide) (by decide) (by decide) a0 a1 a2 a3 a4 a5 a6 a7 h0 h1 h2 h3 h4 h5 h6
    simp only [z] at q2
    rw [e, q1, q2]
    exact add8 _ _ _ _ _ _ _ _ _ _ _ _ _ _ _ _
  generalize pA a0 = b0, pA a1 = b1, pA a2 = b2, pA a3 = b3, pA a4 = b4, pA a5 = b5, pA a6 = b6, pA a7 = b7 at *
  have eB : pcB (pcA n) = pB2 b0 + 256 * (pB2 b1 + 256 * (pB2 b2 + 256 * (pB2 b3 + 256 * (pB2 b4 + 256 * (pB2 b5 + 256 * (pB2 b6 + 256 * pB2 b7)))))) := by
    unfold pcB
    have q1 := stage1 2 51 3689348814741910323 (by decide) (by decide) (by decide) b0 b1 b2 b3 b4 b5 b6 b7 f0 f1 f2 f3 f4 f5 f6
    have q2 := stage1 0 51 3689348814741910323 (by decide) (by decide) (by decide) b0 b1 b2 b3 b4 b5 b6 b7 f0 f1 f2 f3 f4 f5 f6
    simp only [z] at q2
    rw [eA, q1, q2]
    exact add8 _ _ _ _ _ _ _ _ _ _ _ _ _ _ _ _
  generalize pB2 b0 = r0, pB2 b1 = r1, pB2 b2 = r2, pB2 b3 = r3, pB2 b4 = r4, pB2 b5 = r5, pB2 b6 = r6, pB2 b7 = r7 at *
  generalize hA : pcA n = A at *
  generalize hB : pcB A = B at *
  rw [hlen]
  generalize popB a0 = p0, popB a1 = p1, popB a2 = p2, popB a3 = p3, popB a4 = p4, popB a5 = p5, popB a6 = p6, popB a7 = p7 at *
  have eC : pcC B = p0 + 256 * (p1 + 256 * (p2 + 256 * (p3 + 256 * (p4 + 256 * (p5 + 256 * (p6 + 256 * p7)))))) := by
    unfold pcC
    have e1 := nib8 r0 r1 r2 r3 r4 r5 r6 r7 B eB
    rw [s0, s1, s2, s3, s4, s5, s6, s7] at e1
    have q2 := stage1 0 15 1085102592571150095 (by decide) (by decide) (by decide) (p0 + 16 * (r0 / 16 + r1 % 16)) (p1 + 16 * (r1 / 16 + r2 % 16)) (p2 + 16 * (r2 / 16 + r3 % 16)) (p3 + 16 * (r3 / 16 + r4 % 16)) (p4 + 16 * (r4 / 16 + r5 % 16)) (p5 + 16 * (r5 / 16 + r6 % 16)) (p6 + 16 * (r6 / 16 + r7 % 16)) (p7 + 16 * (r7 / 16)) (by omega) (by omega) (by omega) (by omega) (by omega) (by omega) (by omega)
    simp only [z] at q2
    rw [e1, q2]
    have m15 : ∀ x y : Nat, x ≤ 8 → (x + 16 * y) &&& 15 = x := fun x y hx => by
      rw [show 15 = 2 ^ 4 - 1 from rfl, Nat.and_two_pow_sub_one_eq_mod]
      omega
    rw [m15 _ _ (by omega), m15 _ _ (by omega), m15 _ _ (by omega), m15 _ _ (by omega), m15 _ _ (by omega), m15 _ _ (by omega), m15 _ _ (by omega), m15 _ _ (by omega)]
  have u0 : p0 ≤ 8 := by omega
  have u1 : p1 ≤ 8 := by omega
  have u2 : p2 ≤ 8 := by omega
  have u3 : p3 ≤ 8 := by omega
  have u4 : p4 ≤ 8 := by omega
  have u5 : p5 ≤ 8 := by omega
  have u6 : p6 ≤ 8 := by omega
  have u7 : p7 ≤ 8 := by omega
  refine ⟨?_, ?_, ?_, ?_, fin8 p0 p1 p2 p3 p4 p5 p6 p7 u0 u1 u2 u3 u4 u5 u6 u7 _ _ _ eC rfl rfl⟩
  · rw [eC]; clear eA eB eC; omega
  · rw [eA]; clear eA eB eC; omega
  · rw [eB]; clear eA eB eC; omega
  · rw [eB]; clear eA eB eC; omega
end Go.Proofs.YtnkpegdmbocgaaaDoor
