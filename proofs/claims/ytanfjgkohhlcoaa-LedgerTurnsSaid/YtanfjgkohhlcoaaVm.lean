/-
  Division of two words by one: the plain law of one step of two figures (base 2^32).
-/
import Derived.IntWalk
import Derived.Test.YtanfjgkohhlcoaaEx1
namespace Go.Proofs.Ytanfjgkohhlcoaa
open Go Go.RowKit
/-- What one step is over: u two figures ahead, d the next one, y = y1 * 2^32 + y0 with its top bit set. -/
structure DvIn (y y1 y0 u d : Int) : Prop where
  hy : y = y1 * 4294967296 + y0
  h0 : 0 ≤ y0 ∧ y0 < 4294967296
  h1 : 2147483648 ≤ y1 ∧ y1 < 4294967296
  hu : 0 ≤ u ∧ u < y
  hd : 0 ≤ d ∧ d < 4294967296
section
variable {y y1 y0 u d : Int}
theorem DvIn.pos (h : DvIn y y1 y0 u d) : 0 < y := by have := h.hy; have := h.h0; have := h.h1; omega
theorem DvIn.q_lt (h : DvIn y y1 y0 u d) : (u * 4294967296 + d) / y < 4294967296 := by
  have := h.hu; have := h.hd
  exact Int.ediv_lt_of_lt_mul h.pos (by omega)
theorem DvIn.q_nn (h : DvIn y y1 y0 u d) : 0 ≤ (u * 4294967296 + d) / y := by
  have := h.hu; have := h.hd
  exact Int.ediv_nonneg (by omega) (by have := h.pos; omega)
/-- The estimate is never too small. -/
theorem DvIn.first (h : DvIn y y1 y0 u d) : (u * 4294967296 + d) / y ≤ u / y1 := by
  have hp := h.pos
  have h1 := h.h1; have h0 := h.h0; have hd := h.hd
  generalize hQ : (u * 4294967296 + d) / y = Q
  have hm : Q * y ≤ u * 4294967296 + d := by rw [← hQ]; exact Int.ediv_mul_le _ (by omega)
  have hq0 : 0 ≤ Q := by rw [← hQ]; exact h.q_nn
  have e : Q * y = (Q * y1) * 4294967296 + Q * y0 := by rw [h.hy, Int.mul_add, Int.mul_assoc]
  have hp0 : 0 ≤ Q * y0 := Int.mul_nonneg hq0 h0.1
  exact Int.le_ediv_of_mul_le (by omega) (by omega)
/-- The test holds: it is too great. -/
theorem DvIn.great (h : DvIn y y1 y0 u d) {q r : Int} (hq : u = q * y1 + r) (hc : 4294967296 ≤ q ∨ 4294967296 * r + d < q * y0) : (u * 4294967296 + d) / y ≤ q - 1 := by
  rcases hc with hc | hc
  · have := h.q_lt; omega
  · have e : q * y = (q * y1) * 4294967296 + q * y0 := by rw [h.hy, Int.mul_add, Int.mul_assoc]
    have : (u * 4294967296 + d) / y < q := Int.ediv_lt_of_lt_mul h.pos (by omega)
    omega
/-- The test fails: it is not too great. -/
theorem DvIn.small (h : DvIn y y1 y0 u d) {q r : Int} (hq : u = q * y1 + r) (hc : q * y0 ≤ 4294967296 * r + d) : q ≤ (u * 4294967296 + d) / y := by
  have e : q * y = (q * y1) * 4294967296 + q * y0 := by rw [h.hy, Int.mul_add, Int.mul_assoc]
  exact Int.le_ediv_of_mul_le h.pos (by omega)
/-- What is left passed a figure: it is not too great either. -/
theorem DvIn.broke (h : DvIn y y1 y0 u d) {q r : Int} (hq : u = q * y1 + r) (h0 : 0 ≤ q) (hr : 4294967296 ≤ r) : q ≤ (u * 4294967296 + d) / y := by
  have h1 := h.h1; have hy0 := h.h0; have hu := h.hu; have hd := h.hd; have hy := h.hy
  have hlt : q < 4294967296 := by
    rcases Int.lt_or_le q 4294967296 with hl | hl
    · exact hl
    · have : 4294967296 * y1 ≤ q * y1 := Int.mul_le_mul_of_nonneg_right hl (by omega)
      omega
  refine h.small hq ?_
  have : q * y0 ≤ 4294967295 * y0 := Int.mul_le_mul_of_nonneg_right (by omega) hy0.1
  omega
end
end Go.Proofs.Ytanfjgkohhlcoaa
