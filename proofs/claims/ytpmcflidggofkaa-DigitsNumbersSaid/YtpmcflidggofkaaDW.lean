/-
  Texts read as numbers: the plain laws.
-/
import Derived.Laws.Bits64
import Derived.WideShapes
import Derived.Test.YtpmcflidggofkaaDV
namespace Go.Proofs.Ytpmcflidggofkaa
open Go Go.RowKit
theorem decL_more : ∀ (f a : Nat) (acc : List Int), 0 < f → a < 10 ^ f → decL (f + 1) a acc = decL f a acc := by
  intro f
  induction f with
  | zero => intro a acc h; omega
  | succ f ih =>
    intro a acc _ ha
    by_cases h9 : a < 10
    · have e : Nat.blt a 10 = true := by simp [Nat.blt_eq]; omega
      conv => lhs; unfold decL
      conv => rhs; unfold decL
      rw [e]; rfl
    · have e : Nat.blt a 10 = false := by cases hb : Nat.blt a 10 with | false => rfl | true => simp [Nat.blt_eq] at hb; omega
      have hp : 10 ^ (f + 1) = 10 ^ f * 10 := Nat.pow_succ ..
      have hf : 0 < f := by
        cases f with
        | zero => simp at ha; omega
        | succ f => omega
      conv => lhs; unfold decL
      conv => rhs; unfold decL
      rw [e]
      simp only [cond_false]
      exact ih (a / 10) _ hf (by omega)
theorem text03 (n : Int) (h : -9223372036854775808 ≤ n) (h' : n ≤ 9223372036854775807) : haymowref03_Text_0 n = decText n ∧ c_haymowref03_Text n = true := by
  have hlen : ∀ f a : Nat, f ≤ 20 → Nat.ble (1 + lenB (strOf (decL f a []))) 9223372036854775807 = true := fun f a hf => by
    have := decL_len f a []
    rw [lenB_eq, strOf_size]
    simp at this
    exact Nat.ble_eq_true_of_le (by omega)
  unfold haymowref03_Text_0 c_haymowref03_Text decText wholeT
  by_cases c : n < 0
  · rw [decide_eq_true c, IntKind.wrap_u64 n, IntKind.wrap_u64 (0 - n % 18446744073709551616)]
    have e : ((0 - n % 18446744073709551616) % 18446744073709551616).toNat = n.natAbs := by omega
    rw [e, decL_more 19 n.natAbs [] (by omega) (by omega), decide_eq_true (show 0 ≤ (0 - n % 18446744073709551616) % 18446744073709551616 by omega), decide_eq_true (show (0 - n % 18446744073709551616) % 18446744073709551616 ≤ 18446744073709551615 by omega), hlen 19 n.natAbs (by omega), catB_eq]
    exact ⟨rfl, rfl⟩
  · rw [decide_eq_false c, IntKind.wrap_u64 n]
    have e : (n % 18446744073709551616).toNat = n.natAbs := by omega
    rw [e, decL_more 19 n.natAbs [] (by omega) (by omega), decide_eq_true (show 0 ≤ n % 18446744073709551616 by omega), decide_eq_true (show n % 18446744073709551616 ≤ 18446744073709551615 by omega)]
    exact ⟨rfl, rfl⟩
/-- The number of digits, some read already. -/
def valN (d : ByteArray) : Nat → Nat → Int → Int
  | _, 0, a => a
  | i, j + 1, a => valN d (i + 1) j (a * 10 + (byteAt d i - 48))
theorem bad_of {d : ByteArray} {i : Nat} (h : badB d i = false) : 48 ≤ byteAt d i ∧ byteAt d i ≤ 57 := by
  unfold badB at h
  by_cases a : byteAt d i < 48
  · rw [decide_eq_true a] at h; cases h
  · by_cases b : 57 < byteAt d i
    · rw [decide_eq_false a, decide_eq_true b] at h; cases h
    · omega
theorem digs_step {d : ByteArray} {i j : Nat} (h : digs d i (j + 1) = true) : (48 ≤ byteAt d i ∧ byteAt d i ≤ 57) ∧ digs d (i + 1) j = true := by
  unfold digs at h
  cases hb : badB d i with
  | true => rw [hb] at h; cases h
  | false => rw [hb] at h; exact ⟨bad_of hb, h⟩
theorem ten_pos (j : Nat) : (1 : Int) ≤ 10 ^ j := by
  have := Nat.pow_pos (n := j) (show 0 < 10 by omega)
  have h : ((10 ^ j : Nat) : Int) = (10 : Int) ^ j := by simp
  omega
theorem val_bd (d : ByteArray) : ∀ (j i : Nat) (a : Int), digs d i j = true → 0 ≤ a → a * 10 ^ j ≤ valN d i j a ∧ valN d i j a < (a + 1) * 10 ^ j
  | 0, i, a, _, h => by unfold valN; simp; omega
  | j + 1, i, a, hg, h => by
    obtain ⟨⟨b1, b2⟩, hg'⟩ := digs_step hg
    obtain ⟨g1, g2⟩ := val_bd d j (i + 1) (a * 10 + (byteAt d i - 48)) hg' (by omega)
    unfold valN
    obtain ⟨x, hx⟩ : ∃ x, x = byteAt d i - 48 := ⟨_, rfl⟩
    rw [← hx] at g1 g2 ⊢
    have hp := ten_pos j
    rw [Int.pow_succ]
    generalize (10 : Int) ^ j = P at *
    have e1 : a * (P * 10) = a * P * 10 := by rw [Int.mul_assoc]
    have e2 : (a + 1) * (P * 10) = a * P * 10 + P * 10 := by rw [Int.add_mul, Int.one_mul, Int.mul_assoc]
    have e3 : (a * 10 + x) * P = a * P * 10 + x * P := by rw [Int.add_mul, Int.mul_right_comm]
    have e4 : (a * 10 + x + 1) * P = a * P * 10 + x * P + P := by rw [Int.add_mul, e3, Int.one_mul]
    have h1 : 0 ≤ x * P := Int.mul_nonneg (by omega) (by omega)
    have h2 : x * P ≤ 9 * P := Int.mul_le_mul_of_nonneg_right (by omega) (by omega)
    rw [e1, e2]
    rw [e3] at g1
    rw [e4] at g2
    omega
theorem val_ge {d : ByteArray} {j i : Nat} {a : Int} (hg : digs d i j = true) (h : 0 ≤ a) : a ≤ valN d i j a := by
  have h1 := (val_bd d j i a hg h).1
  have h2 : a * 1 ≤ a * 10 ^ j := Int.mul_le_mul_of_nonneg_left (ten_pos j) h
  omega
theorem dg_eq {z : Int} (h : 48 ≤ z ∧ z ≤ 57) : dgA z = z - 48 := by
  unfold dgA
  rw [wk8 _ (by omega) (by omega), wk _ (by omega) (by omega)]
theorem over_eq {a z : Int} (h : 48 ≤ z ∧ z ≤ 57) : over (-a) z = decide (9223372036854775808 < a * 10 + (z - 48)) := by
  unfold over
  rw [dg_eq h, wk (-9223372036854775808 + (z - 48)) (by omega) (by omega)]
  have e : (-9223372036854775808 + (z - 48)).tdiv 10 = -((9223372036854775808 - (z - 48)) / 10) := by
    rw [show -9223372036854775808 + (z - 48) = -(9223372036854775808 - (z - 48)) by omega, Int.neg_tdiv, Int.tdiv_eq_ediv_of_nonneg (by omega)]
  rw [e, wk _ (by omega) (by omega)]
  by_cases c : 9223372036854775808 < a * 10 + (z - 48)
  · rw [decide_eq_true c, decide_eq_true (by omega)]
  · rw [decide_eq_false c, decide_eq_false (by omega)]
theorem rdF_eq (d : ByteArray) : ∀ (j i : Nat) (a : Int), digs d i j = true → 0 ≤ a → a ≤ 9223372036854775808 → rdF (bytesOf d) i j (-a) = bif decide (valN d i j a ≤ 9223372036854775808) then some (-(valN d i j a)) else none
  | 0, i, a, _, h0, h1 => by unfold rdF valN; rw [decide_eq_true h1]; rfl
  | j + 1, i, a, hg, h0, h1 => by
    obtain ⟨hb, hg'⟩ := digs_step hg
    unfold rdF valN
    rw [bytes_at, over_eq hb]
    by_cases c : 9223372036854775808 < a * 10 + (byteAt d i - 48)
    · have := val_ge hg' (show 0 ≤ a * 10 + (byteAt d i - 48) by omega)
      rw [decide_eq_true c, decide_eq_false (by omega)]
      rfl
    · rw [decide_eq_false c]
      have e : next10 (-a) (byteAt d i) = -(a * 10 + (byteAt d i - 48)) := by
        unfold next10
        rw [dg_eq hb, wk (-a * 10) (by omega) (by omega), wk _ (by omega) (by omega)]
        omega
      rw [e]
      exact rdF_eq d j (i + 1) _ hg' (by omega) (by omega)
theorem numU_eq (d : ByteArray) : ∀ (j i : Nat) (u : Int), digs d i j = true → 0 ≤ u → valN d i j u < 18446744073709551616 → numU d i j u = valN d i j u
  | 0, i, u, _, _, _ => rfl
  | j + 1, i, u, hg, h0, hv => by
    obtain ⟨hb, hg'⟩ := digs_step hg
    unfold valN at hv
    have := val_ge hg' (show 0 ≤ u * 10 + (byteAt d i - 48) by omega)
    unfold numU valN
    have e : nextU u (byteAt d i) = u * 10 + (byteAt d i - 48) := by
      unfold nextU
      simp only [IntKind.wrap_u64]
      omega
    rw [e]
    exact numU_eq d j (i + 1) _ hg' (by omega) hv
theorem same_size (s : ByteArray) : (Int.ofNat (unS s).size == Int.ofNat s.size) = !mnR s := by
  obtain ⟨h1, h2⟩ := unS_size s
  cases h : mnR s with
  | true =>
    have := h1 h
    rw [show (Int.ofNat (unS s).size == Int.ofNat s.size) = false by simp; omega]
    rfl
  | false =>
    have := h2 h
    rw [this]
    simp
theorem read_eq (s : ByteArray) : rdV s = rfW s := by
  unfold rdV rfW
  cases hH : rfH s (unS s) with
  | true => rfl
  | false =>
    simp only [cond_false]
    cases hD : digs (unS s) 0 (unS s).size with
    | false => rfl
    | true =>
      unfold rfV
      simp only [cond_true]
      have hF := rdF_eq (unS s) (unS s).size 0 0 hD (Int.le_refl 0) (by omega)
      rw [Int.neg_zero] at hF
      rw [hF]
      have hbd := val_bd (unS s) (unS s).size 0 0 hD (Int.le_refl 0)
      by_cases h19 : 19 < (unS s).size
      · rw [decide_eq_true (show (19 : Int) < Int.ofNat (unS s).size by simp; omega)]
        have hbig : 9223372036854775808 < valN (unS s) 0 (unS s).size 0 := by
          obtain ⟨m, hm⟩ : ∃ m, (unS s).size = m + 1 := ⟨(unS s).size - 1, by omega⟩
          rw [hm] at hD ⊢
          obtain ⟨hb, hg'⟩ := digs_step hD
          have h48 : byteAt (unS s) 0 ≠ 48 := by
            intro e
            unfold rfH at hH
            have hle := unS_le s
            rw [len_iff, decide_eq_false (show ¬ (unS s).size = 0 by omega), e, decide_eq_true (show (1 : Int) < Int.ofNat s.size by simp; omega)] at hH
            cases hH
          unfold valN
          have h1 := (val_bd (unS s) m (0 + 1) (0 * 10 + (byteAt (unS s) 0 - 48)) hg' (by omega)).1
          have h2 : (1 : Int) * 10 ^ m ≤ (0 * 10 + (byteAt (unS s) 0 - 48)) * 10 ^ m := Int.mul_le_mul_of_nonneg_right (by omega) (by have := ten_pos m; omega)
          have h3 : (10 : Int) ^ 19 ≤ 10 ^ m := by
            have := Nat.pow_le_pow_right (show 0 < 10 by omega) (show 19 ≤ m by omega)
            have e1 : ((10 ^ 19 : Nat) : Int) = (10 : Int) ^ 19 := by simp
            have e2 : ((10 ^ m : Nat) : Int) = (10 : Int) ^ m := by simp
            omega
          omega
        rw [decide_eq_false (by omega)]
        rfl
      · rw [decide_eq_false (show ¬ (19 : Int) < Int.ofNat (unS s).size by simp; omega)]
        have hlt : valN (unS s) 0 (unS s).size 0 < 10000000000000000000 := by
          have := Nat.pow_le_pow_right (show 0 < 10 by omega) (show (unS s).size ≤ 19 by omega)
          have e2 : ((10 ^ (unS s).size : Nat) : Int) = (10 : Int) ^ (unS s).size := by simp
          have := hbd.2
          omega
        have hnn := val_ge hD (Int.le_refl 0)
        rw [numU_eq (unS s) (unS s).size 0 0 hD (Int.le_refl 0) (by omega)]
        unfold outU
        rw [same_size]
        generalize valN (unS s) 0 (unS s).size 0 = v at *
        simp only [cond_false]
        cases mnR s with
        | true =>
          simp only [Bool.not_true, cond_false]
          by_cases c : v ≤ 9223372036854775808
          · rw [decide_eq_true c, decide_eq_false (show ¬ 9223372036854775808 < v by omega)]
            simp only [cond_true, cond_false, outA]
            have e : IntKind.i64.wrap (IntKind.u64.wrap (0 - v)) = -v := by
              rw [IntKind.wrap_u64]
              unfold IntKind.wrap
              simp [IntKind.bits, IntKind.signed]
              omega
            rw [e]
          · rw [decide_eq_false c, decide_eq_true (show 9223372036854775808 < v by omega)]; rfl
        | false =>
          simp only [Bool.not_false, cond_true]
          by_cases c : v ≤ 9223372036854775808
          · rw [decide_eq_true c]
            simp only [cond_true, outA, cond_false]
            by_cases c2 : v = 9223372036854775808
            · subst c2; rfl
            · rw [show (-v == -9223372036854775808) = false by simp; omega, decide_eq_false (show ¬ 9223372036854775807 < v by omega), wk (0 - -v) (by omega) (by omega), wk v (by omega) (by omega)]
              simp
          · rw [decide_eq_false c, decide_eq_true (show 9223372036854775807 < v by omega)]; rfl
end Go.Proofs.Ytpmcflidggofkaa
