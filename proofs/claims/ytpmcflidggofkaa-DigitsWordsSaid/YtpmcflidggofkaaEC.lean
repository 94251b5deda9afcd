/-
  Words as figures: what is written is read again; both readings are one.
-/
import Derived.Test.YtpmcflidggofkaaEB
namespace Go.Proofs.Ytpmcflidggofkaa
open Go Go.RowKit
theorem and15 {w : Int} (hw : 0 ≤ w ∧ w < 18446744073709551616) : bits .and .u64 w 15 = w % 16 := by
  obtain ⟨x, rfl⟩ := Int.eq_ofNat_of_zero_le hw.1
  have e1 : (BitVec.ofInt 64 (x : Int)).toNat = x := by rw [BitVec.toNat_ofInt]; omega
  have hb : bits .and .u64 (x : Int) 15 = IntKind.u64.wrap ((BitVec.ofInt 64 (x : Int) &&& BitVec.ofInt 64 15).toNat : Int) := rfl
  have e2 : (BitVec.ofInt 64 15).toNat = 15 := by decide
  have hle : x &&& 15 ≤ x := Nat.and_le_left
  rw [hb, BitVec.toNat_and, e1, e2, IntWalk.u64_in _ (by omega)]
  have := Nat.and_two_pow_sub_one_eq_mod x 4
  have h2 : x &&& 15 = x % 16 := this
  rw [h2]
  omega
theorem h15_0 {w : Int} (hw : 0 ≤ w ∧ w < 18446744073709551616) : bits .and .u64 (w.fdiv 1) 15 = w % 16 := by
  rw [Int.fdiv_eq_ediv_of_nonneg _ (by decide), and15 (by omega)]
  omega
theorem h15_1 {w : Int} (hw : 0 ≤ w ∧ w < 18446744073709551616) : bits .and .u64 (w.fdiv 16) 15 = w / 16 % 16 := by
  rw [Int.fdiv_eq_ediv_of_nonneg _ (by decide), and15 (by omega)]
theorem h15_2 {w : Int} (hw : 0 ≤ w ∧ w < 18446744073709551616) : bits .and .u64 (w.fdiv 256) 15 = w / 16 / 16 % 16 := by
  rw [Int.fdiv_eq_ediv_of_nonneg _ (by decide), and15 (by omega)]
  omega
theorem h15_3 {w : Int} (hw : 0 ≤ w ∧ w < 18446744073709551616) : bits .and .u64 (w.fdiv 4096) 15 = w / 16 / 16 / 16 % 16 := by
  rw [Int.fdiv_eq_ediv_of_nonneg _ (by decide), and15 (by omega)]
  omega
theorem h15_4 {w : Int} (hw : 0 ≤ w ∧ w < 18446744073709551616) : bits .and .u64 (w.fdiv 65536) 15 = w / 16 / 16 / 16 / 16 % 16 := by
  rw [Int.fdiv_eq_ediv_of_nonneg _ (by decide), and15 (by omega)]
  omega
theorem h15_5 {w : Int} (hw : 0 ≤ w ∧ w < 18446744073709551616) : bits .and .u64 (w.fdiv 1048576) 15 = w / 16 / 16 / 16 / 16 / 16 % 16 := by
  rw [Int.fdiv_eq_ediv_of_nonneg _ (by decide), and15 (by omega)]
  omega
theorem h15_6 {w : Int} (hw : 0 ≤ w ∧ w < 18446744073709551616) : bits .and .u64 (w.fdiv 16777216) 15 = w / 16 / 16 / 16 / 16 / 16 / 16 % 16 := by
  rw [Int.fdiv_eq_ediv_of_nonneg _ (by decide), and15 (by omega)]
  omega
theorem h15_7 {w : Int} (hw : 0 ≤ w ∧ w < 18446744073709551616) : bits .and .u64 (w.fdiv 268435456) 15 = w / 16 / 16 / 16 / 16 / 16 / 16 / 16 % 16 := by
  rw [Int.fdiv_eq_ediv_of_nonneg _ (by decide), and15 (by omega)]
  omega
theorem h15_8 {w : Int} (hw : 0 ≤ w ∧ w < 18446744073709551616) : bits .and .u64 (w.fdiv 4294967296) 15 = w / 16 / 16 / 16 / 16 / 16 / 16 / 16 / 16 % 16 := by
  rw [Int.fdiv_eq_ediv_of_nonneg _ (by decide), and15 (by omega)]
  omega
theorem h15_9 {w : Int} (hw : 0 ≤ w ∧ w < 18446744073709551616) : bits .and .u64 (w.fdiv 68719476736) 15 = w / 16 / 16 / 16 / 16 / 16 / 16 / 16 / 16 / 16 % 16 := by
  rw [Int.fdiv_eq_ediv_of_nonneg _ (by decide), and15 (by omega)]
  omega
theorem h15_10 {w : Int} (hw : 0 ≤ w ∧ w < 18446744073709551616) : bits .and .u64 (w.fdiv 1099511627776) 15 = w / 16 / 16 / 16 / 16 / 16 / 16 / 16 / 16 / 16 / 16 % 16 := by
  rw [Int.fdiv_eq_ediv_of_nonneg _ (by decide), and15 (by omega)]
  omega
theorem h15_11 {w : Int} (hw : 0 ≤ w ∧ w < 18446744073709551616) : bits .and .u64 (w.fdiv 17592186044416) 15 = w / 16 / 16 / 16 / 16 / 16 / 16 / 16 / 16 / 16 / 16 / 16 % 16 := by
  rw [Int.fdiv_eq_ediv_of_nonneg _ (by decide), and15 (by omega)]
  omega
theorem h15_12 {w : Int} (hw : 0 ≤ w ∧ w < 18446744073709551616) : bits .and .u64 (w.fdiv 281474976710656) 15 = w / 16 / 16 / 16 / 16 / 16 / 16 / 16 / 16 / 16 / 16 / 16 / 16 % 16 := by
  rw [Int.fdiv_eq_ediv_of_nonneg _ (by decide), and15 (by omega)]
  omega
theorem h15_13 {w : Int} (hw : 0 ≤ w ∧ w < 18446744073709551616) : bits .and .u64 (w.fdiv 4503599627370496) 15 = w / 16 / 16 / 16 / 16 / 16 / 16 / 16 / 16 / 16 / 16 / 16 / 16 / 16 % 16 := by
  rw [Int.fdiv_eq_ediv_of_nonneg _ (by decide), and15 (by omega)]
  omega
theorem h15_14 {w : Int} (hw : 0 ≤ w ∧ w < 18446744073709551616) : bits .and .u64 (w.fdiv 72057594037927936) 15 = w / 16 / 16 / 16 / 16 / 16 / 16 / 16 / 16 / 16 / 16 / 16 / 16 / 16 / 16 % 16 := by
  rw [Int.fdiv_eq_ediv_of_nonneg _ (by decide), and15 (by omega)]
  omega
theorem h15_15 {w : Int} (hw : 0 ≤ w ∧ w < 18446744073709551616) : bits .and .u64 (w.fdiv 1152921504606846976) 15 = w / 16 / 16 / 16 / 16 / 16 / 16 / 16 / 16 / 16 / 16 / 16 / 16 / 16 / 16 / 16 % 16 := by
  rw [Int.fdiv_eq_ediv_of_nonneg _ (by decide), and15 (by omega)]
  omega
def fg (d : Int) : Int := byteAt figs d.toNat
def dg (c : Int) : Int := strings_IndexByte_0 figs c
def figL : Nat → Int → List Int
  | 0, _ => []
  | j + 1, w => figL j (w / 16) ++ [fg (w % 16)]
theorem hex_eq {w : Int} (hw : 0 ≤ w ∧ w < 18446744073709551616) : digits_Hex_0 w = strOf (figL 16 w) := by
  have e : figL 16 w = [fg (w / 16 / 16 / 16 / 16 / 16 / 16 / 16 / 16 / 16 / 16 / 16 / 16 / 16 / 16 / 16 % 16), fg (w / 16 / 16 / 16 / 16 / 16 / 16 / 16 / 16 / 16 / 16 / 16 / 16 / 16 / 16 % 16), fg (w / 16 / 16 / 16 / 16 / 16 / 16 / 16 / 16 / 16 / 16 / 16 / 16 / 16 % 16), fg (w / 16 / 16 / 16 / 16 / 16 / 16 / 16 / 16 / 16 / 16 / 16 / 16 % 16), fg (w / 16 / 16 / 16 / 16 / 16 / 16 / 16 / 16 / 16 / 16 / 16 % 16), fg (w / 16 / 16 / 16 / 16 / 16 / 16 / 16 / 16 / 16 / 16 % 16), fg (w / 16 / 16 / 16 / 16 / 16 / 16 / 16 / 16 / 16 % 16), fg (w / 16 / 16 / 16 / 16 / 16 / 16 / 16 / 16 % 16), fg (w / 16 / 16 / 16 / 16 / 16 / 16 / 16 % 16), fg (w / 16 / 16 / 16 / 16 / 16 / 16 % 16), fg (w / 16 / 16 / 16 / 16 / 16 % 16), fg (w / 16 / 16 / 16 / 16 % 16), fg (w / 16 / 16 / 16 % 16), fg (w / 16 / 16 % 16), fg (w / 16 % 16), fg (w % 16)] := by
    simp only [figL, List.nil_append, List.cons_append]
  rw [e]
  unfold digits_Hex_0 fg
  rw [h15_0 hw, h15_1 hw, h15_2 hw, h15_3 hw, h15_4 hw, h15_5 hw, h15_6 hw, h15_7 hw, h15_8 hw, h15_9 hw, h15_10 hw, h15_11 hw, h15_12 hw, h15_13 hw, h15_14 hw, h15_15 hw]
theorem cHex {w : Int} (hw : 0 ≤ w ∧ w < 18446744073709551616) : c_digits_Hex w = true := by
  unfold c_digits_Hex
  rw [h15_0 hw, h15_1 hw, h15_2 hw, h15_3 hw, h15_4 hw, h15_5 hw, h15_6 hw, h15_7 hw, h15_8 hw, h15_9 hw, h15_10 hw, h15_11 hw, h15_12 hw, h15_13 hw, h15_14 hw, h15_15 hw]
  rw [decide_eq_true (show (w % 16).toNat < 16 by omega), decide_eq_true (show (w / 16 % 16).toNat < 16 by omega), decide_eq_true (show (w / 16 / 16 % 16).toNat < 16 by omega), decide_eq_true (show (w / 16 / 16 / 16 % 16).toNat < 16 by omega), decide_eq_true (show (w / 16 / 16 / 16 / 16 % 16).toNat < 16 by omega), decide_eq_true (show (w / 16 / 16 / 16 / 16 / 16 % 16).toNat < 16 by omega), decide_eq_true (show (w / 16 / 16 / 16 / 16 / 16 / 16 % 16).toNat < 16 by omega), decide_eq_true (show (w / 16 / 16 / 16 / 16 / 16 / 16 / 16 % 16).toNat < 16 by omega), decide_eq_true (show (w / 16 / 16 / 16 / 16 / 16 / 16 / 16 / 16 % 16).toNat < 16 by omega), decide_eq_true (show (w / 16 / 16 / 16 / 16 / 16 / 16 / 16 / 16 / 16 % 16).toNat < 16 by omega), decide_eq_true (show (w / 16 / 16 / 16 / 16 / 16 / 16 / 16 / 16 / 16 / 16 % 16).toNat < 16 by omega), decide_eq_true (show (w / 16 / 16 / 16 / 16 / 16 / 16 / 16 / 16 / 16 / 16 / 16 % 16).toNat < 16 by omega), decide_eq_true (show (w / 16 / 16 / 16 / 16 / 16 / 16 / 16 / 16 / 16 / 16 / 16 / 16 % 16).toNat < 16 by omega), decide_eq_true (show (w / 16 / 16 / 16 / 16 / 16 / 16 / 16 / 16 / 16 / 16 / 16 / 16 / 16 % 16).toNat < 16 by omega), decide_eq_true (show (w / 16 / 16 / 16 / 16 / 16 / 16 / 16 / 16 / 16 / 16 / 16 / 16 / 16 / 16 % 16).toNat < 16 by omega), decide_eq_true (show (w / 16 / 16 / 16 / 16 / 16 / 16 / 16 / 16 / 16 / 16 / 16 / 16 / 16 / 16 / 16 % 16).toNat < 16 by omega)]
  rfl
theorem fg_all : ((List.range 16).all fun d => fg (d : Int) == (bif decide (9 < (d : Int)) then 87 + (d : Int) else 48 + (d : Int)) && (dg (fg (d : Int)) == (d : Int) && (decide (0 ≤ fg (d : Int)) && decide (fg (d : Int) < 128)))) = true := by decide +kernel
theorem fg_of {d : Int} (h : 0 ≤ d ∧ d < 16) : fg d = (bif decide (9 < d) then 87 + d else 48 + d) ∧ dg (fg d) = d ∧ 0 ≤ fg d ∧ fg d < 128 := by
  obtain ⟨n, rfl⟩ := Int.eq_ofNat_of_zero_le h.1
  have := List.all_eq_true.1 fg_all n (List.mem_range.2 (by omega))
  simp only [Bool.and_eq_true, beq_iff_eq, decide_eq_true_eq] at this
  exact this
theorem dg_all : ((List.range 256).all fun c => bif (bif decide (48 ≤ (c : Int)) then decide ((c : Int) ≤ 57) else false) then dg (c : Int) == (c : Int) - 48 else bif (bif decide (97 ≤ (c : Int)) then decide ((c : Int) ≤ 102) else false) then dg (c : Int) == (c : Int) - 87 else decide (dg (c : Int) < 0)) = true := by decide +kernel
theorem byte_r (s : ByteArray) (i : Nat) : 0 ≤ byteAt s i ∧ byteAt s i < 256 := by
  unfold byteAt
  have := UInt8.toNat_lt (s.data.toList.getD i 0)
  omega
theorem dg_of {c : Int} (h : 0 ≤ c ∧ c < 256) : (48 ≤ c ∧ c ≤ 57 ∧ dg c = c - 48) ∨ (97 ≤ c ∧ c ≤ 102 ∧ dg c = c - 87) ∨ (¬ (48 ≤ c ∧ c ≤ 57) ∧ ¬ (97 ≤ c ∧ c ≤ 102) ∧ dg c < 0) := by
  obtain ⟨n, rfl⟩ := Int.eq_ofNat_of_zero_le h.1
  have := List.all_eq_true.1 dg_all n (List.mem_range.2 (by omega))
  by_cases h1 : 48 ≤ (n : Int) ∧ (n : Int) ≤ 57
  · rw [decide_eq_true h1.1, decide_eq_true h1.2] at this
    simp only [cond_true, beq_iff_eq] at this
    exact .inl ⟨h1.1, h1.2, this⟩
  · have e1 : (bif decide (48 ≤ (n : Int)) then decide ((n : Int) ≤ 57) else false) = false := by
      by_cases g : 48 ≤ (n : Int)
      · rw [decide_eq_true g, decide_eq_false (show ¬ (n : Int) ≤ 57 by omega)]; rfl
      · rw [decide_eq_false g]; rfl
    rw [e1] at this
    by_cases h2 : 97 ≤ (n : Int) ∧ (n : Int) ≤ 102
    · rw [decide_eq_true h2.1, decide_eq_true h2.2] at this
      simp only [cond_true, cond_false, beq_iff_eq] at this
      exact .inr (.inl ⟨h2.1, h2.2, this⟩)
    · have e2 : (bif decide (97 ≤ (n : Int)) then decide ((n : Int) ≤ 102) else false) = false := by
        by_cases g : 97 ≤ (n : Int)
        · rw [decide_eq_true g, decide_eq_false (show ¬ (n : Int) ≤ 102 by omega)]; rfl
        · rw [decide_eq_false g]; rfl
      rw [e2] at this
      simp only [cond_false, decide_eq_true_eq] at this
      exact .inr (.inr ⟨h1, h2, this⟩)
theorem rhW_of {w d : Int} (hw : 0 ≤ w ∧ w < 1152921504606846976) (hd : 0 ≤ d ∧ d < 16) : rhW w d = w * 16 + d := by
  unfold rhW
  rw [IntWalk.u64_in (w * 16) (by omega), IntWalk.u64_in d (by omega)]
  obtain ⟨x, rfl⟩ := Int.eq_ofNat_of_zero_le hw.1
  obtain ⟨y, rfl⟩ := Int.eq_ofNat_of_zero_le hd.1
  have hm : (x : Int) * 16 = ((x * 16 : Nat) : Int) := by omega
  rw [hm]
  have e1 : (BitVec.ofInt 64 ((x * 16 : Nat) : Int)).toNat = x * 16 := by rw [BitVec.toNat_ofInt]; omega
  have e2 : (BitVec.ofInt 64 (y : Int)).toNat = y := by rw [BitVec.toNat_ofInt]; omega
  have hb : bits .or .u64 ((x * 16 : Nat) : Int) (y : Int) = IntKind.u64.wrap ((BitVec.ofInt 64 ((x * 16 : Nat) : Int) ||| BitVec.ofInt 64 (y : Int)).toNat : Int) := rfl
  rw [hb, BitVec.toNat_or, e1, e2]
  have ho : x * 16 ||| y = x * 16 + y := by
    have := Nat.shiftLeft_add_eq_or_of_lt (show y < 2 ^ 4 by omega) x
    rw [Nat.shiftLeft_eq] at this
    exact this.symm
  rw [ho, IntWalk.u64_in _ (by omega)]
  omega
theorem pow16 : ∀ i : Nat, i ≤ 15 → (16 : Int) ^ i ≤ 1152921504606846976 := fun i hi => by
  have : (16 : Int) ^ i ≤ 16 ^ 15 := by
    exact_mod_cast Nat.pow_le_pow_right (by decide : 0 < 16) hi
  exact this
/-- Both readings are one. -/
theorem both (s : ByteArray) : ∀ (j i : Nat) (w : Int), i + j = 16 → (0 ≤ w ∧ w < 16 ^ i) → (rhF s i j w).1 = (rrF s i j w).1 ∧ ((rhF s i j w).2 == 0) = (rrF s i j w).2 ∧ ((rrF s i j w).2 = false → (rhF s i j w).2 = 5)
  | 0, i, w, _, _ => ⟨rfl, rfl, fun h => by cases h⟩
  | j + 1, i, w, hi, hw => by
    have hp := pow16 i (by omega)
    have hw' : 0 ≤ w ∧ w < 1152921504606846976 := by omega
    have hb := byte_r s i
    simp only [rhF, rrF]
    have hI : rhI s i = dg (byteAt s i) := rfl
    have hnext : ∀ d, 0 ≤ d ∧ d < 16 → 0 ≤ w * 16 + d ∧ w * 16 + d < 16 ^ (i + 1) := fun d hd => by
      rw [Int.pow_succ]
      omega
    have hsub : ∀ k c : Int, 0 ≤ c ∧ c < 256 → (0 ≤ k ∧ k ≤ c ∧ c - k < 16) → rrW w c k = w * 16 + (c - k) := fun k c hc hk => by
      unfold rrW
      rw [IntWalk.u64_in (w * 16) (by omega), IntWalk.u64_in c (by omega)]
      by_cases hov : w * 16 + c < 18446744073709551616
      · rw [IntWalk.u64_in (w * 16 + c) (by omega), IntWalk.u64_in _ (by omega)]
        omega
      · rw [IntKind.wrap_u64, IntKind.wrap_u64]
        omega
    rcases dg_of hb with ⟨h1, h2, h3⟩ | ⟨h1, h2, h3⟩ | ⟨h1, h2, h3⟩
    · have hA : rrA s i = true := by unfold rrA; rw [decide_eq_true h1, decide_eq_true h2]; rfl
      have hd : 0 ≤ rhI s i ∧ rhI s i < 16 := by rw [hI, h3]; omega
      rw [hA, decide_eq_false (show ¬ rhI s i < 0 by omega), rhW_of hw' hd, hsub 48 _ hb (by omega), ← h3, ← hI]
      simp only [cond_true, cond_false]
      exact both s j (i + 1) _ (by omega) (hnext _ hd)
    · have hA : rrA s i = false := by unfold rrA; rw [decide_eq_true (show 48 ≤ byteAt s i by omega), decide_eq_false (show ¬ byteAt s i ≤ 57 by omega)]; rfl
      have hB : rrB s i = true := by unfold rrB; rw [decide_eq_true h1, decide_eq_true h2]; rfl
      have hd : 0 ≤ rhI s i ∧ rhI s i < 16 := by rw [hI, h3]; omega
      rw [hA, hB, decide_eq_false (show ¬ rhI s i < 0 by omega), rhW_of hw' hd, hsub 87 _ hb (by omega), ← h3, ← hI]
      simp only [cond_true, cond_false]
      exact both s j (i + 1) _ (by omega) (hnext _ hd)
    · have hA : rrA s i = false := by
        unfold rrA
        by_cases g : 48 ≤ byteAt s i
        · rw [decide_eq_true g, decide_eq_false (show ¬ byteAt s i ≤ 57 by omega)]; rfl
        · rw [decide_eq_false g]; rfl
      have hB : rrB s i = false := by
        unfold rrB
        by_cases g : 97 ≤ byteAt s i
        · rw [decide_eq_true g, decide_eq_false (show ¬ byteAt s i ≤ 102 by omega)]; rfl
        · rw [decide_eq_false g]; rfl
      rw [hA, hB, decide_eq_true (show rhI s i < 0 by rw [hI]; exact h3)]
      exact ⟨rfl, rfl, fun _ => rfl⟩
theorem figL_len : ∀ (j : Nat) (w : Int), (figL j w).length = j
  | 0, _ => rfl
  | j + 1, w => by simp only [figL, List.length_append, figL_len j]; rfl
theorem figL_at : ∀ (j i : Nat) (w : Int), 0 ≤ w → i < j → (figL j w).getD i 0 = fg (w / 16 ^ (j - 1 - i) % 16)
  | 0, i, w, _, h => by omega
  | j + 1, i, w, hw, h => by
    simp only [figL]
    by_cases hi : i < j
    · rw [List.getD_eq_getElem?_getD, List.getElem?_append_left (by rw [figL_len]; exact hi), ← List.getD_eq_getElem?_getD, figL_at j i (w / 16) (by omega) hi]
      have e : (16 : Int) * 16 ^ (j - 1 - i) = 16 ^ (j + 1 - 1 - i) := by
        rw [Int.mul_comm, ← Int.pow_succ]
        congr 1
        omega
      rw [Int.ediv_ediv_of_nonneg (by omega), e]
    · have : i = j := by omega
      subst this
      rw [List.getD_eq_getElem?_getD, List.getElem?_append_right (by rw [figL_len]; exact Nat.le_refl _), figL_len]
      simp
theorem strOf_at {zs : List Int} (h : ∀ z ∈ zs, 0 ≤ z ∧ z < 256) {i : Nat} (hi : i < zs.length) : byteAt (strOf zs) i = zs.getD i 0 := by
  unfold byteAt
  rw [strOf_eq]
  simp only [List.getD_eq_getElem?_getD, List.getElem?_map]
  rw [List.getElem?_eq_getElem hi]
  simp only [Option.map_some, Option.getD_some]
  have := h _ (List.getElem_mem hi)
  rw [UInt8.toNat_ofNat']
  omega
theorem figL_r : ∀ (j : Nat) (w : Int), 0 ≤ w → ∀ z ∈ figL j w, 0 ≤ z ∧ z < 256
  | 0, w, _, z, hz => by cases hz
  | j + 1, w, hw, z, hz => by
    simp only [figL, List.mem_append, List.mem_singleton] at hz
    rcases hz with hz | rfl
    · exact figL_r j (w / 16) (by omega) z hz
    · have := (fg_of (d := w % 16) (by omega)).2.2
      omega
theorem back_word {w : Int} (hw : 0 ≤ w ∧ w < 18446744073709551616) : ∀ (j i : Nat), i + j = 16 → rhF (strOf (figL 16 w)) i j (w / 16 ^ j) = (w, 0)
  | 0, i, _ => by simp [rhF]
  | j + 1, i, hi => by
    simp only [rhF]
    have hd : 0 ≤ w / 16 ^ j % 16 ∧ w / 16 ^ j % 16 < 16 := by omega
    have hI : rhI (strOf (figL 16 w)) i = w / 16 ^ j % 16 := by
      have : rhI (strOf (figL 16 w)) i = dg (byteAt (strOf (figL 16 w)) i) := rfl
      rw [this, strOf_at (figL_r 16 w hw.1) (by rw [figL_len]; omega), figL_at 16 i w hw.1 (by omega), show 16 - 1 - i = j by omega]
      exact (fg_of hd).2.1
    have hq : w / 16 ^ (j + 1) = w / 16 ^ j / 16 := by
      rw [Int.pow_succ, Int.ediv_ediv_of_nonneg (by exact_mod_cast Nat.zero_le _)]
    have h0 : 0 ≤ w / 16 ^ j := Int.ediv_nonneg hw.1 (by exact_mod_cast Nat.zero_le _)
    have h1 : w / 16 ^ j ≤ w := Int.ediv_le_self _ hw.1
    rw [hI, decide_eq_false (show ¬ w / 16 ^ j % 16 < 0 by omega), hq, rhW_of (by omega) hd]
    simp only [cond_false]
    rw [show w / 16 ^ j / 16 * 16 + w / 16 ^ j % 16 = w / 16 ^ j by omega]
    exact back_word hw j (i + 1) (by omega)
theorem hxF_eq : ∀ (j : Nat) (w : Int) (s : ByteArray), (0 ≤ w ∧ w < 18446744073709551616) → hxF j w s = strOf (figL j w) ++ s
  | 0, w, s, _ => by
    simp only [hxF, figL]
    apply ByteArray.ext
    simp [strOf]
  | j + 1, w, s, hw => by
    simp only [hxF, figL]
    have hd : 0 ≤ w % 16 ∧ w % 16 < 16 := by omega
    have e1 : IntKind.u64.wrap (w.tdiv 16) = w / 16 := by rw [Int.tdiv_eq_ediv_of_nonneg hw.1, IntWalk.u64_in _ (by omega)]
    have e2 : hxG (hxK w) w s = strOf [fg (w % 16)] ++ s := by
      unfold hxG hxK
      rw [Int.tmod_eq_emod_of_nonneg hw.1, (fg_of hd).1, catB_eq]
      by_cases c : 9 < w % 16
      · rw [decide_eq_true c]
        simp only [cond_true]
        rw [IntWalk.u64_in (87 + w % 16) (by omega), IntKind.wrap_u8, Int.emod_eq_of_lt (by omega) (by omega)]
      · rw [decide_eq_false c]
        simp only [cond_false]
        rw [IntWalk.u64_in (48 + w % 16) (by omega), IntKind.wrap_u8, Int.emod_eq_of_lt (by omega) (by omega)]
    rw [e1, e2, hxF_eq j (w / 16) _ (by omega), ← strOf_app, ByteArray.append_assoc]
end Go.Proofs.Ytpmcflidggofkaa
