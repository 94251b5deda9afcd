/-
  What the program's functions hand back.
-/
import Derived.Laws.Bits64
import Derived.WideShapes
import Derived.Lib.IndexLaws
import Derived.Lib.IndexBytes
import Derived.Lib.SplitLaws
import Derived.Lib.CutLaws
import Derived.Test.YtpmcflidggofkaaDoorProg
import Derived.Test.YtpmcflidggofkaaDoorCards
import Derived.Test.YtpmcflidggofkaaDoorTie
import Derived.SevenTiedAt
import Derived.HandedShaped
import Derived.Shelf.Vars
import Derived.Lay
import Derived.Test.YtpmcflidggofkaaDoorGrLd
namespace Go.Proofs.YtpmcflidggofkaaDoor
open Go Go.RowKit
theorem decL_more : ∀ (f a : Nat) (acc : List Int), 0 < f → a < 10 ^ f → decL (f + 1) a acc = decL f a acc := by
  intro f
  induction f with
  | zero => intro a acc h; omega
  | succ f ih =>
    intro a acc _ ha
    by_cases h9 : a < 10
    · have e : Nat.blt a 10 = true := by simp [Nat.blt_eq]; omega
      conv => lhs; unfold decL
      conv => rhs; unfold decL
      rw [e]; rfl
    · have e : Nat.blt a 10 = false := by cases hb : Nat.blt a 10 with | false => rfl | true => simp [Nat.blt_eq] at hb; omega
      have hp : 10 ^ (f + 1) = 10 ^ f * 10 := Nat.pow_succ ..
      have hf : 0 < f := by
        cases f with
        | zero => simp at ha; omega
        | succ f => omega
      conv => lhs; unfold decL
      conv => rhs; unfold decL
      rw [e]
      simp only [cond_false]
      exact ih (a / 10) _ hf (by omega)
theorem text03 (n : Int) (h : -9223372036854775808 ≤ n) (h' : n ≤ 9223372036854775807) : haymowref03_Text_0 n = decText n ∧ c_haymowref03_Text n = true := by
  have hlen : ∀ f a : Nat, f ≤ 20 → Nat.ble (1 + lenB (strOf (decL f a []))) 9223372036854775807 = true := fun f a hf => by
    have := decL_len f a []
    rw [lenB_eq, strOf_size]
    simp at this
    exact Nat.ble_eq_true_of_le (by omega)
  unfold haymowref03_Text_0 c_haymowref03_Text decText wholeT
  by_cases c : n < 0
  · rw [decide_eq_true c, IntKind.wrap_u64 n, IntKind.wrap_u64 (0 - n % 18446744073709551616)]
    have e : ((0 - n % 18446744073709551616) % 18446744073709551616).toNat = n.natAbs := by omega
    rw [e, decL_more 19 n.natAbs [] (by omega) (by omega), decide_eq_true (show 0 ≤ (0 - n % 18446744073709551616) % 18446744073709551616 by omega), decide_eq_true (show (0 - n % 18446744073709551616) % 18446744073709551616 ≤ 18446744073709551615 by omega), hlen 19 n.natAbs (by omega), catB_eq]
    exact ⟨rfl, rfl⟩
  · rw [decide_eq_false c, IntKind.wrap_u64 n]
    have e : (n % 18446744073709551616).toNat = n.natAbs := by omega
    rw [e, decL_more 19 n.natAbs [] (by omega) (by omega), decide_eq_true (show 0 ≤ n % 18446744073709551616 by omega), decide_eq_true (show n % 18446744073709551616 ≤ 18446744073709551615 by omega)]
    exact ⟨rfl, rfl⟩
/-- The number of digits, some read already. -/
def valN (d : ByteArray) : Nat → Nat → Int → Int
  | _, 0, a => a
  | i, j + 1, a => valN d (i + 1) j (a * 10 + (byteAt d i - 48))
theorem bad_of {d : ByteArray} {i : Nat} (h : badB d i = false) : 48 ≤ byteAt d i ∧ byteAt d i ≤ 57 := by
  unfold badB at h
  by_cases a : byteAt d i < 48
  · rw [decide_eq_true a] at h; cases h
  · by_cases b : 57 < byteAt d i
    · rw [decide_eq_false a, decide_eq_true b] at h; cases h
    · omega
theorem digs_step {d : ByteArray} {i j : Nat} (h : digs d i (j + 1) = true) : (48 ≤ byteAt d i ∧ byteAt d i ≤ 57) ∧ digs d (i + 1) j = true := by
  unfold digs at h
  cases hb : badB d i with
  | true => rw [hb] at h; cases h
  | false => rw [hb] at h; exact ⟨bad_of hb, h⟩
theorem ten_pos (j : Nat) : (1 : Int) ≤ 10 ^ j := by
  have := Nat.pow_pos (n := j) (show 0 < 10 by omega)
  have h : ((10 ^ j : Nat) : Int) = (10 : Int) ^ j := by simp
  omega
theorem val_bd (d : ByteArray) : ∀ (j i : Nat) (a : Int), digs d i j = true → 0 ≤ a → a * 10 ^ j ≤ valN d i j a ∧ valN d i j a < (a + 1) * 10 ^ j
  | 0, i, a, _, h => by unfold valN; simp; omega
  | j + 1, i, a, hg, h => by
    obtain ⟨⟨b1, b2⟩, hg'⟩ := digs_step hg
    obtain ⟨g1, g2⟩ := val_bd d j (i + 1) (a * 10 + (byteAt d i - 48)) hg' (by omega)
    unfold valN
    obtain ⟨x, hx⟩ : ∃ x, x = byteAt d i - 48 := ⟨_, rfl⟩
    rw [← hx] at g1 g2 ⊢
    have hp := ten_pos j
    rw [Int.pow_succ]
    generalize (10 : Int) ^ j = P at *
    have e1 : a * (P * 10) = a * P * 10 := by rw [Int.mul_assoc]
    have e2 : (a + 1) * (P * 10) = a * P * 10 + P * 10 := by rw [Int.add_mul, Int.one_mul, Int.mul_assoc]
    have e3 : (a * 10 + x) * P = a * P * 10 + x * P := by rw [Int.add_mul, Int.mul_right_comm]
    have e4 : (a * 10 + x + 1) * P = a * P * 10 + x * P + P := by rw [Int.add_mul, e3, Int.one_mul]
    have h1 : 0 ≤ x * P := Int.mul_nonneg (by omega) (by omega)
    have h2 : x * P ≤ 9 * P := Int.mul_le_mul_of_nonneg_right (by omega) (by omega)
    rw [e1, e2]
    rw [e3] at g1
    rw [e4] at g2
    omega
theorem val_ge {d : ByteArray} {j i : Nat} {a : Int} (hg : digs d i j = true) (h : 0 ≤ a) : a ≤ valN d i j a := by
  have h1 := (val_bd d j i a hg h).1
  have h2 : a * 1 ≤ a * 10 ^ j := Int.mul_le_mul_of_nonneg_left (ten_pos j) h
  omega
theorem dg_eq {z : Int} (h : 48 ≤ z ∧ z ≤ 57) : dgA z = z - 48 := by
  unfold dgA
  rw [wk8 _ (by omega) (by omega), wk _ (by omega) (by omega)]
theorem over_eq {a z : Int} (h : 48 ≤ z ∧ z ≤ 57) : over (-a) z = decide (9223372036854775808 < a * 10 + (z - 48)) := by
  unfold over
  rw [dg_eq h, wk (-9223372036854775808 + (z - 48)) (by omega) (by omega)]
  have e : (-9223372036854775808 + (z - 48)).tdiv 10 = -((9223372036854775808 - (z - 48)) / 10) := by
    rw [show -9223372036854775808 + (z - 48) = -(9223372036854775808 - (z - 48)) by omega, Int.neg_tdiv, Int.tdiv_eq_ediv_of_nonneg (by omega)]
  rw [e, wk _ (by omega) (by omega)]
  by_cases c : 9223372036854775808 < a * 10 + (z - 48)
  · rw [decide_eq_true c, decide_eq_true (by omega)]
  · rw [decide_eq_false c, decide_eq_false (by omega)]
theorem rdF_eq (d : ByteArray) : ∀ (j i : Nat) (a : Int), digs d i j = true → 0 ≤ a → a ≤ 9223372036854775808 → rdF (bytesOf d) i j (-a) = bif decide (valN d i j a ≤ 9223372036854775808) then some (-(valN d i j a)) else none
  | 0, i, a, _, h0, h1 => by unfold rdF valN; rw [decide_eq_true h1]; rfl
  | j + 1, i, a, hg, h0, h1 => by
    obtain ⟨hb, hg'⟩ := digs_step hg
    unfold rdF valN
    rw [bytes_at, over_eq hb]
    by_cases c : 9223372036854775808 < a * 10 + (byteAt d i - 48)
    · have := val_ge hg' (show 0 ≤ a * 10 + (byteAt d i - 48) by omega)
      rw [decide_eq_true c, decide_eq_false (by omega)]
      rfl
    · rw [decide_eq_false c]
      have e : next10 (-a) (byteAt d i) = -(a * 10 + (byteAt d i - 48)) := by
        unfold next10
        rw [dg_eq hb, wk (-a * 10) (by omega) (by omega), wk _ (by omega) (by omega)]
        omega
      rw [e]
      exact rdF_eq d j (i + 1) _ hg' (by omega) (by omega)
theorem numU_eq (d : ByteArray) : ∀ (j i : Nat) (u : Int), digs d i j = true → 0 ≤ u → valN d i j u < 18446744073709551616 → numU d i j u = valN d i j u
  | 0, i, u, _, _, _ => rfl
  | j + 1, i, u, hg, h0, hv => by
    obtain ⟨hb, hg'⟩ := digs_step hg
    unfold valN at hv
    have := val_ge hg' (show 0 ≤ u * 10 + (byteAt d i - 48) by omega)
    unfold numU valN
    have e : nextU u (byteAt d i) = u * 10 + (byteAt d i - 48) := by
      unfold nextU
      simp only [IntKind.wrap_u64]
      omega
    rw [e]
    exact numU_eq d j (i + 1) _ hg' (by omega) hv
theorem same_size (s : ByteArray) : (Int.ofNat (unS s).size == Int.ofNat s.size) = !mnR s := by
  obtain ⟨h1, h2⟩ := unS_size s
  cases h : mnR s with
  | true =>
    have := h1 h
    rw [show (Int.ofNat (unS s).size == Int.ofNat s.size) = false by simp; omega]
    rfl
  | false =>
    have := h2 h
    rw [this]
    simp
theorem read_eq (s : ByteArray) : rdV s = rfW s := by
  unfold rdV rfW
  cases hH : rfH s (unS s) with
  | true => rfl
  | false =>
    simp only [cond_false]
    cases hD : digs (unS s) 0 (unS s).size with
    | false => rfl
    | true =>
      unfold rfV
      simp only [cond_true]
      have hF := rdF_eq (unS s) (unS s).size 0 0 hD (Int.le_refl 0) (by omega)
      rw [Int.neg_zero] at hF
      rw [hF]
      have hbd := val_bd (unS s) (unS s).size 0 0 hD (Int.le_refl 0)
      by_cases h19 : 19 < (unS s).size
      · rw [decide_eq_true (show (19 : Int) < Int.ofNat (unS s).size by simp; omega)]
        have hbig : 9223372036854775808 < valN (unS s) 0 (unS s).size 0 := by
          obtain ⟨m, hm⟩ : ∃ m, (unS s).size = m + 1 := ⟨(unS s).size - 1, by omega⟩
          rw [hm] at hD ⊢
          obtain ⟨hb, hg'⟩ := digs_step hD
          have h48 : byteAt (unS s) 0 ≠ 48 := by
            intro e
            unfold rfH at hH
            have hle := unS_le s
            rw [len_iff, decide_eq_false (show ¬ (unS s).size = 0 by omega), e, decide_eq_true (show (1 : Int) < Int.ofNat s.size by simp; omega)] at hH
            cases hH
          unfold valN
          have h1 := (val_bd (unS s) m (0 + 1) (0 * 10 + (byteAt (unS s) 0 - 48)) hg' (by omega)).1
          have h2 : (1 : Int) * 10 ^ m ≤ (0 * 10 + (byteAt (unS s) 0 - 48)) * 10 ^ m := Int.mul_le_mul_of_nonneg_right (by omega) (by have := ten_pos m; omega)
          have h3 : (10 : Int) ^ 19 ≤ 10 ^ m := by
            have := Nat.pow_le_pow_right (show 0 < 10 by omega) (show 19 ≤ m by omega)
            have e1 : ((10 ^ 19 : Nat) : Int) = (10 : Int) ^ 19 := by simp
            have e2 : ((10 ^ m : Nat) : Int) = (10 : Int) ^ m := by simp
            omega
          omega
        rw [decide_eq_false (by omega)]
        rfl
      · rw [decide_eq_false (show ¬ (19 : Int) < Int.ofNat (unS s).size by simp; omega)]
        have hlt : valN (unS s) 0 (unS s).size 0 < 10000000000000000000 := by
          have := Nat.pow_le_pow_right (show 0 < 10 by omega) (show (unS s).size ≤ 19 by omega)
          have e2 : ((10 ^ (unS s).size : Nat) : Int) = (10 : Int) ^ (unS s).size := by simp
          have := hbd.2
          omega
        have hnn := val_ge hD (Int.le_refl 0)
        rw [numU_eq (unS s) (unS s).size 0 0 hD (Int.le_refl 0) (by omega)]
        unfold outU
        rw [same_size]
        generalize valN (unS s) 0 (unS s).size 0 = v at *
        simp only [cond_false]
        cases mnR s with
        | true =>
          simp only [Bool.not_true, cond_false]
          by_cases c : v ≤ 9223372036854775808
          · rw [decide_eq_true c, decide_eq_false (show ¬ 9223372036854775808 < v by omega)]
            simp only [cond_true, cond_false, drOut]
            have e : IntKind.i64.wrap (IntKind.u64.wrap (0 - v)) = -v := by
              rw [IntKind.wrap_u64]
              unfold IntKind.wrap
              simp [IntKind.bits, IntKind.signed]
              omega
            rw [e]
          · rw [decide_eq_false c, decide_eq_true (show 9223372036854775808 < v by omega)]; rfl
        | false =>
          simp only [Bool.not_false, cond_true]
          by_cases c : v ≤ 9223372036854775808
          · rw [decide_eq_true c]
            simp only [cond_true, drOut, cond_false]
            by_cases c2 : v = 9223372036854775808
            · subst c2; rfl
            · rw [show (-v == -9223372036854775808) = false by simp; omega, decide_eq_false (show ¬ 9223372036854775807 < v by omega), wk (0 - -v) (by omega) (by omega), wk v (by omega) (by omega)]
              simp
          · rw [decide_eq_false c, decide_eq_true (show 9223372036854775807 < v by omega)]; rfl
end Go.Proofs.YtpmcflidggofkaaDoor

namespace Go.Proofs.YtpmcflidggofkaaDoor
open Go Go.RowKit
def valL : List Int → Int → Int
  | [], a => a
  | z :: r, a => valL r (a * 10 + (z - 48))
theorem decL_val : ∀ (f a : Nat) (acc : List Int), 0 < f → a < 10 ^ f → valL (decL f a acc) 0 = valL acc a := by
  intro f
  induction f with
  | zero => intro a acc h; omega
  | succ f ih =>
    intro a acc _ ha
    unfold decL
    by_cases h9 : a < 10
    · rw [show Nat.blt a 10 = true by simp [Nat.blt_eq]; omega]
      simp only [cond_true, valL]
      congr 1
      omega
    · rw [show Nat.blt a 10 = false by cases hb : Nat.blt a 10 with | false => rfl | true => simp [Nat.blt_eq] at hb; omega]
      have hp : 10 ^ (f + 1) = 10 ^ f * 10 := Nat.pow_succ ..
      have hf : 0 < f := by
        cases f with
        | zero => simp at ha; omega
        | succ f => omega
      simp only [cond_false]
      rw [ih (a / 10) _ hf (by omega)]
      simp only [valL]
      congr 1
      omega
def dgts (l : List Int) : Prop := ∀ z ∈ l, 48 ≤ z ∧ z ≤ 57
theorem decL_dg : ∀ (f a : Nat) (acc : List Int), dgts acc → dgts (decL f a acc)
  | 0, a, acc, h => h
  | f + 1, a, acc, h => by
    have hx : dgts (((48 + a % 10 : Nat) : Int) :: acc) := fun z hz => by
      rcases List.mem_cons.1 hz with rfl | hz
      · omega
      · exact h z hz
    unfold decL
    cases Nat.blt a 10 with
    | true => exact hx
    | false => exact decL_dg f (a / 10) _ hx
theorem decL_head : ∀ (f a : Nat) (acc : List Int), 0 < f → a < 10 ^ f → ∃ h r, decL f a acc = h :: r ∧ (0 < a → h ≠ 48) ∧ (a = 0 → r = acc) := by
  intro f
  induction f with
  | zero => intro a acc h; omega
  | succ f ih =>
    intro a acc _ ha
    unfold decL
    by_cases h9 : a < 10
    · rw [show Nat.blt a 10 = true by simp [Nat.blt_eq]; omega]
      exact ⟨_, _, rfl, by omega, fun _ => rfl⟩
    · rw [show Nat.blt a 10 = false by cases hb : Nat.blt a 10 with | false => rfl | true => simp [Nat.blt_eq] at hb; omega]
      have hp : 10 ^ (f + 1) = 10 ^ f * 10 := Nat.pow_succ ..
      have hf : 0 < f := by
        cases f with
        | zero => simp at ha; omega
        | succ f => omega
      simp only [cond_false]
      obtain ⟨h, r, e, h1, h2⟩ := ih (a / 10) (((48 + a % 10 : Nat) : Int) :: acc) hf (by omega)
      exact ⟨h, r, e, fun _ => h1 (by omega), by omega⟩
theorem str_list (l : List Int) : (strOf l).data.toList = l.map fun n => UInt8.ofNat n.toNat := by rw [strOf_eq]
theorem str_at {l : List Int} (h : ∀ z ∈ l, 0 ≤ z ∧ z ≤ 255) (i : Nat) : byteAt (strOf l) i = l.getD i 0 := by
  rw [byte_list, str_list, List.getD_eq_getElem?_getD, List.getElem?_map, List.getD_eq_getElem?_getD]
  cases hi : l[i]? with
  | none => rfl
  | some z =>
    have := h z (List.mem_of_getElem? hi)
    simp
    omega
theorem dg_str {l : List Int} (h : dgts l) (i : Nat) : byteAt (strOf l) i = l.getD i 0 := str_at (fun z hz => by have := h z hz; omega) i
theorem digs_str {l : List Int} (h : dgts l) : ∀ (j i : Nat), i + j = l.length → digs (strOf l) i j = true
  | 0, i, _ => rfl
  | j + 1, i, hi => by
    unfold digs badB
    have hz := h (l.getD i 0) (by rw [List.getD_eq_getElem?_getD, List.getElem?_eq_getElem (by omega)]; simp)
    rw [dg_str h, decide_eq_false (show ¬ l.getD i 0 < 48 by omega), decide_eq_false (show ¬ 57 < l.getD i 0 by omega)]
    exact digs_str h j (i + 1) (by omega)
theorem val_str {l : List Int} (h : dgts l) : ∀ (j i : Nat) (a : Int), i + j = l.length → valN (strOf l) i j a = valL (l.drop i) a
  | 0, i, a, hi => by rw [List.drop_of_length_le (by omega)]; rfl
  | j + 1, i, a, hi => by
    unfold valN
    rw [val_str h j (i + 1) _ (by omega), dg_str h, List.drop_eq_getElem_cons (show i < l.length by omega)]
    simp only [valL]
    rw [List.getD_eq_getElem?_getD, List.getElem?_eq_getElem (show i < l.length by omega)]
    rfl
theorem back (n : Int) (h : -9223372036854775808 ≤ n) (h' : n ≤ 9223372036854775807) : rdV (decText n) = (n, 0) := by
  obtain ⟨x, r, e, e1, e2⟩ := decL_head 19 n.natAbs [] (by omega) (by omega)
  have hdg := decL_dg 19 n.natAbs [] (fun z hz => by simp at hz)
  have hv := decL_val 19 n.natAbs [] (by omega) (by omega)
  have hsz : (strOf (decL 19 n.natAbs [])).size = (decL 19 n.natAbs []).length := strOf_size _
  have hx : 48 ≤ x ∧ x ≤ 57 := hdg x (by rw [e]; simp)
  have key : ∀ s : ByteArray, unS s = strOf (decL 19 n.natAbs []) → (n.natAbs = 0 → s.size ≤ 1) → rdV s = drOut (mnR s) (some (-(n.natAbs : Int))) := fun s hu h1 => by
    unfold rdV
    rw [hu]
    have hH : rfH s (strOf (decL 19 n.natAbs [])) = false := by
      unfold rfH
      rw [len_iff, hsz, dg_str hdg, e]
      rw [decide_eq_false (show ¬ (x :: r).length = 0 by simp)]
      simp only [cond_false, List.getD_cons_zero]
      by_cases c : n.natAbs = 0
      · rw [decide_eq_false (show ¬ (1 : Int) < Int.ofNat s.size by have := h1 c; simp; omega)]
        cases (x == 48) <;> rfl
      · rw [show (x == 48) = false by have := e1 (by omega); simpa using this]
        rfl
    rw [hH, hsz, digs_str hdg _ _ (by omega)]
    have hF := rdF_eq (strOf (decL 19 n.natAbs [])) (decL 19 n.natAbs []).length 0 0 (digs_str hdg _ _ (by omega)) (Int.le_refl 0) (by omega)
    rw [Int.neg_zero, val_str hdg _ _ _ (by omega), List.drop_zero, hv] at hF
    rw [hF, decide_eq_true (show valL [] (n.natAbs : Int) ≤ 9223372036854775808 by simp only [valL]; omega)]
    rfl
  unfold decText
  by_cases c : n < 0
  · rw [decide_eq_true c]
    simp only [cond_true]
    have ht : (⟨#[45]⟩ : ByteArray) ++ strOf (decL 19 n.natAbs []) = strOf (45 :: decL 19 n.natAbs []) := by
      rw [← strOf_cons]
      rfl
    rw [ht]
    have hall : ∀ z ∈ (45 :: decL 19 n.natAbs [] : List Int), 0 ≤ z ∧ z ≤ 255 := fun z hz => by
      rcases List.mem_cons.1 hz with rfl | hz
      · omega
      · have := hdg z hz; omega
    have hm : mnR (strOf (45 :: decL 19 n.natAbs [])) = true := by
      unfold mnR
      rw [str_at hall, strOf_size, decide_eq_true (by simp <;> omega)]
      rfl
    have hu : unS (strOf (45 :: decL 19 n.natAbs [])) = strOf (decL 19 n.natAbs []) := by
      unfold unS
      rw [hm]
      simp only [cond_true]
      refine WideShapes.bytes_inj ?_
      rw [ext_list, str_list, str_list]
      rfl
    rw [key _ hu (by omega), hm]
    simp only [drOut, cond_true]
    rw [show -(n.natAbs : Int) = n by omega]
  · rw [decide_eq_false c]
    simp only [cond_false]
    have hm : mnR (strOf (decL 19 n.natAbs [])) = false := by
      unfold mnR
      rw [dg_str hdg, hsz, e]
      rw [decide_eq_true (by simp <;> omega)]
      simp only [cond_true, List.getD_cons_zero]
      rw [show (x == 45) = false by simp; omega]
    have hu : unS (strOf (decL 19 n.natAbs [])) = strOf (decL 19 n.natAbs []) := by
      unfold unS
      rw [hm]
      rfl
    rw [key _ hu (fun h0 => by rw [hsz, e, e2 h0]; simp), hm]
    simp only [drOut, cond_false]
    rw [show (-(n.natAbs : Int) == -9223372036854775808) = false by simp; omega, wk _ (by omega) (by omega)]
    simp only [cond_false]
    rw [show 0 - -(n.natAbs : Int) = n by omega]
end Go.Proofs.YtpmcflidggofkaaDoor

namespace Go.Proofs.YtpmcflidggofkaaDoor
open Go Go.RowKit
set_option maxRecDepth 100000
theorem rf1_eq (s : ByteArray) : rf1 s = rd1 s := by unfold rf1 rd1; rw [read_eq]
theorem rf0_eq (s : ByteArray) : rf0 s = rd0 s := by unfold rf0 rd0; rw [read_eq]
abbrev L_rr : List (FuncId × Spec) := [(51, e_cut), (52, e_rfr)]
theorem hE_rr : ESound Tryd.prog (envOf L_rr) := env_cons ok_cut (env_cons ok_rfr env_nil)
abbrev rrC : List Cut := [(0, [4, 5, 6], [0, 1, 3], 4), (1, [4, 5, 6], [0, 1, 3], 4), (2, [4, 5, 6], [0, 1, 3], 4), (3, [4, 5, 6], [0, 1, 3], 4)]
abbrev rrT (o : AV) (n : Nat) (i : Int) : List AV := [.unk, .unk, .unk, .unk, o, .sl false 0 1 0 1 n none, vi i, .unk, .unk, .unk, .unk, .unk, .unk, .unk, .unk, .unk, .unk, .unk, .unk, .unk, .unk, .unk, .unk, .unk, .unk, .unk, .unk, .unk, .unk, .unk, .unk, .unk, .unk, .unk, .unk, .unk]
abbrev rsB (ss : List ByteArray) : Option ABlk := some ⟨false, false, .col (.strs ss)⟩
theorem rr_begin (s : ByteArray) : F_ Tryd.prog L_rr Tryd.f14 rrC [] 99 [vs s] noMem =
    bif Int.ofNat s.size == 0 then some (.ret (.tup [nilV, vi 0]) ⟨[], 99⟩ true)
    else some (.head (hd Tryd.f14 0) (rrT nilV (cutV s 32).length 0) ⟨[(0, rsB (cutV s 32)), (1, none), (3, none)], 4⟩ (conj [Nat.ble s.size 4294967296])) := by kernel_rfl
theorem rr_round0 (ss : List ByteArray) (n : Nat) (i : Int) : H_ Tryd.prog L_rr Tryd.f14 rrC [1] 99 (hd Tryd.f14 0) (rrT nilV n i) ⟨[(0, rsB ss)], 2⟩ =
    bif decide (i < (n : Int)) then bif rf1 (stI ss i) != 0 then some (.ret (.tup [nilV, vi (rf1 (stI ss i))]) ⟨[(1, none)], 99⟩ (conj (rlO ss n i)))
      else some (.head (hd Tryd.f14 0) (rrT (.sl true 3 1 0 1 1 none) n (IntKind.i64.wrap (i + 1))) ⟨[(0, rsB ss), (1, none), (3, zsB [rf0 (stI ss i)])], 4⟩ (conj (rlO ss n i)))
    else some (.ret (.tup [nilV, vi 0]) ⟨[(1, none)], 99⟩ true) := by kernel_rfl
theorem rr_round1 (ss : List ByteArray) (zs : List Int) (n p : Nat) (i : Int) : H_ Tryd.prog L_rr Tryd.f14 rrC [1] 99 (hd Tryd.f14 0) (rrT (.sl true 1 1 0 1 p none) n i) ⟨[(0, rsB ss), (1, zsB zs)], 2⟩ =
    bif decide (i < (n : Int)) then bif rf1 (stI ss i) != 0 then some (.ret (.tup [nilV, vi (rf1 (stI ss i))]) ⟨[(1, zsB zs)], 99⟩ (conj (rlO ss n i)))
      else some (.head (hd Tryd.f14 0) (rrT (.sl true 3 1 0 1 (p + 1) none) n (IntKind.i64.wrap (i + 1))) ⟨[(0, rsB ss), (1, none), (3, zsB (zs.take p ++ [rf0 (stI ss i)]))], 4⟩ (conj (rlO ss n i ++ [decide (0 < p), decide ((p + 1) * 8 ≤ 140737488355328), decide (p ≤ zs.length)])))
    else some (.ret (.tup [.sl true 1 1 0 1 p none, vi 0]) ⟨[(1, zsB zs)], 99⟩ true) := by kernel_rfl
def rrOut (g : Func) (s : St) (r : List Int × Int) (B : Nat) : Prop :=
  (r.1 = [] ∧ ∃ m', Gives_ Tryd.prog g B s (.tup [nilV, vi r.2]) m') ∨ (r.1 ≠ [] ∧ Gives_ Tryd.prog g B s (.tup [.sl true 1 1 0 1 r.1.length none, vi r.2]) ⟨[(1, zsB r.1)], 99⟩)
theorem rr_loop1 (ss : List ByteArray) (n : Nat) (hn : n ≤ ss.length) (hn2 : n ≤ 4294967297) (hs : ∀ j, (ss.getD j ⟨#[]⟩).size ≤ 9223372036854775807) : ∀ (j i : Nat) (z : Int) (zs : List Int), i + j = n → (z :: zs).length = i →
    rrOut Tryd.f14 ⟨hd Tryd.f14 0, rrT (.sl true 1 1 0 1 (z :: zs).length none) n i, ⟨[(0, rsB ss), (1, zsB (z :: zs))], 2⟩⟩ (rlF ss i j (z :: zs)) 0
  | 0, i, z, zs, hi, hl => by
    have h := rr_round1 ss (z :: zs) n (z :: zs).length i
    rw [decide_eq_false (show ¬ (i : Int) < n by omega), cond_false] at h
    exact .inr ⟨by simp [rlF], H_ret hE_rr mixedD rfl h⟩
  | j + 1, i, z, zs, hi, hl => by
    have h := rr_round1 ss (z :: zs) n (z :: zs).length i
    have hw : IntKind.i64.wrap ((i : Int) + 1) = ((i + 1 : Nat) : Int) := by rw [IntWalk.i64_in _ (by omega)]; rfl
    have ho := rlO_ok (show i < n by omega) hn hs []
    rw [List.append_nil] at ho
    have hc : conj [decide (0 < (z :: zs).length), decide (((z :: zs).length + 1) * 8 ≤ 140737488355328), decide ((z :: zs).length ≤ (z :: zs).length)] = true := by
      rw [hl]
      have h0 : 0 < i := by rw [← hl]; simp
      simp only [conj, Bool.and_eq_true, decide_eq_true_eq]
      exact ⟨h0, by omega, Nat.le_refl _, trivial⟩
    rw [decide_eq_true (show (i : Int) < n by omega), cond_true, hw, ho, rlO_ok (show i < n by omega) hn hs, hc, List.take_length] at h
    simp only [stI, smJ_eq, rf1_eq, rf0_eq] at h
    simp only [rlF]
    cases hb : (rd1 (ss.getD i ⟨#[]⟩) != 0) with
    | true => rw [hb] at h; exact .inl ⟨rfl, _, H_ret hE_rr mixedD rfl h⟩
    | false =>
      rw [hb, cond_false] at h
      have g := H_head (f := Tryd.f14) (B := 0) hE_rr mixedD rfl h
      have r := Goes.ren (P := Tryd.prog) (B := 0) (σ := [(0, 0), (1, 3)]) (nx := 2) (s := ⟨hd Tryd.f14 0, rrT (.sl true 3 1 0 1 ((z :: zs).length + 1) none) n ((i + 1 : Nat) : Int), ⟨[(0, rsB ss), (1, none), (3, zsB ((z :: zs) ++ [rd0 (ss.getD i ⟨#[]⟩)]))], 4⟩⟩) rfl
      have IH := rr_loop1 ss n hn hn2 hs j (i + 1) z (zs ++ [rd0 (ss.getD i ⟨#[]⟩)]) (by omega) (by rw [← hl]; simp)
      have e : (z :: (zs ++ [rd0 (ss.getD i ⟨#[]⟩)])).length = (z :: zs).length + 1 := by simp
      rw [e] at IH
      rcases IH with ⟨h1, m', h2⟩ | ⟨h1, h2⟩
      · exact .inl ⟨h1, m', Goes.gives (Goes.trans g r) h2⟩
      · exact .inr ⟨h1, Goes.gives (Goes.trans g r) h2⟩
theorem rr_loop0 (ss : List ByteArray) (n : Nat) (h0 : 0 < n) (hn : n ≤ ss.length) (hn2 : n ≤ 4294967297) (hs : ∀ j, (ss.getD j ⟨#[]⟩).size ≤ 9223372036854775807) :
    rrOut Tryd.f14 ⟨hd Tryd.f14 0, rrT nilV n 0, ⟨[(0, rsB ss)], 2⟩⟩ (rlF ss 0 n []) 0 := by
  have h := rr_round0 ss n ((0 : Nat) : Int)
  have hw : IntKind.i64.wrap (((0 : Nat) : Int) + 1) = ((1 : Nat) : Int) := by decide
  have ho := rlO_ok (i := 0) h0 hn hs []
  rw [List.append_nil] at ho
  rw [decide_eq_true (show ((0 : Nat) : Int) < n by omega), cond_true, hw, ho] at h
  simp only [stI, smJ_eq, rf1_eq, rf0_eq] at h
  obtain ⟨k, rfl⟩ : ∃ k, n = k + 1 := ⟨n - 1, by omega⟩
  simp only [rlF]
  cases hb : (rd1 (ss.getD 0 ⟨#[]⟩) != 0) with
  | true => rw [hb] at h; exact .inl ⟨rfl, _, H_ret hE_rr mixedD rfl h⟩
  | false =>
    rw [hb, cond_false] at h
    have g := H_head (f := Tryd.f14) (B := 0) hE_rr mixedD rfl h
    have r := Goes.ren (P := Tryd.prog) (B := 0) (σ := [(0, 0), (1, 3)]) (nx := 2) (s := ⟨hd Tryd.f14 0, rrT (.sl true 3 1 0 1 1 none) (k + 1) ((1 : Nat) : Int), ⟨[(0, rsB ss), (1, none), (3, zsB [rd0 (ss.getD 0 ⟨#[]⟩)])], 4⟩⟩) rfl
    rcases rr_loop1 ss (k + 1) hn hn2 hs k 1 (rd0 (ss.getD 0 ⟨#[]⟩)) [] (by omega) rfl with ⟨h1, m', h2⟩ | ⟨h1, h2⟩
    · exact .inl ⟨h1, m', Goes.gives (Goes.trans g r) h2⟩
    · exact .inr ⟨h1, Goes.gives (Goes.trans g r) h2⟩
theorem cutF_len (s : ByteArray) (c : Int) : ∀ (k i j : Nat) (ss : List ByteArray), (cutF s c i k j ss).length ≤ ss.length + k + 1
  | 0, i, j, ss => by simp [cutF]
  | k + 1, i, j, ss => by
    simp only [cutF]
    cases byteAt s i == c with
    | true => have := cutF_len s c k (i + 1) (i + 1) (ss ++ [s.extract j i]); simp at this ⊢; omega
    | false => have := cutF_len s c k (i + 1) j ss; simp at this ⊢; omega
theorem cutF_size (s : ByteArray) (c : Int) : ∀ (k i j : Nat) (ss : List ByteArray), (∀ x ∈ ss, x.size ≤ s.size) → ∀ x ∈ cutF s c i k j ss, x.size ≤ s.size
  | 0, i, j, ss, h, x, hx => by
    simp only [cutF, List.mem_append, List.mem_singleton] at hx
    rcases hx with hx | rfl
    · exact h x hx
    · rw [ByteArray.size_extract]; omega
  | k + 1, i, j, ss, h, x, hx => by
    simp only [cutF] at hx
    cases hb : byteAt s i == c with
    | true =>
      rw [hb] at hx
      refine cutF_size s c k _ _ _ (fun y hy => ?_) x hx
      simp only [List.mem_append, List.mem_singleton] at hy
      rcases hy with hy | rfl
      · exact h y hy
      · rw [ByteArray.size_extract]; omega
    | false => rw [hb] at hx; exact cutF_size s c k _ _ _ h x hx
def rrV (s : ByteArray) : List Int × Int := bif Int.ofNat s.size == 0 then ([], 0) else rlF (cutV s 32) 0 (cutV s 32).length []
theorem rr_all (s : ByteArray) (hs : s.size ≤ 4294967296) : rrOut Tryd.f14 (enterA Tryd.f14 (bodyOf Tryd.f14) [vs s] noMem) (rrV s) 0 := by
  have h := rr_begin s
  have hb : conj [Nat.ble s.size 4294967296] = true := by
    simp only [conj, Bool.and_true]
    exact Nat.ble_eq_true_of_le hs
  rw [hb] at h
  unfold rrV
  cases he : (Int.ofNat s.size == 0) with
  | true => rw [he] at h; exact .inl ⟨rfl, _, F_ret hE_rr mixedD rfl rfl h⟩
  | false =>
    rw [he, cond_false] at h
    have g := F_head (f := Tryd.f14) (c := bodyOf Tryd.f14) hE_rr mixedD rfl rfl h
    have r := Goes.ren (P := Tryd.prog) (B := 0) (σ := [(0, 0)]) (nx := 2) (s := ⟨hd Tryd.f14 0, rrT nilV (cutV s 32).length 0, ⟨[(0, rsB (cutV s 32)), (1, none), (3, none)], 4⟩⟩) rfl
    have hl : (cutV s 32).length ≤ s.size + 1 := by
      have := cutF_len s 32 s.size 0 0 []
      rw [List.length_nil, Nat.zero_add] at this
      exact this
    have hne : (cutV s 32) ≠ [] := cut_ne s 32 _ _ _ _
    have hp : 0 < (cutV s 32).length := List.length_pos_iff.2 hne
    rcases rr_loop0 (cutV s 32) (cutV s 32).length hp (Nat.le_refl _) (by omega) (fun j => by
      rw [List.getD_eq_getElem?_getD]
      by_cases hj : j < (cutV s 32).length
      · rw [List.getElem?_eq_getElem hj]
        have := cutF_size s 32 s.size 0 0 [] (fun x hx => by cases hx) _ (List.getElem_mem hj)
        exact Nat.le_trans this (by omega)
      · rw [List.getElem?_eq_none (by omega)]; exact Nat.zero_le _) with ⟨h1, m', h2⟩ | ⟨h1, h2⟩
    · exact .inl ⟨h1, m', Goes.gives (Goes.trans g r) h2⟩
    · exact .inr ⟨h1, Goes.gives (Goes.trans g r) h2⟩
def e_rr : Spec := fun m args => match args with
  | [.val (.string s)] => some (.tup [.sl false m.nx 1 0 1 (rrV s).1.length none, vi (rrV s).2], some ⟨(m.nx, some ⟨false, false, .col (.ints .i64 (rrV s).1)⟩) :: m.bl, m.nx + 1⟩, [Nat.ble s.size 4294967296])
  | _ => none
theorem ok_rr : SpecOk Tryd.prog 14 e_rr := fun m args v mo bs h hb => by
  unfold e_rr at h
  split at h <;> try cases h
  rename_i s
  simp only [List.all_cons, List.all_nil, id, Bool.and_true] at hb
  have hA := rr_all s (Nat.le_of_ble_eq_true hb)
  refine lift_slice (m1 := noMem) (args1 := [vs s]) (rest := [vi (rrV s).2]) rfl rfl rfl rfl (fun ρ w xs hm hx => ⟨fun _ => ⟨0, 0, 0⟩, mrel_none, ?_⟩) ?_
  · simp only [AV.rels, AV.rel] at hx ⊢
    exact hx
  · rcases hA with ⟨h1, m', h2⟩ | ⟨h1, h2⟩
    · refine .inl ⟨by rw [h1]; rfl, fun r c a ha => ?_, m', fsound (c := bodyOf Tryd.f14) (fun xs w => Tryd.call14 xs w) Tryd.func14 rfl h2⟩
      rw [h1] at ha
      cases c <;> simp [Cont.at, Col.at] at ha
    · exact .inr ⟨1, 99, fsound (c := bodyOf Tryd.f14) (fun xs w => Tryd.call14 xs w) Tryd.func14 rfl h2⟩
-- List
abbrev rsC : List Cut := [(0, [0, 3, 4], [0], 1), (1, [0, 3, 4], [0], 1), (2, [0, 3, 4], [0], 1)]
abbrev rsT (nn : Bool) (n : Nat) (c : Option Nat) (s : ByteArray) (i : Int) : List AV := [.sl nn 0 1 0 1 n c, .unk, .unk, vs s, vi i, .unk, .unk, .unk, .unk, .unk, .unk, .unk, .unk, .unk, .unk, .unk, .unk, .unk, .unk, .unk, .unk, .unk, .unk]
theorem rs_begin (nn : Bool) (zs : List Int) (n : Nat) (c : Option Nat) : F_ Tryd.prog L_haymowref03_Text Tryd.f15 rsC [] 99 [.sl nn 0 1 0 1 n c] ⟨[dlA zs], 1⟩ = some (.head (hd Tryd.f15 0) (rsT nn n c ⟨#[]⟩ 0) ⟨[dlA zs], 1⟩ true) := by kernel_rfl
abbrev rsZ (zs : List Int) (i : Int) : ByteArray := haymowref03_Text_0 (zs.getD (smJ i) 0)
theorem rs_round (nn : Bool) (zs : List Int) (n : Nat) (c : Option Nat) (s : ByteArray) (i : Int) : H_ Tryd.prog L_haymowref03_Text Tryd.f15 rsC [] 99 (hd Tryd.f15 0) (rsT nn n c s i) ⟨[dlA zs], 1⟩ =
    bif decide (i < (n : Int)) then bif decide (0 < i) then some (.head (hd Tryd.f15 0) (rsT nn n c (catB (catB s sp1) (rsZ zs i)) (IntKind.i64.wrap (i + 1))) ⟨[dlA zs], 1⟩
        (conj [Nat.ble (lenB s + 1) 9223372036854775807, decide (0 ≤ i), decide (i.toNat < n), decide (smJ i < zs.length), c_haymowref03_Text (zs.getD (smJ i) 0), Nat.ble (lenB (catB s sp1) + lenB (rsZ zs i)) 9223372036854775807]))
      else some (.head (hd Tryd.f15 0) (rsT nn n c (catB s (rsZ zs i)) (IntKind.i64.wrap (i + 1))) ⟨[dlA zs], 1⟩
        (conj [decide (0 ≤ i), decide (i.toNat < n), decide (smJ i < zs.length), c_haymowref03_Text (zs.getD (smJ i) 0), Nat.ble (lenB s + lenB (rsZ zs i)) 9223372036854775807]))
    else some (.ret (vs s) ⟨[], 99⟩ true) := by kernel_rfl
theorem rs_loop (nn : Bool) (zs : List Int) (n : Nat) (c : Option Nat) (hn : n ≤ zs.length) (h32 : n ≤ 4294967296) (hz : inI zs = true) : ∀ (j i : Nat) (s : ByteArray), i + 1 + j = n → lenB s ≤ 21 * (i + 1) →
    Gives_ Tryd.prog Tryd.f15 1 ⟨hd Tryd.f15 0, rsT nn n c s ((i + 1 : Nat) : Int), ⟨[dlA zs], 1⟩⟩ (vs (lsF zs (i + 1) j s)) ⟨[], 99⟩
  | 0, i, s, hi, h1 => by
    have h := rs_round nn zs n c s ((i + 1 : Nat) : Int)
    rw [decide_eq_false (show ¬ ((i + 1 : Nat) : Int) < n by omega), cond_false] at h
    exact H_ret hE_haymowref03_Text mixedD rfl h
  | j + 1, i, s, hi, h1 => by
    have h := rs_round nn zs n c s ((i + 1 : Nat) : Int)
    have hw : IntKind.i64.wrap (((i + 1 : Nat) : Int) + 1) = ((i + 1 + 1 : Nat) : Int) := by rw [IntWalk.i64_in _ (by omega)]; rfl
    obtain ⟨z1, z2⟩ := inI_at hz (i + 1)
    obtain ⟨t1, t2⟩ := text03 (zs.getD (i + 1) 0) z1 z2
    obtain ⟨d1, d2⟩ := decText_len (zs.getD (i + 1) 0)
    have hcat : lenB (catB s sp1) = lenB s + 1 := by rw [lenB_cat]; rfl
    have hcat2 : lenB (catB (catB s sp1) (decText (zs.getD (i + 1) 0))) = lenB s + 1 + lenB (decText (zs.getD (i + 1) 0)) := by rw [lenB_cat, hcat]
    simp only [rsZ, smJ_eq] at h
    rw [t1, t2, hw, decide_eq_true (show ((i + 1 : Nat) : Int) < n by omega), decide_eq_true (show (0 : Int) < ((i + 1 : Nat) : Int) by omega), cond_true, cond_true] at h
    have hc : conj [Nat.ble (lenB s + 1) 9223372036854775807, decide (0 ≤ ((i + 1 : Nat) : Int)), decide (((i + 1 : Nat) : Int).toNat < n), decide (i + 1 < zs.length), true, Nat.ble (lenB (catB s sp1) + lenB (decText (zs.getD (i + 1) 0))) 9223372036854775807] = true := by
      rw [hcat, Nat.ble_eq_true_of_le (show lenB s + 1 ≤ 9223372036854775807 by omega), Nat.ble_eq_true_of_le (show lenB s + 1 + lenB (decText (zs.getD (i + 1) 0)) ≤ 9223372036854775807 by omega)]
      simp only [conj, Bool.and_eq_true, decide_eq_true_eq]
      exact ⟨trivial, by omega, by omega, by omega, trivial, trivial, trivial⟩
    rw [hc] at h
    exact Goes.gives (H_head (f := Tryd.f15) (B := 1) hE_haymowref03_Text mixedD rfl h) (rs_loop nn zs n c hn h32 hz j (i + 1) _ (by omega) (by omega))
theorem rs_all (nn : Bool) (zs : List Int) (n : Nat) (c : Option Nat) (hn : n ≤ zs.length) (h32 : n ≤ 4294967296) (hz : inI zs = true) : FSound Tryd.prog 15 ⟨[dlA zs], 1⟩ [.sl nn 0 1 0 1 n c] (vs (listT zs n)) ⟨[], 99⟩ := by
  refine fsound (c := bodyOf Tryd.f15) (fun xs w => Tryd.call15 xs w) Tryd.func15 rfl ?_
  refine Goes.gives (F_head (f := Tryd.f15) (c := bodyOf Tryd.f15) hE_haymowref03_Text mixedD rfl rfl (rs_begin nn zs n c)) ?_
  have h := rs_round nn zs n c ⟨#[]⟩ ((0 : Nat) : Int)
  cases n with
  | zero => exact H_ret hE_haymowref03_Text mixedD rfl h
  | succ n =>
    obtain ⟨z1, z2⟩ := inI_at hz 0
    obtain ⟨t1, t2⟩ := text03 (zs.getD 0 0) z1 z2
    obtain ⟨d1, d2⟩ := decText_len (zs.getD 0 0)
    have hl0 : lenB (⟨#[]⟩ : ByteArray) = 0 := rfl
    have hcat : catB ⟨#[]⟩ (decText (zs.getD 0 0)) = decText (zs.getD 0 0) := by rw [catB_eq]; exact ByteArray.empty_append
    have hw : IntKind.i64.wrap (((0 : Nat) : Int) + 1) = ((1 : Nat) : Int) := by decide
    simp only [rsZ, smJ_eq] at h
    rw [t1, t2, hw, decide_eq_true (show ((0 : Nat) : Int) < ((n + 1 : Nat) : Int) by omega), decide_eq_false (show ¬ (0 : Int) < ((0 : Nat) : Int) by omega), cond_true, cond_false, hcat] at h
    have hc : conj [decide (0 ≤ ((0 : Nat) : Int)), decide (((0 : Nat) : Int).toNat < n + 1), decide (0 < zs.length), true, Nat.ble (lenB ⟨#[]⟩ + lenB (decText (zs.getD 0 0))) 9223372036854775807] = true := by
      rw [hl0, Nat.ble_eq_true_of_le (show 0 + lenB (decText (zs.getD 0 0)) ≤ 9223372036854775807 by omega)]
      simp only [conj, Bool.and_eq_true, decide_eq_true_eq]
      exact ⟨by omega, by omega, by omega, trivial, trivial, trivial⟩
    rw [hc] at h
    exact Goes.gives (H_head (f := Tryd.f15) (B := 1) hE_haymowref03_Text mixedD rfl h) (rs_loop nn zs (n + 1) c hn h32 hz n 0 _ (by omega) (by omega))
def e_rls : Spec := fun m args => match args with
  | [.sl _ l 1 0 1 n _] => match look m.bl l with
    | some ⟨_, _, .col (.ints .i64 zs)⟩ => some (vs (listT zs n), none, [Nat.ble n zs.length, Nat.ble n 4294967296, inI zs])
    | _ => none
  | _ => none
theorem ok_rls : SpecOk Tryd.prog 15 e_rls := fun m args v mo bs h hb => by
  unfold e_rls at h
  split at h
  · rename_i nn l n c
    split at h
    · rename_i wr op zs hl
      cases h
      simp only [List.all_cons, List.all_nil, id, Bool.and_eq_true, Bool.and_true] at hb
      exact lift_one (ar := []) (br := []) hl rfl (rs_all nn zs n c (Nat.le_of_ble_eq_true hb.1) (Nat.le_of_ble_eq_true hb.2.1) hb.2.2) rfl rfl rfl rfl
    · cases h
  · cases h
end Go.Proofs.YtpmcflidggofkaaDoor

namespace Go.Proofs.YtpmcflidggofkaaDoor
open Go Go.RowKit
def mkB (l : List UInt8) : ByteArray := ⟨l.toArray⟩
theorem mkB_list (s : ByteArray) : mkB s.data.toList = s := by cases s; rfl
/-- Pieces at a byte. -/
def pcs (c : UInt8) : List UInt8 → List (List UInt8)
  | [] => [[]]
  | b :: l => if b = c then [] :: pcs c l else match pcs c l with
    | p :: ps => (b :: p) :: ps
    | [] => [[b]]
def addH (a : List UInt8) : List (List UInt8) → List (List UInt8)
  | p :: ps => (a ++ p) :: ps
  | [] => [a]
theorem pcs_ne (c : UInt8) : ∀ l, pcs c l ≠ []
  | [] => by simp [pcs]
  | b :: l => by
    unfold pcs
    split
    · simp
    · split <;> simp
theorem pcs_cons (c b : UInt8) (l : List UInt8) (h : b ≠ c) : pcs c (b :: l) = addH [b] (pcs c l) := by
  conv => lhs; unfold pcs
  rw [if_neg h]
  cases pcs c l <;> rfl
theorem pcs_hit (c : UInt8) (l : List UInt8) : pcs c (c :: l) = [] :: pcs c l := by
  conv => lhs; unfold pcs
  rw [if_pos rfl]
theorem addH_addH (a b : List UInt8) {x : List (List UInt8)} (h : x ≠ []) : addH a (addH b x) = addH (a ++ b) x := by
  cases x with
  | nil => exact absurd rfl h
  | cons p ps => simp [addH]
theorem addH_nil {x : List (List UInt8)} (h : x ≠ []) : addH [] x = x := by
  cases x with
  | nil => exact absurd rfl h
  | cons p ps => rfl
theorem pcs_app (c : UInt8) : ∀ (a l : List UInt8), (∀ b ∈ a, b ≠ c) → pcs c (a ++ l) = addH a (pcs c l)
  | [], l, _ => (addH_nil (pcs_ne c l)).symm
  | b :: a, l, h => by
    rw [List.cons_append, pcs_cons c b _ (h b (by simp)), pcs_app c a l (fun x hx => h x (by simp [hx])), addH_addH _ _ (pcs_ne c l)]
    rfl
theorem pcs_none (c : UInt8) (a : List UInt8) (h : ∀ b ∈ a, b ≠ c) : pcs c a = [a] := by
  have := pcs_app c a [] h
  rw [List.append_nil] at this
  rw [this]
  simp [pcs, addH]
theorem pcs_cut (c : UInt8) (a l : List UInt8) (h : ∀ b ∈ a, b ≠ c) : pcs c (a ++ c :: l) = a :: pcs c l := by
  rw [pcs_app c a _ h, pcs_hit]
  simp [addH]
theorem pcs_snoc (c : UInt8) : ∀ (a d : List UInt8), pcs c (a ++ c :: d) = pcs c a ++ pcs c d
  | [], d => by rw [List.nil_append, pcs_hit]; rfl
  | b :: a, d => by
    rw [List.cons_append]
    by_cases e : b = c
    · subst e
      rw [pcs_hit, pcs_hit, pcs_snoc b a d]
      rfl
    · rw [pcs_cons c b _ e, pcs_cons c b _ e, pcs_snoc c a d]
      have := pcs_ne c a
      cases h : pcs c a with
      | nil => exact absurd h this
      | cons p ps => rfl
theorem extL (s : ByteArray) (a b : Nat) : (s.extract a b).data.toList = (s.data.toList.take b).drop a := by
  rw [ByteArray.data_extract, Array.toList_extract, List.extract_eq_take_drop]
  rw [List.drop_take]
theorem sizeL (s : ByteArray) : s.data.toList.length = s.size := rfl
/-- What Split hands back. -/
theorem splitB_pcs : ∀ (k : Nat) (s : ByteArray), Lib.countB s sp1 = k → Lib.splitB sp1 0 k s = (pcs 32 s.data.toList).map mkB
  | k, s, hk => by
    have hsp : sp1.size = 1 := rfl
    have hix : Lib.indexB s sp1 = Lib.indexByte s.data.toList 32 := Lib.index_one s.data.toList 32
    rcases Lib.indexB_cases s sp1 with h | ⟨i, h, hi⟩
    · rw [Lib.splitB_miss _ _ _ _ h]
      have hn := Lib.indexByte_none (hix ▸ h)
      rw [pcs_none 32 _ fun b hb e => by
        obtain ⟨j, hj⟩ := List.mem_iff_getElem?.1 hb
        exact hn j (by rw [hj, e])]
      simp [mkB_list]
    · have hc := Lib.countB_hit s sp1 i (by rw [hsp]; exact Nat.le_refl _) h
      obtain ⟨k, rfl⟩ : ∃ k', k = k' + 1 := ⟨k - 1, by omega⟩
      rw [Lib.splitB_hit _ _ _ _ i h, hsp]
      have hlt : (s.extract (i + 1) s.size).size < s.size := by rw [ByteArray.size_extract]; omega
      rw [splitB_pcs k (s.extract (i + 1) s.size) (by rw [hsp] at hc; omega)]
      obtain ⟨g1, g2⟩ := Lib.indexByte_some (hix ▸ h)
      have hil : i < s.data.toList.length := (List.getElem?_eq_some_iff.1 g1).1
      have hspl : s.data.toList = s.data.toList.take i ++ 32 :: s.data.toList.drop (i + 1) := by
        conv => lhs; rw [← List.take_append_drop i s.data.toList]
        congr 1
        rw [List.drop_eq_getElem_cons hil]
        congr 1
        exact (List.getElem?_eq_some_iff.1 g1).2
      have e2 : (s.extract (i + 1) s.size).data.toList = s.data.toList.drop (i + 1) := by
        rw [extL, ← sizeL, List.take_length]
      have e1 : s.extract 0 (i + 0) = mkB (s.data.toList.take i) := by
        have := extL s 0 (i + 0)
        rw [List.drop_zero, Nat.add_zero] at this
        rw [← mkB_list (s.extract 0 (i + 0)), Nat.add_zero, this]
      rw [e2, e1]
      conv => rhs; rw [hspl]
      rw [pcs_cut 32 _ _ fun b hb e => by
        obtain ⟨j, hj⟩ := List.mem_iff_getElem?.1 hb
        have hji : j < i := by have := (List.getElem?_eq_some_iff.1 hj).1; simp at this; omega
        rw [List.getElem?_take_of_lt hji] at hj
        exact g2 j hji (by rw [hj, e])]
      rfl
termination_by _ s => s.size
theorem splitL_pcs (s : ByteArray) : splitL s sp1 = (pcs 32 s.data.toList).map mkB := splitB_pcs _ s rfl
/-- What Cut hands back. -/
theorem cutF_pcs (s : ByteArray) : ∀ (k i j : Nat) (ss : List ByteArray), i + k = s.size → j ≤ i → cutF s 32 i k j ss = ss ++ (addH ((s.data.toList.take i).drop j) (pcs 32 (s.data.toList.drop i))).map mkB
  | 0, i, j, ss, hi, hj => by
    have hd' : s.data.toList.drop i = [] := List.drop_eq_nil_of_le (by rw [sizeL]; omega)
    rw [hd']
    simp only [cutF, pcs, addH, List.append_nil, List.map_cons, List.map_nil]
    rw [← extL, mkB_list, show i = s.size by omega]
  | k + 1, i, j, ss, hi, hj => by
    have hil : i < s.data.toList.length := by rw [sizeL]; omega
    have hdr : s.data.toList.drop i = s.data.toList[i] :: s.data.toList.drop (i + 1) := List.drop_eq_getElem_cons hil
    have htk : (s.data.toList.take (i + 1)).drop j = (s.data.toList.take i).drop j ++ [s.data.toList[i]] := by
      rw [List.take_add_one, List.getElem?_eq_getElem hil, List.drop_append_of_le_length (by simp; omega)]
      rfl
    have hb : (byteAt s i == 32) = decide (s.data.toList[i] = 32) := by
      unfold byteAt
      rw [List.getD_eq_getElem?_getD, List.getElem?_eq_getElem hil, Option.getD_some, Bool.eq_iff_iff]
      simp only [beq_iff_eq, decide_eq_true_eq]
      constructor
      · intro h
        have : s.data.toList[i].toNat = 32 := by omega
        exact UInt8.toNat_inj.1 this
      · intro h
        rw [h]; rfl
    simp only [cutF]
    rw [hb, hdr]
    by_cases e : s.data.toList[i] = 32
    · rw [decide_eq_true e, cond_true, cutF_pcs s k (i + 1) (i + 1) _ (by omega) (Nat.le_refl _), e, pcs_hit]
      rw [show (s.data.toList.take (i + 1)).drop (i + 1) = [] from List.drop_eq_nil_of_le (by simp; omega), addH_nil (pcs_ne _ _)]
      simp only [addH, List.append_nil, List.map_cons, List.append_assoc, List.singleton_append]
      rw [← extL, mkB_list]
    · rw [decide_eq_false e, cond_false, cutF_pcs s k (i + 1) j ss (by omega) (by omega), htk, pcs_cons _ _ _ e, addH_addH _ _ (pcs_ne _ _)]
theorem cutV_eq (s : ByteArray) : cutV s 32 = splitL s sp1 := by
  unfold cutV
  rw [cutF_pcs s s.size 0 0 [] (by omega) (Nat.le_refl _), splitL_pcs]
  simp only [List.take_zero, List.drop_nil, List.drop_zero, List.nil_append]
  rw [addH_nil (pcs_ne _ _)]
theorem emp_eq (s : ByteArray) : (s.toList == []) = (Int.ofNat s.size == 0) := by
  have : s.toList = s.data.toList := ByteArray.toList_eq s
  rw [this, Bool.eq_iff_iff]
  simp only [beq_iff_eq]
  constructor
  · intro h
    have := sizeL s
    rw [h] at this
    show (s.size : Int) = 0
    simp at this; omega
  · intro h
    apply List.eq_nil_of_length_eq_zero
    rw [sizeL]
    have h : (s.size : Int) = 0 := h
    omega
/-- Both readings are one. -/
theorem rrV_eq (s : ByteArray) : rrV s = rlV s := by
  unfold rrV rlV
  rw [emp_eq, cutV_eq, show (splitL s sp1).length = Lib.countB s sp1 + 1 from Lib.splitB_all sp1 (by decide) 0 _ s rfl]
/-- A number's text has no blank. -/
theorem dec_free (z : Int) : ∀ b ∈ (decText z).data.toList, b ≠ 32 := by
  have hd' : dgts (decL 19 z.natAbs []) := decL_dg 19 z.natAbs [] (fun x hx => by cases hx)
  have key : ∀ b ∈ (strOf (decL 19 z.natAbs [])).data.toList, b ≠ 32 := fun b hb e => by
    rw [str_list, List.mem_map] at hb
    obtain ⟨n, hn, rfl⟩ := hb
    have := hd' n hn
    have h2 : (UInt8.ofNat n.toNat).toNat = 32 := by rw [e]; rfl
    rw [UInt8.toNat_ofNat'] at h2
    omega
  intro b hb
  unfold decText at hb
  cases h : decide (z < 0) with
  | true =>
    rw [h, cond_true, ← catB_eq] at hb
    simp only [catB, List.mem_append] at hb
    rcases hb with hb | hb
    · simp at hb; subst hb; decide
    · exact key b hb
  | false => rw [h, cond_false] at hb; exact key b hb
theorem lsF_pcs (zs : List Int) : ∀ (j i : Nat) (s : ByteArray), pcs 32 (lsF zs i j s).data.toList = pcs 32 s.data.toList ++ (List.range' i j).map fun k => (decText (zs.getD k 0)).data.toList
  | 0, i, s => by simp [lsF]
  | j + 1, i, s => by
    simp only [lsF]
    rw [lsF_pcs zs j (i + 1)]
    have e : (catB (catB s sp1) (decText (zs.getD i 0))).data.toList = s.data.toList ++ 32 :: (decText (zs.getD i 0)).data.toList := by
      simp [catB, sp1]
    rw [e, pcs_snoc, pcs_none 32 _ (dec_free _), List.range'_succ, List.map_cons, List.append_assoc]
    rfl
theorem listT_split (zs : List Int) (n : Nat) : splitL (listT zs (n + 1)) sp1 = (List.range' 0 (n + 1)).map fun k => decText (zs.getD k 0) := by
  rw [splitL_pcs]
  show (pcs 32 (lsF zs 1 n (decText (zs.getD 0 0))).data.toList).map mkB = _
  rw [lsF_pcs, pcs_none 32 _ (dec_free _), List.range'_succ, List.map_append, List.map_map, List.map_cons]
  simp only [List.map_cons, List.map_nil, mkB_list, List.singleton_append, Nat.zero_add]
  congr 1
theorem lsF_len (zs : List Int) : ∀ (j i : Nat) (s : ByteArray), lenB s ≤ lenB (lsF zs i j s) ∧ lenB (lsF zs i j s) ≤ lenB s + 21 * j
  | 0, i, s => ⟨Nat.le_refl _, Nat.le_refl _⟩
  | j + 1, i, s => by
    have h := lsF_len zs j (i + 1) (catB (catB s sp1) (decText (zs.getD i 0)))
    have hd' := decText_len (zs.getD i 0)
    rw [lenB_cat, lenB_cat, show lenB sp1 = 1 from rfl] at h
    simp only [lsF]
    omega
theorem listT_len (zs : List Int) (n : Nat) : lenB (listT zs n) ≤ 21 * n ∧ (0 < n → 0 < lenB (listT zs n)) := by
  cases n with
  | zero => exact ⟨Nat.le_refl _, fun h => absurd h (by omega)⟩
  | succ n =>
    have h := lsF_len zs n 1 (decText (zs.getD 0 0))
    have hd' := decText_len (zs.getD 0 0)
    show lenB (lsF zs 1 n (decText (zs.getD 0 0))) ≤ _ ∧ _
    exact ⟨by omega, fun _ => by show 0 < lenB (lsF zs 1 n (decText (zs.getD 0 0))); omega⟩
theorem rlF_back (zs : List Int) (n : Nat) (hn : n ≤ zs.length) (hz : inI zs = true) : ∀ (j i : Nat), i + j = n → rlF ((List.range' 0 n).map fun k => decText (zs.getD k 0)) i j (zs.take i) = (zs.take n, 0)
  | 0, i, hi => by simp only [rlF]; rw [show i = n by omega]
  | j + 1, i, hi => by
    have hg : ((List.range' 0 n).map fun k => decText (zs.getD k 0)).getD i ⟨#[]⟩ = decText (zs.getD i 0) := by
      rw [List.getD_eq_getElem?_getD, List.getElem?_map, List.getElem?_range' (by omega)]
      simp
    obtain ⟨z1, z2⟩ := inI_at hz i
    have hb := back (zs.getD i 0) z1 z2
    simp only [rlF]
    rw [hg]
    have e1 : rd1 (decText (zs.getD i 0)) = 0 := by unfold rd1; rw [hb]
    have e0 : rd0 (decText (zs.getD i 0)) = zs.getD i 0 := by unfold rd0; rw [hb]
    rw [e1, e0, bne_self_eq_false, cond_false]
    have ht : zs.take i ++ [zs.getD i 0] = zs.take (i + 1) := by
      have hil : i < zs.length := by omega
      rw [List.take_add_one, List.getD_eq_getElem?_getD, List.getElem?_eq_getElem hil]
      rfl
    rw [ht]
    exact rlF_back zs n hn hz j (i + 1) (by omega)
/-- A list's text is read back. -/
theorem list_back (zs : List Int) (n : Nat) (hn : n ≤ zs.length) (hz : inI zs = true) : rlV (listT zs n) = (zs.take n, 0) := by
  unfold rlV
  cases n with
  | zero => rw [emp_eq]; rfl
  | succ n =>
    have h1 := (listT_len zs (n + 1)).2 (by omega)
    rw [lenB_eq] at h1
    rw [emp_eq, show (Int.ofNat (listT zs (n + 1)).size == 0) = false by
      rw [beq_eq_false_iff_ne]; show ((listT zs (n + 1)).size : Int) ≠ 0; omega, cond_false]
    have hl : (splitL (listT zs (n + 1)) sp1).length = Lib.countB (listT zs (n + 1)) sp1 + 1 := Lib.splitB_all sp1 (by decide) 0 _ _ rfl
    rw [← hl, listT_split, List.length_map, List.length_range']
    exact rlF_back zs (n + 1) hn hz (n + 1) 0 (by omega)
end Go.Proofs.YtpmcflidggofkaaDoor

namespace Go.Proofs.YtpmcflidggofkaaDoor
open Go Go.RowKit
set_option maxRecDepth 100000
def e_arN (j : Nat) : Spec := fun _ args => match args with
  | [.val (.int .i64 k)] => some (vi (Int.ofNat j), none, [recAr k == Int.ofNat j])
  | _ => none
theorem ok_arN (j : Nat) : SpecOk Tryd.prog 56 (e_arN j) := fun m args v mo bs h hb => by
  unfold e_arN at h
  split at h
  · rename_i k
    cases h
    simp only [List.all_cons, List.all_nil, id, Bool.and_true, beq_iff_eq] at hb
    have := ok_ar m [vi k] _ _ _ rfl rfl
    rw [hb] at this
    exact this
  · cases h
theorem ok_rarN (j : Nat) : SpecOk Tryd.prog 58 (e_arN j) := fun m args v mo bs h hb => by
  unfold e_arN at h
  split at h
  · rename_i k
    cases h
    simp only [List.all_cons, List.all_nil, id, Bool.and_true, beq_iff_eq] at hb
    have := ok_rar m [vi k] _ _ _ rfl rfl
    rw [hb] at this
    exact this
  · cases h
/-- A text in pieces: the pieces are known. -/
def e_spX (ss : List ByteArray) (n : Nat) : Spec := fun m args => match args with
  | [.val (.string s), .val (.string sep)] => match globOf m.bl 0 with
    | some (l, _) => match look m.bl l with
      | some ⟨_, _, .obj (.glob 0 (.ints .i64 (_ :: _)))⟩ => some (.sl true m.nx 1 0 1 n (some n), some (m.new ⟨true, false, .col (.strs ss)⟩), [Nat.blt (lenB s) 4294967281, Nat.blt 0 (lenB sep), decide (splitL s sep = ss), Nat.beq ss.length n])
      | _ => none
    | none => none
  | _ => none
theorem ok_spX (ss : List ByteArray) (n : Nat) : SpecOk Tryd.prog 50 (e_spX ss n) := fun m args v mo bs h hb => by
  unfold e_spX at h
  split at h <;> try cases h
  rename_i s sep
  split at h <;> try cases h
  rename_i l c0 hg0
  split at h <;> try cases h
  rename_i wr op z zs hl
  simp only [List.all_cons, List.all_nil, id, Bool.and_eq_true, Bool.and_true, decide_eq_true_eq] at hb
  obtain ⟨b1, b2, b3, b4⟩ := hb
  have b4 := Nat.eq_of_beq_eq_true b4
  have hlen : (splitL s sep).length = Lib.countB s sep + 1 := Lib.splitB_all sep (by rw [Nat.blt_eq, lenB_eq] at b2; exact b2) 0 _ s rfl
  have h0 := ok_split m [vs s, vs sep] (.sl true m.nx 1 0 1 (Lib.countB s sep + 1) (some (Lib.countB s sep + 1))) (some (m.new ⟨true, false, .col (.strs (splitL s sep))⟩)) [Nat.blt (lenB s) 4294967281, Nat.blt 0 (lenB sep)] (by unfold e_split; simp only [hg0, hl]) (by simp [b1, b2])
  rw [← hlen, b3, b4] at h0
  exact h0
def e_cuX (ss : List ByteArray) (n : Nat) : Spec := fun m args => match args with
  | [.val (.string s), .val (.int .u8 c)] => match decide (c = 32) with
    | true => some (.sl false m.nx 1 0 1 n none, some ⟨(m.nx, some ⟨false, false, .col (.strs ss)⟩) :: m.bl, m.nx + 1⟩, [Nat.ble s.size 4294967296, decide (splitL s sp1 = ss), Nat.beq ss.length n])
    | false => none
  | _ => none
abbrev rcW (ss : List ByteArray) : ByteArray := ss.getD 0 ⟨#[]⟩
/-- The call's numbers, its kind ahead; an error. -/
def rcX (ss : List ByteArray) : List Int × Int := bif !record_Named_1 (rcW ss) then ([], 40) else bif Int.ofNat ss.length - 1 != recAr (record_Named_0 (rcW ss)) then ([], 41) else
  bif (rlF ss 1 (ss.length - 1) []).2 != 0 then ([], (rlF ss 1 (ss.length - 1) []).2) else (record_Named_0 (rcW ss) :: (rlF ss 1 (ss.length - 1) []).1, 0)
abbrev rcV (ss : List ByteArray) : AV := .tup [.agg [vi ((rcX ss).1.getD 0 0), vi ((rcX ss).1.getD 1 0), vi ((rcX ss).1.getD 2 0), vi ((rcX ss).1.getD 3 0), vi ((rcX ss).1.getD 4 0)], vi (rcX ss).2]
abbrev rcR (v : AV) (bs : List Bool) : Option Fin_ := some (.ret v ⟨[], 99⟩ (conj bs))
abbrev rcE (e : Int) : AV := .tup [.agg [vi 0, vi 0, vi 0, vi 0, vi 0], vi e]
theorem bif_in {b c : Bool} {x y : Int} {k : Nat} (hk : k < 21) (hx : x = (k : Int)) (h : (bif b then true else c) = true) (hr : c = true → ∃ n : Nat, y = (n : Int) ∧ n < 21) : ∃ n : Nat, (bif b then x else y) = (n : Int) ∧ n < 21 := by
  cases b with
  | true => exact ⟨k, hx, hk⟩
  | false => exact hr h
theorem bif_no {b c : Bool} {x y z : Int} (h : z = bif c then y else -1) : (bif b then x else z) = bif (bif b then true else c) then (bif b then x else y) else -1 := by
  cases b with
  | true => rfl
  | false => exact h
theorem named_in {w : ByteArray} (h : record_Named_1 w = true) : ∃ n : Nat, record_Named_0 w = (n : Int) ∧ n < 21 := by
  rw [nm1] at h
  rw [nm0]
  unfold bw1 at h
  unfold bw0
  exact bif_in (k := 20) (by omega) rfl h fun h => bif_in (k := 19) (by omega) rfl h fun h => bif_in (k := 18) (by omega) rfl h fun h => bif_in (k := 17) (by omega) rfl h fun h => bif_in (k := 16) (by omega) rfl h fun h => bif_in (k := 15) (by omega) rfl h fun h => bif_in (k := 14) (by omega) rfl h fun h => bif_in (k := 13) (by omega) rfl h fun h => bif_in (k := 12) (by omega) rfl h fun h => bif_in (k := 11) (by omega) rfl h fun h => bif_in (k := 10) (by omega) rfl h fun h => bif_in (k := 9) (by omega) rfl h fun h => bif_in (k := 8) (by omega) rfl h fun h => bif_in (k := 7) (by omega) rfl h fun h => bif_in (k := 6) (by omega) rfl h fun h => bif_in (k := 5) (by omega) rfl h fun h => bif_in (k := 4) (by omega) rfl h fun h => bif_in (k := 3) (by omega) rfl h fun h => bif_in (k := 2) (by omega) rfl h fun h => bif_in (k := 1) (by omega) rfl h fun h => bif_in (k := 0) (by omega) rfl h fun h => by cases h
theorem ofNat_sub (a j : Nat) (h : a = j + 1) : Int.ofNat a - 1 = Int.ofNat j := by
  subst h
  show ((j + 1 : Nat) : Int) - 1 = (j : Int)
  omega
abbrev L_rd (ss : List ByteArray) (n : Nat) : List (FuncId × Spec) := (50, e_spX ss n) :: (44, e_read) :: L_rw
theorem hE_rd (ss : List ByteArray) (n : Nat) : ESound Tryd.prog (envOf (L_rd ss n)) := env_cons (ok_spX ss n) (env_cons ok_read hE_rw)
abbrev L_rdN (ss : List ByteArray) (j : Nat) : List (FuncId × Spec) := (50, e_spX ss (j + 1)) :: (44, e_read) :: (56, e_arN j) :: L_rw
theorem hE_rdN (ss : List ByteArray) (j : Nat) : ESound Tryd.prog (envOf (L_rdN ss j)) := env_cons (ok_spX ss (j + 1)) (env_cons ok_read (env_cons (ok_arN j) hE_rw))
abbrev rqO (s : ByteArray) (ss : List ByteArray) (n : Nat) : List Bool := [Nat.blt (lenB s) 4294967281, decide (splitL s sp1 = ss), Nat.beq ss.length n]
theorem rd_a (x : Int) (s : ByteArray) (ss : List ByteArray) (n : Nat) : FO_ Tryd.prog (L_rd ss n) Tryd.f18 [] [] 99 [1] [vs s] (mlM [x]) =
    rcR (rcE 40) (rqO s ss n ++ [decide (0 < n), decide (0 < ss.length), !record_Named_1 (rcW ss)]) := by kernel_rfl
theorem rd_b (x : Int) (s : ByteArray) (ss : List ByteArray) (n : Nat) : FO_ Tryd.prog (L_rd ss n) Tryd.f18 [] [] 99 [0, 1] [vs s] (mlM [x]) =
    rcR (rcE 41) (rqO s ss n ++ [decide (0 < n), decide (0 < ss.length), !!record_Named_1 (rcW ss), IntKind.i64.wrap (Int.ofNat n - 1) != recAr (record_Named_0 (rcW ss))]) := by kernel_rfl
theorem rd_c0 (x : Int) (s : ByteArray) (ss : List ByteArray) : FO_ Tryd.prog (L_rdN ss 0) Tryd.f18 [] [] 99 [0] [vs s] (mlM [x]) =
    rcR (.tup [.agg [vi (record_Named_0 (rcW ss)), vi (0), vi (0), vi (0), vi (0)], vi 0]) (rqO s ss 1 ++ [decide (0 < ss.length), !!record_Named_1 (rcW ss), recAr (record_Named_0 (rcW ss)) == 0] ++ []) := by kernel_rfl
theorem rd_c1 (x : Int) (s : ByteArray) (ss : List ByteArray) : FO_ Tryd.prog (L_rdN ss 1) Tryd.f18 [] [] 99 [0] [vs s] (mlM [x]) =
    bif rd1 (ss.getD 1 ⟨#[]⟩) != 0 then rcR (rcE (rd1 (ss.getD 1 ⟨#[]⟩))) (rqO s ss 2 ++ [decide (0 < ss.length), !!record_Named_1 (rcW ss), recAr (record_Named_0 (rcW ss)) == 1] ++ [decide (1 < ss.length), Nat.ble (ss.getD 1 ⟨#[]⟩).size 9223372036854775807]) else rcR (.tup [.agg [vi (record_Named_0 (rcW ss)), vi (rd0 (ss.getD 1 ⟨#[]⟩)), vi (0), vi (0), vi (0)], vi 0]) (rqO s ss 2 ++ [decide (0 < ss.length), !!record_Named_1 (rcW ss), recAr (record_Named_0 (rcW ss)) == 1] ++ [decide (1 < ss.length), Nat.ble (ss.getD 1 ⟨#[]⟩).size 9223372036854775807]) := by kernel_rfl
theorem rd_c2 (x : Int) (s : ByteArray) (ss : List ByteArray) : FO_ Tryd.prog (L_rdN ss 2) Tryd.f18 [] [] 99 [0] [vs s] (mlM [x]) =
    bif rd1 (ss.getD 1 ⟨#[]⟩) != 0 then rcR (rcE (rd1 (ss.getD 1 ⟨#[]⟩))) (rqO s ss 3 ++ [decide (0 < ss.length), !!record_Named_1 (rcW ss), recAr (record_Named_0 (rcW ss)) == 2] ++ [decide (1 < ss.length), Nat.ble (ss.getD 1 ⟨#[]⟩).size 9223372036854775807]) else bif rd1 (ss.getD 2 ⟨#[]⟩) != 0 then rcR (rcE (rd1 (ss.getD 2 ⟨#[]⟩))) (rqO s ss 3 ++ [decide (0 < ss.length), !!record_Named_1 (rcW ss), recAr (record_Named_0 (rcW ss)) == 2] ++ [decide (1 < ss.length), Nat.ble (ss.getD 1 ⟨#[]⟩).size 9223372036854775807, decide (2 < ss.length), Nat.ble (ss.getD 2 ⟨#[]⟩).size 9223372036854775807]) else rcR (.tup [.agg [vi (record_Named_0 (rcW ss)), vi (rd0 (ss.getD 1 ⟨#[]⟩)), vi (rd0 (ss.getD 2 ⟨#[]⟩)), vi (0), vi (0)], vi 0]) (rqO s ss 3 ++ [decide (0 < ss.length), !!record_Named_1 (rcW ss), recAr (record_Named_0 (rcW ss)) == 2] ++ [decide (1 < ss.length), Nat.ble (ss.getD 1 ⟨#[]⟩).size 9223372036854775807, decide (2 < ss.length), Nat.ble (ss.getD 2 ⟨#[]⟩).size 9223372036854775807]) := by kernel_rfl
theorem rd_c3 (x : Int) (s : ByteArray) (ss : List ByteArray) : FO_ Tryd.prog (L_rdN ss 3) Tryd.f18 [] [] 99 [0] [vs s] (mlM [x]) =
    bif rd1 (ss.getD 1 ⟨#[]⟩) != 0 then rcR (rcE (rd1 (ss.getD 1 ⟨#[]⟩))) (rqO s ss 4 ++ [decide (0 < ss.length), !!record_Named_1 (rcW ss), recAr (record_Named_0 (rcW ss)) == 3] ++ [decide (1 < ss.length), Nat.ble (ss.getD 1 ⟨#[]⟩).size 9223372036854775807]) else bif rd1 (ss.getD 2 ⟨#[]⟩) != 0 then rcR (rcE (rd1 (ss.getD 2 ⟨#[]⟩))) (rqO s ss 4 ++ [decide (0 < ss.length), !!record_Named_1 (rcW ss), recAr (record_Named_0 (rcW ss)) == 3] ++ [decide (1 < ss.length), Nat.ble (ss.getD 1 ⟨#[]⟩).size 9223372036854775807, decide (2 < ss.length), Nat.ble (ss.getD 2 ⟨#[]⟩).size 9223372036854775807]) else bif rd1 (ss.getD 3 ⟨#[]⟩) != 0 then rcR (rcE (rd1 (ss.getD 3 ⟨#[]⟩))) (rqO s ss 4 ++ [decide (0 < ss.length), !!record_Named_1 (rcW ss), recAr (record_Named_0 (rcW ss)) == 3] ++ [decide (1 < ss.length), Nat.ble (ss.getD 1 ⟨#[]⟩).size 9223372036854775807, decide (2 < ss.length), Nat.ble (ss.getD 2 ⟨#[]⟩).size 9223372036854775807, decide (3 < ss.length), Nat.ble (ss.getD 3 ⟨#[]⟩).size 9223372036854775807]) else rcR (.tup [.agg [vi (record_Named_0 (rcW ss)), vi (rd0 (ss.getD 1 ⟨#[]⟩)), vi (rd0 (ss.getD 2 ⟨#[]⟩)), vi (rd0 (ss.getD 3 ⟨#[]⟩)), vi (0)], vi 0]) (rqO s ss 4 ++ [decide (0 < ss.length), !!record_Named_1 (rcW ss), recAr (record_Named_0 (rcW ss)) == 3] ++ [decide (1 < ss.length), Nat.ble (ss.getD 1 ⟨#[]⟩).size 9223372036854775807, decide (2 < ss.length), Nat.ble (ss.getD 2 ⟨#[]⟩).size 9223372036854775807, decide (3 < ss.length), Nat.ble (ss.getD 3 ⟨#[]⟩).size 9223372036854775807]) := by kernel_rfl
theorem rd_c4 (x : Int) (s : ByteArray) (ss : List ByteArray) : FO_ Tryd.prog (L_rdN ss 4) Tryd.f18 [] [] 99 [0] [vs s] (mlM [x]) =
    bif rd1 (ss.getD 1 ⟨#[]⟩) != 0 then rcR (rcE (rd1 (ss.getD 1 ⟨#[]⟩))) (rqO s ss 5 ++ [decide (0 < ss.length), !!record_Named_1 (rcW ss), recAr (record_Named_0 (rcW ss)) == 4] ++ [decide (1 < ss.length), Nat.ble (ss.getD 1 ⟨#[]⟩).size 9223372036854775807]) else bif rd1 (ss.getD 2 ⟨#[]⟩) != 0 then rcR (rcE (rd1 (ss.getD 2 ⟨#[]⟩))) (rqO s ss 5 ++ [decide (0 < ss.length), !!record_Named_1 (rcW ss), recAr (record_Named_0 (rcW ss)) == 4] ++ [decide (1 < ss.length), Nat.ble (ss.getD 1 ⟨#[]⟩).size 9223372036854775807, decide (2 < ss.length), Nat.ble (ss.getD 2 ⟨#[]⟩).size 9223372036854775807]) else bif rd1 (ss.getD 3 ⟨#[]⟩) != 0 then rcR (rcE (rd1 (ss.getD 3 ⟨#[]⟩))) (rqO s ss 5 ++ [decide (0 < ss.length), !!record_Named_1 (rcW ss), recAr (record_Named_0 (rcW ss)) == 4] ++ [decide (1 < ss.length), Nat.ble (ss.getD 1 ⟨#[]⟩).size 9223372036854775807, decide (2 < ss.length), Nat.ble (ss.getD 2 ⟨#[]⟩).size 9223372036854775807, decide (3 < ss.length), Nat.ble (ss.getD 3 ⟨#[]⟩).size 9223372036854775807]) else bif rd1 (ss.getD 4 ⟨#[]⟩) != 0 then rcR (rcE (rd1 (ss.getD 4 ⟨#[]⟩))) (rqO s ss 5 ++ [decide (0 < ss.length), !!record_Named_1 (rcW ss), recAr (record_Named_0 (rcW ss)) == 4] ++ [decide (1 < ss.length), Nat.ble (ss.getD 1 ⟨#[]⟩).size 9223372036854775807, decide (2 < ss.length), Nat.ble (ss.getD 2 ⟨#[]⟩).size 9223372036854775807, decide (3 < ss.length), Nat.ble (ss.getD 3 ⟨#[]⟩).size 9223372036854775807, decide (4 < ss.length), Nat.ble (ss.getD 4 ⟨#[]⟩).size 9223372036854775807]) else rcR (.tup [.agg [vi (record_Named_0 (rcW ss)), vi (rd0 (ss.getD 1 ⟨#[]⟩)), vi (rd0 (ss.getD 2 ⟨#[]⟩)), vi (rd0 (ss.getD 3 ⟨#[]⟩)), vi (rd0 (ss.getD 4 ⟨#[]⟩))], vi 0]) (rqO s ss 5 ++ [decide (0 < ss.length), !!record_Named_1 (rcW ss), recAr (record_Named_0 (rcW ss)) == 4] ++ [decide (1 < ss.length), Nat.ble (ss.getD 1 ⟨#[]⟩).size 9223372036854775807, decide (2 < ss.length), Nat.ble (ss.getD 2 ⟨#[]⟩).size 9223372036854775807, decide (3 < ss.length), Nat.ble (ss.getD 3 ⟨#[]⟩).size 9223372036854775807, decide (4 < ss.length), Nat.ble (ss.getD 4 ⟨#[]⟩).size 9223372036854775807]) := by kernel_rfl
theorem rcX_a {ss : List ByteArray} (h : record_Named_1 (rcW ss) = false) : rcX ss = ([], 40) := by
  unfold rcX
  rw [h]; rfl
theorem rcX_b {ss : List ByteArray} (h : record_Named_1 (rcW ss) = true) (hn : (Int.ofNat ss.length - 1 != recAr (record_Named_0 (rcW ss))) = true) : rcX ss = ([], 41) := by
  unfold rcX
  rw [h, hn]; rfl
theorem rcX_c {ss : List ByteArray} {j : Nat} (h : record_Named_1 (rcW ss) = true) (hl : ss.length = j + 1) (ha : recAr (record_Named_0 (rcW ss)) = Int.ofNat j) :
    rcX ss = bif (rlF ss 1 j []).2 != 0 then ([], (rlF ss 1 j []).2) else (record_Named_0 (rcW ss) :: (rlF ss 1 j []).1, 0) := by
  unfold rcX
  rw [h, ha, ofNat_sub _ _ hl, bne_self_eq_false, hl]
  rfl
theorem rcT0 {ss : List ByteArray} (h : record_Named_1 (rcW ss) = true) (hl : ss.length = 1) (ha : recAr (record_Named_0 (rcW ss)) = 0) (bs : Nat → List Bool) (hb : ∀ i, conj (bs i) = true) :
    rcR (.tup [.agg [vi (record_Named_0 (rcW ss)), vi 0, vi 0, vi 0, vi 0], vi 0]) (bs 0) = some (.ret (rcV ss) ⟨[], 99⟩ true) := by
  unfold rcV
  rw [rcX_c (j := 0) h hl ha]
  unfold rcR
  simp only [rlF, hb]
  rfl
theorem rcT1 {ss : List ByteArray} (h : record_Named_1 (rcW ss) = true) (hl : ss.length = 2) (ha : recAr (record_Named_0 (rcW ss)) = 1) (bs : Nat → List Bool) (hb : ∀ i, conj (bs i) = true) :
    (bif rd1 (ss.getD 1 ⟨#[]⟩) != 0 then rcR (rcE (rd1 (ss.getD 1 ⟨#[]⟩))) (bs 1) else rcR (.tup [.agg [vi (record_Named_0 (rcW ss)), vi (rd0 (ss.getD 1 ⟨#[]⟩)), vi 0, vi 0, vi 0], vi 0]) (bs 0)) = some (.ret (rcV ss) ⟨[], 99⟩ true) := by
  unfold rcV
  rw [rcX_c (j := 1) h hl ha]
  unfold rcR
  simp only [rlF, hb]
  cases h1 : (rd1 (ss.getD 1 ⟨#[]⟩) != 0)
  case true => simp only [cond_true, h1]; rfl
  simp only [cond_false]
  rfl
theorem rcT2 {ss : List ByteArray} (h : record_Named_1 (rcW ss) = true) (hl : ss.length = 3) (ha : recAr (record_Named_0 (rcW ss)) = 2) (bs : Nat → List Bool) (hb : ∀ i, conj (bs i) = true) :
    (bif rd1 (ss.getD 1 ⟨#[]⟩) != 0 then rcR (rcE (rd1 (ss.getD 1 ⟨#[]⟩))) (bs 1) else (bif rd1 (ss.getD 2 ⟨#[]⟩) != 0 then rcR (rcE (rd1 (ss.getD 2 ⟨#[]⟩))) (bs 2) else rcR (.tup [.agg [vi (record_Named_0 (rcW ss)), vi (rd0 (ss.getD 1 ⟨#[]⟩)), vi (rd0 (ss.getD 2 ⟨#[]⟩)), vi 0, vi 0], vi 0]) (bs 0))) = some (.ret (rcV ss) ⟨[], 99⟩ true) := by
  unfold rcV
  rw [rcX_c (j := 2) h hl ha]
  unfold rcR
  simp only [rlF, hb]
  cases h1 : (rd1 (ss.getD 1 ⟨#[]⟩) != 0)
  case true => simp only [cond_true, h1]; rfl
  simp only [cond_false]
  cases h2 : (rd1 (ss.getD 2 ⟨#[]⟩) != 0)
  case true => simp only [cond_true, h2]; rfl
  simp only [cond_false]
  rfl
theorem rcT3 {ss : List ByteArray} (h : record_Named_1 (rcW ss) = true) (hl : ss.length = 4) (ha : recAr (record_Named_0 (rcW ss)) = 3) (bs : Nat → List Bool) (hb : ∀ i, conj (bs i) = true) :
    (bif rd1 (ss.getD 1 ⟨#[]⟩) != 0 then rcR (rcE (rd1 (ss.getD 1 ⟨#[]⟩))) (bs 1) else (bif rd1 (ss.getD 2 ⟨#[]⟩) != 0 then rcR (rcE (rd1 (ss.getD 2 ⟨#[]⟩))) (bs 2) else (bif rd1 (ss.getD 3 ⟨#[]⟩) != 0 then rcR (rcE (rd1 (ss.getD 3 ⟨#[]⟩))) (bs 3) else rcR (.tup [.agg [vi (record_Named_0 (rcW ss)), vi (rd0 (ss.getD 1 ⟨#[]⟩)), vi (rd0 (ss.getD 2 ⟨#[]⟩)), vi (rd0 (ss.getD 3 ⟨#[]⟩)), vi 0], vi 0]) (bs 0)))) = some (.ret (rcV ss) ⟨[], 99⟩ true) := by
  unfold rcV
  rw [rcX_c (j := 3) h hl ha]
  unfold rcR
  simp only [rlF, hb]
  cases h1 : (rd1 (ss.getD 1 ⟨#[]⟩) != 0)
  case true => simp only [cond_true, h1]; rfl
  simp only [cond_false]
  cases h2 : (rd1 (ss.getD 2 ⟨#[]⟩) != 0)
  case true => simp only [cond_true, h2]; rfl
  simp only [cond_false]
  cases h3 : (rd1 (ss.getD 3 ⟨#[]⟩) != 0)
  case true => simp only [cond_true, h3]; rfl
  simp only [cond_false]
  rfl
theorem rcT4 {ss : List ByteArray} (h : record_Named_1 (rcW ss) = true) (hl : ss.length = 5) (ha : recAr (record_Named_0 (rcW ss)) = 4) (bs : Nat → List Bool) (hb : ∀ i, conj (bs i) = true) :
    (bif rd1 (ss.getD 1 ⟨#[]⟩) != 0 then rcR (rcE (rd1 (ss.getD 1 ⟨#[]⟩))) (bs 1) else (bif rd1 (ss.getD 2 ⟨#[]⟩) != 0 then rcR (rcE (rd1 (ss.getD 2 ⟨#[]⟩))) (bs 2) else (bif rd1 (ss.getD 3 ⟨#[]⟩) != 0 then rcR (rcE (rd1 (ss.getD 3 ⟨#[]⟩))) (bs 3) else (bif rd1 (ss.getD 4 ⟨#[]⟩) != 0 then rcR (rcE (rd1 (ss.getD 4 ⟨#[]⟩))) (bs 4) else rcR (.tup [.agg [vi (record_Named_0 (rcW ss)), vi (rd0 (ss.getD 1 ⟨#[]⟩)), vi (rd0 (ss.getD 2 ⟨#[]⟩)), vi (rd0 (ss.getD 3 ⟨#[]⟩)), vi (rd0 (ss.getD 4 ⟨#[]⟩))], vi 0]) (bs 0))))) = some (.ret (rcV ss) ⟨[], 99⟩ true) := by
  unfold rcV
  rw [rcX_c (j := 4) h hl ha]
  unfold rcR
  simp only [rlF, hb]
  cases h1 : (rd1 (ss.getD 1 ⟨#[]⟩) != 0)
  case true => simp only [cond_true, h1]; rfl
  simp only [cond_false]
  cases h2 : (rd1 (ss.getD 2 ⟨#[]⟩) != 0)
  case true => simp only [cond_true, h2]; rfl
  simp only [cond_false]
  cases h3 : (rd1 (ss.getD 3 ⟨#[]⟩) != 0)
  case true => simp only [cond_true, h3]; rfl
  simp only [cond_false]
  cases h4 : (rd1 (ss.getD 4 ⟨#[]⟩) != 0)
  case true => simp only [cond_true, h4]; rfl
  simp only [cond_false]
  rfl
end Go.Proofs.YtpmcflidggofkaaDoor

namespace Go.Proofs.YtpmcflidggofkaaDoor
open Go Go.RowKit
set_option maxRecDepth 100000
theorem ok_cuX (ss : List ByteArray) (n : Nat) : SpecOk Tryd.prog 51 (e_cuX ss n) := fun m args v mo bs h hb => by
  unfold e_cuX at h
  split at h <;> try cases h
  rename_i s c
  split at h <;> try cases h
  rename_i hc
  have hc := of_decide_eq_true hc
  subst hc
  simp only [List.all_cons, List.all_nil, id, Bool.and_eq_true, Bool.and_true, decide_eq_true_eq] at hb
  obtain ⟨b1, b2, b3⟩ := hb
  have b3 := Nat.eq_of_beq_eq_true b3
  have h0 := ok_cut m [vs s, .val (.int .u8 32)] _ _ _ rfl (by simp [b1])
  rw [cutV_eq, b2, b3] at h0
  exact h0
abbrev rkC : List Cut := [(0, [2, 4, 5, 6, 7], [0, 1, 2], 3), (1, [2, 4, 5, 6, 7], [0, 1, 2], 3), (2, [2, 4, 5, 6, 7], [0, 1, 2], 3), (3, [2, 4, 5, 6, 7], [0, 1, 2], 3)]
abbrev L_rk (ss : List ByteArray) (n : Nat) : List (FuncId × Spec) := (51, e_cuX ss n) :: (52, e_rfr) :: (58, e_rar) :: L_rw
theorem hE_rk (ss : List ByteArray) (n : Nat) : ESound Tryd.prog (envOf (L_rk ss n)) := env_cons (ok_cuX ss n) (env_cons ok_rfr (env_cons ok_rar hE_rw))
abbrev L_rkN (ss : List ByteArray) (j : Nat) : List (FuncId × Spec) := (51, e_cuX ss (j + 1)) :: (52, e_rfr) :: (58, e_arN j) :: L_rw
theorem hE_rkN (ss : List ByteArray) (j : Nat) : ESound Tryd.prog (envOf (L_rkN ss j)) := env_cons (ok_cuX ss (j + 1)) (env_cons ok_rfr (env_cons (ok_rarN j) hE_rw))
abbrev rkT (n : Nat) (k i : Int) : List AV := [.unk, .unk, .ptr 0 1 0 0, .unk, .sl false 1 1 0 1 n none, vi k, .sl true 2 1 0 1 21 (some 21), vi i] ++ List.replicate 58 .unk
abbrev rkM (ss : List ByteArray) : MS := ⟨[(0, some ⟨true, false, .cells [vi 0, vi 0, vi 0, vi 0, vi 0]⟩), (1, some ⟨false, false, .col (.strs ss)⟩), (2, some ⟨true, false, wdCol⟩)], 3⟩
abbrev rkH (td : List Item) (ss : List ByteArray) (n : Nat) (k i : Int) (bs : List Bool) : Option Fin_ := some (.head td (rkT n k i) (rkM ss) (conj bs))
theorem rk_begin (s : ByteArray) (ss : List ByteArray) (n : Nat) : F_ Tryd.prog (L_rk ss n) Tryd.f19 rkC [] 99 [vs s] noMem = some (.head (hd Tryd.f19 0) (rkT n (-1) 0) ⟨[(0, some ⟨true, false, .cells [vi 0, vi 0, vi 0, vi 0, vi 0]⟩), (1, some ⟨false, false, .col (.strs ss)⟩), (2, some ⟨true, false, wdCol⟩)], 3⟩ (conj [Nat.ble s.size 4294967296, decide (splitL s sp1 = ss), Nat.beq ss.length n])) := by kernel_rfl
abbrev wdI (i : Int) : ByteArray := wdL.getD (smJ i) ⟨#[]⟩
theorem rk_round (ss : List ByteArray) (n : Nat) (k i : Int) : HO_ Tryd.prog (L_rk ss n) Tryd.f19 rkC [] 99 [1, 2] (hd Tryd.f19 0) (rkT n k i) (rkM ss) =
    bif (wdI i).toList == (rcW ss).toList then rkH (hd Tryd.f19 0) ss n i (IntKind.i64.wrap (i + 1)) [decide (i < 21), decide (0 ≤ i), decide (i.toNat < 21), decide (smJ i < 21), decide (0 < n), decide (0 < ss.length)]
    else rkH (hd Tryd.f19 0) ss n k (IntKind.i64.wrap (i + 1)) [decide (i < 21), decide (0 ≤ i), decide (i.toNat < 21), decide (smJ i < 21), decide (0 < n), decide (0 < ss.length)] := by kernel_rfl
theorem rk_a (ss : List ByteArray) (n : Nat) (k : Int) : HO_ Tryd.prog (L_rk ss n) Tryd.f19 [] [] 99 [2, 1] (hd Tryd.f19 0) (rkT n k 21) (rkM ss) = rcR (rcE 40) [decide (k < 0)] := by kernel_rfl
theorem rk_b (ss : List ByteArray) (n : Nat) (k : Int) : HO_ Tryd.prog (L_rk ss n) Tryd.f19 [] [] 99 [2, 0, 1] (hd Tryd.f19 0) (rkT n k 21) (rkM ss) = rcR (rcE 41) [!decide (k < 0), Int.ofNat n != IntKind.i64.wrap (1 + recAr k)] := by kernel_rfl
theorem rk_c0 (ss : List ByteArray) (k : Int) : HO_ Tryd.prog (L_rkN ss 0) Tryd.f19 [] [] 99 [2, 0] (hd Tryd.f19 0) (rkT 1 k 21) (rkM ss) =
    rcR (.tup [.agg [vi (k), vi (0), vi (0), vi (0), vi (0)], vi 0]) [!decide (k < 0), recAr k == 0] := by kernel_rfl
theorem rk_c1 (ss : List ByteArray) (k : Int) : HO_ Tryd.prog (L_rkN ss 1) Tryd.f19 [] [] 99 [2, 0] (hd Tryd.f19 0) (rkT 2 k 21) (rkM ss) =
    bif rf1 (ss.getD 1 ⟨#[]⟩) != 0 then rcR (rcE (rf1 (ss.getD 1 ⟨#[]⟩))) [!decide (k < 0), recAr k == 1, decide (1 < ss.length), Nat.ble (ss.getD 1 ⟨#[]⟩).size 9223372036854775807] else rcR (.tup [.agg [vi (k), vi (rf0 (ss.getD 1 ⟨#[]⟩)), vi (0), vi (0), vi (0)], vi 0]) [!decide (k < 0), recAr k == 1, decide (1 < ss.length), Nat.ble (ss.getD 1 ⟨#[]⟩).size 9223372036854775807] := by kernel_rfl
theorem rk_c2 (ss : List ByteArray) (k : Int) : HO_ Tryd.prog (L_rkN ss 2) Tryd.f19 [] [] 99 [2, 0] (hd Tryd.f19 0) (rkT 3 k 21) (rkM ss) =
    bif rf1 (ss.getD 1 ⟨#[]⟩) != 0 then rcR (rcE (rf1 (ss.getD 1 ⟨#[]⟩))) [!decide (k < 0), recAr k == 2, decide (1 < ss.length), Nat.ble (ss.getD 1 ⟨#[]⟩).size 9223372036854775807] else bif rf1 (ss.getD 2 ⟨#[]⟩) != 0 then rcR (rcE (rf1 (ss.getD 2 ⟨#[]⟩))) [!decide (k < 0), recAr k == 2, decide (1 < ss.length), Nat.ble (ss.getD 1 ⟨#[]⟩).size 9223372036854775807, decide (2 < ss.length), Nat.ble (ss.getD 2 ⟨#[]⟩).size 9223372036854775807] else rcR (.tup [.agg [vi (k), vi (rf0 (ss.getD 1 ⟨#[]⟩)), vi (rf0 (ss.getD 2 ⟨#[]⟩)), vi (0), vi (0)], vi 0]) [!decide (k < 0), recAr k == 2, decide (1 < ss.length), Nat.ble (ss.getD 1 ⟨#[]⟩).size 9223372036854775807, decide (2 < ss.length), Nat.ble (ss.getD 2 ⟨#[]⟩).size 9223372036854775807] := by kernel_rfl
theorem rk_c3 (ss : List ByteArray) (k : Int) : HO_ Tryd.prog (L_rkN ss 3) Tryd.f19 [] [] 99 [2, 0] (hd Tryd.f19 0) (rkT 4 k 21) (rkM ss) =
    bif rf1 (ss.getD 1 ⟨#[]⟩) != 0 then rcR (rcE (rf1 (ss.getD 1 ⟨#[]⟩))) [!decide (k < 0), recAr k == 3, decide (1 < ss.length), Nat.ble (ss.getD 1 ⟨#[]⟩).size 9223372036854775807] else bif rf1 (ss.getD 2 ⟨#[]⟩) != 0 then rcR (rcE (rf1 (ss.getD 2 ⟨#[]⟩))) [!decide (k < 0), recAr k == 3, decide (1 < ss.length), Nat.ble (ss.getD 1 ⟨#[]⟩).size 9223372036854775807, decide (2 < ss.length), Nat.ble (ss.getD 2 ⟨#[]⟩).size 9223372036854775807] else bif rf1 (ss.getD 3 ⟨#[]⟩) != 0 then rcR (rcE (rf1 (ss.getD 3 ⟨#[]⟩))) [!decide (k < 0), recAr k == 3, decide (1 < ss.length), Nat.ble (ss.getD 1 ⟨#[]⟩).size 9223372036854775807, decide (2 < ss.length), Nat.ble (ss.getD 2 ⟨#[]⟩).size 9223372036854775807, decide (3 < ss.length), Nat.ble (ss.getD 3 ⟨#[]⟩).size 9223372036854775807] else rcR (.tup [.agg [vi (k), vi (rf0 (ss.getD 1 ⟨#[]⟩)), vi (rf0 (ss.getD 2 ⟨#[]⟩)), vi (rf0 (ss.getD 3 ⟨#[]⟩)), vi (0)], vi 0]) [!decide (k < 0), recAr k == 3, decide (1 < ss.length), Nat.ble (ss.getD 1 ⟨#[]⟩).size 9223372036854775807, decide (2 < ss.length), Nat.ble (ss.getD 2 ⟨#[]⟩).size 9223372036854775807, decide (3 < ss.length), Nat.ble (ss.getD 3 ⟨#[]⟩).size 9223372036854775807] := by kernel_rfl
theorem rk_c4 (ss : List ByteArray) (k : Int) : HO_ Tryd.prog (L_rkN ss 4) Tryd.f19 [] [] 99 [2, 0] (hd Tryd.f19 0) (rkT 5 k 21) (rkM ss) =
    bif rf1 (ss.getD 1 ⟨#[]⟩) != 0 then rcR (rcE (rf1 (ss.getD 1 ⟨#[]⟩))) [!decide (k < 0), recAr k == 4, decide (1 < ss.length), Nat.ble (ss.getD 1 ⟨#[]⟩).size 9223372036854775807] else bif rf1 (ss.getD 2 ⟨#[]⟩) != 0 then rcR (rcE (rf1 (ss.getD 2 ⟨#[]⟩))) [!decide (k < 0), recAr k == 4, decide (1 < ss.length), Nat.ble (ss.getD 1 ⟨#[]⟩).size 9223372036854775807, decide (2 < ss.length), Nat.ble (ss.getD 2 ⟨#[]⟩).size 9223372036854775807] else bif rf1 (ss.getD 3 ⟨#[]⟩) != 0 then rcR (rcE (rf1 (ss.getD 3 ⟨#[]⟩))) [!decide (k < 0), recAr k == 4, decide (1 < ss.length), Nat.ble (ss.getD 1 ⟨#[]⟩).size 9223372036854775807, decide (2 < ss.length), Nat.ble (ss.getD 2 ⟨#[]⟩).size 9223372036854775807, decide (3 < ss.length), Nat.ble (ss.getD 3 ⟨#[]⟩).size 9223372036854775807] else bif rf1 (ss.getD 4 ⟨#[]⟩) != 0 then rcR (rcE (rf1 (ss.getD 4 ⟨#[]⟩))) [!decide (k < 0), recAr k == 4, decide (1 < ss.length), Nat.ble (ss.getD 1 ⟨#[]⟩).size 9223372036854775807, decide (2 < ss.length), Nat.ble (ss.getD 2 ⟨#[]⟩).size 9223372036854775807, decide (3 < ss.length), Nat.ble (ss.getD 3 ⟨#[]⟩).size 9223372036854775807, decide (4 < ss.length), Nat.ble (ss.getD 4 ⟨#[]⟩).size 9223372036854775807] else rcR (.tup [.agg [vi (k), vi (rf0 (ss.getD 1 ⟨#[]⟩)), vi (rf0 (ss.getD 2 ⟨#[]⟩)), vi (rf0 (ss.getD 3 ⟨#[]⟩)), vi (rf0 (ss.getD 4 ⟨#[]⟩))], vi 0]) [!decide (k < 0), recAr k == 4, decide (1 < ss.length), Nat.ble (ss.getD 1 ⟨#[]⟩).size 9223372036854775807, decide (2 < ss.length), Nat.ble (ss.getD 2 ⟨#[]⟩).size 9223372036854775807, decide (3 < ss.length), Nat.ble (ss.getD 3 ⟨#[]⟩).size 9223372036854775807, decide (4 < ss.length), Nat.ble (ss.getD 4 ⟨#[]⟩).size 9223372036854775807] := by kernel_rfl
/-- The last word that is the first piece. -/
def kwF (w : ByteArray) : Nat → Int
  | 0 => -1
  | i + 1 => bif (wdL.getD i ⟨#[]⟩).toList == w.toList then (i : Int) else kwF w i
theorem kwF_eq (w : ByteArray) : kwF w 21 = bif record_Named_1 w then record_Named_0 w else -1 := by
  rw [nm0, nm1]
  have w0 : (wdL.getD 0 ⟨#[]⟩).toList = [97, 108, 108, 111, 99] := by kernel_rfl
  have w1 : (wdL.getD 1 ⟨#[]⟩).toList = [103, 108, 111, 98, 97, 108] := by kernel_rfl
  have w2 : (wdL.getD 2 ⟨#[]⟩).toList = [114, 101, 108, 101, 97, 115, 101] := by kernel_rfl
  have w3 : (wdL.getD 3 ⟨#[]⟩).toList = [112, 117, 115, 104] := by kernel_rfl
  have w4 : (wdL.getD 4 ⟨#[]⟩).toList = [112, 111, 112] := by kernel_rfl
  have w5 : (wdL.getD 5 ⟨#[]⟩).toList = [119, 101, 97, 107] := by kernel_rfl
  have w6 : (wdL.getD 6 ⟨#[]⟩).toList = [117, 110, 119, 101, 97, 107] := by kernel_rfl
  have w7 : (wdL.getD 7 ⟨#[]⟩).toList = [100, 101, 114, 101, 102] := by kernel_rfl
  have w8 : (wdL.getD 8 ⟨#[]⟩).toList = [99, 111, 112, 121] := by kernel_rfl
  have w9 : (wdL.getD 9 ⟨#[]⟩).toList = [110, 117, 108, 108] := by kernel_rfl
  have w10 : (wdL.getD 10 ⟨#[]⟩).toList = [108, 111, 97, 100] := by kernel_rfl
  have w11 : (wdL.getD 11 ⟨#[]⟩).toList = [115, 116, 111, 114, 101] := by kernel_rfl
  have w12 : (wdL.getD 12 ⟨#[]⟩).toList = [103, 101, 116] := by kernel_rfl
  have w13 : (wdL.getD 13 ⟨#[]⟩).toList = [115, 101, 116] := by kernel_rfl
  have w14 : (wdL.getD 14 ⟨#[]⟩).toList = [115, 97, 109, 101] := by kernel_rfl
  have w15 : (wdL.getD 15 ⟨#[]⟩).toList = [115, 105, 122, 101] := by kernel_rfl
  have w16 : (wdL.getD 16 ⟨#[]⟩).toList = [97, 103, 101] := by kernel_rfl
  have w17 : (wdL.getD 17 ⟨#[]⟩).toList = [99, 111, 108, 108, 101, 99, 116] := by kernel_rfl
  have w18 : (wdL.getD 18 ⟨#[]⟩).toList = [115, 116, 97, 116, 115] := by kernel_rfl
  have w19 : (wdL.getD 19 ⟨#[]⟩).toList = [99, 101, 110, 115, 117, 115] := by kernel_rfl
  have w20 : (wdL.getD 20 ⟨#[]⟩).toList = [112, 114, 111, 102, 105, 108, 101] := by kernel_rfl
  simp only [kwF, w0, w1, w2, w3, w4, w5, w6, w7, w8, w9, w10, w11, w12, w13, w14, w15, w16, w17, w18, w19, w20]
  unfold bw0 bw1
  exact bif_no (bif_no (bif_no (bif_no (bif_no (bif_no (bif_no (bif_no (bif_no (bif_no (bif_no (bif_no (bif_no (bif_no (bif_no (bif_no (bif_no (bif_no (bif_no (bif_no (bif_no (rfl)))))))))))))))))))))
theorem rk_go (ss : List ByteArray) (n : Nat) (h0 : 0 < n) (hn : ss.length = n) : ∀ i, i ≤ 21 → Goes Tryd.prog 0 ⟨hd Tryd.f19 0, rkT n (-1) 0, rkM ss⟩ ⟨hd Tryd.f19 0, rkT n (kwF (rcW ss) i) (i : Int), rkM ss⟩
  | 0, _ => Goes.refl
  | i + 1, hi => by
    have h := rk_round ss n (kwF (rcW ss) i) (i : Int)
    have hw : IntKind.i64.wrap ((i : Int) + 1) = ((i + 1 : Nat) : Int) := by rw [IntWalk.i64_in _ (by omega)]; rfl
    have hc : conj [decide ((i : Int) < 21), decide (0 ≤ (i : Int)), decide ((i : Int).toNat < 21), decide (smJ (i : Int) < 21), decide (0 < n), decide (0 < ss.length)] = true := by
      simp only [conj, smJ_eq, Bool.and_eq_true, decide_eq_true_eq]
      exact ⟨by omega, by omega, by omega, by omega, h0, by omega, trivial⟩
    unfold rkH at h
    rw [hw, hc] at h
    refine Goes.trans (rk_go ss n h0 hn i (by omega)) ?_
    simp only [kwF]
    simp only [wdI, smJ_eq] at h
    cases hb : ((wdL.getD i ⟨#[]⟩).toList == (rcW ss).toList) with
    | true =>
      rw [hb, cond_true] at h
      exact HO_head (f := Tryd.f19) (B := 0) (hE_rk ss n) mixed rfl h rfl
    | false =>
      rw [hb, cond_false] at h
      exact HO_head (f := Tryd.f19) (B := 0) (hE_rk ss n) mixed rfl h rfl
theorem pcs_pos (s : ByteArray) : 0 < (splitL s sp1).length := by
  rw [show (splitL s sp1).length = Lib.countB s sp1 + 1 from Lib.splitB_all sp1 (by decide) 0 _ s rfl]
  omega
theorem pcs_size (s : ByteArray) (hs : s.size ≤ 9223372036854775807) (i : Nat) : Nat.ble ((splitL s sp1).getD i ⟨#[]⟩).size 9223372036854775807 = true := Nat.ble_eq_true_of_le (Nat.le_trans (splitL_at s sp1 i) hs)
/-- What a name's arity may be. -/
theorem ar_named {w : ByteArray} (h : record_Named_1 w = true) : 0 ≤ record_Named_0 w ∧ ∃ j : Nat, recAr (record_Named_0 w) = Int.ofNat j ∧ j < 5 := by
  obtain ⟨n, hn, hlt⟩ := named_in h
  have hI : record_Is_0 (record_Named_0 w) = true := by rw [hn]; exact nat_is hlt
  obtain ⟨h1, h2, h3⟩ := ar_r (record_Named_0 w)
  have h4 : ¬ recAr (record_Named_0 w) < 0 := fun h => by rw [h3.1 h] at hI; cases hI
  exact ⟨by omega, (recAr (record_Named_0 w)).toNat, by show _ = (((recAr (record_Named_0 w)).toNat : Nat) : Int); omega, by omega⟩

def rcP (ss : List ByteArray) : Nat → List Bool
  | 0 => []
  | i + 1 => rcP ss i ++ [decide (i + 1 < ss.length), Nat.ble (ss.getD (i + 1) ⟨#[]⟩).size 9223372036854775807]
theorem conj_app : ∀ (a b : List Bool), conj a = true → conj b = true → conj (a ++ b) = true
  | [], b, _, h => h
  | x :: a, b, h, h' => by
    simp only [List.cons_append, conj, Bool.and_eq_true] at h ⊢
    exact ⟨h.1, conj_app a b h.2 h'⟩
theorem rcP_ok {ss : List ByteArray} (hs : ∀ i, Nat.ble (ss.getD i ⟨#[]⟩).size 9223372036854775807 = true) : ∀ i, i < ss.length → conj (rcP ss i) = true
  | 0, _ => rfl
  | i + 1, h => conj_app _ _ (rcP_ok hs i (by omega)) (by rw [decide_eq_true h, hs]; rfl)
theorem rcR_sub {v : AV} {bs bs' : List Bool} (h : conj bs = true) (h' : conj bs' = true) : rcR v bs = rcR v bs' := by unfold rcR; rw [h, h']
/-- What both hand back. -/
theorem rd_all (x : Int) (s : ByteArray) (hs : s.size < 4294967281) : Gives_ Tryd.prog Tryd.f18 1 (enterA Tryd.f18 (bodyOf Tryd.f18) [vs s] (mlM [x])) (rcV (splitL s sp1)) ⟨[], 99⟩ := by
  have hb1 : Nat.blt (lenB s) 4294967281 = true := by rw [Nat.blt_eq, lenB_eq]; exact hs
  have hp := pcs_pos s
  have hz := pcs_size s (by omega)
  generalize hss : splitL s sp1 = ss at *
  cases h1 : record_Named_1 (rcW ss) with
  | false =>
    have h := rd_a x s ss ss.length
    unfold rcV
    rw [rcX_a h1]
    refine FO_ret (c := bodyOf Tryd.f18) (hE_rd ss ss.length) mixed rfl rfl h ?_
    unfold rqO
    rw [hb1, hss, h1, decide_eq_true hp, Nat.beq_refl, decide_eq_true (rfl : ss = ss)]
    rfl
  | true =>
    obtain ⟨_, j, hj, hj5⟩ := ar_named h1
    by_cases hl : ss.length = j + 1
    · have hO : ∀ i, i ≤ j → conj (rqO s ss (j + 1) ++ [decide (0 < ss.length), !!record_Named_1 (rcW ss), recAr (record_Named_0 (rcW ss)) == Int.ofNat j] ++ rcP ss i) = true := fun i hi => by
        refine conj_app _ _ ?_ (rcP_ok hz i (by omega))
        unfold rqO
        rw [hb1, hss, h1, hj, decide_eq_true hp, hl, Nat.beq_refl, decide_eq_true (rfl : ss = ss), beq_self_eq_true]
        rfl
      match j, hj5 with
      | 0, _ =>
        have h := rd_c0 x s ss
        refine FO_ret (c := bodyOf Tryd.f18) (chk := true) (hE_rdN ss 0) mixed rfl rfl (h.trans (Eq.trans ?_ (rcT0 h1 hl hj (fun _ => []) (fun _ => rfl)))) rfl
        exact rcR_sub (hO 0 (by omega)) rfl
      | 1, _ =>
        have h := rd_c1 x s ss
        refine FO_ret (c := bodyOf Tryd.f18) (chk := true) (hE_rdN ss 1) mixed rfl rfl (h.trans (Eq.trans ?_ (rcT1 h1 hl hj (fun _ => []) (fun _ => rfl)))) rfl
        refine congr (congr (congrArg cond rfl) (rcR_sub (hO 1 (by omega)) rfl)) ?_
        exact rcR_sub (hO 1 (by omega)) rfl
      | 2, _ =>
        have h := rd_c2 x s ss
        refine FO_ret (c := bodyOf Tryd.f18) (chk := true) (hE_rdN ss 2) mixed rfl rfl (h.trans (Eq.trans ?_ (rcT2 h1 hl hj (fun _ => []) (fun _ => rfl)))) rfl
        refine congr (congr (congrArg cond rfl) (rcR_sub (hO 1 (by omega)) rfl)) ?_
        refine congr (congr (congrArg cond rfl) (rcR_sub (hO 2 (by omega)) rfl)) ?_
        exact rcR_sub (hO 2 (by omega)) rfl
      | 3, _ =>
        have h := rd_c3 x s ss
        refine FO_ret (c := bodyOf Tryd.f18) (chk := true) (hE_rdN ss 3) mixed rfl rfl (h.trans (Eq.trans ?_ (rcT3 h1 hl hj (fun _ => []) (fun _ => rfl)))) rfl
        refine congr (congr (congrArg cond rfl) (rcR_sub (hO 1 (by omega)) rfl)) ?_
        refine congr (congr (congrArg cond rfl) (rcR_sub (hO 2 (by omega)) rfl)) ?_
        refine congr (congr (congrArg cond rfl) (rcR_sub (hO 3 (by omega)) rfl)) ?_
        exact rcR_sub (hO 3 (by omega)) rfl
      | 4, _ =>
        have h := rd_c4 x s ss
        refine FO_ret (c := bodyOf Tryd.f18) (chk := true) (hE_rdN ss 4) mixed rfl rfl (h.trans (Eq.trans ?_ (rcT4 h1 hl hj (fun _ => []) (fun _ => rfl)))) rfl
        refine congr (congr (congrArg cond rfl) (rcR_sub (hO 1 (by omega)) rfl)) ?_
        refine congr (congr (congrArg cond rfl) (rcR_sub (hO 2 (by omega)) rfl)) ?_
        refine congr (congr (congrArg cond rfl) (rcR_sub (hO 3 (by omega)) rfl)) ?_
        refine congr (congr (congrArg cond rfl) (rcR_sub (hO 4 (by omega)) rfl)) ?_
        exact rcR_sub (hO 4 (by omega)) rfl
    · have h := rd_b x s ss ss.length
      unfold rcV
      have hne : (Int.ofNat ss.length - 1 != recAr (record_Named_0 (rcW ss))) = true := by
        rw [hj, bne_iff_ne]
        intro e
        have e : (ss.length : Int) - 1 = (j : Int) := e
        omega
      rw [rcX_b h1 hne]
      refine FO_ret (c := bodyOf Tryd.f18) (hE_rd ss ss.length) mixed rfl rfl h ?_
      have hc := countB_le1 s
      have hll : ss.length = Lib.countB s sp1 + 1 := by rw [← hss]; exact Lib.splitB_all sp1 (by decide) 0 _ s rfl
      have hw : IntKind.i64.wrap (Int.ofNat ss.length - 1) = Int.ofNat ss.length - 1 := IntWalk.i64_in _ (by show -9223372036854775808 ≤ (ss.length : Int) - 1 ∧ (ss.length : Int) - 1 ≤ 9223372036854775807; omega)
      unfold rqO
      rw [hw, hne, hb1, hss, h1, decide_eq_true hp, Nat.beq_refl, decide_eq_true (rfl : ss = ss)]
      rfl
theorem rk_all (s : ByteArray) (hs : s.size < 4294967281) : Gives_ Tryd.prog Tryd.f19 0 (enterA Tryd.f19 (bodyOf Tryd.f19) [vs s] noMem) (rcV (splitL s sp1)) ⟨[], 99⟩ := by
  have hb1 : Nat.ble s.size 4294967296 = true := Nat.ble_eq_true_of_le (by omega)
  have hp := pcs_pos s
  have hz := pcs_size s (by omega)
  have hcl : (splitL s sp1).length ≤ 4294967282 := by
    have hc := countB_le1 s
    rw [show (splitL s sp1).length = Lib.countB s sp1 + 1 from Lib.splitB_all sp1 (by decide) 0 _ s rfl]
    omega
  generalize hss : splitL s sp1 = ss at *
  have h0 := rk_begin s ss ss.length
  rw [hb1, hss, Nat.beq_refl, decide_eq_true (rfl : ss = ss)] at h0
  have g0 := F_head (f := Tryd.f19) (c := bodyOf Tryd.f19) (hE_rk ss ss.length) mixed rfl rfl h0
  refine Goes.gives (Goes.trans g0 (rk_go ss ss.length hp rfl 21 (Nat.le_refl _))) ?_
  rw [kwF_eq]
  cases h1 : record_Named_1 (rcW ss) with
  | false =>
    have h := rk_a ss ss.length (-1)
    unfold rcV
    rw [rcX_a h1]
    exact HO_ret (B := 0) (hE_rk ss ss.length) mixed rfl h rfl
  | true =>
    obtain ⟨hk0, j, hj, hj5⟩ := ar_named h1
    rw [cond_true]
    have hk : decide (record_Named_0 (rcW ss) < 0) = false := decide_eq_false (by omega)
    by_cases hl : ss.length = j + 1
    · have hO : ∀ i, i ≤ j → conj ([!decide (record_Named_0 (rcW ss) < 0), recAr (record_Named_0 (rcW ss)) == Int.ofNat j] ++ rcP ss i) = true := fun i hi => by
        refine conj_app _ _ ?_ (rcP_ok hz i (by omega))
        rw [hk, hj, beq_self_eq_true]
        rfl
      rw [hl]
      match j, hj5 with
      | 0, _ =>
        have h := rk_c0 ss (record_Named_0 (rcW ss))
        refine HO_ret (B := 0) (chk := true) (hE_rkN ss 0) mixed rfl (h.trans (Eq.trans ?_ (rcT0 h1 hl hj (fun _ => []) (fun _ => rfl)))) rfl
        exact rcR_sub (hO 0 (by omega)) rfl
      | 1, _ =>
        have h := rk_c1 ss (record_Named_0 (rcW ss))
        simp only [rf1_eq, rf0_eq] at h
        refine HO_ret (B := 0) (chk := true) (hE_rkN ss 1) mixed rfl (h.trans (Eq.trans ?_ (rcT1 h1 hl hj (fun _ => []) (fun _ => rfl)))) rfl
        refine congr (congr (congrArg cond rfl) (rcR_sub (hO 1 (by omega)) rfl)) ?_
        exact rcR_sub (hO 1 (by omega)) rfl
      | 2, _ =>
        have h := rk_c2 ss (record_Named_0 (rcW ss))
        simp only [rf1_eq, rf0_eq] at h
        refine HO_ret (B := 0) (chk := true) (hE_rkN ss 2) mixed rfl (h.trans (Eq.trans ?_ (rcT2 h1 hl hj (fun _ => []) (fun _ => rfl)))) rfl
        refine congr (congr (congrArg cond rfl) (rcR_sub (hO 1 (by omega)) rfl)) ?_
        refine congr (congr (congrArg cond rfl) (rcR_sub (hO 2 (by omega)) rfl)) ?_
        exact rcR_sub (hO 2 (by omega)) rfl
      | 3, _ =>
        have h := rk_c3 ss (record_Named_0 (rcW ss))
        simp only [rf1_eq, rf0_eq] at h
        refine HO_ret (B := 0) (chk := true) (hE_rkN ss 3) mixed rfl (h.trans (Eq.trans ?_ (rcT3 h1 hl hj (fun _ => []) (fun _ => rfl)))) rfl
        refine congr (congr (congrArg cond rfl) (rcR_sub (hO 1 (by omega)) rfl)) ?_
        refine congr (congr (congrArg cond rfl) (rcR_sub (hO 2 (by omega)) rfl)) ?_
        refine congr (congr (congrArg cond rfl) (rcR_sub (hO 3 (by omega)) rfl)) ?_
        exact rcR_sub (hO 3 (by omega)) rfl
      | 4, _ =>
        have h := rk_c4 ss (record_Named_0 (rcW ss))
        simp only [rf1_eq, rf0_eq] at h
        refine HO_ret (B := 0) (chk := true) (hE_rkN ss 4) mixed rfl (h.trans (Eq.trans ?_ (rcT4 h1 hl hj (fun _ => []) (fun _ => rfl)))) rfl
        refine congr (congr (congrArg cond rfl) (rcR_sub (hO 1 (by omega)) rfl)) ?_
        refine congr (congr (congrArg cond rfl) (rcR_sub (hO 2 (by omega)) rfl)) ?_
        refine congr (congr (congrArg cond rfl) (rcR_sub (hO 3 (by omega)) rfl)) ?_
        refine congr (congr (congrArg cond rfl) (rcR_sub (hO 4 (by omega)) rfl)) ?_
        exact rcR_sub (hO 4 (by omega)) rfl
    · have h := rk_b ss ss.length (record_Named_0 (rcW ss))
      unfold rcV
      have hne : (Int.ofNat ss.length - 1 != recAr (record_Named_0 (rcW ss))) = true := by
        rw [hj, bne_iff_ne]
        intro e
        have e : (ss.length : Int) - 1 = (j : Int) := e
        omega
      rw [rcX_b h1 hne]
      refine HO_ret (B := 0) (hE_rk ss ss.length) mixed rfl h ?_
      have hw : IntKind.i64.wrap (1 + Int.ofNat j) = 1 + Int.ofNat j := IntWalk.i64_in _ (by show -9223372036854775808 ≤ 1 + (j : Int) ∧ 1 + (j : Int) ≤ 9223372036854775807; omega)
      have hn2 : (Int.ofNat ss.length != 1 + Int.ofNat j) = true := by
        rw [bne_iff_ne]
        intro e
        have e : (ss.length : Int) = 1 + (j : Int) := e
        omega
      rw [hk, hj, hw, hn2]
      rfl
def e_rdl : Spec := fun m args => match args with
  | [.val (.string s)] => match isMl m with
    | true => some (rcV (splitL s sp1), none, [Nat.blt s.size 4294967281])
    | false => none
  | _ => none
theorem ok_rdl : SpecOk Tryd.prog 18 e_rdl := fun m args v mo bs h hb => by
  unfold e_rdl at h
  split at h <;> try cases h
  rename_i s
  split at h <;> try cases h
  rename_i hm
  obtain ⟨l, x, wr, op, hl⟩ := isMl_sim hm
  simp only [List.all_cons, List.all_nil, id, Bool.and_true, Nat.blt_eq] at hb
  refine lift_pure (m1 := mlM [x]) (args1 := [vs s]) (fsound (c := bodyOf Tryd.f18) (fun xs w => Tryd.call18 xs w) Tryd.func18 rfl (rd_all x s hb)) rfl rfl fun ρ w xs hm hx => ?_
  refine ⟨fun _ => ρ l, mrel_one (hm.view hl rfl _ _), ?_⟩
  simp only [AV.rels, AV.rel] at hx ⊢
  exact hx
def e_rkl : Spec := fun m args => match args with
  | [.val (.string s)] => some (rcV (splitL s sp1), none, [Nat.blt s.size 4294967281])
  | _ => none
theorem ok_rkl : SpecOk Tryd.prog 19 e_rkl := fun m args v mo bs h hb => by
  unfold e_rkl at h
  split at h
  · cases h
    simp only [List.all_cons, List.all_nil, id, Bool.and_true, Nat.blt_eq] at hb
    exact lift_ground (fsound (c := bodyOf Tryd.f19) (fun xs w => Tryd.call19 xs w) Tryd.func19 rfl (rk_all _ hb)) rfl rfl
  · cases h
end Go.Proofs.YtpmcflidggofkaaDoor

namespace Go.Proofs.YtpmcflidggofkaaDoor
open Go Go.RowKit
set_option maxRecDepth 100000
def e_rtY (r : Bool) : Spec := fun _ args => match args with
  | [.agg [.val (.int .i64 k), .val (.int .i64 a), .val (.int .i64 b), .val (.int .i64 c), .val (.int .i64 d)]] => some (vb r, none, [rtB k a b c d == r])
  | _ => none
theorem ok_rtY {f : FuncId} (h0 : SpecOk Tryd.prog f e_rt) (r : Bool) : SpecOk Tryd.prog f (e_rtY r) := fun m args v mo bs h hb => by
  unfold e_rtY at h
  split at h
  · rename_i k a b c d
    cases h
    simp only [List.all_cons, List.all_nil, id, Bool.and_true, beq_iff_eq] at hb
    have := h0 m [.agg [vi k, vi a, vi b, vi c, vi d]] _ _ _ rfl rfl
    rw [hb] at this
    exact this
  · cases h
abbrev L_ln (j : Nat) (r : Bool) : List (FuncId × Spec) := (45, e_text) :: (59, e_rtY r) :: (56, e_arN j) :: L_rw
theorem hE_ln (j : Nat) (r : Bool) : ESound Tryd.prog (envOf (L_ln j r)) := env_cons ok_text (env_cons (ok_rtY ok_rtp r) (env_cons (ok_arN j) hE_rw))
abbrev L_lr (j : Nat) : List (FuncId × Spec) := (53, e_haymowref03_Text) :: (58, e_arN j) :: L_rw
theorem hE_lr (j : Nat) : ESound Tryd.prog (envOf (L_lr j)) := env_cons ok_haymowref03_Text (env_cons (ok_rarN j) hE_rw)
abbrev lnR (t : ByteArray) (bs : List Bool) : Option Fin_ := some (.ret (vs t) ⟨[], 99⟩ (conj bs))
theorem ln_no (k a b c d : Int) : F_ Tryd.prog (L_ln 0 false) Tryd.f21 [] [] 99 [.agg [vi k, vi a, vi b, vi c, vi d]] noMem = lnR ⟨#[]⟩ [rtB k a b c d == false] := by kernel_rfl
theorem cat_assoc (a b c : ByteArray) : catB a (catB b c) = catB (catB a b) c := by
  unfold catB
  simp
abbrev wlK (k : Int) : ByteArray := wdL.getD (smJ k) ⟨#[]⟩
theorem wd_len : ∀ n : Nat, lenB (wdL.getD n ⟨#[]⟩) ≤ 7 := fun n => by
  rw [List.getD_eq_getElem?_getD]
  by_cases h : n < wdL.length
  · rw [List.getElem?_eq_getElem h]
    have hall : (wdL.all fun w => Nat.ble (lenB w) 7) = true := by kernel_rfl
    exact Nat.le_of_ble_eq_true (List.all_eq_true.1 hall _ (List.getElem_mem h))
  · rw [List.getElem?_eq_none (by omega)]
    exact Nat.zero_le _
theorem recWd_len (k : Int) : lenB (recWd k) ≤ 7 := by
  unfold recWd
  cases record_Is_0 k with
  | true => exact wd_len _
  | false => exact Nat.zero_le _
theorem inI_4 {a b c d : Int} (h : inI [a, b, c, d] = true) : (-9223372036854775808 ≤ a ∧ a ≤ 9223372036854775807) ∧ (-9223372036854775808 ≤ b ∧ b ≤ 9223372036854775807) ∧ (-9223372036854775808 ≤ c ∧ c ≤ 9223372036854775807) ∧ (-9223372036854775808 ≤ d ∧ d ≤ 9223372036854775807) :=
  ⟨inI_at h 0, inI_at h 1, inI_at h 2, inI_at h 3⟩
theorem sp1_len : lenB sp1 = 1 := rfl
theorem ln_0 (k a b c d : Int) : F_ Tryd.prog (L_ln 0 true) Tryd.f21 [] [] 99 [.agg [vi k, vi a, vi b, vi c, vi d]] noMem = lnR (recWd k) [rtB k a b c d == true, recAr k == 0] := by kernel_rfl
theorem ln_ok0 (k a b c d : Int) (hr : rtB k a b c d = true) (ha : recAr k = 0) (hz : inI [a, b, c, d] = true) : F_ Tryd.prog (L_ln 0 true) Tryd.f21 [] [] 99 [.agg [vi k, vi a, vi b, vi c, vi d]] noMem = some (.ret (vs (lsF [a, b, c, d] 0 0 (recWd k))) ⟨[], 99⟩ true) := by
  rw [ln_0]
  obtain ⟨⟨a1, a2⟩, ⟨b1, b2⟩, ⟨c1, c2⟩, ⟨d1, d2⟩⟩ := inI_4 hz
  have w := recWd_len k
  have la := decText_len a
  have lb := decText_len b
  have lc := decText_len c
  have ld := decText_len d
  have s1 := sp1_len
  have hc : conj [rtB k a b c d == true, recAr k == 0] = true := by
    simp only [conj, Bool.and_eq_true, Nat.ble_eq, decide_eq_true_eq, beq_iff_eq, lenB_cat, hr, ha]
    and_intros <;> first | trivial | omega
  unfold lnR
  rw [hc]
  simp only [lsF, List.getD_cons_zero, List.getD_cons_succ, cat_assoc]
theorem lr_0 (k a b c d : Int) : F_ Tryd.prog (L_lr 0) Tryd.f22 [] [] 99 [.agg [vi k, vi a, vi b, vi c, vi d]] noMem = lnR (wlK k) [decide (0 ≤ k), decide (k.toNat < 21), decide (smJ k < 21), recAr k == 0] := by kernel_rfl
theorem lr_ok0 (n : Nat) (a b c d : Int) (hn : n < 21) (ha : recAr (n : Int) = 0) (hz : inI [a, b, c, d] = true) : F_ Tryd.prog (L_lr 0) Tryd.f22 [] [] 99 [.agg [vi (n : Int), vi a, vi b, vi c, vi d]] noMem = some (.ret (vs (lsF [a, b, c, d] 0 0 (wdL.getD n ⟨#[]⟩))) ⟨[], 99⟩ true) := by
  rw [lr_0]
  obtain ⟨⟨a1, a2⟩, ⟨b1, b2⟩, ⟨c1, c2⟩, ⟨d1, d2⟩⟩ := inI_4 hz
  have w := wd_len n
  have la := decText_len a
  have lb := decText_len b
  have lc := decText_len c
  have ld := decText_len d
  have s1 := sp1_len
  obtain ⟨ta, ua⟩ := text03 a a1 a2
  obtain ⟨tb, ub⟩ := text03 b b1 b2
  obtain ⟨tc, uc⟩ := text03 c c1 c2
  obtain ⟨td, ud⟩ := text03 d d1 d2
  unfold lnR wlK
  have hw : (n : Int).toNat = n := Int.toNat_natCast n
  simp only [smJ_eq, hw, ta, tb, tc, td, ua, ub, uc, ud]
  have hc : conj [decide (0 ≤ (n : Int)), decide (n < 21), decide (n < 21), recAr (n : Int) == 0] = true := by
    simp only [conj, Bool.and_eq_true, Nat.ble_eq, decide_eq_true_eq, beq_iff_eq, lenB_cat, ha]
    and_intros <;> first | trivial | omega
  rw [hc]
  simp only [lsF, List.getD_cons_zero, List.getD_cons_succ]
theorem ln_1 (k a b c d : Int) : F_ Tryd.prog (L_ln 1 true) Tryd.f21 [] [] 99 [.agg [vi k, vi a, vi b, vi c, vi d]] noMem = lnR (catB (recWd k) (catB sp1 (decText a))) [rtB k a b c d == true, recAr k == 1, decide (-9223372036854775808 ≤ a), decide (a ≤ 9223372036854775807), Nat.ble (1 + lenB (decText a)) 9223372036854775807, Nat.ble (lenB (recWd k) + lenB (catB sp1 (decText a))) 9223372036854775807] := by kernel_rfl
theorem ln_ok1 (k a b c d : Int) (hr : rtB k a b c d = true) (ha : recAr k = 1) (hz : inI [a, b, c, d] = true) : F_ Tryd.prog (L_ln 1 true) Tryd.f21 [] [] 99 [.agg [vi k, vi a, vi b, vi c, vi d]] noMem = some (.ret (vs (lsF [a, b, c, d] 0 1 (recWd k))) ⟨[], 99⟩ true) := by
  rw [ln_1]
  obtain ⟨⟨a1, a2⟩, ⟨b1, b2⟩, ⟨c1, c2⟩, ⟨d1, d2⟩⟩ := inI_4 hz
  have w := recWd_len k
  have la := decText_len a
  have lb := decText_len b
  have lc := decText_len c
  have ld := decText_len d
  have s1 := sp1_len
  have hc : conj [rtB k a b c d == true, recAr k == 1, decide (-9223372036854775808 ≤ a), decide (a ≤ 9223372036854775807), Nat.ble (1 + lenB (decText a)) 9223372036854775807, Nat.ble (lenB (recWd k) + lenB (catB sp1 (decText a))) 9223372036854775807] = true := by
    simp only [conj, Bool.and_eq_true, Nat.ble_eq, decide_eq_true_eq, beq_iff_eq, lenB_cat, hr, ha]
    and_intros <;> first | trivial | omega
  unfold lnR
  rw [hc]
  simp only [lsF, List.getD_cons_zero, List.getD_cons_succ, cat_assoc]
theorem lr_1 (k a b c d : Int) : F_ Tryd.prog (L_lr 1) Tryd.f22 [] [] 99 [.agg [vi k, vi a, vi b, vi c, vi d]] noMem = lnR (catB (catB (wlK k) sp1) (haymowref03_Text_0 a)) [decide (0 ≤ k), decide (k.toNat < 21), decide (smJ k < 21), recAr k == 1, Nat.ble (lenB (wlK k) + 1) 9223372036854775807, c_haymowref03_Text a, Nat.ble (lenB (catB (wlK k) sp1) + lenB (haymowref03_Text_0 a)) 9223372036854775807, recAr k == 1] := by kernel_rfl
theorem lr_ok1 (n : Nat) (a b c d : Int) (hn : n < 21) (ha : recAr (n : Int) = 1) (hz : inI [a, b, c, d] = true) : F_ Tryd.prog (L_lr 1) Tryd.f22 [] [] 99 [.agg [vi (n : Int), vi a, vi b, vi c, vi d]] noMem = some (.ret (vs (lsF [a, b, c, d] 0 1 (wdL.getD n ⟨#[]⟩))) ⟨[], 99⟩ true) := by
  rw [lr_1]
  obtain ⟨⟨a1, a2⟩, ⟨b1, b2⟩, ⟨c1, c2⟩, ⟨d1, d2⟩⟩ := inI_4 hz
  have w := wd_len n
  have la := decText_len a
  have lb := decText_len b
  have lc := decText_len c
  have ld := decText_len d
  have s1 := sp1_len
  obtain ⟨ta, ua⟩ := text03 a a1 a2
  obtain ⟨tb, ub⟩ := text03 b b1 b2
  obtain ⟨tc, uc⟩ := text03 c c1 c2
  obtain ⟨td, ud⟩ := text03 d d1 d2
  unfold lnR wlK
  have hw : (n : Int).toNat = n := Int.toNat_natCast n
  simp only [smJ_eq, hw, ta, tb, tc, td, ua, ub, uc, ud]
  have hc : conj [decide (0 ≤ (n : Int)), decide (n < 21), decide (n < 21), recAr (n : Int) == 1, Nat.ble (lenB (wdL.getD n ⟨#[]⟩) + 1) 9223372036854775807, true, Nat.ble (lenB (catB (wdL.getD n ⟨#[]⟩) sp1) + lenB (decText a)) 9223372036854775807, recAr (n : Int) == 1] = true := by
    simp only [conj, Bool.and_eq_true, Nat.ble_eq, decide_eq_true_eq, beq_iff_eq, lenB_cat, ha]
    and_intros <;> first | trivial | omega
  rw [hc]
  simp only [lsF, List.getD_cons_zero, List.getD_cons_succ]
theorem ln_2 (k a b c d : Int) : F_ Tryd.prog (L_ln 2 true) Tryd.f21 [] [] 99 [.agg [vi k, vi a, vi b, vi c, vi d]] noMem = lnR (catB (catB (recWd k) (catB sp1 (decText a))) (catB sp1 (decText b))) [rtB k a b c d == true, recAr k == 2, decide (-9223372036854775808 ≤ a), decide (a ≤ 9223372036854775807), Nat.ble (1 + lenB (decText a)) 9223372036854775807, Nat.ble (lenB (recWd k) + lenB (catB sp1 (decText a))) 9223372036854775807, decide (-9223372036854775808 ≤ b), decide (b ≤ 9223372036854775807), Nat.ble (1 + lenB (decText b)) 9223372036854775807, Nat.ble (lenB (catB (recWd k) (catB sp1 (decText a))) + lenB (catB sp1 (decText b))) 9223372036854775807] := by kernel_rfl
theorem ln_ok2 (k a b c d : Int) (hr : rtB k a b c d = true) (ha : recAr k = 2) (hz : inI [a, b, c, d] = true) : F_ Tryd.prog (L_ln 2 true) Tryd.f21 [] [] 99 [.agg [vi k, vi a, vi b, vi c, vi d]] noMem = some (.ret (vs (lsF [a, b, c, d] 0 2 (recWd k))) ⟨[], 99⟩ true) := by
  rw [ln_2]
  obtain ⟨⟨a1, a2⟩, ⟨b1, b2⟩, ⟨c1, c2⟩, ⟨d1, d2⟩⟩ := inI_4 hz
  have w := recWd_len k
  have la := decText_len a
  have lb := decText_len b
  have lc := decText_len c
  have ld := decText_len d
  have s1 := sp1_len
  have hc : conj [rtB k a b c d == true, recAr k == 2, decide (-9223372036854775808 ≤ a), decide (a ≤ 9223372036854775807), Nat.ble (1 + lenB (decText a)) 9223372036854775807, Nat.ble (lenB (recWd k) + lenB (catB sp1 (decText a))) 9223372036854775807, decide (-9223372036854775808 ≤ b), decide (b ≤ 9223372036854775807), Nat.ble (1 + lenB (decText b)) 9223372036854775807, Nat.ble (lenB (catB (recWd k) (catB sp1 (decText a))) + lenB (catB sp1 (decText b))) 9223372036854775807] = true := by
    simp only [conj, Bool.and_eq_true, Nat.ble_eq, decide_eq_true_eq, beq_iff_eq, lenB_cat, hr, ha]
    and_intros <;> first | trivial | omega
  unfold lnR
  rw [hc]
  simp only [lsF, List.getD_cons_zero, List.getD_cons_succ, cat_assoc]
theorem lr_2 (k a b c d : Int) : F_ Tryd.prog (L_lr 2) Tryd.f22 [] [] 99 [.agg [vi k, vi a, vi b, vi c, vi d]] noMem = lnR (catB (catB (catB (catB (wlK k) sp1) (haymowref03_Text_0 a)) sp1) (haymowref03_Text_0 b)) [decide (0 ≤ k), decide (k.toNat < 21), decide (smJ k < 21), recAr k == 2, Nat.ble (lenB (wlK k) + 1) 9223372036854775807, c_haymowref03_Text a, Nat.ble (lenB (catB (wlK k) sp1) + lenB (haymowref03_Text_0 a)) 9223372036854775807, recAr k == 2, Nat.ble (lenB (catB (catB (wlK k) sp1) (haymowref03_Text_0 a)) + 1) 9223372036854775807, c_haymowref03_Text b, Nat.ble (lenB (catB (catB (catB (wlK k) sp1) (haymowref03_Text_0 a)) sp1) + lenB (haymowref03_Text_0 b)) 9223372036854775807, recAr k == 2] := by kernel_rfl
theorem lr_ok2 (n : Nat) (a b c d : Int) (hn : n < 21) (ha : recAr (n : Int) = 2) (hz : inI [a, b, c, d] = true) : F_ Tryd.prog (L_lr 2) Tryd.f22 [] [] 99 [.agg [vi (n : Int), vi a, vi b, vi c, vi d]] noMem = some (.ret (vs (lsF [a, b, c, d] 0 2 (wdL.getD n ⟨#[]⟩))) ⟨[], 99⟩ true) := by
  rw [lr_2]
  obtain ⟨⟨a1, a2⟩, ⟨b1, b2⟩, ⟨c1, c2⟩, ⟨d1, d2⟩⟩ := inI_4 hz
  have w := wd_len n
  have la := decText_len a
  have lb := decText_len b
  have lc := decText_len c
  have ld := decText_len d
  have s1 := sp1_len
  obtain ⟨ta, ua⟩ := text03 a a1 a2
  obtain ⟨tb, ub⟩ := text03 b b1 b2
  obtain ⟨tc, uc⟩ := text03 c c1 c2
  obtain ⟨td, ud⟩ := text03 d d1 d2
  unfold lnR wlK
  have hw : (n : Int).toNat = n := Int.toNat_natCast n
  simp only [smJ_eq, hw, ta, tb, tc, td, ua, ub, uc, ud]
  have hc : conj [decide (0 ≤ (n : Int)), decide (n < 21), decide (n < 21), recAr (n : Int) == 2, Nat.ble (lenB (wdL.getD n ⟨#[]⟩) + 1) 9223372036854775807, true, Nat.ble (lenB (catB (wdL.getD n ⟨#[]⟩) sp1) + lenB (decText a)) 9223372036854775807, recAr (n : Int) == 2, Nat.ble (lenB (catB (catB (wdL.getD n ⟨#[]⟩) sp1) (decText a)) + 1) 9223372036854775807, true, Nat.ble (lenB (catB (catB (catB (wdL.getD n ⟨#[]⟩) sp1) (decText a)) sp1) + lenB (decText b)) 9223372036854775807, recAr (n : Int) == 2] = true := by
    simp only [conj, Bool.and_eq_true, Nat.ble_eq, decide_eq_true_eq, beq_iff_eq, lenB_cat, ha]
    and_intros <;> first | trivial | omega
  rw [hc]
  simp only [lsF, List.getD_cons_zero, List.getD_cons_succ]
theorem ln_3 (k a b c d : Int) : F_ Tryd.prog (L_ln 3 true) Tryd.f21 [] [] 99 [.agg [vi k, vi a, vi b, vi c, vi d]] noMem = lnR (catB (catB (catB (recWd k) (catB sp1 (decText a))) (catB sp1 (decText b))) (catB sp1 (decText c))) [rtB k a b c d == true, recAr k == 3, decide (-9223372036854775808 ≤ a), decide (a ≤ 9223372036854775807), Nat.ble (1 + lenB (decText a)) 9223372036854775807, Nat.ble (lenB (recWd k) + lenB (catB sp1 (decText a))) 9223372036854775807, decide (-9223372036854775808 ≤ b), decide (b ≤ 9223372036854775807), Nat.ble (1 + lenB (decText b)) 9223372036854775807, Nat.ble (lenB (catB (recWd k) (catB sp1 (decText a))) + lenB (catB sp1 (decText b))) 9223372036854775807, decide (-9223372036854775808 ≤ c), decide (c ≤ 9223372036854775807), Nat.ble (1 + lenB (decText c)) 9223372036854775807, Nat.ble (lenB (catB (catB (recWd k) (catB sp1 (decText a))) (catB sp1 (decText b))) + lenB (catB sp1 (decText c))) 9223372036854775807] := by kernel_rfl
theorem ln_ok3 (k a b c d : Int) (hr : rtB k a b c d = true) (ha : recAr k = 3) (hz : inI [a, b, c, d] = true) : F_ Tryd.prog (L_ln 3 true) Tryd.f21 [] [] 99 [.agg [vi k, vi a, vi b, vi c, vi d]] noMem = some (.ret (vs (lsF [a, b, c, d] 0 3 (recWd k))) ⟨[], 99⟩ true) := by
  rw [ln_3]
  obtain ⟨⟨a1, a2⟩, ⟨b1, b2⟩, ⟨c1, c2⟩, ⟨d1, d2⟩⟩ := inI_4 hz
  have w := recWd_len k
  have la := decText_len a
  have lb := decText_len b
  have lc := decText_len c
  have ld := decText_len d
  have s1 := sp1_len
  have hc : conj [rtB k a b c d == true, recAr k == 3, decide (-9223372036854775808 ≤ a), decide (a ≤ 9223372036854775807), Nat.ble (1 + lenB (decText a)) 9223372036854775807, Nat.ble (lenB (recWd k) + lenB (catB sp1 (decText a))) 9223372036854775807, decide (-9223372036854775808 ≤ b), decide (b ≤ 9223372036854775807), Nat.ble (1 + lenB (decText b)) 9223372036854775807, Nat.ble (lenB (catB (recWd k) (catB sp1 (decText a))) + lenB (catB sp1 (decText b))) 9223372036854775807, decide (-9223372036854775808 ≤ c), decide (c ≤ 9223372036854775807), Nat.ble (1 + lenB (decText c)) 9223372036854775807, Nat.ble (lenB (catB (catB (recWd k) (catB sp1 (decText a))) (catB sp1 (decText b))) + lenB (catB sp1 (decText c))) 9223372036854775807] = true := by
    simp only [conj, Bool.and_eq_true, Nat.ble_eq, decide_eq_true_eq, beq_iff_eq, lenB_cat, hr, ha]
    and_intros <;> first | trivial | omega
  unfold lnR
  rw [hc]
  simp only [lsF, List.getD_cons_zero, List.getD_cons_succ, cat_assoc]
theorem lr_3 (k a b c d : Int) : F_ Tryd.prog (L_lr 3) Tryd.f22 [] [] 99 [.agg [vi k, vi a, vi b, vi c, vi d]] noMem = lnR (catB (catB (catB (catB (catB (catB (wlK k) sp1) (haymowref03_Text_0 a)) sp1) (haymowref03_Text_0 b)) sp1) (haymowref03_Text_0 c)) [decide (0 ≤ k), decide (k.toNat < 21), decide (smJ k < 21), recAr k == 3, Nat.ble (lenB (wlK k) + 1) 9223372036854775807, c_haymowref03_Text a, Nat.ble (lenB (catB (wlK k) sp1) + lenB (haymowref03_Text_0 a)) 9223372036854775807, recAr k == 3, Nat.ble (lenB (catB (catB (wlK k) sp1) (haymowref03_Text_0 a)) + 1) 9223372036854775807, c_haymowref03_Text b, Nat.ble (lenB (catB (catB (catB (wlK k) sp1) (haymowref03_Text_0 a)) sp1) + lenB (haymowref03_Text_0 b)) 9223372036854775807, recAr k == 3, Nat.ble (lenB (catB (catB (catB (catB (wlK k) sp1) (haymowref03_Text_0 a)) sp1) (haymowref03_Text_0 b)) + 1) 9223372036854775807, c_haymowref03_Text c, Nat.ble (lenB (catB (catB (catB (catB (catB (wlK k) sp1) (haymowref03_Text_0 a)) sp1) (haymowref03_Text_0 b)) sp1) + lenB (haymowref03_Text_0 c)) 9223372036854775807, recAr k == 3] := by kernel_rfl
theorem lr_ok3 (n : Nat) (a b c d : Int) (hn : n < 21) (ha : recAr (n : Int) = 3) (hz : inI [a, b, c, d] = true) : F_ Tryd.prog (L_lr 3) Tryd.f22 [] [] 99 [.agg [vi (n : Int), vi a, vi b, vi c, vi d]] noMem = some (.ret (vs (lsF [a, b, c, d] 0 3 (wdL.getD n ⟨#[]⟩))) ⟨[], 99⟩ true) := by
  rw [lr_3]
  obtain ⟨⟨a1, a2⟩, ⟨b1, b2⟩, ⟨c1, c2⟩, ⟨d1, d2⟩⟩ := inI_4 hz
  have w := wd_len n
  have la := decText_len a
  have lb := decText_len b
  have lc := decText_len c
  have ld := decText_len d
  have s1 := sp1_len
  obtain ⟨ta, ua⟩ := text03 a a1 a2
  obtain ⟨tb, ub⟩ := text03 b b1 b2
  obtain ⟨tc, uc⟩ := text03 c c1 c2
  obtain ⟨td, ud⟩ := text03 d d1 d2
  unfold lnR wlK
  have hw : (n : Int).toNat = n := Int.toNat_natCast n
  simp only [smJ_eq, hw, ta, tb, tc, td, ua, ub, uc, ud]
  have hc : conj [decide (0 ≤ (n : Int)), decide (n < 21), decide (n < 21), recAr (n : Int) == 3, Nat.ble (lenB (wdL.getD n ⟨#[]⟩) + 1) 9223372036854775807, true, Nat.ble (lenB (catB (wdL.getD n ⟨#[]⟩) sp1) + lenB (decText a)) 9223372036854775807, recAr (n : Int) == 3, Nat.ble (lenB (catB (catB (wdL.getD n ⟨#[]⟩) sp1) (decText a)) + 1) 9223372036854775807, true, Nat.ble (lenB (catB (catB (catB (wdL.getD n ⟨#[]⟩) sp1) (decText a)) sp1) + lenB (decText b)) 9223372036854775807, recAr (n : Int) == 3, Nat.ble (lenB (catB (catB (catB (catB (wdL.getD n ⟨#[]⟩) sp1) (decText a)) sp1) (decText b)) + 1) 9223372036854775807, true, Nat.ble (lenB (catB (catB (catB (catB (catB (wdL.getD n ⟨#[]⟩) sp1) (decText a)) sp1) (decText b)) sp1) + lenB (decText c)) 9223372036854775807, recAr (n : Int) == 3] = true := by
    simp only [conj, Bool.and_eq_true, Nat.ble_eq, decide_eq_true_eq, beq_iff_eq, lenB_cat, ha]
    and_intros <;> first | trivial | omega
  rw [hc]
  simp only [lsF, List.getD_cons_zero, List.getD_cons_succ]
theorem ln_4 (k a b c d : Int) : F_ Tryd.prog (L_ln 4 true) Tryd.f21 [] [] 99 [.agg [vi k, vi a, vi b, vi c, vi d]] noMem = lnR (catB (catB (catB (catB (recWd k) (catB sp1 (decText a))) (catB sp1 (decText b))) (catB sp1 (decText c))) (catB sp1 (decText d))) [rtB k a b c d == true, recAr k == 4, decide (-9223372036854775808 ≤ a), decide (a ≤ 9223372036854775807), Nat.ble (1 + lenB (decText a)) 9223372036854775807, Nat.ble (lenB (recWd k) + lenB (catB sp1 (decText a))) 9223372036854775807, decide (-9223372036854775808 ≤ b), decide (b ≤ 9223372036854775807), Nat.ble (1 + lenB (decText b)) 9223372036854775807, Nat.ble (lenB (catB (recWd k) (catB sp1 (decText a))) + lenB (catB sp1 (decText b))) 9223372036854775807, decide (-9223372036854775808 ≤ c), decide (c ≤ 9223372036854775807), Nat.ble (1 + lenB (decText c)) 9223372036854775807, Nat.ble (lenB (catB (catB (recWd k) (catB sp1 (decText a))) (catB sp1 (decText b))) + lenB (catB sp1 (decText c))) 9223372036854775807, decide (-9223372036854775808 ≤ d), decide (d ≤ 9223372036854775807), Nat.ble (1 + lenB (decText d)) 9223372036854775807, Nat.ble (lenB (catB (catB (catB (recWd k) (catB sp1 (decText a))) (catB sp1 (decText b))) (catB sp1 (decText c))) + lenB (catB sp1 (decText d))) 9223372036854775807] := by kernel_rfl
theorem ln_ok4 (k a b c d : Int) (hr : rtB k a b c d = true) (ha : recAr k = 4) (hz : inI [a, b, c, d] = true) : F_ Tryd.prog (L_ln 4 true) Tryd.f21 [] [] 99 [.agg [vi k, vi a, vi b, vi c, vi d]] noMem = some (.ret (vs (lsF [a, b, c, d] 0 4 (recWd k))) ⟨[], 99⟩ true) := by
  rw [ln_4]
  obtain ⟨⟨a1, a2⟩, ⟨b1, b2⟩, ⟨c1, c2⟩, ⟨d1, d2⟩⟩ := inI_4 hz
  have w := recWd_len k
  have la := decText_len a
  have lb := decText_len b
  have lc := decText_len c
  have ld := decText_len d
  have s1 := sp1_len
  have hc : conj [rtB k a b c d == true, recAr k == 4, decide (-9223372036854775808 ≤ a), decide (a ≤ 9223372036854775807), Nat.ble (1 + lenB (decText a)) 9223372036854775807, Nat.ble (lenB (recWd k) + lenB (catB sp1 (decText a))) 9223372036854775807, decide (-9223372036854775808 ≤ b), decide (b ≤ 9223372036854775807), Nat.ble (1 + lenB (decText b)) 9223372036854775807, Nat.ble (lenB (catB (recWd k) (catB sp1 (decText a))) + lenB (catB sp1 (decText b))) 9223372036854775807, decide (-9223372036854775808 ≤ c), decide (c ≤ 9223372036854775807), Nat.ble (1 + lenB (decText c)) 9223372036854775807, Nat.ble (lenB (catB (catB (recWd k) (catB sp1 (decText a))) (catB sp1 (decText b))) + lenB (catB sp1 (decText c))) 9223372036854775807, decide (-9223372036854775808 ≤ d), decide (d ≤ 9223372036854775807), Nat.ble (1 + lenB (decText d)) 9223372036854775807, Nat.ble (lenB (catB (catB (catB (recWd k) (catB sp1 (decText a))) (catB sp1 (decText b))) (catB sp1 (decText c))) + lenB (catB sp1 (decText d))) 9223372036854775807] = true := by
    simp only [conj, Bool.and_eq_true, Nat.ble_eq, decide_eq_true_eq, beq_iff_eq, lenB_cat, hr, ha]
    and_intros <;> first | trivial | omega
  unfold lnR
  rw [hc]
  simp only [lsF, List.getD_cons_zero, List.getD_cons_succ, cat_assoc]
theorem lr_4 (k a b c d : Int) : F_ Tryd.prog (L_lr 4) Tryd.f22 [] [] 99 [.agg [vi k, vi a, vi b, vi c, vi d]] noMem = lnR (catB (catB (catB (catB (catB (catB (catB (catB (wlK k) sp1) (haymowref03_Text_0 a)) sp1) (haymowref03_Text_0 b)) sp1) (haymowref03_Text_0 c)) sp1) (haymowref03_Text_0 d)) [decide (0 ≤ k), decide (k.toNat < 21), decide (smJ k < 21), recAr k == 4, Nat.ble (lenB (wlK k) + 1) 9223372036854775807, c_haymowref03_Text a, Nat.ble (lenB (catB (wlK k) sp1) + lenB (haymowref03_Text_0 a)) 9223372036854775807, recAr k == 4, Nat.ble (lenB (catB (catB (wlK k) sp1) (haymowref03_Text_0 a)) + 1) 9223372036854775807, c_haymowref03_Text b, Nat.ble (lenB (catB (catB (catB (wlK k) sp1) (haymowref03_Text_0 a)) sp1) + lenB (haymowref03_Text_0 b)) 9223372036854775807, recAr k == 4, Nat.ble (lenB (catB (catB (catB (catB (wlK k) sp1) (haymowref03_Text_0 a)) sp1) (haymowref03_Text_0 b)) + 1) 9223372036854775807, c_haymowref03_Text c, Nat.ble (lenB (catB (catB (catB (catB (catB (wlK k) sp1) (haymowref03_Text_0 a)) sp1) (haymowref03_Text_0 b)) sp1) + lenB (haymowref03_Text_0 c)) 9223372036854775807, recAr k == 4, Nat.ble (lenB (catB (catB (catB (catB (catB (catB (wlK k) sp1) (haymowref03_Text_0 a)) sp1) (haymowref03_Text_0 b)) sp1) (haymowref03_Text_0 c)) + 1) 9223372036854775807, c_haymowref03_Text d, Nat.ble (lenB (catB (catB (catB (catB (catB (catB (catB (wlK k) sp1) (haymowref03_Text_0 a)) sp1) (haymowref03_Text_0 b)) sp1) (haymowref03_Text_0 c)) sp1) + lenB (haymowref03_Text_0 d)) 9223372036854775807, recAr k == 4] := by kernel_rfl
theorem lr_ok4 (n : Nat) (a b c d : Int) (hn : n < 21) (ha : recAr (n : Int) = 4) (hz : inI [a, b, c, d] = true) : F_ Tryd.prog (L_lr 4) Tryd.f22 [] [] 99 [.agg [vi (n : Int), vi a, vi b, vi c, vi d]] noMem = some (.ret (vs (lsF [a, b, c, d] 0 4 (wdL.getD n ⟨#[]⟩))) ⟨[], 99⟩ true) := by
  rw [lr_4]
  obtain ⟨⟨a1, a2⟩, ⟨b1, b2⟩, ⟨c1, c2⟩, ⟨d1, d2⟩⟩ := inI_4 hz
  have w := wd_len n
  have la := decText_len a
  have lb := decText_len b
  have lc := decText_len c
  have ld := decText_len d
  have s1 := sp1_len
  obtain ⟨ta, ua⟩ := text03 a a1 a2
  obtain ⟨tb, ub⟩ := text03 b b1 b2
  obtain ⟨tc, uc⟩ := text03 c c1 c2
  obtain ⟨td, ud⟩ := text03 d d1 d2
  unfold lnR wlK
  have hw : (n : Int).toNat = n := Int.toNat_natCast n
  simp only [smJ_eq, hw, ta, tb, tc, td, ua, ub, uc, ud]
  have hc : conj [decide (0 ≤ (n : Int)), decide (n < 21), decide (n < 21), recAr (n : Int) == 4, Nat.ble (lenB (wdL.getD n ⟨#[]⟩) + 1) 9223372036854775807, true, Nat.ble (lenB (catB (wdL.getD n ⟨#[]⟩) sp1) + lenB (decText a)) 9223372036854775807, recAr (n : Int) == 4, Nat.ble (lenB (catB (catB (wdL.getD n ⟨#[]⟩) sp1) (decText a)) + 1) 9223372036854775807, true, Nat.ble (lenB (catB (catB (catB (wdL.getD n ⟨#[]⟩) sp1) (decText a)) sp1) + lenB (decText b)) 9223372036854775807, recAr (n : Int) == 4, Nat.ble (lenB (catB (catB (catB (catB (wdL.getD n ⟨#[]⟩) sp1) (decText a)) sp1) (decText b)) + 1) 9223372036854775807, true, Nat.ble (lenB (catB (catB (catB (catB (catB (wdL.getD n ⟨#[]⟩) sp1) (decText a)) sp1) (decText b)) sp1) + lenB (decText c)) 9223372036854775807, recAr (n : Int) == 4, Nat.ble (lenB (catB (catB (catB (catB (catB (catB (wdL.getD n ⟨#[]⟩) sp1) (decText a)) sp1) (decText b)) sp1) (decText c)) + 1) 9223372036854775807, true, Nat.ble (lenB (catB (catB (catB (catB (catB (catB (catB (wdL.getD n ⟨#[]⟩) sp1) (decText a)) sp1) (decText b)) sp1) (decText c)) sp1) + lenB (decText d)) 9223372036854775807, recAr (n : Int) == 4] = true := by
    simp only [conj, Bool.and_eq_true, Nat.ble_eq, decide_eq_true_eq, beq_iff_eq, lenB_cat, ha]
    and_intros <;> first | trivial | omega
  rw [hc]
  simp only [lsF, List.getD_cons_zero, List.getD_cons_succ]
def lnV (k a b c d : Int) : ByteArray := bif rtB k a b c d then lsF [a, b, c, d] 0 (recAr k).toNat (recWd k) else ⟨#[]⟩
theorem rtB_in {k a b c d : Int} (h : rtB k a b c d = true) : ∃ n : Nat, k = (n : Int) ∧ n < 21 ∧ ∃ j : Nat, recAr (n : Int) = Int.ofNat j ∧ j < 5 := by
  have hI : record_Is_0 k = true := by
    unfold rtB at h
    cases hk : record_Is_0 k with
    | true => rfl
    | false => rw [hk] at h; cases h
  obtain ⟨n, rfl, hn⟩ := is_nat hI
  obtain ⟨h1, h2, h3⟩ := ar_r (n : Int)
  have h4 : ¬ recAr (n : Int) < 0 := fun h => by rw [h3.1 h] at hI; cases hI
  exact ⟨n, rfl, hn, (recAr (n : Int)).toNat, by show _ = (((recAr (n : Int)).toNat : Nat) : Int); omega, by omega⟩
theorem ln_all (k a b c d : Int) (hz : inI [a, b, c, d] = true) : ∃ j r, F_ Tryd.prog (L_ln j r) Tryd.f21 [] [] 99 [.agg [vi k, vi a, vi b, vi c, vi d]] noMem = some (.ret (vs (lnV k a b c d)) ⟨[], 99⟩ true) := by
  unfold lnV
  cases hr : rtB k a b c d with
  | false =>
    have h := ln_no k a b c d
    unfold lnR at h
    rw [hr] at h
    exact ⟨0, false, h⟩
  | true =>
    obtain ⟨n, rfl, hn, j, hj, hj5⟩ := rtB_in hr
    rw [hj, cond_true, show (Int.ofNat j).toNat = j from rfl]
    match j, hj5 with
    | 0, _ => exact ⟨0, true, ln_ok0 _ a b c d hr hj hz⟩
    | 1, _ => exact ⟨1, true, ln_ok1 _ a b c d hr hj hz⟩
    | 2, _ => exact ⟨2, true, ln_ok2 _ a b c d hr hj hz⟩
    | 3, _ => exact ⟨3, true, ln_ok3 _ a b c d hr hj hz⟩
    | 4, _ => exact ⟨4, true, ln_ok4 _ a b c d hr hj hz⟩
theorem lr_all (k a b c d : Int) (hr : rtB k a b c d = true) (hz : inI [a, b, c, d] = true) : ∃ j, F_ Tryd.prog (L_lr j) Tryd.f22 [] [] 99 [.agg [vi k, vi a, vi b, vi c, vi d]] noMem = some (.ret (vs (lnV k a b c d)) ⟨[], 99⟩ true) := by
  unfold lnV
  rw [hr]
  obtain ⟨n, rfl, hn, j, hj, hj5⟩ := rtB_in hr
  have hw : recWd (n : Int) = wdL.getD n ⟨#[]⟩ := by
    unfold recWd
    rw [nat_is hn, Int.toNat_natCast]
    rfl
  rw [hj, cond_true, show (Int.ofNat j).toNat = j from rfl, hw]
  match j, hj5 with
  | 0, _ => exact ⟨0, lr_ok0 n a b c d hn hj hz⟩
  | 1, _ => exact ⟨1, lr_ok1 n a b c d hn hj hz⟩
  | 2, _ => exact ⟨2, lr_ok2 n a b c d hn hj hz⟩
  | 3, _ => exact ⟨3, lr_ok3 n a b c d hn hj hz⟩
  | 4, _ => exact ⟨4, lr_ok4 n a b c d hn hj hz⟩
def e_line : Spec := fun _ args => match args with
  | [.agg [.val (.int .i64 k), .val (.int .i64 a), .val (.int .i64 b), .val (.int .i64 c), .val (.int .i64 d)]] => some (vs (lnV k a b c d), none, [inI [a, b, c, d]])
  | _ => none
theorem ok_line : SpecOk Tryd.prog 21 e_line := fun m args v mo bs h hb => by
  unfold e_line at h
  split at h
  · rename_i k a b c d
    cases h
    simp only [List.all_cons, List.all_nil, id, Bool.and_true] at hb
    obtain ⟨j, r, hrun⟩ := ln_all k a b c d hb
    exact pure_fn (c := bodyOf Tryd.f21) (hE_ln j r) mixed (fun xs w => Tryd.call21 xs w) Tryd.func21 rfl hrun rfl rfl
  · cases h
def e_rline : Spec := fun _ args => match args with
  | [.agg [.val (.int .i64 k), .val (.int .i64 a), .val (.int .i64 b), .val (.int .i64 c), .val (.int .i64 d)]] => some (vs (lnV k a b c d), none, [rtB k a b c d, inI [a, b, c, d]])
  | _ => none
theorem ok_rline : SpecOk Tryd.prog 22 e_rline := fun m args v mo bs h hb => by
  unfold e_rline at h
  split at h
  · rename_i k a b c d
    cases h
    simp only [List.all_cons, List.all_nil, id, Bool.and_true, Bool.and_eq_true] at hb
    obtain ⟨j, hrun⟩ := lr_all k a b c d hb.1 hb.2
    exact pure_fn (c := bodyOf Tryd.f22) (hE_lr j) mixed (fun xs w => Tryd.call22 xs w) Tryd.func22 rfl hrun rfl rfl
  · cases h
end Go.Proofs.YtpmcflidggofkaaDoor

namespace Go.Proofs.YtpmcflidggofkaaDoor
open Go Go.RowKit
set_option maxRecDepth 100000
abbrev L_rll (r : Bool) : List (FuncId × Spec) := (18, e_rdl) :: (19, e_rkl) :: (20, e_rtY r) :: (21, e_line) :: (22, e_rline) :: L_a34
theorem hE_rll (r : Bool) : ESound Tryd.prog (envOf (L_rll r)) := env_cons ok_rdl (env_cons ok_rkl (env_cons (ok_rtY ok_rtr r) (env_cons ok_line (env_cons ok_rline hE_a34))))
abbrev rcQ (l : List Int) (k a b c d : Int) : Bool := l.getD 0 0 == k && ((l.getD 1 0 == a && (l.getD 2 0 == b && (l.getD 3 0 == c && (l.getD 4 0 == d && true)))) && true)
abbrev rcS (l : List Int) : Bool := rcQ l (l.getD 0 0) (l.getD 1 0) (l.getD 2 0) (l.getD 3 0) (l.getD 4 0)
theorem rl_no (x : Int) (s : ByteArray) (k a b c d : Int) : F_ Tryd.prog (L_rll false) Tryd.f4 [] [] 99 [vs s, .agg [vi k, vi a, vi b, vi c, vi d]] (mlM [x]) =
    bif decide (200 < Int.ofNat s.size) then some (.ret (vb true) ⟨[], 99⟩ true)
    else bif bif !rcS (rcX (splitL s sp1)).1 then true else (rcX (splitL s sp1)).2 != (rcX (splitL s sp1)).2 then some (.ret (vb false) ⟨[], 99⟩ (conj [Nat.blt s.size 4294967281, Nat.blt s.size 4294967281]))
    else some (.ret (vb ((lnV k a b c d).toList == [])) ⟨[], 99⟩ (conj [Nat.blt s.size 4294967281, Nat.blt s.size 4294967281, rtB k a b c d == false, inI [a, b, c, d]])) := by kernel_rfl
theorem rl_yes (x : Int) (s : ByteArray) (k a b c d : Int) : F_ Tryd.prog (L_rll true) Tryd.f4 [] [] 99 [vs s, .agg [vi k, vi a, vi b, vi c, vi d]] (mlM [x]) =
    bif decide (200 < Int.ofNat s.size) then some (.ret (vb true) ⟨[], 99⟩ true)
    else bif bif !rcS (rcX (splitL s sp1)).1 then true else (rcX (splitL s sp1)).2 != (rcX (splitL s sp1)).2 then some (.ret (vb false) ⟨[], 99⟩ (conj [Nat.blt s.size 4294967281, Nat.blt s.size 4294967281]))
    else some (.ret (vb (bif bif (lnV k a b c d).toList == (lnV k a b c d).toList then rcQ (rcX (splitL (lnV k a b c d) sp1)).1 k a b c d else false then (rcX (splitL (lnV k a b c d) sp1)).2 == 0 else false)) ⟨[], 99⟩
      (conj [Nat.blt s.size 4294967281, Nat.blt s.size 4294967281, rtB k a b c d == true, inI [a, b, c, d], Nat.blt (lnV k a b c d).size 4294967281, rtB k a b c d, inI [a, b, c, d]])) := by kernel_rfl
theorem rcS_true (l : List Int) : rcS l = true := by simp [rcS, rcQ]
theorem rlF_shift (w : ByteArray) (ss : List ByteArray) : ∀ (j i : Nat) (zs : List Int), rlF (w :: ss) (i + 1) j zs = rlF ss i j zs
  | 0, i, zs => rfl
  | j + 1, i, zs => by
    simp only [rlF, List.getD_cons_succ]
    rw [rlF_shift w ss j (i + 1)]
theorem wd_free (n : Nat) : ∀ b ∈ (wdL.getD n ⟨#[]⟩).data.toList, b ≠ 32 := by
  rw [List.getD_eq_getElem?_getD]
  by_cases h : n < wdL.length
  · rw [List.getElem?_eq_getElem h]
    have hall : (wdL.all fun w => w.data.toList.all fun b => !(b == 32)) = true := by kernel_rfl
    intro b hb
    have := List.all_eq_true.1 (List.all_eq_true.1 hall _ (List.getElem_mem h)) b hb
    simpa using this
  · rw [List.getElem?_eq_none (by omega)]
    intro b hb
    cases hb
theorem wd_named {n : Nat} (h : n < 21) : record_Named_0 (wdL.getD n ⟨#[]⟩) = (n : Int) ∧ record_Named_1 (wdL.getD n ⟨#[]⟩) = true := by
  have hall : ((List.range 21).all fun n => record_Named_0 (wdL.getD n ⟨#[]⟩) == (n : Int) && record_Named_1 (wdL.getD n ⟨#[]⟩)) = true := by kernel_rfl
  have := List.all_eq_true.1 hall n (List.mem_range.2 h)
  simpa using this
theorem lsF_split (w : ByteArray) (zs : List Int) (n : Nat) (hw : ∀ b ∈ w.data.toList, b ≠ 32) : splitL (lsF zs 0 n w) sp1 = w :: (List.range' 0 n).map fun k => decText (zs.getD k 0) := by
  rw [splitL_pcs, lsF_pcs, pcs_none 32 _ hw]
  simp only [List.singleton_append, List.map_cons, mkB_list, List.map_map]
  congr 1
/-- A line is read back. -/
theorem line_back (n j : Nat) (zs : List Int) (hn : n < 21) (ha : recAr (n : Int) = Int.ofNat j) (hl : j ≤ zs.length) (hz : inI zs = true) : rcX (splitL (lsF zs 0 j (wdL.getD n ⟨#[]⟩)) sp1) = ((n : Int) :: zs.take j, 0) := by
  obtain ⟨h0, h1⟩ := wd_named hn
  rw [lsF_split _ _ _ (wd_free n)]
  have hW : rcW (wdL.getD n ⟨#[]⟩ :: (List.range' 0 j).map fun k => decText (zs.getD k 0)) = wdL.getD n ⟨#[]⟩ := rfl
  have hB := rlF_back zs j hl hz j 0 (by omega)
  rw [List.take_zero] at hB
  rw [rcX_c (j := j) (by rw [hW]; exact h1) (by simp) (by rw [hW, h0]; exact ha), hW, h0, rlF_shift, hB]
  rfl
theorem lnV_eq {n j : Nat} {a b c d : Int} (hr : rtB (n : Int) a b c d = true) (hn : n < 21) (ha : recAr (n : Int) = Int.ofNat j) : lnV (n : Int) a b c d = lsF [a, b, c, d] 0 j (wdL.getD n ⟨#[]⟩) := by
  unfold lnV recWd
  rw [hr, ha, nat_is hn, Int.toNat_natCast]
  rfl
theorem lnV_size (k a b c d : Int) : (lnV k a b c d).size ≤ 91 := by
  unfold lnV
  cases hr : rtB k a b c d with
  | false => exact Nat.zero_le _
  | true =>
    have h := (lsF_len [a, b, c, d] (recAr k).toNat 0 (recWd k)).2
    have hw := recWd_len k
    have h4 := (ar_r k).2.1
    rw [lenB_eq] at h
    rw [cond_true]
    omega
theorem rq_true {k a b c d : Int} (hr : rtB k a b c d = true) (hz : inI [a, b, c, d] = true) : rcQ (rcX (splitL (lnV k a b c d) sp1)).1 k a b c d = true ∧ (rcX (splitL (lnV k a b c d) sp1)).2 = 0 := by
  obtain ⟨n, rfl, hn, j, hj, hj5⟩ := rtB_in hr
  have hrt : rtA j a b c d = true := by
    unfold rtB at hr
    rw [nat_is hn, hj] at hr
    exact hr
  rw [lnV_eq hr hn hj, line_back n j [a, b, c, d] hn hj (by show j ≤ 4; omega) hz]
  refine ⟨?_, rfl⟩
  match j, hj5 with
  | 0, _ =>
    simp only [rtA, Bool.and_eq_true, beq_iff_eq] at hrt
    obtain ⟨rfl, rfl, rfl, rfl⟩ := hrt
    simp [rcQ]
  | 1, _ =>
    simp only [rtA, Bool.and_eq_true, beq_iff_eq] at hrt
    obtain ⟨rfl, rfl, rfl⟩ := hrt
    simp [rcQ]
  | 2, _ =>
    simp only [rtA, Bool.and_eq_true, beq_iff_eq] at hrt
    obtain ⟨rfl, rfl⟩ := hrt
    simp [rcQ]
  | 3, _ =>
    simp only [rtA, Bool.and_eq_true, beq_iff_eq] at hrt
    subst hrt
    simp [rcQ]
  | 4, _ => simp [rcQ]
theorem rll_true (x : Int) (s : ByteArray) (k a b c d : Int) (hz : inI [a, b, c, d] = true) : ∃ r, F_ Tryd.prog (L_rll r) Tryd.f4 [] [] 99 [vs s, .agg [vi k, vi a, vi b, vi c, vi d]] (mlM [x]) = some (.ret (vb true) ⟨[], 99⟩ true) := by
  cases hr : rtB k a b c d with
  | false =>
    refine ⟨false, ?_⟩
    have e0 : ((⟨#[]⟩ : ByteArray).toList == []) = true := by kernel_rfl
    rw [rl_no, rcS_true, bne_self_eq_false, hr, hz, show lnV k a b c d = ⟨#[]⟩ by unfold lnV; rw [hr]; rfl, e0]
    by_cases h : s.size ≤ 200
    · rw [decide_eq_false (show ¬ (200 : Int) < Int.ofNat s.size by simp; omega), show Nat.blt s.size 4294967281 = true by rw [Nat.blt_eq]; omega]
      rfl
    · rw [decide_eq_true (show (200 : Int) < Int.ofNat s.size by simp; omega)]
      rfl
  | true =>
    refine ⟨true, ?_⟩
    obtain ⟨h1, h2⟩ := rq_true hr hz
    have h3 := lnV_size k a b c d
    rw [rl_yes, rcS_true, bne_self_eq_false, h1, h2, hr, hz, beq_self_eq_true, show Nat.blt (lnV k a b c d).size 4294967281 = true by rw [Nat.blt_eq]; omega]
    by_cases h : s.size ≤ 200
    · rw [decide_eq_false (show ¬ (200 : Int) < Int.ofNat s.size by simp; omega), show Nat.blt s.size 4294967281 = true by rw [Nat.blt_eq]; omega]
      rfl
    · rw [decide_eq_true (show (200 : Int) < Int.ofNat s.size by simp; omega)]
      rfl
end Go.Proofs.YtpmcflidggofkaaDoor

namespace Go.Proofs.YtpmcflidggofkaaDoor
open Go Go.RowKit
def hex1 : ByteArray := ⟨#[48, 48, 48, 48, 48, 48, 48, 48, 48, 48, 48, 48, 48, 48, 102, 102]⟩
def e_hx1 : Spec := fun _ args => match args with
  | [.val (.int .u64 255)] => some (vs hex1, none, [])
  | _ => none
theorem ok_hx1 : SpecOk Tryd.prog 46 e_hx1 := fun m args v mo bs h hb => by
  unfold e_hx1 at h
  split at h
  · cases h
    have t : F_ Tryd.prog [] Tryd.f46 [] [] 9999 [vu 255] noMem = some (.ret (vs hex1) ⟨[], 9999⟩ true) := by kernel_rfl
    exact lift_ground (fsound (c := bodyOf Tryd.f46) (fun xs w => Tryd.call46 xs w) Tryd.func46 rfl (F_ret env_nil mixed rfl rfl t)) rfl rfl
  · cases h
def L_dn : List (FuncId × Spec) := (46, e_hx1) :: (44, e_read) :: (52, e_rfr) :: L_strings_TrimPrefix
theorem hE_dn : ESound Tryd.prog (envOf L_dn) := env_cons ok_hx1 (env_cons ok_read (env_cons ok_rfr hE_strings_TrimPrefix))
end Go.Proofs.YtpmcflidggofkaaDoor

namespace Go.Proofs.YtpmcflidggofkaaDoor
open Go Go.RowKit
def s_haymowlaw03_awake : AV := AV.val (Value.bool true)
theorem t_haymowlaw03_awake : F_ Tryd.prog L_dn Tryd.f11 [] [] 99 [] noMem = some (.ret (s_haymowlaw03_awake) { bl := [], nx := 99 } true) := by kernel_rfl
def e_haymowlaw03_awake : Spec := fun _ args => match args with
  | [] => some (s_haymowlaw03_awake , none, [])
  | _ => none
theorem ok_haymowlaw03_awake : SpecOk Tryd.prog 11 e_haymowlaw03_awake := fun m args v mo bs h hb => by
  unfold e_haymowlaw03_awake at h
  split at h
  · cases h
    exact pure_fn (c := bodyOf Tryd.f11) hE_dn mixed (fun xs w => Tryd.call11 xs w) Tryd.func11 rfl (t_haymowlaw03_awake) rfl rfl
  · cases h
def L_haymowlaw03_awake : List (FuncId × Spec) := (11, e_haymowlaw03_awake) :: L_dn
theorem hE_haymowlaw03_awake : ESound Tryd.prog (envOf L_haymowlaw03_awake) := env_cons ok_haymowlaw03_awake hE_dn
end Go.Proofs.YtpmcflidggofkaaDoor

namespace Go.Proofs.YtpmcflidggofkaaDoor
open Go Go.RowKit
def control_Right_0 (c_0 : Int) (c_1 : Int) (c_2 : Int) (c_3 : Int) (c_4 : Int) : Bool := bif bif decide (c_0 < 16) then true else decide (1048576 < c_0) then false else bif bif decide (c_1 < 0) then true else decide (c_0 < c_1) then false else bif decide (0 ≤ c_4) then decide (c_4 ≤ 16) else false
def s_control_Right (c_0 : Int) (c_1 : Int) (c_2 : Int) (c_3 : Int) (c_4 : Int) : AV := AV.val (Value.bool (control_Right_0 c_0 c_1 c_2 c_3 c_4))
theorem t_control_Right (c_0 : Int) (c_1 : Int) (c_2 : Int) (c_3 : Int) (c_4 : Int) : F_ Tryd.prog L_haymowlaw03_awake Tryd.f62 [] [] 99 [AV.agg [AV.val (Value.int IntKind.i64 c_0), AV.val (Value.int IntKind.i64 c_1), AV.val (Value.int IntKind.i64 c_2), AV.val (Value.int IntKind.i64 c_3), AV.val (Value.int IntKind.i64 c_4)]] noMem = some (.ret (s_control_Right c_0 c_1 c_2 c_3 c_4) { bl := [], nx := 99 } true) := by
  have h : F_ Tryd.prog L_haymowlaw03_awake Tryd.f62 [] [] 99 [AV.agg [AV.val (Value.int IntKind.i64 c_0), AV.val (Value.int IntKind.i64 c_1), AV.val (Value.int IntKind.i64 c_2), AV.val (Value.int IntKind.i64 c_3), AV.val (Value.int IntKind.i64 c_4)]] noMem = bif bif decide (c_0 < 16) then true else decide (1048576 < c_0) then some (Fin_.ret (AV.val (Value.bool false)) { bl := [], nx := 99 } true) else bif bif decide (c_1 < 0) then true else decide (c_0 < c_1) then some (Fin_.ret (AV.val (Value.bool false)) { bl := [], nx := 99 } true) else some (Fin_.ret (AV.val (Value.bool (bif decide (0 ≤ c_4) then decide (c_4 ≤ 16) else false))) { bl := [], nx := 99 } true) := by kernel_rfl
  rw [h]
  clear h
  unfold s_control_Right control_Right_0
  generalize (bif decide (c_1 < 0) then true else decide (c_0 < c_1)) = b0_
  generalize (bif decide (c_0 < 16) then true else decide (1048576 < c_0)) = b1_
  cases b1_
  ·
    cases b0_
    ·
      rfl
    ·
      rfl
  ·
    rfl
def e_control_Right : Spec := fun _ args => match args with
  | [.agg [.val (.int .i64 c_0), .val (.int .i64 c_1), .val (.int .i64 c_2), .val (.int .i64 c_3), .val (.int .i64 c_4)]] => some (s_control_Right c_0 c_1 c_2 c_3 c_4, none, [])
  | _ => none
theorem ok_control_Right : SpecOk Tryd.prog 62 e_control_Right := fun m args v mo bs h hb => by
  unfold e_control_Right at h
  split at h
  · cases h
    exact pure_fn (c := bodyOf Tryd.f62) hE_haymowlaw03_awake mixed (fun xs w => Tryd.call62 xs w) Tryd.func62 rfl (t_control_Right _ _ _ _ _) rfl rfl
  · cases h
def L_control_Right : List (FuncId × Spec) := (62, e_control_Right) :: L_haymowlaw03_awake
theorem hE_control_Right : ESound Tryd.prog (envOf L_control_Right) := env_cons ok_control_Right hE_haymowlaw03_awake
def haymowref26_Right_0 (c_0 : Int) (c_1 : Int) (c_2 : Int) (c_3 : Int) (c_4 : Int) : Bool := bif bif bif bif bif decide (16 ≤ c_0) then decide (c_0 ≤ 1048576) else false then decide (0 ≤ c_1) else false then decide (c_1 ≤ c_0) else false then decide (0 ≤ c_4) else false then decide (c_4 ≤ 16) else false
def s_haymowref26_Right (c_0 : Int) (c_1 : Int) (c_2 : Int) (c_3 : Int) (c_4 : Int) : AV := AV.val (Value.bool (haymowref26_Right_0 c_0 c_1 c_2 c_3 c_4))
theorem t_haymowref26_Right (c_0 : Int) (c_1 : Int) (c_2 : Int) (c_3 : Int) (c_4 : Int) : F_ Tryd.prog L_control_Right Tryd.f61 [] [] 99 [AV.agg [AV.val (Value.int IntKind.i64 c_0), AV.val (Value.int IntKind.i64 c_1), AV.val (Value.int IntKind.i64 c_2), AV.val (Value.int IntKind.i64 c_3), AV.val (Value.int IntKind.i64 c_4)]] noMem = some (.ret (s_haymowref26_Right c_0 c_1 c_2 c_3 c_4) { bl := [], nx := 99 } true) := by kernel_rfl
def e_haymowref26_Right : Spec := fun _ args => match args with
  | [.agg [.val (.int .i64 c_0), .val (.int .i64 c_1), .val (.int .i64 c_2), .val (.int .i64 c_3), .val (.int .i64 c_4)]] => some (s_haymowref26_Right c_0 c_1 c_2 c_3 c_4, none, [])
  | _ => none
theorem ok_haymowref26_Right : SpecOk Tryd.prog 61 e_haymowref26_Right := fun m args v mo bs h hb => by
  unfold e_haymowref26_Right at h
  split at h
  · cases h
    exact pure_fn (c := bodyOf Tryd.f61) hE_control_Right mixed (fun xs w => Tryd.call61 xs w) Tryd.func61 rfl (t_haymowref26_Right _ _ _ _ _) rfl rfl
  · cases h
def L_haymowref26_Right : List (FuncId × Spec) := (61, e_haymowref26_Right) :: L_control_Right
theorem hE_haymowref26_Right : ESound Tryd.prog (envOf L_haymowref26_Right) := env_cons ok_haymowref26_Right hE_control_Right
def config_Check_0 (c_0 : Int) (c_1 : Int) (c_2 : Int) (c_3 : Int) (c_4 : Int) : Int := bif !control_Right_0 c_0 c_1 c_2 c_3 c_4 then 42 else bif bif decide (c_2 < 2) then true else decide (64 < c_2) then 42 else bif bif decide (c_3 < 1) then true else decide (32 < c_3) then 42 else 0
def s_config_Check (c_0 : Int) (c_1 : Int) (c_2 : Int) (c_3 : Int) (c_4 : Int) : AV := AV.val (Value.int IntKind.i64 (config_Check_0 c_0 c_1 c_2 c_3 c_4))
theorem t_config_Check (c_0 : Int) (c_1 : Int) (c_2 : Int) (c_3 : Int) (c_4 : Int) : F_ Tryd.prog L_haymowref26_Right Tryd.f30 [] [] 99 [AV.agg [AV.val (Value.int IntKind.i64 c_0), AV.val (Value.int IntKind.i64 c_1), AV.val (Value.int IntKind.i64 c_2), AV.val (Value.int IntKind.i64 c_3), AV.val (Value.int IntKind.i64 c_4)]] noMem = some (.ret (s_config_Check c_0 c_1 c_2 c_3 c_4) { bl := [], nx := 99 } true) := by
  have h : F_ Tryd.prog L_haymowref26_Right Tryd.f30 [] [] 99 [AV.agg [AV.val (Value.int IntKind.i64 c_0), AV.val (Value.int IntKind.i64 c_1), AV.val (Value.int IntKind.i64 c_2), AV.val (Value.int IntKind.i64 c_3), AV.val (Value.int IntKind.i64 c_4)]] noMem = bif !control_Right_0 c_0 c_1 c_2 c_3 c_4 then some (Fin_.ret (AV.val (Value.int IntKind.i64 42)) { bl := [], nx := 99 } true) else bif bif decide (c_2 < 2) then true else decide (64 < c_2) then some (Fin_.ret (AV.val (Value.int IntKind.i64 42)) { bl := [], nx := 99 } true) else bif bif decide (c_3 < 1) then true else decide (32 < c_3) then some (Fin_.ret (AV.val (Value.int IntKind.i64 42)) { bl := [], nx := 99 } true) else some (Fin_.ret (AV.val (Value.int IntKind.i64 0)) { bl := [], nx := 99 } true) := by kernel_rfl
  rw [h]
  clear h
  unfold s_config_Check config_Check_0
  generalize (bif decide (c_3 < 1) then true else decide (32 < c_3)) = b0_
  generalize (bif decide (c_2 < 2) then true else decide (64 < c_2)) = b1_
  generalize (!control_Right_0 c_0 c_1 c_2 c_3 c_4) = b2_
  cases b2_
  ·
    cases b1_
    ·
      cases b0_
      ·
        rfl
      ·
        rfl
    ·
      rfl
  ·
    rfl
def e_config_Check : Spec := fun _ args => match args with
  | [.agg [.val (.int .i64 c_0), .val (.int .i64 c_1), .val (.int .i64 c_2), .val (.int .i64 c_3), .val (.int .i64 c_4)]] => some (s_config_Check c_0 c_1 c_2 c_3 c_4, none, [])
  | _ => none
theorem ok_config_Check : SpecOk Tryd.prog 30 e_config_Check := fun m args v mo bs h hb => by
  unfold e_config_Check at h
  split at h
  · cases h
    exact pure_fn (c := bodyOf Tryd.f30) hE_haymowref26_Right mixed (fun xs w => Tryd.call30 xs w) Tryd.func30 rfl (t_config_Check _ _ _ _ _) rfl rfl
  · cases h
def L_config_Check : List (FuncId × Spec) := (30, e_config_Check) :: L_haymowref26_Right
theorem hE_config_Check : ESound Tryd.prog (envOf L_config_Check) := env_cons ok_config_Check hE_haymowref26_Right
def haymowref32_Right_0 (c_0 : Int) (c_1 : Int) (c_2 : Int) (c_3 : Int) (c_4 : Int) : Bool := bif bif bif bif haymowref26_Right_0 c_0 c_1 c_2 c_3 c_4 then decide (2 ≤ c_2) else false then decide (c_2 ≤ 64) else false then decide (1 ≤ c_3) else false then decide (c_3 ≤ 32) else false
def s_haymowref32_Right (c_0 : Int) (c_1 : Int) (c_2 : Int) (c_3 : Int) (c_4 : Int) : AV := AV.val (Value.bool (haymowref32_Right_0 c_0 c_1 c_2 c_3 c_4))
theorem t_haymowref32_Right (c_0 : Int) (c_1 : Int) (c_2 : Int) (c_3 : Int) (c_4 : Int) : F_ Tryd.prog L_config_Check Tryd.f26 [] [] 99 [AV.agg [AV.val (Value.int IntKind.i64 c_0), AV.val (Value.int IntKind.i64 c_1), AV.val (Value.int IntKind.i64 c_2), AV.val (Value.int IntKind.i64 c_3), AV.val (Value.int IntKind.i64 c_4)]] noMem = some (.ret (s_haymowref32_Right c_0 c_1 c_2 c_3 c_4) { bl := [], nx := 99 } true) := by kernel_rfl
def e_haymowref32_Right : Spec := fun _ args => match args with
  | [.agg [.val (.int .i64 c_0), .val (.int .i64 c_1), .val (.int .i64 c_2), .val (.int .i64 c_3), .val (.int .i64 c_4)]] => some (s_haymowref32_Right c_0 c_1 c_2 c_3 c_4, none, [])
  | _ => none
theorem ok_haymowref32_Right : SpecOk Tryd.prog 26 e_haymowref32_Right := fun m args v mo bs h hb => by
  unfold e_haymowref32_Right at h
  split at h
  · cases h
    exact pure_fn (c := bodyOf Tryd.f26) hE_config_Check mixed (fun xs w => Tryd.call26 xs w) Tryd.func26 rfl (t_haymowref32_Right _ _ _ _ _) rfl rfl
  · cases h
def L_haymowref32_Right : List (FuncId × Spec) := (26, e_haymowref32_Right) :: L_config_Check
theorem hE_haymowref32_Right : ESound Tryd.prog (envOf L_haymowref32_Right) := env_cons ok_haymowref32_Right hE_config_Check
def config_Usual_0 (limit_ : Int) : Int := IntKind.i64.wrap (limit_.tdiv 4)
def s_config_Usual (limit_ : Int) : AV := AV.agg [AV.val (Value.int IntKind.i64 limit_), AV.val (Value.int IntKind.i64 (config_Usual_0 limit_)), AV.val (Value.int IntKind.i64 8), AV.val (Value.int IntKind.i64 16), AV.val (Value.int IntKind.i64 2)]
theorem t_config_Usual (limit_ : Int) : F_ Tryd.prog L_haymowref32_Right Tryd.f29 [] [] 99 [AV.val (Value.int IntKind.i64 limit_)] noMem = some (.ret (s_config_Usual limit_) { bl := [], nx := 99 } true) := by kernel_rfl
def e_config_Usual : Spec := fun _ args => match args with
  | [.val (.int .i64 limit_)] => some (s_config_Usual limit_, none, [])
  | _ => none
theorem ok_config_Usual : SpecOk Tryd.prog 29 e_config_Usual := fun m args v mo bs h hb => by
  unfold e_config_Usual at h
  split at h
  · cases h
    exact pure_fn (c := bodyOf Tryd.f29) hE_haymowref32_Right mixed (fun xs w => Tryd.call29 xs w) Tryd.func29 rfl (t_config_Usual _) rfl rfl
  · cases h
def L_config_Usual : List (FuncId × Spec) := (29, e_config_Usual) :: L_haymowref32_Right
theorem hE_config_Usual : ESound Tryd.prog (envOf L_config_Usual) := env_cons ok_config_Usual hE_haymowref32_Right
end Go.Proofs.YtpmcflidggofkaaDoor

namespace Go.Proofs.YtpmcflidggofkaaDoor
open Go Go.RowKit
theorem take_getD {xs : List Int} {n k : Nat} (h : k < n) : (xs.take n).getD k 0 = xs.getD k 0 := by
  simp [List.getD_eq_getElem?_getD, List.getElem?_take_of_lt h]
theorem sm_all2 (nn nn' : Bool) (n n' : Nat) (c c' : Option Nat) (xs ys : List Int) (hx : n ≤ xs.length) (hy : n' ≤ ys.length) (hn : n ≤ 9223372036854775807) :
    FSound Tryd.prog 16 (smM xs ys) [.sl nn 0 1 0 1 n c, .sl nn' 1 1 0 1 n' c'] (vb (sameL (xs.take n) (ys.take n'))) ⟨[], 99⟩ := by
  have hin := sm_in nn nn' n n' c c' xs ys
  have l1 : (xs.take n).length = n := by simp [Nat.min_eq_left hx]
  have l2 : (ys.take n').length = n' := by simp [Nat.min_eq_left hy]
  by_cases h : n = n'
  · subst h
    rw [show (Int.ofNat n != Int.ofNat n) = false by simp] at hin
    have e : sameL (xs.take n) (ys.take n) = smF xs ys 0 n := by
      rw [Bool.eq_iff_iff, smF_eq]
      unfold sameL
      rw [decide_eq_true_eq]
      constructor
      · intro g k _ hk
        rw [← take_getD (xs := xs) (n := n) (by omega), g, take_getD (by omega)]
      · intro g
        refine ext_getD0 (by rw [l1, l2]) fun k hk => ?_
        rw [l1] at hk
        rw [take_getD hk, take_getD hk]
        exact g k (by omega) (by omega)
    rw [e]
    exact fsound (c := bodyOf Tryd.f16) (fun xs w => Tryd.call16 xs w) Tryd.func16 rfl
      (Goes.gives (F_head (f := Tryd.f16) (c := bodyOf Tryd.f16) (cuts := smC) (ns := []) (top := 99) env_nil sm_mixed rfl rfl hin) (sm_loop nn nn' c c' xs ys n hx hy hn n 0 (by omega)))
  · rw [show (Int.ofNat n != Int.ofNat n') = true by simp; omega] at hin
    have e : sameL (xs.take n) (ys.take n') = false := decide_eq_false (fun g => h (by rw [← l1, ← l2, g]))
    rw [e]
    exact fsound (c := bodyOf Tryd.f16) (fun xs w => Tryd.call16 xs w) Tryd.func16 rfl (F_ret env_nil sm_mixed rfl rfl hin)
def e_same2 : Spec := fun m args => match args with
  | [.sl nn l 1 0 1 n c, .sl nn' l' 1 0 1 n' c'] => match look m.bl l, look m.bl l' with
    | some ⟨_, _, .col (.ints .i64 xs)⟩, some ⟨_, _, .col (.ints .i64 ys)⟩ => some (vb (sameL (xs.take n) (ys.take n')), none, [Nat.ble n xs.length, Nat.ble n' ys.length, Nat.ble n 9223372036854775807])
    | _, _ => none
  | _ => none
theorem ok_same2 : SpecOk Tryd.prog 16 e_same2 := fun m args v mo bs h hb => by
  unfold e_same2 at h
  split at h
  · rename_i nn l n c nn' l' n' c'
    split at h
    · rename_i wr op xs wr' op' ys hl hl'
      cases h
      simp only [List.all_cons, List.all_nil, id, Bool.and_eq_true, Bool.and_true] at hb
      exact lift_2 hl hl' rfl rfl (sm_all2 nn nn' n n' c c' xs ys (Nat.le_of_ble_eq_true hb.1) (Nat.le_of_ble_eq_true hb.2.1) (Nat.le_of_ble_eq_true hb.2.2)) rfl
    · cases h
  · cases h
theorem ok_sameC : SpecOk Tryd.prog 16 (orS e_same2 (inl Tryd.prog [] Tryd.f16)) := orS_ok ok_same2 (inl_ok (c := bodyOf Tryd.f16) env_nil sm_mixed (fun xs w => Tryd.call16 xs w) Tryd.func16 rfl)
end Go.Proofs.YtpmcflidggofkaaDoor

namespace Go.Proofs.YtpmcflidggofkaaDoor
open Go Go.RowKit
set_option maxRecDepth 100000
/-- Cells of numbers are a column. -/
theorem cells_col {k : IntKind} {zs : List Int} {ρ : Rho} {nx : Nat} {cell : Nat → Option Value} (h : (Cont.cells (zs.map fun z => .val (.int k z))).rel ρ nx cell) : (Cont.col (.ints k zs)).rel ρ nx cell := fun r c a ha => by
  cases c <;> simp only [Cont.at] at ha <;> try cases ha
  simp only [Col.at, Option.some.injEq, Prod.mk.injEq, decide_eq_true_eq] at ha
  obtain ⟨rfl, hlt⟩ := ha
  obtain ⟨_, x, h1, h2⟩ := h r 0 (.val (.int k (zs.getD r 0))) (by
    simp only [Cont.at, List.getElem?_map, List.getElem?_eq_getElem hlt, Option.map_some]
    rw [List.getD_eq_getElem?_getD, List.getElem?_eq_getElem hlt]; rfl)
  exact ⟨by simp [Cont.width], x, h1, h2⟩
theorem weak_col {P : Program} {f : FuncId} {m : MS} {args : List AV} {v : AV} {k top : Nat} {kd : IntKind} {zs : List Int} (h : FSound P f m args v ⟨[(k, some ⟨true, false, .cells (zs.map fun z => .val (.int kd z))⟩)], top⟩) :
    FSound P f m args v ⟨[(k, some ⟨true, false, .col (.ints kd zs)⟩)], top⟩ := by
  intro ρ w xs hm hx
  refine Went.mono (h ρ w xs hm hx) fun x w' ⟨ρ1, hr, hm1, mv⟩ => ?_
  obtain ⟨hk, hb⟩ := hm1.blk k _ (by rw [look_cons, if_pos rfl])
  have key : ∀ l b, look [(k, some (⟨true, false, .col (.ints kd zs)⟩ : ABlk))] l = some b → l = k ∧ b = ⟨true, false, .col (.ints kd zs)⟩ := fun l b hl => look_one hl
  refine ⟨ρ1, hr, ⟨fun l b hl => ?_, fun l b l' b' h1 h2 _ hne => ?_⟩, ⟨mv.ext, mv.nx, mv.os, mv.tape, mv.output, mv.size, mv.keep, fun g ⟨l, b, h1, h2, h3⟩ => ?_⟩⟩
  · obtain ⟨rfl, rfl⟩ := key l b hl
    exact ⟨hk, .inl (hb.lt.resolve_right (wr_not_void rfl)), cells_col hb.rel, hb.free, (fun h => by cases h), (fun q h => by cases h)⟩
  · obtain ⟨rfl, rfl⟩ := key l b h1
    obtain ⟨rfl, rfl⟩ := key l' b' h2
    exact absurd rfl hne
  · obtain ⟨rfl, rfl⟩ := key l b h1
    exact mv.fresh g ⟨l, ⟨true, false, .cells (zs.map fun z => .val (.int kd z))⟩, by rw [look_cons, if_pos rfl], rfl, h3⟩
theorem cl_run (a b c d e : Int) : F_ Tryd.prog [] Tryd.f31 [] [1] 99 [.agg [vi a, vi b, vi c, vi d, vi e]] noMem = some (.ret (.sl true 1 1 0 1 5 (some 5)) ⟨[(1, some ⟨true, false, .cells ([a, b, c, d, e].map fun z => .val (.int .i64 z))⟩)], 99⟩ true) := by kernel_rfl
theorem cr_run (a b c d e : Int) : F_ Tryd.prog [] Tryd.f32 [] [1] 99 [.agg [vi a, vi b, vi c, vi d, vi e]] noMem = some (.ret (.sl true 1 1 0 1 5 (some 5)) ⟨[(1, some ⟨true, false, .cells ([a, b, c, d, e].map fun z => .val (.int .i64 z))⟩)], 99⟩ true) := by kernel_rfl
def e_cl : Spec := fun m args => match args with
  | [.agg [.val (.int .i64 a), .val (.int .i64 b), .val (.int .i64 c), .val (.int .i64 d), .val (.int .i64 e)]] => some (.sl true m.nx 1 0 1 5 (some 5), some (m.new ⟨true, false, .col (.ints .i64 [a, b, c, d, e])⟩), [])
  | _ => none
theorem ok_cl : SpecOk Tryd.prog 31 e_cl := fun m args v mo bs h hb => by
  unfold e_cl at h
  split at h
  · cases h
    exact lift_fresh (weak_col (fsound (c := bodyOf Tryd.f31) (fun xs w => Tryd.call31 xs w) Tryd.func31 rfl (F_ret env_nil mixedD rfl rfl (cl_run _ _ _ _ _)))) rfl rfl rfl
  · cases h
theorem ok_cr : SpecOk Tryd.prog 32 e_cl := fun m args v mo bs h hb => by
  unfold e_cl at h
  split at h
  · cases h
    exact lift_fresh (weak_col (fsound (c := bodyOf Tryd.f32) (fun xs w => Tryd.call32 xs w) Tryd.func32 rfl (F_ret env_nil mixedD rfl rfl (cr_run _ _ _ _ _)))) rfl rfl rfl
  · cases h
-- from numbers
def ckL (zs : List Int) : Int := config_Check_0 (zs.getD 0 0) (zs.getD 1 0) (zs.getD 2 0) (zs.getD 3 0) (zs.getD 4 0)
def cfG (zs : List Int) (n k : Nat) : Int := bif Int.ofNat n != 5 then 0 else bif ckL zs != 0 then 0 else zs.getD k 0
def cfE (zs : List Int) (n : Nat) : Int := bif Int.ofNat n != 5 then 41 else ckL zs
theorem ck_eq (a b c d e : Int) : config_Check_0 a b c d e = bif haymowref32_Right_0 a b c d e then 0 else 42 := by
  unfold config_Check_0 haymowref32_Right_0 control_Right_0 haymowref26_Right_0
  by_cases h1 : 16 ≤ a
  case neg => rw [decide_eq_true (show a < 16 by omega), decide_eq_false h1]; rfl
  rw [decide_eq_false (show ¬ a < 16 by omega), decide_eq_true h1]
  by_cases h2 : a ≤ 1048576
  case neg => rw [decide_eq_true (show 1048576 < a by omega), decide_eq_false h2]; rfl
  rw [decide_eq_false (show ¬ 1048576 < a by omega), decide_eq_true h2]
  by_cases h3 : 0 ≤ b
  case neg => rw [decide_eq_true (show b < 0 by omega), decide_eq_false h3]; rfl
  rw [decide_eq_false (show ¬ b < 0 by omega), decide_eq_true h3]
  by_cases h4 : b ≤ a
  case neg => rw [decide_eq_true (show a < b by omega), decide_eq_false h4]; rfl
  rw [decide_eq_false (show ¬ a < b by omega), decide_eq_true h4]
  cases decide (0 ≤ e)
  case false => rfl
  cases decide (e ≤ 16)
  case false => rfl
  by_cases h5 : 2 ≤ c
  case neg => rw [decide_eq_true (show c < 2 by omega), decide_eq_false h5]; rfl
  rw [decide_eq_false (show ¬ c < 2 by omega), decide_eq_true h5]
  by_cases h6 : c ≤ 64
  case neg => rw [decide_eq_true (show 64 < c by omega), decide_eq_false h6]; rfl
  rw [decide_eq_false (show ¬ 64 < c by omega), decide_eq_true h6]
  by_cases h7 : 1 ≤ d
  case neg => rw [decide_eq_true (show d < 1 by omega), decide_eq_false h7]; rfl
  rw [decide_eq_false (show ¬ d < 1 by omega), decide_eq_true h7]
  by_cases h8 : d ≤ 32
  case neg => rw [decide_eq_true (show 32 < d by omega), decide_eq_false h8]; rfl
  rw [decide_eq_false (show ¬ 32 < d by omega), decide_eq_true h8]
  rfl
abbrev cfO (zs : List Int) (n : Nat) : List Bool := [decide (0 < n), decide (0 < zs.length), decide (1 < n), decide (1 < zs.length), decide (2 < n), decide (2 < zs.length), decide (3 < n), decide (3 < zs.length), decide (4 < n), decide (4 < zs.length)]
abbrev cfV (zs : List Int) (n : Nat) : AV := .tup [.agg [vi (cfG zs n 0), vi (cfG zs n 1), vi (cfG zs n 2), vi (cfG zs n 3), vi (cfG zs n 4)], vi (cfE zs n)]
theorem cf_run (nn : Bool) (n : Nat) (c : Option Nat) (zs : List Int) : F_ Tryd.prog L_config_Usual Tryd.f27 [] [] 99 [.sl nn 0 1 0 1 n c] ⟨[dlA zs], 1⟩ =
    bif Int.ofNat n != 5 then some (.ret (.tup [.agg [vi 0, vi 0, vi 0, vi 0, vi 0], vi 41]) ⟨[], 99⟩ true)
    else bif ckL zs != 0 then some (.ret (.tup [.agg [vi 0, vi 0, vi 0, vi 0, vi 0], vi (ckL zs)]) ⟨[], 99⟩ (conj (cfO zs n)))
    else some (.ret (.tup [.agg [vi (zs.getD 0 0), vi (zs.getD 1 0), vi (zs.getD 2 0), vi (zs.getD 3 0), vi (zs.getD 4 0)], vi 0]) ⟨[], 99⟩ (conj (cfO zs n))) := by kernel_rfl
theorem rf_run (nn : Bool) (n : Nat) (c : Option Nat) (zs : List Int) : F_ Tryd.prog L_config_Usual Tryd.f28 [] [] 99 [.sl nn 0 1 0 1 n c] ⟨[dlA zs], 1⟩ =
    bif Int.ofNat n != 5 then some (.ret (.tup [.agg [vi 0, vi 0, vi 0, vi 0, vi 0], vi 41]) ⟨[], 99⟩ true)
    else bif !haymowref32_Right_0 (zs.getD 0 0) (zs.getD 1 0) (zs.getD 2 0) (zs.getD 3 0) (zs.getD 4 0) then some (.ret (.tup [.agg [vi 0, vi 0, vi 0, vi 0, vi 0], vi 42]) ⟨[], 99⟩ (conj (cfO zs n)))
    else some (.ret (.tup [.agg [vi (zs.getD 0 0), vi (zs.getD 1 0), vi (zs.getD 2 0), vi (zs.getD 3 0), vi (zs.getD 4 0)], vi 0]) ⟨[], 99⟩ (conj (cfO zs n))) := by kernel_rfl
theorem cfO_ok {zs : List Int} {n : Nat} (hn : n ≤ zs.length) (h5 : (Int.ofNat n != 5) = false) : conj (cfO zs n) = true := by
  have h : n = 5 := by
    have := bne_eq_false_iff_eq.1 h5
    have : (n : Int) = 5 := this
    omega
  subst h
  simp only [cfO, conj, Bool.and_eq_true, decide_eq_true_eq]
  exact ⟨by omega, by omega, by omega, by omega, by omega, by omega, by omega, by omega, by omega, by omega, trivial⟩
theorem cf_all (nn : Bool) (n : Nat) (c : Option Nat) (zs : List Int) (hn : n ≤ zs.length) : F_ Tryd.prog L_config_Usual Tryd.f27 [] [] 99 [.sl nn 0 1 0 1 n c] ⟨[dlA zs], 1⟩ = some (.ret (cfV zs n) ⟨[], 99⟩ true) := by
  rw [cf_run]
  unfold cfV cfG cfE
  cases h5 : (Int.ofNat n != 5) with
  | true => rfl
  | false =>
    rw [cfO_ok hn h5]
    cases hc : (ckL zs != 0) with
    | true => rfl
    | false => rw [bne_eq_false_iff_eq.1 hc]; rfl
theorem rf_all (nn : Bool) (n : Nat) (c : Option Nat) (zs : List Int) (hn : n ≤ zs.length) : F_ Tryd.prog L_config_Usual Tryd.f28 [] [] 99 [.sl nn 0 1 0 1 n c] ⟨[dlA zs], 1⟩ = some (.ret (cfV zs n) ⟨[], 99⟩ true) := by
  rw [rf_run]
  unfold cfV cfG cfE
  cases h5 : (Int.ofNat n != 5) with
  | true => rfl
  | false =>
    rw [cfO_ok hn h5]
    unfold ckL
    rw [ck_eq]
    cases haymowref32_Right_0 (zs.getD 0 0) (zs.getD 1 0) (zs.getD 2 0) (zs.getD 3 0) (zs.getD 4 0) <;> rfl
def e_cf : Spec := fun m args => match args with
  | [.sl _ l 1 0 1 n _] => match look m.bl l with
    | some ⟨_, _, .col (.ints .i64 zs)⟩ => some (cfV zs n, none, [Nat.ble n zs.length])
    | _ => none
  | _ => none
theorem ok_cf : SpecOk Tryd.prog 27 e_cf := fun m args v mo bs h hb => by
  unfold e_cf at h
  split at h
  · rename_i nn l n c
    split at h
    · rename_i wr op zs hl
      cases h
      simp only [List.all_cons, List.all_nil, id, Bool.and_true] at hb
      exact lift_one (ar := []) (br := []) hl rfl (fsound (c := bodyOf Tryd.f27) (fun xs w => Tryd.call27 xs w) Tryd.func27 rfl (F_ret hE_config_Usual mixedD rfl rfl (cf_all nn n c zs (Nat.le_of_ble_eq_true hb)))) rfl rfl rfl rfl
    · cases h
  · cases h
theorem ok_rf : SpecOk Tryd.prog 28 e_cf := fun m args v mo bs h hb => by
  unfold e_cf at h
  split at h
  · rename_i nn l n c
    split at h
    · rename_i wr op zs hl
      cases h
      simp only [List.all_cons, List.all_nil, id, Bool.and_true] at hb
      exact lift_one (ar := []) (br := []) hl rfl (fsound (c := bodyOf Tryd.f28) (fun xs w => Tryd.call28 xs w) Tryd.func28 rfl (F_ret hE_config_Usual mixedD rfl rfl (rf_all nn n c zs (Nat.le_of_ble_eq_true hb)))) rfl rfl rfl rfl
    · cases h
  · cases h
-- from a text
def cpG (s : ByteArray) (k : Nat) : Int := bif (rlV s).2 != 0 then 0 else cfG (rlV s).1 (rlV s).1.length k
def cpE (s : ByteArray) : Int := bif (rlV s).2 != 0 then (rlV s).2 else cfE (rlV s).1 (rlV s).1.length
abbrev cpV (s : ByteArray) : AV := .tup [.agg [vi (cpG s 0), vi (cpG s 1), vi (cpG s 2), vi (cpG s 3), vi (cpG s 4)], vi (cpE s)]
abbrev L_cp : List (FuncId × Spec) := [(13, e_rl), (27, e_cf)]
theorem hE_cp : ESound Tryd.prog (envOf L_cp) := env_cons ok_rl (env_cons ok_cf env_nil)
abbrev L_rp : List (FuncId × Spec) := [(14, e_rr), (28, e_cf)]
theorem hE_rp : ESound Tryd.prog (envOf L_rp) := env_cons ok_rr (env_cons ok_rf env_nil)
theorem cp_run (x : Int) (s : ByteArray) : F_ Tryd.prog L_cp Tryd.f24 [] [] 99 [vs s] (mlM [x]) =
    bif (rlV s).2 != 0 then some (.ret (.tup [.agg [vi 0, vi 0, vi 0, vi 0, vi 0], vi (rlV s).2]) ⟨[], 99⟩ (conj [Nat.blt s.size 4294967281]))
    else some (.ret (cfV (rlV s).1 (rlV s).1.length) ⟨[], 99⟩ (conj [Nat.blt s.size 4294967281, Nat.ble (rlV s).1.length (rlV s).1.length])) := by kernel_rfl
theorem rp_run (s : ByteArray) : F_ Tryd.prog L_rp Tryd.f25 [] [] 99 [vs s] noMem =
    bif (rrV s).2 != 0 then some (.ret (.tup [.agg [vi 0, vi 0, vi 0, vi 0, vi 0], vi (rrV s).2]) ⟨[], 99⟩ (conj [Nat.ble s.size 4294967296]))
    else some (.ret (cfV (rrV s).1 (rrV s).1.length) ⟨[], 99⟩ (conj [Nat.ble s.size 4294967296, Nat.ble (rrV s).1.length (rrV s).1.length])) := by kernel_rfl
theorem cp_all (x : Int) (s : ByteArray) (hs : s.size < 4294967281) : F_ Tryd.prog L_cp Tryd.f24 [] [] 99 [vs s] (mlM [x]) = some (.ret (cpV s) ⟨[], 99⟩ true) := by
  rw [cp_run, show Nat.blt s.size 4294967281 = true by rw [Nat.blt_eq]; exact hs, Nat.ble_eq_true_of_le (Nat.le_refl _)]
  unfold cpV cpG cpE
  cases (rlV s).2 != 0 <;> rfl
theorem rp_all (s : ByteArray) (hs : s.size < 4294967281) : F_ Tryd.prog L_rp Tryd.f25 [] [] 99 [vs s] noMem = some (.ret (cpV s) ⟨[], 99⟩ true) := by
  rw [rp_run, rrV_eq, Nat.ble_eq_true_of_le (show s.size ≤ 4294967296 by omega), Nat.ble_eq_true_of_le (Nat.le_refl _)]
  unfold cpV cpG cpE
  cases (rlV s).2 != 0 <;> rfl
def e_cp : Spec := fun m args => match args with
  | [.val (.string s)] => match isMl m with
    | true => some (cpV s, none, [Nat.blt s.size 4294967281])
    | false => none
  | _ => none
theorem ok_cp : SpecOk Tryd.prog 24 e_cp := fun m args v mo bs h hb => by
  unfold e_cp at h
  split at h <;> try cases h
  rename_i s
  split at h <;> try cases h
  rename_i hm
  obtain ⟨l, x, wr, op, hl⟩ := isMl_sim hm
  simp only [List.all_cons, List.all_nil, id, Bool.and_true, Nat.blt_eq] at hb
  refine lift_pure (m1 := mlM [x]) (args1 := [vs s]) (fsound (c := bodyOf Tryd.f24) (fun xs w => Tryd.call24 xs w) Tryd.func24 rfl (F_ret hE_cp mixedD rfl rfl (cp_all x s hb))) rfl rfl fun ρ w xs hm hx => ?_
  refine ⟨fun _ => ρ l, mrel_one (hm.view hl rfl _ _), ?_⟩
  simp only [AV.rels, AV.rel] at hx ⊢
  exact hx
def e_rp : Spec := fun m args => match args with
  | [.val (.string s)] => some (cpV s, none, [Nat.blt s.size 4294967281])
  | _ => none
theorem ok_rp : SpecOk Tryd.prog 25 e_rp := fun m args v mo bs h hb => by
  unfold e_rp at h
  split at h
  · cases h
    simp only [List.all_cons, List.all_nil, id, Bool.and_true, Nat.blt_eq] at hb
    exact pure_fn (c := bodyOf Tryd.f25) hE_rp mixedD (fun xs w => Tryd.call25 xs w) Tryd.func25 rfl (rp_all _ hb) rfl rfl
  · cases h
-- as text
abbrev L_ctx : List (FuncId × Spec) := [(31, e_cl), (12, e_list)]
theorem hE_ctx : ESound Tryd.prog (envOf L_ctx) := env_cons ok_cl (env_cons ok_list env_nil)
theorem ctx_run (a b c d e : Int) : F_ Tryd.prog L_ctx Tryd.f33 [] [] 99 [.agg [vi a, vi b, vi c, vi d, vi e]] noMem = some (.ret (vs (listT [a, b, c, d, e] 5)) ⟨[], 99⟩ (conj [inI [a, b, c, d, e]])) := by kernel_rfl
def e_ctx : Spec := fun _ args => match args with
  | [.agg [.val (.int .i64 a), .val (.int .i64 b), .val (.int .i64 c), .val (.int .i64 d), .val (.int .i64 e)]] => some (vs (listT [a, b, c, d, e] 5), none, [inI [a, b, c, d, e]])
  | _ => none
theorem ok_ctx : SpecOk Tryd.prog 33 e_ctx := fun m args v mo bs h hb => by
  unfold e_ctx at h
  split at h
  · rename_i a b c d e
    cases h
    simp only [List.all_cons, List.all_nil, id, Bool.and_true] at hb
    have hr := ctx_run a b c d e
    rw [hb] at hr
    exact pure_fn (c := bodyOf Tryd.f33) hE_ctx mixedD (fun xs w => Tryd.call33 xs w) Tryd.func33 rfl hr rfl rfl
  · cases h
end Go.Proofs.YtpmcflidggofkaaDoor

namespace Go.Proofs.YtpmcflidggofkaaDoor
open Go Go.RowKit
set_option maxRecDepth 100000
theorem aw32_run (x : Int) : F_ Tryd.prog [(24, e_cp)] Tryd.f23 [] [] 99 [] (mlM [x]) = some (.ret (vb true) ⟨[], 99⟩ true) := by kernel_rfl
def e_aw32 : Spec := fun m args => match args with
  | [] => match isMl m with
    | true => some (vb true, none, [])
    | false => none
  | _ => none
theorem ok_aw32 : SpecOk Tryd.prog 23 e_aw32 := fun m args v mo bs h hb => by
  unfold e_aw32 at h
  split at h <;> try cases h
  split at h <;> try cases h
  rename_i hm
  obtain ⟨l, x, wr, op, hl⟩ := isMl_sim hm
  refine lift_pure (m1 := mlM [x]) (args1 := []) (fsound (c := bodyOf Tryd.f23) (fun xs w => Tryd.call23 xs w) Tryd.func23 rfl (F_ret (env_cons ok_cp env_nil) mixedD rfl rfl (aw32_run x))) rfl rfl fun ρ w xs hm hx => ?_
  exact ⟨fun _ => ρ l, mrel_one (hm.view hl rfl _ _), hx⟩
-- answers that are known, as obligations
def e_ck0 : Spec := fun _ args => match args with
  | [.agg [.val (.int .i64 a), .val (.int .i64 b), .val (.int .i64 c), .val (.int .i64 d), .val (.int .i64 e)]] => some (vi 0, none, [config_Check_0 a b c d e == 0])
  | _ => none
theorem ok_ck0 : SpecOk Tryd.prog 30 e_ck0 := fun m args v mo bs h hb => by
  unfold e_ck0 at h
  split at h
  · rename_i a b c d e
    cases h
    simp only [List.all_cons, List.all_nil, id, Bool.and_true, beq_iff_eq] at hb
    have := ok_config_Check m [.agg [vi a, vi b, vi c, vi d, vi e]] _ _ _ rfl rfl
    unfold s_config_Check at this
    rw [hb] at this
    exact this
  · cases h
def e_ck42 : Spec := fun _ args => match args with
  | [.agg [.val (.int .i64 a), .val (.int .i64 b), .val (.int .i64 c), .val (.int .i64 d), .val (.int .i64 e)]] => some (vi 42, none, [config_Check_0 a b c d e == 42])
  | _ => none
theorem ok_ck42 : SpecOk Tryd.prog 30 e_ck42 := fun m args v mo bs h hb => by
  unfold e_ck42 at h
  split at h
  · rename_i a b c d e
    cases h
    simp only [List.all_cons, List.all_nil, id, Bool.and_true, beq_iff_eq] at hb
    have := ok_config_Check m [.agg [vi a, vi b, vi c, vi d, vi e]] _ _ _ rfl rfl
    unfold s_config_Check at this
    rw [hb] at this
    exact this
  · cases h
def e_rg (r : Bool) : Spec := fun _ args => match args with
  | [.agg [.val (.int .i64 a), .val (.int .i64 b), .val (.int .i64 c), .val (.int .i64 d), .val (.int .i64 e)]] => some (vb r, none, [haymowref32_Right_0 a b c d e == r])
  | _ => none
theorem ok_rg (r : Bool) : SpecOk Tryd.prog 26 (e_rg r) := fun m args v mo bs h hb => by
  unfold e_rg at h
  split at h
  · rename_i a b c d e
    cases h
    simp only [List.all_cons, List.all_nil, id, Bool.and_true, beq_iff_eq] at hb
    have := ok_haymowref32_Right m [.agg [vi a, vi b, vi c, vi d, vi e]] _ _ _ rfl rfl
    unfold s_haymowref32_Right at this
    rw [hb] at this
    exact this
  · cases h
def e_sameT : Spec := fun m args => match e_same2 m args with
  | some (.val (.bool b), none, bs) => some (vb true, none, b :: bs)
  | _ => none
theorem ok_sameT : SpecOk Tryd.prog 16 e_sameT := fun m args v mo bs h hb => by
  unfold e_sameT at h
  split at h
  · rename_i b bs0 h0
    cases h
    obtain ⟨h1, h2⟩ := all_cons hb
    subst h1
    exact ok_same2 m args _ _ _ h0 h2
  · cases h
abbrev L_c1 : List (FuncId × Spec) := [(23, e_aw32), (24, e_cp), (25, e_rp)]
theorem hE_c1 : ESound Tryd.prog (envOf L_c1) := env_cons ok_aw32 (env_cons ok_cp (env_cons ok_rp env_nil))
abbrev cpQ (s : ByteArray) : Bool := cpG s 0 == cpG s 0 && (cpG s 1 == cpG s 1 && (cpG s 2 == cpG s 2 && (cpG s 3 == cpG s 3 && (cpG s 4 == cpG s 4 && true))))
theorem cr_law (x : Int) (s : ByteArray) : F_ Tryd.prog L_c1 Tryd.f5 [] [] 99 [vs s] (mlM [x]) =
    bif decide (200 < Int.ofNat s.size) then some (.ret (vb true) ⟨[], 99⟩ true)
    else some (.ret (vb (bif cpQ s then cpE s == cpE s else false)) ⟨[], 99⟩ (conj [Nat.blt s.size 4294967281, Nat.blt s.size 4294967281])) := by kernel_rfl
theorem cr_true (x : Int) (s : ByteArray) : F_ Tryd.prog L_c1 Tryd.f5 [] [] 99 [vs s] (mlM [x]) = some (.ret (vb true) ⟨[], 99⟩ true) := by
  rw [cr_law]
  by_cases h : s.size ≤ 200
  · rw [decide_eq_false (show ¬ (200 : Int) < Int.ofNat s.size by simp; omega), show Nat.blt s.size 4294967281 = true by rw [Nat.blt_eq]; omega]
    unfold cpQ
    simp only [beq_self_eq_true, Bool.and_true, cond_true, cond_false, conj]
  · rw [decide_eq_true (show (200 : Int) < Int.ofNat s.size by simp; omega)]; rfl
abbrev L_cb : List (FuncId × Spec) := (23, e_aw32) :: (24, e_cp) :: (27, e_cf) :: (31, e_cl) :: (33, e_ctx) :: L_config_Usual
theorem hE_cb : ESound Tryd.prog (envOf L_cb) := env_cons ok_aw32 (env_cons ok_cp (env_cons ok_cf (env_cons ok_cl (env_cons ok_ctx hE_config_Usual))))
abbrev tx5 (a b c d e : Int) : ByteArray := listT [a, b, c, d, e] 5
theorem cb_law (x a b c d e lim : Int) : F_ Tryd.prog L_cb Tryd.f7 [] [] 99 [.agg [vi a, vi b, vi c, vi d, vi e], vi lim] (mlM [x]) =
    bif !(config_Check_0 lim (config_Usual_0 lim) 8 16 2 == 0) == bif decide (16 ≤ lim) then decide (lim ≤ 1048576) else false then some (.ret (vb false) ⟨[], 99⟩ true)
    else bif config_Check_0 a b c d e != 0 then some (.ret (vb (bif bif bif cfG [a, b, c, d, e] 5 0 == 0 && (cfG [a, b, c, d, e] 5 1 == 0 && (cfG [a, b, c, d, e] 5 2 == 0 && (cfG [a, b, c, d, e] 5 3 == 0 && (cfG [a, b, c, d, e] 5 4 == 0 && true)))) then
        cpG (tx5 a b c d e) 0 == 0 && (cpG (tx5 a b c d e) 1 == 0 && (cpG (tx5 a b c d e) 2 == 0 && (cpG (tx5 a b c d e) 3 == 0 && (cpG (tx5 a b c d e) 4 == 0 && true)))) else false then cfE [a, b, c, d, e] 5 == 42 else false then cpE (tx5 a b c d e) == 42 else false))
      ⟨[], 99⟩ (conj [inI [a, b, c, d, e], Nat.blt (tx5 a b c d e).size 4294967281]))
    else some (.ret (vb (bif bif bif cfG [a, b, c, d, e] 5 0 == a && (cfG [a, b, c, d, e] 5 1 == b && (cfG [a, b, c, d, e] 5 2 == c && (cfG [a, b, c, d, e] 5 3 == d && (cfG [a, b, c, d, e] 5 4 == e && true)))) then
        cpG (tx5 a b c d e) 0 == a && (cpG (tx5 a b c d e) 1 == b && (cpG (tx5 a b c d e) 2 == c && (cpG (tx5 a b c d e) 3 == d && (cpG (tx5 a b c d e) 4 == e && true)))) else false then cfE [a, b, c, d, e] 5 == 0 else false then cpE (tx5 a b c d e) == 0 else false))
      ⟨[], 99⟩ (conj [inI [a, b, c, d, e], Nat.blt (tx5 a b c d e).size 4294967281])) := by kernel_rfl
theorem usual_ok (lim : Int) (h : -9223372036854775808 ≤ lim ∧ lim ≤ 9223372036854775807) : (config_Check_0 lim (config_Usual_0 lim) 8 16 2 == 0) = bif decide (16 ≤ lim) then decide (lim ≤ 1048576) else false := by
  unfold config_Check_0 control_Right_0 config_Usual_0
  by_cases h1 : 16 ≤ lim
  · rw [decide_eq_true h1, decide_eq_false (show ¬ lim < 16 by omega)]
    by_cases h2 : lim ≤ 1048576
    · have e : IntKind.i64.wrap (lim.tdiv 4) = lim / 4 := by
        rw [Int.tdiv_eq_ediv_of_nonneg (by omega), IntWalk.i64_in _ (by omega)]
      rw [e, decide_eq_true h2, decide_eq_false (show ¬ 1048576 < lim by omega), decide_eq_false (show ¬ lim / 4 < 0 by omega), decide_eq_false (show ¬ lim < lim / 4 by omega)]
      rfl
    · rw [decide_eq_false h2, decide_eq_true (show 1048576 < lim by omega)]; rfl
  · rw [decide_eq_false h1, decide_eq_true (show lim < 16 by omega)]; rfl
theorem cp_back (a b c d e : Int) (hz : inI [a, b, c, d, e] = true) (k : Nat) : cpG (tx5 a b c d e) k = cfG [a, b, c, d, e] 5 k ∧ cpE (tx5 a b c d e) = cfE [a, b, c, d, e] 5 := by
  have hb := list_back [a, b, c, d, e] 5 (Nat.le_refl _) hz
  unfold cpG cpE tx5
  rw [hb]
  exact ⟨rfl, rfl⟩
theorem tx5_size (a b c d e : Int) : (tx5 a b c d e).size ≤ 105 := by
  have := (listT_len [a, b, c, d, e] 5).1
  rw [lenB_eq] at this
  exact this
theorem cb_true (x a b c d e lim : Int) (hz : inI [a, b, c, d, e] = true) (hl : -9223372036854775808 ≤ lim ∧ lim ≤ 9223372036854775807) : F_ Tryd.prog L_cb Tryd.f7 [] [] 99 [.agg [vi a, vi b, vi c, vi d, vi e], vi lim] (mlM [x]) = some (.ret (vb true) ⟨[], 99⟩ true) := by
  have hs := tx5_size a b c d e
  rw [cb_law, usual_ok lim hl]
  have hp := fun k => (cp_back a b c d e hz k).1
  rw [(cp_back a b c d e hz 0).2, hp, hp, hp, hp, hp, hz, show Nat.blt (tx5 a b c d e).size 4294967281 = true by rw [Nat.blt_eq]; omega]
  generalize (bif decide (16 ≤ lim) then decide (lim ≤ 1048576) else false) = u
  have hu : (!u == u) = false := by cases u <;> rfl
  rw [hu, cond_false]
  have hck : ckL [a, b, c, d, e] = config_Check_0 a b c d e := rfl
  have h0 : ∀ k, cfG [a, b, c, d, e] 5 k = bif config_Check_0 a b c d e != 0 then 0 else [a, b, c, d, e].getD k 0 := fun k => rfl
  have hE : cfE [a, b, c, d, e] 5 = config_Check_0 a b c d e := rfl
  rw [h0, h0, h0, h0, h0, hE, ck_eq]
  cases haymowref32_Right_0 a b c d e with
  | true =>
    have f1 : ((bif true then (0 : Int) else 42) != 0) = false := rfl
    rw [f1]
    simp
    rfl
  | false => rfl
abbrev L_ccr (r : Bool) (ck : Spec) : List (FuncId × Spec) := (23, e_aw32) :: (27, e_cf) :: (28, e_cf) :: (31, e_cl) :: (32, e_cl) :: (16, e_sameT) :: (33, e_ctx) :: (15, e_rls) :: (26, e_rg r) :: (30, ck) :: L_config_Usual
theorem hE_ccr (r : Bool) (ck : Spec) (h : SpecOk Tryd.prog 30 ck) : ESound Tryd.prog (envOf (L_ccr r ck)) := env_cons ok_aw32 (env_cons ok_cf (env_cons ok_rf (env_cons ok_cl (env_cons ok_cr (env_cons ok_sameT (env_cons ok_ctx (env_cons ok_rls (env_cons (ok_rg r) (env_cons h hE_config_Usual)))))))))
abbrev ccR (zs : List Int) (n : Nat) (a b c d e lim : Int) : Bool := bif bif bif (tx5 a b c d e).toList == (tx5 a b c d e).toList then cfG zs n 0 == cfG zs n 0 && (cfG zs n 1 == cfG zs n 1 && (cfG zs n 2 == cfG zs n 2 && (cfG zs n 3 == cfG zs n 3 && (cfG zs n 4 == cfG zs n 4 && true)))) else false then cfE zs n == cfE zs n else false then lim == lim && (config_Usual_0 lim == IntKind.i64.wrap (lim.tdiv 4) && true) else false
theorem cc_law1 (x : Int) (nn : Bool) (n : Nat) (k : Option Nat) (zs : List Int) (a b c d e lim : Int) : F_ Tryd.prog (L_ccr true e_ck0) Tryd.f6 [] [] 99 [.agg [vi a, vi b, vi c, vi d, vi e], .sl nn 0 1 0 1 n k, vi lim] ⟨[dlA zs, (1, some ⟨false, false, .obj (.glob 0 (.ints .i64 [x]))⟩)], 2⟩ =
    bif decide (20 < Int.ofNat n) then some (.ret (vb true) ⟨[], 99⟩ true)
    else some (.ret (vb (ccR zs n a b c d e lim)) ⟨[], 99⟩ (conj [haymowref32_Right_0 a b c d e == true, Nat.ble n zs.length, Nat.ble n zs.length, config_Check_0 a b c d e == 0, false || sameL [a, b, c, d, e] [a, b, c, d, e], false || inI [a, b, c, d, e], false || inI [a, b, c, d, e]])) := by kernel_rfl
theorem cc_law2 (x : Int) (nn : Bool) (n : Nat) (k : Option Nat) (zs : List Int) (a b c d e lim : Int) : F_ Tryd.prog (L_ccr false e_ck42) Tryd.f6 [] [] 99 [.agg [vi a, vi b, vi c, vi d, vi e], .sl nn 0 1 0 1 n k, vi lim] ⟨[dlA zs, (1, some ⟨false, false, .obj (.glob 0 (.ints .i64 [x]))⟩)], 2⟩ =
    bif decide (20 < Int.ofNat n) then some (.ret (vb true) ⟨[], 99⟩ true)
    else some (.ret (vb (ccR zs n a b c d e lim)) ⟨[], 99⟩ (conj [haymowref32_Right_0 a b c d e == false, Nat.ble n zs.length, Nat.ble n zs.length, config_Check_0 a b c d e == 42, false || sameL [a, b, c, d, e] [a, b, c, d, e], false || inI [a, b, c, d, e], false || inI [a, b, c, d, e]])) := by kernel_rfl
theorem cc_same (l : List Int) : sameL l l = true := decide_eq_true rfl
theorem ccR_true (zs : List Int) (n : Nat) (a b c d e lim : Int) : ccR zs n a b c d e lim = true := by
  unfold ccR
  rw [show config_Usual_0 lim = IntKind.i64.wrap (lim.tdiv 4) from rfl]
  simp only [beq_self_eq_true, Bool.and_true, cond_true]
theorem cc_true (x : Int) (nn : Bool) (k : Option Nat) (zs : List Int) (a b c d e lim : Int) (hz : inI [a, b, c, d, e] = true) :
    ∃ r ck, SpecOk Tryd.prog 30 ck ∧ F_ Tryd.prog (L_ccr r ck) Tryd.f6 [] [] 99 [.agg [vi a, vi b, vi c, vi d, vi e], .sl nn 0 1 0 1 zs.length k, vi lim] ⟨[dlA zs, (1, some ⟨false, false, .obj (.glob 0 (.ints .i64 [x]))⟩)], 2⟩ = some (.ret (vb true) ⟨[], 99⟩ true) := by
  cases hr : haymowref32_Right_0 a b c d e with
  | true =>
    refine ⟨true, e_ck0, ok_ck0, ?_⟩
    rw [cc_law1, ccR_true, hr, hz, cc_same, ck_eq, hr, Nat.ble_eq_true_of_le (Nat.le_refl _)]
    cases decide (20 < Int.ofNat zs.length) <;> rfl
  | false =>
    refine ⟨false, e_ck42, ok_ck42, ?_⟩
    rw [cc_law2, ccR_true, hr, hz, cc_same, ck_eq, hr, Nat.ble_eq_true_of_le (Nat.le_refl _)]
    cases decide (20 < Int.ofNat zs.length) <;> rfl
end Go.Proofs.YtpmcflidggofkaaDoor

namespace Go.Proofs.YtpmcflidggofkaaDoor
open Go Go.RowKit
/-- The plain wrap, with the world's shape and what is laid handed on. -/
theorem returns_both {H : Type} {enc : TypeId × Value → H} {a : Assume} {C : Checked} {os : Os} {f : FuncId} {fn : Func} {s : ChangeSpec} {conds : List PathCond} {apart fresh handsOn again : Bool} {X : World → Array Value → Prop}
    (hX : ∀ (w w' : World) (args : Array Value), w.heap = w'.heap → X w args → X w' args)
    (own : ownKnob C.prog.godebug = none) (started : os.Started) (noInit : C.prog.inits.idxOf? f = none) (hfn : C.prog.funcs[f]? = some fn)
    (witness : ∃ (w : World) (tape : Tape) (i : Input), w.os = os ∧ (w.forCall tape i).Shaped C.prog ∧ i.vars = [] ∧ Input.okWide C.prog (w.forCall tape i) .any w.heap.size f i ∧
      ((s.pre enc C.prog fn conds apart (w.forCall tape i).memory i.args ∧ X (w.forCall tape i).memory i.args) ∧ sizedMet enc C.prog fn (OpenSpec.ofChange s) apart (w.forCall tape i).memory i.args) ∧ a.holds C.prog (lone (Frame.enter C.prog f i.args .normal) [] (w.forCall tape i)))
    (contract : ∀ (W : World) (base : Nat) (args : Array Value) (ds gs : List (DataW H)) (before : List MemPlace),
      (∀ (j : Nat) t v, fn.params[j]? = some t → args[j]? = some v → Value.okWide C.prog W .any base t v) →
      DataW.Whole enc C.prog fn.params.toList s.vars apart W args.toList ds gs before → X W args → W.ShapedOpen C.prog →
      Calls C.prog f args W fun e W' => ∃ v, e = .returned v ∧ s.post enc C.prog fn apart fresh handsOn again W args v W') :
    ReturnsInHanded a C os f .any (fun w args => (s.pre enc C.prog fn conds apart w args ∧ X w args) ∧ sizedMet enc C.prog fn (OpenSpec.ofChange s) apart w args) (s.post enc C.prog fn apart fresh handsOn again) := by
  refine returnsInHanded_of_calls own started noInit witness ?_
  intro w tape i _ hsh _ hok hpre _
  obtain ⟨_, _, _, fn', hfn', _, _, _, _, hval⟩ := hok
  have e : fn' = fn := Option.some.inj (hfn'.symm.trans hfn)
  subst e
  obtain ⟨⟨⟨ds, gs, before, hw, _⟩, hx⟩, _⟩ := hpre
  have hw' := DataW.Whole.of_heap (w' := w.forCall tape i) (by rfl) hw
  refine (contract (w.forCall tape i) w.heap.size i.args ds gs before hval hw' (hX _ _ _ (by rfl) hx) hsh).mono fun e W' ⟨v, he, hp⟩ => ?_
  subst he
  exact ChangeSpec.post_blind hp
def laidD : List (String × DataW Unit) := [("unicode/utf8.acceptRanges", Rows.laid_unicode_utf8_acceptRanges), ("unicode/utf8.first", Rows.laid_unicode_utf8_first)]
abbrev mlG (x : Int) : ABlk := ⟨false, false, .obj (.glob 0 (.ints .i64 [x]))⟩
/-- The place of MaxLen. -/
theorem ml_there {W : World} (h : W.ShapedOpen Tryd.prog) : ∃ x, ∀ (ρ : Rho) (nx : Nat), (mlG x).ok ρ nx ⟨0, 0, 0⟩ W := by
  obtain ⟨x, hx⟩ := Go.Proofs.cell_of_shapedOpen_int (g := 0) (k := .i64) (t := 3) (zero := #[.int .i64 0]) h (of_decide_eq_true (by kernel_rfl)) (by kernel_rfl) rfl (by kernel_rfl) (by kernel_rfl) Tryd.underlying3
  refine ⟨x, fun ρ nx => ⟨.inl ?_, fun r c a ha => by cases c <;> (simp only [Cont.at] at ha; cases ha), (fun h => by cases h), (fun h => by cases h), fun q hq => ?_⟩⟩
  · simp only [World.cell?] at hx
    split at hx
    · rename_i hh; exact (Array.getElem?_eq_some_iff.1 hh).1
    · cases hx
  · cases hq
    simp only [World.cell?] at hx
    split at hx
    · rename_i c0 t0 f0 hh
      refine ⟨rfl, rfl, c0, _, _, hh, fun j v hv => ?_⟩
      simp only [Col.at, Prod.mk.injEq, decide_eq_true_eq] at hv
      obtain ⟨e, hl⟩ := hv
      cases e
      have : j = 0 := by simp at hl; omega
      subst this
      exact hx
    · cases hx
end Go.Proofs.YtpmcflidggofkaaDoor

namespace Go.Proofs.YtpmcflidggofkaaDoor
open Go Go.ChangeShapes Go.WideShapes Go.ChangeAt Go.RowKit Go.Deep
theorem open_text {H : Type} {enc : TypeId × Value → H} {P : Program} {w : World} {base : Nat} {sp : Nat → Bool} {held : Bool} {r : Reach} {b0 : Nat} {t : TypeId} {v : Value} {d : DataW H} {ps : List MemPlace} (ht : P.underlying t = some .string) (hval : Value.okWide P w r b0 t v) (hd : DataW.Trod enc P w base sp held t v d ps) :
    ∃ s : ByteArray, v = .string s ∧ s.size ≤ maxLen := by
  obtain ⟨s, rfl⟩ := okWide_string ht hval
  obtain ⟨fuel, hf⟩ := hd
  obtain ⟨s', h, hx, hs⟩ := DataW.trod_string ht hf
  simp [Value.cells] at h
  subst h
  exact ⟨s, rfl, hs⟩
end Go.Proofs.YtpmcflidggofkaaDoor

namespace Go.Proofs.YtpmcflidggofkaaDoor
open Go Go.ChangeShapes Go.WideShapes Go.ChangeAt Go.RowKit Go.Deep
theorem inI_of {zs : List Int} (h : ∀ z ∈ zs, (Lit.int .i64 z).wf = true) : inI zs = true := by
  unfold inI
  rw [List.all_eq_true]
  intro z hz
  have := wf_i64 (h z hz)
  rw [decide_eq_true this.1, decide_eq_true this.2]
  rfl
theorem inI_5 {a b c d e : Int} (h1 : (Lit.int .i64 a).wf = true) (h2 : (Lit.int .i64 b).wf = true) (h3 : (Lit.int .i64 c).wf = true) (h4 : (Lit.int .i64 d).wf = true) (h5 : (Lit.int .i64 e).wf = true) : inI [a, b, c, d, e] = true :=
  inI_of fun z hz => by
    simp only [List.mem_cons, List.not_mem_nil, or_false] at hz
    rcases hz with rfl | rfl | rfl | rfl | rfl <;> assumption
theorem ml_mrel {W : World} (hsh : W.ShapedOpen Tryd.prog) : ∃ x, MRel (fun _ => ⟨0, 0, 0⟩) (mlM [x]) W := by
  obtain ⟨x, hx⟩ := ml_there hsh
  exact ⟨x, mrel_one (hx _ _)⟩
theorem cr_any (s : ByteArray) {W : World} (hsh : W.ShapedOpen Tryd.prog) : Gives 5 #[.string s] W (.bool true) := by
  obtain ⟨x, hm⟩ := ml_mrel hsh
  exact gives_true (m := mlM [x]) (args := [vs s]) (xs := [.string s]) (c := bodyOf Tryd.f5) Tryd.func5 rfl (F_ret hE_c1 mixedD rfl rfl (cr_true x s)) rfl hm ⟨_, _, rfl, by simp [AV.rel], rfl⟩
theorem agg5_rel {ρ : Rho} {nx : Nat} (a b c d e : Int) : AV.rel ρ nx (.agg [vi a, vi b, vi c, vi d, vi e]) (.agg #[.int .i64 a, .int .i64 b, .int .i64 c, .int .i64 d, .int .i64 e]) := by
  simp only [AV.rel, AV.rels]
  exact ⟨_, rfl, _, _, rfl, rfl, _, _, rfl, rfl, _, _, rfl, rfl, _, _, rfl, rfl, _, _, rfl, rfl, rfl⟩
theorem cb_any (a b c d e lim : Int) (hz : inI [a, b, c, d, e] = true) (hl : -9223372036854775808 ≤ lim ∧ lim ≤ 9223372036854775807) {W : World} (hsh : W.ShapedOpen Tryd.prog) : Gives 7 #[.agg #[.int .i64 a, .int .i64 b, .int .i64 c, .int .i64 d, .int .i64 e], .int .i64 lim] W (.bool true) := by
  obtain ⟨x, hm⟩ := ml_mrel hsh
  exact gives_true (m := mlM [x]) (args := [.agg [vi a, vi b, vi c, vi d, vi e], vi lim]) (xs := [.agg #[.int .i64 a, .int .i64 b, .int .i64 c, .int .i64 d, .int .i64 e], .int .i64 lim]) (c := bodyOf Tryd.f7) Tryd.func7 rfl (F_ret hE_cb mixedD rfl rfl (cb_true x a b c d e lim hz hl)) rfl hm
    ⟨_, _, rfl, agg5_rel a b c d e, _, _, rfl, by simp [AV.rel], rfl⟩
theorem cc_any (zs : List Int) (A : Option Addr) (n k : Nat) (i : LI) (a b c d e lim : Int) {W : World} (hz : inI [a, b, c, d, e] = true) (hin : InB W A n (.col (.ints .i64 zs)) i) (hl : zs.length = n) (hnc : n ≤ k) (hsh : W.ShapedOpen Tryd.prog) :
    Gives 6 #[.agg #[.int .i64 a, .int .i64 b, .int .i64 c, .int .i64 d, .int .i64 e], .slice A n k, .int .i64 lim] W (.bool true) := by
  obtain ⟨x, hx⟩ := ml_there hsh
  have hm : MRel (fun l => if l = 0 then i else ⟨0, 0, 0⟩) ⟨[dlA zs, (1, some (mlG x))], 2⟩ W := mrel_two (hin.ok _ _) (hx _ _) rfl rfl
  have ha := InB.arg (ρ := fun l => if l = 0 then i else ⟨0, 0, 0⟩) (l := 0) (nx := 2) (c := k) (n := n) hin (by omega) hnc 1 1
  subst hl
  obtain ⟨r, ck, hck, hrun⟩ := cc_true x false (some k) zs a b c d e lim hz
  exact gives_true (m := ⟨[dlA zs, (1, some (mlG x))], 2⟩) (args := [.agg [vi a, vi b, vi c, vi d, vi e], .sl false 0 1 0 1 zs.length (some k), vi lim]) (xs := [.agg #[.int .i64 a, .int .i64 b, .int .i64 c, .int .i64 d, .int .i64 e], .slice A zs.length k, .int .i64 lim]) (c := bodyOf Tryd.f6) Tryd.func6 rfl (F_ret (hE_ccr r ck hck) mixedD rfl rfl hrun) rfl hm
    ⟨_, _, rfl, agg5_rel a b c d e, _, _, rfl, ha, _, _, rfl, by simp [AV.rel], rfl⟩
end Go.Proofs.YtpmcflidggofkaaDoor

namespace Go.Proofs.YtpmcflidggofkaaDoor
open Go Go.ChangeShapes Go.WideShapes Go.ChangeAt Go.RowKit Go.Deep
theorem list_cons {α : Type} {l : List α} {n : Nat} (h : l.length = n + 1) : ∃ a r, l = a :: r ∧ r.length = n := by
  cases l with
  | nil => cases h
  | cons a r => exact ⟨a, r, rfl, by simpa using h⟩
theorem list_nil {α : Type} {l : List α} (h : l.length = 0) : l = [] := List.eq_nil_of_length_eq_zero h
def repL {α : Type} : Nat → List α → List α
  | 0, _ => []
  | n + 1, l => l ++ repL n l
def leavesF (P : Program) (rec : TypeId → Option (List TypeId)) : List Field → Nat → Option (List TypeId)
  | [], _ => some []
  | f :: fs, off => match rec f.type with
    | some l => match Nat.beq f.offset off && Nat.beq l.length (P.cellsOf f.type) with
      | true => match leavesF P rec fs (off + l.length) with
        | some r => some (l ++ r)
        | none => none
      | false => none
    | none => none
def leavesT (P : Program) : Nat → TypeId → Option (List TypeId)
  | 0, _ => none
  | d + 1, t => match P.underlying t with
    | some (.struct fs) => leavesF P (leavesT P d) fs.toList 0
    | some (.array n e) => match leavesT P d e with
      | some l => match Nat.beq l.length (P.cellsOf e) with
        | true => some (repL n l)
        | false => none
      | none => none
    | some _ => some [t]
    | none => none
section
variable {H : Type} {enc : TypeId × Value → H} {P : Program} {w : World} {base : Nat} {spare : Nat → Bool} {held : Bool}
abbrev LeafOk (enc : TypeId × Value → H) (P : Program) (w : World) (base : Nat) (spare : Nat → Bool) (held : Bool) (ls : List TypeId) (cs : List Value) : Prop :=
  ∀ (j : Nat) (τ : TypeId) (u : Value), ls[j]? = some τ → cs[j]? = some u → ∃ m y, DataW.trod enc P w base spare held m τ [u] = some y
theorem repL_get {α : Type} {l : List α} : ∀ (n j : Nat) (x : α), (repL n l)[j]? = some x → ∃ i k, i < n ∧ j = i * l.length + k ∧ l[k]? = some x
  | 0, j, x, h => by simp [repL] at h
  | n + 1, j, x, h => by
    simp only [repL] at h
    by_cases hj : j < l.length
    · rw [List.getElem?_append_left hj] at h
      exact ⟨0, j, by omega, by omega, h⟩
    · rw [List.getElem?_append_right (by omega)] at h
      obtain ⟨i, k, h1, h2, h3⟩ := repL_get n _ x h
      refine ⟨i + 1, k, by omega, ?_, h3⟩
      rw [Nat.add_mul]
      omega
theorem leavesF_get {rec : TypeId → Option (List TypeId)} : ∀ (fs : List Field) (off : Nat) (ls : List TypeId) (j : Nat) (τ : TypeId), leavesF P rec fs off = some ls → ls[j]? = some τ →
    ∃ (i : Nat) (f : Field) (l : List TypeId) (k : Nat), fs[i]? = some f ∧ rec f.type = some l ∧ l[k]? = some τ ∧ off + j = f.offset + k ∧ l.length = P.cellsOf f.type
  | [], off, ls, j, τ, h, hj => by cases h; simp at hj
  | f :: fs, off, ls, j, τ, h, hj => by
    simp only [leavesF] at h
    cases hr : rec f.type with
    | none => rw [hr] at h; cases h
    | some l =>
      rw [hr] at h
      dsimp only at h
      split at h
      · rename_i hc
        simp only [Bool.and_eq_true] at hc
        have h1 := Nat.eq_of_beq_eq_true hc.1
        have h2 := Nat.eq_of_beq_eq_true hc.2
        cases hr2 : leavesF P rec fs (off + l.length) with
        | none => rw [hr2] at h; cases h
        | some r =>
          rw [hr2] at h
          cases h
          by_cases hjl : j < l.length
          · rw [List.getElem?_append_left hjl] at hj
            exact ⟨0, f, l, j, rfl, hr, hj, by omega, h2⟩
          · rw [List.getElem?_append_right (by omega)] at hj
            obtain ⟨i, f', l', k, g1, g2, g3, g4, g5⟩ := leavesF_get fs _ r _ τ hr2 hj
            exact ⟨i + 1, f', l', k, by simpa using g1, g2, g3, by omega, g5⟩
      · cases h
theorem take_at {α : Type} {l : List α} {o c k : Nat} {u : α} (hk : k < c) (h : l[o + k]? = some u) : ((l.drop o).take c)[k]? = some u := by
  rw [List.getElem?_take_of_lt hk, List.getElem?_drop]
  exact h
theorem leaf_ok : ∀ (d : Nat) (t : TypeId) (ls : List TypeId) (n : Nat) (cs : List Value) (y : DataW H × List MemPlace), leavesT P d t = some ls → ls.length = P.cellsOf t → cs.length = P.cellsOf t → DataW.trod enc P w base spare held n t cs = some y → LeafOk enc P w base spare held ls cs
  | 0, t, ls, n, cs, y, h, _, _, _ => by cases h
  | d + 1, t, ls, n, cs, y, h, hlen, hcl, ht => by
    intro j τ u hj hu
    simp only [leavesT] at h
    have leaf : ls = [t] → ∃ m y, DataW.trod enc P w base spare held m τ [u] = some y := fun e => by
      subst e
      cases j with
      | succ j => simp at hj
      | zero =>
        simp at hj
        subst hj
        have : cs = [u] := by
          match cs, hcl.trans hlen.symm, hu with
          | [x], _, hu => simpa using hu
        subst this
        exact ⟨n, y, ht⟩
    cases hu' : P.underlying t with
    | none => rw [hu'] at h; cases h
    | some ty =>
      rw [hu'] at h
      cases ty with
      | struct fs =>
        dsimp only at h
        obtain ⟨xs, m, _, _, _, hl2, hg⟩ := DataW.trod_struct hu' ht
        obtain ⟨i, f, l, k, g1, g2, g3, g4, g5⟩ := leavesF_get fs.toList 0 ls j τ h hj
        have hf : fs[i]? = some f := by simpa using g1
        have h1 := hg i f hf
        have hil : i < fs.size := (Array.getElem?_eq_some_iff.1 hf).1
        have hx : xs[i]? = some (xs[i]'(by omega)) := List.getElem?_eq_getElem (by omega)
        have hk : k < P.cellsOf f.type := by rw [← g5]; exact (List.getElem?_eq_some_iff.1 g3).1
        have hut := take_at (c := P.cellsOf f.type) hk (show cs[f.offset + k]? = some u by rw [← g4, Nat.zero_add]; exact hu)
        have hfit : f.offset + P.cellsOf f.type ≤ cs.length := by
          have hend : ∀ (fs : List Field) (off : Nat) (ls : List TypeId), leavesF P (leavesT P d) fs off = some ls → ∀ f ∈ fs, f.offset + P.cellsOf f.type ≤ off + ls.length := by
            intro fs
            induction fs with
            | nil => intro off ls h f hf; cases hf
            | cons f0 fs ih =>
              intro off ls h f hf
              simp only [leavesF] at h
              cases hr : leavesT P d f0.type with
              | none => rw [hr] at h; cases h
              | some l0 =>
                rw [hr] at h
                dsimp only at h
                split at h
                · rename_i hc
                  simp only [Bool.and_eq_true] at hc
                  have h1 := Nat.eq_of_beq_eq_true hc.1
                  have h2 := Nat.eq_of_beq_eq_true hc.2
                  cases hr2 : leavesF P (leavesT P d) fs (off + l0.length) with
                  | none => rw [hr2] at h; cases h
                  | some r =>
                    rw [hr2] at h
                    cases h
                    rw [List.length_append]
                    rcases List.mem_cons.1 hf with rfl | hf
                    · omega
                    · have := ih _ _ hr2 f hf
                      omega
                · cases h
          have := hend fs.toList 0 ls h f (List.mem_of_getElem? g1)
          omega
        exact leaf_ok d f.type l m _ _ g2 g5 (by rw [List.length_take, List.length_drop]; omega) (h1.trans hx) k τ u g3 hut
      | array n' e =>
        dsimp only at h
        cases hle : leavesT P d e with
        | none => rw [hle] at h; cases h
        | some l =>
          rw [hle] at h
          dsimp only at h
          split at h
          · rename_i hc
            have hc := Nat.eq_of_beq_eq_true hc
            cases h
            obtain ⟨xs, m, _, _, _, hl2, hg⟩ := DataW.trod_array hu' ht
            obtain ⟨i, k, g1, g2, g3⟩ := repL_get _ _ _ hj
            have h1 := hg i g1
            have hx : xs[i]? = some (xs[i]'(by omega)) := List.getElem?_eq_getElem (by omega)
            have hk : k < P.cellsOf e := by rw [← hc]; exact (List.getElem?_eq_some_iff.1 g3).1
            have hut := take_at (c := P.cellsOf e) hk (show cs[i * P.cellsOf e + k]? = some u by rw [← hc, ← g2]; exact hu)
            have hlr : ∀ n : Nat, (repL n l).length = n * l.length := fun n => by
              induction n with
              | zero => simp [repL]
              | succ n ih => simp only [repL, List.length_append, ih, Nat.add_mul]; omega
            have hfit : i * P.cellsOf e + P.cellsOf e ≤ cs.length := by
              rw [hcl, ← hlen, hlr, ← hc, ← Nat.succ_mul]
              exact Nat.mul_le_mul_right _ g1
            exact leaf_ok d e l m _ _ hle hc (by rw [List.length_take, List.length_drop]; omega) (h1.trans hx) k τ u g3 hut
          · cases h
      | _ => exact leaf (by cases h; rfl)
/-- A value of nested structs and arrays came in. -/
theorem open_flat {r : Reach} {b0 : Nat} {t : TypeId} {v : Value} {x : DataW H} {p : List MemPlace} {ls : List TypeId} {ty : TypeDesc} (hu : P.underlying t = some ty) (hag : (match ty with | .struct _ => true | .array _ _ => true | _ => false) = true) (hl : leavesT P 9 t = some ls) (hC : P.cellsOf t = ls.length)
    (hv : Value.okWide P w r b0 t v) (h : DataW.Trod enc P w base spare held t v x p) :
    ∃ l : List Value, v = .agg l.toArray ∧ l.length = ls.length ∧ LeafOk enc P w base spare held ls l := by
  have hsh : ∃ cs : Array Value, v = .agg cs ∧ cs.size = P.cellsOf t := by
    cases ty with
    | struct fs => exact okWide_struct hu hv
    | array n e => exact okWide_array hu hv
    | _ => cases hag
  obtain ⟨⟨l⟩, rfl, hsz⟩ := hsh
  have hsz : l.length = P.cellsOf t := hsz
  obtain ⟨fuel, hf⟩ := h
  have e2 : (Value.agg l.toArray).cells.toList = l := by simp [Value.cells]
  rw [e2] at hf
  exact ⟨l, rfl, by rw [hsz, hC], leaf_ok 9 t ls fuel l _ hl hC.symm hsz hf⟩
end
end Go.Proofs.YtpmcflidggofkaaDoor
