/-
  What the program's functions hand back.
-/
import Derived.Laws.Bits64
import Derived.WideShapes
import Derived.Lib.IndexLaws
import Derived.Lib.IndexBytes
import Derived.Lib.SplitLaws
import Derived.Lib.CutLaws
import Derived.Shelf.Lay
import Derived.Shelf.Strings.Search3
import Derived.Test.YtpmcflidggofkaaDoorProg
import Derived.Test.YtpmcflidggofkaaDoorSbd
namespace Go.Proofs.YtpmcflidggofkaaDoor
open Go Go.RowKit
theorem decL_more : ∀ (f a : Nat) (acc : List Int), 0 < f → a < 10 ^ f → decL (f + 1) a acc = decL f a acc := by
  intro f
  induction f with
  | zero => intro a acc h; omega
  | succ f ih =>
    intro a acc _ ha
    by_cases h9 : a < 10
    · have e : Nat.blt a 10 = true := by simp [Nat.blt_eq]; omega
      conv => lhs; unfold decL
      conv => rhs; unfold decL
      rw [e]; rfl
    · have e : Nat.blt a 10 = false := by cases hb : Nat.blt a 10 with | false => rfl | true => simp [Nat.blt_eq] at hb; omega
      have hp : 10 ^ (f + 1) = 10 ^ f * 10 := Nat.pow_succ ..
      have hf : 0 < f := by
        cases f with
        | zero => simp at ha; omega
        | succ f => omega
      conv => lhs; unfold decL
      conv => rhs; unfold decL
      rw [e]
      simp only [cond_false]
      exact ih (a / 10) _ hf (by omega)
theorem text03 (n : Int) (h : -9223372036854775808 ≤ n) (h' : n ≤ 9223372036854775807) : haymowref03_Text_0 n = decText n ∧ c_haymowref03_Text n = true := by
  have hlen : ∀ f a : Nat, f ≤ 20 → Nat.ble (1 + lenB (strOf (decL f a []))) 9223372036854775807 = true := fun f a hf => by
    have := decL_len f a []
    rw [lenB_eq, strOf_size]
    simp at this
    exact Nat.ble_eq_true_of_le (by omega)
  unfold haymowref03_Text_0 c_haymowref03_Text decText wholeT
  by_cases c : n < 0
  · rw [decide_eq_true c, IntKind.wrap_u64 n, IntKind.wrap_u64 (0 - n % 18446744073709551616)]
    have e : ((0 - n % 18446744073709551616) % 18446744073709551616).toNat = n.natAbs := by omega
    rw [e, decL_more 19 n.natAbs [] (by omega) (by omega), decide_eq_true (show 0 ≤ (0 - n % 18446744073709551616) % 18446744073709551616 by omega), decide_eq_true (show (0 - n % 18446744073709551616) % 18446744073709551616 ≤ 18446744073709551615 by omega), hlen 19 n.natAbs (by omega), catB_eq]
    exact ⟨rfl, rfl⟩
  · rw [decide_eq_false c, IntKind.wrap_u64 n]
    have e : (n % 18446744073709551616).toNat = n.natAbs := by omega
    rw [e, decL_more 19 n.natAbs [] (by omega) (by omega), decide_eq_true (show 0 ≤ n % 18446744073709551616 by omega), decide_eq_true (show n % 18446744073709551616 ≤ 18446744073709551615 by omega)]
    exact ⟨rfl, rfl⟩
/-- The number of digits, some read already. -/
def valN (d : ByteArray) : Nat → Nat → Int → Int
  | _, 0, a => a
  | i, j + 1, a => valN d (i + 1) j (a * 10 + (byteAt d i - 48))
theorem bad_of {d : ByteArray} {i : Nat} (h : badB d i = false) : 48 ≤ byteAt d i ∧ byteAt d i ≤ 57 := by
  unfold badB at h
  by_cases a : byteAt d i < 48
  · rw [decide_eq_true a] at h; cases h
  · by_cases b : 57 < byteAt d i
    · rw [decide_eq_false a, decide_eq_true b] at h; cases h
    · omega
theorem digs_step {d : ByteArray} {i j : Nat} (h : digs d i (j + 1) = true) : (48 ≤ byteAt d i ∧ byteAt d i ≤ 57) ∧ digs d (i + 1) j = true := by
  unfold digs at h
  cases hb : badB d i with
  | true => rw [hb] at h; cases h
  | false => rw [hb] at h; exact ⟨bad_of hb, h⟩
theorem ten_pos (j : Nat) : (1 : Int) ≤ 10 ^ j := by
  have := Nat.pow_pos (n := j) (show 0 < 10 by omega)
  have h : ((10 ^ j : Nat) : Int) = (10 : Int) ^ j := by simp
  omega
theorem val_bd (d : ByteArray) : ∀ (j i : Nat) (a : Int), digs d i j = true → 0 ≤ a → a * 10 ^ j ≤ valN d i j a ∧ valN d i j a < (a + 1) * 10 ^ j
  | 0, i, a, _, h => by unfold valN; simp; omega
  | j + 1, i, a, hg, h => by
    obtain ⟨⟨b1, b2⟩, hg'⟩ := digs_step hg
    obtain ⟨g1, g2⟩ := val_bd d j (i + 1) (a * 10 + (byteAt d i - 48)) hg' (by omega)
    unfold valN
    obtain ⟨x, hx⟩ : ∃ x, x = byteAt d i - 48 := ⟨_, rfl⟩
    rw [← hx] at g1 g2 ⊢
    have hp := ten_pos j
    rw [Int.pow_succ]
    generalize (10 : Int) ^ j = P at *
    have e1 : a * (P * 10) = a * P * 10 := by rw [Int.mul_assoc]
    have e2 : (a + 1) * (P * 10) = a * P * 10 + P * 10 := by rw [Int.add_mul, Int.one_mul, Int.mul_assoc]
    have e3 : (a * 10 + x) * P = a * P * 10 + x * P := by rw [Int.add_mul, Int.mul_right_comm]
    have e4 : (a * 10 + x + 1) * P = a * P * 10 + x * P + P := by rw [Int.add_mul, e3, Int.one_mul]
    have h1 : 0 ≤ x * P := Int.mul_nonneg (by omega) (by omega)
    have h2 : x * P ≤ 9 * P := Int.mul_le_mul_of_nonneg_right (by omega) (by omega)
    rw [e1, e2]
    rw [e3] at g1
    rw [e4] at g2
    omega
theorem val_ge {d : ByteArray} {j i : Nat} {a : Int} (hg : digs d i j = true) (h : 0 ≤ a) : a ≤ valN d i j a := by
  have h1 := (val_bd d j i a hg h).1
  have h2 : a * 1 ≤ a * 10 ^ j := Int.mul_le_mul_of_nonneg_left (ten_pos j) h
  omega
theorem dg_eq {z : Int} (h : 48 ≤ z ∧ z ≤ 57) : dgA z = z - 48 := by
  unfold dgA
  rw [wk8 _ (by omega) (by omega), wk _ (by omega) (by omega)]
theorem over_eq {a z : Int} (h : 48 ≤ z ∧ z ≤ 57) : over (-a) z = decide (9223372036854775808 < a * 10 + (z - 48)) := by
  unfold over
  rw [dg_eq h, wk (-9223372036854775808 + (z - 48)) (by omega) (by omega)]
  have e : (-9223372036854775808 + (z - 48)).tdiv 10 = -((9223372036854775808 - (z - 48)) / 10) := by
    rw [show -9223372036854775808 + (z - 48) = -(9223372036854775808 - (z - 48)) by omega, Int.neg_tdiv, Int.tdiv_eq_ediv_of_nonneg (by omega)]
  rw [e, wk _ (by omega) (by omega)]
  by_cases c : 9223372036854775808 < a * 10 + (z - 48)
  · rw [decide_eq_true c, decide_eq_true (by omega)]
  · rw [decide_eq_false c, decide_eq_false (by omega)]
theorem rdF_eq (d : ByteArray) : ∀ (j i : Nat) (a : Int), digs d i j = true → 0 ≤ a → a ≤ 9223372036854775808 → rdF (bytesOf d) i j (-a) = bif decide (valN d i j a ≤ 9223372036854775808) then some (-(valN d i j a)) else none
  | 0, i, a, _, h0, h1 => by unfold rdF valN; rw [decide_eq_true h1]; rfl
  | j + 1, i, a, hg, h0, h1 => by
    obtain ⟨hb, hg'⟩ := digs_step hg
    unfold rdF valN
    rw [bytes_at, over_eq hb]
    by_cases c : 9223372036854775808 < a * 10 + (byteAt d i - 48)
    · have := val_ge hg' (show 0 ≤ a * 10 + (byteAt d i - 48) by omega)
      rw [decide_eq_true c, decide_eq_false (by omega)]
      rfl
    · rw [decide_eq_false c]
      have e : next10 (-a) (byteAt d i) = -(a * 10 + (byteAt d i - 48)) := by
        unfold next10
        rw [dg_eq hb, wk (-a * 10) (by omega) (by omega), wk _ (by omega) (by omega)]
        omega
      rw [e]
      exact rdF_eq d j (i + 1) _ hg' (by omega) (by omega)
theorem numU_eq (d : ByteArray) : ∀ (j i : Nat) (u : Int), digs d i j = true → 0 ≤ u → valN d i j u < 18446744073709551616 → numU d i j u = valN d i j u
  | 0, i, u, _, _, _ => rfl
  | j + 1, i, u, hg, h0, hv => by
    obtain ⟨hb, hg'⟩ := digs_step hg
    unfold valN at hv
    have := val_ge hg' (show 0 ≤ u * 10 + (byteAt d i - 48) by omega)
    unfold numU valN
    have e : nextU u (byteAt d i) = u * 10 + (byteAt d i - 48) := by
      unfold nextU
      simp only [IntKind.wrap_u64]
      omega
    rw [e]
    exact numU_eq d j (i + 1) _ hg' (by omega) hv
theorem same_size (s : ByteArray) : (Int.ofNat (unS s).size == Int.ofNat s.size) = !mnR s := by
  obtain ⟨h1, h2⟩ := unS_size s
  cases h : mnR s with
  | true =>
    have := h1 h
    rw [show (Int.ofNat (unS s).size == Int.ofNat s.size) = false by simp; omega]
    rfl
  | false =>
    have := h2 h
    rw [this]
    simp
theorem read_eq (s : ByteArray) : rdV s = rfW s := by
  unfold rdV rfW
  cases hH : rfH s (unS s) with
  | true => rfl
  | false =>
    simp only [cond_false]
    cases hD : digs (unS s) 0 (unS s).size with
    | false => rfl
    | true =>
      unfold rfV
      simp only [cond_true]
      have hF := rdF_eq (unS s) (unS s).size 0 0 hD (Int.le_refl 0) (by omega)
      rw [Int.neg_zero] at hF
      rw [hF]
      have hbd := val_bd (unS s) (unS s).size 0 0 hD (Int.le_refl 0)
      by_cases h19 : 19 < (unS s).size
      · rw [decide_eq_true (show (19 : Int) < Int.ofNat (unS s).size by simp; omega)]
        have hbig : 9223372036854775808 < valN (unS s) 0 (unS s).size 0 := by
          obtain ⟨m, hm⟩ : ∃ m, (unS s).size = m + 1 := ⟨(unS s).size - 1, by omega⟩
          rw [hm] at hD ⊢
          obtain ⟨hb, hg'⟩ := digs_step hD
          have h48 : byteAt (unS s) 0 ≠ 48 := by
            intro e
            unfold rfH at hH
            have hle := unS_le s
            rw [len_iff, decide_eq_false (show ¬ (unS s).size = 0 by omega), e, decide_eq_true (show (1 : Int) < Int.ofNat s.size by simp; omega)] at hH
            cases hH
          unfold valN
          have h1 := (val_bd (unS s) m (0 + 1) (0 * 10 + (byteAt (unS s) 0 - 48)) hg' (by omega)).1
          have h2 : (1 : Int) * 10 ^ m ≤ (0 * 10 + (byteAt (unS s) 0 - 48)) * 10 ^ m := Int.mul_le_mul_of_nonneg_right (by omega) (by have := ten_pos m; omega)
          have h3 : (10 : Int) ^ 19 ≤ 10 ^ m := by
            have := Nat.pow_le_pow_right (show 0 < 10 by omega) (show 19 ≤ m by omega)
            have e1 : ((10 ^ 19 : Nat) : Int) = (10 : Int) ^ 19 := by simp
            have e2 : ((10 ^ m : Nat) : Int) = (10 : Int) ^ m := by simp
            omega
          omega
        rw [decide_eq_false (by omega)]
        rfl
      · rw [decide_eq_false (show ¬ (19 : Int) < Int.ofNat (unS s).size by simp; omega)]
        have hlt : valN (unS s) 0 (unS s).size 0 < 10000000000000000000 := by
          have := Nat.pow_le_pow_right (show 0 < 10 by omega) (show (unS s).size ≤ 19 by omega)
          have e2 : ((10 ^ (unS s).size : Nat) : Int) = (10 : Int) ^ (unS s).size := by simp
          have := hbd.2
          omega
        have hnn := val_ge hD (Int.le_refl 0)
        rw [numU_eq (unS s) (unS s).size 0 0 hD (Int.le_refl 0) (by omega)]
        unfold outU
        rw [same_size]
        generalize valN (unS s) 0 (unS s).size 0 = v at *
        simp only [cond_false]
        cases mnR s with
        | true =>
          simp only [Bool.not_true, cond_false]
          by_cases c : v ≤ 9223372036854775808
          · rw [decide_eq_true c, decide_eq_false (show ¬ 9223372036854775808 < v by omega)]
            simp only [cond_true, cond_false, drOut]
            have e : IntKind.i64.wrap (IntKind.u64.wrap (0 - v)) = -v := by
              rw [IntKind.wrap_u64]
              unfold IntKind.wrap
              simp [IntKind.bits, IntKind.signed]
              omega
            rw [e]
          · rw [decide_eq_false c, decide_eq_true (show 9223372036854775808 < v by omega)]; rfl
        | false =>
          simp only [Bool.not_false, cond_true]
          by_cases c : v ≤ 9223372036854775808
          · rw [decide_eq_true c]
            simp only [cond_true, drOut, cond_false]
            by_cases c2 : v = 9223372036854775808
            · subst c2; rfl
            · rw [show (-v == -9223372036854775808) = false by simp; omega, decide_eq_false (show ¬ 9223372036854775807 < v by omega), wk (0 - -v) (by omega) (by omega), wk v (by omega) (by omega)]
              simp
          · rw [decide_eq_false c, decide_eq_true (show 9223372036854775807 < v by omega)]; rfl
end Go.Proofs.YtpmcflidggofkaaDoor

namespace Go.Proofs.YtpmcflidggofkaaDoor
open Go Go.RowKit
def valL : List Int → Int → Int
  | [], a => a
  | z :: r, a => valL r (a * 10 + (z - 48))
theorem decL_val : ∀ (f a : Nat) (acc : List Int), 0 < f → a < 10 ^ f → valL (decL f a acc) 0 = valL acc a := by
  intro f
  induction f with
  | zero => intro a acc h; omega
  | succ f ih =>
    intro a acc _ ha
    unfold decL
    by_cases h9 : a < 10
    · rw [show Nat.blt a 10 = true by simp [Nat.blt_eq]; omega]
      simp only [cond_true, valL]
      congr 1
      omega
    · rw [show Nat.blt a 10 = false by cases hb : Nat.blt a 10 with | false => rfl | true => simp [Nat.blt_eq] at hb; omega]
      have hp : 10 ^ (f + 1) = 10 ^ f * 10 := Nat.pow_succ ..
      have hf : 0 < f := by
        cases f with
        | zero => simp at ha; omega
        | succ f => omega
      simp only [cond_false]
      rw [ih (a / 10) _ hf (by omega)]
      simp only [valL]
      congr 1
      omega
def dgts (l : List Int) : Prop := ∀ z ∈ l, 48 ≤ z ∧ z ≤ 57
theorem decL_dg : ∀ (f a : Nat) (acc : List Int), dgts acc → dgts (decL f a acc)
  | 0, a, acc, h => h
  | f + 1, a, acc, h => by
    have hx : dgts (((48 + a % 10 : Nat) : Int) :: acc) := fun z hz => by
      rcases List.mem_cons.1 hz with rfl | hz
      · omega
      · exact h z hz
    unfold decL
    cases Nat.blt a 10 with
    | true => exact hx
    | false => exact decL_dg f (a / 10) _ hx
theorem decL_head : ∀ (f a : Nat) (acc : List Int), 0 < f → a < 10 ^ f → ∃ h r, decL f a acc = h :: r ∧ (0 < a → h ≠ 48) ∧ (a = 0 → r = acc) := by
  intro f
  induction f with
  | zero => intro a acc h; omega
  | succ f ih =>
    intro a acc _ ha
    unfold decL
    by_cases h9 : a < 10
    · rw [show Nat.blt a 10 = true by simp [Nat.blt_eq]; omega]
      exact ⟨_, _, rfl, by omega, fun _ => rfl⟩
    · rw [show Nat.blt a 10 = false by cases hb : Nat.blt a 10 with | false => rfl | true => simp [Nat.blt_eq] at hb; omega]
      have hp : 10 ^ (f + 1) = 10 ^ f * 10 := Nat.pow_succ ..
      have hf : 0 < f := by
        cases f with
        | zero => simp at ha; omega
        | succ f => omega
      simp only [cond_false]
      obtain ⟨h, r, e, h1, h2⟩ := ih (a / 10) (((48 + a % 10 : Nat) : Int) :: acc) hf (by omega)
      exact ⟨h, r, e, fun _ => h1 (by omega), by omega⟩
theorem str_list (l : List Int) : (strOf l).data.toList = l.map fun n => UInt8.ofNat n.toNat := by rw [strOf_eq]
theorem str_at {l : List Int} (h : ∀ z ∈ l, 0 ≤ z ∧ z ≤ 255) (i : Nat) : byteAt (strOf l) i = l.getD i 0 := by
  rw [byte_list, str_list, List.getD_eq_getElem?_getD, List.getElem?_map, List.getD_eq_getElem?_getD]
  cases hi : l[i]? with
  | none => rfl
  | some z =>
    have := h z (List.mem_of_getElem? hi)
    simp
    omega
theorem dg_str {l : List Int} (h : dgts l) (i : Nat) : byteAt (strOf l) i = l.getD i 0 := str_at (fun z hz => by have := h z hz; omega) i
theorem digs_str {l : List Int} (h : dgts l) : ∀ (j i : Nat), i + j = l.length → digs (strOf l) i j = true
  | 0, i, _ => rfl
  | j + 1, i, hi => by
    unfold digs badB
    have hz := h (l.getD i 0) (by rw [List.getD_eq_getElem?_getD, List.getElem?_eq_getElem (by omega)]; simp)
    rw [dg_str h, decide_eq_false (show ¬ l.getD i 0 < 48 by omega), decide_eq_false (show ¬ 57 < l.getD i 0 by omega)]
    exact digs_str h j (i + 1) (by omega)
theorem val_str {l : List Int} (h : dgts l) : ∀ (j i : Nat) (a : Int), i + j = l.length → valN (strOf l) i j a = valL (l.drop i) a
  | 0, i, a, hi => by rw [List.drop_of_length_le (by omega)]; rfl
  | j + 1, i, a, hi => by
    unfold valN
    rw [val_str h j (i + 1) _ (by omega), dg_str h, List.drop_eq_getElem_cons (show i < l.length by omega)]
    simp only [valL]
    rw [List.getD_eq_getElem?_getD, List.getElem?_eq_getElem (show i < l.length by omega)]
    rfl
theorem back (n : Int) (h : -9223372036854775808 ≤ n) (h' : n ≤ 9223372036854775807) : rdV (decText n) = (n, 0) := by
  obtain ⟨x, r, e, e1, e2⟩ := decL_head 19 n.natAbs [] (by omega) (by omega)
  have hdg := decL_dg 19 n.natAbs [] (fun z hz => by simp at hz)
  have hv := decL_val 19 n.natAbs [] (by omega) (by omega)
  have hsz : (strOf (decL 19 n.natAbs [])).size = (decL 19 n.natAbs []).length := strOf_size _
  have hx : 48 ≤ x ∧ x ≤ 57 := hdg x (by rw [e]; simp)
  have key : ∀ s : ByteArray, unS s = strOf (decL 19 n.natAbs []) → (n.natAbs = 0 → s.size ≤ 1) → rdV s = drOut (mnR s) (some (-(n.natAbs : Int))) := fun s hu h1 => by
    unfold rdV
    rw [hu]
    have hH : rfH s (strOf (decL 19 n.natAbs [])) = false := by
      unfold rfH
      rw [len_iff, hsz, dg_str hdg, e]
      rw [decide_eq_false (show ¬ (x :: r).length = 0 by simp)]
      simp only [cond_false, List.getD_cons_zero]
      by_cases c : n.natAbs = 0
      · rw [decide_eq_false (show ¬ (1 : Int) < Int.ofNat s.size by have := h1 c; simp; omega)]
        cases (x == 48) <;> rfl
      · rw [show (x == 48) = false by have := e1 (by omega); simpa using this]
        rfl
    rw [hH, hsz, digs_str hdg _ _ (by omega)]
    have hF := rdF_eq (strOf (decL 19 n.natAbs [])) (decL 19 n.natAbs []).length 0 0 (digs_str hdg _ _ (by omega)) (Int.le_refl 0) (by omega)
    rw [Int.neg_zero, val_str hdg _ _ _ (by omega), List.drop_zero, hv] at hF
    rw [hF, decide_eq_true (show valL [] (n.natAbs : Int) ≤ 9223372036854775808 by simp only [valL]; omega)]
    rfl
  unfold decText
  by_cases c : n < 0
  · rw [decide_eq_true c]
    simp only [cond_true]
    have ht : (⟨#[45]⟩ : ByteArray) ++ strOf (decL 19 n.natAbs []) = strOf (45 :: decL 19 n.natAbs []) := by
      rw [← strOf_cons]
      rfl
    rw [ht]
    have hall : ∀ z ∈ (45 :: decL 19 n.natAbs [] : List Int), 0 ≤ z ∧ z ≤ 255 := fun z hz => by
      rcases List.mem_cons.1 hz with rfl | hz
      · omega
      · have := hdg z hz; omega
    have hm : mnR (strOf (45 :: decL 19 n.natAbs [])) = true := by
      unfold mnR
      rw [str_at hall, strOf_size, decide_eq_true (by simp <;> omega)]
      rfl
    have hu : unS (strOf (45 :: decL 19 n.natAbs [])) = strOf (decL 19 n.natAbs []) := by
      unfold unS
      rw [hm]
      simp only [cond_true]
      refine WideShapes.bytes_inj ?_
      rw [ext_list, str_list, str_list]
      rfl
    rw [key _ hu (by omega), hm]
    simp only [drOut, cond_true]
    rw [show -(n.natAbs : Int) = n by omega]
  · rw [decide_eq_false c]
    simp only [cond_false]
    have hm : mnR (strOf (decL 19 n.natAbs [])) = false := by
      unfold mnR
      rw [dg_str hdg, hsz, e]
      rw [decide_eq_true (by simp <;> omega)]
      simp only [cond_true, List.getD_cons_zero]
      rw [show (x == 45) = false by simp; omega]
    have hu : unS (strOf (decL 19 n.natAbs [])) = strOf (decL 19 n.natAbs []) := by
      unfold unS
      rw [hm]
      rfl
    rw [key _ hu (fun h0 => by rw [hsz, e, e2 h0]; simp), hm]
    simp only [drOut, cond_false]
    rw [show (-(n.natAbs : Int) == -9223372036854775808) = false by simp; omega, wk _ (by omega) (by omega)]
    simp only [cond_false]
    rw [show 0 - -(n.natAbs : Int) = n by omega]
end Go.Proofs.YtpmcflidggofkaaDoor

namespace Go.Proofs.YtpmcflidggofkaaDoor
open Go Go.RowKit
set_option maxRecDepth 100000
theorem rf1_eq (s : ByteArray) : rf1 s = rd1 s := by unfold rf1 rd1; rw [read_eq]
theorem rf0_eq (s : ByteArray) : rf0 s = rd0 s := by unfold rf0 rd0; rw [read_eq]
abbrev L_rr : List (FuncId × Spec) := [(51, e_cut), (52, e_rfr)]
theorem hE_rr : ESound Tryd.prog (envOf L_rr) := env_cons ok_cut (env_cons ok_rfr env_nil)
abbrev rrC : List Cut := [(0, [4, 5, 6], [0, 1, 3], 4), (1, [4, 5, 6], [0, 1, 3], 4), (2, [4, 5, 6], [0, 1, 3], 4), (3, [4, 5, 6], [0, 1, 3], 4)]
abbrev rrT (o : AV) (n : Nat) (i : Int) : List AV := [.unk, .unk, .unk, .unk, o, .sl false 0 1 0 1 n none, vi i, .unk, .unk, .unk, .unk, .unk, .unk, .unk, .unk, .unk, .unk, .unk, .unk, .unk, .unk, .unk, .unk, .unk, .unk, .unk, .unk, .unk, .unk, .unk, .unk, .unk, .unk, .unk, .unk, .unk]
abbrev rsB (ss : List ByteArray) : Option ABlk := some ⟨false, false, .col (.strs ss)⟩
theorem rr_begin (s : ByteArray) : F_ Tryd.prog L_rr Tryd.f14 rrC [] 99 [vs s] noMem =
    bif Int.ofNat s.size == 0 then some (.ret (.tup [nilV, vi 0]) ⟨[], 99⟩ true)
    else some (.head (hd Tryd.f14 0) (rrT nilV (cutV s 32).length 0) ⟨[(0, rsB (cutV s 32)), (1, none), (3, none)], 4⟩ (conj [Nat.ble s.size 4294967296])) := by kernel_rfl
theorem rr_round0 (ss : List ByteArray) (n : Nat) (i : Int) : H_ Tryd.prog L_rr Tryd.f14 rrC [1] 99 (hd Tryd.f14 0) (rrT nilV n i) ⟨[(0, rsB ss)], 2⟩ =
    bif decide (i < (n : Int)) then bif rf1 (stI ss i) != 0 then some (.ret (.tup [nilV, vi (rf1 (stI ss i))]) ⟨[(1, none)], 99⟩ (conj (rlO ss n i)))
      else some (.head (hd Tryd.f14 0) (rrT (.sl true 3 1 0 1 1 none) n (IntKind.i64.wrap (i + 1))) ⟨[(0, rsB ss), (1, none), (3, zsB [rf0 (stI ss i)])], 4⟩ (conj (rlO ss n i)))
    else some (.ret (.tup [nilV, vi 0]) ⟨[(1, none)], 99⟩ true) := by kernel_rfl
theorem rr_round1 (ss : List ByteArray) (zs : List Int) (n p : Nat) (i : Int) : H_ Tryd.prog L_rr Tryd.f14 rrC [1] 99 (hd Tryd.f14 0) (rrT (.sl true 1 1 0 1 p none) n i) ⟨[(0, rsB ss), (1, zsB zs)], 2⟩ =
    bif decide (i < (n : Int)) then bif rf1 (stI ss i) != 0 then some (.ret (.tup [nilV, vi (rf1 (stI ss i))]) ⟨[(1, zsB zs)], 99⟩ (conj (rlO ss n i)))
      else some (.head (hd Tryd.f14 0) (rrT (.sl true 3 1 0 1 (p + 1) none) n (IntKind.i64.wrap (i + 1))) ⟨[(0, rsB ss), (1, none), (3, zsB (zs.take p ++ [rf0 (stI ss i)]))], 4⟩ (conj (rlO ss n i ++ [decide (0 < p), decide ((p + 1) * 8 ≤ 140737488355328), decide (p ≤ zs.length)])))
    else some (.ret (.tup [.sl true 1 1 0 1 p none, vi 0]) ⟨[(1, zsB zs)], 99⟩ true) := by kernel_rfl
def rrOut (g : Func) (s : St) (r : List Int × Int) (B : Nat) : Prop :=
  (r.1 = [] ∧ ∃ m', Gives_ Tryd.prog g B s (.tup [nilV, vi r.2]) m') ∨ (r.1 ≠ [] ∧ Gives_ Tryd.prog g B s (.tup [.sl true 1 1 0 1 r.1.length none, vi r.2]) ⟨[(1, zsB r.1)], 99⟩)
theorem rr_loop1 (ss : List ByteArray) (n : Nat) (hn : n ≤ ss.length) (hn2 : n ≤ 4294967297) (hs : ∀ j, (ss.getD j ⟨#[]⟩).size ≤ 9223372036854775807) : ∀ (j i : Nat) (z : Int) (zs : List Int), i + j = n → (z :: zs).length = i →
    rrOut Tryd.f14 ⟨hd Tryd.f14 0, rrT (.sl true 1 1 0 1 (z :: zs).length none) n i, ⟨[(0, rsB ss), (1, zsB (z :: zs))], 2⟩⟩ (rlF ss i j (z :: zs)) 0
  | 0, i, z, zs, hi, hl => by
    have h := rr_round1 ss (z :: zs) n (z :: zs).length i
    rw [decide_eq_false (show ¬ (i : Int) < n by omega), cond_false] at h
    exact .inr ⟨by simp [rlF], H_ret hE_rr mixedD rfl h⟩
  | j + 1, i, z, zs, hi, hl => by
    have h := rr_round1 ss (z :: zs) n (z :: zs).length i
    have hw : IntKind.i64.wrap ((i : Int) + 1) = ((i + 1 : Nat) : Int) := by rw [IntWalk.i64_in _ (by omega)]; rfl
    have ho := rlO_ok (show i < n by omega) hn hs []
    rw [List.append_nil] at ho
    have hc : conj [decide (0 < (z :: zs).length), decide (((z :: zs).length + 1) * 8 ≤ 140737488355328), decide ((z :: zs).length ≤ (z :: zs).length)] = true := by
      rw [hl]
      have h0 : 0 < i := by rw [← hl]; simp
      simp only [conj, Bool.and_eq_true, decide_eq_true_eq]
      exact ⟨h0, by omega, Nat.le_refl _, trivial⟩
    rw [decide_eq_true (show (i : Int) < n by omega), cond_true, hw, ho, rlO_ok (show i < n by omega) hn hs, hc, List.take_length] at h
    simp only [stI, smJ_eq, rf1_eq, rf0_eq] at h
    simp only [rlF]
    cases hb : (rd1 (ss.getD i ⟨#[]⟩) != 0) with
    | true => rw [hb] at h; exact .inl ⟨rfl, _, H_ret hE_rr mixedD rfl h⟩
    | false =>
      rw [hb, cond_false] at h
      have g := H_head (f := Tryd.f14) (B := 0) hE_rr mixedD rfl h
      have r := Goes.ren (P := Tryd.prog) (B := 0) (σ := [(0, 0), (1, 3)]) (nx := 2) (s := ⟨hd Tryd.f14 0, rrT (.sl true 3 1 0 1 ((z :: zs).length + 1) none) n ((i + 1 : Nat) : Int), ⟨[(0, rsB ss), (1, none), (3, zsB ((z :: zs) ++ [rd0 (ss.getD i ⟨#[]⟩)]))], 4⟩⟩) rfl
      have IH := rr_loop1 ss n hn hn2 hs j (i + 1) z (zs ++ [rd0 (ss.getD i ⟨#[]⟩)]) (by omega) (by rw [← hl]; simp)
      have e : (z :: (zs ++ [rd0 (ss.getD i ⟨#[]⟩)])).length = (z :: zs).length + 1 := by simp
      rw [e] at IH
      rcases IH with ⟨h1, m', h2⟩ | ⟨h1, h2⟩
      · exact .inl ⟨h1, m', Goes.gives (Goes.trans g r) h2⟩
      · exact .inr ⟨h1, Goes.gives (Goes.trans g r) h2⟩
theorem rr_loop0 (ss : List ByteArray) (n : Nat) (h0 : 0 < n) (hn : n ≤ ss.length) (hn2 : n ≤ 4294967297) (hs : ∀ j, (ss.getD j ⟨#[]⟩).size ≤ 9223372036854775807) :
    rrOut Tryd.f14 ⟨hd Tryd.f14 0, rrT nilV n 0, ⟨[(0, rsB ss)], 2⟩⟩ (rlF ss 0 n []) 0 := by
  have h := rr_round0 ss n ((0 : Nat) : Int)
  have hw : IntKind.i64.wrap (((0 : Nat) : Int) + 1) = ((1 : Nat) : Int) := by decide
  have ho := rlO_ok (i := 0) h0 hn hs []
  rw [List.append_nil] at ho
  rw [decide_eq_true (show ((0 : Nat) : Int) < n by omega), cond_true, hw, ho] at h
  simp only [stI, smJ_eq, rf1_eq, rf0_eq] at h
  obtain ⟨k, rfl⟩ : ∃ k, n = k + 1 := ⟨n - 1, by omega⟩
  simp only [rlF]
  cases hb : (rd1 (ss.getD 0 ⟨#[]⟩) != 0) with
  | true => rw [hb] at h; exact .inl ⟨rfl, _, H_ret hE_rr mixedD rfl h⟩
  | false =>
    rw [hb, cond_false] at h
    have g := H_head (f := Tryd.f14) (B := 0) hE_rr mixedD rfl h
    have r := Goes.ren (P := Tryd.prog) (B := 0) (σ := [(0, 0), (1, 3)]) (nx := 2) (s := ⟨hd Tryd.f14 0, rrT (.sl true 3 1 0 1 1 none) (k + 1) ((1 : Nat) : Int), ⟨[(0, rsB ss), (1, none), (3, zsB [rd0 (ss.getD 0 ⟨#[]⟩)])], 4⟩⟩) rfl
    rcases rr_loop1 ss (k + 1) hn hn2 hs k 1 (rd0 (ss.getD 0 ⟨#[]⟩)) [] (by omega) rfl with ⟨h1, m', h2⟩ | ⟨h1, h2⟩
    · exact .inl ⟨h1, m', Goes.gives (Goes.trans g r) h2⟩
    · exact .inr ⟨h1, Goes.gives (Goes.trans g r) h2⟩
theorem cutF_len (s : ByteArray) (c : Int) : ∀ (k i j : Nat) (ss : List ByteArray), (cutF s c i k j ss).length ≤ ss.length + k + 1
  | 0, i, j, ss => by simp [cutF]
  | k + 1, i, j, ss => by
    simp only [cutF]
    cases byteAt s i == c with
    | true => have := cutF_len s c k (i + 1) (i + 1) (ss ++ [s.extract j i]); simp at this ⊢; omega
    | false => have := cutF_len s c k (i + 1) j ss; simp at this ⊢; omega
theorem cutF_size (s : ByteArray) (c : Int) : ∀ (k i j : Nat) (ss : List ByteArray), (∀ x ∈ ss, x.size ≤ s.size) → ∀ x ∈ cutF s c i k j ss, x.size ≤ s.size
  | 0, i, j, ss, h, x, hx => by
    simp only [cutF, List.mem_append, List.mem_singleton] at hx
    rcases hx with hx | rfl
    · exact h x hx
    · rw [ByteArray.size_extract]; omega
  | k + 1, i, j, ss, h, x, hx => by
    simp only [cutF] at hx
    cases hb : byteAt s i == c with
    | true =>
      rw [hb] at hx
      refine cutF_size s c k _ _ _ (fun y hy => ?_) x hx
      simp only [List.mem_append, List.mem_singleton] at hy
      rcases hy with hy | rfl
      · exact h y hy
      · rw [ByteArray.size_extract]; omega
    | false => rw [hb] at hx; exact cutF_size s c k _ _ _ h x hx
def rrV (s : ByteArray) : List Int × Int := bif Int.ofNat s.size == 0 then ([], 0) else rlF (cutV s 32) 0 (cutV s 32).length []
theorem rr_all (s : ByteArray) (hs : s.size ≤ 4294967296) : rrOut Tryd.f14 (enterA Tryd.f14 (bodyOf Tryd.f14) [vs s] noMem) (rrV s) 0 := by
  have h := rr_begin s
  have hb : conj [Nat.ble s.size 4294967296] = true := by
    simp only [conj, Bool.and_true]
    exact Nat.ble_eq_true_of_le hs
  rw [hb] at h
  unfold rrV
  cases he : (Int.ofNat s.size == 0) with
  | true => rw [he] at h; exact .inl ⟨rfl, _, F_ret hE_rr mixedD rfl rfl h⟩
  | false =>
    rw [he, cond_false] at h
    have g := F_head (f := Tryd.f14) (c := bodyOf Tryd.f14) hE_rr mixedD rfl rfl h
    have r := Goes.ren (P := Tryd.prog) (B := 0) (σ := [(0, 0)]) (nx := 2) (s := ⟨hd Tryd.f14 0, rrT nilV (cutV s 32).length 0, ⟨[(0, rsB (cutV s 32)), (1, none), (3, none)], 4⟩⟩) rfl
    have hl : (cutV s 32).length ≤ s.size + 1 := by
      have := cutF_len s 32 s.size 0 0 []
      rw [List.length_nil, Nat.zero_add] at this
      exact this
    have hne : (cutV s 32) ≠ [] := cut_ne s 32 _ _ _ _
    have hp : 0 < (cutV s 32).length := List.length_pos_iff.2 hne
    rcases rr_loop0 (cutV s 32) (cutV s 32).length hp (Nat.le_refl _) (by omega) (fun j => by
      rw [List.getD_eq_getElem?_getD]
      by_cases hj : j < (cutV s 32).length
      · rw [List.getElem?_eq_getElem hj]
        have := cutF_size s 32 s.size 0 0 [] (fun x hx => by cases hx) _ (List.getElem_mem hj)
        exact Nat.le_trans this (by omega)
      · rw [List.getElem?_eq_none (by omega)]; exact Nat.zero_le _) with ⟨h1, m', h2⟩ | ⟨h1, h2⟩
    · exact .inl ⟨h1, m', Goes.gives (Goes.trans g r) h2⟩
    · exact .inr ⟨h1, Goes.gives (Goes.trans g r) h2⟩
def e_rr : Spec := fun m args => match args with
  | [.val (.string s)] => some (.tup [.sl false m.nx 1 0 1 (rrV s).1.length none, vi (rrV s).2], some ⟨(m.nx, some ⟨false, false, .col (.ints .i64 (rrV s).1)⟩) :: m.bl, m.nx + 1⟩, [Nat.ble s.size 4294967296])
  | _ => none
theorem ok_rr : SpecOk Tryd.prog 14 e_rr := fun m args v mo bs h hb => by
  unfold e_rr at h
  split at h <;> try cases h
  rename_i s
  simp only [List.all_cons, List.all_nil, id, Bool.and_true] at hb
  have hA := rr_all s (Nat.le_of_ble_eq_true hb)
  refine lift_slice (m1 := noMem) (args1 := [vs s]) (rest := [vi (rrV s).2]) rfl rfl rfl rfl (fun ρ w xs hm hx => ⟨fun _ => ⟨0, 0, 0, 0⟩, mrel_none, ?_⟩) ?_
  · simp only [AV.rels, AV.rel] at hx ⊢
    exact hx
  · rcases hA with ⟨h1, m', h2⟩ | ⟨h1, h2⟩
    · refine .inl ⟨by rw [h1]; rfl, fun r c a ha => ?_, m', fsound (c := bodyOf Tryd.f14) (fun xs w => Tryd.call14 xs w) Tryd.func14 rfl h2⟩
      rw [h1] at ha
      cases c <;> simp [Cont.at, Col.at] at ha
    · exact .inr ⟨1, 99, fsound (c := bodyOf Tryd.f14) (fun xs w => Tryd.call14 xs w) Tryd.func14 rfl h2⟩
-- List
abbrev rsC : List Cut := [(0, [0, 3, 4], [0], 1), (1, [0, 3, 4], [0], 1), (2, [0, 3, 4], [0], 1)]
abbrev rsT (nn : Bool) (n : Nat) (c : Option Nat) (s : ByteArray) (i : Int) : List AV := [.sl nn 0 1 0 1 n c, .unk, .unk, vs s, vi i, .unk, .unk, .unk, .unk, .unk, .unk, .unk, .unk, .unk, .unk, .unk, .unk, .unk, .unk, .unk, .unk, .unk, .unk]
theorem rs_begin (nn : Bool) (zs : List Int) (n : Nat) (c : Option Nat) : F_ Tryd.prog L_haymowref03_Text Tryd.f15 rsC [] 99 [.sl nn 0 1 0 1 n c] ⟨[dlA zs], 1⟩ = some (.head (hd Tryd.f15 0) (rsT nn n c ⟨#[]⟩ 0) ⟨[dlA zs], 1⟩ true) := by kernel_rfl
abbrev rsZ (zs : List Int) (i : Int) : ByteArray := haymowref03_Text_0 (zs.getD (smJ i) 0)
theorem rs_round (nn : Bool) (zs : List Int) (n : Nat) (c : Option Nat) (s : ByteArray) (i : Int) : H_ Tryd.prog L_haymowref03_Text Tryd.f15 rsC [] 99 (hd Tryd.f15 0) (rsT nn n c s i) ⟨[dlA zs], 1⟩ =
    bif decide (i < (n : Int)) then bif decide (0 < i) then some (.head (hd Tryd.f15 0) (rsT nn n c (catB (catB s sp1) (rsZ zs i)) (IntKind.i64.wrap (i + 1))) ⟨[dlA zs], 1⟩
        (conj [Nat.ble (lenB s + 1) 9223372036854775807, decide (0 ≤ i), decide (i.toNat < n), decide (smJ i < zs.length), c_haymowref03_Text (zs.getD (smJ i) 0), Nat.ble (lenB (catB s sp1) + lenB (rsZ zs i)) 9223372036854775807]))
      else some (.head (hd Tryd.f15 0) (rsT nn n c (catB s (rsZ zs i)) (IntKind.i64.wrap (i + 1))) ⟨[dlA zs], 1⟩
        (conj [decide (0 ≤ i), decide (i.toNat < n), decide (smJ i < zs.length), c_haymowref03_Text (zs.getD (smJ i) 0), Nat.ble (lenB s + lenB (rsZ zs i)) 9223372036854775807]))
    else some (.ret (vs s) ⟨[], 99⟩ true) := by kernel_rfl
theorem rs_loop (nn : Bool) (zs : List Int) (n : Nat) (c : Option Nat) (hn : n ≤ zs.length) (h32 : n ≤ 4294967296) (hz : inI zs = true) : ∀ (j i : Nat) (s : ByteArray), i + 1 + j = n → lenB s ≤ 21 * (i + 1) →
    Gives_ Tryd.prog Tryd.f15 1 ⟨hd Tryd.f15 0, rsT nn n c s ((i + 1 : Nat) : Int), ⟨[dlA zs], 1⟩⟩ (vs (lsF zs (i + 1) j s)) ⟨[], 99⟩
  | 0, i, s, hi, h1 => by
    have h := rs_round nn zs n c s ((i + 1 : Nat) : Int)
    rw [decide_eq_false (show ¬ ((i + 1 : Nat) : Int) < n by omega), cond_false] at h
    exact H_ret hE_haymowref03_Text mixedD rfl h
  | j + 1, i, s, hi, h1 => by
    have h := rs_round nn zs n c s ((i + 1 : Nat) : Int)
    have hw : IntKind.i64.wrap (((i + 1 : Nat) : Int) + 1) = ((i + 1 + 1 : Nat) : Int) := by rw [IntWalk.i64_in _ (by omega)]; rfl
    obtain ⟨z1, z2⟩ := inI_at hz (i + 1)
    obtain ⟨t1, t2⟩ := text03 (zs.getD (i + 1) 0) z1 z2
    obtain ⟨d1, d2⟩ := decText_len (zs.getD (i + 1) 0)
    have hcat : lenB (catB s sp1) = lenB s + 1 := by rw [lenB_cat]; rfl
    have hcat2 : lenB (catB (catB s sp1) (decText (zs.getD (i + 1) 0))) = lenB s + 1 + lenB (decText (zs.getD (i + 1) 0)) := by rw [lenB_cat, hcat]
    simp only [rsZ, smJ_eq] at h
    rw [t1, t2, hw, decide_eq_true (show ((i + 1 : Nat) : Int) < n by omega), decide_eq_true (show (0 : Int) < ((i + 1 : Nat) : Int) by omega), cond_true, cond_true] at h
    have hc : conj [Nat.ble (lenB s + 1) 9223372036854775807, decide (0 ≤ ((i + 1 : Nat) : Int)), decide (((i + 1 : Nat) : Int).toNat < n), decide (i + 1 < zs.length), true, Nat.ble (lenB (catB s sp1) + lenB (decText (zs.getD (i + 1) 0))) 9223372036854775807] = true := by
      rw [hcat, Nat.ble_eq_true_of_le (show lenB s + 1 ≤ 9223372036854775807 by omega), Nat.ble_eq_true_of_le (show lenB s + 1 + lenB (decText (zs.getD (i + 1) 0)) ≤ 9223372036854775807 by omega)]
      simp only [conj, Bool.and_eq_true, decide_eq_true_eq]
      exact ⟨trivial, by omega, by omega, by omega, trivial, trivial, trivial⟩
    rw [hc] at h
    exact Goes.gives (H_head (f := Tryd.f15) (B := 1) hE_haymowref03_Text mixedD rfl h) (rs_loop nn zs n c hn h32 hz j (i + 1) _ (by omega) (by omega))
theorem rs_all (nn : Bool) (zs : List Int) (n : Nat) (c : Option Nat) (hn : n ≤ zs.length) (h32 : n ≤ 4294967296) (hz : inI zs = true) : FSound Tryd.prog 15 ⟨[dlA zs], 1⟩ [.sl nn 0 1 0 1 n c] (vs (listT zs n)) ⟨[], 99⟩ := by
  refine fsound (c := bodyOf Tryd.f15) (fun xs w => Tryd.call15 xs w) Tryd.func15 rfl ?_
  refine Goes.gives (F_head (f := Tryd.f15) (c := bodyOf Tryd.f15) hE_haymowref03_Text mixedD rfl rfl (rs_begin nn zs n c)) ?_
  have h := rs_round nn zs n c ⟨#[]⟩ ((0 : Nat) : Int)
  cases n with
  | zero => exact H_ret hE_haymowref03_Text mixedD rfl h
  | succ n =>
    obtain ⟨z1, z2⟩ := inI_at hz 0
    obtain ⟨t1, t2⟩ := text03 (zs.getD 0 0) z1 z2
    obtain ⟨d1, d2⟩ := decText_len (zs.getD 0 0)
    have hl0 : lenB (⟨#[]⟩ : ByteArray) = 0 := rfl
    have hcat : catB ⟨#[]⟩ (decText (zs.getD 0 0)) = decText (zs.getD 0 0) := by rw [catB_eq]; exact ByteArray.empty_append
    have hw : IntKind.i64.wrap (((0 : Nat) : Int) + 1) = ((1 : Nat) : Int) := by decide
    simp only [rsZ, smJ_eq] at h
    rw [t1, t2, hw, decide_eq_true (show ((0 : Nat) : Int) < ((n + 1 : Nat) : Int) by omega), decide_eq_false (show ¬ (0 : Int) < ((0 : Nat) : Int) by omega), cond_true, cond_false, hcat] at h
    have hc : conj [decide (0 ≤ ((0 : Nat) : Int)), decide (((0 : Nat) : Int).toNat < n + 1), decide (0 < zs.length), true, Nat.ble (lenB ⟨#[]⟩ + lenB (decText (zs.getD 0 0))) 9223372036854775807] = true := by
      rw [hl0, Nat.ble_eq_true_of_le (show 0 + lenB (decText (zs.getD 0 0)) ≤ 9223372036854775807 by omega)]
      simp only [conj, Bool.and_eq_true, decide_eq_true_eq]
      exact ⟨by omega, by omega, by omega, trivial, trivial, trivial⟩
    rw [hc] at h
    exact Goes.gives (H_head (f := Tryd.f15) (B := 1) hE_haymowref03_Text mixedD rfl h) (rs_loop nn zs (n + 1) c hn h32 hz n 0 _ (by omega) (by omega))
def e_rls : Spec := fun m args => match args with
  | [.sl _ l 1 0 1 n _] => match look m.bl l with
    | some ⟨_, _, .col (.ints .i64 zs)⟩ => some (vs (listT zs n), none, [Nat.ble n zs.length, Nat.ble n 4294967296, inI zs])
    | _ => none
  | _ => none
theorem ok_rls : SpecOk Tryd.prog 15 e_rls := fun m args v mo bs h hb => by
  unfold e_rls at h
  split at h
  · rename_i nn l n c
    split at h
    · rename_i wr op zs hl
      cases h
      simp only [List.all_cons, List.all_nil, id, Bool.and_eq_true, Bool.and_true] at hb
      exact lift_one (ar := []) (br := []) hl rfl (rs_all nn zs n c (Nat.le_of_ble_eq_true hb.1) (Nat.le_of_ble_eq_true hb.2.1) hb.2.2) rfl rfl rfl rfl
    · cases h
  · cases h
end Go.Proofs.YtpmcflidggofkaaDoor

namespace Go.Proofs.YtpmcflidggofkaaDoor
open Go Go.RowKit
def mkB (l : List UInt8) : ByteArray := ⟨l.toArray⟩
theorem mkB_list (s : ByteArray) : mkB s.data.toList = s := by cases s; rfl
/-- Pieces at a byte. -/
def pcs (c : UInt8) : List UInt8 → List (List UInt8)
  | [] => [[]]
  | b :: l => if b = c then [] :: pcs c l else match pcs c l with
    | p :: ps => (b :: p) :: ps
    | [] => [[b]]
def addH (a : List UInt8) : List (List UInt8) → List (List UInt8)
  | p :: ps => (a ++ p) :: ps
  | [] => [a]
theorem pcs_ne (c : UInt8) : ∀ l, pcs c l ≠ []
  | [] => by simp [pcs]
  | b :: l => by
    unfold pcs
    split
    · simp
    · split <;> simp
theorem pcs_cons (c b : UInt8) (l : List UInt8) (h : b ≠ c) : pcs c (b :: l) = addH [b] (pcs c l) := by
  conv => lhs; unfold pcs
  rw [if_neg h]
  cases pcs c l <;> rfl
theorem pcs_hit (c : UInt8) (l : List UInt8) : pcs c (c :: l) = [] :: pcs c l := by
  conv => lhs; unfold pcs
  rw [if_pos rfl]
theorem addH_addH (a b : List UInt8) {x : List (List UInt8)} (h : x ≠ []) : addH a (addH b x) = addH (a ++ b) x := by
  cases x with
  | nil => exact absurd rfl h
  | cons p ps => simp [addH]
theorem addH_nil {x : List (List UInt8)} (h : x ≠ []) : addH [] x = x := by
  cases x with
  | nil => exact absurd rfl h
  | cons p ps => rfl
theorem pcs_app (c : UInt8) : ∀ (a l : List UInt8), (∀ b ∈ a, b ≠ c) → pcs c (a ++ l) = addH a (pcs c l)
  | [], l, _ => (addH_nil (pcs_ne c l)).symm
  | b :: a, l, h => by
    rw [List.cons_append, pcs_cons c b _ (h b (by simp)), pcs_app c a l (fun x hx => h x (by simp [hx])), addH_addH _ _ (pcs_ne c l)]
    rfl
theorem pcs_none (c : UInt8) (a : List UInt8) (h : ∀ b ∈ a, b ≠ c) : pcs c a = [a] := by
  have := pcs_app c a [] h
  rw [List.append_nil] at this
  rw [this]
  simp [pcs, addH]
theorem pcs_cut (c : UInt8) (a l : List UInt8) (h : ∀ b ∈ a, b ≠ c) : pcs c (a ++ c :: l) = a :: pcs c l := by
  rw [pcs_app c a _ h, pcs_hit]
  simp [addH]
theorem pcs_snoc (c : UInt8) : ∀ (a d : List UInt8), pcs c (a ++ c :: d) = pcs c a ++ pcs c d
  | [], d => by rw [List.nil_append, pcs_hit]; rfl
  | b :: a, d => by
    rw [List.cons_append]
    by_cases e : b = c
    · subst e
      rw [pcs_hit, pcs_hit, pcs_snoc b a d]
      rfl
    · rw [pcs_cons c b _ e, pcs_cons c b _ e, pcs_snoc c a d]
      have := pcs_ne c a
      cases h : pcs c a with
      | nil => exact absurd h this
      | cons p ps => rfl
theorem extL (s : ByteArray) (a b : Nat) : (s.extract a b).data.toList = (s.data.toList.take b).drop a := by
  rw [ByteArray.data_extract, Array.toList_extract, List.extract_eq_take_drop]
  rw [List.drop_take]
theorem sizeL (s : ByteArray) : s.data.toList.length = s.size := rfl
/-- What Split hands back. -/
theorem splitB_pcs : ∀ (k : Nat) (s : ByteArray), Lib.countB s sp1 = k → Lib.splitB sp1 0 k s = (pcs 32 s.data.toList).map mkB
  | k, s, hk => by
    have hsp : sp1.size = 1 := rfl
    have hix : Lib.indexB s sp1 = Lib.indexByte s.data.toList 32 := Lib.index_one s.data.toList 32
    rcases Lib.indexB_cases s sp1 with h | ⟨i, h, hi⟩
    · rw [Lib.splitB_miss _ _ _ _ h]
      have hn := Lib.indexByte_none (hix ▸ h)
      rw [pcs_none 32 _ fun b hb e => by
        obtain ⟨j, hj⟩ := List.mem_iff_getElem?.1 hb
        exact hn j (by rw [hj, e])]
      simp [mkB_list]
    · have hc := Lib.countB_hit s sp1 i (by rw [hsp]; exact Nat.le_refl _) h
      obtain ⟨k, rfl⟩ : ∃ k', k = k' + 1 := ⟨k - 1, by omega⟩
      rw [Lib.splitB_hit _ _ _ _ i h, hsp]
      have hlt : (s.extract (i + 1) s.size).size < s.size := by rw [ByteArray.size_extract]; omega
      rw [splitB_pcs k (s.extract (i + 1) s.size) (by rw [hsp] at hc; omega)]
      obtain ⟨g1, g2⟩ := Lib.indexByte_some (hix ▸ h)
      have hil : i < s.data.toList.length := (List.getElem?_eq_some_iff.1 g1).1
      have hspl : s.data.toList = s.data.toList.take i ++ 32 :: s.data.toList.drop (i + 1) := by
        conv => lhs; rw [← List.take_append_drop i s.data.toList]
        congr 1
        rw [List.drop_eq_getElem_cons hil]
        congr 1
        exact (List.getElem?_eq_some_iff.1 g1).2
      have e2 : (s.extract (i + 1) s.size).data.toList = s.data.toList.drop (i + 1) := by
        rw [extL, ← sizeL, List.take_length]
      have e1 : s.extract 0 (i + 0) = mkB (s.data.toList.take i) := by
        have := extL s 0 (i + 0)
        rw [List.drop_zero, Nat.add_zero] at this
        rw [← mkB_list (s.extract 0 (i + 0)), Nat.add_zero, this]
      rw [e2, e1]
      conv => rhs; rw [hspl]
      rw [pcs_cut 32 _ _ fun b hb e => by
        obtain ⟨j, hj⟩ := List.mem_iff_getElem?.1 hb
        have hji : j < i := by have := (List.getElem?_eq_some_iff.1 hj).1; simp at this; omega
        rw [List.getElem?_take_of_lt hji] at hj
        exact g2 j hji (by rw [hj, e])]
      rfl
termination_by _ s => s.size
theorem splitL_pcs (s : ByteArray) : splitL s sp1 = (pcs 32 s.data.toList).map mkB := splitB_pcs _ s rfl
/-- What Cut hands back. -/
theorem cutF_pcs (s : ByteArray) : ∀ (k i j : Nat) (ss : List ByteArray), i + k = s.size → j ≤ i → cutF s 32 i k j ss = ss ++ (addH ((s.data.toList.take i).drop j) (pcs 32 (s.data.toList.drop i))).map mkB
  | 0, i, j, ss, hi, hj => by
    have hd' : s.data.toList.drop i = [] := List.drop_eq_nil_of_le (by rw [sizeL]; omega)
    rw [hd']
    simp only [cutF, pcs, addH, List.append_nil, List.map_cons, List.map_nil]
    rw [← extL, mkB_list, show i = s.size by omega]
  | k + 1, i, j, ss, hi, hj => by
    have hil : i < s.data.toList.length := by rw [sizeL]; omega
    have hdr : s.data.toList.drop i = s.data.toList[i] :: s.data.toList.drop (i + 1) := List.drop_eq_getElem_cons hil
    have htk : (s.data.toList.take (i + 1)).drop j = (s.data.toList.take i).drop j ++ [s.data.toList[i]] := by
      rw [List.take_add_one, List.getElem?_eq_getElem hil, List.drop_append_of_le_length (by simp; omega)]
      rfl
    have hb : (byteAt s i == 32) = decide (s.data.toList[i] = 32) := by
      unfold byteAt
      rw [List.getD_eq_getElem?_getD, List.getElem?_eq_getElem hil, Option.getD_some, Bool.eq_iff_iff]
      simp only [beq_iff_eq, decide_eq_true_eq]
      constructor
      · intro h
        have : s.data.toList[i].toNat = 32 := by omega
        exact UInt8.toNat_inj.1 this
      · intro h
        rw [h]; rfl
    simp only [cutF]
    rw [hb, hdr]
    by_cases e : s.data.toList[i] = 32
    · rw [decide_eq_true e, cond_true, cutF_pcs s k (i + 1) (i + 1) _ (by omega) (Nat.le_refl _), e, pcs_hit]
      rw [show (s.data.toList.take (i + 1)).drop (i + 1) = [] from List.drop_eq_nil_of_le (by simp; omega), addH_nil (pcs_ne _ _)]
      simp only [addH, List.append_nil, List.map_cons, List.append_assoc, List.singleton_append]
      rw [← extL, mkB_list]
    · rw [decide_eq_false e, cond_false, cutF_pcs s k (i + 1) j ss (by omega) (by omega), htk, pcs_cons _ _ _ e, addH_addH _ _ (pcs_ne _ _)]
theorem cutV_eq (s : ByteArray) : cutV s 32 = splitL s sp1 := by
  unfold cutV
  rw [cutF_pcs s s.size 0 0 [] (by omega) (Nat.le_refl _), splitL_pcs]
  simp only [List.take_zero, List.drop_nil, List.drop_zero, List.nil_append]
  rw [addH_nil (pcs_ne _ _)]
theorem emp_eq (s : ByteArray) : (s.toList == []) = (Int.ofNat s.size == 0) := by
  have : s.toList = s.data.toList := ByteArray.toList_eq s
  rw [this, Bool.eq_iff_iff]
  simp only [beq_iff_eq]
  constructor
  · intro h
    have := sizeL s
    rw [h] at this
    show (s.size : Int) = 0
    simp at this; omega
  · intro h
    apply List.eq_nil_of_length_eq_zero
    rw [sizeL]
    have h : (s.size : Int) = 0 := h
    omega
/-- Both readings are one. -/
theorem rrV_eq (s : ByteArray) : rrV s = rlV s := by
  unfold rrV rlV
  rw [emp_eq, cutV_eq, show (splitL s sp1).length = Lib.countB s sp1 + 1 from Lib.splitB_all sp1 (by decide) 0 _ s rfl]
/-- A number's text has no blank. -/
theorem dec_free (z : Int) : ∀ b ∈ (decText z).data.toList, b ≠ 32 := by
  have hd' : dgts (decL 19 z.natAbs []) := decL_dg 19 z.natAbs [] (fun x hx => by cases hx)
  have key : ∀ b ∈ (strOf (decL 19 z.natAbs [])).data.toList, b ≠ 32 := fun b hb e => by
    rw [str_list, List.mem_map] at hb
    obtain ⟨n, hn, rfl⟩ := hb
    have := hd' n hn
    have h2 : (UInt8.ofNat n.toNat).toNat = 32 := by rw [e]; rfl
    rw [UInt8.toNat_ofNat'] at h2
    omega
  intro b hb
  unfold decText at hb
  cases h : decide (z < 0) with
  | true =>
    rw [h, cond_true, ← catB_eq] at hb
    simp only [catB, List.mem_append] at hb
    rcases hb with hb | hb
    · simp at hb; subst hb; decide
    · exact key b hb
  | false => rw [h, cond_false] at hb; exact key b hb
theorem lsF_pcs (zs : List Int) : ∀ (j i : Nat) (s : ByteArray), pcs 32 (lsF zs i j s).data.toList = pcs 32 s.data.toList ++ (List.range' i j).map fun k => (decText (zs.getD k 0)).data.toList
  | 0, i, s => by simp [lsF]
  | j + 1, i, s => by
    simp only [lsF]
    rw [lsF_pcs zs j (i + 1)]
    have e : (catB (catB s sp1) (decText (zs.getD i 0))).data.toList = s.data.toList ++ 32 :: (decText (zs.getD i 0)).data.toList := by
      simp [catB, sp1]
    rw [e, pcs_snoc, pcs_none 32 _ (dec_free _), List.range'_succ, List.map_cons, List.append_assoc]
    rfl
theorem listT_split (zs : List Int) (n : Nat) : splitL (listT zs (n + 1)) sp1 = (List.range' 0 (n + 1)).map fun k => decText (zs.getD k 0) := by
  rw [splitL_pcs]
  show (pcs 32 (lsF zs 1 n (decText (zs.getD 0 0))).data.toList).map mkB = _
  rw [lsF_pcs, pcs_none 32 _ (dec_free _), List.range'_succ, List.map_append, List.map_map, List.map_cons]
  simp only [List.map_cons, List.map_nil, mkB_list, List.singleton_append, Nat.zero_add]
  congr 1
theorem lsF_len (zs : List Int) : ∀ (j i : Nat) (s : ByteArray), lenB s ≤ lenB (lsF zs i j s) ∧ lenB (lsF zs i j s) ≤ lenB s + 21 * j
  | 0, i, s => ⟨Nat.le_refl _, Nat.le_refl _⟩
  | j + 1, i, s => by
    have h := lsF_len zs j (i + 1) (catB (catB s sp1) (decText (zs.getD i 0)))
    have hd' := decText_len (zs.getD i 0)
    rw [lenB_cat, lenB_cat, show lenB sp1 = 1 from rfl] at h
    simp only [lsF]
    omega
theorem listT_len (zs : List Int) (n : Nat) : lenB (listT zs n) ≤ 21 * n ∧ (0 < n → 0 < lenB (listT zs n)) := by
  cases n with
  | zero => exact ⟨Nat.le_refl _, fun h => absurd h (by omega)⟩
  | succ n =>
    have h := lsF_len zs n 1 (decText (zs.getD 0 0))
    have hd' := decText_len (zs.getD 0 0)
    show lenB (lsF zs 1 n (decText (zs.getD 0 0))) ≤ _ ∧ _
    exact ⟨by omega, fun _ => by show 0 < lenB (lsF zs 1 n (decText (zs.getD 0 0))); omega⟩
theorem rlF_back (zs : List Int) (n : Nat) (hn : n ≤ zs.length) (hz : inI zs = true) : ∀ (j i : Nat), i + j = n → rlF ((List.range' 0 n).map fun k => decText (zs.getD k 0)) i j (zs.take i) = (zs.take n, 0)
  | 0, i, hi => by simp only [rlF]; rw [show i = n by omega]
  | j + 1, i, hi => by
    have hg : ((List.range' 0 n).map fun k => decText (zs.getD k 0)).getD i ⟨#[]⟩ = decText (zs.getD i 0) := by
      rw [List.getD_eq_getElem?_getD, List.getElem?_map, List.getElem?_range' (by omega)]
      simp
    obtain ⟨z1, z2⟩ := inI_at hz i
    have hb := back (zs.getD i 0) z1 z2
    simp only [rlF]
    rw [hg]
    have e1 : rd1 (decText (zs.getD i 0)) = 0 := by unfold rd1; rw [hb]
    have e0 : rd0 (decText (zs.getD i 0)) = zs.getD i 0 := by unfold rd0; rw [hb]
    rw [e1, e0, bne_self_eq_false, cond_false]
    have ht : zs.take i ++ [zs.getD i 0] = zs.take (i + 1) := by
      have hil : i < zs.length := by omega
      rw [List.take_add_one, List.getD_eq_getElem?_getD, List.getElem?_eq_getElem hil]
      rfl
    rw [ht]
    exact rlF_back zs n hn hz j (i + 1) (by omega)
/-- A list's text is read back. -/
theorem list_back (zs : List Int) (n : Nat) (hn : n ≤ zs.length) (hz : inI zs = true) : rlV (listT zs n) = (zs.take n, 0) := by
  unfold rlV
  cases n with
  | zero => rw [emp_eq]; rfl
  | succ n =>
    have h1 := (listT_len zs (n + 1)).2 (by omega)
    rw [lenB_eq] at h1
    rw [emp_eq, show (Int.ofNat (listT zs (n + 1)).size == 0) = false by
      rw [beq_eq_false_iff_ne]; show ((listT zs (n + 1)).size : Int) ≠ 0; omega, cond_false]
    have hl : (splitL (listT zs (n + 1)) sp1).length = Lib.countB (listT zs (n + 1)) sp1 + 1 := Lib.splitB_all sp1 (by decide) 0 _ _ rfl
    rw [← hl, listT_split, List.length_map, List.length_range']
    exact rlF_back zs (n + 1) hn hz (n + 1) 0 (by omega)
end Go.Proofs.YtpmcflidggofkaaDoor

namespace Go.Proofs.YtpmcflidggofkaaDoor
open Go Go.RowKit
set_option maxRecDepth 100000
def e_arN (j : Nat) : Spec := fun _ args => match args with
  | [.val (.int .i64 k)] => some (vi (Int.ofNat j), none, [recAr k == Int.ofNat j])
  | _ => none
theorem ok_arN (j : Nat) : SpecOk Tryd.prog 56 (e_arN j) := fun m args v mo bs h hb => by
  unfold e_arN at h
  split at h
  · rename_i k
    cases h
    simp only [List.all_cons, List.all_nil, id, Bool.and_true, beq_iff_eq] at hb
    have := ok_ar m [vi k] _ _ _ rfl rfl
    rw [hb] at this
    exact this
  · cases h
theorem ok_rarN (j : Nat) : SpecOk Tryd.prog 58 (e_arN j) := fun m args v mo bs h hb => by
  unfold e_arN at h
  split at h
  · rename_i k
    cases h
    simp only [List.all_cons, List.all_nil, id, Bool.and_true, beq_iff_eq] at hb
    have := ok_rar m [vi k] _ _ _ rfl rfl
    rw [hb] at this
    exact this
  · cases h
/-- A text in pieces: the pieces are known. -/
def e_spX (ss : List ByteArray) (n : Nat) : Spec := fun m args => match args with
  | [.val (.string s), .val (.string sep)] => match globOf m.bl 0 with
    | some (l, _) => match look m.bl l with
      | some ⟨_, _, .obj (.glob 0 (.ints .i64 (_ :: _)))⟩ => some (.sl true m.nx 1 0 1 n (some n), some (m.new ⟨true, false, .col (.strs ss)⟩), [Nat.blt (lenB s) 4294967281, Nat.blt 0 (lenB sep), decide (splitL s sep = ss), Nat.beq ss.length n])
      | _ => none
    | none => none
  | _ => none
theorem ok_spX (ss : List ByteArray) (n : Nat) : SpecOk Tryd.prog 50 (e_spX ss n) := fun m args v mo bs h hb => by
  unfold e_spX at h
  split at h <;> try cases h
  rename_i s sep
  split at h <;> try cases h
  rename_i l c0 hg0
  split at h <;> try cases h
  rename_i wr op z zs hl
  simp only [List.all_cons, List.all_nil, id, Bool.and_eq_true, Bool.and_true, decide_eq_true_eq] at hb
  obtain ⟨b1, b2, b3, b4⟩ := hb
  have b4 := Nat.eq_of_beq_eq_true b4
  have hlen : (splitL s sep).length = Lib.countB s sep + 1 := Lib.splitB_all sep (by rw [Nat.blt_eq, lenB_eq] at b2; exact b2) 0 _ s rfl
  have h0 := ok_split m [vs s, vs sep] (.sl true m.nx 1 0 1 (Lib.countB s sep + 1) (some (Lib.countB s sep + 1))) (some (m.new ⟨true, false, .col (.strs (splitL s sep))⟩)) [Nat.blt (lenB s) 4294967281, Nat.blt 0 (lenB sep)] (by unfold e_split; simp only [hg0, hl]) (by simp [b1, b2])
  rw [← hlen, b3, b4] at h0
  exact h0
def e_cuX (ss : List ByteArray) (n : Nat) : Spec := fun m args => match args with
  | [.val (.string s), .val (.int .u8 c)] => match decide (c = 32) with
    | true => some (.sl false m.nx 1 0 1 n none, some ⟨(m.nx, some ⟨false, false, .col (.strs ss)⟩) :: m.bl, m.nx + 1⟩, [Nat.ble s.size 4294967296, decide (splitL s sp1 = ss), Nat.beq ss.length n])
    | false => none
  | _ => none
abbrev rcW (ss : List ByteArray) : ByteArray := ss.getD 0 ⟨#[]⟩
/-- The call's numbers, its kind ahead; an error. -/
def rcX (ss : List ByteArray) : List Int × Int := bif !record_Named_1 (rcW ss) then ([], 40) else bif Int.ofNat ss.length - 1 != recAr (record_Named_0 (rcW ss)) then ([], 41) else
  bif (rlF ss 1 (ss.length - 1) []).2 != 0 then ([], (rlF ss 1 (ss.length - 1) []).2) else (record_Named_0 (rcW ss) :: (rlF ss 1 (ss.length - 1) []).1, 0)
abbrev rcV (ss : List ByteArray) : AV := .tup [.agg [vi ((rcX ss).1.getD 0 0), vi ((rcX ss).1.getD 1 0), vi ((rcX ss).1.getD 2 0), vi ((rcX ss).1.getD 3 0), vi ((rcX ss).1.getD 4 0)], vi (rcX ss).2]
abbrev rcR (v : AV) (bs : List Bool) : Option Fin_ := some (.ret v ⟨[], 99⟩ (conj bs))
abbrev rcE (e : Int) : AV := .tup [.agg [vi 0, vi 0, vi 0, vi 0, vi 0], vi e]
theorem bif_in {b c : Bool} {x y : Int} {k : Nat} (hk : k < 21) (hx : x = (k : Int)) (h : (bif b then true else c) = true) (hr : c = true → ∃ n : Nat, y = (n : Int) ∧ n < 21) : ∃ n : Nat, (bif b then x else y) = (n : Int) ∧ n < 21 := by
  cases b with
  | true => exact ⟨k, hx, hk⟩
  | false => exact hr h
theorem bif_no {b c : Bool} {x y z : Int} (h : z = bif c then y else -1) : (bif b then x else z) = bif (bif b then true else c) then (bif b then x else y) else -1 := by
  cases b with
  | true => rfl
  | false => exact h
theorem named_in {w : ByteArray} (h : record_Named_1 w = true) : ∃ n : Nat, record_Named_0 w = (n : Int) ∧ n < 21 := by
  rw [nm1] at h
  rw [nm0]
  unfold bw1 at h
  unfold bw0
  exact bif_in (k := 20) (by omega) rfl h fun h => bif_in (k := 19) (by omega) rfl h fun h => bif_in (k := 18) (by omega) rfl h fun h => bif_in (k := 17) (by omega) rfl h fun h => bif_in (k := 16) (by omega) rfl h fun h => bif_in (k := 15) (by omega) rfl h fun h => bif_in (k := 14) (by omega) rfl h fun h => bif_in (k := 13) (by omega) rfl h fun h => bif_in (k := 12) (by omega) rfl h fun h => bif_in (k := 11) (by omega) rfl h fun h => bif_in (k := 10) (by omega) rfl h fun h => bif_in (k := 9) (by omega) rfl h fun h => bif_in (k := 8) (by omega) rfl h fun h => bif_in (k := 7) (by omega) rfl h fun h => bif_in (k := 6) (by omega) rfl h fun h => bif_in (k := 5) (by omega) rfl h fun h => bif_in (k := 4) (by omega) rfl h fun h => bif_in (k := 3) (by omega) rfl h fun h => bif_in (k := 2) (by omega) rfl h fun h => bif_in (k := 1) (by omega) rfl h fun h => bif_in (k := 0) (by omega) rfl h fun h => by cases h
theorem ofNat_sub (a j : Nat) (h : a = j + 1) : Int.ofNat a - 1 = Int.ofNat j := by
  subst h
  show ((j + 1 : Nat) : Int) - 1 = (j : Int)
  omega
abbrev L_rd (ss : List ByteArray) (n : Nat) : List (FuncId × Spec) := (50, e_spX ss n) :: (44, e_read) :: L_rw
theorem hE_rd (ss : List ByteArray) (n : Nat) : ESound Tryd.prog (envOf (L_rd ss n)) := env_cons (ok_spX ss n) (env_cons ok_read hE_rw)
abbrev L_rdN (ss : List ByteArray) (j : Nat) : List (FuncId × Spec) := (50, e_spX ss (j + 1)) :: (44, e_read) :: (56, e_arN j) :: L_rw
theorem hE_rdN (ss : List ByteArray) (j : Nat) : ESound Tryd.prog (envOf (L_rdN ss j)) := env_cons (ok_spX ss (j + 1)) (env_cons ok_read (env_cons (ok_arN j) hE_rw))
abbrev rqO (s : ByteArray) (ss : List ByteArray) (n : Nat) : List Bool := [Nat.blt (lenB s) 4294967281, decide (splitL s sp1 = ss), Nat.beq ss.length n]
theorem rd_a (x : Int) (s : ByteArray) (ss : List ByteArray) (n : Nat) : FO_ Tryd.prog (L_rd ss n) Tryd.f18 [] [] 99 [1] [vs s] (mlM [x]) =
    rcR (rcE 40) (rqO s ss n ++ [decide (0 < n), decide (0 < ss.length), !record_Named_1 (rcW ss)]) := by kernel_rfl
theorem rd_b (x : Int) (s : ByteArray) (ss : List ByteArray) (n : Nat) : FO_ Tryd.prog (L_rd ss n) Tryd.f18 [] [] 99 [0, 1] [vs s] (mlM [x]) =
    rcR (rcE 41) (rqO s ss n ++ [decide (0 < n), decide (0 < ss.length), !!record_Named_1 (rcW ss), IntKind.i64.wrap (Int.ofNat n - 1) != recAr (record_Named_0 (rcW ss))]) := by kernel_rfl
theorem rd_c0 (x : Int) (s : ByteArray) (ss : List ByteArray) : FO_ Tryd.prog (L_rdN ss 0) Tryd.f18 [] [] 99 [0] [vs s] (mlM [x]) =
    rcR (.tup [.agg [vi (record_Named_0 (rcW ss)), vi (0), vi (0), vi (0), vi (0)], vi 0]) (rqO s ss 1 ++ [decide (0 < ss.length), !!record_Named_1 (rcW ss), recAr (record_Named_0 (rcW ss)) == 0] ++ []) := by kernel_rfl
theorem rd_c1 (x : Int) (s : ByteArray) (ss : List ByteArray) : FO_ Tryd.prog (L_rdN ss 1) Tryd.f18 [] [] 99 [0] [vs s] (mlM [x]) =
    bif rd1 (ss.getD 1 ⟨#[]⟩) != 0 then rcR (rcE (rd1 (ss.getD 1 ⟨#[]⟩))) (rqO s ss 2 ++ [decide (0 < ss.length), !!record_Named_1 (rcW ss), recAr (record_Named_0 (rcW ss)) == 1] ++ [decide (1 < ss.length), Nat.ble (ss.getD 1 ⟨#[]⟩).size 9223372036854775807]) else rcR (.tup [.agg [vi (record_Named_0 (rcW ss)), vi (rd0 (ss.getD 1 ⟨#[]⟩)), vi (0), vi (0), vi (0)], vi 0]) (rqO s ss 2 ++ [decide (0 < ss.length), !!record_Named_1 (rcW ss), recAr (record_Named_0 (rcW ss)) == 1] ++ [decide (1 < ss.length), Nat.ble (ss.getD 1 ⟨#[]⟩).size 9223372036854775807]) := by kernel_rfl
theorem rd_c2 (x : Int) (s : ByteArray) (ss : List ByteArray) : FO_ Tryd.prog (L_rdN ss 2) Tryd.f18 [] [] 99 [0] [vs s] (mlM [x]) =
    bif rd1 (ss.getD 1 ⟨#[]⟩) != 0 then rcR (rcE (rd1 (ss.getD 1 ⟨#[]⟩))) (rqO s ss 3 ++ [decide (0 < ss.length), !!record_Named_1 (rcW ss), recAr (record_Named_0 (rcW ss)) == 2] ++ [decide (1 < ss.length), Nat.ble (ss.getD 1 ⟨#[]⟩).size 9223372036854775807]) else bif rd1 (ss.getD 2 ⟨#[]⟩) != 0 then rcR (rcE (rd1 (ss.getD 2 ⟨#[]⟩))) (rqO s ss 3 ++ [decide (0 < ss.length), !!record_Named_1 (rcW ss), recAr (record_Named_0 (rcW ss)) == 2] ++ [decide (1 < ss.length), Nat.ble (ss.getD 1 ⟨#[]⟩).size 9223372036854775807, decide (2 < ss.length), Nat.ble (ss.getD 2 ⟨#[]⟩).size 9223372036854775807]) else rcR (.tup [.agg [vi (record_Named_0 (rcW ss)), vi (rd0 (ss.getD 1 ⟨#[]⟩)), vi (rd0 (ss.getD 2 ⟨#[]⟩)), vi (0), vi (0)], vi 0]) (rqO s ss 3 ++ [decide (0 < ss.length), !!record_Named_1 (rcW ss), recAr (record_Named_0 (rcW ss)) == 2] ++ [decide (1 < ss.length), Nat.ble (ss.getD 1 ⟨#[]⟩).size 9223372036854775807, decide (2 < ss.length), Nat.ble (ss.getD 2 ⟨#[]⟩).size 9223372036854775807]) := by kernel_rfl
theorem rd_c3 (x : Int) (s : ByteArray) (ss : List ByteArray) : FO_ Tryd.prog (L_rdN ss 3) Tryd.f18 [] [] 99 [0] [vs s] (mlM [x]) =
    bif rd1 (ss.getD 1 ⟨#[]⟩) != 0 then rcR (rcE (rd1 (ss.getD 1 ⟨#[]⟩))) (rqO s ss 4 ++ [decide (0 < ss.length), !!record_Named_1 (rcW ss), recAr (record_Named_0 (rcW ss)) == 3] ++ [decide (1 < ss.length), Nat.ble (ss.getD 1 ⟨#[]⟩).size 9223372036854775807]) else bif rd1 (ss.getD 2 ⟨#[]⟩) != 0 then rcR (rcE (rd1 (ss.getD 2 ⟨#[]⟩))) (rqO s ss 4 ++ [decide (0 < ss.length), !!record_Named_1 (rcW ss), recAr (record_Named_0 (rcW ss)) == 3] ++ [decide (1 < ss.length), Nat.ble (ss.getD 1 ⟨#[]⟩).size 9223372036854775807, decide (2 < ss.length), Nat.ble (ss.getD 2 ⟨#[]⟩).size 9223372036854775807]) else bif rd1 (ss.getD 3 ⟨#[]⟩) != 0 then rcR (rcE (rd1 (ss.getD 3 ⟨#[]⟩))) (rqO s ss 4 ++ [decide (0 < ss.length), !!record_Named_1 (rcW ss), recAr (record_Named_0 (rcW ss)) == 3] ++ [decide (1 < ss.length), Nat.ble (ss.getD 1 ⟨#[]⟩).size 9223372036854775807, decide (2 < ss.length), Nat.ble (ss.getD 2 ⟨#[]⟩).size 9223372036854775807, decide (3 < ss.length), Nat.ble (ss.getD 3 ⟨#[]⟩).size 9223372036854775807]) else rcR (.tup [.agg [vi (record_Named_0 (rcW ss)), vi (rd0 (ss.getD 1 ⟨#[]⟩)), vi (rd0 (ss.getD 2 ⟨#[]⟩)), vi (rd0 (ss.getD 3 ⟨#[]⟩)), vi (0)], vi 0]) (rqO s ss 4 ++ [decide (0 < ss.length), !!record_Named_1 (rcW ss), recAr (record_Named_0 (rcW ss)) == 3] ++ [decide (1 < ss.length), Nat.ble (ss.getD 1 ⟨#[]⟩).size 9223372036854775807, decide (2 < ss.length), Nat.ble (ss.getD 2 ⟨#[]⟩).size 9223372036854775807, decide (3 < ss.length), Nat.ble (ss.getD 3 ⟨#[]⟩).size 9223372036854775807]) := by kernel_rfl
theorem rd_c4 (x : Int) (s : ByteArray) (ss : List ByteArray) : FO_ Tryd.prog (L_rdN ss 4) Tryd.f18 [] [] 99 [0] [vs s] (mlM [x]) =
    bif rd1 (ss.getD 1 ⟨#[]⟩) != 0 then rcR (rcE (rd1 (ss.getD 1 ⟨#[]⟩))) (rqO s ss 5 ++ [decide (0 < ss.length), !!record_Named_1 (rcW ss), recAr (record_Named_0 (rcW ss)) == 4] ++ [decide (1 < ss.length), Nat.ble (ss.getD 1 ⟨#[]⟩).size 9223372036854775807]) else bif rd1 (ss.getD 2 ⟨#[]⟩) != 0 then rcR (rcE (rd1 (ss.getD 2 ⟨#[]⟩))) (rqO s ss 5 ++ [decide (0 < ss.length), !!record_Named_1 (rcW ss), recAr (record_Named_0 (rcW ss)) == 4] ++ [decide (1 < ss.length), Nat.ble (ss.getD 1 ⟨#[]⟩).size 9223372036854775807, decide (2 < ss.length), Nat.ble (ss.getD 2 ⟨#[]⟩).size 9223372036854775807]) else bif rd1 (ss.getD 3 ⟨#[]⟩) != 0 then rcR (rcE (rd1 (ss.getD 3 ⟨#[]⟩))) (rqO s ss 5 ++ [decide (0 < ss.length), !!record_Named_1 (rcW ss), recAr (record_Named_0 (rcW ss)) == 4] ++ [decide (1 < ss.length), Nat.ble (ss.getD 1 ⟨#[]⟩).size 9223372036854775807, decide (2 < ss.length), Nat.ble (ss.getD 2 ⟨#[]⟩).size 9223372036854775807, decide (3 < ss.length), Nat.ble (ss.getD 3 ⟨#[]⟩).size 9223372036854775807]) else bif rd1 (ss.getD 4 ⟨#[]⟩) != 0 then rcR (rcE (rd1 (ss.getD 4 ⟨#[]⟩))) (rqO s ss 5 ++ [decide (0 < ss.length), !!record_Named_1 (rcW ss), recAr (record_Named_0 (rcW ss)) == 4] ++ [decide (1 < ss.length), Nat.ble (ss.getD 1 ⟨#[]⟩).size 9223372036854775807, decide (2 < ss.length), Nat.ble (ss.getD 2 ⟨#[]⟩).size 9223372036854775807, decide (3 < ss.length), Nat.ble (ss.getD 3 ⟨#[]⟩).size 9223372036854775807, decide (4 < ss.length), Nat.ble (ss.getD 4 ⟨#[]⟩).size 9223372036854775807]) else rcR (.tup [.agg [vi (record_Named_0 (rcW ss)), vi (rd0 (ss.getD 1 ⟨#[]⟩)), vi (rd0 (ss.getD 2 ⟨#[]⟩)), vi (rd0 (ss.getD 3 ⟨#[]⟩)), vi (rd0 (ss.getD 4 ⟨#[]⟩))], vi 0]) (rqO s ss 5 ++ [decide (0 < ss.length), !!record_Named_1 (rcW ss), recAr (record_Named_0 (rcW ss)) == 4] ++ [decide (1 < ss.length), Nat.ble (ss.getD 1 ⟨#[]⟩).size 9223372036854775807, decide (2 < ss.length), Nat.ble (ss.getD 2 ⟨#[]⟩).size 9223372036854775807, decide (3 < ss.length), Nat.ble (ss.getD 3 ⟨#[]⟩).size 9223372036854775807, decide (4 < ss.length), Nat.ble (ss.getD 4 ⟨#[]⟩).size 9223372036854775807]) := by kernel_rfl
theorem rcX_a {ss : List ByteArray} (h : record_Named_1 (rcW ss) = false) : rcX ss = ([], 40) := by
  unfold rcX
  rw [h]; rfl
theorem rcX_b {ss : List ByteArray} (h : record_Named_1 (rcW ss) = true) (hn : (Int.ofNat ss.length - 1 != recAr (record_Named_0 (rcW ss))) = true) : rcX ss = ([], 41) := by
  unfold rcX
  rw [h, hn]; rfl
theorem rcX_c {ss : List ByteArray} {j : Nat} (h : record_Named_1 (rcW ss) = true) (hl : ss.length = j + 1) (ha : recAr (record_Named_0 (rcW ss)) = Int.ofNat j) :
    rcX ss = bif (rlF ss 1 j []).2 != 0 then ([], (rlF ss 1 j []).2) else (record_Named_0 (rcW ss) :: (rlF ss 1 j []).1, 0) := by
  unfold rcX
  rw [h, ha, ofNat_sub _ _ hl, bne_self_eq_false, hl]
  rfl
theorem rcT0 {ss : List ByteArray} (h : record_Named_1 (rcW ss) = true) (hl : ss.length = 1) (ha : recAr (record_Named_0 (rcW ss)) = 0) (bs : Nat → List Bool) (hb : ∀ i, conj (bs i) = true) :
    rcR (.tup [.agg [vi (record_Named_0 (rcW ss)), vi 0, vi 0, vi 0, vi 0], vi 0]) (bs 0) = some (.ret (rcV ss) ⟨[], 99⟩ true) := by
  unfold rcV
  rw [rcX_c (j := 0) h hl ha]
  unfold rcR
  simp only [rlF, hb]
  rfl
theorem rcT1 {ss : List ByteArray} (h : record_Named_1 (rcW ss) = true) (hl : ss.length = 2) (ha : recAr (record_Named_0 (rcW ss)) = 1) (bs : Nat → List Bool) (hb : ∀ i, conj (bs i) = true) :
    (bif rd1 (ss.getD 1 ⟨#[]⟩) != 0 then rcR (rcE (rd1 (ss.getD 1 ⟨#[]⟩))) (bs 1) else rcR (.tup [.agg [vi (record_Named_0 (rcW ss)), vi (rd0 (ss.getD 1 ⟨#[]⟩)), vi 0, vi 0, vi 0], vi 0]) (bs 0)) = some (.ret (rcV ss) ⟨[], 99⟩ true) := by
  unfold rcV
  rw [rcX_c (j := 1) h hl ha]
  unfold rcR
  simp only [rlF, hb]
  cases h1 : (rd1 (ss.getD 1 ⟨#[]⟩) != 0)
  case true => simp only [cond_true, h1]; rfl
  simp only [cond_false]
  rfl
theorem rcT2 {ss : List ByteArray} (h : record_Named_1 (rcW ss) = true) (hl : ss.length = 3) (ha : recAr (record_Named_0 (rcW ss)) = 2) (bs : Nat → List Bool) (hb : ∀ i, conj (bs i) = true) :
    (bif rd1 (ss.getD 1 ⟨#[]⟩) != 0 then rcR (rcE (rd1 (ss.getD 1 ⟨#[]⟩))) (bs 1) else (bif rd1 (ss.getD 2 ⟨#[]⟩) != 0 then rcR (rcE (rd1 (ss.getD 2 ⟨#[]⟩))) (bs 2) else rcR (.tup [.agg [vi (record_Named_0 (rcW ss)), vi (rd0 (ss.getD 1 ⟨#[]⟩)), vi (rd0 (ss.getD 2 ⟨#[]⟩)), vi 0, vi 0], vi 0]) (bs 0))) = some (.ret (rcV ss) ⟨[], 99⟩ true) := by
  unfold rcV
  rw [rcX_c (j := 2) h hl ha]
  unfold rcR
  simp only [rlF, hb]
  cases h1 : (rd1 (ss.getD 1 ⟨#[]⟩) != 0)
  case true => simp only [cond_true, h1]; rfl
  simp only [cond_false]
  cases h2 : (rd1 (ss.getD 2 ⟨#[]⟩) != 0)
  case true => simp only [cond_true, h2]; rfl
  simp only [cond_false]
  rfl
theorem rcT3 {ss : List ByteArray} (h : record_Named_1 (rcW ss) = true) (hl : ss.length = 4) (ha : recAr (record_Named_0 (rcW ss)) = 3) (bs : Nat → List Bool) (hb : ∀ i, conj (bs i) = true) :
    (bif rd1 (ss.getD 1 ⟨#[]⟩) != 0 then rcR (rcE (rd1 (ss.getD 1 ⟨#[]⟩))) (bs 1) else (bif rd1 (ss.getD 2 ⟨#[]⟩) != 0 then rcR (rcE (rd1 (ss.getD 2 ⟨#[]⟩))) (bs 2) else (bif rd1 (ss.getD 3 ⟨#[]⟩) != 0 then rcR (rcE (rd1 (ss.getD 3 ⟨#[]⟩))) (bs 3) else rcR (.tup [.agg [vi (record_Named_0 (rcW ss)), vi (rd0 (ss.getD 1 ⟨#[]⟩)), vi (rd0 (ss.getD 2 ⟨#[]⟩)), vi (rd0 (ss.getD 3 ⟨#[]⟩)), vi 0], vi 0]) (bs 0)))) = some (.ret (rcV ss) ⟨[], 99⟩ true) := by
  unfold rcV
  rw [rcX_c (j := 3) h hl ha]
  unfold rcR
  simp only [rlF, hb]
  cases h1 : (rd1 (ss.getD 1 ⟨#[]⟩) != 0)
  case true => simp only [cond_true, h1]; rfl
  simp only [cond_false]
  cases h2 : (rd1 (ss.getD 2 ⟨#[]⟩) != 0)
  case true => simp only [cond_true, h2]; rfl
  simp only [cond_false]
  cases h3 : (rd1 (ss.getD 3 ⟨#[]⟩) != 0)
  case true => simp only [cond_true, h3]; rfl
  simp only [cond_false]
  rfl
theorem rcT4 {ss : List ByteArray} (h : record_Named_1 (rcW ss) = true) (hl : ss.length = 5) (ha : recAr (record_Named_0 (rcW ss)) = 4) (bs : Nat → List Bool) (hb : ∀ i, conj (bs i) = true) :
    (bif rd1 (ss.getD 1 ⟨#[]⟩) != 0 then rcR (rcE (rd1 (ss.getD 1 ⟨#[]⟩))) (bs 1) else (bif rd1 (ss.getD 2 ⟨#[]⟩) != 0 then rcR (rcE (rd1 (ss.getD 2 ⟨#[]⟩))) (bs 2) else (bif rd1 (ss.getD 3 ⟨#[]⟩) != 0 then rcR (rcE (rd1 (ss.getD 3 ⟨#[]⟩))) (bs 3) else (bif rd1 (ss.getD 4 ⟨#[]⟩) != 0 then rcR (rcE (rd1 (ss.getD 4 ⟨#[]⟩))) (bs 4) else rcR (.tup [.agg [vi (record_Named_0 (rcW ss)), vi (rd0 (ss.getD 1 ⟨#[]⟩)), vi (rd0 (ss.getD 2 ⟨#[]⟩)), vi (rd0 (ss.getD 3 ⟨#[]⟩)), vi (rd0 (ss.getD 4 ⟨#[]⟩))], vi 0]) (bs 0))))) = some (.ret (rcV ss) ⟨[], 99⟩ true) := by
  unfold rcV
  rw [rcX_c (j := 4) h hl ha]
  unfold rcR
  simp only [rlF, hb]
  cases h1 : (rd1 (ss.getD 1 ⟨#[]⟩) != 0)
  case true => simp only [cond_true, h1]; rfl
  simp only [cond_false]
  cases h2 : (rd1 (ss.getD 2 ⟨#[]⟩) != 0)
  case true => simp only [cond_true, h2]; rfl
  simp only [cond_false]
  cases h3 : (rd1 (ss.getD 3 ⟨#[]⟩) != 0)
  case true => simp only [cond_true, h3]; rfl
  simp only [cond_false]
  cases h4 : (rd1 (ss.getD 4 ⟨#[]⟩) != 0)
  case true => simp only [cond_true, h4]; rfl
  simp only [cond_false]
  rfl
end Go.Proofs.YtpmcflidggofkaaDoor

namespace Go.Proofs.YtpmcflidggofkaaDoor
open Go Go.RowKit
set_option maxRecDepth 100000
theorem ok_cuX (ss : List ByteArray) (n : Nat) : SpecOk Tryd.prog 51 (e_cuX ss n) := fun m args v mo bs h hb => by
  unfold e_cuX at h
  split at h <;> try cases h
  rename_i s c
  split at h <;> try cases h
  rename_i hc
  have hc := of_decide_eq_true hc
  subst hc
  simp only [List.all_cons, List.all_nil, id, Bool.and_eq_true, Bool.and_true, decide_eq_true_eq] at hb
  obtain ⟨b1, b2, b3⟩ := hb
  have b3 := Nat.eq_of_beq_eq_true b3
  have h0 := ok_cut m [vs s, .val (.int .u8 32)] _ _ _ rfl (by simp [b1])
  rw [cutV_eq, b2, b3] at h0
  exact h0
abbrev rkC : List Cut := [(0, [2, 4, 5, 6, 7], [0, 1, 2], 3), (1, [2, 4, 5, 6, 7], [0, 1, 2], 3), (2, [2, 4, 5, 6, 7], [0, 1, 2], 3), (3, [2, 4, 5, 6, 7], [0, 1, 2], 3)]
abbrev L_rk (ss : List ByteArray) (n : Nat) : List (FuncId × Spec) := (51, e_cuX ss n) :: (52, e_rfr) :: (58, e_rar) :: L_rw
theorem hE_rk (ss : List ByteArray) (n : Nat) : ESound Tryd.prog (envOf (L_rk ss n)) := env_cons (ok_cuX ss n) (env_cons ok_rfr (env_cons ok_rar hE_rw))
abbrev L_rkN (ss : List ByteArray) (j : Nat) : List (FuncId × Spec) := (51, e_cuX ss (j + 1)) :: (52, e_rfr) :: (58, e_arN j) :: L_rw
theorem hE_rkN (ss : List ByteArray) (j : Nat) : ESound Tryd.prog (envOf (L_rkN ss j)) := env_cons (ok_cuX ss (j + 1)) (env_cons ok_rfr (env_cons (ok_rarN j) hE_rw))
abbrev rkT (n : Nat) (k i : Int) : List AV := [.unk, .unk, .ptr 0 1 0 0, .unk, .sl false 1 1 0 1 n none, vi k, .sl true 2 1 0 1 21 (some 21), vi i] ++ List.replicate 58 .unk
abbrev rkM (ss : List ByteArray) : MS := ⟨[(0, some ⟨true, false, .cells [vi 0, vi 0, vi 0, vi 0, vi 0]⟩), (1, some ⟨false, false, .col (.strs ss)⟩), (2, some ⟨true, false, wdCol⟩)], 3⟩
abbrev rkH (td : List Item) (ss : List ByteArray) (n : Nat) (k i : Int) (bs : List Bool) : Option Fin_ := some (.head td (rkT n k i) (rkM ss) (conj bs))
theorem rk_begin (s : ByteArray) (ss : List ByteArray) (n : Nat) : F_ Tryd.prog (L_rk ss n) Tryd.f19 rkC [] 99 [vs s] noMem = some (.head (hd Tryd.f19 0) (rkT n (-1) 0) ⟨[(0, some ⟨true, false, .cells [vi 0, vi 0, vi 0, vi 0, vi 0]⟩), (1, some ⟨false, false, .col (.strs ss)⟩), (2, some ⟨true, false, wdCol⟩)], 3⟩ (conj [Nat.ble s.size 4294967296, decide (splitL s sp1 = ss), Nat.beq ss.length n])) := by kernel_rfl
abbrev wdI (i : Int) : ByteArray := wdL.getD (smJ i) ⟨#[]⟩
theorem rk_round (ss : List ByteArray) (n : Nat) (k i : Int) : HO_ Tryd.prog (L_rk ss n) Tryd.f19 rkC [] 99 [1, 2] (hd Tryd.f19 0) (rkT n k i) (rkM ss) =
    bif (wdI i).toList == (rcW ss).toList then rkH (hd Tryd.f19 0) ss n i (IntKind.i64.wrap (i + 1)) [decide (i < 21), decide (0 ≤ i), decide (i.toNat < 21), decide (smJ i < 21), decide (0 < n), decide (0 < ss.length)]
    else rkH (hd Tryd.f19 0) ss n k (IntKind.i64.wrap (i + 1)) [decide (i < 21), decide (0 ≤ i), decide (i.toNat < 21), decide (smJ i < 21), decide (0 < n), decide (0 < ss.length)] := by kernel_rfl
theorem rk_a (ss : List ByteArray) (n : Nat) (k : Int) : HO_ Tryd.prog (L_rk ss n) Tryd.f19 [] [] 99 [2, 1] (hd Tryd.f19 0) (rkT n k 21) (rkM ss) = rcR (rcE 40) [decide (k < 0)] := by kernel_rfl
theorem rk_b (ss : List ByteArray) (n : Nat) (k : Int) : HO_ Tryd.prog (L_rk ss n) Tryd.f19 [] [] 99 [2, 0, 1] (hd Tryd.f19 0) (rkT n k 21) (rkM ss) = rcR (rcE 41) [!decide (k < 0), Int.ofNat n != IntKind.i64.wrap (1 + recAr k)] := by kernel_rfl
theorem rk_c0 (ss : List ByteArray) (k : Int) : HO_ Tryd.prog (L_rkN ss 0) Tryd.f19 [] [] 99 [2, 0] (hd Tryd.f19 0) (rkT 1 k 21) (rkM ss) =
    rcR (.tup [.agg [vi (k), vi (0), vi (0), vi (0), vi (0)], vi 0]) [!decide (k < 0), recAr k == 0] := by kernel_rfl
theorem rk_c1 (ss : List ByteArray) (k : Int) : HO_ Tryd.prog (L_rkN ss 1) Tryd.f19 [] [] 99 [2, 0] (hd Tryd.f19 0) (rkT 2 k 21) (rkM ss) =
    bif rf1 (ss.getD 1 ⟨#[]⟩) != 0 then rcR (rcE (rf1 (ss.getD 1 ⟨#[]⟩))) [!decide (k < 0), recAr k == 1, decide (1 < ss.length), Nat.ble (ss.getD 1 ⟨#[]⟩).size 9223372036854775807] else rcR (.tup [.agg [vi (k), vi (rf0 (ss.getD 1 ⟨#[]⟩)), vi (0), vi (0), vi (0)], vi 0]) [!decide (k < 0), recAr k == 1, decide (1 < ss.length), Nat.ble (ss.getD 1 ⟨#[]⟩).size 9223372036854775807] := by kernel_rfl
theorem rk_c2 (ss : List ByteArray) (k : Int) : HO_ Tryd.prog (L_rkN ss 2) Tryd.f19 [] [] 99 [2, 0] (hd Tryd.f19 0) (rkT 3 k 21) (rkM ss) =
    bif rf1 (ss.getD 1 ⟨#[]⟩) != 0 then rcR (rcE (rf1 (ss.getD 1 ⟨#[]⟩))) [!decide (k < 0), recAr k == 2, decide (1 < ss.length), Nat.ble (ss.getD 1 ⟨#[]⟩).size 9223372036854775807] else bif rf1 (ss.getD 2 ⟨#[]⟩) != 0 then rcR (rcE (rf1 (ss.getD 2 ⟨#[]⟩))) [!decide (k < 0), recAr k == 2, decide (1 < ss.length), Nat.ble (ss.getD 1 ⟨#[]⟩).size 9223372036854775807, decide (2 < ss.length), Nat.ble (ss.getD 2 ⟨#[]⟩).size 9223372036854775807] else rcR (.tup [.agg [vi (k), vi (rf0 (ss.getD 1 ⟨#[]⟩)), vi (rf0 (ss.getD 2 ⟨#[]⟩)), vi (0), vi (0)], vi 0]) [!decide (k < 0), recAr k == 2, decide (1 < ss.length), Nat.ble (ss.getD 1 ⟨#[]⟩).size 9223372036854775807, decide (2 < ss.length), Nat.ble (ss.getD 2 ⟨#[]⟩).size 9223372036854775807] := by kernel_rfl
theorem rk_c3 (ss : List ByteArray) (k : Int) : HO_ Tryd.prog (L_rkN ss 3) Tryd.f19 [] [] 99 [2, 0] (hd Tryd.f19 0) (rkT 4 k 21) (rkM ss) =
    bif rf1 (ss.getD 1 ⟨#[]⟩) != 0 then rcR (rcE (rf1 (ss.getD 1 ⟨#[]⟩))) [!decide (k < 0), recAr k == 3, decide (1 < ss.length), Nat.ble (ss.getD 1 ⟨#[]⟩).size 9223372036854775807] else bif rf1 (ss.getD 2 ⟨#[]⟩) != 0 then rcR (rcE (rf1 (ss.getD 2 ⟨#[]⟩))) [!decide (k < 0), recAr k == 3, decide (1 < ss.length), Nat.ble (ss.getD 1 ⟨#[]⟩).size 9223372036854775807, decide (2 < ss.length), Nat.ble (ss.getD 2 ⟨#[]⟩).size 9223372036854775807] else bif rf1 (ss.getD 3 ⟨#[]⟩) != 0 then rcR (rcE (rf1 (ss.getD 3 ⟨#[]⟩))) [!decide (k < 0), recAr k == 3, decide (1 < ss.length), Nat.ble (ss.getD 1 ⟨#[]⟩).size 9223372036854775807, decide (2 < ss.length), Nat.ble (ss.getD 2 ⟨#[]⟩).size 9223372036854775807, decide (3 < ss.length), Nat.ble (ss.getD 3 ⟨#[]⟩).size 9223372036854775807] else rcR (.tup [.agg [vi (k), vi (rf0 (ss.getD 1 ⟨#[]⟩)), vi (rf0 (ss.getD 2 ⟨#[]⟩)), vi (rf0 (ss.getD 3 ⟨#[]⟩)), vi (0)], vi 0]) [!decide (k < 0), recAr k == 3, decide (1 < ss.length), Nat.ble (ss.getD 1 ⟨#[]⟩).size 9223372036854775807, decide (2 < ss.length), Nat.ble (ss.getD 2 ⟨#[]⟩).size 9223372036854775807, decide (3 < ss.length), Nat.ble (ss.getD 3 ⟨#[]⟩).size 9223372036854775807] := by kernel_rfl
theorem rk_c4 (ss : List ByteArray) (k : Int) : HO_ Tryd.prog (L_rkN ss 4) Tryd.f19 [] [] 99 [2, 0] (hd Tryd.f19 0) (rkT 5 k 21) (rkM ss) =
    bif rf1 (ss.getD 1 ⟨#[]⟩) != 0 then rcR (rcE (rf1 (ss.getD 1 ⟨#[]⟩))) [!decide (k < 0), recAr k == 4, decide (1 < ss.length), Nat.ble (ss.getD 1 ⟨#[]⟩).size 9223372036854775807] else bif rf1 (ss.getD 2 ⟨#[]⟩) != 0 then rcR (rcE (rf1 (ss.getD 2 ⟨#[]⟩))) [!decide (k < 0), recAr k == 4, decide (1 < ss.length), Nat.ble (ss.getD 1 ⟨#[]⟩).size 9223372036854775807, decide (2 < ss.length), Nat.ble (ss.getD 2 ⟨#[]⟩).size 9223372036854775807] else bif rf1 (ss.getD 3 ⟨#[]⟩) != 0 then rcR (rcE (rf1 (ss.getD 3 ⟨#[]⟩))) [!decide (k < 0), recAr k == 4, decide (1 < ss.length), Nat.ble (ss.getD 1 ⟨#[]⟩).size 9223372036854775807, decide (2 < ss.length), Nat.ble (ss.getD 2 ⟨#[]⟩).size 9223372036854775807, decide (3 < ss.length), Nat.ble (ss.getD 3 ⟨#[]⟩).size 9223372036854775807] else bif rf1 (ss.getD 4 ⟨#[]⟩) != 0 then rcR (rcE (rf1 (ss.getD 4 ⟨#[]⟩))) [!decide (k < 0), recAr k == 4, decide (1 < ss.length), Nat.ble (ss.getD 1 ⟨#[]⟩).size 9223372036854775807, decide (2 < ss.length), Nat.ble (ss.getD 2 ⟨#[]⟩).size 9223372036854775807, decide (3 < ss.length), Nat.ble (ss.getD 3 ⟨#[]⟩).size 9223372036854775807, decide (4 < ss.length), Nat.ble (ss.getD 4 ⟨#[]⟩).size 9223372036854775807] else rcR (.tup [.agg [vi (k), vi (rf0 (ss.getD 1 ⟨#[]⟩)), vi (rf0 (ss.getD 2 ⟨#[]⟩)), vi (rf0 (ss.getD 3 ⟨#[]⟩)), vi (rf0 (ss.getD 4 ⟨#[]⟩))], vi 0]) [!decide (k < 0), recAr k == 4, decide (1 < ss.length), Nat.ble (ss.getD 1 ⟨#[]⟩).size 9223372036854775807, decide (2 < ss.length), Nat.ble (ss.getD 2 ⟨#[]⟩).size 9223372036854775807, decide (3 < ss.length), Nat.ble (ss.getD 3 ⟨#[]⟩).size 9223372036854775807, decide (4 < ss.length), Nat.ble (ss.getD 4 ⟨#[]⟩).size 9223372036854775807] := by kernel_rfl
/-- The last word that is the first piece. -/
def kwF (w : ByteArray) : Nat → Int
  | 0 => -1
  | i + 1 => bif (wdL.getD i ⟨#[]⟩).toList == w.toList then (i : Int) else kwF w i
theorem kwF_eq (w : ByteArray) : kwF w 21 = bif record_Named_1 w then record_Named_0 w else -1 := by
  rw [nm0, nm1]
  have w0 : (wdL.getD 0 ⟨#[]⟩).toList = [97, 108, 108, 111, 99] := by kernel_rfl
  have w1 : (wdL.getD 1 ⟨#[]⟩).toList = [103, 108, 111, 98, 97, 108] := by kernel_rfl
  have w2 : (wdL.getD 2 ⟨#[]⟩).toList = [114, 101, 108, 101, 97, 115, 101] := by kernel_rfl
  have w3 : (wdL.getD 3 ⟨#[]⟩).toList = [112, 117, 115, 104] := by kernel_rfl
  have w4 : (wdL.getD 4 ⟨#[]⟩).toList = [112, 111, 112] := by kernel_rfl
  have w5 : (wdL.getD 5 ⟨#[]⟩).toList = [119, 101, 97, 107] := by kernel_rfl
  have w6 : (wdL.getD 6 ⟨#[]⟩).toList = [117, 110, 119, 101, 97, 107] := by kernel_rfl
  have w7 : (wdL.getD 7 ⟨#[]⟩).toList = [100, 101, 114, 101, 102] := by kernel_rfl
  have w8 : (wdL.getD 8 ⟨#[]⟩).toList = [99, 111, 112, 121] := by kernel_rfl
  have w9 : (wdL.getD 9 ⟨#[]⟩).toList = [110, 117, 108, 108] := by kernel_rfl
  have w10 : (wdL.getD 10 ⟨#[]⟩).toList = [108, 111, 97, 100] := by kernel_rfl
  have w11 : (wdL.getD 11 ⟨#[]⟩).toList = [115, 116, 111, 114, 101] := by kernel_rfl
  have w12 : (wdL.getD 12 ⟨#[]⟩).toList = [103, 101, 116] := by kernel_rfl
  have w13 : (wdL.getD 13 ⟨#[]⟩).toList = [115, 101, 116] := by kernel_rfl
  have w14 : (wdL.getD 14 ⟨#[]⟩).toList = [115, 97, 109, 101] := by kernel_rfl
  have w15 : (wdL.getD 15 ⟨#[]⟩).toList = [115, 105, 122, 101] := by kernel_rfl
  have w16 : (wdL.getD 16 ⟨#[]⟩).toList = [97, 103, 101] := by kernel_rfl
  have w17 : (wdL.getD 17 ⟨#[]⟩).toList = [99, 111, 108, 108, 101, 99, 116] := by kernel_rfl
  have w18 : (wdL.getD 18 ⟨#[]⟩).toList = [115, 116, 97, 116, 115] := by kernel_rfl
  have w19 : (wdL.getD 19 ⟨#[]⟩).toList = [99, 101, 110, 115, 117, 115] := by kernel_rfl
  have w20 : (wdL.getD 20 ⟨#[]⟩).toList = [112, 114, 111, 102, 105, 108, 101] := by kernel_rfl
  simp only [kwF, w0, w1, w2, w3, w4, w5, w6, w7, w8, w9, w10, w11, w12, w13, w14, w15, w16, w17, w18, w19, w20]
  unfold bw0 bw1
  exact bif_no (bif_no (bif_no (bif_no (bif_no (bif_no (bif_no (bif_no (bif_no (bif_no (bif_no (bif_no (bif_no (bif_no (bif_no (bif_no (bif_no (bif_no (bif_no (bif_no (bif_no (rfl)))))))))))))))))))))
theorem rk_go (ss : List ByteArray) (n : Nat) (h0 : 0 < n) (hn : ss.length = n) : ∀ i, i ≤ 21 → Goes Tryd.prog 0 ⟨hd Tryd.f19 0, rkT n (-1) 0, rkM ss⟩ ⟨hd Tryd.f19 0, rkT n (kwF (rcW ss) i) (i : Int), rkM ss⟩
  | 0, _ => Goes.refl
  | i + 1, hi => by
    have h := rk_round ss n (kwF (rcW ss) i) (i : Int)
    have hw : IntKind.i64.wrap ((i : Int) + 1) = ((i + 1 : Nat) : Int) := by rw [IntWalk.i64_in _ (by omega)]; rfl
    have hc : conj [decide ((i : Int) < 21), decide (0 ≤ (i : Int)), decide ((i : Int).toNat < 21), decide (smJ (i : Int) < 21), decide (0 < n), decide (0 < ss.length)] = true := by
      simp only [conj, smJ_eq, Bool.and_eq_true, decide_eq_true_eq]
      exact ⟨by omega, by omega, by omega, by omega, h0, by omega, trivial⟩
    unfold rkH at h
    rw [hw, hc] at h
    refine Goes.trans (rk_go ss n h0 hn i (by omega)) ?_
    simp only [kwF]
    simp only [wdI, smJ_eq] at h
    cases hb : ((wdL.getD i ⟨#[]⟩).toList == (rcW ss).toList) with
    | true =>
      rw [hb, cond_true] at h
      exact HO_head (f := Tryd.f19) (B := 0) (hE_rk ss n) mixed rfl h rfl
    | false =>
      rw [hb, cond_false] at h
      exact HO_head (f := Tryd.f19) (B := 0) (hE_rk ss n) mixed rfl h rfl
theorem pcs_pos (s : ByteArray) : 0 < (splitL s sp1).length := by
  rw [show (splitL s sp1).length = Lib.countB s sp1 + 1 from Lib.splitB_all sp1 (by decide) 0 _ s rfl]
  omega
theorem pcs_size (s : ByteArray) (hs : s.size ≤ 9223372036854775807) (i : Nat) : Nat.ble ((splitL s sp1).getD i ⟨#[]⟩).size 9223372036854775807 = true := Nat.ble_eq_true_of_le (Nat.le_trans (splitL_at s sp1 i) hs)
/-- What a name's arity may be. -/
theorem ar_named {w : ByteArray} (h : record_Named_1 w = true) : 0 ≤ record_Named_0 w ∧ ∃ j : Nat, recAr (record_Named_0 w) = Int.ofNat j ∧ j < 5 := by
  obtain ⟨n, hn, hlt⟩ := named_in h
  have hI : record_Is_0 (record_Named_0 w) = true := by rw [hn]; exact nat_is hlt
  obtain ⟨h1, h2, h3⟩ := ar_r (record_Named_0 w)
  have h4 : ¬ recAr (record_Named_0 w) < 0 := fun h => by rw [h3.1 h] at hI; cases hI
  exact ⟨by omega, (recAr (record_Named_0 w)).toNat, by show _ = (((recAr (record_Named_0 w)).toNat : Nat) : Int); omega, by omega⟩

def rcP (ss : List ByteArray) : Nat → List Bool
  | 0 => []
  | i + 1 => rcP ss i ++ [decide (i + 1 < ss.length), Nat.ble (ss.getD (i + 1) ⟨#[]⟩).size 9223372036854775807]
theorem conj_app : ∀ (a b : List Bool), conj a = true → conj b = true → conj (a ++ b) = true
  | [], b, _, h => h
  | x :: a, b, h, h' => by
    simp only [List.cons_append, conj, Bool.and_eq_true] at h ⊢
    exact ⟨h.1, conj_app a b h.2 h'⟩
theorem rcP_ok {ss : List ByteArray} (hs : ∀ i, Nat.ble (ss.getD i ⟨#[]⟩).size 9223372036854775807 = true) : ∀ i, i < ss.length → conj (rcP ss i) = true
  | 0, _ => rfl
  | i + 1, h => conj_app _ _ (rcP_ok hs i (by omega)) (by rw [decide_eq_true h, hs]; rfl)
theorem rcR_sub {v : AV} {bs bs' : List Bool} (h : conj bs = true) (h' : conj bs' = true) : rcR v bs = rcR v bs' := by unfold rcR; rw [h, h']
/-- What both hand back. -/
theorem rd_all (x : Int) (s : ByteArray) (hs : s.size < 4294967281) : Gives_ Tryd.prog Tryd.f18 1 (enterA Tryd.f18 (bodyOf Tryd.f18) [vs s] (mlM [x])) (rcV (splitL s sp1)) ⟨[], 99⟩ := by
  have hb1 : Nat.blt (lenB s) 4294967281 = true := by rw [Nat.blt_eq, lenB_eq]; exact hs
  have hp := pcs_pos s
  have hz := pcs_size s (by omega)
  generalize hss : splitL s sp1 = ss at *
  cases h1 : record_Named_1 (rcW ss) with
  | false =>
    have h := rd_a x s ss ss.length
    unfold rcV
    rw [rcX_a h1]
    refine FO_ret (c := bodyOf Tryd.f18) (hE_rd ss ss.length) mixed rfl rfl h ?_
    unfold rqO
    rw [hb1, hss, h1, decide_eq_true hp, Nat.beq_refl, decide_eq_true (rfl : ss = ss)]
    rfl
  | true =>
    obtain ⟨_, j, hj, hj5⟩ := ar_named h1
    by_cases hl : ss.length = j + 1
    · have hO : ∀ i, i ≤ j → conj (rqO s ss (j + 1) ++ [decide (0 < ss.length), !!record_Named_1 (rcW ss), recAr (record_Named_0 (rcW ss)) == Int.ofNat j] ++ rcP ss i) = true := fun i hi => by
        refine conj_app _ _ ?_ (rcP_ok hz i (by omega))
        unfold rqO
        rw [hb1, hss, h1, hj, decide_eq_true hp, hl, Nat.beq_refl, decide_eq_true (rfl : ss = ss), beq_self_eq_true]
        rfl
      match j, hj5 with
      | 0, _ =>
        have h := rd_c0 x s ss
        refine FO_ret (c := bodyOf Tryd.f18) (chk := true) (hE_rdN ss 0) mixed rfl rfl (h.trans (Eq.trans ?_ (rcT0 h1 hl hj (fun _ => []) (fun _ => rfl)))) rfl
        exact rcR_sub (hO 0 (by omega)) rfl
      | 1, _ =>
        have h := rd_c1 x s ss
        refine FO_ret (c := bodyOf Tryd.f18) (chk := true) (hE_rdN ss 1) mixed rfl rfl (h.trans (Eq.trans ?_ (rcT1 h1 hl hj (fun _ => []) (fun _ => rfl)))) rfl
        refine congr (congr (congrArg cond rfl) (rcR_sub (hO 1 (by omega)) rfl)) ?_
        exact rcR_sub (hO 1 (by omega)) rfl
      | 2, _ =>
        have h := rd_c2 x s ss
        refine FO_ret (c := bodyOf Tryd.f18) (chk := true) (hE_rdN ss 2) mixed rfl rfl (h.trans (Eq.trans ?_ (rcT2 h1 hl hj (fun _ => []) (fun _ => rfl)))) rfl
        refine congr (congr (congrArg cond rfl) (rcR_sub (hO 1 (by omega)) rfl)) ?_
        refine congr (congr (congrArg cond rfl) (rcR_sub (hO 2 (by omega)) rfl)) ?_
        exact rcR_sub (hO 2 (by omega)) rfl
      | 3, _ =>
        have h := rd_c3 x s ss
        refine FO_ret (c := bodyOf Tryd.f18) (chk := true) (hE_rdN ss 3) mixed rfl rfl (h.trans (Eq.trans ?_ (rcT3 h1 hl hj (fun _ => []) (fun _ => rfl)))) rfl
        refine congr (congr (congrArg cond rfl) (rcR_sub (hO 1 (by omega)) rfl)) ?_
        refine congr (congr (congrArg cond rfl) (rcR_sub (hO 2 (by omega)) rfl)) ?_
        refine congr (congr (congrArg cond rfl) (rcR_sub (hO 3 (by omega)) rfl)) ?_
        exact rcR_sub (hO 3 (by omega)) rfl
      | 4, _ =>
        have h := rd_c4 x s ss
        refine FO_ret (c := bodyOf Tryd.f18) (chk := true) (hE_rdN ss 4) mixed rfl rfl (h.trans (Eq.trans ?_ (rcT4 h1 hl hj (fun _ => []) (fun _ => rfl)))) rfl
        refine congr (congr (congrArg cond rfl) (rcR_sub (hO 1 (by omega)) rfl)) ?_
        refine congr (congr (congrArg cond rfl) (rcR_sub (hO 2 (by omega)) rfl)) ?_
        refine congr (congr (congrArg cond rfl) (rcR_sub (hO 3 (by omega)) rfl)) ?_
        refine congr (congr (congrArg cond rfl) (rcR_sub (hO 4 (by omega)) rfl)) ?_
        exact rcR_sub (hO 4 (by omega)) rfl
    · have h := rd_b x s ss ss.length
      unfold rcV
      have hne : (Int.ofNat ss.length - 1 != recAr (record_Named_0 (rcW ss))) = true := by
        rw [hj, bne_iff_ne]
        intro e
        have e : (ss.length : Int) - 1 = (j : Int) := e
        omega
      rw [rcX_b h1 hne]
      refine FO_ret (c := bodyOf Tryd.f18) (hE_rd ss ss.length) mixed rfl rfl h ?_
      have hc := countB_le1 s
      have hll : ss.length = Lib.countB s sp1 + 1 := by rw [← hss]; exact Lib.splitB_all sp1 (by decide) 0 _ s rfl
      have hw : IntKind.i64.wrap (Int.ofNat ss.length - 1) = Int.ofNat ss.length - 1 := IntWalk.i64_in _ (by show -9223372036854775808 ≤ (ss.length : Int) - 1 ∧ (ss.length : Int) - 1 ≤ 9223372036854775807; omega)
      unfold rqO
      rw [hw, hne, hb1, hss, h1, decide_eq_true hp, Nat.beq_refl, decide_eq_true (rfl : ss = ss)]
      rfl
theorem rk_all (s : ByteArray) (hs : s.size < 4294967281) : Gives_ Tryd.prog Tryd.f19 0 (enterA Tryd.f19 (bodyOf Tryd.f19) [vs s] noMem) (rcV (splitL s sp1)) ⟨[], 99⟩ := by
  have hb1 : Nat.ble s.size 4294967296 = true := Nat.ble_eq_true_of_le (by omega)
  have hp := pcs_pos s
  have hz := pcs_size s (by omega)
  have hcl : (splitL s sp1).length ≤ 4294967282 := by
    have hc := countB_le1 s
    rw [show (splitL s sp1).length = Lib.countB s sp1 + 1 from Lib.splitB_all sp1 (by decide) 0 _ s rfl]
    omega
  generalize hss : splitL s sp1 = ss at *
  have h0 := rk_begin s ss ss.length
  rw [hb1, hss, Nat.beq_refl, decide_eq_true (rfl : ss = ss)] at h0
  have g0 := F_head (f := Tryd.f19) (c := bodyOf Tryd.f19) (hE_rk ss ss.length) mixed rfl rfl h0
  refine Goes.gives (Goes.trans g0 (rk_go ss ss.length hp rfl 21 (Nat.le_refl _))) ?_
  rw [kwF_eq]
  cases h1 : record_Named_1 (rcW ss) with
  | false =>
    have h := rk_a ss ss.length (-1)
    unfold rcV
    rw [rcX_a h1]
    exact HO_ret (B := 0) (hE_rk ss ss.length) mixed rfl h rfl
  | true =>
    obtain ⟨hk0, j, hj, hj5⟩ := ar_named h1
    rw [cond_true]
    have hk : decide (record_Named_0 (rcW ss) < 0) = false := decide_eq_false (by omega)
    by_cases hl : ss.length = j + 1
    · have hO : ∀ i, i ≤ j → conj ([!decide (record_Named_0 (rcW ss) < 0), recAr (record_Named_0 (rcW ss)) == Int.ofNat j] ++ rcP ss i) = true := fun i hi => by
        refine conj_app _ _ ?_ (rcP_ok hz i (by omega))
        rw [hk, hj, beq_self_eq_true]
        rfl
      rw [hl]
      match j, hj5 with
      | 0, _ =>
        have h := rk_c0 ss (record_Named_0 (rcW ss))
        refine HO_ret (B := 0) (chk := true) (hE_rkN ss 0) mixed rfl (h.trans (Eq.trans ?_ (rcT0 h1 hl hj (fun _ => []) (fun _ => rfl)))) rfl
        exact rcR_sub (hO 0 (by omega)) rfl
      | 1, _ =>
        have h := rk_c1 ss (record_Named_0 (rcW ss))
        simp only [rf1_eq, rf0_eq] at h
        refine HO_ret (B := 0) (chk := true) (hE_rkN ss 1) mixed rfl (h.trans (Eq.trans ?_ (rcT1 h1 hl hj (fun _ => []) (fun _ => rfl)))) rfl
        refine congr (congr (congrArg cond rfl) (rcR_sub (hO 1 (by omega)) rfl)) ?_
        exact rcR_sub (hO 1 (by omega)) rfl
      | 2, _ =>
        have h := rk_c2 ss (record_Named_0 (rcW ss))
        simp only [rf1_eq, rf0_eq] at h
        refine HO_ret (B := 0) (chk := true) (hE_rkN ss 2) mixed rfl (h.trans (Eq.trans ?_ (rcT2 h1 hl hj (fun _ => []) (fun _ => rfl)))) rfl
        refine congr (congr (congrArg cond rfl) (rcR_sub (hO 1 (by omega)) rfl)) ?_
        refine congr (congr (congrArg cond rfl) (rcR_sub (hO 2 (by omega)) rfl)) ?_
        exact rcR_sub (hO 2 (by omega)) rfl
      | 3, _ =>
        have h := rk_c3 ss (record_Named_0 (rcW ss))
        simp only [rf1_eq, rf0_eq] at h
        refine HO_ret (B := 0) (chk := true) (hE_rkN ss 3) mixed rfl (h.trans (Eq.trans ?_ (rcT3 h1 hl hj (fun _ => []) (fun _ => rfl)))) rfl
        refine congr (congr (congrArg cond rfl) (rcR_sub (hO 1 (by omega)) rfl)) ?_
        refine congr (congr (congrArg cond rfl) (rcR_sub (hO 2 (by omega)) rfl)) ?_
        refine congr (congr (congrArg cond rfl) (rcR_sub (hO 3 (by omega)) rfl)) ?_
        exact rcR_sub (hO 3 (by omega)) rfl
      | 4, _ =>
        have h := rk_c4 ss (record_Named_0 (rcW ss))
        simp only [rf1_eq, rf0_eq] at h
        refine HO_ret (B := 0) (chk := true) (hE_rkN ss 4) mixed rfl (h.trans (Eq.trans ?_ (rcT4 h1 hl hj (fun _ => []) (fun _ => rfl)))) rfl
        refine congr (congr (congrArg cond rfl) (rcR_sub (hO 1 (by omega)) rfl)) ?_
        refine congr (congr (congrArg cond rfl) (rcR_sub (hO 2 (by omega)) rfl)) ?_
        refine congr (congr (congrArg cond rfl) (rcR_sub (hO 3 (by omega)) rfl)) ?_
        refine congr (congr (congrArg cond rfl) (rcR_sub (hO 4 (by omega)) rfl)) ?_
        exact rcR_sub (hO 4 (by omega)) rfl
    · have h := rk_b ss ss.length (record_Named_0 (rcW ss))
      unfold rcV
      have hne : (Int.ofNat ss.length - 1 != recAr (record_Named_0 (rcW ss))) = true := by
        rw [hj, bne_iff_ne]
        intro e
        have e : (ss.length : Int) - 1 = (j : Int) := e
        omega
      rw [rcX_b h1 hne]
      refine HO_ret (B := 0) (hE_rk ss ss.length) mixed rfl h ?_
      have hw : IntKind.i64.wrap (1 + Int.ofNat j) = 1 + Int.ofNat j := IntWalk.i64_in _ (by show -9223372036854775808 ≤ 1 + (j : Int) ∧ 1 + (j : Int) ≤ 9223372036854775807; omega)
      have hn2 : (Int.ofNat ss.length != 1 + Int.ofNat j) = true := by
        rw [bne_iff_ne]
        intro e
        have e : (ss.length : Int) = 1 + (j : Int) := e
        omega
      rw [hk, hj, hw, hn2]
      rfl
def e_rdl : Spec := fun m args => match args with
  | [.val (.string s)] => match isMl m with
    | true => some (rcV (splitL s sp1), none, [Nat.blt s.size 4294967281])
    | false => none
  | _ => none
theorem ok_rdl : SpecOk Tryd.prog 18 e_rdl := fun m args v mo bs h hb => by
  unfold e_rdl at h
  split at h <;> try cases h
  rename_i s
  split at h <;> try cases h
  rename_i hm
  obtain ⟨l, x, wr, op, hl⟩ := isMl_sim hm
  simp only [List.all_cons, List.all_nil, id, Bool.and_true, Nat.blt_eq] at hb
  refine lift_pure (m1 := mlM [x]) (args1 := [vs s]) (fsound (c := bodyOf Tryd.f18) (fun xs w => Tryd.call18 xs w) Tryd.func18 rfl (rd_all x s hb)) rfl rfl fun ρ w xs hm hx => ?_
  refine ⟨fun _ => ρ l, mrel_one (hm.view hl rfl _ _), ?_⟩
  simp only [AV.rels, AV.rel] at hx ⊢
  exact hx
def e_rkl : Spec := fun m args => match args with
  | [.val (.string s)] => some (rcV (splitL s sp1), none, [Nat.blt s.size 4294967281])
  | _ => none
theorem ok_rkl : SpecOk Tryd.prog 19 e_rkl := fun m args v mo bs h hb => by
  unfold e_rkl at h
  split at h
  · cases h
    simp only [List.all_cons, List.all_nil, id, Bool.and_true, Nat.blt_eq] at hb
    exact lift_ground (fsound (c := bodyOf Tryd.f19) (fun xs w => Tryd.call19 xs w) Tryd.func19 rfl (rk_all _ hb)) rfl rfl
  · cases h
end Go.Proofs.YtpmcflidggofkaaDoor

namespace Go.Proofs.YtpmcflidggofkaaDoor
open Go Go.RowKit
set_option maxRecDepth 100000
def e_rtY (r : Bool) : Spec := fun _ args => match args with
  | [.agg [.val (.int .i64 k), .val (.int .i64 a), .val (.int .i64 b), .val (.int .i64 c), .val (.int .i64 d)]] => some (vb r, none, [rtB k a b c d == r])
  | _ => none
theorem ok_rtY {f : FuncId} (h0 : SpecOk Tryd.prog f e_rt) (r : Bool) : SpecOk Tryd.prog f (e_rtY r) := fun m args v mo bs h hb => by
  unfold e_rtY at h
  split at h
  · rename_i k a b c d
    cases h
    simp only [List.all_cons, List.all_nil, id, Bool.and_true, beq_iff_eq] at hb
    have := h0 m [.agg [vi k, vi a, vi b, vi c, vi d]] _ _ _ rfl rfl
    rw [hb] at this
    exact this
  · cases h
abbrev L_ln (j : Nat) (r : Bool) : List (FuncId × Spec) := (45, e_text) :: (59, e_rtY r) :: (56, e_arN j) :: L_rw
theorem hE_ln (j : Nat) (r : Bool) : ESound Tryd.prog (envOf (L_ln j r)) := env_cons ok_text (env_cons (ok_rtY ok_rtp r) (env_cons (ok_arN j) hE_rw))
abbrev L_lr (j : Nat) : List (FuncId × Spec) := (53, e_haymowref03_Text) :: (58, e_arN j) :: L_rw
theorem hE_lr (j : Nat) : ESound Tryd.prog (envOf (L_lr j)) := env_cons ok_haymowref03_Text (env_cons (ok_rarN j) hE_rw)
abbrev lnR (t : ByteArray) (bs : List Bool) : Option Fin_ := some (.ret (vs t) ⟨[], 99⟩ (conj bs))
theorem ln_no (k a b c d : Int) : F_ Tryd.prog (L_ln 0 false) Tryd.f21 [] [] 99 [.agg [vi k, vi a, vi b, vi c, vi d]] noMem = lnR ⟨#[]⟩ [rtB k a b c d == false] := by kernel_rfl
theorem cat_assoc (a b c : ByteArray) : catB a (catB b c) = catB (catB a b) c := by
  unfold catB
  simp
abbrev wlK (k : Int) : ByteArray := wdL.getD (smJ k) ⟨#[]⟩
theorem wd_len : ∀ n : Nat, lenB (wdL.getD n ⟨#[]⟩) ≤ 7 := fun n => by
  rw [List.getD_eq_getElem?_getD]
  by_cases h : n < wdL.length
  · rw [List.getElem?_eq_getElem h]
    have hall : (wdL.all fun w => Nat.ble (lenB w) 7) = true := by kernel_rfl
    exact Nat.le_of_ble_eq_true (List.all_eq_true.1 hall _ (List.getElem_mem h))
  · rw [List.getElem?_eq_none (by omega)]
    exact Nat.zero_le _
theorem recWd_len (k : Int) : lenB (recWd k) ≤ 7 := by
  unfold recWd
  cases record_Is_0 k with
  | true => exact wd_len _
  | false => exact Nat.zero_le _
theorem inI_4 {a b c d : Int} (h : inI [a, b, c, d] = true) : (-9223372036854775808 ≤ a ∧ a ≤ 9223372036854775807) ∧ (-9223372036854775808 ≤ b ∧ b ≤ 9223372036854775807) ∧ (-9223372036854775808 ≤ c ∧ c ≤ 9223372036854775807) ∧ (-9223372036854775808 ≤ d ∧ d ≤ 9223372036854775807) :=
  ⟨inI_at h 0, inI_at h 1, inI_at h 2, inI_at h 3⟩
theorem sp1_len : lenB sp1 = 1 := rfl
theorem ln_0 (k a b c d : Int) : F_ Tryd.prog (L_ln 0 true) Tryd.f21 [] [] 99 [.agg [vi k, vi a, vi b, vi c, vi d]] noMem = lnR (recWd k) [rtB k a b c d == true, recAr k == 0] := by kernel_rfl
theorem ln_ok0 (k a b c d : Int) (hr : rtB k a b c d = true) (ha : recAr k = 0) (hz : inI [a, b, c, d] = true) : F_ Tryd.prog (L_ln 0 true) Tryd.f21 [] [] 99 [.agg [vi k, vi a, vi b, vi c, vi d]] noMem = some (.ret (vs (lsF [a, b, c, d] 0 0 (recWd k))) ⟨[], 99⟩ true) := by
  rw [ln_0]
  obtain ⟨⟨a1, a2⟩, ⟨b1, b2⟩, ⟨c1, c2⟩, ⟨d1, d2⟩⟩ := inI_4 hz
  have w := recWd_len k
  have la := decText_len a
  have lb := decText_len b
  have lc := decText_len c
  have ld := decText_len d
  have s1 := sp1_len
  have hc : conj [rtB k a b c d == true, recAr k == 0] = true := by
    simp only [conj, Bool.and_eq_true, Nat.ble_eq, decide_eq_true_eq, beq_iff_eq, lenB_cat, hr, ha]
    and_intros <;> first | trivial | omega
  unfold lnR
  rw [hc]
  simp only [lsF, List.getD_cons_zero, List.getD_cons_succ, cat_assoc]
theorem lr_0 (k a b c d : Int) : F_ Tryd.prog (L_lr 0) Tryd.f22 [] [] 99 [.agg [vi k, vi a, vi b, vi c, vi d]] noMem = lnR (wlK k) [decide (0 ≤ k), decide (k.toNat < 21), decide (smJ k < 21), recAr k == 0] := by kernel_rfl
theorem lr_ok0 (n : Nat) (a b c d : Int) (hn : n < 21) (ha : recAr (n : Int) = 0) (hz : inI [a, b, c, d] = true) : F_ Tryd.prog (L_lr 0) Tryd.f22 [] [] 99 [.agg [vi (n : Int), vi a, vi b, vi c, vi d]] noMem = some (.ret (vs (lsF [a, b, c, d] 0 0 (wdL.getD n ⟨#[]⟩))) ⟨[], 99⟩ true) := by
  rw [lr_0]
  obtain ⟨⟨a1, a2⟩, ⟨b1, b2⟩, ⟨c1, c2⟩, ⟨d1, d2⟩⟩ := inI_4 hz
  have w := wd_len n
  have la := decText_len a
  have lb := decText_len b
  have lc := decText_len c
  have ld := decText_len d
  have s1 := sp1_len
  obtain ⟨ta, ua⟩ := text03 a a1 a2
  obtain ⟨tb, ub⟩ := text03 b b1 b2
  obtain ⟨tc, uc⟩ := text03 c c1 c2
  obtain ⟨td, ud⟩ := text03 d d1 d2
  unfold lnR wlK
  have hw : (n : Int).toNat = n := Int.toNat_natCast n
  simp only [smJ_eq, hw, ta, tb, tc, td, ua, ub, uc, ud]
  have hc : conj [decide (0 ≤ (n : Int)), decide (n < 21), decide (n < 21), recAr (n : Int) == 0] = true := by
    simp only [conj, Bool.and_eq_true, Nat.ble_eq, decide_eq_true_eq, beq_iff_eq, lenB_cat, ha]
    and_intros <;> first | trivial | omega
  rw [hc]
  simp only [lsF, List.getD_cons_zero, List.getD_cons_succ]
theorem ln_1 (k a b c d : Int) : F_ Tryd.prog (L_ln 1 true) Tryd.f21 [] [] 99 [.agg [vi k, vi a, vi b, vi c, vi d]] noMem = lnR (catB (recWd k) (catB sp1 (decText a))) [rtB k a b c d == true, recAr k == 1, decide (-9223372036854775808 ≤ a), decide (a ≤ 9223372036854775807), Nat.ble (1 + lenB (decText a)) 9223372036854775807, Nat.ble (lenB (recWd k) + lenB (catB sp1 (decText a))) 9223372036854775807] := by kernel_rfl
theorem ln_ok1 (k a b c d : Int) (hr : rtB k a b c d = true) (ha : recAr k = 1) (hz : inI [a, b, c, d] = true) : F_ Tryd.prog (L_ln 1 true) Tryd.f21 [] [] 99 [.agg [vi k, vi a, vi b, vi c, vi d]] noMem = some (.ret (vs (lsF [a, b, c, d] 0 1 (recWd k))) ⟨[], 99⟩ true) := by
  rw [ln_1]
  obtain ⟨⟨a1, a2⟩, ⟨b1, b2⟩, ⟨c1, c2⟩, ⟨d1, d2⟩⟩ := inI_4 hz
  have w := recWd_len k
  have la := decText_len a
  have lb := decText_len b
  have lc := decText_len c
  have ld := decText_len d
  have s1 := sp1_len
  have hc : conj [rtB k a b c d == true, recAr k == 1, decide (-9223372036854775808 ≤ a), decide (a ≤ 9223372036854775807), Nat.ble (1 + lenB (decText a)) 9223372036854775807, Nat.ble (lenB (recWd k) + lenB (catB sp1 (decText a))) 9223372036854775807] = true := by
    simp only [conj, Bool.and_eq_true, Nat.ble_eq, decide_eq_true_eq, beq_iff_eq, lenB_cat, hr, ha]
    and_intros <;> first | trivial | omega
  unfold lnR
  rw [hc]
  simp only [lsF, List.getD_cons_zero, List.getD_cons_succ, cat_assoc]
theorem lr_1 (k a b c d : Int) : F_ Tryd.prog (L_lr 1) Tryd.f22 [] [] 99 [.agg [vi k, vi a, vi b, vi c, vi d]] noMem = lnR (catB (catB (wlK k) sp1) (haymowref03_Text_0 a)) [decide (0 ≤ k), decide (k.toNat < 21), decide (smJ k < 21), recAr k == 1, Nat.ble (lenB (wlK k) + 1) 9223372036854775807, c_haymowref03_Text a, Nat.ble (lenB (catB (wlK k) sp1) + lenB (haymowref03_Text_0 a)) 9223372036854775807, recAr k == 1] := by kernel_rfl
theorem lr_ok1 (n : Nat) (a b c d : Int) (hn : n < 21) (ha : recAr (n : Int) = 1) (hz : inI [a, b, c, d] = true) : F_ Tryd.prog (L_lr 1) Tryd.f22 [] [] 99 [.agg [vi (n : Int), vi a, vi b, vi c, vi d]] noMem = some (.ret (vs (lsF [a, b, c, d] 0 1 (wdL.getD n ⟨#[]⟩))) ⟨[], 99⟩ true) := by
  rw [lr_1]
  obtain ⟨⟨a1, a2⟩, ⟨b1, b2⟩, ⟨c1, c2⟩, ⟨d1, d2⟩⟩ := inI_4 hz
  have w := wd_len n
  have la := decText_len a
  have lb := decText_len b
  have lc := decText_len c
  have ld := decText_len d
  have s1 := sp1_len
  obtain ⟨ta, ua⟩ := text03 a a1 a2
  obtain ⟨tb, ub⟩ := text03 b b1 b2
  obtain ⟨tc, uc⟩ := text03 c c1 c2
  obtain ⟨td, ud⟩ := text03 d d1 d2
  unfold lnR wlK
  have hw : (n : Int).toNat = n := Int.toNat_natCast n
  simp only [smJ_eq, hw, ta, tb, tc, td, ua, ub, uc, ud]
  have hc : conj [decide (0 ≤ (n : Int)), decide (n < 21), decide (n < 21), recAr (n : Int) == 1, Nat.ble (lenB (wdL.getD n ⟨#[]⟩) + 1) 9223372036854775807, true, Nat.ble (lenB (catB (wdL.getD n ⟨#[]⟩) sp1) + lenB (decText a)) 9223372036854775807, recAr (n : Int) == 1] = true := by
    simp only [conj, Bool.and_eq_true, Nat.ble_eq, decide_eq_true_eq, beq_iff_eq, lenB_cat, ha]
    and_intros <;> first | trivial | omega
  rw [hc]
  simp only [lsF, List.getD_cons_zero, List.getD_cons_succ]
theorem ln_2 (k a b c d : Int) : F_ Tryd.prog (L_ln 2 true) Tryd.f21 [] [] 99 [.agg [vi k, vi a, vi b, vi c, vi d]] noMem = lnR (catB (catB (recWd k) (catB sp1 (decText a))) (catB sp1 (decText b))) [rtB k a b c d == true, recAr k == 2, decide (-9223372036854775808 ≤ a), decide (a ≤ 9223372036854775807), Nat.ble (1 + lenB (decText a)) 9223372036854775807, Nat.ble (lenB (recWd k) + lenB (catB sp1 (decText a))) 9223372036854775807, decide (-9223372036854775808 ≤ b), decide (b ≤ 9223372036854775807), Nat.ble (1 + lenB (decText b)) 9223372036854775807, Nat.ble (lenB (catB (recWd k) (catB sp1 (decText a))) + lenB (catB sp1 (decText b))) 9223372036854775807] := by kernel_rfl
theorem ln_ok2 (k a b c d : Int) (hr : rtB k a b c d = true) (ha : recAr k = 2) (hz : inI [a, b, c, d] = true) : F_ Tryd.prog (L_ln 2 true) Tryd.f21 [] [] 99 [.agg [vi k, vi a, vi b, vi c, vi d]] noMem = some (.ret (vs (lsF [a, b, c, d] 0 2 (recWd k))) ⟨[], 99⟩ true) := by
  rw [ln_2]
  obtain ⟨⟨a1, a2⟩, ⟨b1, b2⟩, ⟨c1, c2⟩, ⟨d1, d2⟩⟩ := inI_4 hz
  have w := recWd_len k
  have la := decText_len a
  have lb := decText_len b
  have lc := decText_len c
  have ld := decText_len d
  have s1 := sp1_len
  have hc : conj [rtB k a b c d == true, recAr k == 2, decide (-9223372036854775808 ≤ a), decide (a ≤ 9223372036854775807), Nat.ble (1 + lenB (decText a)) 9223372036854775807, Nat.ble (lenB (recWd k) + lenB (catB sp1 (decText a))) 9223372036854775807, decide (-9223372036854775808 ≤ b), decide (b ≤ 9223372036854775807), Nat.ble (1 + lenB (decText b)) 9223372036854775807, Nat.ble (lenB (catB (recWd k) (catB sp1 (decText a))) + lenB (catB sp1 (decText b))) 9223372036854775807] = true := by
    simp only [conj, Bool.and_eq_true, Nat.ble_eq, decide_eq_true_eq, beq_iff_eq, lenB_cat, hr, ha]
    and_intros <;> first | trivial | omega
  unfold lnR
  rw [hc]
  simp only [lsF, List.getD_cons_zero, List.getD_cons_succ, cat_assoc]
theorem lr_2 (k a b c d : Int) : F_ Tryd.prog (L_lr 2) Tryd.f22 [] [] 99 [.agg [vi k, vi a, vi b, vi c, vi d]] noMem = lnR (catB (catB (catB (catB (wlK k) sp1) (haymowref03_Text_0 a)) sp1) (haymowref03_Text_0 b)) [decide (0 ≤ k), decide (k.toNat < 21), decide (smJ k < 21), recAr k == 2, Nat.ble (lenB (wlK k) + 1) 9223372036854775807, c_haymowref03_Text a, Nat.ble (lenB (catB (wlK k) sp1) + lenB (haymowref03_Text_0 a)) 9223372036854775807, recAr k == 2, Nat.ble (lenB (catB (catB (wlK k) sp1) (haymowref03_Text_0 a)) + 1) 9223372036854775807, c_haymowref03_Text b, Nat.ble (lenB (catB (catB (catB (wlK k) sp1) (haymowref03_Text_0 a)) sp1) + lenB (haymowref03_Text_0 b)) 9223372036854775807, recAr k == 2] := by kernel_rfl
theorem lr_ok2 (n : Nat) (a b c d : Int) (hn : n < 21) (ha : recAr (n : Int) = 2) (hz : inI [a, b, c, d] = true) : F_ Tryd.prog (L_lr 2) Tryd.f22 [] [] 99 [.agg [vi (n : Int), vi a, vi b, vi c, vi d]] noMem = some (.ret (vs (lsF [a, b, c, d] 0 2 (wdL.getD n ⟨#[]⟩))) ⟨[], 99⟩ true) := by
  rw [lr_2]
  obtain ⟨⟨a1, a2⟩, ⟨b1, b2⟩, ⟨c1, c2⟩, ⟨d1, d2⟩⟩ := inI_4 hz
  have w := wd_len n
  have la := decText_len a
  have lb := decText_len b
  have lc := decText_len c
  have ld := decText_len d
  have s1 := sp1_len
  obtain ⟨ta, ua⟩ := text03 a a1 a2
  obtain ⟨tb, ub⟩ := text03 b b1 b2
  obtain ⟨tc, uc⟩ := text03 c c1 c2
  obtain ⟨td, ud⟩ := text03 d d1 d2
  unfold lnR wlK
  have hw : (n : Int).toNat = n := Int.toNat_natCast n
  simp only [smJ_eq, hw, ta, tb, tc, td, ua, ub, uc, ud]
  have hc : conj [decide (0 ≤ (n : Int)), decide (n < 21), decide (n < 21), recAr (n : Int) == 2, Nat.ble (lenB (wdL.getD n ⟨#[]⟩) + 1) 9223372036854775807, true, Nat.ble (lenB (catB (wdL.getD n ⟨#[]⟩) sp1) + lenB (decText a)) 9223372036854775807, recAr (n : Int) == 2, Nat.ble (lenB (catB (catB (wdL.getD n ⟨#[]⟩) sp1) (decText a)) + 1) 9223372036854775807, true, Nat.ble (lenB (catB (catB (catB (wdL.getD n ⟨#[]⟩) sp1) (decText a)) sp1) + lenB (decText b)) 9223372036854775807, recAr (n : Int) == 2] = true := by
    simp only [conj, Bool.and_eq_true, Nat.ble_eq, decide_eq_true_eq, beq_iff_eq, lenB_cat, ha]
    and_intros <;> first | trivial | omega
  rw [hc]
  simp only [lsF, List.getD_cons_zero, List.getD_cons_succ]
theorem ln_3 (k a b c d : Int) : F_ Tryd.prog (L_ln 3 true) Tryd.f21 [] [] 99 [.agg [vi k, vi a, vi b, vi c, vi d]] noMem = lnR (catB (catB (catB (recWd k) (catB sp1 (decText a))) (catB sp1 (decText b))) (catB sp1 (decText c))) [rtB k a b c d == true, recAr k == 3, decide (-9223372036854775808 ≤ a), decide (a ≤ 9223372036854775807), Nat.ble (1 + lenB (decText a)) 9223372036854775807, Nat.ble (lenB (recWd k) + lenB (catB sp1 (decText a))) 9223372036854775807, decide (-9223372036854775808 ≤ b), decide (b ≤ 9223372036854775807), Nat.ble (1 + lenB (decText b)) 9223372036854775807, Nat.ble (lenB (catB (recWd k) (catB sp1 (decText a))) + lenB (catB sp1 (decText b))) 9223372036854775807, decide (-9223372036854775808 ≤ c), decide (c ≤ 9223372036854775807), Nat.ble (1 + lenB (decText c)) 9223372036854775807, Nat.ble (lenB (catB (catB (recWd k) (catB sp1 (decText a))) (catB sp1 (decText b))) + lenB (catB sp1 (decText c))) 9223372036854775807] := by kernel_rfl
theorem ln_ok3 (k a b c d : Int) (hr : rtB k a b c d = true) (ha : recAr k = 3) (hz : inI [a, b, c, d] = true) : F_ Tryd.prog (L_ln 3 true) Tryd.f21 [] [] 99 [.agg [vi k, vi a, vi b, vi c, vi d]] noMem = some (.ret (vs (lsF [a, b, c, d] 0 3 (recWd k))) ⟨[], 99⟩ true) := by
  rw [ln_3]
  obtain ⟨⟨a1, a2⟩, ⟨b1, b2⟩, ⟨c1, c2⟩, ⟨d1, d2⟩⟩ := inI_4 hz
  have w := recWd_len k
  have la := decText_len a
  have lb := decText_len b
  have lc := decText_len c
  have ld := decText_len d
  have s1 := sp1_len
  have hc : conj [rtB k a b c d == true, recAr k == 3, decide (-9223372036854775808 ≤ a), decide (a ≤ 9223372036854775807), Nat.ble (1 + lenB (decText a)) 9223372036854775807, Nat.ble (lenB (recWd k) + lenB (catB sp1 (decText a))) 9223372036854775807, decide (-9223372036854775808 ≤ b), decide (b ≤ 9223372036854775807), Nat.ble (1 + lenB (decText b)) 9223372036854775807, Nat.ble (lenB (catB (recWd k) (catB sp1 (decText a))) + lenB (catB sp1 (decText b))) 9223372036854775807, decide (-9223372036854775808 ≤ c), decide (c ≤ 9223372036854775807), Nat.ble (1 + lenB (decText c)) 9223372036854775807, Nat.ble (lenB (catB (catB (recWd k) (catB sp1 (decText a))) (catB sp1 (decText b))) + lenB (catB sp1 (decText c))) 9223372036854775807] = true := by
    simp only [conj, Bool.and_eq_true, Nat.ble_eq, decide_eq_true_eq, beq_iff_eq, lenB_cat, hr, ha]
    and_intros <;> first | trivial | omega
  unfold lnR
  rw [hc]
  simp only [lsF, List.getD_cons_zero, List.getD_cons_succ, cat_assoc]
theorem lr_3 (k a b c d : Int) : F_ Tryd.prog (L_lr 3) Tryd.f22 [] [] 99 [.agg [vi k, vi a, vi b, vi c, vi d]] noMem = lnR (catB (catB (catB (catB (catB (catB (wlK k) sp1) (haymowref03_Text_0 a)) sp1) (haymowref03_Text_0 b)) sp1) (haymowref03_Text_0 c)) [decide (0 ≤ k), decide (k.toNat < 21), decide (smJ k < 21), recAr k == 3, Nat.ble (lenB (wlK k) + 1) 9223372036854775807, c_haymowref03_Text a, Nat.ble (lenB (catB (wlK k) sp1) + lenB (haymowref03_Text_0 a)) 9223372036854775807, recAr k == 3, Nat.ble (lenB (catB (catB (wlK k) sp1) (haymowref03_Text_0 a)) + 1) 9223372036854775807, c_haymowref03_Text b, Nat.ble (lenB (catB (catB (catB (wlK k) sp1) (haymowref03_Text_0 a)) sp1) + lenB (haymowref03_Text_0 b)) 9223372036854775807, recAr k == 3, Nat.ble (lenB (catB (catB (catB (catB (wlK k) sp1) (haymowref03_Text_0 a)) sp1) (haymowref03_Text_0 b)) + 1) 9223372036854775807, c_haymowref03_Text c, Nat.ble (lenB (catB (catB (catB (catB (catB (wlK k) sp1) (haymowref03_Text_0 a)) sp1) (haymowref03_Text_0 b)) sp1) + lenB (haymowref03_Text_0 c)) 9223372036854775807, recAr k == 3] := by kernel_rfl
theorem lr_ok3 (n : Nat) (a b c d : Int) (hn : n < 21) (ha : recAr (n : Int) = 3) (hz : inI [a, b, c, d] = true) : F_ Tryd.prog (L_lr 3) Tryd.f22 [] [] 99 [.agg [vi (n : Int), vi a, vi b, vi c, vi d]] noMem = some (.ret (vs (lsF [a, b, c, d] 0 3 (wdL.getD n ⟨#[]⟩))) ⟨[], 99⟩ true) := by
  rw [lr_3]
  obtain ⟨⟨a1, a2⟩, ⟨b1, b2⟩, ⟨c1, c2⟩, ⟨d1, d2⟩⟩ := inI_4 hz
  have w := wd_len n
  have la := decText_len a
  have lb := decText_len b
  have lc := decText_len c
  have ld := decText_len d
  have s1 := sp1_len
  obtain ⟨ta, ua⟩ := text03 a a1 a2
  obtain ⟨tb, ub⟩ := text03 b b1 b2
  obtain ⟨tc, uc⟩ := text03 c c1 c2
  obtain ⟨td, ud⟩ := text03 d d1 d2
  unfold lnR wlK
  have hw : (n : Int).toNat = n := Int.toNat_natCast n
  simp only [smJ_eq, hw, ta, tb, tc, td, ua, ub, uc, ud]
  have hc : conj [decide (0 ≤ (n : Int)), decide (n < 21), decide (n < 21), recAr (n : Int) == 3, Nat.ble (lenB (wdL.getD n ⟨#[]⟩) + 1) 9223372036854775807, true, Nat.ble (lenB (catB (wdL.getD n ⟨#[]⟩) sp1) + lenB (decText a)) 9223372036854775807, recAr (n : Int) == 3, Nat.ble (lenB (catB (catB (wdL.getD n ⟨#[]⟩) sp1) (decText a)) + 1) 9223372036854775807, true, Nat.ble (lenB (catB (catB (catB (wdL.getD n ⟨#[]⟩) sp1) (decText a)) sp1) + lenB (decText b)) 9223372036854775807, recAr (n : Int) == 3, Nat.ble (lenB (catB (catB (catB (catB (wdL.getD n ⟨#[]⟩) sp1) (decText a)) sp1) (decText b)) + 1) 9223372036854775807, true, Nat.ble (lenB (catB (catB (catB (catB (catB (wdL.getD n ⟨#[]⟩) sp1) (decText a)) sp1) (decText b)) sp1) + lenB (decText c)) 9223372036854775807, recAr (n : Int) == 3] = true := by
    simp only [conj, Bool.and_eq_true, Nat.ble_eq, decide_eq_true_eq, beq_iff_eq, lenB_cat, ha]
    and_intros <;> first | trivial | omega
  rw [hc]
  simp only [lsF, List.getD_cons_zero, List.getD_cons_succ]
theorem ln_4 (k a b c d : Int) : F_ Tryd.prog (L_ln 4 true) Tryd.f21 [] [] 99 [.agg [vi k, vi a, vi b, vi c, vi d]] noMem = lnR (catB (catB (catB (catB (recWd k) (catB sp1 (decText a))) (catB sp1 (decText b))) (catB sp1 (decText c))) (catB sp1 (decText d))) [rtB k a b c d == true, recAr k == 4, decide (-9223372036854775808 ≤ a), decide (a ≤ 9223372036854775807), Nat.ble (1 + lenB (decText a)) 9223372036854775807, Nat.ble (lenB (recWd k) + lenB (catB sp1 (decText a))) 9223372036854775807, decide (-9223372036854775808 ≤ b), decide (b ≤ 9223372036854775807), Nat.ble (1 + lenB (decText b)) 9223372036854775807, Nat.ble (lenB (catB (recWd k) (catB sp1 (decText a))) + lenB (catB sp1 (decText b))) 9223372036854775807, decide (-9223372036854775808 ≤ c), decide (c ≤ 9223372036854775807), Nat.ble (1 + lenB (decText c)) 9223372036854775807, Nat.ble (lenB (catB (catB (recWd k) (catB sp1 (decText a))) (catB sp1 (decText b))) + lenB (catB sp1 (decText c))) 9223372036854775807, decide (-9223372036854775808 ≤ d), decide (d ≤ 9223372036854775807), Nat.ble (1 + lenB (decText d)) 9223372036854775807, Nat.ble (lenB (catB (catB (catB (recWd k) (catB sp1 (decText a))) (catB sp1 (decText b))) (catB sp1 (decText c))) + lenB (catB sp1 (decText d))) 9223372036854775807] := by kernel_rfl
theorem ln_ok4 (k a b c d : Int) (hr : rtB k a b c d = true) (ha : recAr k = 4) (hz : inI [a, b, c, d] = true) : F_ Tryd.prog (L_ln 4 true) Tryd.f21 [] [] 99 [.agg [vi k, vi a, vi b, vi c, vi d]] noMem = some (.ret (vs (lsF [a, b, c, d] 0 4 (recWd k))) ⟨[], 99⟩ true) := by
  rw [ln_4]
  obtain ⟨⟨a1, a2⟩, ⟨b1, b2⟩, ⟨c1, c2⟩, ⟨d1, d2⟩⟩ := inI_4 hz
  have w := recWd_len k
  have la := decText_len a
  have lb := decText_len b
  have lc := decText_len c
  have ld := decText_len d
  have s1 := sp1_len
  have hc : conj [rtB k a b c d == true, recAr k == 4, decide (-9223372036854775808 ≤ a), decide (a ≤ 9223372036854775807), Nat.ble (1 + lenB (decText a)) 9223372036854775807, Nat.ble (lenB (recWd k) + lenB (catB sp1 (decText a))) 9223372036854775807, decide (-9223372036854775808 ≤ b), decide (b ≤ 9223372036854775807), Nat.ble (1 + lenB (decText b)) 9223372036854775807, Nat.ble (lenB (catB (recWd k) (catB sp1 (decText a))) + lenB (catB sp1 (decText b))) 9223372036854775807, decide (-9223372036854775808 ≤ c), decide (c ≤ 9223372036854775807), Nat.ble (1 + lenB (decText c)) 9223372036854775807, Nat.ble (lenB (catB (catB (recWd k) (catB sp1 (decText a))) (catB sp1 (decText b))) + lenB (catB sp1 (decText c))) 9223372036854775807, decide (-9223372036854775808 ≤ d), decide (d ≤ 9223372036854775807), Nat.ble (1 + lenB (decText d)) 9223372036854775807, Nat.ble (lenB (catB (catB (catB (recWd k) (catB sp1 (decText a))) (catB sp1 (decText b))) (catB sp1 (decText c))) + lenB (catB sp1 (decText d))) 9223372036854775807] = true := by
    simp only [conj, Bool.and_eq_true, Nat.ble_eq, decide_eq_true_eq, beq_iff_eq, lenB_cat, hr, ha]
    and_intros <;> first | trivial | omega
  unfold lnR
  rw [hc]
  simp only [lsF, List.getD_cons_zero, List.getD_cons_succ, cat_assoc]
theorem lr_4 (k a b c d : Int) : F_ Tryd.prog (L_lr 4) Tryd.f22 [] [] 99 [.agg [vi k, vi a, vi b, vi c, vi d]] noMem = lnR (catB (catB (catB (catB (catB (catB (catB (catB (wlK k) sp1) (haymowref03_Text_0 a)) sp1) (haymowref03_Text_0 b)) sp1) (haymowref03_Text_0 c)) sp1) (haymowref03_Text_0 d)) [decide (0 ≤ k), decide (k.toNat < 21), decide (smJ k < 21), recAr k == 4, Nat.ble (lenB (wlK k) + 1) 9223372036854775807, c_haymowref03_Text a, Nat.ble (lenB (catB (wlK k) sp1) + lenB (haymowref03_Text_0 a)) 9223372036854775807, recAr k == 4, Nat.ble (lenB (catB (catB (wlK k) sp1) (haymowref03_Text_0 a)) + 1) 9223372036854775807, c_haymowref03_Text b, Nat.ble (lenB (catB (catB (catB (wlK k) sp1) (haymowref03_Text_0 a)) sp1) + lenB (haymowref03_Text_0 b)) 9223372036854775807, recAr k == 4, Nat.ble (lenB (catB (catB (catB (catB (wlK k) sp1) (haymowref03_Text_0 a)) sp1) (haymowref03_Text_0 b)) + 1) 9223372036854775807, c_haymowref03_Text c, Nat.ble (lenB (catB (catB (catB (catB (catB (wlK k) sp1) (haymowref03_Text_0 a)) sp1) (haymowref03_Text_0 b)) sp1) + lenB (haymowref03_Text_0 c)) 9223372036854775807, recAr k == 4, Nat.ble (lenB (catB (catB (catB (catB (catB (catB (wlK k) sp1) (haymowref03_Text_0 a)) sp1) (haymowref03_Text_0 b)) sp1) (haymowref03_Text_0 c)) + 1) 9223372036854775807, c_haymowref03_Text d, Nat.ble (lenB (catB (catB (catB (catB (catB (catB (catB (wlK k) sp1) (haymowref03_Text_0 a)) sp1) (haymowref03_Text_0 b)) sp1) (haymowref03_Text_0 c)) sp1) + lenB (haymowref03_Text_0 d)) 9223372036854775807, recAr k == 4] := by kernel_rfl
theorem lr_ok4 (n : Nat) (a b c d : Int) (hn : n < 21) (ha : recAr (n : Int) = 4) (hz : inI [a, b, c, d] = true) : F_ Tryd.prog (L_lr 4) Tryd.f22 [] [] 99 [.agg [vi (n : Int), vi a, vi b, vi c, vi d]] noMem = some (.ret (vs (lsF [a, b, c, d] 0 4 (wdL.getD n ⟨#[]⟩))) ⟨[], 99⟩ true) := by
  rw [lr_4]
  obtain ⟨⟨a1, a2⟩, ⟨b1, b2⟩, ⟨c1, c2⟩, ⟨d1, d2⟩⟩ := inI_4 hz
  have w := wd_len n
  have la := decText_len a
  have lb := decText_len b
  have lc := decText_len c
  have ld := decText_len d
  have s1 := sp1_len
  obtain ⟨ta, ua⟩ := text03 a a1 a2
  obtain ⟨tb, ub⟩ := text03 b b1 b2
  obtain ⟨tc, uc⟩ := text03 c c1 c2
  obtain ⟨td, ud⟩ := text03 d d1 d2
  unfold lnR wlK
  have hw : (n : Int).toNat = n := Int.toNat_natCast n
  simp only [smJ_eq, hw, ta, tb, tc, td, ua, ub, uc, ud]
  have hc : conj [decide (0 ≤ (n : Int)), decide (n < 21), decide (n < 21), recAr (n : Int) == 4, Nat.ble (lenB (wdL.getD n ⟨#[]⟩) + 1) 9223372036854775807, true, Nat.ble (lenB (catB (wdL.getD n ⟨#[]⟩) sp1) + lenB (decText a)) 9223372036854775807, recAr (n : Int) == 4, Nat.ble (lenB (catB (catB (wdL.getD n ⟨#[]⟩) sp1) (decText a)) + 1) 9223372036854775807, true, Nat.ble (lenB (catB (catB (catB (wdL.getD n ⟨#[]⟩) sp1) (decText a)) sp1) + lenB (decText b)) 9223372036854775807, recAr (n : Int) == 4, Nat.ble (lenB (catB (catB (catB (catB (wdL.getD n ⟨#[]⟩) sp1) (decText a)) sp1) (decText b)) + 1) 9223372036854775807, true, Nat.ble (lenB (catB (catB (catB (catB (catB (wdL.getD n ⟨#[]⟩) sp1) (decText a)) sp1) (decText b)) sp1) + lenB (decText c)) 9223372036854775807, recAr (n : Int) == 4, Nat.ble (lenB (catB (catB (catB (catB (catB (catB (wdL.getD n ⟨#[]⟩) sp1) (decText a)) sp1) (decText b)) sp1) (decText c)) + 1) 9223372036854775807, true, Nat.ble (lenB (catB (catB (catB (catB (catB (catB (catB (wdL.getD n ⟨#[]⟩) sp1) (decText a)) sp1) (decText b)) sp1) (decText c)) sp1) + lenB (decText d)) 9223372036854775807, recAr (n : Int) == 4] = true := by
    simp only [conj, Bool.and_eq_true, Nat.ble_eq, decide_eq_true_eq, beq_iff_eq, lenB_cat, ha]
    and_intros <;> first | trivial | omega
  rw [hc]
  simp only [lsF, List.getD_cons_zero, List.getD_cons_succ]
def lnV (k a b c d : Int) : ByteArray := bif rtB k a b c d then lsF [a, b, c, d] 0 (recAr k).toNat (recWd k) else ⟨#[]⟩
theorem rtB_in {k a b c d : Int} (h : rtB k a b c d = true) : ∃ n : Nat, k = (n : Int) ∧ n < 21 ∧ ∃ j : Nat, recAr (n : Int) = Int.ofNat j ∧ j < 5 := by
  have hI : record_Is_0 k = true := by
    unfold rtB at h
    cases hk : record_Is_0 k with
    | true => rfl
    | false => rw [hk] at h; cases h
  obtain ⟨n, rfl, hn⟩ := is_nat hI
  obtain ⟨h1, h2, h3⟩ := ar_r (n : Int)
  have h4 : ¬ recAr (n : Int) < 0 := fun h => by rw [h3.1 h] at hI; cases hI
  exact ⟨n, rfl, hn, (recAr (n : Int)).toNat, by show _ = (((recAr (n : Int)).toNat : Nat) : Int); omega, by omega⟩
theorem ln_all (k a b c d : Int) (hz : inI [a, b, c, d] = true) : ∃ j r, F_ Tryd.prog (L_ln j r) Tryd.f21 [] [] 99 [.agg [vi k, vi a, vi b, vi c, vi d]] noMem = some (.ret (vs (lnV k a b c d)) ⟨[], 99⟩ true) := by
  unfold lnV
  cases hr : rtB k a b c d with
  | false =>
    have h := ln_no k a b c d
    unfold lnR at h
    rw [hr] at h
    exact ⟨0, false, h⟩
  | true =>
    obtain ⟨n, rfl, hn, j, hj, hj5⟩ := rtB_in hr
    rw [hj, cond_true, show (Int.ofNat j).toNat = j from rfl]
    match j, hj5 with
    | 0, _ => exact ⟨0, true, ln_ok0 _ a b c d hr hj hz⟩
    | 1, _ => exact ⟨1, true, ln_ok1 _ a b c d hr hj hz⟩
    | 2, _ => exact ⟨2, true, ln_ok2 _ a b c d hr hj hz⟩
    | 3, _ => exact ⟨3, true, ln_ok3 _ a b c d hr hj hz⟩
    | 4, _ => exact ⟨4, true, ln_ok4 _ a b c d hr hj hz⟩
theorem lr_all (k a b c d : Int) (hr : rtB k a b c d = true) (hz : inI [a, b, c, d] = true) : ∃ j, F_ Tryd.prog (L_lr j) Tryd.f22 [] [] 99 [.agg [vi k, vi a, vi b, vi c, vi d]] noMem = some (.ret (vs (lnV k a b c d)) ⟨[], 99⟩ true) := by
  unfold lnV
  rw [hr]
  obtain ⟨n, rfl, hn, j, hj, hj5⟩ := rtB_in hr
  have hw : recWd (n : Int) = wdL.getD n ⟨#[]⟩ := by
    unfold recWd
    rw [nat_is hn, Int.toNat_natCast]
    rfl
  rw [hj, cond_true, show (Int.ofNat j).toNat = j from rfl, hw]
  match j, hj5 with
  | 0, _ => exact ⟨0, lr_ok0 n a b c d hn hj hz⟩
  | 1, _ => exact ⟨1, lr_ok1 n a b c d hn hj hz⟩
  | 2, _ => exact ⟨2, lr_ok2 n a b c d hn hj hz⟩
  | 3, _ => exact ⟨3, lr_ok3 n a b c d hn hj hz⟩
  | 4, _ => exact ⟨4, lr_ok4 n a b c d hn hj hz⟩
def e_line : Spec := fun _ args => match args with
  | [.agg [.val (.int .i64 k), .val (.int .i64 a), .val (.int .i64 b), .val (.int .i64 c), .val (.int .i64 d)]] => some (vs (lnV k a b c d), none, [inI [a, b, c, d]])
  | _ => none
theorem ok_line : SpecOk Tryd.prog 21 e_line := fun m args v mo bs h hb => by
  unfold e_line at h
  split at h
  · rename_i k a b c d
    cases h
    simp only [List.all_cons, List.all_nil, id, Bool.and_true] at hb
    obtain ⟨j, r, hrun⟩ := ln_all k a b c d hb
    exact pure_fn (c := bodyOf Tryd.f21) (hE_ln j r) mixed (fun xs w => Tryd.call21 xs w) Tryd.func21 rfl hrun rfl rfl
  · cases h
def e_rline : Spec := fun _ args => match args with
  | [.agg [.val (.int .i64 k), .val (.int .i64 a), .val (.int .i64 b), .val (.int .i64 c), .val (.int .i64 d)]] => some (vs (lnV k a b c d), none, [rtB k a b c d, inI [a, b, c, d]])
  | _ => none
theorem ok_rline : SpecOk Tryd.prog 22 e_rline := fun m args v mo bs h hb => by
  unfold e_rline at h
  split at h
  · rename_i k a b c d
    cases h
    simp only [List.all_cons, List.all_nil, id, Bool.and_true, Bool.and_eq_true] at hb
    obtain ⟨j, hrun⟩ := lr_all k a b c d hb.1 hb.2
    exact pure_fn (c := bodyOf Tryd.f22) (hE_lr j) mixed (fun xs w => Tryd.call22 xs w) Tryd.func22 rfl hrun rfl rfl
  · cases h
end Go.Proofs.YtpmcflidggofkaaDoor

namespace Go.Proofs.YtpmcflidggofkaaDoor
open Go Go.RowKit
section
variable {P : Program}
theorem allRo_noWr {ρ : Rho} {m : MS} (h : allRo m.bl = true) (g : Nat) : ¬ Wr ρ m g := fun ⟨l, b, h1, h2, _⟩ => by rw [allRo_look h h1] at h2; cases h2
/-- A name for what is handed back. -/
theorem name_gen {ρ ρ1 : Rho} {nx1 : Nat} {m : MS} {w w' : World} {c : Cont} {n wd s cp : Nat} {i : LI} {A : Option Addr} (hm : MRel ρ m w) (hg : c.ground = true) (hd : c.nested = true → ∀ g, Wr ρ m g → i.tg.testBit g = false) (ho : w'.os = w.os) (ht : w'.tape = w.tape) (hout : w'.output = w.output) (hsz : w.heap.size ≤ w'.heap.size) (hk : ∀ g, g < w.heap.size → w'.heap[g]? = w.heap[g]?)
    (hfr : w.heap.size ≤ i.b ∨ (⟨false, false, c⟩ : ABlk).void) (hok : (⟨false, false, c⟩ : ABlk).ok ρ1 nx1 i w') (hnc : n ≤ cp) (hA : 0 < n → A = some ⟨i.b, i.o + 0 * wd, none⟩) (hcap : 0 * wd + cp * (s * wd) ≤ i.cap) :
    ∃ ρ', AV.rel ρ' (m.nx + 1) (.sl false m.nx wd 0 s n none) (.slice A n cp) ∧ MRel ρ' ⟨(m.nx, some ⟨false, false, c⟩) :: m.bl, m.nx + 1⟩ w' ∧ Moves m.nx ρ ρ' m ⟨(m.nx, some ⟨false, false, c⟩) :: m.bl, m.nx + 1⟩ w w' := by
  have hext : ∀ l, l < m.nx → (ρ.new m.nx i) l = ρ l := fun l hl => by unfold Rho.new; rw [if_neg (by omega)]
  have hself : (ρ.new m.nx i) m.nx = i := by simp [Rho.new]
  have key : ∀ l b', look ((m.nx, some (⟨false, false, c⟩ : ABlk)) :: m.bl) l = some b' → (l = m.nx ∧ b' = ⟨false, false, c⟩) ∨ (l < m.nx ∧ look m.bl l = some b') := fun l b' hl => by
    rw [look_cons] at hl
    split at hl
    · rename_i e; cases hl; exact .inl ⟨e.symm, rfl⟩
    · exact .inr ⟨(hm.blk l b' hl).1, hl⟩
  refine ⟨ρ.new m.nx i, ?_, ⟨fun l b' hl => ?_, fun l b1 l' b2 h1 h2 hw1 hne hnv => ?_, fun l b1 l' b2 h1 h2 hw1 hn2 => ?_⟩, ⟨hext, Nat.le_succ _, ho, ht, hout, hsz, fun g hg _ => hk g hg, fun g ⟨l, b', h1, h2, h3⟩ => ?_⟩⟩
  · simp only [AV.rel]
    rw [hself]
    exact ⟨Nat.lt_succ_self _, A, cp, rfl, hnc, hA, (fun h => by cases h), hcap⟩
  · rcases key l b' hl with ⟨rfl, rfl⟩ | ⟨hlt, hl⟩
    · refine ⟨Nat.lt_succ_self _, ?_⟩
      rw [hself]
      exact ⟨hok.lt, Cont.rel_ground hg hok.rel, hok.free, hok.room, fun q hq => (hok.obj q hq).ok_ground (by have hq : c = .obj q := hq; rw [← hq]; exact hg)⟩
    · refine ⟨Nat.lt_succ_of_lt hlt, ?_⟩
      rw [hext l hlt]
      have h2 := (hm.blk l b' hl).2
      rcases h2.lt with hlt' | hv
      · exact h2.ext hext (Nat.le_succ _) hsz (hk _ hlt') fun hn' g hg => hk g (h2.tlt hn' g hg)
      · exact ABlk.ok.any hv _
  · rcases key l b1 h1 with ⟨rfl, rfl⟩ | ⟨hlt, hl⟩
    · cases hw1
    · rw [hext l hlt]
      rcases key l' b2 h2 with ⟨rfl, rfl⟩ | ⟨hlt', hl'⟩
      · rw [hself]
        have := (hm.blk l b1 hl).2.lt.resolve_right (wr_not_void hw1)
        have h3 := hfr.resolve_right hnv
        omega
      · rw [hext l' hlt']
        exact hm.apart l b1 l' b2 hl hl' hw1 hne hnv
  · rcases key l b1 h1 with ⟨rfl, rfl⟩ | ⟨hlt, hl⟩
    · cases hw1
    · rw [hext l hlt]
      rcases key l' b2 h2 with ⟨rfl, rfl⟩ | ⟨hlt', hl'⟩
      · rw [hself]
        exact hd hn2 _ ⟨l, b1, hl, hw1, rfl⟩
      · rw [hext l' hlt']
        exact hm.deep l b1 l' b2 hl hl' hw1 hn2
  · rcases key l b' h1 with ⟨rfl, rfl⟩ | ⟨hlt, hl⟩
    · cases h2
    · rw [hext l hlt] at h3
      exact .inl ⟨l, b', hl, h2, h3⟩
/-- What stands for what, for reading: the same, or known cells as a column. -/
def Cont.says (c0 c : Cont) : Prop := (c0 = c ∧ c.plain = true) ∨ (c.plain = true ∧ ∀ (ρ : Rho) (nx : Nat) (cell : Nat → Option Value), c0.rel ρ nx cell → c.rel ρ nx cell)
theorem says_ints {k : IntKind} {zs : List Int} : (Cont.cells (zs.map fun z => .val (.int k z))).says (.col (.ints k zs)) := by
  refine .inr ⟨rfl, fun ρ nx cell h r c a ha => ?_⟩
  cases c <;> simp only [Cont.at] at ha <;> try cases ha
  simp only [Col.at, Option.some.injEq, Prod.mk.injEq, decide_eq_true_eq] at ha
  obtain ⟨rfl, hlt⟩ := ha
  obtain ⟨_, x, h1, h2⟩ := h r 0 (.val (.int k (zs.getD r 0))) (by simp [Cont.at, hlt])
  exact ⟨by simp [Cont.width], x, h1, h2⟩
theorem says_strs {zs : List ByteArray} : (Cont.cells (zs.map fun z => .val (.string z))).says (.col (.strs zs)) := by
  refine .inr ⟨rfl, fun ρ nx cell h r c a ha => ?_⟩
  cases c <;> simp only [Cont.at] at ha <;> try cases ha
  simp only [Col.at, Option.some.injEq, Prod.mk.injEq, decide_eq_true_eq] at ha
  obtain ⟨rfl, hlt⟩ := ha
  obtain ⟨_, x, h1, h2⟩ := h r 0 (.val (.string (zs.getD r ⟨#[]⟩))) (by simp [Cont.at, hlt])
  exact ⟨by simp [Cont.width], x, h1, h2⟩
theorem says_self {c : Cont} (h : c.plain = true) : c.says c := .inl ⟨rfl, h⟩
/-- What is handed back is a slice: no slices in its cells. -/
theorem lift_list {f : FuncId} {m m1 : MS} {args args1 : List AV} {n wd s : Nat} {c : Cont} (hro : allRo m1.bl = true) (hg : c.ground = true) (hpl : c.plain = true)
    (hsim : ∀ (ρ : Rho) (w : World) (xs : List Value), MRel ρ m w → AV.rels ρ m.nx args xs → ∃ ρ1, MRel ρ1 m1 w ∧ AV.rels ρ1 m1.nx args1 xs)
    (h : (n = 0 ∧ (∀ r c' a, c.at r c' ≠ some (a, true)) ∧ ∃ m', FSound P f m1 args1 (.val (.slice none 0 0)) m') ∨
      ∃ nn k m' op c0 cap, look m'.bl k = some ⟨true, op, c0⟩ ∧ c0.says c ∧ FSound P f m1 args1 (.sl nn k wd 0 s n cap) m') :
    FSound P f m args (.sl false m.nx wd 0 s n none) ⟨(m.nx, some ⟨false, false, c⟩) :: m.bl, m.nx + 1⟩ := by
  intro ρ w xs hm hx
  obtain ⟨ρ1, hm1, hx1⟩ := hsim ρ w xs hm hx
  have hnw := allRo_noWr (ρ := ρ1) hro
  have hd : ∀ i : LI, c.nested = true → ∀ g, Wr ρ m g → i.tg.testBit g = false := fun i hn => by rw [Cont.nested_plain hpl] at hn; cases hn
  rcases h with ⟨rfl, hv, m', hf⟩ | ⟨nn, k, m', op, c0, cap, hl, hsay, hf⟩
  · refine Went.mono (hf ρ1 w xs hm1 hx1) fun x w' ⟨ρ2, hr, hm2, mv⟩ => ?_
    simp only [AV.rel] at hr
    subst hr
    have hvoid : (⟨false, false, c⟩ : ABlk).void := ⟨rfl, rfl, Cont.plain_void hpl, hv⟩
    exact name_gen (ρ1 := ρ) (nx1 := 0) (i := ⟨0, 0, 0, 0⟩) hm hg (hd _) mv.os mv.tape mv.output mv.size (fun g hg => mv.keep g hg (hnw g)) (.inr hvoid) (ABlk.ok.any hvoid _) (Nat.le_refl _) (fun h => by omega) (by simp)
  · refine Went.mono (hf ρ1 w xs hm1 hx1) fun x w' ⟨ρ2, hr, hm2, mv⟩ => ?_
    simp only [AV.rel] at hr
    obtain ⟨_, A, cp, rfl, hnc, hA, _, _⟩ := hr
    obtain ⟨_, hok⟩ := hm2.blk k _ hl
    have hfr : w.heap.size ≤ (ρ2 k).b := (mv.fresh (ρ2 k).b ⟨k, _, hl, rfl, rfl⟩).resolve_left (hnw _)
    refine name_gen (ρ1 := ρ2) (nx1 := m'.nx) (i := ⟨(ρ2 k).b, (ρ2 k).o, cp * (s * wd), 0⟩) hm hg (hd _) mv.os mv.tape mv.output mv.size (fun g hg => mv.keep g hg (hnw g)) (.inl hfr) ⟨.inl (hok.lt.resolve_right (wr_not_void rfl)), ?_, (fun h => by cases h), (fun h => by cases h), fun q hq => absurd hq (Cont.plain_ne hpl q)⟩ hnc hA (by simp)
    rcases hsay with ⟨rfl, _⟩ | ⟨_, hs⟩
    · exact hok.rel
    · exact hs _ _ _ hok.rel
/-- The same, a new one that may be written: it is never empty. -/
theorem lift_listW {f : FuncId} {m m1 : MS} {args args1 : List AV} {n wd s : Nat} {c : Cont} (hro : allRo m1.bl = true) (hg : c.ground = true) (hpl : c.plain = true) (h0 : 0 < n)
    (hsim : ∀ (ρ : Rho) (w : World) (xs : List Value), MRel ρ m w → AV.rels ρ m.nx args xs → ∃ ρ1, MRel ρ1 m1 w ∧ AV.rels ρ1 m1.nx args1 xs)
    (h : ∃ nn k m' op c0 cap, look m'.bl k = some ⟨true, op, c0⟩ ∧ c0.says c ∧ FSound P f m1 args1 (.sl nn k wd 0 s n cap) m') :
    FSound P f m args (.sl false m.nx wd 0 s n none) ⟨(m.nx, some ⟨true, false, c⟩) :: m.bl, m.nx + 1⟩ := by
  intro ρ w xs hm hx
  obtain ⟨ρ1, hm1, hx1⟩ := hsim ρ w xs hm hx
  have hnw := allRo_noWr (ρ := ρ1) hro
  obtain ⟨nn, k, m', op, c0, cap, hl, hsay, hf⟩ := h
  refine Went.mono (hf ρ1 w xs hm1 hx1) fun x w' ⟨ρ2, hr, hm2, mv⟩ => ?_
  simp only [AV.rel] at hr
  obtain ⟨_, A, cp, rfl, hnc, hA, _, _⟩ := hr
  obtain ⟨_, hok⟩ := hm2.blk k _ hl
  have hfr : w.heap.size ≤ (ρ2 k).b := (mv.fresh (ρ2 k).b ⟨k, _, hl, rfl, rfl⟩).resolve_left (hnw _)
  let i : LI := ⟨(ρ2 k).b, (ρ2 k).o, cp * (s * wd), 0⟩
  have hext : ∀ l, l < m.nx → (ρ.new m.nx i) l = ρ l := fun l hl => by unfold Rho.new; rw [if_neg (by omega)]
  have hself : (ρ.new m.nx i) m.nx = i := by simp [Rho.new]
  have hkeep : ∀ g, g < w.heap.size → w'.heap[g]? = w.heap[g]? := fun g hg => mv.keep g hg (hnw g)
  have hrel : c.rel (ρ.new m.nx i) (m.nx + 1) (fun j => w'.cell? ⟨i.b, i.o + j, none⟩) := by
    rcases hsay with ⟨rfl, _⟩ | ⟨_, hs⟩
    · exact Cont.rel_ground hg hok.rel
    · exact Cont.rel_ground hg (hs _ _ _ hok.rel)
  have key : ∀ l b', look ((m.nx, some (⟨true, false, c⟩ : ABlk)) :: m.bl) l = some b' → (l = m.nx ∧ b' = ⟨true, false, c⟩) ∨ (l < m.nx ∧ look m.bl l = some b') := fun l b' hl => by
    rw [look_cons] at hl
    split at hl
    · rename_i e; cases hl; exact .inl ⟨e.symm, rfl⟩
    · exact .inr ⟨(hm.blk l b' hl).1, hl⟩
  refine ⟨ρ.new m.nx i, ?_, ⟨fun l b' hl => ?_, fun l b1 l' b2 h1 h2 hw1 hne hnv => ?_, fun l b1 l' b2 h1 h2 hw1 hn2 => ?_⟩, ⟨hext, Nat.le_succ _, mv.os, mv.tape, mv.output, mv.size, fun g hg _ => hkeep g hg, fun g ⟨l, b', h1, h2, h3⟩ => ?_⟩⟩
  · simp only [AV.rel]
    rw [hself]
    exact ⟨Nat.lt_succ_self _, A, cp, rfl, hnc, hA, (fun h => by cases h), by simp [i]⟩
  · rcases key l b' hl with ⟨rfl, rfl⟩ | ⟨hlt, hl⟩
    · refine ⟨Nat.lt_succ_self _, ?_⟩
      rw [hself]
      exact ⟨.inl (hok.lt.resolve_right (wr_not_void rfl)), hrel, fun _ => hok.free rfl, (fun h => by cases h), fun q hq => absurd hq (Cont.plain_ne hpl q)⟩
    · refine ⟨Nat.lt_succ_of_lt hlt, ?_⟩
      rw [hext l hlt]
      have h2 := (hm.blk l b' hl).2
      rcases h2.lt with hlt' | hv
      · exact h2.ext hext (Nat.le_succ _) mv.size (hkeep _ hlt') fun hn' g hg => hkeep g (h2.tlt hn' g hg)
      · exact ABlk.ok.any hv _
  · rcases key l b1 h1 with ⟨rfl, rfl⟩ | ⟨hlt, hl⟩
    · rcases key l' b2 h2 with ⟨rfl, _⟩ | ⟨hlt', hl'⟩
      · exact absurd rfl hne
      · rw [hself, hext l' hlt']
        have := (hm.blk l' b2 hl').2.lt.resolve_right hnv
        show (ρ l').b ≠ (ρ2 k).b
        omega
    · have := (hm.blk l b1 hl).2.lt.resolve_right (wr_not_void hw1)
      rcases key l' b2 h2 with ⟨rfl, rfl⟩ | ⟨hlt', hl'⟩
      · rw [hself, hext l hlt]
        show (ρ2 k).b ≠ (ρ l).b
        omega
      · rw [hext l hlt, hext l' hlt']
        exact hm.apart l b1 l' b2 hl hl' hw1 hne hnv
  · rcases key l' b2 h2 with ⟨rfl, rfl⟩ | ⟨hlt', hl'⟩
    · have e1 : c.nested = true := hn2
      rw [Cont.nested_plain hpl] at e1; cases e1
    · rw [hext l' hlt']
      have g2 := (hm.blk l' b2 hl').2
      rcases key l b1 h1 with ⟨rfl, rfl⟩ | ⟨hlt, hl⟩
      · rw [hself]
        cases hbt : (ρ l').tg.testBit i.b with
        | false => rfl
        | true => have := g2.tlt hn2 _ hbt; have e : i.b = (ρ2 k).b := rfl; omega
      · rw [hext l hlt]
        exact hm.deep l b1 l' b2 hl hl' hw1 hn2
  · rcases key l b' h1 with ⟨rfl, rfl⟩ | ⟨hlt, hl⟩
    · rw [hself] at h3
      have e : i.b = (ρ2 k).b := rfl
      exact .inr (by omega)
    · rw [hext l hlt] at h3
      exact .inl ⟨l, b', hl, h2, h3⟩
/-- Nothing is written any more. -/
theorem still_mrel {ρ : Rho} {m : MS} {w : World} (h : MRel ρ m w) : MRel ρ ⟨roB m.bl, m.nx⟩ w where
  blk l b hl := by
    obtain ⟨h1, h2, b', h3, h4⟩ := roB_look hl
    obtain ⟨g1, g2⟩ := h.blk l b' h3
    obtain ⟨wr, op, k⟩ := b
    simp only at h1 h2 h4
    subst h1 h2 h4
    exact ⟨g1, g2.lt.imp id fun hv => ⟨rfl, rfl, hv.2.2.1, hv.2.2.2⟩, g2.rel, (fun h => by cases h), (fun h => by cases h), g2.obj⟩
  apart l b l' b' h1 h2 hw := by
    obtain ⟨g1, _⟩ := roB_look h1
    rw [g1] at hw; cases hw
  deep l b l' b' h1 h2 hw := by
    obtain ⟨g1, _⟩ := roB_look h1
    rw [g1] at hw; cases hw
theorem roB_noWr {ρ : Rho} {bl : List (Nat × Option ABlk)} {n : Nat} (g : Nat) : ¬ Wr ρ ⟨roB bl, n⟩ g := fun ⟨l, b, h1, h2, _⟩ => by
  obtain ⟨g1, _⟩ := roB_look h1
  rw [g1] at h2; cases h2
/-- What is handed back is a slice of slices; nothing is written any more where it is handed back. -/
theorem lift_nest {f : FuncId} {m m1 : MS} {args args1 : List AV} {n s : Nat} {cs : List NCol} (hro : allRo m1.bl = true)
    (hsim : ∀ (ρ : Rho) (w : World) (xs : List Value), MRel ρ m w → AV.rels ρ m.nx args xs → ∃ ρ1, MRel ρ1 m1 w ∧ AV.rels ρ1 m1.nx args1 xs)
    (h : (n = 0 ∧ nestB cs = false ∧ ∃ m', FSound P f m1 args1 (.val (.slice none 0 0)) m') ∨
      ∃ nn k m' op fo cap, look m'.bl k = some ⟨true, op, .obj (.nest cs fo)⟩ ∧ FSound P f m1 args1 (.sl nn k cs.length 0 s n cap) m') :
    FSound P f m args (.sl false m.nx cs.length 0 s n none) ⟨(m.nx, some ⟨false, false, .obj (.nest cs [])⟩) :: roB m.bl, m.nx + 1⟩ := by
  intro ρ w xs hm0 hx
  obtain ⟨ρ1, hm1, hx1⟩ := hsim ρ w xs hm0 hx
  have hm := still_mrel hm0
  have hnw := allRo_noWr (ρ := ρ1) hro
  have hd : ∀ i : LI, (Cont.obj (.nest cs [])).nested = true → ∀ g, Wr ρ ⟨roB m.bl, m.nx⟩ g → i.tg.testBit g = false := fun i _ g hg => absurd hg (roB_noWr g)
  have fin : ∀ {w' : World} {v : Value}, (∃ ρ', AV.rel ρ' (m.nx + 1) (.sl false m.nx cs.length 0 s n none) v ∧ MRel ρ' ⟨(m.nx, some ⟨false, false, .obj (.nest cs [])⟩) :: roB m.bl, m.nx + 1⟩ w' ∧ Moves m.nx ρ ρ' ⟨roB m.bl, m.nx⟩ ⟨(m.nx, some ⟨false, false, .obj (.nest cs [])⟩) :: roB m.bl, m.nx + 1⟩ w w') →
      ∃ ρ', AV.rel ρ' (m.nx + 1) (.sl false m.nx cs.length 0 s n none) v ∧ MRel ρ' ⟨(m.nx, some ⟨false, false, .obj (.nest cs [])⟩) :: roB m.bl, m.nx + 1⟩ w' ∧ Moves m.nx ρ ρ' m ⟨(m.nx, some ⟨false, false, .obj (.nest cs [])⟩) :: roB m.bl, m.nx + 1⟩ w w' := fun ⟨ρ', h1, h2, mv⟩ =>
    ⟨ρ', h1, h2, mv.ext, mv.nx, mv.os, mv.tape, mv.output, mv.size, fun g hg _ => mv.keep g hg (roB_noWr g), fun g hg => .inr ((mv.fresh g hg).resolve_left (roB_noWr g))⟩
  rcases h with ⟨rfl, hv, m', hf⟩ | ⟨nn, k, m', op, fo, cap, hl, hf⟩
  · refine Went.mono (hf ρ1 w xs hm1 hx1) fun x w' ⟨ρ2, hr, hm2, mv⟩ => ?_
    simp only [AV.rel] at hr
    subst hr
    have hvoid : (⟨false, false, .obj (.nest cs [])⟩ : ABlk).void := ⟨rfl, rfl, fun q hq => by cases hq; simp [QObj.hollow, hv], fun r c a h => by cases h⟩
    exact fin (name_gen (n := 0) (cp := 0) (A := none) (wd := cs.length) (s := s) (ρ1 := ρ) (nx1 := 0) (i := ⟨0, 0, 0, 0⟩) hm rfl (hd _) mv.os mv.tape mv.output mv.size (fun g hg => mv.keep g hg (hnw g)) (.inr hvoid) (ABlk.ok.any hvoid _) (Nat.le_refl _) (fun h => by omega) (by simp))
  · refine Went.mono (hf ρ1 w xs hm1 hx1) fun x w' ⟨ρ2, hr, hm2, mv⟩ => ?_
    simp only [AV.rel] at hr
    obtain ⟨_, A, cp, rfl, hnc, hA, _, _⟩ := hr
    obtain ⟨_, hok⟩ := hm2.blk k _ hl
    have hfr : w.heap.size ≤ (ρ2 k).b := (mv.fresh (ρ2 k).b ⟨k, _, hl, rfl, rfl⟩).resolve_left (hnw _)
    refine fin (name_gen (ρ1 := ρ2) (nx1 := m'.nx) (i := ⟨(ρ2 k).b, (ρ2 k).o, cp * (s * cs.length), (ρ2 k).tg⟩) hm rfl (hd _) mv.os mv.tape mv.output mv.size (fun g hg => mv.keep g hg (hnw g)) (.inl hfr) ⟨.inl (hok.lt.resolve_right (wr_not_void rfl)), (fun r c a h => by cases h), (fun h => by cases h), (fun h => by cases h), fun q hq => ?_⟩ hnc hA (by simp))
    cases hq
    have := hok.obj _ rfl
    exact this
end
end Go.Proofs.YtpmcflidggofkaaDoor

namespace Go.Proofs.YtpmcflidggofkaaDoor
open Go Go.RowKit
set_option maxRecDepth 100000
abbrev L_rc (j : Nat) (r : Bool) : List (FuncId × Spec) := (59, e_rtY r) :: (56, e_arN j) :: L_rw
theorem hE_rc (j : Nat) (r : Bool) : ESound Tryd.prog (envOf (L_rc j r)) := env_cons (ok_rtY ok_rtp r) (env_cons (ok_arN j) hE_rw)
abbrev L_rq (j : Nat) : List (FuncId × Spec) := (58, e_arN j) :: L_rw
theorem hE_rq (j : Nat) : ESound Tryd.prog (envOf (L_rq j)) := env_cons (ok_rarN j) hE_rw
abbrev cB (zs : List Int) : ABlk := ⟨true, false, .cells (zs.map fun z => vi z)⟩
abbrev oB (zs : List Int) : ABlk := ⟨true, true, .col (.ints .i64 zs)⟩
theorem rc_no (k a b c d : Int) : F_ Tryd.prog (L_rc 0 false) Tryd.f64 [] [] 99 [.agg [vi k, vi a, vi b, vi c, vi d]] noMem = some (.ret (.val (.slice none 0 0)) ⟨[], 99⟩ (conj [rtB k a b c d == false])) := by kernel_rfl
theorem rc_0 (k a b c d : Int) : F_ Tryd.prog (L_rc 0 true) Tryd.f64 [] [3] 99 [.agg [vi k, vi a, vi b, vi c, vi d]] noMem = some (.ret (.sl true 3 1 0 1 1 (some 1)) ⟨[(3, some (cB [k]))], 99⟩ (conj [rtB k a b c d == true, recAr k == 0])) := by kernel_rfl
theorem rc_1 (k a b c d : Int) : F_ Tryd.prog (L_rc 1 true) Tryd.f64 [] [9] 99 [.agg [vi k, vi a, vi b, vi c, vi d]] noMem = some (.ret (.sl true 9 1 0 1 2 none) ⟨[(9, some (oB [k, a]))], 99⟩ (conj [rtB k a b c d == true, recAr k == 1])) := by kernel_rfl
theorem rc_2 (k a b c d : Int) : F_ Tryd.prog (L_rc 2 true) Tryd.f64 [] [9] 99 [.agg [vi k, vi a, vi b, vi c, vi d]] noMem = some (.ret (.sl true 9 1 0 1 3 none) ⟨[(9, some (oB [k, a, b]))], 99⟩ (conj [rtB k a b c d == true, recAr k == 2])) := by kernel_rfl
theorem rc_3 (k a b c d : Int) : F_ Tryd.prog (L_rc 3 true) Tryd.f64 [] [9] 99 [.agg [vi k, vi a, vi b, vi c, vi d]] noMem = some (.ret (.sl true 9 1 0 1 4 none) ⟨[(9, some (oB [k, a, b, c]))], 99⟩ (conj [rtB k a b c d == true, recAr k == 3])) := by kernel_rfl
theorem rc_4 (k a b c d : Int) : F_ Tryd.prog (L_rc 4 true) Tryd.f64 [] [9] 99 [.agg [vi k, vi a, vi b, vi c, vi d]] noMem = some (.ret (.sl true 9 1 0 1 5 none) ⟨[(9, some (oB [k, a, b, c, d]))], 99⟩ (conj [rtB k a b c d == true, recAr k == 4])) := by kernel_rfl
theorem rq_0 (k a b c d : Int) : F_ Tryd.prog (L_rq 0) Tryd.f41 [] [1] 99 [.agg [vi k, vi a, vi b, vi c, vi d]] noMem = some (.ret (.sl true 1 1 0 1 1 (some 1)) ⟨[(1, some (cB [k]))], 99⟩ (conj [recAr k == 0])) := by kernel_rfl
theorem rq_1 (k a b c d : Int) : F_ Tryd.prog (L_rq 1) Tryd.f41 [] [3] 99 [.agg [vi k, vi a, vi b, vi c, vi d]] noMem = some (.ret (.sl true 3 1 0 1 2 none) ⟨[(3, some (oB [k, a]))], 99⟩ (conj [recAr k == 1, recAr k == 1])) := by kernel_rfl
theorem rq_2 (k a b c d : Int) : F_ Tryd.prog (L_rq 2) Tryd.f41 [] [5] 99 [.agg [vi k, vi a, vi b, vi c, vi d]] noMem = some (.ret (.sl true 5 1 0 1 3 none) ⟨[(5, some (oB [k, a, b]))], 99⟩ (conj [recAr k == 2, recAr k == 2, recAr k == 2])) := by kernel_rfl
theorem rq_3 (k a b c d : Int) : F_ Tryd.prog (L_rq 3) Tryd.f41 [] [7] 99 [.agg [vi k, vi a, vi b, vi c, vi d]] noMem = some (.ret (.sl true 7 1 0 1 4 none) ⟨[(7, some (oB [k, a, b, c]))], 99⟩ (conj [recAr k == 3, recAr k == 3, recAr k == 3, recAr k == 3])) := by kernel_rfl
theorem rq_4 (k a b c d : Int) : F_ Tryd.prog (L_rq 4) Tryd.f41 [] [9] 99 [.agg [vi k, vi a, vi b, vi c, vi d]] noMem = some (.ret (.sl true 9 1 0 1 5 none) ⟨[(9, some (oB [k, a, b, c, d]))], 99⟩ (conj [recAr k == 4, recAr k == 4, recAr k == 4, recAr k == 4, recAr k == 4])) := by kernel_rfl
/-- The record of a call; of one that may not be: nothing. -/
def recV (k a b c d : Int) : List Int := bif rtB k a b c d then k :: [a, b, c, d].take (recAr k).toNat else []
def e_rec : Spec := fun m args => match args with
  | [.agg [.val (.int .i64 k), .val (.int .i64 a), .val (.int .i64 b), .val (.int .i64 c), .val (.int .i64 d)]] => some (.sl false m.nx 1 0 1 (recV k a b c d).length none, some ⟨(m.nx, some ⟨false, false, .col (.ints .i64 (recV k a b c d))⟩) :: m.bl, m.nx + 1⟩, [])
  | _ => none
def e_rrec : Spec := fun m args => match args with
  | [.agg [.val (.int .i64 k), .val (.int .i64 a), .val (.int .i64 b), .val (.int .i64 c), .val (.int .i64 d)]] => some (.sl false m.nx 1 0 1 (recV k a b c d).length none, some ⟨(m.nx, some ⟨true, false, .col (.ints .i64 (recV k a b c d))⟩) :: m.bl, m.nx + 1⟩, [rtB k a b c d])
  | _ => none
theorem rec_sim {m : MS} {k a b c d : Int} (ρ : Rho) (w : World) (xs : List Value) (_ : MRel ρ m w) (hx : AV.rels ρ m.nx [.agg [vi k, vi a, vi b, vi c, vi d]] xs) : ∃ ρ1, MRel ρ1 noMem w ∧ AV.rels ρ1 noMem.nx [.agg [vi k, vi a, vi b, vi c, vi d]] xs := ⟨ρ, mrel_none, AV.grounds_rels _ _ rfl hx⟩
theorem ok_rec : SpecOk Tryd.prog 64 e_rec := fun m args v mo bs h hb => by
  unfold e_rec at h
  split at h <;> try cases h
  rename_i k a b c d
  clear hb
  have fin : ∀ {j : Nat} {r : Bool} {v : AV} {m' : MS} {ns : List Nat}, F_ Tryd.prog (L_rc j r) Tryd.f64 [] ns 99 [.agg [vi k, vi a, vi b, vi c, vi d]] noMem = some (.ret v m' true) → FSound Tryd.prog 64 noMem [.agg [vi k, vi a, vi b, vi c, vi d]] v m' := fun {j r v m' ns} h => fsound (c := bodyOf Tryd.f64) (fun xs w => Tryd.call64 xs w) Tryd.func64 rfl (F_ret (hE_rc j r) mixed rfl rfl h)
  refine lift_list rfl rfl rfl rec_sim ?_
  unfold recV
  cases hr : rtB k a b c d with
  | false =>
    refine .inl ⟨rfl, fun r c' a' ha => ?_, _, fin (j := 0) (r := false) (ns := []) (by rw [rc_no, hr]; rfl)⟩
    cases c' <;> simp [Cont.at, Col.at] at ha
  | true =>
    obtain ⟨n, rfl, hn, j, hj, hj5⟩ := rtB_in hr
    rw [hj, cond_true, show (Int.ofNat j).toNat = j from rfl]
    match j, hj5 with
    | 0, _ => exact .inr ⟨_, _, _, _, _, _, rfl, says_ints (zs := [(n : Int)]), fin (by rw [rc_0, hr, hj]; rfl)⟩
    | 1, _ => exact .inr ⟨_, _, _, _, _, _, rfl, says_self rfl, fin (by rw [rc_1, hr, hj]; rfl)⟩
    | 2, _ => exact .inr ⟨_, _, _, _, _, _, rfl, says_self rfl, fin (by rw [rc_2, hr, hj]; rfl)⟩
    | 3, _ => exact .inr ⟨_, _, _, _, _, _, rfl, says_self rfl, fin (by rw [rc_3, hr, hj]; rfl)⟩
    | 4, _ => exact .inr ⟨_, _, _, _, _, _, rfl, says_self rfl, fin (by rw [rc_4, hr, hj]; rfl)⟩
theorem ok_rrec : SpecOk Tryd.prog 41 e_rrec := fun m args v mo bs h hb => by
  unfold e_rrec at h
  split at h <;> try cases h
  rename_i k a b c d
  have hr : rtB k a b c d = true := by simpa using hb
  clear hb
  have fin : ∀ {j : Nat} {v : AV} {m' : MS} {ns : List Nat}, F_ Tryd.prog (L_rq j) Tryd.f41 [] ns 99 [.agg [vi k, vi a, vi b, vi c, vi d]] noMem = some (.ret v m' true) → FSound Tryd.prog 41 noMem [.agg [vi k, vi a, vi b, vi c, vi d]] v m' := fun {j v m' ns} h => fsound (c := bodyOf Tryd.f41) (fun xs w => Tryd.call41 xs w) Tryd.func41 rfl (F_ret (hE_rq j) mixed rfl rfl h)
  refine lift_listW rfl rfl rfl (by unfold recV; rw [hr, cond_true]; exact Nat.succ_pos _) rec_sim ?_
  unfold recV
  rw [hr]
  obtain ⟨n, rfl, hn, j, hj, hj5⟩ := rtB_in hr
  rw [hj, cond_true, show (Int.ofNat j).toNat = j from rfl]
  match j, hj5 with
  | 0, _ => exact ⟨_, _, _, _, _, _, rfl, says_ints (zs := [(n : Int)]), fin (by rw [rq_0, hj]; rfl)⟩
  | 1, _ => exact ⟨_, _, _, _, _, _, rfl, says_self rfl, fin (by rw [rq_1, hj]; rfl)⟩
  | 2, _ => exact ⟨_, _, _, _, _, _, rfl, says_self rfl, fin (by rw [rq_2, hj]; rfl)⟩
  | 3, _ => exact ⟨_, _, _, _, _, _, rfl, says_self rfl, fin (by rw [rq_3, hj]; rfl)⟩
  | 4, _ => exact ⟨_, _, _, _, _, _, rfl, says_self rfl, fin (by rw [rq_4, hj]; rfl)⟩
end Go.Proofs.YtpmcflidggofkaaDoor

namespace Go.Proofs.YtpmcflidggofkaaDoor
open Go Go.Shelf
def Tryd.lays143_ren : Ren :=
{
  f := fun x =>
    match x with
    | 143 => 78
    | 219 => 84
    | 217 => 87
    | 225 => 88
    | 224 => 89
    | 267 => 90
    | 266 => 91
    | 314 => 92
    | n => n,
  t := fun x =>
    match x with
    | 9 => 9
    | 3 => 3
    | 4 => 4
    | 5 => 5
    | 46 => 140
    | 146 => 146
    | 51 => 145
    | n => n,
  g := fun x =>
    match x with
    | 1 => 0
    | n => n }
theorem Tryd.lays143 : Lays.n143 Tryd.prog Tryd.lays143_ren :=
{ mixed := by kernel_rfl, f143 := (Tryd.func78).trans (congrArg some (by kernel_rfl)),
  f217 := (Tryd.func87).trans (congrArg some (by kernel_rfl)),
  f219 := (Tryd.func84).trans (congrArg some (by kernel_rfl)),
  f224 := (Tryd.func89).trans (congrArg some (by kernel_rfl)),
  f225 := (Tryd.func88).trans (congrArg some (by kernel_rfl)),
  f266 := (Tryd.func91).trans (congrArg some (by kernel_rfl)),
  f267 := (Tryd.func90).trans (congrArg some (by kernel_rfl)),
  f314 := (Tryd.func92).trans (congrArg some (by kernel_rfl)), t3 := Tryd.underlying3,
  a3 := Tryd.isAgg3, z3 := Tryd.sizeOf3, v3 := Tryd.zeroValue3, t4 := Tryd.underlying4, a4 := Tryd.isAgg4,
  z4 := Tryd.sizeOf4, v4 := Tryd.zeroValue4, t5 := Tryd.underlying5, a5 := Tryd.isAgg5, z5 := Tryd.sizeOf5,
  v5 := Tryd.zeroValue5, t9 := Tryd.underlying9, a9 := Tryd.isAgg9, z9 := Tryd.sizeOf9, v9 := Tryd.zeroValue9,
  t46 := Tryd.underlying140, a46 := Tryd.isAgg140, z46 := Tryd.sizeOf140, v46 := Tryd.zeroValue140,
  t51 := Tryd.underlying145, a51 := Tryd.isAgg145, z51 := Tryd.sizeOf145, v51 := Tryd.zeroValue145,
  t146 := Tryd.underlying146, a146 := Tryd.isAgg146, z146 := Tryd.sizeOf146, v146 := Tryd.zeroValue146,
  g1 := by kernel_rfl }
end Go.Proofs.YtpmcflidggofkaaDoor

namespace Go.Proofs.YtpmcflidggofkaaDoor
open Go Go.RowKit Go.Shelf
set_option maxRecDepth 100000
def idxI (s sub : ByteArray) : Int := Lib.index s.data.toList sub.data.toList
def e_idx : Spec := fun m args => match args with
  | [.val (.string s), .val (.string sub)] => match isMl m with
    | true => some (vi (idxI s sub), none, [Nat.blt s.size 4294967281])
    | false => none
  | _ => none
theorem ok_idx : SpecOk Tryd.prog 78 e_idx := fun m args v mo bs h hb => by
  unfold e_idx at h
  split at h <;> try cases h
  rename_i s sub
  split at h <;> try cases h
  rename_i hm0
  obtain ⟨l, x, wr, op, hl⟩ := isMl_sim hm0
  simp only [List.all_cons, List.all_nil, id, Bool.and_true, Nat.blt_eq] at hb
  intro ρ w xs hm hx
  simp only [AV.rels, AV.rel] at hx
  obtain ⟨_, _, rfl, rfl, _, _, rfl, rfl, rfl⟩ := hx
  obtain ⟨_, hok⟩ := hm.blk l _ hl
  obtain ⟨hib, ho, cs, ty, fz, hc, hat⟩ := hok.obj _ rfl
  have hmx : w.cell? ⟨0, 0, none⟩ = some (.int .i64 x) := by
    simp only [World.cell?, hc]
    exact hat 0 _ rfl
  refine .inl ⟨78, Tryd.call78 _ w, Calls.mono (Any.strings_Index Tryd.lays143 s sub x w hb hmx) ?_⟩
  rintro e w' ⟨rfl, rfl⟩
  exact ⟨_, rfl, ρ, by simp only [AV.rel]; rfl, hm, Moves.refl (Nat.le_refl _)⟩
end Go.Proofs.YtpmcflidggofkaaDoor

namespace Go.Proofs.YtpmcflidggofkaaDoor
open Go Go.RowKit
def hex1 : ByteArray := ⟨#[48, 48, 48, 48, 48, 48, 48, 48, 48, 48, 48, 48, 48, 48, 102, 102]⟩
def e_hx1 : Spec := fun _ args => match args with
  | [.val (.int .u64 255)] => some (vs hex1, none, [])
  | _ => none
theorem ok_hx1 : SpecOk Tryd.prog 46 e_hx1 := fun m args v mo bs h hb => by
  unfold e_hx1 at h
  split at h
  · cases h
    have t : F_ Tryd.prog [] Tryd.f46 [] [] 9999 [vu 255] noMem = some (.ret (vs hex1) ⟨[], 9999⟩ true) := by kernel_rfl
    exact lift_ground (fsound (c := bodyOf Tryd.f46) (fun xs w => Tryd.call46 xs w) Tryd.func46 rfl (F_ret env_nil mixed rfl rfl t)) rfl rfl
  · cases h
def L_dn : List (FuncId × Spec) := (46, e_hx1) :: (44, e_read) :: (52, e_rfr) :: L_strings_TrimPrefix
theorem hE_dn : ESound Tryd.prog (envOf L_dn) := env_cons ok_hx1 (env_cons ok_read (env_cons ok_rfr hE_strings_TrimPrefix))
end Go.Proofs.YtpmcflidggofkaaDoor

namespace Go.Proofs.YtpmcflidggofkaaDoor
open Go Go.RowKit
def s_haymowlaw03_awake : AV := AV.val (Value.bool true)
theorem t_haymowlaw03_awake : F_ Tryd.prog L_dn Tryd.f11 [] [] 99 [] noMem = some (.ret (s_haymowlaw03_awake) { bl := [], nx := 99 } true) := by kernel_rfl
def e_haymowlaw03_awake : Spec := fun _ args => match args with
  | [] => some (s_haymowlaw03_awake , none, [])
  | _ => none
theorem ok_haymowlaw03_awake : SpecOk Tryd.prog 11 e_haymowlaw03_awake := fun m args v mo bs h hb => by
  unfold e_haymowlaw03_awake at h
  split at h
  · cases h
    exact pure_fn (c := bodyOf Tryd.f11) hE_dn mixed (fun xs w => Tryd.call11 xs w) Tryd.func11 rfl (t_haymowlaw03_awake) rfl rfl
  · cases h
def L_haymowlaw03_awake : List (FuncId × Spec) := (11, e_haymowlaw03_awake) :: L_dn
theorem hE_haymowlaw03_awake : ESound Tryd.prog (envOf L_haymowlaw03_awake) := env_cons ok_haymowlaw03_awake hE_dn
end Go.Proofs.YtpmcflidggofkaaDoor

namespace Go.Proofs.YtpmcflidggofkaaDoor
open Go Go.RowKit
def control_Right_0 (c_0 : Int) (c_1 : Int) (c_2 : Int) (c_3 : Int) (c_4 : Int) : Bool := bif bif decide (c_0 < 16) then true else decide (1048576 < c_0) then false else bif bif decide (c_1 < 0) then true else decide (c_0 < c_1) then false else bif decide (0 ≤ c_4) then decide (c_4 ≤ 16) else false
def s_control_Right (c_0 : Int) (c_1 : Int) (c_2 : Int) (c_3 : Int) (c_4 : Int) : AV := AV.val (Value.bool (control_Right_0 c_0 c_1 c_2 c_3 c_4))
theorem t_control_Right (c_0 : Int) (c_1 : Int) (c_2 : Int) (c_3 : Int) (c_4 : Int) : F_ Tryd.prog L_haymowlaw03_awake Tryd.f62 [] [] 99 [AV.agg [AV.val (Value.int IntKind.i64 c_0), AV.val (Value.int IntKind.i64 c_1), AV.val (Value.int IntKind.i64 c_2), AV.val (Value.int IntKind.i64 c_3), AV.val (Value.int IntKind.i64 c_4)]] noMem = some (.ret (s_control_Right c_0 c_1 c_2 c_3 c_4) { bl := [], nx := 99 } true) := by
  have h : F_ Tryd.prog L_haymowlaw03_awake Tryd.f62 [] [] 99 [AV.agg [AV.val (Value.int IntKind.i64 c_0), AV.val (Value.int IntKind.i64 c_1), AV.val (Value.int IntKind.i64 c_2), AV.val (Value.int IntKind.i64 c_3), AV.val (Value.int IntKind.i64 c_4)]] noMem = bif bif decide (c_0 < 16) then true else decide (1048576 < c_0) then some (Fin_.ret (AV.val (Value.bool false)) { bl := [], nx := 99 } true) else bif bif decide (c_1 < 0) then true else decide (c_0 < c_1) then some (Fin_.ret (AV.val (Value.bool false)) { bl := [], nx := 99 } true) else some (Fin_.ret (AV.val (Value.bool (bif decide (0 ≤ c_4) then decide (c_4 ≤ 16) else false))) { bl := [], nx := 99 } true) := by kernel_rfl
  rw [h]
  clear h
  unfold s_control_Right control_Right_0
  generalize (bif decide (c_1 < 0) then true else decide (c_0 < c_1)) = b0_
  generalize (bif decide (c_0 < 16) then true else decide (1048576 < c_0)) = b1_
  cases b1_
  ·
    cases b0_
    ·
      rfl
    ·
      rfl
  ·
    rfl
def e_control_Right : Spec := fun _ args => match args with
  | [.agg [.val (.int .i64 c_0), .val (.int .i64 c_1), .val (.int .i64 c_2), .val (.int .i64 c_3), .val (.int .i64 c_4)]] => some (s_control_Right c_0 c_1 c_2 c_3 c_4, none, [])
  | _ => none
theorem ok_control_Right : SpecOk Tryd.prog 62 e_control_Right := fun m args v mo bs h hb => by
  unfold e_control_Right at h
  split at h
  · cases h
    exact pure_fn (c := bodyOf Tryd.f62) hE_haymowlaw03_awake mixed (fun xs w => Tryd.call62 xs w) Tryd.func62 rfl (t_control_Right _ _ _ _ _) rfl rfl
  · cases h
def L_control_Right : List (FuncId × Spec) := (62, e_control_Right) :: L_haymowlaw03_awake
theorem hE_control_Right : ESound Tryd.prog (envOf L_control_Right) := env_cons ok_control_Right hE_haymowlaw03_awake
def haymowref26_Right_0 (c_0 : Int) (c_1 : Int) (c_2 : Int) (c_3 : Int) (c_4 : Int) : Bool := bif bif bif bif bif decide (16 ≤ c_0) then decide (c_0 ≤ 1048576) else false then decide (0 ≤ c_1) else false then decide (c_1 ≤ c_0) else false then decide (0 ≤ c_4) else false then decide (c_4 ≤ 16) else false
def s_haymowref26_Right (c_0 : Int) (c_1 : Int) (c_2 : Int) (c_3 : Int) (c_4 : Int) : AV := AV.val (Value.bool (haymowref26_Right_0 c_0 c_1 c_2 c_3 c_4))
theorem t_haymowref26_Right (c_0 : Int) (c_1 : Int) (c_2 : Int) (c_3 : Int) (c_4 : Int) : F_ Tryd.prog L_control_Right Tryd.f61 [] [] 99 [AV.agg [AV.val (Value.int IntKind.i64 c_0), AV.val (Value.int IntKind.i64 c_1), AV.val (Value.int IntKind.i64 c_2), AV.val (Value.int IntKind.i64 c_3), AV.val (Value.int IntKind.i64 c_4)]] noMem = some (.ret (s_haymowref26_Right c_0 c_1 c_2 c_3 c_4) { bl := [], nx := 99 } true) := by kernel_rfl
def e_haymowref26_Right : Spec := fun _ args => match args with
  | [.agg [.val (.int .i64 c_0), .val (.int .i64 c_1), .val (.int .i64 c_2), .val (.int .i64 c_3), .val (.int .i64 c_4)]] => some (s_haymowref26_Right c_0 c_1 c_2 c_3 c_4, none, [])
  | _ => none
theorem ok_haymowref26_Right : SpecOk Tryd.prog 61 e_haymowref26_Right := fun m args v mo bs h hb => by
  unfold e_haymowref26_Right at h
  split at h
  · cases h
    exact pure_fn (c := bodyOf Tryd.f61) hE_control_Right mixed (fun xs w => Tryd.call61 xs w) Tryd.func61 rfl (t_haymowref26_Right _ _ _ _ _) rfl rfl
  · cases h
def L_haymowref26_Right : List (FuncId × Spec) := (61, e_haymowref26_Right) :: L_control_Right
theorem hE_haymowref26_Right : ESound Tryd.prog (envOf L_haymowref26_Right) := env_cons ok_haymowref26_Right hE_control_Right
def config_Check_0 (c_0 : Int) (c_1 : Int) (c_2 : Int) (c_3 : Int) (c_4 : Int) : Int := bif !control_Right_0 c_0 c_1 c_2 c_3 c_4 then 42 else bif bif decide (c_2 < 2) then true else decide (64 < c_2) then 42 else bif bif decide (c_3 < 1) then true else decide (32 < c_3) then 42 else 0
def s_config_Check (c_0 : Int) (c_1 : Int) (c_2 : Int) (c_3 : Int) (c_4 : Int) : AV := AV.val (Value.int IntKind.i64 (config_Check_0 c_0 c_1 c_2 c_3 c_4))
theorem t_config_Check (c_0 : Int) (c_1 : Int) (c_2 : Int) (c_3 : Int) (c_4 : Int) : F_ Tryd.prog L_haymowref26_Right Tryd.f30 [] [] 99 [AV.agg [AV.val (Value.int IntKind.i64 c_0), AV.val (Value.int IntKind.i64 c_1), AV.val (Value.int IntKind.i64 c_2), AV.val (Value.int IntKind.i64 c_3), AV.val (Value.int IntKind.i64 c_4)]] noMem = some (.ret (s_config_Check c_0 c_1 c_2 c_3 c_4) { bl := [], nx := 99 } true) := by
  have h : F_ Tryd.prog L_haymowref26_Right Tryd.f30 [] [] 99 [AV.agg [AV.val (Value.int IntKind.i64 c_0), AV.val (Value.int IntKind.i64 c_1), AV.val (Value.int IntKind.i64 c_2), AV.val (Value.int IntKind.i64 c_3), AV.val (Value.int IntKind.i64 c_4)]] noMem = bif !control_Right_0 c_0 c_1 c_2 c_3 c_4 then some (Fin_.ret (AV.val (Value.int IntKind.i64 42)) { bl := [], nx := 99 } true) else bif bif decide (c_2 < 2) then true else decide (64 < c_2) then some (Fin_.ret (AV.val (Value.int IntKind.i64 42)) { bl := [], nx := 99 } true) else bif bif decide (c_3 < 1) then true else decide (32 < c_3) then some (Fin_.ret (AV.val (Value.int IntKind.i64 42)) { bl := [], nx := 99 } true) else some (Fin_.ret (AV.val (Value.int IntKind.i64 0)) { bl := [], nx := 99 } true) := by kernel_rfl
  rw [h]
  clear h
  unfold s_config_Check config_Check_0
  generalize (bif decide (c_3 < 1) then true else decide (32 < c_3)) = b0_
  generalize (bif decide (c_2 < 2) then true else decide (64 < c_2)) = b1_
  generalize (!control_Right_0 c_0 c_1 c_2 c_3 c_4) = b2_
  cases b2_
  ·
    cases b1_
    ·
      cases b0_
      ·
        rfl
      ·
        rfl
    ·
      rfl
  ·
    rfl
def e_config_Check : Spec := fun _ args => match args with
  | [.agg [.val (.int .i64 c_0), .val (.int .i64 c_1), .val (.int .i64 c_2), .val (.int .i64 c_3), .val (.int .i64 c_4)]] => some (s_config_Check c_0 c_1 c_2 c_3 c_4, none, [])
  | _ => none
theorem ok_config_Check : SpecOk Tryd.prog 30 e_config_Check := fun m args v mo bs h hb => by
  unfold e_config_Check at h
  split at h
  · cases h
    exact pure_fn (c := bodyOf Tryd.f30) hE_haymowref26_Right mixed (fun xs w => Tryd.call30 xs w) Tryd.func30 rfl (t_config_Check _ _ _ _ _) rfl rfl
  · cases h
def L_config_Check : List (FuncId × Spec) := (30, e_config_Check) :: L_haymowref26_Right
theorem hE_config_Check : ESound Tryd.prog (envOf L_config_Check) := env_cons ok_config_Check hE_haymowref26_Right
def haymowref32_Right_0 (c_0 : Int) (c_1 : Int) (c_2 : Int) (c_3 : Int) (c_4 : Int) : Bool := bif bif bif bif haymowref26_Right_0 c_0 c_1 c_2 c_3 c_4 then decide (2 ≤ c_2) else false then decide (c_2 ≤ 64) else false then decide (1 ≤ c_3) else false then decide (c_3 ≤ 32) else false
def s_haymowref32_Right (c_0 : Int) (c_1 : Int) (c_2 : Int) (c_3 : Int) (c_4 : Int) : AV := AV.val (Value.bool (haymowref32_Right_0 c_0 c_1 c_2 c_3 c_4))
theorem t_haymowref32_Right (c_0 : Int) (c_1 : Int) (c_2 : Int) (c_3 : Int) (c_4 : Int) : F_ Tryd.prog L_config_Check Tryd.f26 [] [] 99 [AV.agg [AV.val (Value.int IntKind.i64 c_0), AV.val (Value.int IntKind.i64 c_1), AV.val (Value.int IntKind.i64 c_2), AV.val (Value.int IntKind.i64 c_3), AV.val (Value.int IntKind.i64 c_4)]] noMem = some (.ret (s_haymowref32_Right c_0 c_1 c_2 c_3 c_4) { bl := [], nx := 99 } true) := by kernel_rfl
def e_haymowref32_Right : Spec := fun _ args => match args with
  | [.agg [.val (.int .i64 c_0), .val (.int .i64 c_1), .val (.int .i64 c_2), .val (.int .i64 c_3), .val (.int .i64 c_4)]] => some (s_haymowref32_Right c_0 c_1 c_2 c_3 c_4, none, [])
  | _ => none
theorem ok_haymowref32_Right : SpecOk Tryd.prog 26 e_haymowref32_Right := fun m args v mo bs h hb => by
  unfold e_haymowref32_Right at h
  split at h
  · cases h
    exact pure_fn (c := bodyOf Tryd.f26) hE_config_Check mixed (fun xs w => Tryd.call26 xs w) Tryd.func26 rfl (t_haymowref32_Right _ _ _ _ _) rfl rfl
  · cases h
def L_haymowref32_Right : List (FuncId × Spec) := (26, e_haymowref32_Right) :: L_config_Check
theorem hE_haymowref32_Right : ESound Tryd.prog (envOf L_haymowref32_Right) := env_cons ok_haymowref32_Right hE_config_Check
def config_Usual_0 (limit_ : Int) : Int := IntKind.i64.wrap (limit_.tdiv 4)
def s_config_Usual (limit_ : Int) : AV := AV.agg [AV.val (Value.int IntKind.i64 limit_), AV.val (Value.int IntKind.i64 (config_Usual_0 limit_)), AV.val (Value.int IntKind.i64 8), AV.val (Value.int IntKind.i64 16), AV.val (Value.int IntKind.i64 2)]
theorem t_config_Usual (limit_ : Int) : F_ Tryd.prog L_haymowref32_Right Tryd.f29 [] [] 99 [AV.val (Value.int IntKind.i64 limit_)] noMem = some (.ret (s_config_Usual limit_) { bl := [], nx := 99 } true) := by kernel_rfl
def e_config_Usual : Spec := fun _ args => match args with
  | [.val (.int .i64 limit_)] => some (s_config_Usual limit_, none, [])
  | _ => none
theorem ok_config_Usual : SpecOk Tryd.prog 29 e_config_Usual := fun m args v mo bs h hb => by
  unfold e_config_Usual at h
  split at h
  · cases h
    exact pure_fn (c := bodyOf Tryd.f29) hE_haymowref32_Right mixed (fun xs w => Tryd.call29 xs w) Tryd.func29 rfl (t_config_Usual _) rfl rfl
  · cases h
def L_config_Usual : List (FuncId × Spec) := (29, e_config_Usual) :: L_haymowref32_Right
theorem hE_config_Usual : ESound Tryd.prog (envOf L_config_Usual) := env_cons ok_config_Usual hE_haymowref32_Right
end Go.Proofs.YtpmcflidggofkaaDoor

namespace Go.Proofs.YtpmcflidggofkaaDoor
open Go Go.RowKit
theorem take_getD {xs : List Int} {n k : Nat} (h : k < n) : (xs.take n).getD k 0 = xs.getD k 0 := by
  simp [List.getD_eq_getElem?_getD, List.getElem?_take_of_lt h]
theorem sm_all2 (nn nn' : Bool) (n n' : Nat) (c c' : Option Nat) (xs ys : List Int) (hx : n ≤ xs.length) (hy : n' ≤ ys.length) (hn : n ≤ 9223372036854775807) :
    FSound Tryd.prog 16 (smM xs ys) [.sl nn 0 1 0 1 n c, .sl nn' 1 1 0 1 n' c'] (vb (sameL (xs.take n) (ys.take n'))) ⟨[], 99⟩ := by
  have hin := sm_in nn nn' n n' c c' xs ys
  have l1 : (xs.take n).length = n := by simp [Nat.min_eq_left hx]
  have l2 : (ys.take n').length = n' := by simp [Nat.min_eq_left hy]
  by_cases h : n = n'
  · subst h
    rw [show (Int.ofNat n != Int.ofNat n) = false by simp] at hin
    have e : sameL (xs.take n) (ys.take n) = smF xs ys 0 n := by
      rw [Bool.eq_iff_iff, smF_eq]
      unfold sameL
      rw [decide_eq_true_eq]
      constructor
      · intro g k _ hk
        rw [← take_getD (xs := xs) (n := n) (by omega), g, take_getD (by omega)]
      · intro g
        refine ext_getD0 (by rw [l1, l2]) fun k hk => ?_
        rw [l1] at hk
        rw [take_getD hk, take_getD hk]
        exact g k (by omega) (by omega)
    rw [e]
    exact fsound (c := bodyOf Tryd.f16) (fun xs w => Tryd.call16 xs w) Tryd.func16 rfl
      (Goes.gives (F_head (f := Tryd.f16) (c := bodyOf Tryd.f16) (cuts := smC) (ns := []) (top := 99) env_nil sm_mixed rfl rfl hin) (sm_loop nn nn' c c' xs ys n hx hy hn n 0 (by omega)))
  · rw [show (Int.ofNat n != Int.ofNat n') = true by simp; omega] at hin
    have e : sameL (xs.take n) (ys.take n') = false := decide_eq_false (fun g => h (by rw [← l1, ← l2, g]))
    rw [e]
    exact fsound (c := bodyOf Tryd.f16) (fun xs w => Tryd.call16 xs w) Tryd.func16 rfl (F_ret env_nil sm_mixed rfl rfl hin)
def e_same2 : Spec := fun m args => match args with
  | [.sl nn l 1 0 1 n c, .sl nn' l' 1 0 1 n' c'] => match look m.bl l, look m.bl l' with
    | some ⟨_, _, .col (.ints .i64 xs)⟩, some ⟨_, _, .col (.ints .i64 ys)⟩ => some (vb (sameL (xs.take n) (ys.take n')), none, [Nat.ble n xs.length, Nat.ble n' ys.length, Nat.ble n 9223372036854775807])
    | _, _ => none
  | _ => none
theorem ok_same2 : SpecOk Tryd.prog 16 e_same2 := fun m args v mo bs h hb => by
  unfold e_same2 at h
  split at h
  · rename_i nn l n c nn' l' n' c'
    split at h
    · rename_i wr op xs wr' op' ys hl hl'
      cases h
      simp only [List.all_cons, List.all_nil, id, Bool.and_eq_true, Bool.and_true] at hb
      exact lift_2 hl hl' rfl rfl (sm_all2 nn nn' n n' c c' xs ys (Nat.le_of_ble_eq_true hb.1) (Nat.le_of_ble_eq_true hb.2.1) (Nat.le_of_ble_eq_true hb.2.2)) rfl
    · cases h
  · cases h
theorem ok_sameC : SpecOk Tryd.prog 16 (orS e_same2 (inl Tryd.prog [] Tryd.f16)) := orS_ok ok_same2 (inl_ok (c := bodyOf Tryd.f16) env_nil sm_mixed (fun xs w => Tryd.call16 xs w) Tryd.func16 rfl)
end Go.Proofs.YtpmcflidggofkaaDoor

namespace Go.Proofs.YtpmcflidggofkaaDoor
open Go Go.RowKit
set_option maxRecDepth 100000
/-- Cells of numbers are a column. -/
theorem cells_col {k : IntKind} {zs : List Int} {ρ : Rho} {nx : Nat} {cell : Nat → Option Value} (h : (Cont.cells (zs.map fun z => .val (.int k z))).rel ρ nx cell) : (Cont.col (.ints k zs)).rel ρ nx cell := fun r c a ha => by
  cases c <;> simp only [Cont.at] at ha <;> try cases ha
  simp only [Col.at, Option.some.injEq, Prod.mk.injEq, decide_eq_true_eq] at ha
  obtain ⟨rfl, hlt⟩ := ha
  obtain ⟨_, x, h1, h2⟩ := h r 0 (.val (.int k (zs.getD r 0))) (by
    simp only [Cont.at, List.getElem?_map, List.getElem?_eq_getElem hlt, Option.map_some]
    rw [List.getD_eq_getElem?_getD, List.getElem?_eq_getElem hlt]; rfl)
  exact ⟨by simp [Cont.width], x, h1, h2⟩
theorem weak_col {P : Program} {f : FuncId} {m : MS} {args : List AV} {v : AV} {k top : Nat} {kd : IntKind} {zs : List Int} (h : FSound P f m args v ⟨[(k, some ⟨true, false, .cells (zs.map fun z => .val (.int kd z))⟩)], top⟩) :
    FSound P f m args v ⟨[(k, some ⟨true, false, .col (.ints kd zs)⟩)], top⟩ := by
  intro ρ w xs hm hx
  refine Went.mono (h ρ w xs hm hx) fun x w' ⟨ρ1, hr, hm1, mv⟩ => ?_
  obtain ⟨hk, hb⟩ := hm1.blk k _ (by rw [look_cons, if_pos rfl])
  have key : ∀ l b, look [(k, some (⟨true, false, .col (.ints kd zs)⟩ : ABlk))] l = some b → l = k ∧ b = ⟨true, false, .col (.ints kd zs)⟩ := fun l b hl => look_one hl
  refine ⟨ρ1, hr, ⟨fun l b hl => ?_, fun l b l' b' h1 h2 _ hne => ?_, fun l b l' b' h1 h2 _ hn => ?_⟩, ⟨mv.ext, mv.nx, mv.os, mv.tape, mv.output, mv.size, mv.keep, fun g ⟨l, b, h1, h2, h3⟩ => ?_⟩⟩
  · obtain ⟨rfl, rfl⟩ := key l b hl
    exact ⟨hk, .inl (hb.lt.resolve_right (wr_not_void rfl)), cells_col hb.rel, hb.free, (fun h => by cases h), (fun q h => by cases h)⟩
  · obtain ⟨rfl, rfl⟩ := key l b h1
    obtain ⟨rfl, rfl⟩ := key l' b' h2
    exact absurd rfl hne
  · obtain ⟨rfl, rfl⟩ := key l' b' h2
    cases hn
  · obtain ⟨rfl, rfl⟩ := key l b h1
    exact mv.fresh g ⟨l, ⟨true, false, .cells (zs.map fun z => .val (.int kd z))⟩, by rw [look_cons, if_pos rfl], rfl, h3⟩
theorem cl_run (a b c d e : Int) : F_ Tryd.prog [] Tryd.f31 [] [1] 99 [.agg [vi a, vi b, vi c, vi d, vi e]] noMem = some (.ret (.sl true 1 1 0 1 5 (some 5)) ⟨[(1, some ⟨true, false, .cells ([a, b, c, d, e].map fun z => .val (.int .i64 z))⟩)], 99⟩ true) := by kernel_rfl
theorem cr_run (a b c d e : Int) : F_ Tryd.prog [] Tryd.f32 [] [1] 99 [.agg [vi a, vi b, vi c, vi d, vi e]] noMem = some (.ret (.sl true 1 1 0 1 5 (some 5)) ⟨[(1, some ⟨true, false, .cells ([a, b, c, d, e].map fun z => .val (.int .i64 z))⟩)], 99⟩ true) := by kernel_rfl
def e_cl : Spec := fun m args => match args with
  | [.agg [.val (.int .i64 a), .val (.int .i64 b), .val (.int .i64 c), .val (.int .i64 d), .val (.int .i64 e)]] => some (.sl true m.nx 1 0 1 5 (some 5), some (m.new ⟨true, false, .col (.ints .i64 [a, b, c, d, e])⟩), [])
  | _ => none
theorem ok_cl : SpecOk Tryd.prog 31 e_cl := fun m args v mo bs h hb => by
  unfold e_cl at h
  split at h
  · cases h
    exact lift_fresh (weak_col (fsound (c := bodyOf Tryd.f31) (fun xs w => Tryd.call31 xs w) Tryd.func31 rfl (F_ret env_nil mixedD rfl rfl (cl_run _ _ _ _ _)))) rfl rfl rfl
  · cases h
theorem ok_cr : SpecOk Tryd.prog 32 e_cl := fun m args v mo bs h hb => by
  unfold e_cl at h
  split at h
  · cases h
    exact lift_fresh (weak_col (fsound (c := bodyOf Tryd.f32) (fun xs w => Tryd.call32 xs w) Tryd.func32 rfl (F_ret env_nil mixedD rfl rfl (cr_run _ _ _ _ _)))) rfl rfl rfl
  · cases h
-- from numbers
def ckL (zs : List Int) : Int := config_Check_0 (zs.getD 0 0) (zs.getD 1 0) (zs.getD 2 0) (zs.getD 3 0) (zs.getD 4 0)
def cfG (zs : List Int) (n k : Nat) : Int := bif Int.ofNat n != 5 then 0 else bif ckL zs != 0 then 0 else zs.getD k 0
def cfE (zs : List Int) (n : Nat) : Int := bif Int.ofNat n != 5 then 41 else ckL zs
theorem ck_eq (a b c d e : Int) : config_Check_0 a b c d e = bif haymowref32_Right_0 a b c d e then 0 else 42 := by
  unfold config_Check_0 haymowref32_Right_0 control_Right_0 haymowref26_Right_0
  by_cases h1 : 16 ≤ a
  case neg => rw [decide_eq_true (show a < 16 by omega), decide_eq_false h1]; rfl
  rw [decide_eq_false (show ¬ a < 16 by omega), decide_eq_true h1]
  by_cases h2 : a ≤ 1048576
  case neg => rw [decide_eq_true (show 1048576 < a by omega), decide_eq_false h2]; rfl
  rw [decide_eq_false (show ¬ 1048576 < a by omega), decide_eq_true h2]
  by_cases h3 : 0 ≤ b
  case neg => rw [decide_eq_true (show b < 0 by omega), decide_eq_false h3]; rfl
  rw [decide_eq_false (show ¬ b < 0 by omega), decide_eq_true h3]
  by_cases h4 : b ≤ a
  case neg => rw [decide_eq_true (show a < b by omega), decide_eq_false h4]; rfl
  rw [decide_eq_false (show ¬ a < b by omega), decide_eq_true h4]
  cases decide (0 ≤ e)
  case false => rfl
  cases decide (e ≤ 16)
  case false => rfl
  by_cases h5 : 2 ≤ c
  case neg => rw [decide_eq_true (show c < 2 by omega), decide_eq_false h5]; rfl
  rw [decide_eq_false (show ¬ c < 2 by omega), decide_eq_true h5]
  by_cases h6 : c ≤ 64
  case neg => rw [decide_eq_true (show 64 < c by omega), decide_eq_false h6]; rfl
  rw [decide_eq_false (show ¬ 64 < c by omega), decide_eq_true h6]
  by_cases h7 : 1 ≤ d
  case neg => rw [decide_eq_true (show d < 1 by omega), decide_eq_false h7]; rfl
  rw [decide_eq_false (show ¬ d < 1 by omega), decide_eq_true h7]
  by_cases h8 : d ≤ 32
  case neg => rw [decide_eq_true (show 32 < d by omega), decide_eq_false h8]; rfl
  rw [decide_eq_false (show ¬ 32 < d by omega), decide_eq_true h8]
  rfl
abbrev cfO (zs : List Int) (n : Nat) : List Bool := [decide (0 < n), decide (0 < zs.length), decide (1 < n), decide (1 < zs.length), decide (2 < n), decide (2 < zs.length), decide (3 < n), decide (3 < zs.length), decide (4 < n), decide (4 < zs.length)]
abbrev cfV (zs : List Int) (n : Nat) : AV := .tup [.agg [vi (cfG zs n 0), vi (cfG zs n 1), vi (cfG zs n 2), vi (cfG zs n 3), vi (cfG zs n 4)], vi (cfE zs n)]
theorem cf_run (nn : Bool) (n : Nat) (c : Option Nat) (zs : List Int) : F_ Tryd.prog L_config_Usual Tryd.f27 [] [] 99 [.sl nn 0 1 0 1 n c] ⟨[dlA zs], 1⟩ =
    bif Int.ofNat n != 5 then some (.ret (.tup [.agg [vi 0, vi 0, vi 0, vi 0, vi 0], vi 41]) ⟨[], 99⟩ true)
    else bif ckL zs != 0 then some (.ret (.tup [.agg [vi 0, vi 0, vi 0, vi 0, vi 0], vi (ckL zs)]) ⟨[], 99⟩ (conj (cfO zs n)))
    else some (.ret (.tup [.agg [vi (zs.getD 0 0), vi (zs.getD 1 0), vi (zs.getD 2 0), vi (zs.getD 3 0), vi (zs.getD 4 0)], vi 0]) ⟨[], 99⟩ (conj (cfO zs n))) := by kernel_rfl
theorem rf_run (nn : Bool) (n : Nat) (c : Option Nat) (zs : List Int) : F_ Tryd.prog L_config_Usual Tryd.f28 [] [] 99 [.sl nn 0 1 0 1 n c] ⟨[dlA zs], 1⟩ =
    bif Int.ofNat n != 5 then some (.ret (.tup [.agg [vi 0, vi 0, vi 0, vi 0, vi 0], vi 41]) ⟨[], 99⟩ true)
    else bif !haymowref32_Right_0 (zs.getD 0 0) (zs.getD 1 0) (zs.getD 2 0) (zs.getD 3 0) (zs.getD 4 0) then some (.ret (.tup [.agg [vi 0, vi 0, vi 0, vi 0, vi 0], vi 42]) ⟨[], 99⟩ (conj (cfO zs n)))
    else some (.ret (.tup [.agg [vi (zs.getD 0 0), vi (zs.getD 1 0), vi (zs.getD 2 0), vi (zs.getD 3 0), vi (zs.getD 4 0)], vi 0]) ⟨[], 99⟩ (conj (cfO zs n))) := by kernel_rfl
theorem cfO_ok {zs : List Int} {n : Nat} (hn : n ≤ zs.length) (h5 : (Int.ofNat n != 5) = false) : conj (cfO zs n) = true := by
  have h : n = 5 := by
    have := bne_eq_false_iff_eq.1 h5
    have : (n : Int) = 5 := this
    omega
  subst h
  simp only [cfO, conj, Bool.and_eq_true, decide_eq_true_eq]
  exact ⟨by omega, by omega, by omega, by omega, by omega, by omega, by omega, by omega, by omega, by omega, trivial⟩
theorem cf_all (nn : Bool) (n : Nat) (c : Option Nat) (zs : List Int) (hn : n ≤ zs.length) : F_ Tryd.prog L_config_Usual Tryd.f27 [] [] 99 [.sl nn 0 1 0 1 n c] ⟨[dlA zs], 1⟩ = some (.ret (cfV zs n) ⟨[], 99⟩ true) := by
  rw [cf_run]
  unfold cfV cfG cfE
  cases h5 : (Int.ofNat n != 5) with
  | true => rfl
  | false =>
    rw [cfO_ok hn h5]
    cases hc : (ckL zs != 0) with
    | true => rfl
    | false => rw [bne_eq_false_iff_eq.1 hc]; rfl
theorem rf_all (nn : Bool) (n : Nat) (c : Option Nat) (zs : List Int) (hn : n ≤ zs.length) : F_ Tryd.prog L_config_Usual Tryd.f28 [] [] 99 [.sl nn 0 1 0 1 n c] ⟨[dlA zs], 1⟩ = some (.ret (cfV zs n) ⟨[], 99⟩ true) := by
  rw [rf_run]
  unfold cfV cfG cfE
  cases h5 : (Int.ofNat n != 5) with
  | true => rfl
  | false =>
    rw [cfO_ok hn h5]
    unfold ckL
    rw [ck_eq]
    cases haymowref32_Right_0 (zs.getD 0 0) (zs.getD 1 0) (zs.getD 2 0) (zs.getD 3 0) (zs.getD 4 0) <;> rfl
def e_cf : Spec := fun m args => match args with
  | [.sl _ l 1 0 1 n _] => match look m.bl l with
    | some ⟨_, _, .col (.ints .i64 zs)⟩ => some (cfV zs n, none, [Nat.ble n zs.length])
    | _ => none
  | _ => none
theorem ok_cf : SpecOk Tryd.prog 27 e_cf := fun m args v mo bs h hb => by
  unfold e_cf at h
  split at h
  · rename_i nn l n c
    split at h
    · rename_i wr op zs hl
      cases h
      simp only [List.all_cons, List.all_nil, id, Bool.and_true] at hb
      exact lift_one (ar := []) (br := []) hl rfl (fsound (c := bodyOf Tryd.f27) (fun xs w => Tryd.call27 xs w) Tryd.func27 rfl (F_ret hE_config_Usual mixedD rfl rfl (cf_all nn n c zs (Nat.le_of_ble_eq_true hb)))) rfl rfl rfl rfl
    · cases h
  · cases h
theorem ok_rf : SpecOk Tryd.prog 28 e_cf := fun m args v mo bs h hb => by
  unfold e_cf at h
  split at h
  · rename_i nn l n c
    split at h
    · rename_i wr op zs hl
      cases h
      simp only [List.all_cons, List.all_nil, id, Bool.and_true] at hb
      exact lift_one (ar := []) (br := []) hl rfl (fsound (c := bodyOf Tryd.f28) (fun xs w => Tryd.call28 xs w) Tryd.func28 rfl (F_ret hE_config_Usual mixedD rfl rfl (rf_all nn n c zs (Nat.le_of_ble_eq_true hb)))) rfl rfl rfl rfl
    · cases h
  · cases h
-- from a text
def cpG (s : ByteArray) (k : Nat) : Int := bif (rlV s).2 != 0 then 0 else cfG (rlV s).1 (rlV s).1.length k
def cpE (s : ByteArray) : Int := bif (rlV s).2 != 0 then (rlV s).2 else cfE (rlV s).1 (rlV s).1.length
abbrev cpV (s : ByteArray) : AV := .tup [.agg [vi (cpG s 0), vi (cpG s 1), vi (cpG s 2), vi (cpG s 3), vi (cpG s 4)], vi (cpE s)]
abbrev L_cp : List (FuncId × Spec) := [(13, e_rl), (27, e_cf)]
theorem hE_cp : ESound Tryd.prog (envOf L_cp) := env_cons ok_rl (env_cons ok_cf env_nil)
abbrev L_rp : List (FuncId × Spec) := [(14, e_rr), (28, e_cf)]
theorem hE_rp : ESound Tryd.prog (envOf L_rp) := env_cons ok_rr (env_cons ok_rf env_nil)
theorem cp_run (x : Int) (s : ByteArray) : F_ Tryd.prog L_cp Tryd.f24 [] [] 99 [vs s] (mlM [x]) =
    bif (rlV s).2 != 0 then some (.ret (.tup [.agg [vi 0, vi 0, vi 0, vi 0, vi 0], vi (rlV s).2]) ⟨[], 99⟩ (conj [Nat.blt s.size 4294967281]))
    else some (.ret (cfV (rlV s).1 (rlV s).1.length) ⟨[], 99⟩ (conj [Nat.blt s.size 4294967281, Nat.ble (rlV s).1.length (rlV s).1.length])) := by kernel_rfl
theorem rp_run (s : ByteArray) : F_ Tryd.prog L_rp Tryd.f25 [] [] 99 [vs s] noMem =
    bif (rrV s).2 != 0 then some (.ret (.tup [.agg [vi 0, vi 0, vi 0, vi 0, vi 0], vi (rrV s).2]) ⟨[], 99⟩ (conj [Nat.ble s.size 4294967296]))
    else some (.ret (cfV (rrV s).1 (rrV s).1.length) ⟨[], 99⟩ (conj [Nat.ble s.size 4294967296, Nat.ble (rrV s).1.length (rrV s).1.length])) := by kernel_rfl
theorem cp_all (x : Int) (s : ByteArray) (hs : s.size < 4294967281) : F_ Tryd.prog L_cp Tryd.f24 [] [] 99 [vs s] (mlM [x]) = some (.ret (cpV s) ⟨[], 99⟩ true) := by
  rw [cp_run, show Nat.blt s.size 4294967281 = true by rw [Nat.blt_eq]; exact hs, Nat.ble_eq_true_of_le (Nat.le_refl _)]
  unfold cpV cpG cpE
  cases (rlV s).2 != 0 <;> rfl
theorem rp_all (s : ByteArray) (hs : s.size < 4294967281) : F_ Tryd.prog L_rp Tryd.f25 [] [] 99 [vs s] noMem = some (.ret (cpV s) ⟨[], 99⟩ true) := by
  rw [rp_run, rrV_eq, Nat.ble_eq_true_of_le (show s.size ≤ 4294967296 by omega), Nat.ble_eq_true_of_le (Nat.le_refl _)]
  unfold cpV cpG cpE
  cases (rlV s).2 != 0 <;> rfl
def e_cp : Spec := fun m args => match args with
  | [.val (.string s)] => match isMl m with
    | true => some (cpV s, none, [Nat.blt s.size 4294967281])
    | false => none
  | _ => none
theorem ok_cp : SpecOk Tryd.prog 24 e_cp := fun m args v mo bs h hb => by
  unfold e_cp at h
  split at h <;> try cases h
  rename_i s
  split at h <;> try cases h
  rename_i hm
  obtain ⟨l, x, wr, op, hl⟩ := isMl_sim hm
  simp only [List.all_cons, List.all_nil, id, Bool.and_true, Nat.blt_eq] at hb
  refine lift_pure (m1 := mlM [x]) (args1 := [vs s]) (fsound (c := bodyOf Tryd.f24) (fun xs w => Tryd.call24 xs w) Tryd.func24 rfl (F_ret hE_cp mixedD rfl rfl (cp_all x s hb))) rfl rfl fun ρ w xs hm hx => ?_
  refine ⟨fun _ => ρ l, mrel_one (hm.view hl rfl _ _), ?_⟩
  simp only [AV.rels, AV.rel] at hx ⊢
  exact hx
def e_rp : Spec := fun m args => match args with
  | [.val (.string s)] => some (cpV s, none, [Nat.blt s.size 4294967281])
  | _ => none
theorem ok_rp : SpecOk Tryd.prog 25 e_rp := fun m args v mo bs h hb => by
  unfold e_rp at h
  split at h
  · cases h
    simp only [List.all_cons, List.all_nil, id, Bool.and_true, Nat.blt_eq] at hb
    exact pure_fn (c := bodyOf Tryd.f25) hE_rp mixedD (fun xs w => Tryd.call25 xs w) Tryd.func25 rfl (rp_all _ hb) rfl rfl
  · cases h
-- as text
abbrev L_ctx : List (FuncId × Spec) := [(31, e_cl), (12, e_list)]
theorem hE_ctx : ESound Tryd.prog (envOf L_ctx) := env_cons ok_cl (env_cons ok_list env_nil)
theorem ctx_run (a b c d e : Int) : F_ Tryd.prog L_ctx Tryd.f33 [] [] 99 [.agg [vi a, vi b, vi c, vi d, vi e]] noMem = some (.ret (vs (listT [a, b, c, d, e] 5)) ⟨[], 99⟩ (conj [inI [a, b, c, d, e]])) := by kernel_rfl
def e_ctx : Spec := fun _ args => match args with
  | [.agg [.val (.int .i64 a), .val (.int .i64 b), .val (.int .i64 c), .val (.int .i64 d), .val (.int .i64 e)]] => some (vs (listT [a, b, c, d, e] 5), none, [inI [a, b, c, d, e]])
  | _ => none
theorem ok_ctx : SpecOk Tryd.prog 33 e_ctx := fun m args v mo bs h hb => by
  unfold e_ctx at h
  split at h
  · rename_i a b c d e
    cases h
    simp only [List.all_cons, List.all_nil, id, Bool.and_true] at hb
    have hr := ctx_run a b c d e
    rw [hb] at hr
    exact pure_fn (c := bodyOf Tryd.f33) hE_ctx mixedD (fun xs w => Tryd.call33 xs w) Tryd.func33 rfl hr rfl rfl
  · cases h
end Go.Proofs.YtpmcflidggofkaaDoor

namespace Go.Proofs.YtpmcflidggofkaaDoor
open Go Go.RowKit
set_option maxRecDepth 100000
set_option maxHeartbeats 4000000
/-- The index is known. -/
def e_idxV (i : Int) : Spec := fun m args => match args with
  | [.val (.string s), .val (.string sub)] => match isMl m with
    | true => some (vi i, none, [Nat.blt s.size 4294967281, idxI s sub == i])
    | false => none
  | _ => none
theorem ok_idxV (i : Int) : SpecOk Tryd.prog 78 (e_idxV i) := fun m args v mo bs h hb => by
  unfold e_idxV at h
  split at h <;> try cases h
  rename_i s sub
  split at h <;> try cases h
  rename_i hm0
  obtain ⟨b1, b2⟩ := all_cons hb
  obtain ⟨b2, _⟩ := all_cons b2
  have h0 := ok_idx m [vs s, vs sub] (vi (idxI s sub)) none [Nat.blt s.size 4294967281] (by simp only [e_idx, hm0]) (by simp only [List.all_cons, b1]; rfl)
  rw [beq_iff_eq.1 b2] at h0
  exact h0
abbrev scL (i : Int) : List (FuncId × Spec) := [(24, e_cp), (18, e_rdl), (78, e_idxV i)]
theorem hE_scL (i : Int) : ESound Tryd.prog (envOf (scL i)) := env_cons ok_cp (env_cons ok_rdl (env_cons (ok_idxV i) env_nil))
abbrev scE1 (P : Program) (i : Int) (o0 : List Nat) : Env := envY (yieldE P (envOf (scL i)) o0) (scL i)
abbrev scE2 (P : Program) (i : Int) (o0 o1 : List Nat) : Env := envY (yieldE P (scE1 P i o0) o1) (scL i)
theorem hE_sc2 (i : Int) (o0 o1 : List Nat) : ESound Tryd.prog (scE2 Tryd.prog i o0 o1) := envY_okE (hE_scL i) (envY_okE (hE_scL i) (hE_scL i) mixed) mixed
abbrev tm0 : List AV := [.unk, .unk, .ptr 1 1 0 0, .ptr 2 1 0 0, .ptr 3 1 0 0, .ptr 4 1 0 0, .ptr 5 1 0 0, .unk, .unk, .unk, .unk, .unk, .unk, .unk, .clo 72 [] [.ptr 6 1 0 0]] ++ List.replicate 42 .unk
abbrev tm1 : List AV := [.unk, .unk, .ptr 8 1 0 0, .ptr 9 1 0 0, .unk, .unk, .clo 85 [] [.ptr 11 1 0 0, .ptr 10 1 0 0, .ptr 12 1 0 0]] ++ List.replicate 15 .unk
abbrev nl1 : ByteArray := ⟨#[10]⟩
abbrev gC (g : Nat → Int) : List AV := [vi (g 0), vi (g 1), vi (g 2), vi (g 3), vi (g 4)]
abbrev mA (t0 : List Item) (x n r2 r3 : Int) (g : Nat → Int) (so sl : AV) (bg : Bool) (s : ByteArray) (st : Nat) (pe : Option Code) : List (Nat × Option ABlk) :=
  [(0, some ⟨false, false, .obj (.glob 0 (.ints .i64 [x]))⟩), (1, some ⟨true, false, .cells [vi 0, vi 0, vi 0, vi 0, vi 0, nilV, nilV]⟩), (2, some ⟨true, false, .cells [vi r2]⟩), (3, some ⟨true, false, .cells [vi r3]⟩), (4, some ⟨true, false, .cells (gC g ++ [so, sl])⟩), (5, some ⟨true, false, .cells [vb bg]⟩),
    (6, some ⟨true, false, .cells [vs s]⟩), (7, lpB t0 st pe tm0), (8, some ⟨true, false, .cells [.yld 7]⟩), (9, some ⟨true, false, .cells [vi n]⟩)]
abbrev mR (rest : ByteArray) : List (Nat × Option ABlk) := [(10, some ⟨true, false, .cells [vs rest]⟩), (11, some ⟨true, false, .cells [vs nl1]⟩), (12, some ⟨true, false, .cells [vi 0]⟩)]
abbrev mL (t1 : List Item) (st : Nat) (pe : Option Code) (k1 k2 : Nat) (ob lb : Option ABlk) : List (Nat × Option ABlk) := [(13, lpB t1 st pe tm1), (k1, ob), (k2, lb)]
abbrev scT : List AV := [.yld 13, .ptr 11 1 0 0, .ptr 10 1 0 0, .ptr 12 1 0 0] ++ List.replicate 48 .unk
abbrev scV : List Nat := [0, 1, 2, 3]
abbrev scNm (k1 k2 : Nat) : List Nat := [0, 1, 2, 3, 4, 5, 6, 7, 8, 9, 10, 11, 12, 13, k1, k2]
abbrev scC (k1 k2 nx : Nat) : List Cut := [(0, scV, scNm k1 k2, nx), (1, scV, scNm k1 k2, nx), (2, scV, scNm k1 k2, nx), (3, scV, scNm k1 k2, nx)]
abbrev rowC (c : Nat → List Int) : Option ABlk := some ⟨true, true, .rows [.ints .i64 (c 0), .ints .i64 (c 1), .ints .i64 (c 2), .ints .i64 (c 3), .ints .i64 (c 4)]⟩
abbrev frI (i : Int) (r : ByteArray) : ByteArray := r.extract 0 (IntKind.i64.wrap (i + 0)).toNat
abbrev rsI (i : Int) (r : ByteArray) : ByteArray := r.extract (IntKind.i64.wrap (i + 1)).toNat r.size
abbrev skB (f : ByteArray) : Bool := bif f.toList == [] then true else byteAt f 0 == 35
abbrev oF (f : ByteArray) : List Bool := [!!(f.toList == []) || true, !!(f.toList == []) || decide (0 < f.size)]
abbrev oI (i : Int) (r : ByteArray) : List Bool := [Nat.blt r.size 4294967281, idxI r nl1 == i]
abbrev oS (i : Int) (r : ByteArray) : List Bool := [decide (0 ≤ IntKind.i64.wrap (i + 0)), decide (IntKind.i64.wrap (i + 0) ≤ Int.ofNat r.size)]
abbrev oE (i : Int) (r : ByteArray) : List Bool := [decide (0 ≤ IntKind.i64.wrap (i + 1)), decide (IntKind.i64.wrap (i + 1) ≤ Int.ofNat r.size), decide (Int.ofNat r.size ≤ Int.ofNat r.size)]
abbrev rcG (f : ByteArray) (k : Nat) : Int := (rcX (splitL f sp1)).1.getD k 0
abbrev rcEr (f : ByteArray) : Int := (rcX (splitL f sp1)).2
abbrev nx1 (n : Int) : Int := IntKind.i64.wrap (n + 1)
abbrev slR (k p : Nat) : AV := .sl true k 5 0 1 p none
abbrev slN (k p : Nat) : AV := .sl true k 1 0 1 p none
abbrev reS : Option Code := some .ret
abbrev scH (t0 t1 hh : List Item) (m : List (Nat × Option ABlk)) (nx : Nat) (bs : List Bool) : Option Fin_ := some (.head hh scT ⟨m, nx⟩ (conj bs))
abbrev scRt (m : List (Nat × Option ABlk)) (bs : List Bool) : Option Fin_ := some (.ret (.tup []) ⟨m, 99⟩ (conj bs))

theorem scA0 (i x n : Int) (g : Nat → Int) (s rest : ByteArray) (bg : Bool) : HE_ Tryd.prog (scE2 Tryd.prog i [] [1]) Tryd.f85 (scC 14 15 16) [0, 1, 2, 3, 4, 5, 6, 7, 8, 9, 13, 14, 15] 99 (hd Tryd.f85 1) scT ⟨mA (rg Tryd.f35 0) x n 0 0 g nilV nilV bg s 0 none ++ mR rest ++ mL (rg Tryd.f72 0) 0 none 14 15 none none, 16⟩ =
    bif decide (i < 0) then scRt (mA (rg Tryd.f35 0) x (nx1 n) 0 0 g nilV nilV bg s 0 none ++ mL (rg Tryd.f72 0) 0 none 14 15 none none) (oI i rest ++ oF rest ++ [skB rest])
    else scH (rg Tryd.f35 0) (rg Tryd.f72 0) (hd Tryd.f85 1) (mA (rg Tryd.f35 0) x (nx1 n) 0 0 g nilV nilV bg s 0 none ++ mR (rsI i rest) ++ mL (rg Tryd.f72 0) 0 none 14 15 none none) 16 (oI i rest ++ oS i rest ++ oF (frI i rest) ++ [skB (frI i rest)] ++ oE i rest) := by kernel_rfl
theorem scA1 (i x n : Int) (g : Nat → Int) (s rest : ByteArray) (p : Nat) (c : Nat → List Int) (l : List Int) : HE_ Tryd.prog (scE2 Tryd.prog i [] [1]) Tryd.f85 (scC 14 15 16) [0, 1, 2, 3, 4, 5, 6, 7, 8, 9, 13, 14, 15] 99 (hd Tryd.f85 1) scT ⟨mA (rg Tryd.f35 0) x n 0 0 g (slR 14 p) (slN 15 p) true s 0 none ++ mR rest ++ mL (rg Tryd.f72 0) 0 none 14 15 (rowC c) (zsB l), 16⟩ =
    bif decide (i < 0) then scRt (mA (rg Tryd.f35 0) x (nx1 n) 0 0 g (slR 14 p) (slN 15 p) true s 0 none ++ mL (rg Tryd.f72 0) 0 none 14 15 (rowC c) (zsB l)) (oI i rest ++ oF rest ++ [skB rest])
    else scH (rg Tryd.f35 0) (rg Tryd.f72 0) (hd Tryd.f85 1) (mA (rg Tryd.f35 0) x (nx1 n) 0 0 g (slR 14 p) (slN 15 p) true s 0 none ++ mR (rsI i rest) ++ mL (rg Tryd.f72 0) 0 none 14 15 (rowC c) (zsB l)) 16 (oI i rest ++ oS i rest ++ oF (frI i rest) ++ [skB (frI i rest)] ++ oE i rest) := by kernel_rfl
theorem scB (i x n : Int) (g : Nat → Int) (s rest : ByteArray) : HE_ Tryd.prog (scE2 Tryd.prog i [1, 1] [0, 2]) Tryd.f85 (scC 14 15 16) [0, 1, 2, 3, 4, 5, 6, 7, 8, 9, 13, 14, 15] 99 (hd Tryd.f85 1) scT ⟨mA (rg Tryd.f35 0) x n 0 0 g nilV nilV false s 0 none ++ mR rest ++ mL (rg Tryd.f72 0) 0 none 14 15 none none, 16⟩ =
    bif decide (i < 0) then scRt (mA (rg Tryd.f35 0) x (nx1 n) (nx1 n) (cpE rest) g nilV nilV false s 1 reS ++ mL (rg Tryd.f72 0) 1 reS 14 15 none none) (oI i rest ++ oF rest ++ [!skB rest, Nat.blt rest.size 4294967281, cpE rest != 0])
    else scRt (mA (rg Tryd.f35 0) x (nx1 n) (nx1 n) (cpE (frI i rest)) g nilV nilV false s 1 reS ++ mL (rg Tryd.f72 0) 1 reS 14 15 none none) (oI i rest ++ oS i rest ++ oF (frI i rest) ++ [!skB (frI i rest), Nat.blt (frI i rest).size 4294967281, cpE (frI i rest) != 0]) := by kernel_rfl
theorem scCf (i x n : Int) (g : Nat → Int) (s rest : ByteArray) : HE_ Tryd.prog (scE2 Tryd.prog i [1, 0] [0, 2]) Tryd.f85 (scC 14 15 16) [0, 1, 2, 3, 4, 5, 6, 7, 8, 9, 13, 14, 15] 99 (hd Tryd.f85 1) scT ⟨mA (rg Tryd.f35 0) x n 0 0 g nilV nilV false s 0 none ++ mR rest ++ mL (rg Tryd.f72 0) 0 none 14 15 none none, 16⟩ =
    bif decide (i < 0) then scRt (mA (rg Tryd.f35 0) x (nx1 n) 0 0 (cpG rest) nilV nilV true s 0 none ++ mL (rg Tryd.f72 0) 0 none 14 15 none none) (oI i rest ++ oF rest ++ [!skB rest, Nat.blt rest.size 4294967281, !(cpE rest != 0)])
    else scH (rg Tryd.f35 0) (rg Tryd.f72 0) (hd Tryd.f85 1) (mA (rg Tryd.f35 0) x (nx1 n) 0 0 (cpG (frI i rest)) nilV nilV true s 0 none ++ mR (rsI i rest) ++ mL (rg Tryd.f72 0) 0 none 14 15 none none) 16 (oI i rest ++ oS i rest ++ oF (frI i rest) ++ [!skB (frI i rest), Nat.blt (frI i rest).size 4294967281, !(cpE (frI i rest) != 0)] ++ oE i rest) := by kernel_rfl
theorem scD0 (i x n : Int) (g : Nat → Int) (s rest : ByteArray) : HE_ Tryd.prog (scE2 Tryd.prog i [0, 1] [0, 2]) Tryd.f85 (scC 14 15 16) [0, 1, 2, 3, 4, 5, 6, 7, 8, 9, 13, 14, 15] 99 (hd Tryd.f85 1) scT ⟨mA (rg Tryd.f35 0) x n 0 0 g nilV nilV true s 0 none ++ mR rest ++ mL (rg Tryd.f72 0) 0 none 14 15 none none, 16⟩ =
    bif decide (i < 0) then scRt (mA (rg Tryd.f35 0) x (nx1 n) (nx1 n) (rcEr rest) g nilV nilV true s 1 reS ++ mL (rg Tryd.f72 0) 1 reS 14 15 none none) (oI i rest ++ oF rest ++ [!skB rest, !false, Nat.blt rest.size 4294967281, rcEr rest != 0])
    else scRt (mA (rg Tryd.f35 0) x (nx1 n) (nx1 n) (rcEr (frI i rest)) g nilV nilV true s 1 reS ++ mL (rg Tryd.f72 0) 1 reS 14 15 none none) (oI i rest ++ oS i rest ++ oF (frI i rest) ++ [!skB (frI i rest), !false, Nat.blt (frI i rest).size 4294967281, rcEr (frI i rest) != 0]) := by kernel_rfl
theorem scD1 (i x n : Int) (g : Nat → Int) (s rest : ByteArray) (p : Nat) (c : Nat → List Int) (l : List Int) : HE_ Tryd.prog (scE2 Tryd.prog i [0, 1] [0, 2]) Tryd.f85 (scC 14 15 16) [0, 1, 2, 3, 4, 5, 6, 7, 8, 9, 13, 14, 15] 99 (hd Tryd.f85 1) scT ⟨mA (rg Tryd.f35 0) x n 0 0 g (slR 14 p) (slN 15 p) true s 0 none ++ mR rest ++ mL (rg Tryd.f72 0) 0 none 14 15 (rowC c) (zsB l), 16⟩ =
    bif decide (i < 0) then scRt (mA (rg Tryd.f35 0) x (nx1 n) (nx1 n) (rcEr rest) g (slR 14 p) (slN 15 p) true s 1 reS ++ mL (rg Tryd.f72 0) 1 reS 14 15 (rowC c) (zsB l)) (oI i rest ++ oF rest ++ [!skB rest, !false, Nat.blt rest.size 4294967281, rcEr rest != 0])
    else scRt (mA (rg Tryd.f35 0) x (nx1 n) (nx1 n) (rcEr (frI i rest)) g (slR 14 p) (slN 15 p) true s 1 reS ++ mL (rg Tryd.f72 0) 1 reS 14 15 (rowC c) (zsB l)) (oI i rest ++ oS i rest ++ oF (frI i rest) ++ [!skB (frI i rest), !false, Nat.blt (frI i rest).size 4294967281, rcEr (frI i rest) != 0]) := by kernel_rfl
theorem scF0 (i x n : Int) (g : Nat → Int) (s rest : ByteArray) : HE_ Tryd.prog (scE2 Tryd.prog i [0, 0] [0, 2]) Tryd.f85 (scC 18 20 21) [0, 1, 2, 3, 4, 5, 6, 7, 8, 9, 13, 18, 20] 99 (hd Tryd.f85 1) scT ⟨mA (rg Tryd.f35 0) x n 0 0 g nilV nilV true s 0 none ++ mR rest ++ mL (rg Tryd.f72 0) 0 none 14 15 none none, 16⟩ =
    bif decide (i < 0) then scRt (mA (rg Tryd.f35 0) x (nx1 n) 0 0 g (slR 18 1) (slN 20 1) true s 0 none ++ mL (rg Tryd.f72 0) 0 none 18 20 (rowC (fun k => [rcG rest k])) (zsB [nx1 n])) (oI i rest ++ oF rest ++ [!skB rest, !false, Nat.blt rest.size 4294967281, !(rcEr rest != 0)])
    else scH (rg Tryd.f35 0) (rg Tryd.f72 0) (hd Tryd.f85 1) (mA (rg Tryd.f35 0) x (nx1 n) 0 0 g (slR 18 1) (slN 20 1) true s 0 none ++ mR (rsI i rest) ++ mL (rg Tryd.f72 0) 0 none 18 20 (rowC (fun k => [rcG (frI i rest) k])) (zsB [nx1 n])) 21 (oI i rest ++ oS i rest ++ oF (frI i rest) ++ [!skB (frI i rest), !false, Nat.blt (frI i rest).size 4294967281, !(rcEr (frI i rest) != 0)] ++ oE i rest) := by kernel_rfl
theorem scF1 (i x n : Int) (g : Nat → Int) (s rest : ByteArray) (p : Nat) (c : Nat → List Int) (l : List Int) : HE_ Tryd.prog (scE2 Tryd.prog i [0, 0] [0, 2]) Tryd.f85 (scC 18 20 21) [0, 1, 2, 3, 4, 5, 6, 7, 8, 9, 13, 18, 20] 99 (hd Tryd.f85 1) scT ⟨mA (rg Tryd.f35 0) x n 0 0 g (slR 14 p) (slN 15 p) true s 0 none ++ mR rest ++ mL (rg Tryd.f72 0) 0 none 14 15 (rowC c) (zsB l), 16⟩ =
    bif decide (i < 0) then scRt (mA (rg Tryd.f35 0) x (nx1 n) 0 0 g (slR 18 (p + 1)) (slN 20 (p + 1)) true s 0 none ++ mL (rg Tryd.f72 0) 0 none 18 20 (rowC (fun k => (c k).take p ++ [rcG rest k])) (zsB (l.take p ++ [nx1 n]))) (oI i rest ++ oF rest ++ [!skB rest, !false, Nat.blt rest.size 4294967281, !(rcEr rest != 0), decide (0 < p), decide ((p + 1) * 40 ≤ 140737488355328), decide (p ≤ (c 0).length), decide (p ≤ (c 1).length), decide (p ≤ (c 2).length), decide (p ≤ (c 3).length), decide (p ≤ (c 4).length), decide (0 < p), decide ((p + 1) * 8 ≤ 140737488355328), decide (p ≤ l.length)])
    else scH (rg Tryd.f35 0) (rg Tryd.f72 0) (hd Tryd.f85 1) (mA (rg Tryd.f35 0) x (nx1 n) 0 0 g (slR 18 (p + 1)) (slN 20 (p + 1)) true s 0 none ++ mR (rsI i rest) ++ mL (rg Tryd.f72 0) 0 none 18 20 (rowC (fun k => (c k).take p ++ [rcG (frI i rest) k])) (zsB (l.take p ++ [nx1 n]))) 21 (oI i rest ++ oS i rest ++ oF (frI i rest) ++ [!skB (frI i rest), !false, Nat.blt (frI i rest).size 4294967281, !(rcEr (frI i rest) != 0), decide (0 < p), decide ((p + 1) * 40 ≤ 140737488355328), decide (p ≤ (c 0).length), decide (p ≤ (c 1).length), decide (p ≤ (c 2).length), decide (p ≤ (c 3).length), decide (p ≤ (c 4).length), decide (0 < p), decide ((p + 1) * 8 ≤ 140737488355328), decide (p ≤ l.length)] ++ oE i rest) := by kernel_rfl
end Go.Proofs.YtpmcflidggofkaaDoor

namespace Go.Proofs.YtpmcflidggofkaaDoor
open Go Go.RowKit
set_option maxRecDepth 100000
set_option maxHeartbeats 4000000
/-- A line feed: there is none, or here is the first one. -/
theorem nl_cases (r : ByteArray) : (idxI r nl1 = -1 ∧ pcs 10 r.data.toList = [r.data.toList]) ∨
    ∃ k : Nat, idxI r nl1 = (k : Int) ∧ k + 1 ≤ r.size ∧ pcs 10 r.data.toList = (r.extract 0 k).data.toList :: pcs 10 (r.extract (k + 1) r.size).data.toList := by
  have hix : idxI r nl1 = Lib.indexByte r.data.toList 10 := Lib.index_one r.data.toList 10
  rcases Lib.indexB_cases r nl1 with h | ⟨i, h, hi⟩
  · have h' : idxI r nl1 = -1 := h
    have hn := Lib.indexByte_none (hix ▸ h')
    exact .inl ⟨h', pcs_none 10 _ fun b hb e => by
      obtain ⟨j, hj⟩ := List.mem_iff_getElem?.1 hb
      exact hn j (by rw [hj, e])⟩
  · have h' : idxI r nl1 = (i : Int) := h
    have hsz : nl1.size = 1 := rfl
    rw [hsz] at hi
    refine .inr ⟨i, h', hi, ?_⟩
    obtain ⟨g1, g2⟩ := Lib.indexByte_some (hix ▸ h')
    have hil : i < r.data.toList.length := (List.getElem?_eq_some_iff.1 g1).1
    have hspl : r.data.toList = r.data.toList.take i ++ 10 :: r.data.toList.drop (i + 1) := by
      conv => lhs; rw [← List.take_append_drop i r.data.toList]
      congr 1
      rw [List.drop_eq_getElem_cons hil]
      congr 1
      exact (List.getElem?_eq_some_iff.1 g1).2
    have e2 : (r.extract (i + 1) r.size).data.toList = r.data.toList.drop (i + 1) := by
      rw [extL, ← sizeL, List.take_length]
    have e1 : (r.extract 0 i).data.toList = r.data.toList.take i := by
      rw [extL, List.drop_zero]
    rw [e1, e2]
    conv => lhs; rw [hspl]
    exact pcs_cut 10 _ _ fun b hb e => by
      obtain ⟨j, hj⟩ := List.mem_iff_getElem?.1 hb
      have hji : j < i := by have := (List.getElem?_eq_some_iff.1 hj).1; simp at this; omega
      rw [List.getElem?_take_of_lt hji] at hj
      exact g2 j hji (by rw [hj, e])
abbrev rcL (f : ByteArray) : List Int := (rcX (splitL f sp1)).1
/-- The calls of lines, with their numbers; an error, and where. -/
def sc2 : List ByteArray → Int → List (List Int × Int) → List (List Int × Int) × Int × Int
  | [], _, ops => (ops, 0, 0)
  | f :: L, n, ops => bif skB f then sc2 L (nx1 n) ops else bif rcEr f != 0 then ([], nx1 n, rcEr f) else sc2 L (nx1 n) (ops ++ [(rcL f, nx1 n)])
abbrev colK (ops : List (List Int × Int)) (k : Nat) : List Int := ops.map fun r => r.1.getD k 0
abbrev linK (ops : List (List Int × Int)) : List Int := ops.map fun r => r.2
-- what is there of the calls
abbrev opR (k : Nat) (ops : List (List Int × Int)) : AV := match ops with
  | [] => nilV
  | _ :: _ => slR k ops.length
abbrev opN (k : Nat) (ops : List (List Int × Int)) : AV := match ops with
  | [] => nilV
  | _ :: _ => slN k ops.length
abbrev opB (ops : List (List Int × Int)) : Option ABlk := match ops with
  | [] => none
  | _ :: _ => rowC (colK ops)
abbrev opL (ops : List (List Int × Int)) : Option ABlk := match ops with
  | [] => none
  | _ :: _ => zsB (linK ops)
theorem conj_of {l : List Bool} (h : ∀ b ∈ l, b = true) : conj l = true := by
  induction l with
  | nil => rfl
  | cons b l ih => simp only [conj, Bool.and_eq_true]; exact ⟨h b (by simp), ih fun b hb => h b (by simp [hb])⟩
theorem oF_ok (f : ByteArray) : conj (oF f) = true := by
  unfold oF
  have e : (f.toList == []) = decide (f.size = 0) := by
    rw [emp_eq, Bool.eq_iff_iff]
    simp only [beq_iff_eq, decide_eq_true_eq]
    constructor
    · intro h; have h : (f.size : Int) = 0 := h; omega
    · intro h; show (f.size : Int) = 0; omega
  rw [e]
  by_cases h : f.size = 0
  · rw [decide_eq_true h, decide_eq_false (show ¬ 0 < f.size by omega)]; rfl
  · rw [decide_eq_false h, decide_eq_true (show 0 < f.size by omega)]; rfl
theorem oI_ok {i : Int} {r : ByteArray} (hr : r.size < 4294967281) (hi : idxI r nl1 = i) : conj (oI i r) = true := by
  unfold oI
  rw [show Nat.blt r.size 4294967281 = true by rw [Nat.blt_eq]; exact hr, hi, beq_self_eq_true]
  rfl
theorem wk0 {k : Nat} (h : k ≤ 4294967281) : (IntKind.i64.wrap ((k : Int) + 0)).toNat = k ∧ IntKind.i64.wrap ((k : Int) + 0) = k := by
  rw [Int.add_zero, IntWalk.i64_in _ (by omega)]
  exact ⟨Int.toNat_natCast k, rfl⟩
theorem wk1 {k : Nat} (h : k ≤ 4294967281) : (IntKind.i64.wrap ((k : Int) + 1)).toNat = k + 1 ∧ IntKind.i64.wrap ((k : Int) + 1) = ((k + 1 : Nat) : Int) := by
  rw [IntWalk.i64_in _ (by omega)]
  exact ⟨by omega, by omega⟩
theorem oS_ok {k : Nat} {r : ByteArray} (hr : r.size < 4294967281) (hk : k + 1 ≤ r.size) : conj (oS k r) = true := by
  unfold oS
  rw [(wk0 (show k ≤ 4294967281 by omega)).2, decide_eq_true (show (0 : Int) ≤ k by omega), decide_eq_true (show (k : Int) ≤ Int.ofNat r.size by show (k : Int) ≤ (r.size : Int); omega)]
  rfl
theorem oE_ok {k : Nat} {r : ByteArray} (hr : r.size < 4294967281) (hk : k + 1 ≤ r.size) : conj (oE k r) = true := by
  unfold oE
  rw [(wk1 (show k ≤ 4294967281 by omega)).2, decide_eq_true (show (0 : Int) ≤ ((k + 1 : Nat) : Int) by omega), decide_eq_true (show ((k + 1 : Nat) : Int) ≤ Int.ofNat r.size by show ((k + 1 : Nat) : Int) ≤ (r.size : Int); omega), decide_eq_true (Int.le_refl _)]
  rfl
/-- A state ahead of a line. -/
abbrev scS (t0 t1 hh : List Item) (x n : Int) (g : Nat → Int) (bg : Bool) (s rest : ByteArray) (ops : List (List Int × Int)) : St :=
  ⟨hh, scT, ⟨mA t0 x n 0 0 g (opR 14 ops) (opN 15 ops) bg s 0 none ++ mR rest ++ mL t1 0 none 14 15 (opB ops) (opL ops), 16⟩⟩
abbrev scFin (t0 t1 : List Item) (x n r2 r3 : Int) (g : Nat → Int) (so sl : AV) (bg : Bool) (s : ByteArray) (st : Nat) (pe : Option Code) (k1 k2 : Nat) (ob lb : Option ABlk) : MS := ⟨mA t0 x n r2 r3 g so sl bg s st pe ++ mL t1 st pe k1 k2 ob lb, 99⟩
/-- How the lines end. -/
def scDone (t0 t1 : List Item) (f : Func) (S : St) (x : Int) (g : Nat → Int) (bg : Bool) (s : ByteArray) (r : List (List Int × Int) × Int × Int) : Prop :=
  (r.2.2 = 0 ∧ r.2.1 = 0 ∧ ∃ n, ∃ k1 k2, (k1 = 14 ∧ k2 = 15 ∨ k1 = 18 ∧ k2 = 20) ∧ Gives_ Tryd.prog f 14 S (.tup []) (scFin t0 t1 x n 0 0 g (opR k1 r.1) (opN k2 r.1) bg s 0 none k1 k2 (opB r.1) (opL r.1))) ∨
  (r.2.2 ≠ 0 ∧ ∃ n g' so sl bg' ob lb, Gives_ Tryd.prog f 14 S (.tup []) (scFin t0 t1 x n r.2.1 r.2.2 g' so sl bg' s 1 reS 14 15 ob lb))
theorem scDone.of_goes {t0 t1 : List Item} {f : Func} {S S' : St} {x : Int} {g : Nat → Int} {bg : Bool} {s : ByteArray} {r : List (List Int × Int) × Int × Int} (h : Goes Tryd.prog 14 S S') (h' : scDone t0 t1 f S' x g bg s r) : scDone t0 t1 f S x g bg s r := by
  rcases h' with ⟨h1, h2, n, k1, k2, hk, hg⟩ | ⟨h1, n, g', so, sl, bg', ob, lb, hg⟩
  · exact .inl ⟨h1, h2, n, k1, k2, hk, h.gives hg⟩
  · exact .inr ⟨h1, n, g', so, sl, bg', ob, lb, h.gives hg⟩
theorem col_app (ops : List (List Int × Int)) (o : List Int × Int) (k : Nat) : (colK ops k).take ops.length ++ [o.1.getD k 0] = colK (ops ++ [o]) k := by
  rw [List.take_of_length_le (by simp [colK])]
  simp [colK]
theorem lin_app (ops : List (List Int × Int)) (o : List Int × Int) : (linK ops).take ops.length ++ [o.2] = linK (ops ++ [o]) := by
  rw [List.take_of_length_le (by simp [linK])]
  simp [linK]
theorem rowC_congr {c c' : Nat → List Int} (h : ∀ k, c k = c' k) : rowC c = rowC c' := by
  have : c = c' := funext h
  rw [this]
end Go.Proofs.YtpmcflidggofkaaDoor

namespace Go.Proofs.YtpmcflidggofkaaDoor
open Go Go.RowKit
set_option maxRecDepth 100000
set_option maxHeartbeats 4000000
theorem conj3 {a b c : List Bool} (h1 : conj a = true) (h2 : conj b = true) (h3 : conj c = true) : conj (a ++ b ++ c) = true := conj_app _ _ (conj_app _ _ h1 h2) h3
theorem conj4 {a b c d : List Bool} (h1 : conj a = true) (h2 : conj b = true) (h3 : conj c = true) (h4 : conj d = true) : conj (a ++ b ++ c ++ d) = true := conj_app _ _ (conj3 h1 h2 h3) h4
theorem conj5 {a b c d e : List Bool} (h1 : conj a = true) (h2 : conj b = true) (h3 : conj c = true) (h4 : conj d = true) (h5 : conj e = true) : conj (a ++ b ++ c ++ d ++ e) = true := conj_app _ _ (conj4 h1 h2 h3 h4) h5
theorem blt_ok {r : ByteArray} (h : r.size < 4294967281) : Nat.blt r.size 4294967281 = true := by rw [Nat.blt_eq]; exact h
/-- What a record's line asks. -/
theorem mid_ok {f : ByteArray} (hs : skB f = false) (hf : f.size < 4294967281) (he : (rcEr f != 0) = false) {l : List Bool} (hl : conj l = true) : conj ([!skB f, !false, Nat.blt f.size 4294967281, !(rcEr f != 0)] ++ l) = true :=
  conj_app _ _ (by rw [hs, he, blt_ok hf]; rfl) hl
theorem grow_ok (ops : List (List Int × Int)) (h0 : 0 < ops.length) (hb : ops.length ≤ 4294967281) : conj [decide (0 < ops.length), decide ((ops.length + 1) * 40 ≤ 140737488355328), decide (ops.length ≤ (colK ops 0).length), decide (ops.length ≤ (colK ops 1).length), decide (ops.length ≤ (colK ops 2).length), decide (ops.length ≤ (colK ops 3).length), decide (ops.length ≤ (colK ops 4).length), decide (0 < ops.length), decide ((ops.length + 1) * 8 ≤ 140737488355328), decide (ops.length ≤ (linK ops).length)] = true := by
  simp only [conj, Bool.and_eq_true, decide_eq_true_eq, List.length_map, colK, linK]
  and_intros <;> first | trivial | omega
theorem ph2 (x : Int) (g : Nat → Int) (s : ByteArray) : ∀ (L : List ByteArray) (rest : ByteArray) (n : Int) (ops : List (List Int × Int)), (pcs 10 rest.data.toList).map mkB = L → rest.size < 4294967281 → ops.length + rest.size ≤ 4294967281 →
    scDone (rg Tryd.f35 0) (rg Tryd.f72 0) Tryd.f85 (scS (rg Tryd.f35 0) (rg Tryd.f72 0) (hd Tryd.f85 1) x n g true s rest ops) x g true s (sc2 L n ops)
  | [], rest, n, ops, hL, _, _ => absurd (List.map_eq_nil_iff.1 hL) (pcs_ne _ _)
  | f :: L, rest, n, ops, hL, hr, hb => by
    rcases nl_cases rest with ⟨hi, hp⟩ | ⟨k, hi, hk, hp⟩
    · rw [hp] at hL
      simp only [List.map_cons, List.map_nil, mkB_list, List.cons.injEq] at hL
      obtain ⟨rfl, rfl⟩ := hL
      have hneg : decide ((-1 : Int) < 0) = true := by decide
      have hI := oI_ok hr hi
      have hF := oF_ok rest
      simp only [sc2]
      cases hs : skB rest with
      | true =>
        rw [cond_true]
        refine .inl ⟨rfl, rfl, nx1 n, 14, 15, .inl ⟨rfl, rfl⟩, ?_⟩
        cases ops with
        | nil =>
          have h := scA0 (-1) x n g s rest true
          rw [hneg, cond_true] at h
          exact HE_ret (hE_sc2 _ _ _) mixed rfl h (conj3 hI hF (by rw [hs]; rfl))
        | cons o ops =>
          have h := scA1 (-1) x n g s rest (o :: ops).length (colK (o :: ops)) (linK (o :: ops))
          rw [hneg, cond_true] at h
          exact HE_ret (hE_sc2 _ _ _) mixed rfl h (conj3 hI hF (by rw [hs]; rfl))
      | false =>
        rw [cond_false]
        cases he : (rcEr rest != 0) with
        | true =>
          rw [cond_true]
          have hc : conj [!skB rest, !false, Nat.blt rest.size 4294967281, rcEr rest != 0] = true := by rw [hs, he, blt_ok hr]; rfl
          cases ops with
          | nil =>
            have h := scD0 (-1) x n g s rest
            rw [hneg, cond_true] at h
            exact .inr ⟨bne_iff_ne.1 he, _, _, _, _, _, _, _, HE_ret (hE_sc2 _ _ _) mixed rfl h (conj3 hI hF hc)⟩
          | cons o ops =>
            have h := scD1 (-1) x n g s rest (o :: ops).length (colK (o :: ops)) (linK (o :: ops))
            rw [hneg, cond_true] at h
            exact .inr ⟨bne_iff_ne.1 he, _, _, _, _, _, _, _, HE_ret (hE_sc2 _ _ _) mixed rfl h (conj3 hI hF hc)⟩
        | false =>
          rw [cond_false]
          refine .inl ⟨rfl, rfl, nx1 n, 18, 20, .inr ⟨rfl, rfl⟩, ?_⟩
          cases ops with
          | nil =>
            have h := scF0 (-1) x n g s rest
            rw [hneg, cond_true] at h
            exact HE_ret (hE_sc2 _ _ _) mixed rfl h (conj3 hI hF (mid_ok hs hr he (l := []) rfl))
          | cons o ops =>
            have h := scF1 (-1) x n g s rest (o :: ops).length (colK (o :: ops)) (linK (o :: ops))
            rw [hneg, cond_true, rowC_congr (col_app (o :: ops) (rcL rest, nx1 n)), lin_app (o :: ops) (rcL rest, nx1 n)] at h
            have hl : (o :: ops).length + 1 = (o :: ops ++ [(rcL rest, nx1 n)]).length := by simp
            have g0 := HE_ret (B := 14) (hE_sc2 (-1) [0, 0] [0, 2]) mixed rfl h (conj3 hI hF (mid_ok hs hr he (grow_ok (o :: ops) (by simp) (by omega))))
            rw [hl] at g0
            exact g0
    · rw [hp] at hL
      simp only [List.map_cons, mkB_list, List.cons.injEq] at hL
      obtain ⟨rfl, hL⟩ := hL
      have hpos : decide ((k : Int) < 0) = false := decide_eq_false (by omega)
      have hfr : frI (k : Int) rest = rest.extract 0 k := by unfold frI; rw [(wk0 (show k ≤ 4294967281 by omega)).1]
      have hrs : rsI (k : Int) rest = rest.extract (k + 1) rest.size := by unfold rsI; rw [(wk1 (show k ≤ 4294967281 by omega)).1]
      have hfs : (rest.extract 0 k).size ≤ k := by rw [ByteArray.size_extract]; omega
      have hrr : (rest.extract (k + 1) rest.size).size + 1 ≤ rest.size := by rw [ByteArray.size_extract]; omega
      have hI := oI_ok hr hi
      have hS := oS_ok hr hk
      have hE := oE_ok hr hk
      generalize hf0 : rest.extract 0 k = f at *
      generalize hr0 : rest.extract (k + 1) rest.size = rest' at *
      have hF := oF_ok f
      simp only [sc2]
      cases hs : skB f with
      | true =>
        rw [cond_true]
        have IH := ph2 x g s L rest' (nx1 n) ops hL (by omega) (by omega)
        refine scDone.of_goes ?_ IH
        have hc : conj [skB f] = true := by rw [hs]; rfl
        cases ops with
        | nil =>
          have h := scA0 (k : Int) x n g s rest true
          rw [hpos, cond_false, hfr, hrs] at h
          exact HE_head (hE_sc2 _ _ _) mixed rfl h (conj5 hI hS hF hc hE)
        | cons o ops =>
          have h := scA1 (k : Int) x n g s rest (o :: ops).length (colK (o :: ops)) (linK (o :: ops))
          rw [hpos, cond_false, hfr, hrs] at h
          exact HE_head (hE_sc2 _ _ _) mixed rfl h (conj5 hI hS hF hc hE)
      | false =>
        rw [cond_false]
        cases he : (rcEr f != 0) with
        | true =>
          rw [cond_true]
          have hc : conj [!skB f, !false, Nat.blt f.size 4294967281, rcEr f != 0] = true := by rw [hs, he, blt_ok (show f.size < 4294967281 by omega)]; rfl
          cases ops with
          | nil =>
            have h := scD0 (k : Int) x n g s rest
            rw [hpos, cond_false, hfr] at h
            exact .inr ⟨bne_iff_ne.1 he, _, _, _, _, _, _, _, HE_ret (hE_sc2 _ _ _) mixed rfl h (conj4 hI hS hF hc)⟩
          | cons o ops =>
            have h := scD1 (k : Int) x n g s rest (o :: ops).length (colK (o :: ops)) (linK (o :: ops))
            rw [hpos, cond_false, hfr] at h
            exact .inr ⟨bne_iff_ne.1 he, _, _, _, _, _, _, _, HE_ret (hE_sc2 _ _ _) mixed rfl h (conj4 hI hS hF hc)⟩
        | false =>
          rw [cond_false]
          have IH := ph2 x g s L rest' (nx1 n) (ops ++ [(rcL f, nx1 n)]) hL (by omega) (by simp; omega)
          refine scDone.of_goes ?_ IH
          have hσ : ∀ (c : Nat → List Int) (l : List Int) (p : Nat), Goes Tryd.prog 14 ⟨hd Tryd.f85 1, scT, ⟨mA (rg Tryd.f35 0) x (nx1 n) 0 0 g (slR 18 p) (slN 20 p) true s 0 none ++ mR rest' ++ mL (rg Tryd.f72 0) 0 none 18 20 (rowC c) (zsB l), 21⟩⟩
              ⟨hd Tryd.f85 1, scT, ⟨mA (rg Tryd.f35 0) x (nx1 n) 0 0 g (slR 14 p) (slN 15 p) true s 0 none ++ mR rest' ++ mL (rg Tryd.f72 0) 0 none 14 15 (rowC c) (zsB l), 16⟩⟩ := fun c l p =>
            Goes.ren (σ := [(0, 0), (1, 1), (2, 2), (3, 3), (4, 4), (5, 5), (6, 6), (7, 7), (8, 8), (9, 9), (10, 10), (11, 11), (12, 12), (13, 13), (14, 18), (15, 20)]) (nx := 16) rfl
          cases ops with
          | nil =>
            have h := scF0 (k : Int) x n g s rest
            rw [hpos, cond_false, hfr, hrs] at h
            exact (HE_head (hE_sc2 _ _ _) mixed rfl h (conj5 hI hS hF (mid_ok hs (show f.size < 4294967281 by omega) he (l := []) rfl) hE)).trans (hσ _ _ _)
          | cons o ops =>
            have h := scF1 (k : Int) x n g s rest (o :: ops).length (colK (o :: ops)) (linK (o :: ops))
            rw [hpos, cond_false, hfr, hrs, rowC_congr (col_app (o :: ops) (rcL f, nx1 n)), lin_app (o :: ops) (rcL f, nx1 n)] at h
            have hl : (o :: ops).length + 1 = (o :: ops ++ [(rcL f, nx1 n)]).length := by simp
            have g0 := (HE_head (B := 14) (hE_sc2 (k : Int) [0, 0] [0, 2]) mixed rfl h (conj5 hI hS hF (mid_ok hs (show f.size < 4294967281 by omega) he (grow_ok (o :: ops) (by simp) (by omega))) hE)).trans (hσ _ _ _)
            rw [hl] at g0
            exact g0
end Go.Proofs.YtpmcflidggofkaaDoor

namespace Go.Proofs.YtpmcflidggofkaaDoor
open Go Go.RowKit
set_option maxRecDepth 100000
set_option maxHeartbeats 4000000
def g0 : Nat → Int := fun _ => 0
/-- The settings, whether there are any, and what is behind them. -/
def sc1 : List ByteArray → Int → (Nat → Int) × Bool × (List (List Int × Int) × Int × Int)
  | [], _ => (g0, false, ([], 0, 0))
  | f :: L, n => bif skB f then sc1 L (nx1 n) else bif cpE f != 0 then (g0, true, ([], nx1 n, cpE f)) else (cpG f, true, sc2 L (nx1 n) [])
theorem ph1 (x : Int) (s : ByteArray) : ∀ (L : List ByteArray) (rest : ByteArray) (n : Int), (pcs 10 rest.data.toList).map mkB = L → rest.size < 4294967281 →
    scDone (rg Tryd.f35 0) (rg Tryd.f72 0) Tryd.f85 (scS (rg Tryd.f35 0) (rg Tryd.f72 0) (hd Tryd.f85 1) x n g0 false s rest []) x (sc1 L n).1 (sc1 L n).2.1 s (sc1 L n).2.2
  | [], rest, n, hL, _ => absurd (List.map_eq_nil_iff.1 hL) (pcs_ne _ _)
  | f :: L, rest, n, hL, hr => by
    rcases nl_cases rest with ⟨hi, hp⟩ | ⟨k, hi, hk, hp⟩
    · rw [hp] at hL
      simp only [List.map_cons, List.map_nil, mkB_list, List.cons.injEq] at hL
      obtain ⟨rfl, rfl⟩ := hL
      have hneg : decide ((-1 : Int) < 0) = true := by decide
      have hI := oI_ok hr hi
      have hF := oF_ok rest
      simp only [sc1]
      cases hs : skB rest with
      | true =>
        have h := scA0 (-1) x n g0 s rest false
        rw [hneg, cond_true] at h
        exact .inl ⟨rfl, rfl, nx1 n, 14, 15, .inl ⟨rfl, rfl⟩, HE_ret (hE_sc2 _ _ _) mixed rfl h (conj3 hI hF (by rw [hs]; rfl))⟩
      | false =>
        rw [cond_false]
        cases he : (cpE rest != 0) with
        | true =>
          have hc : conj [!skB rest, Nat.blt rest.size 4294967281, cpE rest != 0] = true := by rw [hs, he, blt_ok hr]; rfl
          have h := scB (-1) x n g0 s rest
          rw [hneg, cond_true] at h
          exact .inr ⟨bne_iff_ne.1 he, _, _, _, _, _, _, _, HE_ret (hE_sc2 _ _ _) mixed rfl h (conj3 hI hF hc)⟩
        | false =>
          have hc : conj [!skB rest, Nat.blt rest.size 4294967281, !(cpE rest != 0)] = true := by rw [hs, he, blt_ok hr]; rfl
          have h := scCf (-1) x n g0 s rest
          rw [hneg, cond_true] at h
          exact .inl ⟨rfl, rfl, nx1 n, 14, 15, .inl ⟨rfl, rfl⟩, HE_ret (hE_sc2 _ _ _) mixed rfl h (conj3 hI hF hc)⟩
    · rw [hp] at hL
      simp only [List.map_cons, mkB_list, List.cons.injEq] at hL
      obtain ⟨rfl, hL⟩ := hL
      have hpos : decide ((k : Int) < 0) = false := decide_eq_false (by omega)
      have hfr : frI (k : Int) rest = rest.extract 0 k := by unfold frI; rw [(wk0 (show k ≤ 4294967281 by omega)).1]
      have hrs : rsI (k : Int) rest = rest.extract (k + 1) rest.size := by unfold rsI; rw [(wk1 (show k ≤ 4294967281 by omega)).1]
      have hfs : (rest.extract 0 k).size ≤ k := by rw [ByteArray.size_extract]; omega
      have hrr : (rest.extract (k + 1) rest.size).size + 1 ≤ rest.size := by rw [ByteArray.size_extract]; omega
      have hI := oI_ok hr hi
      have hS := oS_ok hr hk
      have hE := oE_ok hr hk
      generalize hf0 : rest.extract 0 k = f at *
      generalize hr0 : rest.extract (k + 1) rest.size = rest' at *
      have hF := oF_ok f
      simp only [sc1]
      cases hs : skB f with
      | true =>
        rw [cond_true]
        have IH := ph1 x s L rest' (nx1 n) hL (by omega)
        refine scDone.of_goes ?_ IH
        have h := scA0 (k : Int) x n g0 s rest false
        rw [hpos, cond_false, hfr, hrs] at h
        exact HE_head (hE_sc2 _ _ _) mixed rfl h (conj5 hI hS hF (by rw [hs]; rfl) hE)
      | false =>
        rw [cond_false]
        cases he : (cpE f != 0) with
        | true =>
          have hc : conj [!skB f, Nat.blt f.size 4294967281, cpE f != 0] = true := by rw [hs, he, blt_ok (show f.size < 4294967281 by omega)]; rfl
          have h := scB (k : Int) x n g0 s rest
          rw [hpos, cond_false, hfr] at h
          exact .inr ⟨bne_iff_ne.1 he, _, _, _, _, _, _, _, HE_ret (hE_sc2 _ _ _) mixed rfl h (conj4 hI hS hF hc)⟩
        | false =>
          have hc : conj [!skB f, Nat.blt f.size 4294967281, !(cpE f != 0)] = true := by rw [hs, he, blt_ok (show f.size < 4294967281 by omega)]; rfl
          rw [cond_false]
          have IH := ph2 x (cpG f) s L rest' (nx1 n) [] hL (by omega) (by simp; omega)
          refine scDone.of_goes ?_ IH
          have h := scCf (k : Int) x n g0 s rest
          rw [hpos, cond_false, hfr, hrs] at h
          exact HE_head (hE_sc2 _ _ _) mixed rfl h (conj5 hI hS hF hc hE)
-- the begin of each
abbrev pV : List Nat := [2, 3, 4, 5, 6, 14]
abbrev pN : List Nat := [0, 1, 2, 3, 4, 5, 6]
abbrev pC : List Cut := [(888888, pV, pN, 7), (888889, pV, pN, 7), (888890, pV, pN, 7), (888891, pV, pN, 7), (888892, pV, pN, 7), (888893, pV, pN, 7)]
abbrev pM0 (x : Int) (s : ByteArray) : List (Nat × Option ABlk) := [(0, some ⟨false, false, .obj (.glob 0 (.ints .i64 [x]))⟩), (1, some ⟨true, false, .cells [vi 0, vi 0, vi 0, vi 0, vi 0, nilV, nilV]⟩), (2, some ⟨true, false, .cells [vi 0]⟩), (3, some ⟨true, false, .cells [vi 0]⟩), (4, some ⟨true, false, .cells [vi 0, vi 0, vi 0, vi 0, vi 0, nilV, nilV]⟩), (5, some ⟨true, false, .cells [vb false]⟩), (6, some ⟨true, false, .cells [vs s]⟩)]
abbrev L_pl (P : Program) (f : Func) : List (FuncId × Spec) := [(63, inl P [] f)]
theorem hE_pl : ESound Tryd.prog (envOf (L_pl Tryd.prog Tryd.f63)) := env_cons (inl_ok (c := bodyOf Tryd.f63) env_nil mixed (fun xs w => Tryd.call63 xs w) Tryd.func63 rfl) env_nil
theorem p_begin (x : Int) (s : ByteArray) : F_ Tryd.prog (L_pl Tryd.prog Tryd.f63) Tryd.f35 pC [] 99 [vs s] (mlM [x]) = some (.head (rg Tryd.f35 0) tm0 ⟨pM0 x s, 7⟩ true) := by kernel_rfl
abbrev lV : List Nat := [2, 3, 6]
abbrev lN : List Nat := [0, 1, 2, 3, 4, 5, 6, 7, 8, 9, 10, 11, 12]
abbrev lC : List Cut := [(888888, lV, lN, 13), (888889, lV, lN, 13), (888890, lV, lN, 13), (888891, lV, lN, 13), (888892, lV, lN, 13), (888893, lV, lN, 13)]
abbrev L_ll (P : Program) (f g : Func) : List (FuncId × Spec) := [(73, inl P [(79, inl P [] g)] f)]
theorem hE_ll : ESound Tryd.prog (envOf (L_ll Tryd.prog Tryd.f73 Tryd.f79)) :=
  env_cons (inl_ok (c := bodyOf Tryd.f73) (env_cons (inl_ok (c := bodyOf Tryd.f79) env_nil mixed (fun xs w => Tryd.call79 xs w) Tryd.func79 rfl) env_nil) mixed (fun xs w => Tryd.call73 xs w) Tryd.func73 rfl) env_nil
theorem l_begin (x : Int) (s : ByteArray) : F_ Tryd.prog (L_ll Tryd.prog Tryd.f73 Tryd.f79) Tryd.f72 lC [] 99 [.yld 7, .ptr 6 1 0 0] ⟨(7, lpB (rg Tryd.f35 0) 0 none tm0) :: pM0 x s, 8⟩ =
    some (.head (rg Tryd.f72 0) tm1 ⟨mA (rg Tryd.f35 0) x 0 0 0 g0 nilV nilV false s 0 none ++ mR s, 13⟩ true) := by kernel_rfl
theorem q_begin (x : Int) (s : ByteArray) : F_ Tryd.prog [] Tryd.f85 (scC 14 15 16) [] 99 [.yld 13, .ptr 11 1 0 0, .ptr 10 1 0 0, .ptr 12 1 0 0] ⟨(13, lpB (rg Tryd.f72 0) 0 none tm1) :: (mA (rg Tryd.f35 0) x 0 0 0 g0 nilV nilV false s 0 none ++ mR s), 14⟩ =
    some (.head (hd Tryd.f85 1) scT ⟨mA (rg Tryd.f35 0) x 0 0 0 g0 nilV nilV false s 0 none ++ mR s ++ mL (rg Tryd.f72 0) 0 none 14 15 none none, 16⟩ true) := by kernel_rfl
-- the end of each
abbrev lE (t0 : List Item) (x r2 r3 : Int) (g : Nat → Int) (so sl : AV) (bg : Bool) (s : ByteArray) (st : Nat) (pe : Option Code) (k1 k2 : Nat) (ob lb : Option ABlk) : MS :=
  ⟨[(0, some ⟨false, false, .obj (.glob 0 (.ints .i64 [x]))⟩), (1, some ⟨true, false, .cells [vi 0, vi 0, vi 0, vi 0, vi 0, nilV, nilV]⟩), (2, some ⟨true, false, .cells [vi r2]⟩), (3, some ⟨true, false, .cells [vi r3]⟩), (4, some ⟨true, false, .cells (gC g ++ [so, sl])⟩), (5, some ⟨true, false, .cells [vb bg]⟩), (6, some ⟨true, false, .cells [vs s]⟩), (7, lpB t0 st pe tm0), (k1, ob), (k2, lb)], 199⟩
theorem l_end1 (x n r2 r3 : Int) (g : Nat → Int) (so sl : AV) (bg : Bool) (s : ByteArray) (ob lb : Option ABlk) : H_ Tryd.prog [] Tryd.f72 [] [0, 1, 2, 3, 4, 5, 6, 7, 14, 15] 199 (jumpI reS (rg Tryd.f72 0).tail) tm1 ⟨upd (scFin (rg Tryd.f35 0) (rg Tryd.f72 0) x n r2 r3 g so sl bg s 1 reS 14 15 ob lb).bl 13 none, 99⟩ =
    some (.ret (.tup []) (lE (rg Tryd.f35 0) x r2 r3 g so sl bg s 1 reS 14 15 ob lb) true) := by kernel_rfl
theorem l_end0 (x n r2 r3 : Int) (g : Nat → Int) (so sl : AV) (bg : Bool) (s : ByteArray) (ob lb : Option ABlk) : H_ Tryd.prog [] Tryd.f72 [] [0, 1, 2, 3, 4, 5, 6, 7, 14, 15] 199 (jumpI none (rg Tryd.f72 0).tail) tm1 ⟨upd (scFin (rg Tryd.f35 0) (rg Tryd.f72 0) x n r2 r3 g so sl bg s 0 none 14 15 ob lb).bl 13 none, 99⟩ =
    some (.ret (.tup []) (lE (rg Tryd.f35 0) x r2 r3 g so sl bg s 0 none 14 15 ob lb) true) := by kernel_rfl
theorem l_end8 (x n r2 r3 : Int) (g : Nat → Int) (so sl : AV) (bg : Bool) (s : ByteArray) (ob lb : Option ABlk) : H_ Tryd.prog [] Tryd.f72 [] [0, 1, 2, 3, 4, 5, 6, 7, 18, 20] 199 (jumpI none (rg Tryd.f72 0).tail) tm1 ⟨upd (scFin (rg Tryd.f35 0) (rg Tryd.f72 0) x n r2 r3 g so sl bg s 0 none 18 20 ob lb).bl 13 none, 99⟩ =
    some (.ret (.tup []) (lE (rg Tryd.f35 0) x r2 r3 g so sl bg s 0 none 18 20 ob lb) true) := by kernel_rfl
abbrev prV (g : Nat → Int) (so sl : AV) (n e : Int) : AV := .tup [.agg (gC g ++ [so, sl]), vi n, vi e]
theorem p_end1 (x r2 r3 : Int) (g : Nat → Int) (so sl : AV) (bg : Bool) (s : ByteArray) (ob lb : Option ABlk) : HE_ Tryd.prog (envOf []) Tryd.f35 [] [] 299 (jumpI reS (rg Tryd.f35 0).tail) tm0 ⟨upd (lE (rg Tryd.f35 0) x r2 r3 g so sl bg s 1 reS 14 15 ob lb).bl 7 none, 199⟩ =
    some (.ret (prV g0 nilV nilV r2 r3) ⟨[], 299⟩ true) := by kernel_rfl
theorem p_endN (x r2 r3 : Int) (g : Nat → Int) (so sl : AV) (s : ByteArray) (ob lb : Option ABlk) : HE_ Tryd.prog (envOf []) Tryd.f35 [] [] 299 (jumpI none (rg Tryd.f35 0).tail) tm0 ⟨upd (lE (rg Tryd.f35 0) x r2 r3 g so sl false s 0 none 14 15 ob lb).bl 7 none, 199⟩ =
    some (.ret (prV g0 nilV nilV 0 6) ⟨[], 299⟩ true) := by kernel_rfl
theorem p_end0 (x r2 r3 : Int) (g : Nat → Int) (s : ByteArray) (ob lb : Option ABlk) : HE_ Tryd.prog (envOf []) Tryd.f35 [] [] 299 (jumpI none (rg Tryd.f35 0).tail) tm0 ⟨upd (lE (rg Tryd.f35 0) x r2 r3 g nilV nilV true s 0 none 14 15 ob lb).bl 7 none, 199⟩ =
    some (.ret (prV g nilV nilV 0 0) ⟨[], 299⟩ true) := by kernel_rfl
theorem p_endA (x r2 r3 : Int) (g : Nat → Int) (p : Nat) (c : Nat → List Int) (l : List Int) (s : ByteArray) : HE_ Tryd.prog (envOf []) Tryd.f35 [] [14, 15] 299 (jumpI none (rg Tryd.f35 0).tail) tm0 ⟨upd (lE (rg Tryd.f35 0) x r2 r3 g (slR 14 p) (slN 15 p) true s 0 none 14 15 (rowC c) (zsB l)).bl 7 none, 199⟩ =
    some (.ret (prV g (slR 14 p) (slN 15 p) 0 0) ⟨[(14, rowC c), (15, zsB l)], 299⟩ true) := by kernel_rfl
theorem p_endB (x r2 r3 : Int) (g : Nat → Int) (p : Nat) (c : Nat → List Int) (l : List Int) (s : ByteArray) : HE_ Tryd.prog (envOf []) Tryd.f35 [] [18, 20] 299 (jumpI none (rg Tryd.f35 0).tail) tm0 ⟨upd (lE (rg Tryd.f35 0) x r2 r3 g (slR 18 p) (slN 20 p) true s 0 none 18 20 (rowC c) (zsB l)).bl 7 none, 199⟩ =
    some (.ret (prV g (slR 18 p) (slN 20 p) 0 0) ⟨[(18, rowC c), (20, zsB l)], 299⟩ true) := by kernel_rfl
theorem p_endN8 (x r2 r3 : Int) (g : Nat → Int) (so sl : AV) (s : ByteArray) (ob lb : Option ABlk) : HE_ Tryd.prog (envOf []) Tryd.f35 [] [] 299 (jumpI none (rg Tryd.f35 0).tail) tm0 ⟨upd (lE (rg Tryd.f35 0) x r2 r3 g so sl false s 0 none 18 20 ob lb).bl 7 none, 199⟩ =
    some (.ret (prV g0 nilV nilV 0 6) ⟨[], 299⟩ true) := by kernel_rfl
theorem p_end08 (x r2 r3 : Int) (g : Nat → Int) (s : ByteArray) (ob lb : Option ABlk) : HE_ Tryd.prog (envOf []) Tryd.f35 [] [] 299 (jumpI none (rg Tryd.f35 0).tail) tm0 ⟨upd (lE (rg Tryd.f35 0) x r2 r3 g nilV nilV true s 0 none 18 20 ob lb).bl 7 none, 199⟩ =
    some (.ret (prV g nilV nilV 0 0) ⟨[], 299⟩ true) := by kernel_rfl
end Go.Proofs.YtpmcflidggofkaaDoor

namespace Go.Proofs.YtpmcflidggofkaaDoor
open Go Go.RowKit
section
variable {P : Program}
/-- A new name for a block that is for reading alone. -/
theorem MRel.add {ρ : Rho} {m : MS} {w : World} {c : Cont} {i : LI} {z : Nat} (hm : MRel ρ m w) (hwr : ∀ g, Wr ρ m g → g < z) (hg : c.ground = true) (hpl : c.plain = true) {ρ1 : Rho} (hok : (⟨false, false, c⟩ : ABlk).ok ρ1 0 i w) (hfr : z ≤ i.b ∨ (⟨false, false, c⟩ : ABlk).void) :
    MRel (ρ.new m.nx i) ⟨(m.nx, some ⟨false, false, c⟩) :: m.bl, m.nx + 1⟩ w ∧ (∀ g, Wr (ρ.new m.nx i) ⟨(m.nx, some ⟨false, false, c⟩) :: m.bl, m.nx + 1⟩ g → Wr ρ m g) := by
  have hext : ∀ l, l < m.nx → (ρ.new m.nx i) l = ρ l := fun l hl => by unfold Rho.new; rw [if_neg (by omega)]
  have hself : (ρ.new m.nx i) m.nx = i := by simp [Rho.new]
  have key : ∀ l b', look ((m.nx, some (⟨false, false, c⟩ : ABlk)) :: m.bl) l = some b' → (l = m.nx ∧ b' = ⟨false, false, c⟩) ∨ (l < m.nx ∧ look m.bl l = some b') := fun l b' hl => by
    rw [look_cons] at hl
    split at hl
    · rename_i e; cases hl; exact .inl ⟨e.symm, rfl⟩
    · exact .inr ⟨(hm.blk l b' hl).1, hl⟩
  refine ⟨⟨fun l b' hl => ?_, fun l b1 l' b2 h1 h2 hw1 hne hnv => ?_, fun l b1 l' b2 h1 h2 hw1 hn2 => ?_⟩, fun g ⟨l, b', h1, h2, h3⟩ => ?_⟩
  · rcases key l b' hl with ⟨rfl, rfl⟩ | ⟨hlt, hl⟩
    · refine ⟨Nat.lt_succ_self _, ?_⟩
      rw [hself]
      exact ⟨hok.lt, Cont.rel_ground hg hok.rel, (fun h => by cases h), (fun h => by cases h), fun q hq => absurd hq (Cont.plain_ne hpl q)⟩
    · refine ⟨Nat.lt_succ_of_lt hlt, ?_⟩
      rw [hext l hlt]
      have h2 := (hm.blk l b' hl).2
      rcases h2.lt with hlt' | hv
      · exact h2.ext hext (Nat.le_succ _) (Nat.le_refl _) rfl (fun _ _ _ => rfl)
      · exact ABlk.ok.any hv _
  · rcases key l b1 h1 with ⟨rfl, rfl⟩ | ⟨hlt, hl⟩
    · cases hw1
    · rw [hext l hlt]
      rcases key l' b2 h2 with ⟨rfl, rfl⟩ | ⟨hlt', hl'⟩
      · rw [hself]
        have := hwr (ρ l).b ⟨l, b1, hl, hw1, rfl⟩
        have h3 := hfr.resolve_right hnv
        omega
      · rw [hext l' hlt']
        exact hm.apart l b1 l' b2 hl hl' hw1 hne hnv
  · rcases key l b1 h1 with ⟨rfl, rfl⟩ | ⟨hlt, hl⟩
    · cases hw1
    · rw [hext l hlt]
      rcases key l' b2 h2 with ⟨rfl, rfl⟩ | ⟨hlt', hl'⟩
      · have e1 : c.nested = true := hn2
        rw [Cont.nested_plain hpl] at e1; cases e1
      · rw [hext l' hlt']
        exact hm.deep l b1 l' b2 hl hl' hw1 hn2
  · rcases key l b' h1 with ⟨rfl, rfl⟩ | ⟨hlt, hl⟩
    · cases h2
    · rw [hext l hlt] at h3
      exact ⟨l, b', hl, h2, h3⟩
theorem void_ok {ρ : Rho} {c : Cont} {w : World} (hpl : c.plain = true) (hv : ∀ r c' a, c.at r c' ≠ some (a, true)) : (⟨false, false, c⟩ : ABlk).ok ρ 0 ⟨0, 0, 0, 0⟩ w ∧ (⟨false, false, c⟩ : ABlk).void :=
  have h : (⟨false, false, c⟩ : ABlk).void := ⟨rfl, rfl, Cont.plain_void hpl, hv⟩
  ⟨ABlk.ok.any h _, h⟩
/-- Two new slices behind others in a struct, ahead of the further results. -/
theorem lift_two {f : FuncId} {m m1 : MS} {args args1 pre rest : List AV} {n1 wd1 s1 n2 wd2 s2 : Nat} {c1 c2 : Cont} (hro : allRo m1.bl = true) (hg1 : c1.ground = true) (hg2 : c2.ground = true) (hp1 : c1.plain = true) (hp2 : c2.plain = true) (hpre : AV.grounds pre = true) (hrest : AV.grounds rest = true)
    (hsim : ∀ (ρ : Rho) (w : World) (xs : List Value), MRel ρ m w → AV.rels ρ m.nx args xs → ∃ ρ1, MRel ρ1 m1 w ∧ AV.rels ρ1 m1.nx args1 xs)
    (h : (n1 = 0 ∧ n2 = 0 ∧ (∀ r c' a, c1.at r c' ≠ some (a, true)) ∧ (∀ r c' a, c2.at r c' ≠ some (a, true)) ∧ ∃ m', FSound P f m1 args1 (.tup (.agg (pre ++ [.val (.slice none 0 0), .val (.slice none 0 0)]) :: rest)) m') ∨
      ∃ k1 k2 top, k1 ≠ k2 ∧ FSound P f m1 args1 (.tup (.agg (pre ++ [.sl true k1 wd1 0 s1 n1 none, .sl true k2 wd2 0 s2 n2 none]) :: rest)) ⟨[(k1, some ⟨true, true, c1⟩), (k2, some ⟨true, true, c2⟩)], top⟩) :
    FSound P f m args (.tup (.agg (pre ++ [.sl false m.nx wd1 0 s1 n1 none, .sl false (m.nx + 1) wd2 0 s2 n2 none]) :: rest)) ⟨(m.nx + 1, some ⟨false, false, c2⟩) :: (m.nx, some ⟨false, false, c1⟩) :: m.bl, m.nx + 1 + 1⟩ := by
  intro ρ w xs hm hx
  obtain ⟨ρ1, hm1, hx1⟩ := hsim ρ w xs hm hx
  have hnw : ∀ g, ¬ Wr ρ1 m1 g := fun g ⟨l, b, h1, h2, _⟩ => by rw [allRo_look hro h1] at h2; cases h2
  -- what is there behind the call, with names for both
  have fin : ∀ (x : Value) (w' : World) (ρ2 : Rho) (i1 i2 : LI) (y1 y2 : Value) (yp yr : List Value), w'.os = w.os → w'.tape = w.tape → w'.output = w.output → w.heap.size ≤ w'.heap.size → (∀ g, g < w.heap.size → w'.heap[g]? = w.heap[g]?) →
      ((⟨false, false, c1⟩ : ABlk).ok ρ2 0 i1 w') → (w.heap.size ≤ i1.b ∨ (⟨false, false, c1⟩ : ABlk).void) → ((⟨false, false, c2⟩ : ABlk).ok ρ2 0 i2 w') → (w.heap.size ≤ i2.b ∨ (⟨false, false, c2⟩ : ABlk).void) →
      (∃ A cp, y1 = .slice A n1 cp ∧ n1 ≤ cp ∧ (0 < n1 → A = some ⟨i1.b, i1.o + 0 * wd1, none⟩) ∧ 0 * wd1 + cp * (s1 * wd1) ≤ i1.cap) → (∃ A cp, y2 = .slice A n2 cp ∧ n2 ≤ cp ∧ (0 < n2 → A = some ⟨i2.b, i2.o + 0 * wd2, none⟩) ∧ 0 * wd2 + cp * (s2 * wd2) ≤ i2.cap) →
      (∀ ρ', AV.rels ρ' (m.nx + 1 + 1) pre yp) → (∀ ρ', AV.rels ρ' (m.nx + 1 + 1) rest yr) → x = .tuple (Value.agg (yp ++ [y1, y2]).toArray :: yr).toArray →
      ∃ ρ', AV.rel ρ' (m.nx + 1 + 1) (.tup (.agg (pre ++ [.sl false m.nx wd1 0 s1 n1 none, .sl false (m.nx + 1) wd2 0 s2 n2 none]) :: rest)) x ∧ MRel ρ' ⟨(m.nx + 1, some ⟨false, false, c2⟩) :: (m.nx, some ⟨false, false, c1⟩) :: m.bl, m.nx + 1 + 1⟩ w' ∧
        Moves m.nx ρ ρ' m ⟨(m.nx + 1, some ⟨false, false, c2⟩) :: (m.nx, some ⟨false, false, c1⟩) :: m.bl, m.nx + 1 + 1⟩ w w' := by
    rintro x w' ρ2 i1 i2 y1 y2 yp yr ho ht hout hsz hk ok1 fr1 ok2 fr2 ⟨A1, cp1, rfl, b1, d1, e1⟩ ⟨A2, cp2, rfl, b2, d2, e2⟩ hyp hyr rfl
    have hm' : MRel ρ m w' := hm.later hsz hk
    have hwr : ∀ g, Wr ρ m g → g < w.heap.size := fun g ⟨l, b, h1, h2, h3⟩ => by
      rw [← h3]; exact (hm.blk l b h1).2.lt.resolve_right (wr_not_void h2)
    obtain ⟨q1, r1⟩ := MRel.add hm' hwr hg1 hp1 ok1 fr1
    obtain ⟨q2, r2⟩ := MRel.add (m := ⟨(m.nx, some ⟨false, false, c1⟩) :: m.bl, m.nx + 1⟩) q1 (fun g hg => hwr g (r1 g hg)) hg2 hp2 ok2 fr2
    have hs1 : ((ρ.new m.nx i1).new (m.nx + 1) i2) m.nx = i1 := by simp [Rho.new]
    have hs2 : ((ρ.new m.nx i1).new (m.nx + 1) i2) (m.nx + 1) = i2 := by simp [Rho.new]
    refine ⟨(ρ.new m.nx i1).new (m.nx + 1) i2, ?_, q2, ⟨fun l hl => ?_, by show m.nx ≤ m.nx + 1 + 1; omega, ho, ht, hout, hsz, fun g hg _ => hk g hg, fun g hg => .inl (r1 g (r2 g hg))⟩⟩
    · simp only [AV.rel]
      refine ⟨_, rfl, ?_⟩
      simp only [AV.rels]
      refine ⟨_, _, rfl, ?_, hyr _⟩
      simp only [AV.rel]
      refine ⟨_, rfl, (hyp _).append ?_⟩
      simp only [AV.rels, AV.rel]
      rw [hs1, hs2]
      exact ⟨_, _, rfl, ⟨by omega, A1, cp1, rfl, b1, d1, (fun h => by cases h), e1⟩, _, _, rfl, ⟨by omega, A2, cp2, rfl, b2, d2, (fun h => by cases h), e2⟩, rfl⟩
    · unfold Rho.new
      rw [if_neg (by omega), if_neg (by omega)]
  rcases h with ⟨rfl, rfl, hv1, hv2, m', hf⟩ | ⟨k1, k2, top, hne, hf⟩
  · refine Went.mono (hf ρ1 w xs hm1 hx1) fun x w' ⟨ρ2, hr, hm2, mv⟩ => ?_
    simp only [AV.rel, AV.rels] at hr
    obtain ⟨_, rfl, y, ys, rfl, ⟨zs, rfl, hz⟩, hys⟩ := hr
    obtain ⟨yp, y2, rfl, hyp, hy2⟩ := hz.split
    simp only [AV.rels, AV.rel] at hy2
    obtain ⟨_, _, rfl, rfl, _, _, rfl, rfl, rfl⟩ := hy2
    obtain ⟨o1, v1⟩ := void_ok (ρ := ρ2) (w := w') hp1 hv1
    obtain ⟨o2, v2⟩ := void_ok (ρ := ρ2) (w := w') hp2 hv2
    exact fin _ w' ρ2 _ _ _ _ _ _ mv.os mv.tape mv.output mv.size (fun g hg => mv.keep g hg (hnw g)) o1 (.inr v1) o2 (.inr v2) ⟨none, 0, rfl, Nat.le_refl _, fun h => by omega, by simp⟩ ⟨none, 0, rfl, Nat.le_refl _, fun h => by omega, by simp⟩ (fun ρ' => AV.grounds_rels _ _ hpre hyp) (fun ρ' => AV.grounds_rels _ _ hrest hys) rfl
  · refine Went.mono (hf ρ1 w xs hm1 hx1) fun x w' ⟨ρ2, hr, hm2, mv⟩ => ?_
    simp only [AV.rel, AV.rels] at hr
    obtain ⟨_, rfl, y, ys, rfl, ⟨zs, rfl, hz⟩, hys⟩ := hr
    obtain ⟨yp, y2, rfl, hyp, hy2⟩ := hz.split
    simp only [AV.rels, AV.rel] at hy2
    obtain ⟨_, _, rfl, ⟨_, A1, cp1, rfl, a1, a2, _, a3⟩, _, _, rfl, ⟨_, A2, cp2, rfl, b1, b2, _, b3⟩, rfl⟩ := hy2
    have l1 : look [(k1, some (⟨true, true, c1⟩ : ABlk)), (k2, some ⟨true, true, c2⟩)] k1 = some ⟨true, true, c1⟩ := by rw [look_cons, if_pos rfl]
    have l2 : look [(k1, some (⟨true, true, c1⟩ : ABlk)), (k2, some ⟨true, true, c2⟩)] k2 = some ⟨true, true, c2⟩ := by rw [look_cons, if_neg hne, look_cons, if_pos rfl]
    obtain ⟨_, hok1⟩ := hm2.blk k1 _ l1
    obtain ⟨_, hok2⟩ := hm2.blk k2 _ l2
    have f1 : w.heap.size ≤ (ρ2 k1).b := (mv.fresh _ ⟨k1, _, l1, rfl, rfl⟩).resolve_left (hnw _)
    have f2 : w.heap.size ≤ (ρ2 k2).b := (mv.fresh _ ⟨k2, _, l2, rfl, rfl⟩).resolve_left (hnw _)
    have ro : ∀ (c : Cont) (k : Nat), c.ground = true → c.plain = true → (⟨true, true, c⟩ : ABlk).ok ρ2 top (ρ2 k) w' → (⟨false, false, c⟩ : ABlk).ok ρ2 0 (ρ2 k) w' := fun c k hg hp h =>
      ⟨.inl (h.lt.resolve_right (wr_not_void rfl)), Cont.rel_ground hg h.rel, (fun h => by cases h), (fun h => by cases h), fun q hq => absurd hq (Cont.plain_ne hp q)⟩
    exact fin _ w' ρ2 _ _ _ _ _ _ mv.os mv.tape mv.output mv.size (fun g hg => mv.keep g hg (hnw g)) (ro c1 k1 hg1 hp1 hok1) (.inl f1) (ro c2 k2 hg2 hp2 hok2) (.inl f2) ⟨A1, cp1, rfl, a1, a2, a3⟩ ⟨A2, cp2, rfl, b1, b2, b3⟩ (fun ρ' => AV.grounds_rels _ _ hpre hyp) (fun ρ' => AV.grounds_rels _ _ hrest hys) rfl
end
end Go.Proofs.YtpmcflidggofkaaDoor

namespace Go.Proofs.YtpmcflidggofkaaDoor
open Go Go.RowKit
set_option maxRecDepth 100000
set_option maxHeartbeats 4000000
abbrev scRes := (Nat → Int) × List (List Int × Int) × Int × Int
/-- What a text's script is. -/
def spF (r : (Nat → Int) × Bool × (List (List Int × Int) × Int × Int)) : scRes := bif r.2.2.2.2 != 0 then (g0, [], r.2.2.2.1, r.2.2.2.2) else bif r.2.1 then (r.1, r.2.2.1, 0, 0) else (g0, [], 0, 6)
def nlP (s : ByteArray) : List ByteArray := (pcs 10 s.data.toList).map mkB
def spV (s : ByteArray) : scRes := spF (sc1 (nlP s) 0)
abbrev rowsC (c : Nat → List Int) : Cont := .rows [.ints .i64 (c 0), .ints .i64 (c 1), .ints .i64 (c 2), .ints .i64 (c 3), .ints .i64 (c 4)]
theorem rowsC_void (r c' : Nat) (a : AV) : (rowsC (colK [])).at r c' ≠ some (a, true) := by
  intro h
  simp only [rowsC, Cont.at] at h
  split at h
  · rename_i cl hcl
    have : cl = .ints .i64 [] := by
      have hm := List.mem_of_getElem? hcl
      simpa [colK] using hm
    subst this
    simp [Col.at] at h
  · cases h
theorem lines_void (r c' : Nat) (a : AV) : (Cont.col (.ints .i64 (linK []))).at r c' ≠ some (a, true) := by
  intro h
  cases c' <;> simp [Cont.at, Col.at, linK] at h
theorem results_lines : ((Tryd.f72).results.toList.all fun r => match r with | .tmp _ => true | _ => false) = true := by kernel_rfl
/-- One of three ends. -/
theorem parse_ends (x : Int) (s : ByteArray) (hs : s.size < 4294967281) :
    ((spV s).2.1 = [] ∧ ∃ m', Gives_ Tryd.prog Tryd.f35 1 (enterA Tryd.f35 (bodyOf Tryd.f35) [vs s] (mlM [x])) (prV (spV s).1 nilV nilV (spV s).2.2.1 (spV s).2.2.2) m') ∨
    (∃ k1 k2, k1 ≠ k2 ∧ Gives_ Tryd.prog Tryd.f35 1 (enterA Tryd.f35 (bodyOf Tryd.f35) [vs s] (mlM [x])) (prV (spV s).1 (slR k1 (spV s).2.1.length) (slN k2 (spV s).2.1.length) (spV s).2.2.1 (spV s).2.2.2) ⟨[(k1, rowC (colK (spV s).2.1)), (k2, zsB (linK (spV s).2.1))], 299⟩) := by
  have hP := ph1 x s (nlP s) s 0 rfl hs
  have hin : Goes Tryd.prog 14 (enterA Tryd.f85 (bodyOf Tryd.f85) [.yld 13, .ptr 11 1 0 0, .ptr 10 1 0 0, .ptr 12 1 0 0] ⟨(13, lpB (rg Tryd.f72 0) 0 none tm1) :: (mA (rg Tryd.f35 0) x 0 0 0 g0 nilV nilV false s 0 none ++ mR s), 14⟩) (scS (rg Tryd.f35 0) (rg Tryd.f72 0) (hd Tryd.f85 1) x 0 g0 false s s []) :=
    F_head (m := ⟨(13, lpB (rg Tryd.f72 0) 0 none tm1) :: (mA (rg Tryd.f35 0) x 0 0 0 g0 nilV nilV false s 0 none ++ mR s), 14⟩) env_nil mixed rfl rfl (q_begin x s)
  -- the lines' iterator, from what the pieces' one leaves
  have step1 : ∀ (n r2 r3 : Int) (g : Nat → Int) (so sl : AV) (bg : Bool) (st : Nat) (pe : Option Code) (k1 k2 : Nat) (ob lb : Option ABlk) (m3 : MS),
      Gives_ Tryd.prog Tryd.f85 14 (scS (rg Tryd.f35 0) (rg Tryd.f72 0) (hd Tryd.f85 1) x 0 g0 false s s []) (.tup []) (scFin (rg Tryd.f35 0) (rg Tryd.f72 0) x n r2 r3 g so sl bg s st pe k1 k2 ob lb) →
      Gives_ Tryd.prog Tryd.f72 8 ⟨jumpI pe (rg Tryd.f72 0).tail, tm1, ⟨upd (scFin (rg Tryd.f35 0) (rg Tryd.f72 0) x n r2 r3 g so sl bg s st pe k1 k2 ob lb).bl 13 none, 99⟩⟩ (.tup []) m3 →
      Gives_ Tryd.prog Tryd.f72 8 (enterA Tryd.f72 (bodyOf Tryd.f72) [.yld 7, .ptr 6 1 0 0] ⟨(7, lpB (rg Tryd.f35 0) 0 none tm0) :: pM0 x s, 8⟩) (.tup []) m3 := fun n r2 r3 g so sl bg st pe k1 k2 ob lb m3 h1 h2 => by
    refine (F_head (m := ⟨(7, lpB (rg Tryd.f35 0) 0 none tm0) :: pM0 x s, 8⟩) hE_ll mixed rfl rfl (l_begin x s)).gives ?_
    exact range_at (m := ⟨mA (rg Tryd.f35 0) x 0 0 0 g0 nilV nilV false s 0 none ++ mR s, 13⟩) (j := pe) (st := st) (fn := Tryd.f85) (c := bodyOf Tryd.f85) (gf := 85) (gi := 85) (first := []) (cap := [.ptr 11 1 0 0, .ptr 10 1 0 0, .ptr 12 1 0 0]) (u := .tup []) (by kernel_rfl) (by kernel_rfl) (fun xs w => Tryd.call85 xs w) Tryd.func85 rfl (hin.gives h1) (by rfl) (show (8 : Nat) ≤ 13 by omega) results_lines h2
  have step0 : ∀ (r2 r3 : Int) (g : Nat → Int) (so sl : AV) (bg : Bool) (st : Nat) (pe : Option Code) (k1 k2 : Nat) (ob lb : Option ABlk) (v : AV) (m3 : MS),
      Gives_ Tryd.prog Tryd.f72 8 (enterA Tryd.f72 (bodyOf Tryd.f72) [.yld 7, .ptr 6 1 0 0] ⟨(7, lpB (rg Tryd.f35 0) 0 none tm0) :: pM0 x s, 8⟩) (.tup []) (lE (rg Tryd.f35 0) x r2 r3 g so sl bg s st pe k1 k2 ob lb) →
      GivesK Tryd.prog Tryd.f35 1 ⟨jumpI pe (rg Tryd.f35 0).tail, tm0, ⟨upd (lE (rg Tryd.f35 0) x r2 r3 g so sl bg s st pe k1 k2 ob lb).bl 7 none, 199⟩⟩ v m3 →
      Gives_ Tryd.prog Tryd.f35 1 (enterA Tryd.f35 (bodyOf Tryd.f35) [vs s] (mlM [x])) v m3 := fun r2 r3 g so sl bg st pe k1 k2 ob lb v m3 h1 h2 => by
    refine (F_head (m := mlM [x]) hE_pl mixed rfl rfl (p_begin x s)).gives ?_
    exact range_atK (m := ⟨pM0 x s, 7⟩) (j := pe) (st := st) (fn := Tryd.f72) (c := bodyOf Tryd.f72) (gf := 72) (gi := 72) (first := []) (cap := [.ptr 6 1 0 0]) (u := .tup []) (by kernel_rfl) (by kernel_rfl) (fun xs w => Tryd.call72 xs w) Tryd.func72 rfl h1 (by rfl) (show (1 : Nat) ≤ 7 by omega) h2
  unfold spV
  generalize sc1 (nlP s) 0 = r at hP
  obtain ⟨g, bg, ops, ln, er⟩ := r
  rcases hP with ⟨h1, h2, n, k1, k2, hk, hg⟩ | ⟨h1, n, g', so, sl, bg', ob, lb, hg⟩
  · simp only at h1 h2 hg
    subst h1 h2
    have e0 : spF (g, bg, ops, 0, 0) = bif bg then (g, ops, 0, 0) else (g0, [], 0, 6) := rfl
    rw [e0]
    rcases hk with ⟨rfl, rfl⟩ | ⟨rfl, rfl⟩
    · have hl := step1 _ _ _ _ _ _ _ _ _ _ _ _ _ _ hg (H_ret env_nil mixed rfl (l_end0 x n 0 0 g (opR 14 ops) (opN 15 ops) bg s (opB ops) (opL ops)))
      cases bg with
      | false => exact .inl ⟨rfl, _, step0 _ _ _ _ _ _ _ _ _ _ _ _ _ _ hl (HE_retK env_nil mixed rfl (p_endN x 0 0 g _ _ s _ _) rfl)⟩
      | true =>
        cases ops with
        | nil => exact .inl ⟨rfl, _, step0 _ _ _ _ _ _ _ _ _ _ _ _ _ _ hl (HE_retK env_nil mixed rfl (p_end0 x 0 0 g s _ _) rfl)⟩
        | cons o ops => exact .inr ⟨14, 15, by decide, step0 _ _ _ _ _ _ _ _ _ _ _ _ _ _ hl (HE_retK env_nil mixed rfl (p_endA x 0 0 g _ _ _ s) rfl)⟩
    · have hl := step1 _ _ _ _ _ _ _ _ _ _ _ _ _ _ hg (H_ret env_nil mixed rfl (l_end8 x n 0 0 g (opR 18 ops) (opN 20 ops) bg s (opB ops) (opL ops)))
      cases bg with
      | false => exact .inl ⟨rfl, _, step0 _ _ _ _ _ _ _ _ _ _ _ _ _ _ hl (HE_retK env_nil mixed rfl (p_endN8 x 0 0 g _ _ s _ _) rfl)⟩
      | true =>
        cases ops with
        | nil => exact .inl ⟨rfl, _, step0 _ _ _ _ _ _ _ _ _ _ _ _ _ _ hl (HE_retK env_nil mixed rfl (p_end08 x 0 0 g s _ _) rfl)⟩
        | cons o ops => exact .inr ⟨18, 20, by decide, step0 _ _ _ _ _ _ _ _ _ _ _ _ _ _ hl (HE_retK env_nil mixed rfl (p_endB x 0 0 g _ _ _ s) rfl)⟩
  · simp only at h1 hg
    have e0 : spF (g, bg, ops, ln, er) = (g0, [], ln, er) := by
      unfold spF
      rw [bne_iff_ne.2 h1]
      rfl
    rw [e0]
    have hl := step1 _ _ _ _ _ _ _ _ _ _ _ _ _ _ hg (H_ret env_nil mixed rfl (l_end1 x n ln er g' so sl bg' s ob lb))
    exact .inl ⟨rfl, _, step0 _ _ _ _ _ _ _ _ _ _ _ _ _ _ hl (HE_retK env_nil mixed rfl (p_end1 x ln er g' so sl bg' s ob lb) rfl)⟩
abbrev spA (m : MS) (r : scRes) : AV := .tup [.agg (gC r.1 ++ [.sl false m.nx 5 0 1 r.2.1.length none, .sl false (m.nx + 1) 1 0 1 r.2.1.length none]), vi r.2.2.1, vi r.2.2.2]
abbrev spM (m : MS) (r : scRes) : MS := ⟨(m.nx + 1, some ⟨false, false, .col (.ints .i64 (linK r.2.1))⟩) :: (m.nx, some ⟨false, false, rowsC (colK r.2.1)⟩) :: m.bl, m.nx + 1 + 1⟩
def e_sp : Spec := fun m args => match args with
  | [.val (.string s)] => match isMl m with
    | true => some (spA m (spV s), some (spM m (spV s)), [Nat.blt s.size 4294967281])
    | false => none
  | _ => none
theorem ok_sp : SpecOk Tryd.prog 35 e_sp := fun m args v mo bs h hb => by
  unfold e_sp at h
  split at h <;> try cases h
  rename_i s
  split at h <;> try cases h
  rename_i hm
  obtain ⟨l, x, wr, op, hl⟩ := isMl_sim hm
  simp only [List.all_cons, List.all_nil, id, Bool.and_true, Nat.blt_eq] at hb
  refine lift_two (m1 := mlM [x]) (args1 := [vs s]) (pre := gC (spV s).1) (rest := [vi (spV s).2.2.1, vi (spV s).2.2.2]) rfl rfl rfl rfl rfl rfl rfl (fun ρ w xs hm hx => ?_) ?_
  · refine ⟨fun _ => ρ l, mrel_one (hm.view hl rfl _ _), ?_⟩
    simp only [AV.rels, AV.rel] at hx ⊢
    exact hx
  · rcases parse_ends x s hb with ⟨h0, m', hg⟩ | ⟨k1, k2, hk, hg⟩
    · refine .inl ?_
      rw [h0]
      exact ⟨rfl, rfl, rowsC_void, lines_void, m', fsound (c := bodyOf Tryd.f35) (fun xs w => Tryd.call35 xs w) Tryd.func35 rfl hg⟩
    · exact .inr ⟨k1, k2, 299, hk, fsound (c := bodyOf Tryd.f35) (fun xs w => Tryd.call35 xs w) Tryd.func35 rfl hg⟩
end Go.Proofs.YtpmcflidggofkaaDoor

namespace Go.Proofs.YtpmcflidggofkaaDoor
open Go Go.RowKit
set_option maxRecDepth 100000
set_option maxHeartbeats 4000000
abbrev L_s42 : List (FuncId × Spec) := [(51, e_cut), (25, e_rp), (19, e_rkl)]
theorem hE_s42 : ESound Tryd.prog (envOf L_s42) := env_cons ok_cut (env_cons ok_rp (env_cons ok_rkl env_nil))
abbrev zV : List Nat := [2, 5, 6, 7, 8]
abbrev zC (k1 k2 nx : Nat) : List Cut := [(0, zV, [0, 1, 2, k1, k2], nx), (1, zV, [0, 1, 2, k1, k2], nx), (2, zV, [0, 1, 2, k1, k2], nx), (3, zV, [0, 1, 2, k1, k2], nx)]
abbrev zT (bg : Bool) (n : Nat) (i : Int) : List AV := [.unk, .unk, .ptr 0 1 0 0, .unk, .unk, .ptr 1 1 0 0, vb bg, .sl false 2 1 0 1 n none, vi i] ++ List.replicate 74 .unk
abbrev zM (g : Nat → Int) (so sl : AV) (ss : List ByteArray) (k1 k2 : Nat) (ob lb : Option ABlk) (nx : Nat) : MS := ⟨[(0, some ⟨true, false, .cells [vi 0, vi 0, vi 0, vi 0, vi 0, nilV, nilV]⟩), (1, some ⟨true, false, .cells (gC g ++ [so, sl])⟩), (2, some ⟨false, false, .col (.strs ss)⟩), (k1, ob), (k2, lb)], nx⟩
abbrev zF (ss : List ByteArray) (i : Int) : ByteArray := ss.getD (smJ i) ⟨#[]⟩
abbrev zO2 (ss : List ByteArray) (n : Nat) (i : Int) : List Bool := [decide (0 ≤ i), decide (i.toNat < n), decide (smJ i < ss.length)]
abbrev zO1 (ss : List ByteArray) (n : Nat) (i : Int) (f : ByteArray) : List Bool := [decide (i < Int.ofNat n), decide (0 ≤ i), decide (i.toNat < n), decide (smJ i < ss.length), !!(Int.ofNat f.size == 0) || decide (0 ≤ i), !!(Int.ofNat f.size == 0) || decide (i.toNat < n), !!(Int.ofNat f.size == 0) || decide (smJ i < ss.length), !!(Int.ofNat f.size == 0) || true, !!(Int.ofNat f.size == 0) || decide (0 < f.size)]
abbrev zSk (f : ByteArray) : Bool := bif Int.ofNat f.size == 0 then true else byteAt f 0 == 35
abbrev zH (hh : List Item) (bg : Bool) (n : Nat) (i : Int) (m : MS) (bs : List Bool) : Option Fin_ := some (.head hh (zT bg n i) m (conj bs))
abbrev zR (v : AV) (m : MS) (bs : List Bool) : Option Fin_ := some (.ret v m (conj bs))
theorem z_begin (s : ByteArray) : F_ Tryd.prog L_s42 Tryd.f36 (zC 3 4 5) [] 99 [vs s] noMem = zH (hd Tryd.f36 0) false (cutV s 10).length 0 (zM g0 nilV nilV (cutV s 10) 3 4 none none 5) [Nat.ble s.size 4294967296] := by kernel_rfl
theorem zA0 (g : Nat → Int) (ss : List ByteArray) (n : Nat) (i : Int) (bg : Bool) : HO_ Tryd.prog L_s42 Tryd.f36 (zC 3 4 5) [] 99 [1, 1] (hd Tryd.f36 0) (zT bg n i) (zM g nilV nilV ss 3 4 none none 5) = zH (hd Tryd.f36 0) bg n (nx1 i) (zM g nilV nilV ss 3 4 none none 5) (zO1 ss n i (zF ss i) ++ [zSk (zF ss i)]) := by kernel_rfl
theorem zA1 (g : Nat → Int) (ss : List ByteArray) (n : Nat) (i : Int) (p : Nat) (c : Nat → List Int) (l : List Int) : HO_ Tryd.prog L_s42 Tryd.f36 (zC 3 4 5) [] 99 [1, 1] (hd Tryd.f36 0) (zT true n i) (zM g (slR 3 p) (slN 4 p) ss 3 4 (rowC c) (zsB l) 5) = zH (hd Tryd.f36 0) true n (nx1 i) (zM g (slR 3 p) (slN 4 p) ss 3 4 (rowC c) (zsB l) 5) (zO1 ss n i (zF ss i) ++ [zSk (zF ss i)]) := by kernel_rfl
theorem zB (g : Nat → Int) (ss : List ByteArray) (n : Nat) (i : Int) : HO_ Tryd.prog L_s42 Tryd.f36 (zC 3 4 5) [] 99 [1, 0, 1, 1] (hd Tryd.f36 0) (zT false n i) (zM g nilV nilV ss 3 4 none none 5) = zR (prV g0 nilV nilV (nx1 i) (cpE (zF ss i))) ⟨[], 99⟩ (zO1 ss n i (zF ss i) ++ [!zSk (zF ss i)] ++ zO2 ss n i ++ [Nat.blt (zF ss i).size 4294967281, cpE (zF ss i) != 0]) := by kernel_rfl
theorem zCf (g : Nat → Int) (ss : List ByteArray) (n : Nat) (i : Int) : HO_ Tryd.prog L_s42 Tryd.f36 (zC 3 4 5) [] 99 [1, 0, 1, 0] (hd Tryd.f36 0) (zT false n i) (zM g nilV nilV ss 3 4 none none 5) = zH (hd Tryd.f36 0) true n (nx1 i) (zM (cpG (zF ss i)) nilV nilV ss 3 4 none none 5) (zO1 ss n i (zF ss i) ++ [!zSk (zF ss i)] ++ zO2 ss n i ++ [Nat.blt (zF ss i).size 4294967281, !(cpE (zF ss i) != 0)]) := by kernel_rfl
theorem zD0 (g : Nat → Int) (ss : List ByteArray) (n : Nat) (i : Int) : HO_ Tryd.prog L_s42 Tryd.f36 (zC 3 4 5) [] 99 [1, 0, 0, 1] (hd Tryd.f36 0) (zT true n i) (zM g nilV nilV ss 3 4 none none 5) = zR (prV g0 nilV nilV (nx1 i) (rcEr (zF ss i))) ⟨[], 99⟩ (zO1 ss n i (zF ss i) ++ [!zSk (zF ss i)] ++ [!false] ++ zO2 ss n i ++ [Nat.blt (zF ss i).size 4294967281, rcEr (zF ss i) != 0]) := by kernel_rfl
theorem zD1 (g : Nat → Int) (ss : List ByteArray) (n : Nat) (i : Int) (p : Nat) (c : Nat → List Int) (l : List Int) : HO_ Tryd.prog L_s42 Tryd.f36 (zC 3 4 5) [] 99 [1, 0, 0, 1] (hd Tryd.f36 0) (zT true n i) (zM g (slR 3 p) (slN 4 p) ss 3 4 (rowC c) (zsB l) 5) = zR (prV g0 nilV nilV (nx1 i) (rcEr (zF ss i))) ⟨[], 99⟩ (zO1 ss n i (zF ss i) ++ [!zSk (zF ss i)] ++ [!false] ++ zO2 ss n i ++ [Nat.blt (zF ss i).size 4294967281, rcEr (zF ss i) != 0]) := by kernel_rfl
theorem zF0 (g : Nat → Int) (ss : List ByteArray) (n : Nat) (i : Int) : HO_ Tryd.prog L_s42 Tryd.f36 (zC 7 9 10) [] 99 [1, 0, 0, 0] (hd Tryd.f36 0) (zT true n i) (zM g nilV nilV ss 3 4 none none 5) = zH (hd Tryd.f36 0) true n (nx1 i) (zM g (slR 7 1) (slN 9 1) ss 7 9 (rowC (fun k => [rcG (zF ss i) k])) (zsB [nx1 i]) 10) (zO1 ss n i (zF ss i) ++ [!zSk (zF ss i)] ++ [!false] ++ zO2 ss n i ++ [Nat.blt (zF ss i).size 4294967281, !(rcEr (zF ss i) != 0)] ++ []) := by kernel_rfl
theorem zF1 (g : Nat → Int) (ss : List ByteArray) (n : Nat) (i : Int) (p : Nat) (c : Nat → List Int) (l : List Int) : HO_ Tryd.prog L_s42 Tryd.f36 (zC 7 9 10) [] 99 [1, 0, 0, 0] (hd Tryd.f36 0) (zT true n i) (zM g (slR 3 p) (slN 4 p) ss 3 4 (rowC c) (zsB l) 5) = zH (hd Tryd.f36 0) true n (nx1 i) (zM g (slR 7 (p + 1)) (slN 9 (p + 1)) ss 7 9 (rowC (fun k => (c k).take p ++ [rcG (zF ss i) k])) (zsB (l.take p ++ [nx1 i])) 10) (zO1 ss n i (zF ss i) ++ [!zSk (zF ss i)] ++ [!false] ++ zO2 ss n i ++ [Nat.blt (zF ss i).size 4294967281, !(rcEr (zF ss i) != 0)] ++ [decide (0 < p), decide ((p + 1) * 40 ≤ 140737488355328), decide (p ≤ (c 0).length), decide (p ≤ (c 1).length), decide (p ≤ (c 2).length), decide (p ≤ (c 3).length), decide (p ≤ (c 4).length), decide (0 < p), decide ((p + 1) * 8 ≤ 140737488355328), decide (p ≤ l.length)]) := by kernel_rfl
theorem zE6 (g : Nat → Int) (ss : List ByteArray) (n : Nat) (i : Int) : HO_ Tryd.prog L_s42 Tryd.f36 [] [] 99 [0, 1] (hd Tryd.f36 0) (zT false n i) (zM g nilV nilV ss 3 4 none none 5) = zR (prV g0 nilV nilV 0 6) ⟨[], 99⟩ [!decide (i < Int.ofNat n)] := by kernel_rfl
theorem zE0 (g : Nat → Int) (ss : List ByteArray) (n : Nat) (i : Int) : HO_ Tryd.prog L_s42 Tryd.f36 [] [] 99 [0, 0] (hd Tryd.f36 0) (zT true n i) (zM g nilV nilV ss 3 4 none none 5) = zR (prV g nilV nilV 0 0) ⟨[], 99⟩ [!decide (i < Int.ofNat n)] := by kernel_rfl
theorem zE1 (g : Nat → Int) (ss : List ByteArray) (n : Nat) (i : Int) (p : Nat) (c : Nat → List Int) (l : List Int) : HO_ Tryd.prog L_s42 Tryd.f36 [] [3, 4] 99 [0, 0] (hd Tryd.f36 0) (zT true n i) (zM g (slR 3 p) (slN 4 p) ss 3 4 (rowC c) (zsB l) 5) = zR (prV g (slR 3 p) (slN 4 p) 0 0) ⟨[(3, rowC c), (4, zsB l)], 99⟩ [!decide (i < Int.ofNat n)] := by kernel_rfl
theorem zSk_eq (f : ByteArray) : zSk f = skB f := by
  unfold zSk skB
  rw [emp_eq]
theorem zO2_ok {ss : List ByteArray} {n i : Nat} (h : i < n) (hn : ss.length = n) : conj (zO2 ss n (i : Int)) = true := by
  unfold zO2
  rw [smJ_eq, Int.toNat_natCast, decide_eq_true (show (0 : Int) ≤ i by omega), decide_eq_true h, decide_eq_true (show i < ss.length by omega)]
  rfl
theorem zO1_ok {ss : List ByteArray} {n i : Nat} (h : i < n) (hn : ss.length = n) (f : ByteArray) : conj (zO1 ss n (i : Int) f) = true := by
  unfold zO1
  rw [smJ_eq, Int.toNat_natCast, decide_eq_true (show (0 : Int) ≤ i by omega), decide_eq_true h, decide_eq_true (show i < ss.length by omega), decide_eq_true (show (i : Int) < Int.ofNat n by show (i : Int) < (n : Int); omega)]
  by_cases h0 : f.size = 0
  · rw [h0]; rfl
  · rw [decide_eq_true (show 0 < f.size by omega)]
    cases (Int.ofNat f.size == 0) <;> rfl
theorem nx1_eq {i : Nat} (h : i ≤ 4294967296) : nx1 (i : Int) = ((i + 1 : Nat) : Int) := by unfold nx1; rw [IntWalk.i64_in _ (by omega)]; rfl
/-- How it ends. -/
def zDone (f : Func) (S : St) (r : scRes) : Prop :=
  (r.2.1 = [] ∧ ∃ m', Gives_ Tryd.prog f 0 S (prV r.1 nilV nilV r.2.2.1 r.2.2.2) m') ∨ Gives_ Tryd.prog f 0 S (prV r.1 (slR 3 r.2.1.length) (slN 4 r.2.1.length) r.2.2.1 r.2.2.2) ⟨[(3, rowC (colK r.2.1)), (4, zsB (linK r.2.1))], 99⟩
theorem zDone.of_goes {f : Func} {S S' : St} {r : scRes} (h : Goes Tryd.prog 0 S S') (h' : zDone f S' r) : zDone f S r := by
  rcases h' with ⟨h1, m', hg⟩ | hg
  · exact .inl ⟨h1, m', h.gives hg⟩
  · exact .inr (h.gives hg)
abbrev zS (hh : List Item) (bg : Bool) (n : Nat) (i : Int) (g : Nat → Int) (ss : List ByteArray) (ops : List (List Int × Int)) : St := ⟨hh, zT bg n i, zM g (opR 3 ops) (opN 4 ops) ss 3 4 (opB ops) (opL ops) 5⟩
theorem drop_at {ss : List ByteArray} {i : Nat} (h : i < ss.length) : ss.drop i = ss.getD i ⟨#[]⟩ :: ss.drop (i + 1) := by
  rw [List.drop_eq_getElem_cons h, List.getD_eq_getElem?_getD, List.getElem?_eq_getElem h]
  rfl
theorem z2 (g : Nat → Int) (ss : List ByteArray) (n : Nat) (hn : ss.length = n) (h32 : n ≤ 4294967282) (hsz : ∀ j, (ss.getD j ⟨#[]⟩).size < 4294967281) : ∀ (j i : Nat) (ops : List (List Int × Int)), i + j = n → ops.length ≤ i →
    zDone Tryd.f36 (zS (hd Tryd.f36 0) true n (i : Int) g ss ops) (spF (g, true, sc2 (ss.drop i) (i : Int) ops))
  | 0, i, ops, hi, _ => by
    rw [List.drop_eq_nil_of_le (by omega)]
    simp only [sc2]
    have hc : conj [!decide ((i : Int) < Int.ofNat n)] = true := by rw [decide_eq_false (show ¬ (i : Int) < Int.ofNat n by show ¬ (i : Int) < (n : Int); omega)]; rfl
    have e0 : spF (g, true, ops, 0, 0) = (g, ops, 0, 0) := rfl
    rw [e0]
    cases ops with
    | nil => exact .inl ⟨rfl, _, HO_ret hE_s42 mixed rfl (zE0 g ss n i) hc⟩
    | cons o ops => exact .inr (HO_ret hE_s42 mixed rfl (zE1 g ss n i (o :: ops).length (colK (o :: ops)) (linK (o :: ops))) hc)
  | j + 1, i, ops, hi, ho => by
    rw [drop_at (show i < ss.length by omega)]
    have hf : zF ss (i : Int) = ss.getD i ⟨#[]⟩ := by unfold zF; rw [smJ_eq]
    have hfs := hsz i
    have h1 := zO1_ok (show i < n by omega) hn (ss.getD i ⟨#[]⟩)
    have h2 := zO2_ok (show i < n by omega) hn
    have hnx := nx1_eq (show i ≤ 4294967296 by omega)
    generalize ss.getD i ⟨#[]⟩ = f at *
    simp only [sc2]
    rw [hnx]
    cases hs : skB f with
    | true =>
      rw [cond_true]
      refine zDone.of_goes ?_ (z2 g ss n hn h32 hsz j (i + 1) ops (by omega) (by omega))
      have hc : conj (zO1 ss n (i : Int) f ++ [zSk f]) = true := conj_app _ _ h1 (by rw [zSk_eq, hs]; rfl)
      cases ops with
      | nil =>
        have h := zA0 g ss n i true
        rw [hf, hnx] at h
        exact HO_head hE_s42 mixed rfl h hc
      | cons o ops =>
        have h := zA1 g ss n i (o :: ops).length (colK (o :: ops)) (linK (o :: ops))
        rw [hf, hnx] at h
        exact HO_head hE_s42 mixed rfl h hc
    | false =>
      rw [cond_false]
      have hsk : conj [!zSk f] = true := by rw [zSk_eq, hs]; rfl
      cases he : (rcEr f != 0) with
      | true =>
        rw [cond_true]
        have e0 : spF (g, true, [], ((i + 1 : Nat) : Int), rcEr f) = (g0, [], ((i + 1 : Nat) : Int), rcEr f) := by
          unfold spF
          rw [he]
          rfl
        rw [e0]
        have hc : conj (zO1 ss n (i : Int) f ++ [!zSk f] ++ [!false] ++ zO2 ss n (i : Int) ++ [Nat.blt f.size 4294967281, rcEr f != 0]) = true := conj5 h1 hsk rfl h2 (by rw [blt_ok hfs, he]; rfl)
        cases ops with
        | nil =>
          have h := zD0 g ss n i
          rw [hf, hnx] at h
          exact .inl ⟨rfl, _, HO_ret hE_s42 mixed rfl h hc⟩
        | cons o ops =>
          have h := zD1 g ss n i (o :: ops).length (colK (o :: ops)) (linK (o :: ops))
          rw [hf, hnx] at h
          exact .inl ⟨rfl, _, HO_ret hE_s42 mixed rfl h hc⟩
      | false =>
        rw [cond_false]
        have IH := z2 g ss n hn h32 hsz j (i + 1) (ops ++ [(rcL f, ((i + 1 : Nat) : Int))]) (by omega) (by simp; omega)
        refine zDone.of_goes ?_ IH
        have hσ : ∀ (c : Nat → List Int) (l : List Int) (p : Nat), Goes Tryd.prog 0 ⟨hd Tryd.f36 0, zT true n ((i + 1 : Nat) : Int), zM g (slR 7 p) (slN 9 p) ss 7 9 (rowC c) (zsB l) 10⟩ ⟨hd Tryd.f36 0, zT true n ((i + 1 : Nat) : Int), zM g (slR 3 p) (slN 4 p) ss 3 4 (rowC c) (zsB l) 5⟩ := fun c l p =>
          Goes.ren (σ := [(0, 0), (1, 1), (2, 2), (3, 7), (4, 9)]) (nx := 5) rfl
        have hm : conj (zO1 ss n (i : Int) f ++ [!zSk f] ++ [!false] ++ zO2 ss n (i : Int) ++ [Nat.blt f.size 4294967281, !(rcEr f != 0)]) = true := conj5 h1 hsk rfl h2 (by rw [blt_ok hfs, he]; rfl)
        cases ops with
        | nil =>
          have h := zF0 g ss n i
          rw [hf, hnx] at h
          exact (HO_head hE_s42 mixed rfl h (conj_app _ _ hm rfl)).trans (hσ _ _ _)
        | cons o ops =>
          have h := zF1 g ss n i (o :: ops).length (colK (o :: ops)) (linK (o :: ops))
          rw [hf, hnx, rowC_congr (col_app (o :: ops) (rcL f, ((i + 1 : Nat) : Int))), lin_app (o :: ops) (rcL f, ((i + 1 : Nat) : Int))] at h
          have hl : (o :: ops).length + 1 = (o :: ops ++ [(rcL f, ((i + 1 : Nat) : Int))]).length := by simp
          have g0 := (HO_head (B := 0) hE_s42 mixed rfl h (conj_app _ _ hm (grow_ok (o :: ops) (by simp) (by omega)))).trans (hσ _ _ _)
          rw [hl] at g0
          exact g0
theorem z1 (ss : List ByteArray) (n : Nat) (hn : ss.length = n) (h32 : n ≤ 4294967282) (hsz : ∀ j, (ss.getD j ⟨#[]⟩).size < 4294967281) : ∀ (j i : Nat), i + j = n →
    zDone Tryd.f36 (zS (hd Tryd.f36 0) false n (i : Int) g0 ss []) (spF (sc1 (ss.drop i) (i : Int)))
  | 0, i, hi => by
    rw [List.drop_eq_nil_of_le (by omega)]
    have hc : conj [!decide ((i : Int) < Int.ofNat n)] = true := by rw [decide_eq_false (show ¬ (i : Int) < Int.ofNat n by show ¬ (i : Int) < (n : Int); omega)]; rfl
    exact .inl ⟨rfl, _, HO_ret hE_s42 mixed rfl (zE6 g0 ss n i) hc⟩
  | j + 1, i, hi => by
    rw [drop_at (show i < ss.length by omega)]
    have hf : zF ss (i : Int) = ss.getD i ⟨#[]⟩ := by unfold zF; rw [smJ_eq]
    have hfs := hsz i
    have h1 := zO1_ok (show i < n by omega) hn (ss.getD i ⟨#[]⟩)
    have h2 := zO2_ok (show i < n by omega) hn
    have hnx := nx1_eq (show i ≤ 4294967296 by omega)
    generalize ss.getD i ⟨#[]⟩ = f at *
    simp only [sc1]
    rw [hnx]
    cases hs : skB f with
    | true =>
      rw [cond_true]
      refine zDone.of_goes ?_ (z1 ss n hn h32 hsz j (i + 1) (by omega))
      have hc : conj (zO1 ss n (i : Int) f ++ [zSk f]) = true := conj_app _ _ h1 (by rw [zSk_eq, hs]; rfl)
      have h := zA0 g0 ss n i false
      rw [hf, hnx] at h
      exact HO_head hE_s42 mixed rfl h hc
    | false =>
      rw [cond_false]
      have hsk : conj [!zSk f] = true := by rw [zSk_eq, hs]; rfl
      cases he : (cpE f != 0) with
      | true =>
        rw [cond_true]
        have e0 : spF (g0, true, [], ((i + 1 : Nat) : Int), cpE f) = (g0, [], ((i + 1 : Nat) : Int), cpE f) := by
          unfold spF
          rw [he]
          rfl
        rw [e0]
        have hc : conj (zO1 ss n (i : Int) f ++ [!zSk f] ++ zO2 ss n (i : Int) ++ [Nat.blt f.size 4294967281, cpE f != 0]) = true := conj4 h1 hsk h2 (by rw [blt_ok hfs, he]; rfl)
        have h := zB g0 ss n i
        rw [hf, hnx] at h
        exact .inl ⟨rfl, _, HO_ret hE_s42 mixed rfl h hc⟩
      | false =>
        rw [cond_false]
        refine zDone.of_goes ?_ (z2 (cpG f) ss n hn h32 hsz j (i + 1) [] (by omega) (by simp))
        have hc : conj (zO1 ss n (i : Int) f ++ [!zSk f] ++ zO2 ss n (i : Int) ++ [Nat.blt f.size 4294967281, !(cpE f != 0)]) = true := conj4 h1 hsk h2 (by rw [blt_ok hfs, he]; rfl)
        have h := zCf g0 ss n i
        rw [hf, hnx] at h
        exact HO_head hE_s42 mixed rfl h hc
/-- Cut at a line feed. -/
theorem cutF_nl (s : ByteArray) : ∀ (k i j : Nat) (ss : List ByteArray), i + k = s.size → j ≤ i → cutF s 10 i k j ss = ss ++ (addH ((s.data.toList.take i).drop j) (pcs 10 (s.data.toList.drop i))).map mkB
  | 0, i, j, ss, hi, hj => by
    have hd' : s.data.toList.drop i = [] := List.drop_eq_nil_of_le (by rw [sizeL]; omega)
    rw [hd']
    simp only [cutF, pcs, addH, List.append_nil, List.map_cons, List.map_nil]
    rw [← extL, mkB_list, show i = s.size by omega]
  | k + 1, i, j, ss, hi, hj => by
    have hil : i < s.data.toList.length := by rw [sizeL]; omega
    have hdr : s.data.toList.drop i = s.data.toList[i] :: s.data.toList.drop (i + 1) := List.drop_eq_getElem_cons hil
    have htk : (s.data.toList.take (i + 1)).drop j = (s.data.toList.take i).drop j ++ [s.data.toList[i]] := by
      rw [List.take_add_one, List.getElem?_eq_getElem hil, List.drop_append_of_le_length (by simp; omega)]
      rfl
    have hb : (byteAt s i == 10) = decide (s.data.toList[i] = 10) := by
      unfold byteAt
      rw [List.getD_eq_getElem?_getD, List.getElem?_eq_getElem hil, Option.getD_some, Bool.eq_iff_iff]
      simp only [beq_iff_eq, decide_eq_true_eq]
      constructor
      · intro h
        have : s.data.toList[i].toNat = 10 := by omega
        exact UInt8.toNat_inj.1 this
      · intro h
        rw [h]; rfl
    simp only [cutF]
    rw [hb, hdr]
    by_cases e : s.data.toList[i] = 10
    · rw [decide_eq_true e, cond_true, cutF_nl s k (i + 1) (i + 1) _ (by omega) (Nat.le_refl _), e, pcs_hit]
      rw [show (s.data.toList.take (i + 1)).drop (i + 1) = [] from List.drop_eq_nil_of_le (by simp; omega), addH_nil (pcs_ne _ _)]
      simp only [addH, List.append_nil, List.map_cons, List.append_assoc, List.singleton_append]
      rw [← extL, mkB_list]
    · rw [decide_eq_false e, cond_false, cutF_nl s k (i + 1) j ss (by omega) (by omega), htk, pcs_cons _ _ _ e, addH_addH _ _ (pcs_ne _ _)]
theorem cutN_eq (s : ByteArray) : cutV s 10 = nlP s := by
  unfold cutV nlP
  rw [cutF_nl s s.size 0 0 [] (by omega) (Nat.le_refl _)]
  simp only [List.take_zero, List.drop_nil, List.drop_zero, List.nil_append]
  rw [addH_nil (pcs_ne _ _)]
theorem z_all (s : ByteArray) (hs : s.size < 4294967281) : zDone Tryd.f36 (enterA Tryd.f36 (bodyOf Tryd.f36) [vs s] noMem) (spV s) := by
  have h := z_begin s
  have hb : conj [Nat.ble s.size 4294967296] = true := by rw [Nat.ble_eq_true_of_le (show s.size ≤ 4294967296 by omega)]; rfl
  have hl : (cutV s 10).length ≤ s.size + 1 := by
    have := cutF_len s 10 s.size 0 0 []
    rw [List.length_nil, Nat.zero_add] at this
    exact this
  have hsz : ∀ j, ((cutV s 10).getD j ⟨#[]⟩).size < 4294967281 := fun j => by
    rw [List.getD_eq_getElem?_getD]
    by_cases hj : j < (cutV s 10).length
    · rw [List.getElem?_eq_getElem hj]
      have := cutF_size s 10 s.size 0 0 [] (fun x hx => by cases hx) _ (List.getElem_mem hj)
      exact Nat.lt_of_le_of_lt this hs
    · rw [List.getElem?_eq_none (by omega)]
      show 0 < 4294967281
      omega
  unfold zH at h
  rw [hb] at h
  refine zDone.of_goes (F_head (f := Tryd.f36) (c := bodyOf Tryd.f36) hE_s42 mixed rfl rfl h) ?_
  have hz := z1 (cutV s 10) (cutV s 10).length rfl (by omega) hsz (cutV s 10).length 0 (by omega)
  rw [List.drop_zero, cutN_eq] at hz
  unfold spV
  rw [cutN_eq]
  exact hz
def e_s42 : Spec := fun m args => match args with
  | [.val (.string s)] => some (spA m (spV s), some (spM m (spV s)), [Nat.blt s.size 4294967281])
  | _ => none
theorem ok_s42 : SpecOk Tryd.prog 36 e_s42 := fun m args v mo bs h hb => by
  unfold e_s42 at h
  split at h <;> try cases h
  rename_i s
  simp only [List.all_cons, List.all_nil, id, Bool.and_true, Nat.blt_eq] at hb
  refine lift_two (m1 := noMem) (args1 := [vs s]) (pre := gC (spV s).1) (rest := [vi (spV s).2.2.1, vi (spV s).2.2.2]) rfl rfl rfl rfl rfl rfl rfl (fun ρ w xs hm hx => ⟨fun _ => ⟨0, 0, 0, 0⟩, mrel_none, ?_⟩) ?_
  · simp only [AV.rels, AV.rel] at hx ⊢
    exact hx
  · rcases z_all s hb with ⟨h0, m', hg⟩ | hg
    · refine .inl ?_
      rw [h0]
      exact ⟨rfl, rfl, rowsC_void, lines_void, m', fsound (c := bodyOf Tryd.f36) (fun xs w => Tryd.call36 xs w) Tryd.func36 rfl hg⟩
    · exact .inr ⟨3, 4, 99, by decide, fsound (c := bodyOf Tryd.f36) (fun xs w => Tryd.call36 xs w) Tryd.func36 rfl hg⟩
end Go.Proofs.YtpmcflidggofkaaDoor

namespace Go.Proofs.YtpmcflidggofkaaDoor
open Go Go.RowKit
set_option maxRecDepth 100000
set_option maxHeartbeats 4000000
def e_same2T : Spec := fun m args => match e_same2 m args with
  | some (.val (.bool b), none, bs) => some (vb true, none, b :: bs)
  | _ => none
theorem ok_same2T : SpecOk Tryd.prog 16 e_same2T := fun m args v mo bs h hb => by
  unfold e_same2T at h
  split at h
  · rename_i b bs0 h0
    cases h
    obtain ⟨h1, h2⟩ := all_cons hb
    subst h1
    exact ok_same2 m args _ _ _ h0 h2
  · cases h
abbrev isR (c : Nat → List Int) : Option ABlk := some ⟨false, false, rowsC c⟩
abbrev isM (c : Nat → List Int) (l : List Int) : MS := ⟨[(0, isR c), (1, some ⟨false, false, .col (.ints .i64 l)⟩), (2, isR c), (3, some ⟨false, false, .col (.ints .i64 l)⟩)], 4⟩
abbrev isX (g : Nat → Int) (a b n : Nat) : List AV := gC g ++ [.sl false a 5 0 1 n none, .sl false b 1 0 1 n none]
abbrev isV : List Nat := [2, 3, 5]
abbrev isC : List Cut := [(0, isV, [0, 1, 2, 3, 4, 5], 6), (1, isV, [0, 1, 2, 3, 4, 5], 6), (2, isV, [0, 1, 2, 3, 4, 5], 6)]
abbrev isT (i : Int) : List AV := [.unk, .unk, .ptr 4 1 0 0, .ptr 5 1 0 0, .unk, vi i] ++ List.replicate 48 .unk
abbrev isN (g : Nat → Int) (c : Nat → List Int) (l : List Int) (n : Nat) : MS := ⟨[(0, isR c), (1, some ⟨false, false, .col (.ints .i64 l)⟩), (2, isR c), (3, some ⟨false, false, .col (.ints .i64 l)⟩), (4, some ⟨true, false, .cells (isX g 0 1 n)⟩), (5, some ⟨true, false, .cells (isX g 2 3 n)⟩)], 6⟩
abbrev isQ (g : Nat → Int) (n : Nat) : Bool := bif !(g 0 == g 0 && (g 1 == g 1 && (g 2 == g 2 && (g 3 == g 3 && (g 4 == g 4 && true))))) then true else Int.ofNat n != Int.ofNat n
abbrev L_is : List (FuncId × Spec) := [(16, e_same2T)]
theorem hE_is : ESound Tryd.prog (envOf L_is) := env_cons ok_same2T env_nil
theorem is_begin (g : Nat → Int) (c : Nat → List Int) (l : List Int) (n : Nat) : FO_ Tryd.prog L_is Tryd.f37 isC [] 99 [0] [.agg (isX g 0 1 n), .agg (isX g 2 3 n)] (isM c l) =
    some (.head (hd Tryd.f37 0) (isT ((0 : Nat) : Int)) (isN g c l n) (conj [!!isQ g n || sameL (l.take n) (l.take n), !!isQ g n || Nat.ble n l.length, !!isQ g n || Nat.ble n l.length, !!isQ g n || Nat.ble n 9223372036854775807, !(bif isQ g n then true else false)])) := by kernel_rfl
def isJ (i : Int) : Nat := addN 0 (mulN i.toNat 1)
theorem isJ_eq (i : Nat) : isJ (i : Int) = i := by unfold isJ; rw [addN_eq, mulN_eq, Int.toNat_natCast]; omega
abbrev isE (c : Nat → List Int) (i : Int) : Bool := (c 0).getD (isJ i) 0 == (c 0).getD (isJ i) 0 && (((c 1).getD (isJ i) 0 == (c 1).getD (isJ i) 0 && ((c 2).getD (isJ i) 0 == (c 2).getD (isJ i) 0 && ((c 3).getD (isJ i) 0 == (c 3).getD (isJ i) 0 && ((c 4).getD (isJ i) 0 == (c 4).getD (isJ i) 0 && true)))) && true)
theorem is_round (g : Nat → Int) (c : Nat → List Int) (l : List Int) (n : Nat) (i : Int) : HO_ Tryd.prog L_is Tryd.f37 isC [] 99 [1, 0] (hd Tryd.f37 0) (isT i) (isN g c l n) =
    some (.head (hd Tryd.f37 0) (isT (nx1 i)) (isN g c l n) (conj [decide (i < Int.ofNat n), decide (0 ≤ i), decide (i.toNat < n), decide (isJ i < (c 0).length), decide (isJ i < (c 1).length), decide (isJ i < (c 2).length), decide (isJ i < (c 3).length), decide (isJ i < (c 4).length),
      decide (0 ≤ i), decide (i.toNat < n), decide (isJ i < (c 0).length), decide (0 ≤ i), decide (i.toNat < n), decide (isJ i < (c 1).length), decide (isJ i < (c 2).length), decide (isJ i < (c 3).length), decide (isJ i < (c 4).length), !!isE c i])) := by kernel_rfl
theorem is_end (g : Nat → Int) (c : Nat → List Int) (l : List Int) (n : Nat) (i : Int) : HO_ Tryd.prog L_is Tryd.f37 isC [] 99 [0] (hd Tryd.f37 0) (isT i) (isN g c l n) =
    some (.ret (vb true) ⟨[], 99⟩ (conj [!decide (i < Int.ofNat n)])) := by kernel_rfl
theorem is_go (g : Nat → Int) (c : Nat → List Int) (l : List Int) (n : Nat) (hc : ∀ k, n ≤ (c k).length) (h32 : n ≤ 4294967296) : ∀ i, i ≤ n → Goes Tryd.prog 4 ⟨hd Tryd.f37 0, isT ((0 : Nat) : Int), isN g c l n⟩ ⟨hd Tryd.f37 0, isT (i : Int), isN g c l n⟩
  | 0, _ => Goes.refl
  | i + 1, hi => by
    have h := is_round g c l n (i : Int)
    rw [nx1_eq (show i ≤ 4294967296 by omega)] at h
    refine (is_go g c l n hc h32 i (by omega)).trans (HO_head (hE_is) mixed rfl h ?_)
    clear h
    have hE : isE c (i : Int) = true := by
      unfold isE
      simp only [beq_self_eq_true, Bool.and_true]
    have f : ∀ k, i < (c k).length := fun k => Nat.lt_of_lt_of_le (show i < n by omega) (hc k)
    rw [hE, isJ_eq, Int.toNat_natCast, decide_eq_true (show (i : Int) < Int.ofNat n by show (i : Int) < (n : Int); omega), decide_eq_true (show (0 : Int) ≤ (i : Int) by omega), decide_eq_true (show i < n by omega), decide_eq_true (f 0), decide_eq_true (f 1), decide_eq_true (f 2), decide_eq_true (f 3), decide_eq_true (f 4)]
    rfl
theorem is_all (g : Nat → Int) (c : Nat → List Int) (l : List Int) (n : Nat) (hc : ∀ k, n ≤ (c k).length) (hl : n ≤ l.length) (h32 : n ≤ 4294967296) : Gives_ Tryd.prog Tryd.f37 4 (enterA Tryd.f37 (bodyOf Tryd.f37) [.agg (isX g 0 1 n), .agg (isX g 2 3 n)] (isM c l)) (vb true) ⟨[], 99⟩ := by
  have h := is_begin g c l n
  have hq : isQ g n = false := by
    unfold isQ
    simp only [beq_self_eq_true, Bool.and_true, Bool.not_true, cond_false, bne_self_eq_false]
  have hs : sameL (l.take n) (l.take n) = true := decide_eq_true rfl
  refine (FO_head (m := isM c l) hE_is mixed rfl rfl h ?_).gives ((is_go g c l n hc h32 n (Nat.le_refl _)).gives (HO_ret hE_is mixed rfl (is_end g c l n n) ?_))
  · rw [hq, hs, Nat.ble_eq_true_of_le hl, Nat.ble_eq_true_of_le (show n ≤ 9223372036854775807 by omega)]
    rfl
  · rw [decide_eq_false (show ¬ (n : Int) < Int.ofNat n by show ¬ (n : Int) < (n : Int); omega)]
    rfl
/-- The same: an obligation. -/
def e_isT : Spec := fun m args => match args with
  | [.agg [.val (.int .i64 g0), .val (.int .i64 g1), .val (.int .i64 g2), .val (.int .i64 g3), .val (.int .i64 g4), .sl false a 5 0 1 n none, .sl false b 1 0 1 n1 none],
     .agg [.val (.int .i64 f0), .val (.int .i64 f1), .val (.int .i64 f2), .val (.int .i64 f3), .val (.int .i64 f4), .sl false a' 5 0 1 n2 none, .sl false b' 1 0 1 n3 none]] =>
    match look m.bl a, look m.bl b, look m.bl a', look m.bl b' with
    | some ⟨_, _, .rows [.ints .i64 c0, .ints .i64 c1, .ints .i64 c2, .ints .i64 c3, .ints .i64 c4]⟩, some ⟨_, _, .col (.ints .i64 l)⟩, some ⟨_, _, .rows [.ints .i64 d0, .ints .i64 d1, .ints .i64 d2, .ints .i64 d3, .ints .i64 d4]⟩, some ⟨_, _, .col (.ints .i64 l')⟩ =>
      some (vb true, none, [decide (g0 = f0), decide (g1 = f1), decide (g2 = f2), decide (g3 = f3), decide (g4 = f4), Nat.beq n1 n, Nat.beq n2 n, Nat.beq n3 n, decide (c0 = d0), decide (c1 = d1), decide (c2 = d2), decide (c3 = d3), decide (c4 = d4), decide (l = l'), Nat.ble n c0.length, Nat.ble n c1.length, Nat.ble n c2.length, Nat.ble n c3.length, Nat.ble n c4.length, Nat.ble n l.length, Nat.ble n 4294967296])
    | _, _, _, _ => none
  | _ => none
abbrev g5 (a b c d e : Int) : Nat → Int := fun k => [a, b, c, d, e].getD k 0
abbrev c5 (a b c d e : List Int) : Nat → List Int := fun k => [a, b, c, d, e].getD k e
theorem ok_isT : SpecOk Tryd.prog 37 e_isT := fun m args v mo bs h hb => by
  unfold e_isT at h
  split at h <;> try cases h
  rename_i g0 g1 g2 g3 g4 a n b n1 f0 f1 f2 f3 f4 a' n2 b' n3
  split at h <;> try cases h
  rename_i _ _ c0 c1 c2 c3 c4 _ _ l _ _ d0 d1 d2 d3 d4 _ _ l' hl1 hl2 hl3 hl4
  simp only [List.all_cons, List.all_nil, id, Bool.and_eq_true, Bool.and_true, decide_eq_true_eq] at hb
  obtain ⟨rfl, rfl, rfl, rfl, rfl, e1, e2, e3, rfl, rfl, rfl, rfl, rfl, rfl, b0, b1, b2, b3, b4, b5, b6⟩ := hb
  have e1 := Nat.eq_of_beq_eq_true e1
  have e2 := Nat.eq_of_beq_eq_true e2
  have e3 := Nat.eq_of_beq_eq_true e3
  subst e3 e2 e1
  have b0 := Nat.le_of_ble_eq_true b0
  have b1 := Nat.le_of_ble_eq_true b1
  have b2 := Nat.le_of_ble_eq_true b2
  have b3 := Nat.le_of_ble_eq_true b3
  have b4 := Nat.le_of_ble_eq_true b4
  have hg := is_all (g5 g0 g1 g2 g3 g4) (c5 c0 c1 c2 c3 c4) l n1 (fun k => match k with | 0 => b0 | 1 => b1 | 2 => b2 | 3 => b3 | 4 => b4 | k + 5 => b4) (Nat.le_of_ble_eq_true b5) (Nat.le_of_ble_eq_true b6)
  refine lift_pure (m1 := isM (c5 c0 c1 c2 c3 c4) l) (args1 := [.agg (isX (g5 g0 g1 g2 g3 g4) 0 1 n1), .agg (isX (g5 g0 g1 g2 g3 g4) 2 3 n1)]) (fsound (c := bodyOf Tryd.f37) (fun xs w => Tryd.call37 xs w) Tryd.func37 rfl hg) rfl rfl fun ρ w xs hm hx => ?_
  refine ⟨fun k => ρ ([a, b, a', b'].getD k 0), hm.views (fun k => [a, b, a', b'].getD k 0) (fun k b1 hk => ?_), ?_⟩
  · have hk' : (k = 0 ∧ b1 = ⟨false, false, rowsC (c5 c0 c1 c2 c3 c4)⟩) ∨ (k = 1 ∧ b1 = ⟨false, false, .col (.ints .i64 l)⟩) ∨ (k = 2 ∧ b1 = ⟨false, false, rowsC (c5 c0 c1 c2 c3 c4)⟩) ∨ (k = 3 ∧ b1 = ⟨false, false, .col (.ints .i64 l)⟩) := by
      simp only [look_cons] at hk
      split at hk
      · rename_i e; cases hk; exact .inl ⟨e.symm, rfl⟩
      · split at hk
        · rename_i e; cases hk; exact .inr (.inl ⟨e.symm, rfl⟩)
        · split at hk
          · rename_i e; cases hk; exact .inr (.inr (.inl ⟨e.symm, rfl⟩))
          · split at hk
            · rename_i e; cases hk; exact .inr (.inr (.inr ⟨e.symm, rfl⟩))
            · cases hk
    rcases hk' with ⟨rfl, rfl⟩ | ⟨rfl, rfl⟩ | ⟨rfl, rfl⟩ | ⟨rfl, rfl⟩
    · exact ⟨by show (0 : Nat) < 4; omega, rfl, rfl, rfl, _, hl1, rfl⟩
    · exact ⟨by show (1 : Nat) < 4; omega, rfl, rfl, rfl, _, hl2, rfl⟩
    · exact ⟨by show (2 : Nat) < 4; omega, rfl, rfl, rfl, _, hl3, rfl⟩
    · exact ⟨by show (3 : Nat) < 4; omega, rfl, rfl, rfl, _, hl4, rfl⟩
  · simp only [AV.rels, AV.rel] at hx ⊢
    obtain ⟨_, _, rfl, ⟨_, rfl, _, _, rfl, rfl, _, _, rfl, rfl, _, _, rfl, rfl, _, _, rfl, rfl, _, _, rfl, rfl, _, _, rfl, s1, _, _, rfl, s2, rfl⟩, _, _, rfl, ⟨_, rfl, _, _, rfl, rfl, _, _, rfl, rfl, _, _, rfl, rfl, _, _, rfl, rfl, _, _, rfl, rfl, _, _, rfl, s3, _, _, rfl, s4, rfl⟩, rfl⟩ := hx
    refine ⟨_, _, rfl, ⟨_, rfl, _, _, rfl, rfl, _, _, rfl, rfl, _, _, rfl, rfl, _, _, rfl, rfl, _, _, rfl, rfl, _, _, rfl, ⟨by show (0 : Nat) < 4; omega, s1.2⟩, _, _, rfl, ⟨by show (1 : Nat) < 4; omega, s2.2⟩, rfl⟩, _, _, rfl, ⟨_, rfl, _, _, rfl, rfl, _, _, rfl, rfl, _, _, rfl, rfl, _, _, rfl, rfl, _, _, rfl, rfl, _, _, rfl, ⟨by show (2 : Nat) < 4; omega, s3.2⟩, _, _, rfl, ⟨by show (3 : Nat) < 4; omega, s4.2⟩, rfl⟩, rfl⟩
theorem aw42 (x : Int) : F_ Tryd.prog [(35, e_sp)] Tryd.f34 [] [] 99 [] (mlM [x]) = some (.ret (vb true) ⟨[], 99⟩ true) := by kernel_rfl
def e_aw42 : Spec := fun m args => match args with
  | [] => match isMl m with
    | true => some (vb true, none, [])
    | false => none
  | _ => none
theorem ok_aw42 : SpecOk Tryd.prog 34 e_aw42 := fun m args v mo bs h hb => by
  unfold e_aw42 at h
  split at h <;> try cases h
  split at h <;> try cases h
  rename_i hm
  obtain ⟨l, x, wr, op, hl⟩ := isMl_sim hm
  refine lift_pure (m1 := mlM [x]) (args1 := []) (fsound (c := bodyOf Tryd.f34) (fun xs w => Tryd.call34 xs w) Tryd.func34 rfl (F_ret (env_cons ok_sp env_nil) mixed rfl rfl (aw42 x))) rfl rfl fun ρ w xs hm hx => ?_
  exact ⟨fun _ => ρ l, mrel_one (hm.view hl rfl _ _), hx⟩
abbrev L_spl : List (FuncId × Spec) := [(34, e_aw42), (35, e_sp), (36, e_s42), (37, e_isT)]
theorem hE_spl : ESound Tryd.prog (envOf L_spl) := env_cons ok_aw42 (env_cons ok_sp (env_cons ok_s42 (env_cons ok_isT env_nil)))
end Go.Proofs.YtpmcflidggofkaaDoor
