/-
  A number's text is read back; the law of numbers in digits.
-/
import Derived.Test.YtpmcflidggofkaaDW
namespace Go.Proofs.Ytpmcflidggofkaa
open Go Go.RowKit
def valL : List Int → Int → Int
  | [], a => a
  | z :: r, a => valL r (a * 10 + (z - 48))
theorem decL_val : ∀ (f a : Nat) (acc : List Int), 0 < f → a < 10 ^ f → valL (decL f a acc) 0 = valL acc a := by
  intro f
  induction f with
  | zero => intro a acc h; omega
  | succ f ih =>
    intro a acc _ ha
    unfold decL
    by_cases h9 : a < 10
    · rw [show Nat.blt a 10 = true by simp [Nat.blt_eq]; omega]
      simp only [cond_true, valL]
      congr 1
      omega
    · rw [show Nat.blt a 10 = false by cases hb : Nat.blt a 10 with | false => rfl | true => simp [Nat.blt_eq] at hb; omega]
      have hp : 10 ^ (f + 1) = 10 ^ f * 10 := Nat.pow_succ ..
      have hf : 0 < f := by
        cases f with
        | zero => simp at ha; omega
        | succ f => omega
      simp only [cond_false]
      rw [ih (a / 10) _ hf (by omega)]
      simp only [valL]
      congr 1
      omega
def dgts (l : List Int) : Prop := ∀ z ∈ l, 48 ≤ z ∧ z ≤ 57
theorem decL_dg : ∀ (f a : Nat) (acc : List Int), dgts acc → dgts (decL f a acc)
  | 0, a, acc, h => h
  | f + 1, a, acc, h => by
    have hx : dgts (((48 + a % 10 : Nat) : Int) :: acc) := fun z hz => by
      rcases List.mem_cons.1 hz with rfl | hz
      · omega
      · exact h z hz
    unfold decL
    cases Nat.blt a 10 with
    | true => exact hx
    | false => exact decL_dg f (a / 10) _ hx
theorem decL_head : ∀ (f a : Nat) (acc : List Int), 0 < f → a < 10 ^ f → ∃ h r, decL f a acc = h :: r ∧ (0 < a → h ≠ 48) ∧ (a = 0 → r = acc) := by
  intro f
  induction f with
  | zero => intro a acc h; omega
  | succ f ih =>
    intro a acc _ ha
    unfold decL
    by_cases h9 : a < 10
    · rw [show Nat.blt a 10 = true by simp [Nat.blt_eq]; omega]
      exact ⟨_, _, rfl, by omega, fun _ => rfl⟩
    · rw [show Nat.blt a 10 = false by cases hb : Nat.blt a 10 with | false => rfl | true => simp [Nat.blt_eq] at hb; omega]
      have hp : 10 ^ (f + 1) = 10 ^ f * 10 := Nat.pow_succ ..
      have hf : 0 < f := by
        cases f with
        | zero => simp at ha; omega
        | succ f => omega
      simp only [cond_false]
      obtain ⟨h, r, e, h1, h2⟩ := ih (a / 10) (((48 + a % 10 : Nat) : Int) :: acc) hf (by omega)
      exact ⟨h, r, e, fun _ => h1 (by omega), by omega⟩
theorem str_list (l : List Int) : (strOf l).data.toList = l.map fun n => UInt8.ofNat n.toNat := by rw [strOf_eq]
theorem str_at {l : List Int} (h : ∀ z ∈ l, 0 ≤ z ∧ z ≤ 255) (i : Nat) : byteAt (strOf l) i = l.getD i 0 := by
  rw [byte_list, str_list, List.getD_eq_getElem?_getD, List.getElem?_map, List.getD_eq_getElem?_getD]
  cases hi : l[i]? with
  | none => rfl
  | some z =>
    have := h z (List.mem_of_getElem? hi)
    simp
    omega
theorem dg_str {l : List Int} (h : dgts l) (i : Nat) : byteAt (strOf l) i = l.getD i 0 := str_at (fun z hz => by have := h z hz; omega) i
theorem digs_str {l : List Int} (h : dgts l) : ∀ (j i : Nat), i + j = l.length → digs (strOf l) i j = true
  | 0, i, _ => rfl
  | j + 1, i, hi => by
    unfold digs badB
    have hz := h (l.getD i 0) (by rw [List.getD_eq_getElem?_getD, List.getElem?_eq_getElem (by omega)]; simp)
    rw [dg_str h, decide_eq_false (show ¬ l.getD i 0 < 48 by omega), decide_eq_false (show ¬ 57 < l.getD i 0 by omega)]
    exact digs_str h j (i + 1) (by omega)
theorem val_str {l : List Int} (h : dgts l) : ∀ (j i : Nat) (a : Int), i + j = l.length → valN (strOf l) i j a = valL (l.drop i) a
  | 0, i, a, hi => by rw [List.drop_of_length_le (by omega)]; rfl
  | j + 1, i, a, hi => by
    unfold valN
    rw [val_str h j (i + 1) _ (by omega), dg_str h, List.drop_eq_getElem_cons (show i < l.length by omega)]
    simp only [valL]
    rw [List.getD_eq_getElem?_getD, List.getElem?_eq_getElem (show i < l.length by omega)]
    rfl
theorem back (n : Int) (h : -9223372036854775808 ≤ n) (h' : n ≤ 9223372036854775807) : rdV (decText n) = (n, 0) := by
  obtain ⟨x, r, e, e1, e2⟩ := decL_head 19 n.natAbs [] (by omega) (by omega)
  have hdg := decL_dg 19 n.natAbs [] (fun z hz => by simp at hz)
  have hv := decL_val 19 n.natAbs [] (by omega) (by omega)
  have hsz : (strOf (decL 19 n.natAbs [])).size = (decL 19 n.natAbs []).length := strOf_size _
  have hx : 48 ≤ x ∧ x ≤ 57 := hdg x (by rw [e]; simp)
  have key : ∀ s : ByteArray, unS s = strOf (decL 19 n.natAbs []) → (n.natAbs = 0 → s.size ≤ 1) → rdV s = outA (mnR s) (some (-(n.natAbs : Int))) := fun s hu h1 => by
    unfold rdV
    rw [hu]
    have hH : rfH s (strOf (decL 19 n.natAbs [])) = false := by
      unfold rfH
      rw [len_iff, hsz, dg_str hdg, e]
      rw [decide_eq_false (show ¬ (x :: r).length = 0 by simp)]
      simp only [cond_false, List.getD_cons_zero]
      by_cases c : n.natAbs = 0
      · rw [decide_eq_false (show ¬ (1 : Int) < Int.ofNat s.size by have := h1 c; simp; omega)]
        cases (x == 48) <;> rfl
      · rw [show (x == 48) = false by have := e1 (by omega); simpa using this]
        rfl
    rw [hH, hsz, digs_str hdg _ _ (by omega)]
    have hF := rdF_eq (strOf (decL 19 n.natAbs [])) (decL 19 n.natAbs []).length 0 0 (digs_str hdg _ _ (by omega)) (Int.le_refl 0) (by omega)
    rw [Int.neg_zero, val_str hdg _ _ _ (by omega), List.drop_zero, hv] at hF
    rw [hF, decide_eq_true (show valL [] (n.natAbs : Int) ≤ 9223372036854775808 by simp only [valL]; omega)]
    rfl
  unfold decText
  by_cases c : n < 0
  · rw [decide_eq_true c]
    simp only [cond_true]
    have ht : (⟨#[45]⟩ : ByteArray) ++ strOf (decL 19 n.natAbs []) = strOf (45 :: decL 19 n.natAbs []) := by
      rw [← strOf_cons]
      rfl
    rw [ht]
    have hall : ∀ z ∈ (45 :: decL 19 n.natAbs [] : List Int), 0 ≤ z ∧ z ≤ 255 := fun z hz => by
      rcases List.mem_cons.1 hz with rfl | hz
      · omega
      · have := hdg z hz; omega
    have hm : mnR (strOf (45 :: decL 19 n.natAbs [])) = true := by
      unfold mnR
      rw [str_at hall, strOf_size, decide_eq_true (by simp <;> omega)]
      rfl
    have hu : unS (strOf (45 :: decL 19 n.natAbs [])) = strOf (decL 19 n.natAbs []) := by
      unfold unS
      rw [hm]
      simp only [cond_true]
      refine WideShapes.bytes_inj ?_
      rw [ext_list, str_list, str_list]
      rfl
    rw [key _ hu (by omega), hm]
    simp only [outA, cond_true]
    rw [show -(n.natAbs : Int) = n by omega]
  · rw [decide_eq_false c]
    simp only [cond_false]
    have hm : mnR (strOf (decL 19 n.natAbs [])) = false := by
      unfold mnR
      rw [dg_str hdg, hsz, e]
      rw [decide_eq_true (by simp <;> omega)]
      simp only [cond_true, List.getD_cons_zero]
      rw [show (x == 45) = false by simp; omega]
    have hu : unS (strOf (decL 19 n.natAbs [])) = strOf (decL 19 n.natAbs []) := by
      unfold unS
      rw [hm]
      rfl
    rw [key _ hu (fun h0 => by rw [hsz, e, e2 h0]; simp), hm]
    simp only [outA, cond_false]
    rw [show (-(n.natAbs : Int) == -9223372036854775808) = false by simp; omega, wk _ (by omega) (by omega)]
    simp only [cond_false]
    rw [show 0 - -(n.natAbs : Int) = n by omega]
theorem digitsnumbers_true (n : Int) (s : ByteArray) (h : -9223372036854775808 ≤ n) (h' : n ≤ 9223372036854775807) : haymowlaw03_DigitsNumbers_0 n s = true ∧ c_haymowlaw03_DigitsNumbers n s = true := by
  obtain ⟨t1, t2⟩ := text03 n h h'
  have hb := back n h h'
  have hlen : Nat.ble (decText n).size 9223372036854775807 = true := by
    have := decL_len 19 n.natAbs []
    have hsz : (strOf (decL 19 n.natAbs [])).size = (decL 19 n.natAbs []).length := strOf_size _
    have hsz2 : ((⟨#[45]⟩ : ByteArray) ++ strOf (decL 19 n.natAbs [])).size = 1 + (decL 19 n.natAbs []).length := by
      rw [ByteArray.size_append, hsz]; rfl
    simp at this
    refine Nat.ble_eq_true_of_le ?_
    unfold decText
    cases decide (n < 0) with
    | true => simp only [cond_true]; omega
    | false => simp only [cond_false]; omega
  unfold haymowlaw03_DigitsNumbers_0 c_haymowlaw03_DigitsNumbers rd0 rd1 rf0 rf1
  rw [t1, t2, hb, read_eq s, hlen, decide_eq_true h, decide_eq_true h']
  by_cases c : (200 : Int) < Int.ofNat s.size
  · rw [decide_eq_true c]; exact ⟨rfl, rfl⟩
  · have hs : s.size ≤ 200 := by simp at c; omega
    rw [decide_eq_false c, Nat.ble_eq_true_of_le (show s.size ≤ 9223372036854775807 by omega)]
    simp
end Go.Proofs.Ytpmcflidggofkaa
