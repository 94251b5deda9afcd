/-
  Digits of numbers of 128 bits: lists of digits, both ways.
-/
import Derived.Test.YtanfjgkohhlcoaaVh
namespace Go.Proofs.Ytanfjgkohhlcoaa
open Go Go.RowKit
theorem strOf_go : ∀ (zs : List Int) (b : ByteArray), zs.foldl (fun r n => r.push (UInt8.ofNat n.toNat)) b = b ++ ⟨(zs.map fun n => UInt8.ofNat n.toNat).toArray⟩
  | [], b => by
    apply ByteArray.ext
    simp [ByteArray.data_append]
  | z :: zs, b => by
    rw [List.foldl_cons, strOf_go zs]
    apply ByteArray.ext
    simp [ByteArray.data_append, ByteArray.data_push]
theorem strOf_eq (zs : List Int) : strOf zs = ⟨(zs.map fun n => UInt8.ofNat n.toNat).toArray⟩ := by
  unfold strOf
  rw [strOf_go]
  apply ByteArray.ext
  simp
theorem strOf_cons (z : Int) (zs : List Int) : strOf [z] ++ strOf zs = strOf (z :: zs) := by
  simp only [strOf_eq]
  apply ByteArray.ext
  simp [ByteArray.data_append]
theorem strOf_app (a b : List Int) : strOf a ++ strOf b = strOf (a ++ b) := by
  simp only [strOf_eq]
  apply ByteArray.ext
  simp [ByteArray.data_append]
theorem strOf_size (zs : List Int) : (strOf zs).size = zs.length := by
  rw [strOf_eq]
  show (zs.map _).toArray.size = _
  simp
def decL : Nat → Nat → List Int → List Int
  | 0, _, acc => acc
  | f + 1, a, acc => bif Nat.blt a 10 then ((48 + a % 10 : Nat) : Int) :: acc else decL f (a / 10) (((48 + a % 10 : Nat) : Int) :: acc)
/-- The digits of a number, from below; none for 0. -/
def lowL : Nat → Nat → List Int
  | 0, _ => []
  | f + 1, a => bif Nat.beq a 0 then [] else ((48 + a % 10 : Nat) : Int) :: lowL f (a / 10)
theorem blt_t {a b : Nat} (h : a < b) : Nat.blt a b = true := by simp [Nat.blt_eq]; omega
theorem blt_f {a b : Nat} (h : b ≤ a) : Nat.blt a b = false := by
  cases hb : Nat.blt a b with
  | false => rfl
  | true => simp [Nat.blt_eq] at hb; omega
theorem beq_f {a b : Nat} (h : a ≠ b) : Nat.beq a b = false := by
  cases hb : Nat.beq a b with
  | false => rfl
  | true => exact absurd (Nat.eq_of_beq_eq_true hb) h
theorem decL_low : ∀ (f a : Nat) (acc : List Int), 0 < a → a < 10 ^ f → decL f a acc = (lowL f a).reverse ++ acc
  | 0, a, acc, h, h' => by simp at h'; omega
  | f + 1, a, acc, h, h' => by
    unfold decL lowL
    rw [beq_f (show a ≠ 0 by omega)]
    have hp : 10 ^ (f + 1) = 10 ^ f * 10 := Nat.pow_succ ..
    by_cases c : a < 10
    · rw [blt_t c, show a / 10 = 0 by omega]
      cases f <;> simp [lowL]
    · rw [blt_f (by omega)]
      simp only [cond_false]
      rw [decL_low f (a / 10) _ (by omega) (by omega)]
      simp
theorem lowL_len : ∀ (f a : Nat), (lowL f a).length ≤ f
  | 0, a => by simp [lowL]
  | f + 1, a => by
    unfold lowL
    cases Nat.beq a 0 with
    | true => simp
    | false => have := lowL_len f (a / 10); simp; omega
theorem decL_len : ∀ (f a : Nat) (acc : List Int), (decL f a acc).length ≤ f + acc.length
  | 0, a, acc => by simp [decL]
  | f + 1, a, acc => by
    unfold decL
    cases Nat.blt a 10 with
    | true => simp; omega
    | false =>
      have := decL_len f (a / 10) (((48 + a % 10 : Nat) : Int) :: acc)
      simp at this ⊢
      omega
/-- Two places of a list, one for the other. -/
def swp (L : List Int) (i k : Nat) : List Int := (L.set i (L.getD k 0)).set k (L.getD i 0)
theorem swp_mid (A B Y : List Int) (x z : Int) : swp (A ++ x :: (Y ++ z :: B)) A.length (A.length + Y.length + 1) = A ++ z :: (Y ++ x :: B) := by
  have g1 : (A ++ x :: (Y ++ z :: B)).getD A.length 0 = x := by simp [List.getD_eq_getElem?_getD]
  have g2 : (A ++ x :: (Y ++ z :: B)).getD (A.length + Y.length + 1) 0 = z := by
    rw [List.getD_eq_getElem?_getD, List.getElem?_append_right (by omega), show A.length + Y.length + 1 - A.length = Y.length + 1 by omega, List.getElem?_cons_succ, List.getElem?_append_right (by omega)]
    simp
  unfold swp
  rw [g1, g2, List.set_append_right _ _ (by omega), Nat.sub_self, List.set_cons_zero, List.set_append_right _ _ (by omega), show A.length + Y.length + 1 - A.length = Y.length + 1 by omega, List.set_cons_succ, List.set_append_right _ _ (by omega), Nat.sub_self, List.set_cons_zero]
-- readers
/-- The number of a list of digits behind another number; none: too great. -/
def pF : List Int → Int → Option Int
  | [], n => some n
  | z :: r, n => bif decide (n * 10 + (z - 48) < 340282366920938463463374607431768211456) then pF r (n * 10 + (z - 48)) else none
def isD (z : Int) : Bool := bif decide (z < 48) then false else !decide (57 < z)
theorem pF_dec : ∀ (f a : Nat) (acc : List Int), 0 < f → a < 10 ^ f → a < 340282366920938463463374607431768211456 → pF (decL f a acc) 0 = pF acc a
  | 0, a, acc, h, _, _ => by omega
  | f + 1, a, acc, _, h', hb => by
    have hp : 10 ^ (f + 1) = 10 ^ f * 10 := Nat.pow_succ ..
    unfold decL
    by_cases c : a < 10
    · rw [blt_t c]
      simp only [cond_true]
      unfold pF
      rw [show (0 : Int) * 10 + (((48 + a % 10 : Nat) : Int) - 48) = (a : Int) by omega, decide_eq_true (by omega)]
      simp only [cond_true]
      cases acc <;> rfl
    · rw [blt_f (by omega)]
      simp only [cond_false]
      have h0 : 0 < f := by
        rcases Nat.eq_zero_or_pos f with h | h
        · subst h; simp at h'; omega
        · exact h
      rw [pF_dec f (a / 10) _ h0 (by omega) (by omega)]
      conv => lhs; unfold pF
      rw [show ((a / 10 : Nat) : Int) * 10 + (((48 + a % 10 : Nat) : Int) - 48) = (a : Int) by omega, decide_eq_true (by omega)]
      rfl
theorem isD_of (a : Nat) : isD ((48 + a % 10 : Nat) : Int) = true := by
  unfold isD
  rw [decide_eq_false (show ¬ ((48 + a % 10 : Nat) : Int) < 48 by omega), decide_eq_false (show ¬ (57 : Int) < ((48 + a % 10 : Nat) : Int) by omega)]
  rfl
theorem decL_dig : ∀ (f a : Nat) (acc : List Int), acc.all isD = true → (decL f a acc).all isD = true
  | 0, a, acc, h => h
  | f + 1, a, acc, h => by
    have h1 : ((((48 + a % 10 : Nat) : Int) :: acc).all isD) = true := by rw [List.all_cons, isD_of, h]; rfl
    unfold decL
    cases Nat.blt a 10 with
    | true => exact h1
    | false => exact decL_dig f (a / 10) _ h1
/-- No digit 0 stands in front, but of 0 itself. -/
theorem decL_head : ∀ (f a : Nat) (acc : List Int), 0 < a → a < 10 ^ f → ∃ d r, decL f a acc = d :: r ∧ d ≠ 48
  | 0, a, acc, h, h' => by simp at h'; omega
  | f + 1, a, acc, h, h' => by
    have hp : 10 ^ (f + 1) = 10 ^ f * 10 := Nat.pow_succ ..
    unfold decL
    by_cases c : a < 10
    · rw [blt_t c]
      exact ⟨_, _, rfl, by omega⟩
    · rw [blt_f (by omega)]
      exact decL_head f (a / 10) _ (by omega) (by omega)
theorem wk (x : Int) (h : -9223372036854775808 ≤ x) (h' : x ≤ 9223372036854775807) : IntKind.i64.wrap x = x := IntWalk.i64_in x ⟨h, h'⟩
theorem wk8 (x : Int) (h : 0 ≤ x) (h' : x ≤ 255) : IntKind.u8.wrap x = x := by
  unfold IntKind.wrap
  simp [IntKind.bits, IntKind.signed]
  omega
/-- A number's text. -/
def wtx (V : Int) : ByteArray := strOf (decL 40 V.toNat [])
end Go.Proofs.Ytanfjgkohhlcoaa
