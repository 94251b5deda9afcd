/-
  Numbers in decimal digits, both ways.
-/
import Derived.IntWalk
import Derived.Test.YtpmcflidggofkaaProg
import Derived.Test.YtpmcflidggofkaaEx14
namespace Go.Proofs.Ytpmcflidggofkaa
open Go Go.RowKit
theorem strOf_go : ∀ (zs : List Int) (b : ByteArray), zs.foldl (fun r n => r.push (UInt8.ofNat n.toNat)) b = b ++ ⟨(zs.map fun n => UInt8.ofNat n.toNat).toArray⟩
  | [], b => by
    apply ByteArray.ext
    simp [ByteArray.data_append]
  | z :: zs, b => by
    rw [List.foldl_cons, strOf_go zs]
    apply ByteArray.ext
    simp [ByteArray.data_append, ByteArray.data_push]
theorem strOf_eq (zs : List Int) : strOf zs = ⟨(zs.map fun n => UInt8.ofNat n.toNat).toArray⟩ := by
  unfold strOf
  rw [strOf_go]
  apply ByteArray.ext
  simp
theorem strOf_cons (z : Int) (zs : List Int) : strOf [z] ++ strOf zs = strOf (z :: zs) := by
  simp only [strOf_eq]
  apply ByteArray.ext
  simp [ByteArray.data_append]
theorem strOf_app (a b : List Int) : strOf a ++ strOf b = strOf (a ++ b) := by
  simp only [strOf_eq]
  apply ByteArray.ext
  simp [ByteArray.data_append]
theorem strOf_size (zs : List Int) : (strOf zs).size = zs.length := by
  rw [strOf_eq]
  show (zs.map _).toArray.size = _
  simp
/-- The digits of a number, in front of others. -/
def decL : Nat → Nat → List Int → List Int
  | 0, _, acc => acc
  | f + 1, a, acc => bif Nat.blt a 10 then ((48 + a % 10 : Nat) : Int) :: acc else decL f (a / 10) (((48 + a % 10 : Nat) : Int) :: acc)
theorem decL_len : ∀ (f a : Nat) (acc : List Int), (decL f a acc).length ≤ f + acc.length
  | 0, a, acc => by simp [decL]
  | f + 1, a, acc => by
    unfold decL
    cases Nat.blt a 10 with
    | true => simp; omega
    | false =>
      have := decL_len f (a / 10) (((48 + a % 10 : Nat) : Int) :: acc)
      simp at this ⊢
      omega
def decText (n : Int) : ByteArray := bif decide (n < 0) then ⟨#[45]⟩ ++ strOf (decL 19 n.natAbs []) else strOf (decL 19 n.natAbs [])
theorem wk (x : Int) (h : -9223372036854775808 ≤ x) (h' : x ≤ 9223372036854775807) : IntKind.i64.wrap x = x := IntWalk.i64_in x ⟨h, h'⟩
theorem wk8 (x : Int) (h : 0 ≤ x) (h' : x ≤ 255) : IntKind.u8.wrap x = x := by
  unfold IntKind.wrap
  simp [IntKind.bits, IntKind.signed]
  omega
theorem mixedD : MixedOk Try.prog := by unfold MixedOk; kernel_rfl
def txC : List Cut := [(2, [0, 3, 4, 5], [0], 1)]
def txTm (n i q : Int) : List AV := [vi n, .unk, .unk, .ptr 0 1 0 0, vi i, vi q] ++ List.replicate 28 .unk
def txM (L : List Int) : MS := ⟨[(0, some ⟨true, false, .col (.ints .u8 L)⟩)], 1⟩
def digB (q : Int) : Int := IntKind.u8.wrap (IntKind.i64.wrap (48 + max (q.tmod 10) (IntKind.i64.wrap (0 - q.tmod 10))))
theorem tx_in (n : Int) : F_ Try.prog [] Try.f8 txC [] 99 [vi n] noMem = some (Fin_.head (hd Try.f8 0) (txTm n 20 n) (txM (List.replicate 20 0)) true) := by kernel_rfl
def txIn (i : Int) (L : List Int) : Bool := bif decide (0 ≤ IntKind.i64.wrap (i - 1)) then bif decide ((IntKind.i64.wrap (i - 1)).toNat < 20) then bif decide ((IntKind.i64.wrap (i - 1)).toNat < L.length) then true else false else false else false
def txCut (i q : Int) (L : List Int) : ByteArray := strOf (((L.set (IntKind.i64.wrap (i - 1)).toNat (digB q)).drop (IntKind.i64.wrap (i - 1)).toNat).take (20 - (IntKind.i64.wrap (i - 1)).toNat))
def txB (i q : Int) (L : List Int) (r : Bool) : Bool := bif decide (0 ≤ IntKind.i64.wrap (i - 1)) then bif decide ((IntKind.i64.wrap (i - 1)).toNat < 20) then bif decide ((IntKind.i64.wrap (i - 1)).toNat < L.length) then bif decide (0 ≤ IntKind.i64.wrap (i - 1)) then bif decide (IntKind.i64.wrap (i - 1) ≤ 20) then
  bif decide ((IntKind.i64.wrap (i - 1)).toNat + (20 - (IntKind.i64.wrap (i - 1)).toNat) ≤ (L.set (IntKind.i64.wrap (i - 1)).toNat (digB q)).length) then r else false else false else false else false else false else false
theorem tx_round (n i q : Int) (L : List Int) : H_ Try.prog [] Try.f8 txC [] 99 (hd Try.f8 0) (txTm n i q) (txM L) =
    bif IntKind.i64.wrap (q.tdiv 10) == 0 then
      bif decide (n < 0) then some (Fin_.ret (vs (catB ⟨#[45]⟩ (txCut i q L))) ⟨[], 99⟩ (txB i q L (bif Nat.ble (1 + lenB (txCut i q L)) 9223372036854775807 then true else false)))
      else some (Fin_.ret (vs (txCut i q L)) ⟨[], 99⟩ (txB i q L true))
    else some (Fin_.head (hd Try.f8 0) (txTm n (IntKind.i64.wrap (i - 1)) (IntKind.i64.wrap (q.tdiv 10))) (txM (L.set (IntKind.i64.wrap (i - 1)).toNat (digB q))) (txIn i L)) := by kernel_rfl
theorem digB_eq (q : Int) (h : -9223372036854775808 ≤ q) (h' : q ≤ 9223372036854775807) : digB q = ((48 + q.natAbs % 10 : Nat) : Int) ∧ (IntKind.i64.wrap (q.tdiv 10)).natAbs = q.natAbs / 10 ∧ IntKind.i64.wrap (q.tdiv 10) = q.tdiv 10 := by
  have key : (q.tmod 10 = ((q.natAbs % 10 : Nat) : Int) ∨ q.tmod 10 = -((q.natAbs % 10 : Nat) : Int)) ∧ (q.tdiv 10 = ((q.natAbs / 10 : Nat) : Int) ∨ q.tdiv 10 = -((q.natAbs / 10 : Nat) : Int)) := by
    rcases Int.le_total 0 q with h0 | h0
    · obtain ⟨a, rfl⟩ := Int.eq_ofNat_of_zero_le h0
      exact ⟨.inl (by simp [Int.tmod]), .inl (by simp [Int.tdiv])⟩
    · obtain ⟨a, ha⟩ := Int.eq_ofNat_of_zero_le (show 0 ≤ -q by omega)
      have e : q = -(a : Int) := by omega
      subst e
      refine ⟨.inr ?_, .inr ?_⟩
      · rw [Int.neg_tmod]; simp [Int.tmod]
      · rw [Int.neg_tdiv]; simp [Int.tdiv]
  obtain ⟨k1, k2⟩ := key
  have hw : IntKind.i64.wrap (q.tdiv 10) = q.tdiv 10 := wk _ (by omega) (by omega)
  refine ⟨?_, by rw [hw]; omega, hw⟩
  unfold digB
  rw [wk (0 - q.tmod 10) (by omega) (by omega), wk _ (by omega) (by omega), wk8 _ (by omega) (by omega)]
  omega
theorem set_drop {L : List Int} {j : Nat} {d : Int} (h : j < L.length) : (L.set j d).drop j = d :: L.drop (j + 1) := by
  rw [List.drop_eq_getElem_cons (by simpa using h)]
  simp [List.drop_set_of_lt]
theorem txB_ok {j : Nat} {q : Int} {L : List Int} {r : Bool} (hj : j < 20) (hL : L.length = 20) : txB ((j + 1 : Nat) : Int) q L r = r ∧ txIn ((j + 1 : Nat) : Int) L = true := by
  have e : IntKind.i64.wrap (((j + 1 : Nat) : Int) - 1) = (j : Int) := by rw [wk _ (by omega) (by omega)]; omega
  unfold txB txIn
  rw [e]
  simp only [Int.toNat_natCast, List.length_set]
  rw [decide_eq_true (show (0 : Int) ≤ j by omega), decide_eq_true (show j < 20 by omega), decide_eq_true (show j < L.length by omega), decide_eq_true (show (j : Int) ≤ 20 by omega), decide_eq_true (show j + (20 - j) ≤ L.length by omega)]
  exact ⟨rfl, rfl⟩
theorem txCut_eq {j : Nat} {q : Int} {L : List Int} (hj : j < 20) (hL : L.length = 20) : txCut ((j + 1 : Nat) : Int) q L = strOf (digB q :: L.drop (j + 1)) := by
  have e : IntKind.i64.wrap (((j + 1 : Nat) : Int) - 1) = (j : Int) := by rw [wk _ (by omega) (by omega)]; omega
  unfold txCut
  rw [e]
  simp only [Int.toNat_natCast]
  rw [set_drop (by omega), List.take_of_length_le (by simp; omega)]
def sgn (n : Int) (s : ByteArray) : ByteArray := bif decide (n < 0) then ⟨#[45]⟩ ++ s else s
theorem tx_loop (n : Int) : ∀ (f j : Nat) (q : Int) (L : List Int), f ≤ j → j < 20 → L.length = 20 → q.natAbs < 10 ^ (f + 1) → -9223372036854775808 ≤ q → q ≤ 9223372036854775807 →
    Gives_ Try.prog Try.f8 0 ⟨hd Try.f8 0, txTm n ((j + 1 : Nat) : Int) q, txM L⟩ (vs (sgn n (strOf (decL (f + 1) q.natAbs (L.drop (j + 1)))))) ⟨[], 99⟩ := by
  intro f
  induction f with
  | zero =>
    intro j q L hf hj hL hq h1 h2
    obtain ⟨d1, d2, d3⟩ := digB_eq q h1 h2
    refine H_ret (cuts := txC) (ns := []) (top := 99) env_nil mixedD rfl ?_
    have hz : (IntKind.i64.wrap (q.tdiv 10) == 0) = true := by simp; omega
    have hD : decL (0 + 1) q.natAbs (L.drop (j + 1)) = digB q :: L.drop (j + 1) := by
      unfold decL
      rw [show Nat.blt q.natAbs 10 = true by simp [Nat.blt_eq]; omega, d1]; rfl
    have hlen : (digB q :: L.drop (j + 1)).length ≤ 20 := by simp; omega
    rw [tx_round, hz, hD, txCut_eq hj hL]
    simp only [catB_eq, lenB_eq]
    unfold sgn
    have hs := strOf_size (digB q :: L.drop (j + 1))
    cases decide (n < 0) with
    | true =>
      simp only [cond_true]
      rw [(txB_ok hj hL).1, Nat.ble_eq_true_of_le (by omega)]; rfl
    | false =>
      simp only [cond_true, cond_false]
      rw [(txB_ok hj hL).1]
  | succ f ih =>
    intro j q L hf hj hL hq h1 h2
    obtain ⟨d1, d2, d3⟩ := digB_eq q h1 h2
    by_cases hs : q.natAbs < 10
    · refine H_ret (cuts := txC) (ns := []) (top := 99) env_nil mixedD rfl ?_
      have hz : (IntKind.i64.wrap (q.tdiv 10) == 0) = true := by simp; omega
      have hD : decL (f + 1 + 1) q.natAbs (L.drop (j + 1)) = digB q :: L.drop (j + 1) := by
        unfold decL
        rw [show Nat.blt q.natAbs 10 = true by simp [Nat.blt_eq]; omega, d1]; rfl
      have hlen : (digB q :: L.drop (j + 1)).length ≤ 20 := by simp; omega
      rw [tx_round, hz, hD, txCut_eq hj hL]
      simp only [catB_eq, lenB_eq]
      unfold sgn
      have hs := strOf_size (digB q :: L.drop (j + 1))
      cases decide (n < 0) with
      | true =>
        simp only [cond_true]
        rw [(txB_ok hj hL).1, Nat.ble_eq_true_of_le (by omega)]; rfl
      | false =>
        simp only [cond_true, cond_false]
        rw [(txB_ok hj hL).1]
    · obtain ⟨j, rfl⟩ : ∃ k, j = k + 1 := ⟨j - 1, by omega⟩
      have hz : (IntKind.i64.wrap (q.tdiv 10) == 0) = false := by simp; omega
      have e : IntKind.i64.wrap (((j + 1 + 1 : Nat) : Int) - 1) = ((j + 1 : Nat) : Int) := by rw [wk _ (by omega) (by omega)]; omega
      have hD : decL (f + 1 + 1) q.natAbs (L.drop (j + 1 + 1)) = decL (f + 1) (IntKind.i64.wrap (q.tdiv 10)).natAbs ((L.set (j + 1) (digB q)).drop (j + 1)) := by
        rw [set_drop (by omega), d2, d1]
        conv => lhs; unfold decL
        rw [show Nat.blt q.natAbs 10 = false by cases hb : Nat.blt q.natAbs 10 with | false => rfl | true => simp [Nat.blt_eq] at hb; omega]
        rfl
      rw [hD]
      refine Goes.gives (H_head (f := Try.f8) (cuts := txC) (ns := []) (top := 99) (todo' := hd Try.f8 0) (tm' := txTm n ((j + 1 : Nat) : Int) (IntKind.i64.wrap (q.tdiv 10))) (m' := txM (L.set (j + 1) (digB q))) env_nil mixedD rfl ?_) (ih j _ _ (by omega) (by omega) (by simpa using hL) ?_ (by omega) (by omega))
      · rw [tx_round, hz, (txB_ok (q := q) (r := true) hj hL).2, e]
        rfl
      · rw [d2]
        have : 10 ^ (f + 1 + 1) = 10 ^ (f + 1) * 10 := Nat.pow_succ ..
        omega
def e_text : Spec := fun _ args => match args with
  | [.val (.int .i64 n)] => some (vs (decText n), none, [decide (-9223372036854775808 ≤ n), decide (n ≤ 9223372036854775807)])
  | _ => none
theorem ok_text : SpecOk Try.prog 8 e_text := fun m args v mo bs h hb => by
  unfold e_text at h
  split at h
  · rename_i n
    cases h
    simp at hb
    have hl := tx_loop n 18 19 n (List.replicate 20 0) (by omega) (by omega) (by simp) (by omega) hb.1 hb.2
    refine lift_ground (m1' := ⟨[], 99⟩) (fsound (c := bodyOf Try.f8) (fun xs w => Try.call8 xs w) Try.func8 rfl
      (Goes.gives (F_head (f := Try.f8) (c := bodyOf Try.f8) (cuts := txC) (ns := []) (top := 99) env_nil mixedD rfl rfl (tx_in n)) ?_)) rfl rfl
    exact hl
  · cases h
-- haymowref03.whole
def whC : List Cut := [(2, [0, 3, 4], [], 0)]
def whTm (n i : Int) (s : ByteArray) : List AV := [vu n, .unk, .unk, vs s, vi i] ++ List.replicate 19 .unk
theorem wh_in (n : Int) : F_ Try.prog [] Try.f33 whC [] 99 [vu n] noMem = some (Fin_.head (hd Try.f33 0) (whTm n 0 ⟨#[]⟩) ⟨[], 0⟩ true) := by kernel_rfl
theorem wh_round (n i : Int) (s : ByteArray) : H_ Try.prog [] Try.f33 whC [] 99 (hd Try.f33 0) (whTm n i s) ⟨[], 0⟩ =
    bif bif i == 0 then true else decide (0 < n) then
      some (Fin_.head (hd Try.f33 0) (whTm (IntKind.u64.wrap (n.tdiv 10)) (IntKind.i64.wrap (i + 1)) (catB (strOf [IntKind.u8.wrap (IntKind.u64.wrap (48 + n.tmod 10))]) s)) ⟨[], 0⟩ (bif Nat.ble (1 + lenB s) 9223372036854775807 then true else false))
    else some (Fin_.ret (vs s) ⟨[], 99⟩ true) := by kernel_rfl
theorem digU (a : Nat) (h : a < 18446744073709551616) : IntKind.u8.wrap (IntKind.u64.wrap (48 + (a : Int).tmod 10)) = ((48 + a % 10 : Nat) : Int) ∧ IntKind.u64.wrap ((a : Int).tdiv 10) = ((a / 10 : Nat) : Int) := by
  have e1 : (a : Int).tmod 10 = ((a % 10 : Nat) : Int) := by simp [Int.tmod]
  have e2 : (a : Int).tdiv 10 = ((a / 10 : Nat) : Int) := by simp [Int.tdiv]
  rw [e1, e2, IntWalk.u64_in _ (by omega), IntWalk.u64_in _ (by omega), wk8 _ (by omega) (by omega)]
  omega
theorem wh_loop : ∀ (f a k : Nat) (acc : List Int), 0 < k → k + f ≤ 100 → acc.length = k → a < 10 ^ f → a < 18446744073709551616 →
    Gives_ Try.prog Try.f33 0 ⟨hd Try.f33 0, whTm (a : Int) (k : Int) (strOf acc), ⟨[], 0⟩⟩ (vs (strOf (bif Nat.beq a 0 then acc else decL f a acc))) ⟨[], 99⟩ := by
  intro f
  induction f with
  | zero =>
    intro a k acc hk hkf hl ha hb
    have : a = 0 := by simpa using ha
    subst this
    refine H_ret (cuts := whC) (ns := []) (top := 99) env_nil mixedD rfl ?_
    rw [wh_round, show ((k : Int) == 0) = false by simp; omega]
    rfl
  | succ f ih =>
    intro a k acc hk hkf hl ha hb
    by_cases h0 : a = 0
    · subst h0
      refine H_ret (cuts := whC) (ns := []) (top := 99) env_nil mixedD rfl ?_
      rw [wh_round, show ((k : Int) == 0) = false by simp; omega]
      rfl
    · obtain ⟨g1, g2⟩ := digU a hb
      have hD : strOf (bif Nat.beq a 0 then acc else decL (f + 1) a acc) = strOf (bif Nat.beq (a / 10) 0 then (((48 + a % 10 : Nat) : Int) :: acc) else decL f (a / 10) (((48 + a % 10 : Nat) : Int) :: acc)) := by
        rw [nbeq_ne h0]
        conv => lhs; unfold decL
        simp only [cond_false]
        by_cases h9 : a < 10
        · rw [show Nat.blt a 10 = true by simp [Nat.blt_eq]; omega, show a / 10 = 0 by omega]; rfl
        · rw [show Nat.blt a 10 = false by cases hbb : Nat.blt a 10 with | false => rfl | true => simp [Nat.blt_eq] at hbb; omega, nbeq_ne (show ¬ a / 10 = 0 by omega)]
      rw [hD]
      refine Goes.gives (H_head (f := Try.f33) (cuts := whC) (ns := []) (top := 99) (todo' := hd Try.f33 0) (tm' := whTm ((a / 10 : Nat) : Int) ((k + 1 : Nat) : Int) (strOf (((48 + a % 10 : Nat) : Int) :: acc))) (m' := ⟨[], 0⟩) env_nil mixedD rfl ?_) (ih (a / 10) (k + 1) _ (by omega) (by omega) (by simp [hl]) ?_ (by omega))
      · rw [wh_round, show ((k : Int) == 0) = false by simp; omega, decide_eq_true (show (0 : Int) < a by omega), g1, g2, wk ((k : Int) + 1) (by omega) (by omega), catB_eq, strOf_cons, lenB_eq, strOf_size, Nat.ble_eq_true_of_le (show 1 + acc.length ≤ 9223372036854775807 by omega)]
        rfl
      · have : 10 ^ (f + 1) = 10 ^ f * 10 := Nat.pow_succ ..
        omega
def wholeT (n : Int) : ByteArray := strOf (decL 20 n.toNat [])
def e_whole : Spec := fun _ args => match args with
  | [.val (.int .u64 n)] => some (vs (wholeT n), none, [decide (0 ≤ n), decide (n ≤ 18446744073709551615)])
  | _ => none
theorem ok_whole : SpecOk Try.prog 33 e_whole := fun m args v mo bs h hb => by
  unfold e_whole at h
  split at h
  · rename_i n
    cases h
    simp at hb
    obtain ⟨a, rfl⟩ := Int.eq_ofNat_of_zero_le hb.1
    obtain ⟨g1, g2⟩ := digU a (by omega)
    have hl := wh_loop 19 (a / 10) 1 [((48 + a % 10 : Nat) : Int)] (by omega) (by omega) rfl (by omega) (by omega)
    have hD : strOf (decL 20 (a : Int).toNat []) = strOf (bif Nat.beq (a / 10) 0 then [((48 + a % 10 : Nat) : Int)] else decL 19 (a / 10) [((48 + a % 10 : Nat) : Int)]) := by
      rw [Int.toNat_natCast]
      conv => lhs; unfold decL
      by_cases h9 : a < 10
      · rw [show Nat.blt a 10 = true by simp [Nat.blt_eq]; omega, show a / 10 = 0 by omega]; rfl
      · rw [show Nat.blt a 10 = false by cases hbb : Nat.blt a 10 with | false => rfl | true => simp [Nat.blt_eq] at hbb; omega, nbeq_ne (show ¬ a / 10 = 0 by omega)]
    unfold wholeT
    rw [hD]
    refine lift_ground (fsound (c := bodyOf Try.f33) (fun xs w => Try.call33 xs w) Try.func33 rfl
      (Goes.gives (F_head (f := Try.f33) (c := bodyOf Try.f33) (cuts := whC) (ns := []) (top := 99) env_nil mixedD rfl rfl (wh_in a))
        (Goes.gives (H_head (f := Try.f33) (cuts := whC) (ns := []) (top := 99) (todo' := hd Try.f33 0) (tm' := whTm ((a / 10 : Nat) : Int) ((1 : Nat) : Int) (strOf [((48 + a % 10 : Nat) : Int)])) (m' := ⟨[], 0⟩) env_nil mixedD rfl ?_) hl))) rfl rfl
    rw [wh_round, g1, g2]
    rfl
  · cases h
def L_dec : List (FuncId × Spec) := [(8, e_text), (33, e_whole)]
theorem hE_dec : ESound Try.prog (envOf L_dec) := env_cons ok_text (env_cons ok_whole env_nil)
end Go.Proofs.Ytpmcflidggofkaa
