/-
  Texts read as numbers: contracts of both.
-/
import Derived.Laws.Strings
import Derived.Test.YtpmcflidggofkaaDS
namespace Go.Proofs.Ytpmcflidggofkaa
open Go Go.RowKit
theorem size_list (s : ByteArray) : s.size = s.data.toList.length := by
  show s.data.size = _
  simp
theorem byte_list (s : ByteArray) (i : Nat) : byteAt s i = ((s.data.toList.getD i 0).toNat : Int) := rfl
theorem ext_list (s : ByteArray) : (s.extract 1 s.size).data.toList = s.data.toList.drop 1 := by
  simp
  exact List.take_of_length_le (by simp)
theorem head_list (s : ByteArray) : (s.extract 0 1).data.toList = s.data.toList.take 1 := by
  simp [ByteArray.data_extract]
theorem nil_iff (d : ByteArray) : (d.toList == []) = decide (d.size = 0) := by
  rw [ByteArray.toList_eq, size_list]
  cases d.data.toList <;> rfl
theorem len_iff (d : ByteArray) : (Int.ofNat d.size == 0) = decide (d.size = 0) := by
  cases h : d.size with
  | zero => rfl
  | succ n => simp; omega
/-- The text without its sign. -/
def unS (s : ByteArray) : ByteArray := bif mnR s then s.extract 1 s.size else s
theorem has_eq (s : ByteArray) : internal_stringslite_HasPrefix_0 s ⟨#[45]⟩ = mnR s := by
  unfold internal_stringslite_HasPrefix_0 mnR
  have hp : (⟨#[45]⟩ : ByteArray).size = 1 := rfl
  rw [hp]
  have e : decide (Int.ofNat 1 ≤ Int.ofNat s.size) = decide (0 < Int.ofNat s.size) := by simp; omega
  rw [e, ByteArray.toList_eq, ByteArray.toList_eq, head_list, byte_list, size_list]
  cases h : s.data.toList with
  | nil => rfl
  | cons b r =>
    have h1 : decide (0 < Int.ofNat (b :: r).length) = true := by simp <;> omega
    rw [h1]
    simp only [cond_true, List.getD_cons_zero]
    show (([b] : List UInt8) == [45]) = ((b.toNat : Int) == 45)
    rw [Bool.eq_iff_iff]
    simp
    constructor
    · intro h; rw [h]; rfl
    · intro h
      apply UInt8.toNat_inj.1
      have : b.toNat = 45 := by omega
      rw [this]; rfl
theorem tp_eq (s : ByteArray) : tp s = unS s := by
  unfold tp strings_TrimPrefix_0 internal_stringslite_TrimPrefix_0 unS
  rw [has_eq]
  rfl
theorem mn_pos {s : ByteArray} (h : mnR s = true) : 0 < s.size := by
  unfold mnR at h
  cases hs : s.size with
  | zero => rw [hs] at h; cases h
  | succ n => omega
theorem unS_size (s : ByteArray) : (mnR s = true → (unS s).size + 1 = s.size) ∧ (mnR s = false → (unS s).size = s.size) := by
  unfold unS
  refine ⟨fun h => ?_, fun h => ?_⟩
  · have hp := mn_pos h
    rw [h]
    simp only [cond_true]
    rw [size_list, ext_list, List.length_drop, ← size_list]
    omega
  · rw [h]; rfl
theorem unS_le (s : ByteArray) : (unS s).size ≤ s.size := by
  cases h : mnR s with
  | true => have := (unS_size s).1 h; omega
  | false => have := (unS_size s).2 h; omega
theorem shK_ok (s : ByteArray) : shK s = true := by
  unfold shK c_strings_TrimPrefix c_internal_stringslite_TrimPrefix
  rw [has_eq, nil_iff]
  have hp : (⟨#[45]⟩ : ByteArray).size = 1 := rfl
  rw [hp]
  have h1 : (bif mnR s then bif decide (Int.ofNat 1 ≤ Int.ofNat s.size) then bif decide (Int.ofNat s.size ≤ Int.ofNat s.size) then true else false else false else true) = true := by
    cases h : mnR s with
    | false => rfl
    | true =>
      have := mn_pos h
      rw [decide_eq_true (show Int.ofNat 1 ≤ Int.ofNat s.size by simp; omega), decide_eq_true (Int.le_refl _)]
      rfl
  rw [h1]
  by_cases hz : (tp s).size = 0
  · rw [decide_eq_true hz]; simp
  · rw [decide_eq_false hz, decide_eq_true (show 0 < (tp s).size by omega)]; simp
theorem cTP_ok (s : ByteArray) : c_strings_TrimPrefix s ⟨#[45]⟩ = true := by
  have := shK_ok s
  unfold shK at this
  cases h : c_strings_TrimPrefix s ⟨#[45]⟩ with
  | true => rfl
  | false => rw [h] at this; cases this
theorem rk1_ok {s : ByteArray} (h : mnR s = true) : rk1 s = true := by
  have hp := mn_pos h
  unfold rk1
  rw [len_iff, decide_eq_true hp, decide_eq_true (show (1 : Int) ≤ Int.ofNat s.size by simp; omega), decide_eq_true (Int.le_refl _)]
  by_cases hz : (s.extract 1 s.size).size = 0
  · rw [decide_eq_true hz]; simp
  · rw [decide_eq_false hz, decide_eq_true (show 0 < (s.extract 1 s.size).size by omega)]; simp
theorem rk2_ok (s : ByteArray) : rk2 s = true := by
  unfold rk2
  rw [len_iff]
  by_cases hz : s.size = 0
  · rw [decide_eq_true hz, decide_eq_false (show ¬ (0 : Int) < Int.ofNat s.size by rw [hz]; decide)]; simp
  · rw [decide_eq_false hz, decide_eq_true (show 0 < s.size by omega)]; simp
theorem bytes_len (d : ByteArray) : (bytesOf d).length = d.size := by unfold bytesOf; rw [List.length_map, ← size_list]
theorem bytes_at (d : ByteArray) (i : Nat) : (bytesOf d).getD i 0 = byteAt d i := by
  unfold bytesOf
  rw [byte_list, List.getD_eq_getElem?_getD, List.getD_eq_getElem?_getD, List.getElem?_map]
  cases d.data.toList[i]? <;> rfl
theorem shH_eq (s : ByteArray) : shH s = rfH s (unS s) := by
  unfold shH rfH
  rw [tp_eq, nil_iff, len_iff]
  have hle := unS_le s
  have e : (bif decide (1 < Int.ofNat (unS s).size) then true else decide (1 < Int.ofNat s.size)) = decide (1 < Int.ofNat s.size) := by
    by_cases c : 1 < (unS s).size
    · rw [decide_eq_true (show (1 : Int) < Int.ofNat (unS s).size by simp; omega), decide_eq_true (show (1 : Int) < Int.ofNat s.size by simp; omega)]; rfl
    · rw [decide_eq_false (show ¬ (1 : Int) < Int.ofNat (unS s).size by simp; omega)]; rfl
  rw [e]
def rdV (s : ByteArray) : Int × Int := bif rfH s (unS s) then (0, 5) else bif digs (unS s) 0 (unS s).size then outA (mnR s) (rdF (bytesOf (unS s)) 0 (unS s).size 0) else (0, 5)
def rfW (s : ByteArray) : Int × Int := bif rfH s (unS s) then (0, 5) else rfV s (unS s) (digs (unS s) 0 (unS s).size)
def rd0 (s : ByteArray) : Int := (rdV s).1
def rd1 (s : ByteArray) : Int := (rdV s).2
def rf0 (s : ByteArray) : Int := (rfW s).1
def rf1 (s : ByteArray) : Int := (rfW s).2
theorem pos_of {s : ByteArray} (h : shH s = false) : 0 < s.size := by
  rw [shH_eq] at h
  unfold rfH at h
  rw [len_iff] at h
  have hle := unS_le s
  by_cases hz : (unS s).size = 0
  · rw [decide_eq_true hz] at h; cases h
  · omega
theorem mn_eq {s : ByteArray} (h : 0 < s.size) : (byteAt s 0 == 45) = mnR s := by
  unfold mnR
  rw [decide_eq_true (show (0 : Int) < Int.ofNat s.size by simp; omega)]
  rfl
def e_read : Spec := fun _ args => match args with
  | [.val (.string s)] => some (.tup [vi (rd0 s), vi (rd1 s)], none, [Nat.ble s.size 9223372036854775807])
  | _ => none
theorem ok_read : SpecOk Try.prog 9 e_read := fun m args v mo bs h hb => by
  unfold e_read at h
  split at h
  · rename_i s
    cases h
    simp only [List.all_cons, List.all_nil, id, Bool.and_true] at hb
    have hs := Nat.le_of_ble_eq_true hb
    have hle := unS_le s
    have hin := rd_in s
    have hk := shK_ok s
    have hT : tp s = unS s := tp_eq s
    have hsz : Nat.ble (tp s).size 9223372036854775807 = true := Nat.ble_eq_true_of_le (by rw [hT]; omega)
    rw [hk, hsz] at hin
    have hV : shV s = bif rfH s (unS s) then false else digs (unS s) 0 (unS s).size := by unfold shV; rw [shH_eq, hT]
    unfold rd0 rd1 rdV
    cases hH : rfH s (unS s) with
    | true =>
      rw [hV, hH] at hin
      exact lift_ground (fsound (c := bodyOf Try.f9) (fun xs w => Try.call9 xs w) Try.func9 rfl (F_ret hE_shaped mixed rfl rfl hin)) rfl rfl
    | false =>
      have hp : 0 < s.size := pos_of (by rw [shH_eq]; exact hH)
      rw [hV, hH] at hin
      cases hD : digs (unS s) 0 (unS s).size with
      | false =>
        rw [hD] at hin
        exact lift_ground (fsound (c := bodyOf Try.f9) (fun xs w => Try.call9 xs w) Try.func9 rfl (F_ret hE_shaped mixed rfl rfl hin)) rfl rfl
      | true =>
        rw [hD, decide_eq_true hp, cTP_ok, mn_eq hp, hT] at hin
        have hl := rd_loop (unS s).size (by omega) (mnR s) (bytesOf (unS s)) (by rw [bytes_len]; exact Nat.le_refl _) (unS s).size 0 0 (by omega)
        exact lift_ground (fsound (c := bodyOf Try.f9) (fun xs w => Try.call9 xs w) Try.func9 rfl
          (Goes.gives (F_head (f := Try.f9) (c := bodyOf Try.f9) (cuts := rdC) (ns := []) (top := 99) hE_shaped mixed rfl rfl hin) hl)) rfl rfl
  · cases h
def e_rfr : Spec := fun _ args => match args with
  | [.val (.string s)] => some (.tup [vi (rf0 s), vi (rf1 s)], none, [Nat.ble s.size 9223372036854775807])
  | _ => none
theorem ok_rfr : SpecOk Try.prog 10 e_rfr := fun m args v mo bs h hb => by
  unfold e_rfr at h
  split at h
  · rename_i s
    cases h
    simp only [List.all_cons, List.all_nil, id, Bool.and_true] at hb
    have hs := Nat.le_of_ble_eq_true hb
    have hle := unS_le s
    have hin := rf_in s
    have hin' : F_ Try.prog [] Try.f10 r1C [] 99 [vs s] noMem = bif rfH s (unS s) then some (Fin_.ret (.tup [vi 0, vi 5]) ⟨[], 99⟩ true) else some (Fin_.head (hd Try.f10 0) (r1Tm s (unS s) 0) ⟨[], 0⟩ true) := by
      rw [hin]
      unfold unS
      cases hm : mnR s with
      | true => simp only [cond_true]; rw [rk1_ok hm]
      | false => simp only [cond_false]; rw [rk2_ok s]
    unfold rf0 rf1 rfW
    cases hH : rfH s (unS s) with
    | true =>
      rw [hH] at hin'
      exact lift_ground (fsound (c := bodyOf Try.f10) (fun xs w => Try.call10 xs w) Try.func10 rfl (F_ret env_nil mixed rfl rfl hin')) rfl rfl
    | false =>
      rw [hH] at hin'
      exact lift_ground (fsound (c := bodyOf Try.f10) (fun xs w => Try.call10 xs w) Try.func10 rfl
        (Goes.gives (F_head (f := Try.f10) (c := bodyOf Try.f10) (cuts := r1C) (ns := []) (top := 99) env_nil mixed rfl rfl hin') (rf_loop1 s (unS s) (by omega) (unS s).size 0 (by omega)))) rfl rfl
  · cases h
end Go.Proofs.Ytpmcflidggofkaa
