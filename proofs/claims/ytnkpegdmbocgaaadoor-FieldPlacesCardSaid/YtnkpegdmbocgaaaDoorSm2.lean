/-
  Are the first parts of two lists the same? And lists of a few cells, compared in place.
-/
import Derived.Test.YtnkpegdmbocgaaaDoorSm
namespace Go.Proofs.YtnkpegdmbocgaaaDoor
open Go Go.RowKit
theorem take_getD {xs : List Int} {n k : Nat} (h : k < n) : (xs.take n).getD k 0 = xs.getD k 0 := by
  simp [List.getD_eq_getElem?_getD, List.getElem?_take_of_lt h]
theorem sm_all2 (nn nn' : Bool) (n n' : Nat) (c c' : Option Nat) (xs ys : List Int) (hx : n ≤ xs.length) (hy : n' ≤ ys.length) (hn : n ≤ 9223372036854775807) :
    FSound Tryd.prog 10 (smM xs ys) [.sl nn 0 1 0 1 n c, .sl nn' 1 1 0 1 n' c'] (vb (sameL (xs.take n) (ys.take n'))) ⟨[], 99⟩ := by
  have hin := sm_in nn nn' n n' c c' xs ys
  have l1 : (xs.take n).length = n := by simp [Nat.min_eq_left hx]
  have l2 : (ys.take n').length = n' := by simp [Nat.min_eq_left hy]
  by_cases h : n = n'
  · subst h
    rw [show (Int.ofNat n != Int.ofNat n) = false by simp] at hin
    have e : sameL (xs.take n) (ys.take n) = smF xs ys 0 n := by
      rw [Bool.eq_iff_iff, smF_eq]
      unfold sameL
      rw [decide_eq_true_eq]
      constructor
      · intro g k _ hk
        rw [← take_getD (xs := xs) (n := n) (by omega), g, take_getD (by omega)]
      · intro g
        refine ext_getD0 (by rw [l1, l2]) fun k hk => ?_
        rw [l1] at hk
        rw [take_getD hk, take_getD hk]
        exact g k (by omega) (by omega)
    rw [e]
    exact fsound (c := bodyOf Tryd.f10) (fun xs w => Tryd.call10 xs w) Tryd.func10 rfl
      (Goes.gives (F_head (f := Tryd.f10) (c := bodyOf Tryd.f10) (cuts := smC) (ns := []) (top := 99) env_nil sm_mixed rfl rfl hin) (sm_loop nn nn' c c' xs ys n hx hy hn n 0 (by omega)))
  · rw [show (Int.ofNat n != Int.ofNat n') = true by simp; omega] at hin
    have e : sameL (xs.take n) (ys.take n') = false := decide_eq_false (fun g => h (by rw [← l1, ← l2, g]))
    rw [e]
    exact fsound (c := bodyOf Tryd.f10) (fun xs w => Tryd.call10 xs w) Tryd.func10 rfl (F_ret env_nil sm_mixed rfl rfl hin)
def e_same2 : Spec := fun m args => match args with
  | [.sl nn l 1 0 1 n c, .sl nn' l' 1 0 1 n' c'] => match look m.bl l, look m.bl l' with
    | some ⟨_, _, .col (.ints .i64 xs)⟩, some ⟨_, _, .col (.ints .i64 ys)⟩ => some (vb (sameL (xs.take n) (ys.take n')), none, [Nat.ble n xs.length, Nat.ble n' ys.length, Nat.ble n 9223372036854775807])
    | _, _ => none
  | _ => none
theorem ok_same2 : SpecOk Tryd.prog 10 e_same2 := fun m args v mo bs h hb => by
  unfold e_same2 at h
  split at h
  · rename_i nn l n c nn' l' n' c'
    split at h
    · rename_i wr op xs wr' op' ys hl hl'
      cases h
      simp only [List.all_cons, List.all_nil, id, Bool.and_eq_true, Bool.and_true] at hb
      exact lift_2 hl hl' rfl rfl (sm_all2 nn nn' n n' c c' xs ys (Nat.le_of_ble_eq_true hb.1) (Nat.le_of_ble_eq_true hb.2.1) (Nat.le_of_ble_eq_true hb.2.2)) rfl
    · cases h
  · cases h
theorem ok_sameC : SpecOk Tryd.prog 10 (orS e_same2 (inl Tryd.prog [] Tryd.f10)) := orS_ok ok_same2 (inl_ok (c := bodyOf Tryd.f10) env_nil sm_mixed (fun xs w => Tryd.call10 xs w) Tryd.func10 rfl)
end Go.Proofs.YtnkpegdmbocgaaaDoor
