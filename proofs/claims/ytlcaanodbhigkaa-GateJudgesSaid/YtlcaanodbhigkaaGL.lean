/-
  The gate's numbers: the program's are the reference's, within the settings that may be. No condition beside these.
-/
import Derived.IntWalk
import Derived.Test.YtlcaanodbhigkaaGB
namespace Go.Proofs.Ytlcaanodbhigkaa
open Go Go.RowKit
theorem wr (x : Int) (h : -9223372036854775808 ≤ x) (h' : x ≤ 9223372036854775807) : IntKind.i64.wrap x = x := IntWalk.i64_in x ⟨h, h'⟩
theorem half (x : Int) (h : 0 ≤ x) (h' : x ≤ 9223372036854775807) : IntKind.i64.wrap (x.tdiv 2) = x / 2 := IntWalk.i64_quo x 2 ⟨h, h', by omega⟩
structure Set_ (l t d : Int) : Prop where
  l1 : 16 ≤ l
  l2 : l ≤ 1048576
  t1 : 0 ≤ t
  t2 : t ≤ l
  d1 : 0 ≤ d
  d2 : d ≤ 16
theorem right_set {l t s k d : Int} (h : haymowref26_Right_0 l t s k d = true) : Set_ l t d := by
  unfold haymowref26_Right_0 at h
  simp only [Bool.cond_eq_ite] at h
  simp at h
  exact ⟨h.1.1.1.1.1, h.1.1.1.1.2, h.1.1.1.2, h.1.1.2, h.1.2, h.2⟩
theorem right_same (l t s k d : Int) : control_Right_0 l t s k d = haymowref26_Right_0 l t s k d := by
  unfold control_Right_0 haymowref26_Right_0
  rw [Bool.eq_iff_iff]
  simp only [Bool.cond_eq_ite]
  simp
  omega
/-- A gate that may be. -/
structure Gok (l d T q b : Int) : Prop where
  a1 : 0 ≤ T
  a2 : T ≤ l
  q1 : 0 ≤ q
  q2 : q ≤ d
  b1 : 0 ≤ b
  b2 : b ≤ l
section
variable {l t s k d T q b : Int}
theorem held_eq (n : Int) : haymowref28_held_0 n = max n 0 := by
  unfold haymowref28_held_0
  simp only [Bool.cond_eq_ite, decide_eq_true_eq]
  split <;> omega
theorem over_eq (a b m : Int) (h : 0 ≤ m) (h' : m ≤ 1048576) : gate_over_0 a b m = decide (m < max a 0 + max b 0) := by
  unfold gate_over_0
  rw [Bool.eq_iff_iff]
  simp only [Bool.cond_eq_ite]
  by_cases c : m < max a 0
  · simp [c]; omega
  · rw [wr _ (by omega) (by omega)]
    simp [c]; omega
theorem fits_eq (a b m : Int) (h : 0 ≤ m) (h' : m ≤ 1048576) : haymowref28_Fits_0 a b m = !gate_over_0 a b m := by
  rw [over_eq a b m h h']
  unfold haymowref28_Fits_0
  rw [held_eq, held_eq, Bool.eq_iff_iff]
  simp only [Bool.cond_eq_ite]
  by_cases c : max a 0 ≤ m
  · rw [wr _ (by omega) (by omega)]
    simp [c]; omega
  · simp [c]; omega
theorem rwant_eq (hs : Set_ l t d) (n : Int) : haymowref26_Want_0 l t s k d n = control_Want_0 l t s k d n := by
  obtain ⟨h1, h2, h3, h4, _, _⟩ := hs
  unfold haymowref26_Want_0 control_Want_0
  rw [wr (2 * l) (by omega) (by omega), wr (2 * min (max n 0) l) (by omega) (by omega)]
  simp only [Bool.cond_eq_ite, decide_eq_true_eq]
  by_cases c : n < 0
  · simp only [c, if_true]
    (repeat' split) <;> omega
  · simp only [c, if_false]
    by_cases c2 : l < n
    · simp only [c2, if_true]
      (repeat' split) <;> omega
    · rw [wr (2 * n) (by omega) (by omega)]
      (repeat' split) <;> omega
theorem next_same (hs : Set_ l t d) (hT : 0 ≤ T) (hT' : T ≤ l) (n : Int) : haymowref26_Next_0 l t s k d T q n = control_Next_0 l t s k d T q n ∧ haymowref26_Next_1 l t s k d T q n = control_Next_1 l t s k d T q n := by
  obtain ⟨h1, h2, h3, h4, _, _⟩ := id hs
  unfold haymowref26_Next_0 control_Next_0 haymowref26_Next_1 control_Next_1
  rw [rwant_eq hs]
  simp only [Bool.cond_eq_ite, decide_eq_true_eq]
  constructor <;> (repeat' split) <;> omega
theorem want_bd (hs : Set_ l t d) (n : Int) : 0 ≤ control_Want_0 l t s k d n ∧ control_Want_0 l t s k d n ≤ l := by
  obtain ⟨h1, h2, h3, h4, _, _⟩ := hs
  unfold control_Want_0
  rw [wr (2 * min (max n 0) l) (by omega) (by omega)]
  omega
theorem next_bd (hs : Set_ l t d) (hT : 0 ≤ T) (hT' : T ≤ l) (hq : 0 ≤ q) (hq' : q ≤ d) (n : Int) : 0 ≤ control_Next_0 l t s k d T q n ∧ control_Next_0 l t s k d T q n ≤ l ∧ 0 ≤ control_Next_1 l t s k d T q n ∧ control_Next_1 l t s k d T q n ≤ d := by
  have hw := want_bd (s := s) (k := k) hs n
  obtain ⟨h1, h2, h3, h4, h5, h6⟩ := hs
  unfold control_Next_0 control_Next_1
  rw [half T hT (by omega), wr (q + 1) (by omega) (by omega)]
  simp only [Bool.cond_eq_ite, decide_eq_true_eq]
  refine ⟨?_, ?_, ?_, ?_⟩ <;> (repeat' split) <;> omega
theorem after_same (hs : Set_ l t d) (hg : Gok l d T q b) (v z : Int) : haymowref28_After_0 l t s k d T q b v z = gate_Gate_After_0 l t s k d T q b v z ∧ haymowref28_After_1 l t s k d T q b v z = gate_Gate_After_1 l t s k d T q b v z ∧
    haymowref28_After_2 l t s k d T q b v z = gate_Gate_After_2 l t s k d T q b v z ∧ haymowref28_After_3 l t s k d T q b v z = gate_Gate_After_3 l t s k d T q b v z ∧
    Gok l d (gate_Gate_After_0 l t s k d T q b v z) (gate_Gate_After_1 l t s k d T q b v z) (gate_Gate_After_2 l t s k d T q b v z) := by
  have hn := fun n => next_same (s := s) (k := k) (q := q) hs hg.a1 hg.a2 n
  have hb := fun n => next_bd (s := s) (k := k) hs hg.a1 hg.a2 hg.q1 hg.q2 n
  have h1 := hs.l1
  have h2 := hs.l2
  have hf := fits_eq v z l (by omega) hs.l2
  unfold haymowref28_After_0 haymowref28_After_1 haymowref28_After_2 haymowref28_After_3 gate_Gate_After_0 gate_Gate_After_1 gate_Gate_After_2 gate_Gate_After_3 gate_Gate_Fits_0
  rw [hf, held_eq, held_eq]
  simp only [(hn _).1, (hn _).2]
  cases ho : gate_over_0 v z l with
  | true =>
    simp only [Bool.not_true, cond_false]
    by_cases c : l < max v 0
    · have e : min (max v 0) l = l := by omega
      simp only [c, decide_true, cond_true, e]
      exact ⟨trivial, trivial, trivial, trivial, (hb _).1, (hb _).2.1, (hb _).2.2.1, (hb _).2.2.2, by omega, by omega⟩
    · have e : min (max v 0) l = max v 0 := by omega
      simp only [c, decide_false, cond_false, e]
      exact ⟨trivial, trivial, trivial, trivial, (hb _).1, (hb _).2.1, (hb _).2.2.1, (hb _).2.2.2, by omega, by omega⟩
  | false =>
    rw [over_eq v z l (by omega) hs.l2] at ho
    have ho := of_decide_eq_false ho
    have c : ¬ l < max v 0 := by omega
    have e : min (max v 0) l = max v 0 := by omega
    simp only [Bool.not_false, cond_true, c, decide_false, cond_false, e]
    refine ⟨trivial, trivial, trivial, trivial, (hb _).1, (hb _).2.1, (hb _).2.2.1, (hb _).2.2.2, ?_, ?_⟩ <;> rw [wr _ (by omega) (by omega)] <;> omega
theorem pressed_eq (hs : Set_ l t d) (hg : Gok l d T q b) : gate_Gate_Pressed_0 l t s k d T q b = decide (T < 2 * b) ∧ IntKind.i64.wrap (2 * b) = 2 * b := by
  have h2 := hs.l2
  obtain ⟨a1, a2, _, _, b1, b2⟩ := hg
  refine ⟨?_, wr _ (by omega) (by omega)⟩
  unfold gate_Gate_Pressed_0
  rw [half _ (by omega) (by omega), Bool.eq_iff_iff]
  simp; omega
theorem judge_same (hs : Set_ l t d) (hg : Gok l d T q b) (u v z : Int) : haymowref28_Judge_0 l t s k d T q b u v z = gate_Gate_Judge_0 l t s k d T q b u v z ∧ haymowref28_Judge_1 l t s k d T q b u v z = gate_Gate_Judge_1 l t s k d T q b u v z ∧
    haymowref28_Judge_2 l t s k d T q b u v z = gate_Gate_Judge_2 l t s k d T q b u v z ∧ haymowref28_Judge_3 l t s k d T q b u v z = gate_Gate_Judge_3 l t s k d T q b u v z ∧
    haymowref28_Judge_4 l t s k d T q b u v z = gate_Gate_Judge_4 l t s k d T q b u v z ∧ haymowref28_Judge_5 l t s k d T q b u v z = gate_Gate_Judge_5 l t s k d T q b u v z ∧
    Gok l d (gate_Gate_Judge_0 l t s k d T q b u v z) (gate_Gate_Judge_1 l t s k d T q b u v z) (gate_Gate_Judge_2 l t s k d T q b u v z) := by
  obtain ⟨e0, e1, e2, e3, e4⟩ := after_same (s := s) (k := k) hs hg v z
  obtain ⟨p1, p2⟩ := pressed_eq (s := s) (k := k) hs hg
  have h1 := hs.l1
  have h2 := hs.l2
  have hf := fits_eq u z T hg.a1 (by have := hg.a2; omega)
  unfold haymowref28_Judge_0 haymowref28_Judge_1 haymowref28_Judge_2 haymowref28_Judge_3 haymowref28_Judge_4 haymowref28_Judge_5 gate_Gate_Judge_0 gate_Gate_Judge_1 gate_Gate_Judge_2 gate_Gate_Judge_3 gate_Gate_Judge_4 gate_Gate_Judge_5 gate_Gate_Asks_0
  rw [hf, e0, e1, e2, e3, p1, p2]
  cases gate_over_0 u z T with
  | true => exact ⟨rfl, rfl, rfl, rfl, rfl, rfl, e4⟩
  | false => exact ⟨rfl, rfl, rfl, rfl, rfl, rfl, hg⟩
end
end Go.Proofs.Ytlcaanodbhigkaa
