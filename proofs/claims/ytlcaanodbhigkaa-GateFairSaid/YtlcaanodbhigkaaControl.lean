/-
  The functions of package control and of its reference, walked.
-/
import Derived.Test.YtlcaanodbhigkaaBase
import Derived.Test.YtlcaanodbhigkaaPControl
namespace Go.Proofs.Ytlcaanodbhigkaa
open Go Go.RowKit
set_option maxHeartbeats 400000 in
theorem want_any (l t s k d n : Int) (w : World) (hl : 0 ≤ l) (hl' : l ≤ 1048576) : Gives 14 #[.agg #[.int .i64 l, .int .i64 t, .int .i64 s, .int .i64 k, .int .i64 d], .int .i64 n] w (.int .i64 (want l t n)) := by
  have hmx := imax
  have hmn := imin
  refine gives ?_
  go_enter Try.func14, Try.ntmps14
  go_wp2
  go_ret
  exact ⟨rfl, by (repeat' (first | (with_reducible exact Below.refl _ _) | (with_reducible assumption) | (with_reducible refine Below.alloc ?_ ?_ _) | (with_reducible refine Below.setCell ?_ ?_ _) | (with_reducible refine Below.drew ?_) | (with_reducible exact Nat.le_refl _) | omega | (simp; omega) | (simp; done)))⟩
set_option maxHeartbeats 400000 in
theorem begin_any (l t s k d : Int) (w : World) : Gives 11 #[.agg #[.int .i64 l, .int .i64 t, .int .i64 s, .int .i64 k, .int .i64 d]] w (.agg #[.int .i64 t, .int .i64 0]) := by
  refine gives ?_
  go_enter Try.func11, Try.ntmps11
  go_wp2
  ((try simp only [Exit.inBlock, Exit.then]); refine bodyPost_ret (by simp [results, Try.results11, go_sem, *]; try with_reducible rfl) rfl ?_)
  exact ⟨rfl, by (repeat' (first | (with_reducible exact Below.refl _ _) | (with_reducible assumption) | (with_reducible refine Below.alloc ?_ ?_ _) | (with_reducible refine Below.setCell ?_ ?_ _) | (with_reducible refine Below.drew ?_) | (with_reducible exact Nat.le_refl _) | omega | (simp; omega) | (simp; done)))⟩
set_option maxHeartbeats 400000 in
theorem next_any (l t s k d T q n : Int) (w : World) (hl : 0 ≤ l) (hl' : l ≤ 1048576) (hd : d ≤ 16) (ht : 0 ≤ t) (htl : t ≤ l) (hT' : T ≤ 9223372036854775807) (hq : -9223372036854775808 ≤ q) :
    Gives 12 #[.agg #[.int .i64 l, .int .i64 t, .int .i64 s, .int .i64 k, .int .i64 d], .agg #[.int .i64 T, .int .i64 q], .int .i64 n] w (.agg #[.int .i64 (nextT l t d T q n), .int .i64 (nextQ l t d T q n)]) := by
  have hw := want_bd l t n ht htl
  have hmx := imax
  have hmn := imin
  refine gives ?_
  go_enter Try.func12, Try.ntmps12
  go_wp2_with (go_at_call 14; (with_reducible refine Gives.use (want_any _ _ _ _ _ _ _ hl hl') ?_); intro w1 hb1; have hB1 := below_call (B := w.heap.size) (w := w) (by (repeat' (first | (with_reducible exact Below.refl _ _) | (with_reducible assumption) | (with_reducible refine Below.alloc ?_ ?_ _) | (with_reducible refine Below.setCell ?_ ?_ _) | (with_reducible refine Below.drew ?_) | (with_reducible exact Nat.le_refl _) | omega | (simp; omega) | (simp; done)))) hb1 (by (first | (with_reducible exact Nat.le_refl _) | (with_reducible assumption) | omega | (simp; omega) | (simp; done))); obtain ⟨hc1, hf1⟩ := bcell hb1; have hz1 := hb1.size; have z1_0 : w.heap.size < w1.heap.size := (by first | omega | (have h := hz1; simp at h; omega)); have kc1_0 := fun o => hc1 (w.heap.size) o (by first | assumption | (simp; done) | (simp; omega)); have kf1_0 := fun o => hf1 (w.heap.size) o (by first | assumption | (simp; done) | (simp; omega)); have z1_1 : w.heap.size + 1 < w1.heap.size := (by first | omega | (have h := hz1; simp at h; omega)); have kc1_1 := fun o => hc1 (w.heap.size + 1) o (by first | assumption | (simp; done) | (simp; omega)); have kf1_1 := fun o => hf1 (w.heap.size + 1) o (by first | assumption | (simp; done) | (simp; omega)); have z1_2 : w.heap.size + 1 + 1 < w1.heap.size := (by first | omega | (have h := hz1; simp at h; omega)); have kc1_2 := fun o => hc1 (w.heap.size + 1 + 1) o (by first | assumption | (simp; done) | (simp; omega)); have kf1_2 := fun o => hf1 (w.heap.size + 1 + 1) o (by first | assumption | (simp; done) | (simp; omega)))
  all_goals
    ((try simp only [Exit.inBlock, Exit.then]); refine bodyPost_ret (by simp [results, Try.results12, go_sem, hc1]; try with_reducible rfl) rfl ?_)
    refine ⟨ret_v (agg_two ?_ ?_), by (repeat' (first | (with_reducible exact Below.refl _ _) | (with_reducible assumption) | (with_reducible refine Below.alloc ?_ ?_ _) | (with_reducible refine Below.setCell ?_ ?_ _) | (with_reducible refine Below.drew ?_) | (with_reducible exact Nat.le_refl _) | omega | (simp; omega) | (simp; done)))⟩
    · unfold nextT; repeat' split
      all_goals omega
    · unfold nextQ; repeat' split
      all_goals omega

set_option maxHeartbeats 400000 in
theorem run_any (l t s k d : Int) (A : Option Addr) (n c : Nat) (zs : List Int) (w : World) (hl : 0 ≤ l) (hl' : l ≤ 1048576) (ht : 0 ≤ t) (htl : t ≤ l) (hd : 0 ≤ d) (hd' : d ≤ 16)
    (hz : Reads w w.heap.size 1 A n (zs.map (Value.int .i64))) (hn : n ≤ 1000000) :
    Gives 13 #[.agg #[.int .i64 l, .int .i64 t, .int .i64 s, .int .i64 k, .int .i64 d], .slice A n c] w (.agg #[.int .i64 (run l t d zs).1, .int .i64 (run l t d zs).2]) := by
  have HZ := Lib.hid hz
  have hlen := hz.ints
  clear hz
  refine gives ?_
  go_enter Try.func13, Try.ntmps13
  go_wp2_with (go_at_call 11; (with_reducible refine Gives.use (begin_any _ _ _ _ _ _) ?_); intro w1 hb1; have hB1 := below_call (B := w.heap.size) (w := w) (by (repeat' (first | (with_reducible exact Below.refl _ _) | (with_reducible assumption) | (with_reducible refine Below.alloc ?_ ?_ _) | (with_reducible refine Below.setCell ?_ ?_ _) | (with_reducible refine Below.drew ?_) | (with_reducible exact Nat.le_refl _) | omega | (simp; omega) | (simp; done)))) hb1 (by (first | (with_reducible exact Nat.le_refl _) | (with_reducible assumption) | omega | (simp; omega) | (simp; done))); obtain ⟨hc1, hf1⟩ := bcell hb1; have hz1 := hb1.size; have z1_0 : w.heap.size < w1.heap.size := (by first | omega | (have h := hz1; simp at h; omega)); have kc1_0 := fun o => hc1 (w.heap.size) o (by first | assumption | (simp; done) | (simp; omega)); have kf1_0 := fun o => hf1 (w.heap.size) o (by first | assumption | (simp; done) | (simp; omega)); have z1_1 : w.heap.size + 1 < w1.heap.size := (by first | omega | (have h := hz1; simp at h; omega)); have kc1_1 := fun o => hc1 (w.heap.size + 1) o (by first | assumption | (simp; done) | (simp; omega)); have kf1_1 := fun o => hf1 (w.heap.size + 1) o (by first | assumption | (simp; done) | (simp; omega)))
  have hcB : Blk w1 w.heap.size 23 #[.int .i64 l, .int .i64 t, .int .i64 s, .int .i64 k, .int .i64 d] := ((Blk.new w _ _).alloc _).below hb1 (by (first | (with_reducible exact Nat.le_refl _) | (with_reducible assumption) | omega | (simp; omega) | (simp; done)))
  have hrB : Blk w1 (w.heap.size + 1) 28 #[.int .i64 0, .int .i64 0] := (Blk.fresh (by simp)).below hb1 (by (first | (with_reducible exact Nat.le_refl _) | (with_reducible assumption) | omega | (simp; omega) | (simp; done)))
  clear hc1 hf1
  have hz1' : w.heap.size + 1 < w1.heap.size := by simp at hz1; omega
  go_loopw [12] (fun i wr => ∃ j : Nat, j ≤ n ∧ i = .int .i64 j ∧ Below w.heap.size w wr ∧ Blk wr w.heap.size 23 #[.int .i64 l, .int .i64 t, .int .i64 s, .int .i64 k, .int .i64 d] ∧
      Blk wr (w.heap.size + 1) 28 #[.int .i64 0, .int .i64 0] ∧ Blk wr w1.heap.size 28 #[.int .i64 (run l t d (zs.take j)).1, .int .i64 (run l t d (zs.take j)).2])
    (fun i _ => n - (intOf i).toNat)
  case atStart => exact ⟨0, Nat.zero_le _, rfl, hB1.alloc (by omega) _, hcB.alloc _, hrB.alloc _, Blk.new _ _ _⟩
  case round =>
    obtain ⟨j, hj, rfl, hBr, hCr, hRr, hSr⟩ := hrel
    have hzr := hBr.size
    have hcC := hCr.cell
    have hcR := hRr.cell
    have hfR := hRr.frozen
    have hcS := hSr.cell
    have hfS := hSr.frozen
    have hbd := run_bd l t d (zs.take j) ht htl hd
    have hS2 := hSr.lt
    have hC2 := hCr.lt
    have hR2 := hRr.lt
    by_cases hlt : j < n
    · obtain ⟨b, o, u, rfl, hb, hx, hc⟩ := (HZ.out.below hBr).at_ hlt
      have hjz : j < zs.length := by omega
      rw [List.getElem?_map, List.getElem?_eq_getElem hjz] at hx
      obtain rfl : Value.int .i64 zs[j] = u := by simpa using hx
      clear hx
      go_wp2_with (go_at_call 12; (with_reducible refine Gives.use (next_any _ _ _ _ _ _ _ _ _ hl hl' hd' ht htl (by omega) (by omega)) ?_); intro w2 hb2; have hB2 := below_call (B := w.heap.size) (w := w) (by (repeat' (first | (with_reducible exact Below.refl _ _) | (with_reducible assumption) | (with_reducible refine Below.alloc ?_ ?_ _) | (with_reducible refine Below.setCell ?_ ?_ _) | (with_reducible refine Below.drew ?_) | (with_reducible exact Nat.le_refl _) | omega | (simp; omega) | (simp; done)))) hb2 (by (first | (with_reducible exact Nat.le_refl _) | (with_reducible assumption) | omega | (simp; omega) | (simp; done))); obtain ⟨hc2, hf2⟩ := bcell hb2; have hz2 := hb2.size; have z2_0 : w.heap.size < w2.heap.size := (by first | omega | (have h := hz2; simp at h; omega)); have kc2_0 := fun o => hc2 (w.heap.size) o (by first | assumption | (simp; done) | (simp; omega)); have kf2_0 := fun o => hf2 (w.heap.size) o (by first | assumption | (simp; done) | (simp; omega)); have z2_1 : w.heap.size + 1 < w2.heap.size := (by first | omega | (have h := hz2; simp at h; omega)); have kc2_1 := fun o => hc2 (w.heap.size + 1) o (by first | assumption | (simp; done) | (simp; omega)); have kf2_1 := fun o => hf2 (w.heap.size + 1) o (by first | assumption | (simp; done) | (simp; omega)))
      go_roundw
      case rel =>
        refine ⟨j + 1, by omega, by go_num, by (repeat' (first | (with_reducible exact Below.refl _ _) | (with_reducible assumption) | (with_reducible refine Below.alloc ?_ ?_ _) | (with_reducible refine Below.setCell ?_ ?_ _) | (with_reducible refine Below.drew ?_) | (with_reducible exact Nat.le_refl _) | omega | (simp; omega) | (simp; done))), ((hCr.below hb2 hCr.lt).far (by simp; omega) _).far (by simp; omega) _, ((hRr.below hb2 hRr.lt).far (by simp; omega) _).far (by simp; omega) _, ?_⟩
        rw [take_snoc zs j hjz, run_snoc]
        exact ((hSr.below hb2 hSr.lt).set_ 0 _).set_ 1 _
      case measure => simp [intOf]; omega
    · go_wp2
      obtain rfl : n = j := by omega
      ((try simp only [Exit.inBlock, Exit.then]); refine bodyPost_ret (by simp [results, Try.results13, go_sem, hcR]; try with_reducible rfl) rfl ?_)
      refine ⟨?_, by (repeat' (first | (with_reducible exact Below.refl _ _) | (with_reducible assumption) | (with_reducible refine Below.alloc ?_ ?_ _) | (with_reducible refine Below.setCell ?_ ?_ _) | (with_reducible refine Below.drew ?_) | (with_reducible exact Nat.le_refl _) | omega | (simp; omega) | (simp; done)))⟩
      rw [List.take_of_length_le (by omega)]

set_option maxHeartbeats 400000 in
theorem right_any (l t s k d : Int) (w : World) : Gives 15 #[.agg #[.int .i64 l, .int .i64 t, .int .i64 s, .int .i64 k, .int .i64 d]] w (.bool (rightB l t d)) := by
  refine gives ?_
  go_enter Try.func15, Try.ntmps15
  go_wp2
  all_goals
    ((try simp only [Exit.inBlock, Exit.then]); first | (refine bodyPost_ret (results_tmp rfl _ _ _) rfl ?_) | (refine bodyPost_ret (results_none rfl _ _ _) rfl ?_) | (refine bodyPost_end (results_none rfl _ _ _) rfl ?_) | go_ret2 | go_ret3)
    refine ⟨ret_bool ?_, by (repeat' (first | (with_reducible exact Below.refl _ _) | (with_reducible assumption) | (with_reducible refine Below.alloc ?_ ?_ _) | (with_reducible refine Below.setCell ?_ ?_ _) | (with_reducible refine Below.drew ?_) | (with_reducible exact Nat.le_refl _) | omega | (simp; omega) | (simp; done)))⟩
    rw [Bool.eq_iff_iff, right_iff]
    simp
    try omega
set_option maxHeartbeats 400000 in
theorem rright_any (l t s k d : Int) (w : World) : Gives 10 #[.agg #[.int .i64 l, .int .i64 t, .int .i64 s, .int .i64 k, .int .i64 d]] w (.bool (rightB l t d)) := by
  refine gives ?_
  go_enter Try.func10, Try.ntmps10
  go_wp2
  all_goals
    ((try simp only [Exit.inBlock, Exit.then]); first | (refine bodyPost_ret (results_tmp rfl _ _ _) rfl ?_) | (refine bodyPost_ret (results_none rfl _ _ _) rfl ?_) | (refine bodyPost_end (results_none rfl _ _ _) rfl ?_) | go_ret2 | go_ret3)
    refine ⟨ret_bool ?_, by (repeat' (first | (with_reducible exact Below.refl _ _) | (with_reducible assumption) | (with_reducible refine Below.alloc ?_ ?_ _) | (with_reducible refine Below.setCell ?_ ?_ _) | (with_reducible refine Below.drew ?_) | (with_reducible exact Nat.le_refl _) | omega | (simp; omega) | (simp; done)))⟩
    rw [Bool.eq_iff_iff, right_iff]
    simp
    try omega
set_option maxHeartbeats 400000 in
theorem rwant_any (l t s k d n : Int) (w : World) (hl : 0 ≤ l) (hl' : l ≤ 1048576) : Gives 17 #[.agg #[.int .i64 l, .int .i64 t, .int .i64 s, .int .i64 k, .int .i64 d], .int .i64 n] w (.int .i64 (want l t n)) := by
  refine gives ?_
  go_enter Try.func17, Try.ntmps17
  go_wp2
  all_goals
    ((try simp only [Exit.inBlock, Exit.then]); first | (refine bodyPost_ret (results_tmp rfl _ _ _) rfl ?_) | (refine bodyPost_ret (results_none rfl _ _ _) rfl ?_) | (refine bodyPost_end (results_none rfl _ _ _) rfl ?_) | go_ret2 | go_ret3)
    refine ⟨ret_int ?_, by (repeat' (first | (with_reducible exact Below.refl _ _) | (with_reducible assumption) | (with_reducible refine Below.alloc ?_ ?_ _) | (with_reducible refine Below.setCell ?_ ?_ _) | (with_reducible refine Below.drew ?_) | (with_reducible exact Nat.le_refl _) | omega | (simp; omega) | (simp; done)))⟩
    unfold want
    omega
set_option maxHeartbeats 400000 in
theorem rnext_any (l t s k d T q n : Int) (w : World) (hl : 0 ≤ l) (hl' : l ≤ 1048576) (hd : d ≤ 16) (ht : 0 ≤ t) (htl : t ≤ l) (hT' : T ≤ 9223372036854775807) (hq : -9223372036854775808 ≤ q) :
    Gives 16 #[.agg #[.int .i64 l, .int .i64 t, .int .i64 s, .int .i64 k, .int .i64 d], .int .i64 T, .int .i64 q, .int .i64 n] w (.tuple #[.int .i64 (nextT l t d T q n), .int .i64 (nextQ l t d T q n)]) := by
  have hw := want_bd l t n ht htl
  have hmx := imax
  have hmn := imin
  refine gives ?_
  go_enter Try.func16, Try.ntmps16
  go_wp2_with (go_at_call 17; (with_reducible refine Gives.use (rwant_any _ _ _ _ _ _ _ hl hl') ?_); intro w1 hb1; have hB1 := below_call (B := w.heap.size) (w := w) (by (repeat' (first | (with_reducible exact Below.refl _ _) | (with_reducible assumption) | (with_reducible refine Below.alloc ?_ ?_ _) | (with_reducible refine Below.setCell ?_ ?_ _) | (with_reducible refine Below.drew ?_) | (with_reducible exact Nat.le_refl _) | omega | (simp; omega) | (simp; done)))) hb1 (by (first | (with_reducible exact Nat.le_refl _) | (with_reducible assumption) | omega | (simp; omega) | (simp; done))); obtain ⟨hc1, hf1⟩ := bcell hb1; have hz1 := hb1.size; have z1_0 : w.heap.size < w1.heap.size := (by first | omega | (have h := hz1; simp at h; omega)); have kc1_0 := fun o => hc1 (w.heap.size) o (by first | assumption | (simp; done) | (simp; omega)); have kf1_0 := fun o => hf1 (w.heap.size) o (by first | assumption | (simp; done) | (simp; omega)))
  all_goals
    ((try simp only [Exit.inBlock, Exit.then]); first | (refine bodyPost_ret (results_tmp rfl _ _ _) rfl ?_) | (refine bodyPost_ret (results_none rfl _ _ _) rfl ?_) | (refine bodyPost_end (results_none rfl _ _ _) rfl ?_) | go_ret2 | go_ret3)
    refine ⟨ret_v (tup_two ?_ ?_), by (repeat' (first | (with_reducible exact Below.refl _ _) | (with_reducible assumption) | (with_reducible refine Below.alloc ?_ ?_ _) | (with_reducible refine Below.setCell ?_ ?_ _) | (with_reducible refine Below.drew ?_) | (with_reducible exact Nat.le_refl _) | omega | (simp; omega) | (simp; done)))⟩
    · unfold nextT; repeat' split
      all_goals omega
    · unfold nextQ; repeat' split
      all_goals omega
set_option maxHeartbeats 400000 in
theorem awake26 (w : World) : Gives 9 #[] w (.bool true) := by
  refine gives ?_
  go_enter Try.func9, Try.ntmps9
  have h1 : (run 100 10 0 [30, 30, 2, 2]).1 = 15 := by decide
  have h2 : (run 100 10 0 [30, 30, 2, 2]).2 = 0 := by decide
  go_wp2_with (go_at_call 13; (with_reducible refine Gives.use (run_any _ _ _ _ _ _ _ _ [30, 30, 2, 2] _ (by omega) (by omega) (by omega) (by omega) (by omega) (by omega) ?_ (by omega)) ?_); (· exact Reads.lit rfl (by simp)); intro w1 hb1; have hB1 := below_call (B := w.heap.size) (w := w) (by (repeat' (first | (with_reducible exact Below.refl _ _) | (with_reducible assumption) | (with_reducible refine Below.alloc ?_ ?_ _) | (with_reducible refine Below.setCell ?_ ?_ _) | (with_reducible refine Below.drew ?_) | (with_reducible exact Nat.le_refl _) | omega | (simp; omega) | (simp; done)))) hb1 (by (first | (with_reducible exact Nat.le_refl _) | (with_reducible assumption) | omega | (simp; omega) | (simp; done))); obtain ⟨hc1, hf1⟩ := bcell hb1; have hz1 := hb1.size)
  ((try simp only [Exit.inBlock, Exit.then]); first | (refine bodyPost_ret (results_tmp rfl _ _ _) rfl ?_) | (refine bodyPost_ret (results_none rfl _ _ _) rfl ?_) | (refine bodyPost_end (results_none rfl _ _ _) rfl ?_) | go_ret2 | go_ret3)
  exact ⟨rfl, by (repeat' (first | (with_reducible exact Below.refl _ _) | (with_reducible assumption) | (with_reducible refine Below.alloc ?_ ?_ _) | (with_reducible refine Below.setCell ?_ ?_ _) | (with_reducible refine Below.drew ?_) | (with_reducible exact Nat.le_refl _) | omega | (simp; omega) | (simp; done)))⟩
/-- What is known of memory in the walk: the settings' block, the state's block. -/
def HInv (w : World) (S : Nat) (l t s k d T q : Int) (wr : World) : Prop :=
  Below w.heap.size w wr ∧ Blk wr w.heap.size 23 #[.int .i64 l, .int .i64 t, .int .i64 s, .int .i64 k, .int .i64 d] ∧ Blk wr S 28 #[.int .i64 T, .int .i64 q] ∧ w.heap.size < S
theorem HInv.later {w : World} {S : Nat} {l t s k d T q : Int} {wr w' : World} (h : HInv w S l t s k d T q wr) (hb : Below wr.heap.size wr w') : HInv w S l t s k d T q w' :=
  ⟨h.1.trans (hb.mono h.1.size), h.2.1.below hb h.2.1.lt, h.2.2.1.below hb h.2.2.1.lt, h.2.2.2⟩
theorem HInv.set_ {w : World} {S : Nat} {l t s k d T q T' q' : Int} {wr : World} (h : HInv w S l t s k d T q wr) : HInv w S l t s k d T' q' ((wr.setCell ⟨S, 0, none⟩ (.int .i64 T')).setCell ⟨S, 1, none⟩ (.int .i64 q')) :=
  ⟨(h.1.setCell (Nat.le_of_lt h.2.2.2) _).setCell (Nat.le_of_lt h.2.2.2) _, (h.2.1.far (p := ⟨S, 0, none⟩) (Nat.ne_of_lt h.2.2.2) _).far (p := ⟨S, 1, none⟩) (Nat.ne_of_lt h.2.2.2) _, (h.2.2.1.set_ 0 _).set_ 1 _, h.2.2.2⟩


end Go.Proofs.Ytlcaanodbhigkaa
