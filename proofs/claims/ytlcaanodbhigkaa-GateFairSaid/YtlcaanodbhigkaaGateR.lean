/-
  The functions of the gate's reference, walked.
-/
import Derived.Test.YtlcaanodbhigkaaControl
import Derived.Test.YtlcaanodbhigkaaPGate
namespace Go.Proofs.Ytlcaanodbhigkaa
open Go Go.RowKit
set_option maxHeartbeats 400000 in
theorem held_any (a : Int) (w : World) : Gives 30 #[.int .i64 a] w (.int .i64 (max a 0)) := by
  refine gives ?_
  go_enter Try.func30, Try.ntmps30
  go_wp2
  all_goals
    ((try simp only [Exit.inBlock, Exit.then]); first | (refine bodyPost_ret (results_tmp rfl _ _ _) rfl ?_) | (refine bodyPost_ret (results_none rfl _ _ _) rfl ?_) | (refine bodyPost_end (results_none rfl _ _ _) rfl ?_) | go_ret2 | go_ret3)
    exact ⟨ret_int (by omega), by (repeat' (first | (with_reducible exact Below.refl _ _) | (with_reducible assumption) | (with_reducible refine Below.alloc ?_ ?_ _) | (with_reducible refine Below.setCell ?_ ?_ _) | (with_reducible refine Below.drew ?_) | (with_reducible exact Nat.le_refl _) | omega | (simp; omega) | (simp; done)))⟩
set_option maxHeartbeats 400000 in
theorem rfits_any (a b m : Int) (w : World) (hm : 0 ≤ m) (hm' : m ≤ 1048576) : Gives 22 #[.int .i64 a, .int .i64 b, .int .i64 m] w (.bool (!overB a b m)) := by
  refine gives ?_
  by_cases h : max a 0 ≤ m
  · go_enter Try.func22, Try.ntmps22
    go_wp2_with (go_at_call 30; (with_reducible refine Gives.use (held_any _ _) ?_); intro w1 hb1; have hB1 := below_call (B := w.heap.size) (w := w) (by (repeat' (first | (with_reducible exact Below.refl _ _) | (with_reducible assumption) | (with_reducible refine Below.alloc ?_ ?_ _) | (with_reducible refine Below.setCell ?_ ?_ _) | (with_reducible refine Below.drew ?_) | (with_reducible exact Nat.le_refl _) | omega | (simp; omega) | (simp; done)))) hb1 (by (first | (with_reducible exact Nat.le_refl _) | (with_reducible assumption) | omega | (simp; omega) | (simp; done))); obtain ⟨hc1, hf1⟩ := bcell hb1; have hz1 := hb1.size)
    ((try simp only [Exit.inBlock, Exit.then]); first | (refine bodyPost_ret (results_tmp rfl _ _ _) rfl ?_) | (refine bodyPost_ret (results_none rfl _ _ _) rfl ?_) | (refine bodyPost_end (results_none rfl _ _ _) rfl ?_) | go_ret2 | go_ret3)
    refine ⟨ret_bool ?_, by (repeat' (first | (with_reducible exact Below.refl _ _) | (with_reducible assumption) | (with_reducible refine Below.alloc ?_ ?_ _) | (with_reducible refine Below.setCell ?_ ?_ _) | (with_reducible refine Below.drew ?_) | (with_reducible exact Nat.le_refl _) | omega | (simp; omega) | (simp; done)))⟩
    have h0 : decide (m < max a 0) = false := by simp; omega
    unfold overB
    rw [h0, Bool.false_or, Bool.eq_iff_iff]
    simp
    try omega
  · have hd : decide (max a 0 ≤ m) = false := by simp; omega
    go_enter Try.func22, Try.ntmps22
    go_wp2_with (go_at_call 30; (with_reducible refine Gives.use (held_any _ _) ?_); intro w1 hb1; have hB1 := below_call (B := w.heap.size) (w := w) (by (repeat' (first | (with_reducible exact Below.refl _ _) | (with_reducible assumption) | (with_reducible refine Below.alloc ?_ ?_ _) | (with_reducible refine Below.setCell ?_ ?_ _) | (with_reducible refine Below.drew ?_) | (with_reducible exact Nat.le_refl _) | omega | (simp; omega) | (simp; done)))) hb1 (by (first | (with_reducible exact Nat.le_refl _) | (with_reducible assumption) | omega | (simp; omega) | (simp; done))); obtain ⟨hc1, hf1⟩ := bcell hb1; have hz1 := hb1.size)
    ((try simp only [Exit.inBlock, Exit.then]); first | (refine bodyPost_ret (results_tmp rfl _ _ _) rfl ?_) | (refine bodyPost_ret (results_none rfl _ _ _) rfl ?_) | (refine bodyPost_end (results_none rfl _ _ _) rfl ?_) | go_ret2 | go_ret3)
    refine ⟨ret_bool ?_, by (repeat' (first | (with_reducible exact Below.refl _ _) | (with_reducible assumption) | (with_reducible refine Below.alloc ?_ ?_ _) | (with_reducible refine Below.setCell ?_ ?_ _) | (with_reducible refine Below.drew ?_) | (with_reducible exact Nat.le_refl _) | omega | (simp; omega) | (simp; done)))⟩
    have h0 : decide (m < max a 0) = true := by simp; omega
    unfold overB
    rw [h0]
    rfl
set_option maxHeartbeats 1000000 in
theorem rafter_any (l t s k d T q b live words : Int) (w : World) (hR : rightB l t d = true) (hg : GS.ok l d ⟨T, q, b⟩) :
    Gives 26 #[.agg #[.int .i64 l, .int .i64 t, .int .i64 s, .int .i64 k, .int .i64 d, .int .i64 T, .int .i64 q, .int .i64 b], .int .i64 live, .int .i64 words] w
      (.tuple #[.agg #[.int .i64 l, .int .i64 t, .int .i64 s, .int .i64 k, .int .i64 d, .int .i64 (afterG l t d ⟨T, q, b⟩ live words).T, .int .i64 (afterG l t d ⟨T, q, b⟩ live words).q, .int .i64 (afterG l t d ⟨T, q, b⟩ live words).b], .bool (!overB live words l)]) := by
  obtain ⟨hl, hl', ht, htl, hd, hd'⟩ := right_iff.1 hR
  obtain ⟨g1, g2, g3, g4, g5, g6⟩ := hg
  have g1 : 0 ≤ T := g1
  have g2 : T ≤ l := g2
  have g3 : 0 ≤ q := g3
  have g4 : q ≤ d := g4
  clear hR
  refine gives ?_
  cases h : overB live words l with
  | true =>
    by_cases h2 : l < max live 0
    · have e : min (max live 0) l = l := by omega
      go_enter Try.func26, Try.ntmps26
      go_wp2_with (first | (go_at_call 22; (with_reducible refine Gives.use (rfits_any _ _ _ _ (by omega) hl') ?_); intro w1 hb1; have hB1 := below_call (B := w.heap.size) (w := w) (by (repeat' (first | (with_reducible exact Below.refl _ _) | (with_reducible assumption) | (with_reducible refine Below.alloc ?_ ?_ _) | (with_reducible refine Below.setCell ?_ ?_ _) | (with_reducible refine Below.drew ?_) | (with_reducible exact Nat.le_refl _) | omega | (simp; omega) | (simp; done)))) hb1 (by (first | (with_reducible exact Nat.le_refl _) | (with_reducible assumption) | omega | (simp; omega) | (simp; done))); obtain ⟨hc1, hf1⟩ := bcell hb1; have hz1 := hb1.size; have z1_0 : w.heap.size < w1.heap.size := (by first | omega | (have h := hz1; simp at h; omega)); have kc1_0 := fun o => hc1 (w.heap.size) o (by first | assumption | (simp; done) | (simp; omega)); have kf1_0 := fun o => hf1 (w.heap.size) o (by first | assumption | (simp; done) | (simp; omega)); have z1_1 : w.heap.size + 1 < w1.heap.size := (by first | omega | (have h := hz1; simp at h; omega)); have kc1_1 := fun o => hc1 (w.heap.size + 1) o (by first | assumption | (simp; done) | (simp; omega)); have kf1_1 := fun o => hf1 (w.heap.size + 1) o (by first | assumption | (simp; done) | (simp; omega))) | (go_at_call 30; (with_reducible refine Gives.use (held_any _ _) ?_); intro w2 hb2; have hB2 := below_call (B := w.heap.size) (w := w) (by (repeat' (first | (with_reducible exact Below.refl _ _) | (with_reducible assumption) | (with_reducible refine Below.alloc ?_ ?_ _) | (with_reducible refine Below.setCell ?_ ?_ _) | (with_reducible refine Below.drew ?_) | (with_reducible exact Nat.le_refl _) | omega | (simp; omega) | (simp; done)))) hb2 (by (first | (with_reducible exact Nat.le_refl _) | (with_reducible assumption) | omega | (simp; omega) | (simp; done))); obtain ⟨hc2, hf2⟩ := bcell hb2; have hz2 := hb2.size; have z2_0 : w.heap.size < w2.heap.size := (by first | omega | (have h := hz2; simp at h; omega)); have kc2_0 := fun o => hc2 (w.heap.size) o (by first | assumption | (simp; done) | (simp; omega)); have kf2_0 := fun o => hf2 (w.heap.size) o (by first | assumption | (simp; done) | (simp; omega)); have z2_1 : w.heap.size + 1 < w2.heap.size := (by first | omega | (have h := hz2; simp at h; omega)); have kc2_1 := fun o => hc2 (w.heap.size + 1) o (by first | assumption | (simp; done) | (simp; omega)); have kf2_1 := fun o => hf2 (w.heap.size + 1) o (by first | assumption | (simp; done) | (simp; omega))) | (go_at_call 16; (with_reducible refine Gives.use (rnext_any _ _ _ _ _ _ _ _ _ (by omega) hl' hd' ht htl (by omega) (by omega)) ?_); intro w3 hb3; have hB3 := below_call (B := w.heap.size) (w := w) (by (repeat' (first | (with_reducible exact Below.refl _ _) | (with_reducible assumption) | (with_reducible refine Below.alloc ?_ ?_ _) | (with_reducible refine Below.setCell ?_ ?_ _) | (with_reducible refine Below.drew ?_) | (with_reducible exact Nat.le_refl _) | omega | (simp; omega) | (simp; done)))) hb3 (by (first | (with_reducible exact Nat.le_refl _) | (with_reducible assumption) | omega | (simp; omega) | (simp; done))); obtain ⟨hc3, hf3⟩ := bcell hb3; have hz3 := hb3.size; have z3_0 : w.heap.size < w3.heap.size := (by first | omega | (have h := hz3; simp at h; omega)); have kc3_0 := fun o => hc3 (w.heap.size) o (by first | assumption | (simp; done) | (simp; omega)); have kf3_0 := fun o => hf3 (w.heap.size) o (by first | assumption | (simp; done) | (simp; omega)); have z3_1 : w.heap.size + 1 < w3.heap.size := (by first | omega | (have h := hz3; simp at h; omega)); have kc3_1 := fun o => hc3 (w.heap.size + 1) o (by first | assumption | (simp; done) | (simp; omega)); have kf3_1 := fun o => hf3 (w.heap.size + 1) o (by first | assumption | (simp; done) | (simp; omega))))
      ((try simp only [Exit.inBlock, Exit.then]); refine bodyPost_ret (by simp [results, Try.results26, go_sem, *]; try with_reducible rfl) rfl ?_)
      refine ⟨?_, by (repeat' (first | (with_reducible exact Below.refl _ _) | (with_reducible assumption) | (with_reducible refine Below.alloc ?_ ?_ _) | (with_reducible refine Below.setCell ?_ ?_ _) | (with_reducible refine Below.drew ?_) | (with_reducible exact Nat.le_refl _) | omega | (simp; omega) | (simp; done)))⟩
      simp [afterG, needOf, h, e]
    · have e : min (max live 0) l = max live 0 := by omega
      go_enter Try.func26, Try.ntmps26
      go_wp2_with (first | (go_at_call 22; (with_reducible refine Gives.use (rfits_any _ _ _ _ (by omega) hl') ?_); intro w1 hb1; have hB1 := below_call (B := w.heap.size) (w := w) (by (repeat' (first | (with_reducible exact Below.refl _ _) | (with_reducible assumption) | (with_reducible refine Below.alloc ?_ ?_ _) | (with_reducible refine Below.setCell ?_ ?_ _) | (with_reducible refine Below.drew ?_) | (with_reducible exact Nat.le_refl _) | omega | (simp; omega) | (simp; done)))) hb1 (by (first | (with_reducible exact Nat.le_refl _) | (with_reducible assumption) | omega | (simp; omega) | (simp; done))); obtain ⟨hc1, hf1⟩ := bcell hb1; have hz1 := hb1.size; have z1_0 : w.heap.size < w1.heap.size := (by first | omega | (have h := hz1; simp at h; omega)); have kc1_0 := fun o => hc1 (w.heap.size) o (by first | assumption | (simp; done) | (simp; omega)); have kf1_0 := fun o => hf1 (w.heap.size) o (by first | assumption | (simp; done) | (simp; omega)); have z1_1 : w.heap.size + 1 < w1.heap.size := (by first | omega | (have h := hz1; simp at h; omega)); have kc1_1 := fun o => hc1 (w.heap.size + 1) o (by first | assumption | (simp; done) | (simp; omega)); have kf1_1 := fun o => hf1 (w.heap.size + 1) o (by first | assumption | (simp; done) | (simp; omega))) | (go_at_call 30; (with_reducible refine Gives.use (held_any _ _) ?_); intro w2 hb2; have hB2 := below_call (B := w.heap.size) (w := w) (by (repeat' (first | (with_reducible exact Below.refl _ _) | (with_reducible assumption) | (with_reducible refine Below.alloc ?_ ?_ _) | (with_reducible refine Below.setCell ?_ ?_ _) | (with_reducible refine Below.drew ?_) | (with_reducible exact Nat.le_refl _) | omega | (simp; omega) | (simp; done)))) hb2 (by (first | (with_reducible exact Nat.le_refl _) | (with_reducible assumption) | omega | (simp; omega) | (simp; done))); obtain ⟨hc2, hf2⟩ := bcell hb2; have hz2 := hb2.size; have z2_0 : w.heap.size < w2.heap.size := (by first | omega | (have h := hz2; simp at h; omega)); have kc2_0 := fun o => hc2 (w.heap.size) o (by first | assumption | (simp; done) | (simp; omega)); have kf2_0 := fun o => hf2 (w.heap.size) o (by first | assumption | (simp; done) | (simp; omega)); have z2_1 : w.heap.size + 1 < w2.heap.size := (by first | omega | (have h := hz2; simp at h; omega)); have kc2_1 := fun o => hc2 (w.heap.size + 1) o (by first | assumption | (simp; done) | (simp; omega)); have kf2_1 := fun o => hf2 (w.heap.size + 1) o (by first | assumption | (simp; done) | (simp; omega))) | (go_at_call 16; (with_reducible refine Gives.use (rnext_any _ _ _ _ _ _ _ _ _ (by omega) hl' hd' ht htl (by omega) (by omega)) ?_); intro w3 hb3; have hB3 := below_call (B := w.heap.size) (w := w) (by (repeat' (first | (with_reducible exact Below.refl _ _) | (with_reducible assumption) | (with_reducible refine Below.alloc ?_ ?_ _) | (with_reducible refine Below.setCell ?_ ?_ _) | (with_reducible refine Below.drew ?_) | (with_reducible exact Nat.le_refl _) | omega | (simp; omega) | (simp; done)))) hb3 (by (first | (with_reducible exact Nat.le_refl _) | (with_reducible assumption) | omega | (simp; omega) | (simp; done))); obtain ⟨hc3, hf3⟩ := bcell hb3; have hz3 := hb3.size; have z3_0 : w.heap.size < w3.heap.size := (by first | omega | (have h := hz3; simp at h; omega)); have kc3_0 := fun o => hc3 (w.heap.size) o (by first | assumption | (simp; done) | (simp; omega)); have kf3_0 := fun o => hf3 (w.heap.size) o (by first | assumption | (simp; done) | (simp; omega)); have z3_1 : w.heap.size + 1 < w3.heap.size := (by first | omega | (have h := hz3; simp at h; omega)); have kc3_1 := fun o => hc3 (w.heap.size + 1) o (by first | assumption | (simp; done) | (simp; omega)); have kf3_1 := fun o => hf3 (w.heap.size + 1) o (by first | assumption | (simp; done) | (simp; omega))))
      ((try simp only [Exit.inBlock, Exit.then]); refine bodyPost_ret (by simp [results, Try.results26, go_sem, *]; try with_reducible rfl) rfl ?_)
      refine ⟨?_, by (repeat' (first | (with_reducible exact Below.refl _ _) | (with_reducible assumption) | (with_reducible refine Below.alloc ?_ ?_ _) | (with_reducible refine Below.setCell ?_ ?_ _) | (with_reducible refine Below.drew ?_) | (with_reducible exact Nat.le_refl _) | omega | (simp; omega) | (simp; done)))⟩
      simp [afterG, needOf, h, e]
  | false =>
    have hr := (overB_not live words l).1 h
    have e : min (max live 0) l = max live 0 := by omega
    go_enter Try.func26, Try.ntmps26
    go_wp2_with (first | (go_at_call 22; (with_reducible refine Gives.use (rfits_any _ _ _ _ (by omega) hl') ?_); intro w1 hb1; have hB1 := below_call (B := w.heap.size) (w := w) (by (repeat' (first | (with_reducible exact Below.refl _ _) | (with_reducible assumption) | (with_reducible refine Below.alloc ?_ ?_ _) | (with_reducible refine Below.setCell ?_ ?_ _) | (with_reducible refine Below.drew ?_) | (with_reducible exact Nat.le_refl _) | omega | (simp; omega) | (simp; done)))) hb1 (by (first | (with_reducible exact Nat.le_refl _) | (with_reducible assumption) | omega | (simp; omega) | (simp; done))); obtain ⟨hc1, hf1⟩ := bcell hb1; have hz1 := hb1.size; have z1_0 : w.heap.size < w1.heap.size := (by first | omega | (have h := hz1; simp at h; omega)); have kc1_0 := fun o => hc1 (w.heap.size) o (by first | assumption | (simp; done) | (simp; omega)); have kf1_0 := fun o => hf1 (w.heap.size) o (by first | assumption | (simp; done) | (simp; omega)); have z1_1 : w.heap.size + 1 < w1.heap.size := (by first | omega | (have h := hz1; simp at h; omega)); have kc1_1 := fun o => hc1 (w.heap.size + 1) o (by first | assumption | (simp; done) | (simp; omega)); have kf1_1 := fun o => hf1 (w.heap.size + 1) o (by first | assumption | (simp; done) | (simp; omega))) | (go_at_call 30; (with_reducible refine Gives.use (held_any _ _) ?_); intro w2 hb2; have hB2 := below_call (B := w.heap.size) (w := w) (by (repeat' (first | (with_reducible exact Below.refl _ _) | (with_reducible assumption) | (with_reducible refine Below.alloc ?_ ?_ _) | (with_reducible refine Below.setCell ?_ ?_ _) | (with_reducible refine Below.drew ?_) | (with_reducible exact Nat.le_refl _) | omega | (simp; omega) | (simp; done)))) hb2 (by (first | (with_reducible exact Nat.le_refl _) | (with_reducible assumption) | omega | (simp; omega) | (simp; done))); obtain ⟨hc2, hf2⟩ := bcell hb2; have hz2 := hb2.size; have z2_0 : w.heap.size < w2.heap.size := (by first | omega | (have h := hz2; simp at h; omega)); have kc2_0 := fun o => hc2 (w.heap.size) o (by first | assumption | (simp; done) | (simp; omega)); have kf2_0 := fun o => hf2 (w.heap.size) o (by first | assumption | (simp; done) | (simp; omega)); have z2_1 : w.heap.size + 1 < w2.heap.size := (by first | omega | (have h := hz2; simp at h; omega)); have kc2_1 := fun o => hc2 (w.heap.size + 1) o (by first | assumption | (simp; done) | (simp; omega)); have kf2_1 := fun o => hf2 (w.heap.size + 1) o (by first | assumption | (simp; done) | (simp; omega))) | (go_at_call 16; (with_reducible refine Gives.use (rnext_any _ _ _ _ _ _ _ _ _ (by omega) hl' hd' ht htl (by omega) (by omega)) ?_); intro w3 hb3; have hB3 := below_call (B := w.heap.size) (w := w) (by (repeat' (first | (with_reducible exact Below.refl _ _) | (with_reducible assumption) | (with_reducible refine Below.alloc ?_ ?_ _) | (with_reducible refine Below.setCell ?_ ?_ _) | (with_reducible refine Below.drew ?_) | (with_reducible exact Nat.le_refl _) | omega | (simp; omega) | (simp; done)))) hb3 (by (first | (with_reducible exact Nat.le_refl _) | (with_reducible assumption) | omega | (simp; omega) | (simp; done))); obtain ⟨hc3, hf3⟩ := bcell hb3; have hz3 := hb3.size; have z3_0 : w.heap.size < w3.heap.size := (by first | omega | (have h := hz3; simp at h; omega)); have kc3_0 := fun o => hc3 (w.heap.size) o (by first | assumption | (simp; done) | (simp; omega)); have kf3_0 := fun o => hf3 (w.heap.size) o (by first | assumption | (simp; done) | (simp; omega)); have z3_1 : w.heap.size + 1 < w3.heap.size := (by first | omega | (have h := hz3; simp at h; omega)); have kc3_1 := fun o => hc3 (w.heap.size + 1) o (by first | assumption | (simp; done) | (simp; omega)); have kf3_1 := fun o => hf3 (w.heap.size + 1) o (by first | assumption | (simp; done) | (simp; omega))))
    ((try simp only [Exit.inBlock, Exit.then]); refine bodyPost_ret (by simp [results, Try.results26, go_sem, *]; try with_reducible rfl) rfl ?_)
    refine ⟨?_, by (repeat' (first | (with_reducible exact Below.refl _ _) | (with_reducible assumption) | (with_reducible refine Below.alloc ?_ ?_ _) | (with_reducible refine Below.setCell ?_ ?_ _) | (with_reducible refine Below.drew ?_) | (with_reducible exact Nat.le_refl _) | omega | (simp; omega) | (simp; done)))⟩
    simp [afterG, needOf, h, e]
set_option maxHeartbeats 1000000 in
theorem rjudge_tt (l t s k d T q b used live words : Int) (w : World) (hR : rightB l t d = true) (hg : GS.ok l d ⟨T, q, b⟩) (h : overB used words T = true) (h2 : pressB ⟨T, q, b⟩ = true) :
    Gives 28 #[.agg #[.int .i64 l, .int .i64 t, .int .i64 s, .int .i64 k, .int .i64 d, .int .i64 T, .int .i64 q, .int .i64 b], .int .i64 used, .int .i64 live, .int .i64 words] w
      (.tuple #[.agg #[.int .i64 l, .int .i64 t, .int .i64 s, .int .i64 k, .int .i64 d, .int .i64 (judgeG l t d ⟨T, q, b⟩ used live words).T, .int .i64 (judgeG l t d ⟨T, q, b⟩ used live words).q, .int .i64 (judgeG l t d ⟨T, q, b⟩ used live words).b],
        .agg #[.bool (grantB l ⟨T, q, b⟩ used live words), .bool (overB used words T), .bool (forceB l ⟨T, q, b⟩ used live words)]]) := by
  obtain ⟨hl, hl', ht, htl, hd, hd'⟩ := right_iff.1 hR
  have g1 : 0 ≤ T := hg.1
  have g2 : T ≤ l := hg.2.1
  have g5 : 0 ≤ b := hg.2.2.2.2.1
  have g6 : b ≤ l := hg.2.2.2.2.2
  have HR := Lib.hid hR
  have HG := Lib.hid hg
  clear hR hg ht htl hd hd'
  have h3 : T / 2 < b := of_decide_eq_true h2
  have h4 : T < 2 * b := by omega
  clear h3
  refine gives ?_
  go_enter Try.func28, Try.ntmps28
  go_wp2_with (first | ((go_at_call 22; (with_reducible refine Gives.use (rfits_any _ _ _ _ g1 (by omega)) ?_); intro w1 hb1; have hB1 := below_call (B := w.heap.size) (w := w) (by (repeat' (first | (with_reducible exact Below.refl _ _) | (with_reducible assumption) | (with_reducible refine Below.alloc ?_ ?_ _) | (with_reducible refine Below.setCell ?_ ?_ _) | (with_reducible refine Below.drew ?_) | (with_reducible exact Nat.le_refl _) | omega | (simp; omega) | (simp; done)))) hb1 (by (first | (with_reducible exact Nat.le_refl _) | (with_reducible assumption) | omega | (simp; omega) | (simp; done))); obtain ⟨hc1, hf1⟩ := bcell hb1; have hz1 := hb1.size; have z1_0 : w.heap.size < w1.heap.size := (by first | omega | (have h := hz1; simp at h; omega)); have kc1_0 := fun o => hc1 (w.heap.size) o (by first | assumption | (simp; done) | (simp; omega)); have kf1_0 := fun o => hf1 (w.heap.size) o (by first | assumption | (simp; done) | (simp; omega)); have z1_1 : w.heap.size + 1 < w1.heap.size := (by first | omega | (have h := hz1; simp at h; omega)); have kc1_1 := fun o => hc1 (w.heap.size + 1) o (by first | assumption | (simp; done) | (simp; omega)); have kf1_1 := fun o => hf1 (w.heap.size + 1) o (by first | assumption | (simp; done) | (simp; omega)); have z1_2 : w.heap.size + 1 + 1 < w1.heap.size := (by first | omega | (have h := hz1; simp at h; omega)); have kc1_2 := fun o => hc1 (w.heap.size + 1 + 1) o (by first | assumption | (simp; done) | (simp; omega)); have kf1_2 := fun o => hf1 (w.heap.size + 1 + 1) o (by first | assumption | (simp; done) | (simp; omega))); have K0 := (Blk.alloc (Blk.alloc ((Blk.fresh (g := w.heap.size) (by simp))) _) _).below hb1 (by (first | (with_reducible exact Nat.le_refl _) | (with_reducible assumption) | omega | (simp; omega) | (simp; done))); have K1 := (Blk.alloc ((Blk.fresh (g := w.heap.size + 1) (by simp))) _).below hb1 (by (first | (with_reducible exact Nat.le_refl _) | (with_reducible assumption) | omega | (simp; omega) | (simp; done))); have K2 := ((Blk.fresh (g := w.heap.size + 1 + 1) (by simp))).below hb1 (by (first | (with_reducible exact Nat.le_refl _) | (with_reducible assumption) | omega | (simp; omega) | (simp; done))); have hK := Lib.hid (And.intro K0 (And.intro K1 K2)); clear K0 K1 K2) | (go_at_call 26; fail))
  refine Gives.use (rafter_any _ _ _ _ _ _ _ _ _ _ _ HR.out HG.out) ?_
  intro w3 hb3
  obtain ⟨K0, K1, K2⟩ := hK.out
  clear hK
  have hB3 := below_call (B := w.heap.size) (w := w) (by (repeat' (first | (with_reducible exact Below.refl _ _) | (with_reducible assumption) | (with_reducible refine Below.alloc ?_ ?_ _) | (with_reducible refine Below.setCell ?_ ?_ _) | (with_reducible refine Below.drew ?_) | (with_reducible exact Nat.le_refl _) | omega | (simp; omega) | (simp; done)))) hb3 (by (first | (with_reducible exact Nat.le_refl _) | (with_reducible assumption) | omega | (simp; omega) | (simp; done))); obtain ⟨hc3, hf3⟩ := bcell hb3; have hz3 := hb3.size; have z3_0 : w.heap.size < w3.heap.size := (by first | omega | (have h := hz3; simp at h; omega)); have kc3_0 := fun o => hc3 (w.heap.size) o (by first | assumption | (simp; done) | (simp; omega)); have kf3_0 := fun o => hf3 (w.heap.size) o (by first | assumption | (simp; done) | (simp; omega)); have z3_1 : w.heap.size + 1 < w3.heap.size := (by first | omega | (have h := hz3; simp at h; omega)); have kc3_1 := fun o => hc3 (w.heap.size + 1) o (by first | assumption | (simp; done) | (simp; omega)); have kf3_1 := fun o => hf3 (w.heap.size + 1) o (by first | assumption | (simp; done) | (simp; omega)); have z3_2 : w.heap.size + 1 + 1 < w3.heap.size := (by first | omega | (have h := hz3; simp at h; omega)); have kc3_2 := fun o => hc3 (w.heap.size + 1 + 1) o (by first | assumption | (simp; done) | (simp; omega)); have kf3_2 := fun o => hf3 (w.heap.size + 1 + 1) o (by first | assumption | (simp; done) | (simp; omega))
  replace K0 := K0.below hb3 K0.lt; replace K1 := K1.below hb3 K1.lt; replace K2 := K2.below hb3 K2.lt
  have HB3 := Lib.hid hB3
  have HK := Lib.hid (And.intro K0 (And.intro K1 K2))
  clear K0 K1 K2
  generalize hG3 : afterG l t d ⟨T, q, b⟩ live words = g3 at *
  obtain ⟨T3, q3, b3⟩ := g3
  have HG3 := Lib.hid hG3
  clear hG3
  dsimp only
  go_upto_region 5 with (fail)
  obtain ⟨K0, K1, K2⟩ := HK.out
  clear HK
  refine rebase (fun w' => Below w.heap.size w w' ∧ Blk w' w.heap.size 45 #[.int .i64 l, .int .i64 t, .int .i64 s, .int .i64 k, .int .i64 d, .int .i64 T3, .int .i64 q3, .int .i64 b3] ∧ Blk w' (w.heap.size + 1) 45 #[.int .i64 0, .int .i64 0, .int .i64 0, .int .i64 0, .int .i64 0, .int .i64 0, .int .i64 0, .int .i64 0] ∧ Blk w' (w.heap.size + 1 + 1) 57 #[.bool false, .bool false, .bool false])
    ⟨by (repeat' (first | (with_reducible exact Below.refl _ _) | (with_reducible assumption) | (with_reducible refine Below.alloc ?_ ?_ _) | (with_reducible refine Below.setCell ?_ ?_ _) | (with_reducible refine Below.drew ?_) | (with_reducible exact Nat.le_refl _) | omega | (simp; omega) | (simp; done))), Blk.as ((((((((K0.set_ 0 _).set_ 1 _).set_ 2 _).set_ 3 _).set_ 4 _).set_ 5 _).set_ 6 _).set_ 7 _) (by simp), by (repeat (refine Blk.far ?_ (by simp) _)); exact K1, by (repeat (refine Blk.far ?_ (by simp; omega) _)); exact K2⟩ ?_
  clear K0 K1 K2 hc1 hf1 hc3 hf3 kc1_0 kc1_1 kc1_2 kf1_0 kf1_1 kf1_2 kc3_0 kc3_1 kc3_2 kf3_0 kf3_1 kf3_2 hb1 hb3
  rintro w4 ⟨hB4, K0, K1, K2⟩
  have k0 := K0.cell
  have k1 := K1.cell
  have k2 := K2.cell
  have f1 := K1.frozen
  have f2 := K2.frozen
  go_wp2
  ((try simp only [Exit.inBlock, Exit.then]); refine bodyPost_ret (by simp [results, Try.results28, go_sem, *]; try with_reducible rfl) rfl ?_)
  refine ⟨?_, by (repeat' (first | (with_reducible exact Below.refl _ _) | (with_reducible assumption) | (with_reducible refine Below.alloc ?_ ?_ _) | (with_reducible refine Below.setCell ?_ ?_ _) | (with_reducible refine Below.drew ?_) | (with_reducible exact Nat.le_refl _) | omega | (simp; omega) | (simp; done)))⟩
  simp [judgeG, grantB, forceB, h, h2, HG3.out]
set_option maxHeartbeats 1000000 in
theorem rjudge_tf (l t s k d T q b used live words : Int) (w : World) (hR : rightB l t d = true) (hg : GS.ok l d ⟨T, q, b⟩) (h : overB used words T = true) (h2 : pressB ⟨T, q, b⟩ = false) :
    Gives 28 #[.agg #[.int .i64 l, .int .i64 t, .int .i64 s, .int .i64 k, .int .i64 d, .int .i64 T, .int .i64 q, .int .i64 b], .int .i64 used, .int .i64 live, .int .i64 words] w
      (.tuple #[.agg #[.int .i64 l, .int .i64 t, .int .i64 s, .int .i64 k, .int .i64 d, .int .i64 (judgeG l t d ⟨T, q, b⟩ used live words).T, .int .i64 (judgeG l t d ⟨T, q, b⟩ used live words).q, .int .i64 (judgeG l t d ⟨T, q, b⟩ used live words).b],
        .agg #[.bool (grantB l ⟨T, q, b⟩ used live words), .bool (overB used words T), .bool (forceB l ⟨T, q, b⟩ used live words)]]) := by
  obtain ⟨hl, hl', ht, htl, hd, hd'⟩ := right_iff.1 hR
  have g1 : 0 ≤ T := hg.1
  have g2 : T ≤ l := hg.2.1
  have g5 : 0 ≤ b := hg.2.2.2.2.1
  have g6 : b ≤ l := hg.2.2.2.2.2
  have HR := Lib.hid hR
  have HG := Lib.hid hg
  clear hR hg ht htl hd hd'
  have h3 : ¬ T / 2 < b := of_decide_eq_false h2
  have h4 : 2 * b ≤ T := by omega
  clear h3
  refine gives ?_
  go_enter Try.func28, Try.ntmps28
  go_wp2_with (first | ((go_at_call 22; (with_reducible refine Gives.use (rfits_any _ _ _ _ g1 (by omega)) ?_); intro w1 hb1; have hB1 := below_call (B := w.heap.size) (w := w) (by (repeat' (first | (with_reducible exact Below.refl _ _) | (with_reducible assumption) | (with_reducible refine Below.alloc ?_ ?_ _) | (with_reducible refine Below.setCell ?_ ?_ _) | (with_reducible refine Below.drew ?_) | (with_reducible exact Nat.le_refl _) | omega | (simp; omega) | (simp; done)))) hb1 (by (first | (with_reducible exact Nat.le_refl _) | (with_reducible assumption) | omega | (simp; omega) | (simp; done))); obtain ⟨hc1, hf1⟩ := bcell hb1; have hz1 := hb1.size; have z1_0 : w.heap.size < w1.heap.size := (by first | omega | (have h := hz1; simp at h; omega)); have kc1_0 := fun o => hc1 (w.heap.size) o (by first | assumption | (simp; done) | (simp; omega)); have kf1_0 := fun o => hf1 (w.heap.size) o (by first | assumption | (simp; done) | (simp; omega)); have z1_1 : w.heap.size + 1 < w1.heap.size := (by first | omega | (have h := hz1; simp at h; omega)); have kc1_1 := fun o => hc1 (w.heap.size + 1) o (by first | assumption | (simp; done) | (simp; omega)); have kf1_1 := fun o => hf1 (w.heap.size + 1) o (by first | assumption | (simp; done) | (simp; omega)); have z1_2 : w.heap.size + 1 + 1 < w1.heap.size := (by first | omega | (have h := hz1; simp at h; omega)); have kc1_2 := fun o => hc1 (w.heap.size + 1 + 1) o (by first | assumption | (simp; done) | (simp; omega)); have kf1_2 := fun o => hf1 (w.heap.size + 1 + 1) o (by first | assumption | (simp; done) | (simp; omega))); have K0 := (Blk.alloc (Blk.alloc ((Blk.fresh (g := w.heap.size) (by simp))) _) _).below hb1 (by (first | (with_reducible exact Nat.le_refl _) | (with_reducible assumption) | omega | (simp; omega) | (simp; done))); have K1 := (Blk.alloc ((Blk.fresh (g := w.heap.size + 1) (by simp))) _).below hb1 (by (first | (with_reducible exact Nat.le_refl _) | (with_reducible assumption) | omega | (simp; omega) | (simp; done))); have K2 := ((Blk.fresh (g := w.heap.size + 1 + 1) (by simp))).below hb1 (by (first | (with_reducible exact Nat.le_refl _) | (with_reducible assumption) | omega | (simp; omega) | (simp; done))); have hK := Lib.hid (And.intro K0 (And.intro K1 K2)); clear K0 K1 K2) | (go_at_call 26; fail))
  refine Gives.use (rafter_any _ _ _ _ _ _ _ _ _ _ _ HR.out HG.out) ?_
  intro w3 hb3
  obtain ⟨K0, K1, K2⟩ := hK.out
  clear hK
  have hB3 := below_call (B := w.heap.size) (w := w) (by (repeat' (first | (with_reducible exact Below.refl _ _) | (with_reducible assumption) | (with_reducible refine Below.alloc ?_ ?_ _) | (with_reducible refine Below.setCell ?_ ?_ _) | (with_reducible refine Below.drew ?_) | (with_reducible exact Nat.le_refl _) | omega | (simp; omega) | (simp; done)))) hb3 (by (first | (with_reducible exact Nat.le_refl _) | (with_reducible assumption) | omega | (simp; omega) | (simp; done))); obtain ⟨hc3, hf3⟩ := bcell hb3; have hz3 := hb3.size; have z3_0 : w.heap.size < w3.heap.size := (by first | omega | (have h := hz3; simp at h; omega)); have kc3_0 := fun o => hc3 (w.heap.size) o (by first | assumption | (simp; done) | (simp; omega)); have kf3_0 := fun o => hf3 (w.heap.size) o (by first | assumption | (simp; done) | (simp; omega)); have z3_1 : w.heap.size + 1 < w3.heap.size := (by first | omega | (have h := hz3; simp at h; omega)); have kc3_1 := fun o => hc3 (w.heap.size + 1) o (by first | assumption | (simp; done) | (simp; omega)); have kf3_1 := fun o => hf3 (w.heap.size + 1) o (by first | assumption | (simp; done) | (simp; omega)); have z3_2 : w.heap.size + 1 + 1 < w3.heap.size := (by first | omega | (have h := hz3; simp at h; omega)); have kc3_2 := fun o => hc3 (w.heap.size + 1 + 1) o (by first | assumption | (simp; done) | (simp; omega)); have kf3_2 := fun o => hf3 (w.heap.size + 1 + 1) o (by first | assumption | (simp; done) | (simp; omega))
  replace K0 := K0.below hb3 K0.lt; replace K1 := K1.below hb3 K1.lt; replace K2 := K2.below hb3 K2.lt
  have HB3 := Lib.hid hB3
  have HK := Lib.hid (And.intro K0 (And.intro K1 K2))
  clear K0 K1 K2
  generalize hG3 : afterG l t d ⟨T, q, b⟩ live words = g3 at *
  obtain ⟨T3, q3, b3⟩ := g3
  have HG3 := Lib.hid hG3
  clear hG3
  dsimp only
  go_upto_region 5 with (fail)
  obtain ⟨K0, K1, K2⟩ := HK.out
  clear HK
  refine rebase (fun w' => Below w.heap.size w w' ∧ Blk w' w.heap.size 45 #[.int .i64 l, .int .i64 t, .int .i64 s, .int .i64 k, .int .i64 d, .int .i64 T3, .int .i64 q3, .int .i64 b3] ∧ Blk w' (w.heap.size + 1) 45 #[.int .i64 0, .int .i64 0, .int .i64 0, .int .i64 0, .int .i64 0, .int .i64 0, .int .i64 0, .int .i64 0] ∧ Blk w' (w.heap.size + 1 + 1) 57 #[.bool false, .bool false, .bool false])
    ⟨by (repeat' (first | (with_reducible exact Below.refl _ _) | (with_reducible assumption) | (with_reducible refine Below.alloc ?_ ?_ _) | (with_reducible refine Below.setCell ?_ ?_ _) | (with_reducible refine Below.drew ?_) | (with_reducible exact Nat.le_refl _) | omega | (simp; omega) | (simp; done))), Blk.as ((((((((K0.set_ 0 _).set_ 1 _).set_ 2 _).set_ 3 _).set_ 4 _).set_ 5 _).set_ 6 _).set_ 7 _) (by simp), by (repeat (refine Blk.far ?_ (by simp) _)); exact K1, by (repeat (refine Blk.far ?_ (by simp; omega) _)); exact K2⟩ ?_
  clear K0 K1 K2 hc1 hf1 hc3 hf3 kc1_0 kc1_1 kc1_2 kf1_0 kf1_1 kf1_2 kc3_0 kc3_1 kc3_2 kf3_0 kf3_1 kf3_2 hb1 hb3
  rintro w4 ⟨hB4, K0, K1, K2⟩
  have k0 := K0.cell
  have k1 := K1.cell
  have k2 := K2.cell
  have f1 := K1.frozen
  have f2 := K2.frozen
  go_wp2
  ((try simp only [Exit.inBlock, Exit.then]); refine bodyPost_ret (by simp [results, Try.results28, go_sem, *]; try with_reducible rfl) rfl ?_)
  refine ⟨?_, by (repeat' (first | (with_reducible exact Below.refl _ _) | (with_reducible assumption) | (with_reducible refine Below.alloc ?_ ?_ _) | (with_reducible refine Below.setCell ?_ ?_ _) | (with_reducible refine Below.drew ?_) | (with_reducible exact Nat.le_refl _) | omega | (simp; omega) | (simp; done)))⟩
  simp [judgeG, grantB, forceB, h, h2, HG3.out]
  intro hx
  omega
set_option maxHeartbeats 1000000 in
theorem rjudge_f (l t s k d T q b used live words : Int) (w : World) (hR : rightB l t d = true) (hg : GS.ok l d ⟨T, q, b⟩) (h : overB used words T = false) :
    Gives 28 #[.agg #[.int .i64 l, .int .i64 t, .int .i64 s, .int .i64 k, .int .i64 d, .int .i64 T, .int .i64 q, .int .i64 b], .int .i64 used, .int .i64 live, .int .i64 words] w
      (.tuple #[.agg #[.int .i64 l, .int .i64 t, .int .i64 s, .int .i64 k, .int .i64 d, .int .i64 (judgeG l t d ⟨T, q, b⟩ used live words).T, .int .i64 (judgeG l t d ⟨T, q, b⟩ used live words).q, .int .i64 (judgeG l t d ⟨T, q, b⟩ used live words).b],
        .agg #[.bool (grantB l ⟨T, q, b⟩ used live words), .bool (overB used words T), .bool (forceB l ⟨T, q, b⟩ used live words)]]) := by
  obtain ⟨hl, hl', ht, htl, hd, hd'⟩ := right_iff.1 hR
  have g1 : 0 ≤ T := hg.1
  have g2 : T ≤ l := hg.2.1
  have g5 : 0 ≤ b := hg.2.2.2.2.1
  have g6 : b ≤ l := hg.2.2.2.2.2
  have HR := Lib.hid hR
  have HG := Lib.hid hg
  clear hR hg ht htl hd hd'
  refine gives ?_
  go_enter Try.func28, Try.ntmps28
  go_wp2_with (first | (go_at_call 22; (with_reducible refine Gives.use (rfits_any _ _ _ _ g1 (by omega)) ?_); intro w1 hb1; have hB1 := below_call (B := w.heap.size) (w := w) (by (repeat' (first | (with_reducible exact Below.refl _ _) | (with_reducible assumption) | (with_reducible refine Below.alloc ?_ ?_ _) | (with_reducible refine Below.setCell ?_ ?_ _) | (with_reducible refine Below.drew ?_) | (with_reducible exact Nat.le_refl _) | omega | (simp; omega) | (simp; done)))) hb1 (by (first | (with_reducible exact Nat.le_refl _) | (with_reducible assumption) | omega | (simp; omega) | (simp; done))); obtain ⟨hc1, hf1⟩ := bcell hb1; have hz1 := hb1.size; have z1_0 : w.heap.size < w1.heap.size := (by first | omega | (have h := hz1; simp at h; omega)); have kc1_0 := fun o => hc1 (w.heap.size) o (by first | assumption | (simp; done) | (simp; omega)); have kf1_0 := fun o => hf1 (w.heap.size) o (by first | assumption | (simp; done) | (simp; omega)); have z1_1 : w.heap.size + 1 < w1.heap.size := (by first | omega | (have h := hz1; simp at h; omega)); have kc1_1 := fun o => hc1 (w.heap.size + 1) o (by first | assumption | (simp; done) | (simp; omega)); have kf1_1 := fun o => hf1 (w.heap.size + 1) o (by first | assumption | (simp; done) | (simp; omega)); have z1_2 : w.heap.size + 1 + 1 < w1.heap.size := (by first | omega | (have h := hz1; simp at h; omega)); have kc1_2 := fun o => hc1 (w.heap.size + 1 + 1) o (by first | assumption | (simp; done) | (simp; omega)); have kf1_2 := fun o => hf1 (w.heap.size + 1 + 1) o (by first | assumption | (simp; done) | (simp; omega))) | (go_at_call 26; (with_reducible refine Gives.use (rafter_any _ _ _ _ _ _ _ _ _ _ _ HR.out HG.out) ?_); intro w3 hb3; have hB3 := below_call (B := w.heap.size) (w := w) (by (repeat' (first | (with_reducible exact Below.refl _ _) | (with_reducible assumption) | (with_reducible refine Below.alloc ?_ ?_ _) | (with_reducible refine Below.setCell ?_ ?_ _) | (with_reducible refine Below.drew ?_) | (with_reducible exact Nat.le_refl _) | omega | (simp; omega) | (simp; done)))) hb3 (by (first | (with_reducible exact Nat.le_refl _) | (with_reducible assumption) | omega | (simp; omega) | (simp; done))); obtain ⟨hc3, hf3⟩ := bcell hb3; have hz3 := hb3.size; have z3_0 : w.heap.size < w3.heap.size := (by first | omega | (have h := hz3; simp at h; omega)); have kc3_0 := fun o => hc3 (w.heap.size) o (by first | assumption | (simp; done) | (simp; omega)); have kf3_0 := fun o => hf3 (w.heap.size) o (by first | assumption | (simp; done) | (simp; omega)); have z3_1 : w.heap.size + 1 < w3.heap.size := (by first | omega | (have h := hz3; simp at h; omega)); have kc3_1 := fun o => hc3 (w.heap.size + 1) o (by first | assumption | (simp; done) | (simp; omega)); have kf3_1 := fun o => hf3 (w.heap.size + 1) o (by first | assumption | (simp; done) | (simp; omega)); have z3_2 : w.heap.size + 1 + 1 < w3.heap.size := (by first | omega | (have h := hz3; simp at h; omega)); have kc3_2 := fun o => hc3 (w.heap.size + 1 + 1) o (by first | assumption | (simp; done) | (simp; omega)); have kf3_2 := fun o => hf3 (w.heap.size + 1 + 1) o (by first | assumption | (simp; done) | (simp; omega))); generalize hG3 : afterG l t d ⟨T, q, b⟩ live words = g3 at *; have HG3 := Lib.hid hG3; clear hG3)
  ((try simp only [Exit.inBlock, Exit.then]); refine bodyPost_ret (by simp [results, Try.results28, go_sem, *]; try with_reducible rfl) rfl ?_)
  refine ⟨?_, by (repeat' (first | (with_reducible exact Below.refl _ _) | (with_reducible assumption) | (with_reducible refine Below.alloc ?_ ?_ _) | (with_reducible refine Below.setCell ?_ ?_ _) | (with_reducible refine Below.drew ?_) | (with_reducible exact Nat.le_refl _) | omega | (simp; omega) | (simp; done)))⟩
  simp [judgeG, grantB, forceB, h]
theorem rjudge_any (l t s k d T q b used live words : Int) (w : World) (hR : rightB l t d = true) (hg : GS.ok l d ⟨T, q, b⟩) :
    Gives 28 #[.agg #[.int .i64 l, .int .i64 t, .int .i64 s, .int .i64 k, .int .i64 d, .int .i64 T, .int .i64 q, .int .i64 b], .int .i64 used, .int .i64 live, .int .i64 words] w
      (.tuple #[.agg #[.int .i64 l, .int .i64 t, .int .i64 s, .int .i64 k, .int .i64 d, .int .i64 (judgeG l t d ⟨T, q, b⟩ used live words).T, .int .i64 (judgeG l t d ⟨T, q, b⟩ used live words).q, .int .i64 (judgeG l t d ⟨T, q, b⟩ used live words).b],
        .agg #[.bool (grantB l ⟨T, q, b⟩ used live words), .bool (overB used words T), .bool (forceB l ⟨T, q, b⟩ used live words)]]) := by
  cases h : overB used words T with
  | true =>
    rw [← h]
    cases h2 : pressB ⟨T, q, b⟩ with
    | true => exact rjudge_tt l t s k d T q b used live words w hR hg h h2
    | false => exact rjudge_tf l t s k d T q b used live words w hR hg h h2
  | false =>
    rw [← h]
    exact rjudge_f l t s k d T q b used live words w hR hg h
end Go.Proofs.Ytlcaanodbhigkaa
