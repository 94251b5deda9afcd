/-
  A new gate, the example of the page, two gates held against each other: walked.
-/
import Derived.Test.YtlcaanodbhigkaaGate
namespace Go.Proofs.Ytlcaanodbhigkaa
open Go Go.RowKit
set_option maxHeartbeats 1000000 in
theorem same_yes (l t s k d T q b : Int) (w : World) : Gives 20 #[.agg #[.int .i64 l, .int .i64 t, .int .i64 s, .int .i64 k, .int .i64 d, .int .i64 T, .int .i64 q, .int .i64 b], .agg #[.int .i64 l, .int .i64 t, .int .i64 s, .int .i64 k, .int .i64 d, .int .i64 T, .int .i64 q, .int .i64 b]] w (.bool true) := by
  refine gives ?_
  go_enter Try.func20, Try.ntmps20
  go_wp2
  ((try simp only [Exit.inBlock, Exit.then]); first | (refine bodyPost_ret (results_tmp rfl _ _ _) rfl ?_) | (refine bodyPost_ret (results_none rfl _ _ _) rfl ?_) | (refine bodyPost_end (results_none rfl _ _ _) rfl ?_) | go_ret2 | go_ret3)
  exact ⟨rfl, by (repeat' (first | (with_reducible exact Below.refl _ _) | (with_reducible assumption) | (with_reducible refine Below.alloc ?_ ?_ _) | (with_reducible refine Below.setCell ?_ ?_ _) | (with_reducible refine Below.drew ?_) | (with_reducible exact Nat.le_refl _) | omega | (simp; omega) | (simp; done)))⟩
attribute [local go_sem] calm calmAt calmUpon After.cell After.frozen
set_option maxHeartbeats 1000000 in
theorem new_yes (l t s k d : Int) (w : World) (hR : rightB l t d = true) : Gives 19 #[.agg #[.int .i64 l, .int .i64 t, .int .i64 s, .int .i64 k, .int .i64 d]] w (.tuple #[.agg #[.int .i64 l, .int .i64 t, .int .i64 s, .int .i64 k, .int .i64 d, .int .i64 t, .int .i64 0, .int .i64 0], .int .i64 0]) := by
  have r1 : ∀ w, Gives 15 #[.agg #[.int .i64 l, .int .i64 t, .int .i64 s, .int .i64 k, .int .i64 d]] w (.bool true) := fun w => hR ▸ right_any l t s k d w
  clear hR
  have R1 := Lib.hid r1
  clear r1
  refine gives ?_
  go_enter Try.func19, Try.ntmps19
  go_wp2_with (go_at_call 15; (with_reducible refine Gives.use ((R1.out _)) ?_); intro w1 hb1; have hB1 := below_call (B := w.heap.size) (w := w) (by (repeat' (first | (with_reducible exact Below.refl _ _) | (with_reducible assumption) | (with_reducible refine Below.alloc ?_ ?_ _) | (with_reducible refine Below.setCell ?_ ?_ _) | (with_reducible refine Below.drew ?_) | (with_reducible exact Nat.le_refl _) | omega | (simp; omega) | (simp; done)))) hb1 (by (first | (with_reducible exact Nat.le_refl _) | (with_reducible assumption) | omega | (simp; omega) | (simp; done))); obtain ⟨hc1, hf1⟩ := bcell hb1; have hz1 := hb1.size; have z1_0 : w.heap.size < w1.heap.size := (by first | omega | (have h := hz1; simp at h; omega)); have kc1_0 := fun o => hc1 (w.heap.size) o (by first | assumption | (simp; done) | (simp; omega)); have kf1_0 := fun o => hf1 (w.heap.size) o (by first | assumption | (simp; done) | (simp; omega)); have z1_1 : w.heap.size + 1 < w1.heap.size := (by first | omega | (have h := hz1; simp at h; omega)); have kc1_1 := fun o => hc1 (w.heap.size + 1) o (by first | assumption | (simp; done) | (simp; omega)); have kf1_1 := fun o => hf1 (w.heap.size + 1) o (by first | assumption | (simp; done) | (simp; omega)))
  (refine wp_region_calm [0, 1, 2, 3] [4, 5] (by kernel_rfl) (by kernel_rfl) (by kernel_rfl) (by kernel_rfl) ?_; simp only [pick, List.getElem?_cons_zero, List.getElem?_cons_succ]; (repeat (refine wpCalm_step (fun K hK => ?_); go_simp; (try go_ints); first | (refine hK _ ?_; clear hK K) | (apply Exists.intro; refine ⟨fun _ => ?_, hK _ ?_⟩; (· (go_at_call 11; with_reducible (exact Gives.calm (begin_any _ _ _ _ _ _)))); clear hK K))); refine wpCalm_nil ?_)
  (refine wpTail_list rfl ?_; intro w2 hb2 _; have hB2 := below_call (B := w.heap.size) (w := w) (by (repeat' (first | (with_reducible exact Below.refl _ _) | (with_reducible assumption) | (with_reducible refine Below.alloc ?_ ?_ _) | (with_reducible refine Below.setCell ?_ ?_ _) | (with_reducible refine Below.drew ?_) | (with_reducible exact Nat.le_refl _) | omega | (simp; omega) | (simp; done)))) hb2 (by (first | (with_reducible exact Nat.le_refl _) | (with_reducible assumption) | omega | (simp; omega) | (simp; done))); obtain ⟨hc2, hf2⟩ := bcell hb2; have hz2 := hb2.size; have z2_0 : w.heap.size < w2.heap.size := (by first | omega | (have h := hz2; simp at h; omega)); have kc2_0 := fun o => hc2 (w.heap.size) o (by first | assumption | (simp; done) | (simp; omega)); have kf2_0 := fun o => hf2 (w.heap.size) o (by first | assumption | (simp; done) | (simp; omega)); have z2_1 : w.heap.size + 1 < w2.heap.size := (by first | omega | (have h := hz2; simp at h; omega)); have kc2_1 := fun o => hc2 (w.heap.size + 1) o (by first | assumption | (simp; done) | (simp; omega)); have kf2_1 := fun o => hf2 (w.heap.size + 1) o (by first | assumption | (simp; done) | (simp; omega)))
  go_wp2
  ((try simp only [Exit.inBlock, Exit.then]); refine bodyPost_ret (by simp [results, Try.results19, go_sem, *]; try with_reducible rfl) rfl ?_)
  exact ⟨rfl, by (repeat' (first | (with_reducible exact Below.refl _ _) | (with_reducible assumption) | (with_reducible refine Below.alloc ?_ ?_ _) | (with_reducible refine Below.setCell ?_ ?_ _) | (with_reducible refine Below.drew ?_) | (with_reducible exact Nat.le_refl _) | omega | (simp; omega) | (simp; done)))⟩
set_option maxHeartbeats 1000000 in
theorem new_no (l t s k d : Int) (w : World) (hR : rightB l t d = false) : Gives 19 #[.agg #[.int .i64 l, .int .i64 t, .int .i64 s, .int .i64 k, .int .i64 d]] w (.tuple #[.agg #[.int .i64 0, .int .i64 0, .int .i64 0, .int .i64 0, .int .i64 0, .int .i64 0, .int .i64 0, .int .i64 0], .int .i64 42]) := by
  have r1 : ∀ w, Gives 15 #[.agg #[.int .i64 l, .int .i64 t, .int .i64 s, .int .i64 k, .int .i64 d]] w (.bool false) := fun w => hR ▸ right_any l t s k d w
  clear hR
  have R1 := Lib.hid r1
  clear r1
  refine gives ?_
  go_enter Try.func19, Try.ntmps19
  go_wp2_with (go_at_call 15; (with_reducible refine Gives.use ((R1.out _)) ?_); intro w1 hb1; have hB1 := below_call (B := w.heap.size) (w := w) (by (repeat' (first | (with_reducible exact Below.refl _ _) | (with_reducible assumption) | (with_reducible refine Below.alloc ?_ ?_ _) | (with_reducible refine Below.setCell ?_ ?_ _) | (with_reducible refine Below.drew ?_) | (with_reducible exact Nat.le_refl _) | omega | (simp; omega) | (simp; done)))) hb1 (by (first | (with_reducible exact Nat.le_refl _) | (with_reducible assumption) | omega | (simp; omega) | (simp; done))); obtain ⟨hc1, hf1⟩ := bcell hb1; have hz1 := hb1.size; have z1_0 : w.heap.size < w1.heap.size := (by first | omega | (have h := hz1; simp at h; omega)); have kc1_0 := fun o => hc1 (w.heap.size) o (by first | assumption | (simp; done) | (simp; omega)); have kf1_0 := fun o => hf1 (w.heap.size) o (by first | assumption | (simp; done) | (simp; omega)); have z1_1 : w.heap.size + 1 < w1.heap.size := (by first | omega | (have h := hz1; simp at h; omega)); have kc1_1 := fun o => hc1 (w.heap.size + 1) o (by first | assumption | (simp; done) | (simp; omega)); have kf1_1 := fun o => hf1 (w.heap.size + 1) o (by first | assumption | (simp; done) | (simp; omega)))
  ((try simp only [Exit.inBlock, Exit.then]); refine bodyPost_ret (by simp [results, Try.results19, go_sem, *]; try with_reducible rfl) rfl ?_)
  exact ⟨rfl, by (repeat' (first | (with_reducible exact Below.refl _ _) | (with_reducible assumption) | (with_reducible refine Below.alloc ?_ ?_ _) | (with_reducible refine Below.setCell ?_ ?_ _) | (with_reducible refine Below.drew ?_) | (with_reducible exact Nat.le_refl _) | omega | (simp; omega) | (simp; done)))⟩
theorem awake_new (w : World) : Gives 19 #[.agg #[.int .i64 16, .int .i64 4, .int .i64 0, .int .i64 0, .int .i64 0]] w (.tuple #[.agg #[.int .i64 16, .int .i64 4, .int .i64 0, .int .i64 0, .int .i64 0, .int .i64 4, .int .i64 0, .int .i64 0], .int .i64 0]) := new_yes 16 4 0 0 0 w (by decide)
theorem awake_one (w : World) : Gives 27 #[.agg #[.int .i64 16, .int .i64 4, .int .i64 0, .int .i64 0, .int .i64 0, .int .i64 4, .int .i64 0, .int .i64 0], .int .i64 3, .int .i64 2, .int .i64 2] w (.tuple #[.agg #[.int .i64 16, .int .i64 4, .int .i64 0, .int .i64 0, .int .i64 0, .int .i64 8, .int .i64 0, .int .i64 4], .agg #[.bool true, .bool true, .bool false]]) := by
  have h := judge_any 16 4 0 0 0 4 0 0 3 2 2 w (by decide) ⟨by decide, by decide, by decide, by decide, by decide, by decide⟩
  have e1 : (judgeG 16 4 0 ⟨4, 0, 0⟩ 3 2 2).T = 8 := by decide
  have e2 : (judgeG 16 4 0 ⟨4, 0, 0⟩ 3 2 2).q = 0 := by decide
  have e3 : (judgeG 16 4 0 ⟨4, 0, 0⟩ 3 2 2).b = 4 := by decide
  have e4 : grantB 16 ⟨4, 0, 0⟩ 3 2 2 = true := by decide
  have e5 : overB 3 2 4 = true := by decide
  have e6 : forceB 16 ⟨4, 0, 0⟩ 3 2 2 = false := by decide
  rw [e1, e2, e3, e4, e5, e6] at h
  exact h
theorem awake_two (w : World) : ∃ T q b : Int, Gives 27 #[.agg #[.int .i64 16, .int .i64 4, .int .i64 0, .int .i64 0, .int .i64 0, .int .i64 8, .int .i64 0, .int .i64 4], .int .i64 8, .int .i64 8, .int .i64 9] w (.tuple #[.agg #[.int .i64 16, .int .i64 4, .int .i64 0, .int .i64 0, .int .i64 0, .int .i64 T, .int .i64 q, .int .i64 b], .agg #[.bool false, .bool true, .bool true]]) := by
  have h := judge_any 16 4 0 0 0 8 0 4 8 8 9 w (by decide) ⟨by decide, by decide, by decide, by decide, by decide, by decide⟩
  have e4 : grantB 16 ⟨8, 0, 4⟩ 8 8 9 = false := by decide
  have e5 : overB 8 9 8 = true := by decide
  have e6 : forceB 16 ⟨8, 0, 4⟩ 8 8 9 = true := by decide
  rw [e4, e5, e6] at h
  exact ⟨_, _, _, h⟩
set_option maxHeartbeats 2000000 in
theorem awake28 (w : World) : Gives 18 #[] w (.bool true) := by
  refine gives ?_
  go_enter Try.func18, Try.ntmps18
  go_upto_region 2 with ((go_at_call 19; (with_reducible refine Gives.use (awake_new _) ?_); intro w1 hb1; have hB1 := below_call (B := w.heap.size) (w := w) (by (repeat' (first | (with_reducible exact Below.refl _ _) | (with_reducible assumption) | (with_reducible refine Below.alloc ?_ ?_ _) | (with_reducible refine Below.setCell ?_ ?_ _) | (with_reducible refine Below.drew ?_) | (with_reducible exact Nat.le_refl _) | omega | (simp; omega) | (simp; done)))) hb1 (by (first | (with_reducible exact Nat.le_refl _) | (with_reducible assumption) | omega | (simp; omega) | (simp; done))); obtain ⟨hc1, hf1⟩ := bcell hb1; have hz1 := hb1.size))
  refine rebase (fun w' => Below w.heap.size w w' ∧ Blk w' w1.heap.size 40 #[.int .i64 16, .int .i64 4, .int .i64 0, .int .i64 0, .int .i64 0, .int .i64 4, .int .i64 0, .int .i64 0]) ⟨hB1.alloc hz1 _, Blk.new _ _ _⟩ ?_
  clear hc1 hf1 hb1
  rintro w2 ⟨hB2, K⟩
  obtain ⟨G, hG⟩ : ∃ G, G = w1.heap.size := ⟨_, rfl⟩
  rw [← hG] at K ⊢
  have hwG : w.heap.size ≤ G := by omega
  clear hG hz1 hB1
  have k := K.cell
  have lG := K.lt
  go_wp2_with fail
  refine Gives.use (awake_one _) ?_
  intro w3 hb3
  have hB3 := hB2.trans (hb3.mono hB2.size)
  replace K := K.below hb3 lG
  replace k := K.cell
  replace lG := K.lt
  have f := K.frozen
  go_upto_region 3 with (fail)
  refine rebase (fun w' => Below w.heap.size w w' ∧ Blk w' G 40 #[.int .i64 16, .int .i64 4, .int .i64 0, .int .i64 0, .int .i64 0, .int .i64 8, .int .i64 0, .int .i64 4] ∧ Blk w' w3.heap.size 56 #[.bool true, .bool true, .bool false])
    ⟨by (repeat' (first | (with_reducible exact Below.refl _ _) | (with_reducible assumption) | (with_reducible refine Below.alloc ?_ ?_ _) | (with_reducible refine Below.setCell ?_ ?_ _) | (with_reducible refine Below.drew ?_) | (with_reducible exact Nat.le_refl _) | omega | (simp; omega) | (simp; done))), Blk.alloc (Blk.as ((((((((K.set_ 0 _).set_ 1 _).set_ 2 _).set_ 3 _).set_ 4 _).set_ 5 _).set_ 6 _).set_ 7 _) (by simp)) _, Blk.fresh (by simp [World.setCell])⟩ ?_
  clear K k f
  obtain ⟨V, hV⟩ : ∃ V, V = w3.heap.size := ⟨_, rfl⟩
  rw [← hV]
  have hVG : G < V := by omega
  have hz := hB3.size
  clear hV hb3 hB2 hB3 lG
  rintro w4 ⟨hB4, K, KV⟩
  have k := K.cell
  have lG := K.lt
  have lV := KV.lt
  have hz4 := hB4.size
  obtain ⟨T, q, b, hj⟩ := awake_two w4
  have HJ := Lib.hid hj
  clear hj
  go_wp2_with fail
  refine Gives.use HJ.out ?_
  intro w5 hb5
  have hB5 := hB4.trans (hb5.mono hB4.size)
  replace K := K.below hb5 lG
  replace KV := KV.below hb5 lV
  replace k := K.cell
  have kV := KV.cell
  have l5 := K.lt
  have l6 := KV.lt
  clear HJ hb5
  go_wp2
  ((try simp only [Exit.inBlock, Exit.then]); first | (refine bodyPost_ret (results_tmp rfl _ _ _) rfl ?_) | (refine bodyPost_ret (results_none rfl _ _ _) rfl ?_) | (refine bodyPost_end (results_none rfl _ _ _) rfl ?_) | go_ret2 | go_ret3)
  exact ⟨rfl, by (repeat' (first | (with_reducible exact Below.refl _ _) | (with_reducible assumption) | (with_reducible refine Below.alloc ?_ ?_ _) | (with_reducible refine Below.setCell ?_ ?_ _) | (with_reducible refine Below.drew ?_) | (with_reducible exact Nat.le_refl _) | omega | (simp; omega) | (simp; done)))⟩
end Go.Proofs.Ytlcaanodbhigkaa
