/-
  The statements of layer 26 (control), proved: ControlTurns.
-/
import Derived.Test.YtlcaanodbhigkaaLaw
import Derived.Test.YtlcaanodbhigkaaControl
namespace Go.Proofs.Ytlcaanodbhigkaa
open Go Go.ChangeShapes Go.WideShapes Go.ChangeAt Go.RowKit Go.Deep
attribute [local go_sem] calm calmAt calmUpon After.cell After.frozen
set_option maxHeartbeats 1000000 in
theorem turns_yes (l t s k d T q n : Int) (w : World) (hR : rightB l t d = true) (hT' : T ≤ 9223372036854775807) (hq : -9223372036854775808 ≤ q) :
    Gives 5 #[.agg #[.int .i64 l, .int .i64 t, .int .i64 s, .int .i64 k, .int .i64 d], .agg #[.int .i64 T, .int .i64 q], .int .i64 n] w (.bool true) := by
  obtain ⟨hl, hl', ht, htl, hd, hd'⟩ := right_iff.1 hR
  have r1 : ∀ w, Gives 15 #[.agg #[.int .i64 l, .int .i64 t, .int .i64 s, .int .i64 k, .int .i64 d]] w (.bool true) := fun w => hR ▸ right_any l t s k d w
  have r2 : ∀ w, Gives 10 #[.agg #[.int .i64 l, .int .i64 t, .int .i64 s, .int .i64 k, .int .i64 d]] w (.bool true) := fun w => hR ▸ rright_any l t s k d w
  clear hR
  have R1 := Lib.hid r1
  have R2 := Lib.hid r2
  clear r1 r2
  refine gives ?_
  go_enter Try.func5, Try.ntmps5
  go_wp2_with (go_at_call 9; (with_reducible refine Gives.use (awake26 _) ?_); intro w1 hb1; have hB1 := below_call (B := w.heap.size) (w := w) (by go_grown) hb1 (by go_size); obtain ⟨hc1, hf1⟩ := bcell hb1; have hz1 := hb1.size; have z1_0 : w.heap.size < w1.heap.size := (by first | omega | (have h := hz1; simp at h; omega)); have z1_1 : w.heap.size + 1 < w1.heap.size := (by first | omega | (have h := hz1; simp at h; omega)))
  (refine wp_region_calm [0, 1, 2, 3, 4] [] (by kernel_rfl) (by kernel_rfl) (by kernel_rfl) (by kernel_rfl) ?_; simp only [pick, List.getElem?_cons_zero, List.getElem?_cons_succ]; (repeat (refine wpCalm_step (fun K hK => ?_); go_simp; (try go_ints); first | (refine hK _ ?_; clear hK K) | (apply Exists.intro; refine ⟨fun _ => ?_, hK _ ?_⟩; (· first | (go_at_call 15; with_reducible (exact Gives.calm ((R1.out _)))) | (go_at_call 10; with_reducible (exact Gives.calm ((R2.out _))))); clear hK K))); refine wpCalm_nil ?_)
  (refine wpTail_end ?_; intro w2 hb2 _; have hB2 := below_call (B := w.heap.size) (w := w) (by go_grown) hb2 (by go_size); obtain ⟨hc2, hf2⟩ := bcell hb2; have hz2 := hb2.size; have z2_0 : w.heap.size < w2.heap.size := (by first | omega | (have h := hz2; simp at h; omega)); have z2_1 : w.heap.size + 1 < w2.heap.size := (by first | omega | (have h := hz2; simp at h; omega)))
  go_wp2_with (first | (go_at_call 10; (with_reducible refine Gives.use ((R2.out _)) ?_); intro w3 hb3; have hB3 := below_call (B := w.heap.size) (w := w) (by go_grown) hb3 (by go_size); obtain ⟨hc3, hf3⟩ := bcell hb3; have hz3 := hb3.size; have z3_0 : w.heap.size < w3.heap.size := (by first | omega | (have h := hz3; simp at h; omega)); have z3_1 : w.heap.size + 1 < w3.heap.size := (by first | omega | (have h := hz3; simp at h; omega))) | (go_at_call 16; (with_reducible refine Gives.use (rnext_any _ _ _ _ _ _ _ _ _ (by omega) hl' hd' ht htl hT' hq) ?_); intro w4 hb4; have hB4 := below_call (B := w.heap.size) (w := w) (by go_grown) hb4 (by go_size); obtain ⟨hc4, hf4⟩ := bcell hb4; have hz4 := hb4.size; have z4_0 : w.heap.size < w4.heap.size := (by first | omega | (have h := hz4; simp at h; omega)); have z4_1 : w.heap.size + 1 < w4.heap.size := (by first | omega | (have h := hz4; simp at h; omega))))
  (refine wp_region_calm [0, 1, 2, 3, 4, 5, 6, 7, 8, 9, 10, 11, 12, 13, 14, 15, 16, 17, 18, 19, 20, 21, 22, 23, 24, 25] [] (by kernel_rfl) (by kernel_rfl) (by kernel_rfl) (by kernel_rfl) ?_; simp only [pick, List.getElem?_cons_zero, List.getElem?_cons_succ]; (repeat (refine wpCalm_step (fun K hK => ?_); go_simp; (try go_ints); first | (refine hK _ ?_; clear hK K) | (apply Exists.intro; refine ⟨fun _ => ?_, hK _ ?_⟩; (· first | (go_at_call 14; with_reducible (exact Gives.calm (want_any _ _ _ _ _ _ _ (by omega) hl'))) | (go_at_call 17; with_reducible (exact Gives.calm (rwant_any _ _ _ _ _ _ _ (by omega) hl'))) | (go_at_call 11; with_reducible (exact Gives.calm (begin_any _ _ _ _ _ _))) | (go_at_call 12; with_reducible (exact Gives.calm (next_any _ _ _ _ _ _ _ _ _ (by omega) hl' hd' ht htl hT' hq)))); clear hK K))); refine wpCalm_nil ?_)
  (refine wpTail_end ?_; intro w5 hb5 _; have hB5 := below_call (B := w.heap.size) (w := w) (by go_grown) hb5 (by go_size); obtain ⟨hc5, hf5⟩ := bcell hb5; have hz5 := hb5.size; have z5_0 : w.heap.size < w5.heap.size := (by first | omega | (have h := hz5; simp at h; omega)); have z5_1 : w.heap.size + 1 < w5.heap.size := (by first | omega | (have h := hz5; simp at h; omega)))
  go_wp2
  go_returns
  exact ⟨rfl, by go_grown⟩
set_option maxHeartbeats 1000000 in
theorem turns_no (l t s k d T q n : Int) (w : World) (hR : rightB l t d = false) : Gives 5 #[.agg #[.int .i64 l, .int .i64 t, .int .i64 s, .int .i64 k, .int .i64 d], .agg #[.int .i64 T, .int .i64 q], .int .i64 n] w (.bool true) := by
  have r1 : ∀ w, Gives 15 #[.agg #[.int .i64 l, .int .i64 t, .int .i64 s, .int .i64 k, .int .i64 d]] w (.bool false) := fun w => hR ▸ right_any l t s k d w
  have r2 : ∀ w, Gives 10 #[.agg #[.int .i64 l, .int .i64 t, .int .i64 s, .int .i64 k, .int .i64 d]] w (.bool false) := fun w => hR ▸ rright_any l t s k d w
  clear hR
  have R1 := Lib.hid r1
  have R2 := Lib.hid r2
  clear r1 r2
  refine gives ?_
  go_enter Try.func5, Try.ntmps5
  go_wp2_with (go_at_call 9; (with_reducible refine Gives.use (awake26 _) ?_); intro w1 hb1; have hB1 := below_call (B := w.heap.size) (w := w) (by go_grown) hb1 (by go_size); obtain ⟨hc1, hf1⟩ := bcell hb1; have hz1 := hb1.size; have z1_0 : w.heap.size < w1.heap.size := (by first | omega | (have h := hz1; simp at h; omega)); have z1_1 : w.heap.size + 1 < w1.heap.size := (by first | omega | (have h := hz1; simp at h; omega)))
  (refine wp_region_calm [0, 1, 2, 3, 4] [] (by kernel_rfl) (by kernel_rfl) (by kernel_rfl) (by kernel_rfl) ?_; simp only [pick, List.getElem?_cons_zero, List.getElem?_cons_succ]; (repeat (refine wpCalm_step (fun K hK => ?_); go_simp; (try go_ints); first | (refine hK _ ?_; clear hK K) | (apply Exists.intro; refine ⟨fun _ => ?_, hK _ ?_⟩; (· first | (go_at_call 15; with_reducible (exact Gives.calm ((R1.out _)))) | (go_at_call 10; with_reducible (exact Gives.calm ((R2.out _))))); clear hK K))); refine wpCalm_nil ?_)
  (refine wpTail_end ?_; intro w2 hb2 _; have hB2 := below_call (B := w.heap.size) (w := w) (by go_grown) hb2 (by go_size); obtain ⟨hc2, hf2⟩ := bcell hb2; have hz2 := hb2.size; have z2_0 : w.heap.size < w2.heap.size := (by first | omega | (have h := hz2; simp at h; omega)); have z2_1 : w.heap.size + 1 < w2.heap.size := (by first | omega | (have h := hz2; simp at h; omega)))
  go_wp2_with (go_at_call 10; (with_reducible refine Gives.use ((R2.out _)) ?_); intro w3 hb3; have hB3 := below_call (B := w.heap.size) (w := w) (by go_grown) hb3 (by go_size); obtain ⟨hc3, hf3⟩ := bcell hb3; have hz3 := hb3.size; have z3_0 : w.heap.size < w3.heap.size := (by first | omega | (have h := hz3; simp at h; omega)); have z3_1 : w.heap.size + 1 < w3.heap.size := (by first | omega | (have h := hz3; simp at h; omega)))
  go_returns
  exact ⟨rfl, by go_grown⟩
theorem turns_any (l t s k d T q n : Int) (w : World) (hT' : T ≤ 9223372036854775807) (hq : -9223372036854775808 ≤ q) : Gives 5 #[.agg #[.int .i64 l, .int .i64 t, .int .i64 s, .int .i64 k, .int .i64 d], .agg #[.int .i64 T, .int .i64 q], .int .i64 n] w (.bool true) := by
  cases h : rightB l t d with
  | true => exact turns_yes l t s k d T q n w h hT' hq
  | false => exact turns_no l t s k d T q n w h

set_option maxRecDepth 100000 in
theorem turns_lifted (os : Os) (started : os.Started) (H : Type) (enc : TypeId × Value → H) :
    ReturnsInHanded {} Try.checked os 5 .any (Rows.controlTurnsSpec.pre6 enc Try.prog Try.f5 Rows.controlTurnsRow.domain false) (Rows.controlTurnsSpec.post enc Try.prog Try.f5 false true false false) := by
  refine returnsInHanded_of_change (C := Try.checked) Try.own started (by kernel_rfl) Try.func5
    (ChangeSpec.witness6 (enc := enc) (C := Try.checked) false ⟨#[], #[.agg #[.int .i64 0, .int .i64 0, .int .i64 0, .int .i64 0, .int .i64 0], .agg #[.int .i64 0, .int .i64 0], .int .i64 0], []⟩ 8 (by kernel_rfl) (by kernel_rfl) (by kernel_rfl) (by kernel_rfl)) ?_
  intro W base args ds gs before hval0 hW hcnd hsized
  have hval : ∀ (j : Nat) t v, Try.f5.params[j]? = some t → args[j]? = some v → Value.okWide Try.prog W .any base t v := hval0
  have hW' := hW
  obtain ⟨p, q, hA0, hV, rfl, hfz, hnd⟩ := hW
  have hA : DataW.TrodAll enc Try.prog W 0 (fun _ => true) true Try.f5.params.toList args.toList ds p := hA0
  rw [Try.params5] at hA hval
  obtain ⟨v0, v1, v2, d0, d1, d2, p0, p1, p2, rfl, rfl, rfl, h0, h1, h2⟩ := trodAll_three hA
  obtain ⟨l0_, rfl, hl0_, hg0_⟩ := open_struct Try.underlying23 (by kernel_rfl) (by kernel_rfl) (hval 0 _ v0 rfl rfl) h0
  obtain ⟨c0_0, c0_1, c0_2, c0_3, c0_4, rfl⟩ := list5 hl0_
  obtain ⟨l, rfl, wl⟩ := field_int Try.underlying3 (hg0_ 0 _ _ rfl rfl)
  obtain ⟨t, rfl, wt⟩ := field_int Try.underlying3 (hg0_ 1 _ _ rfl rfl)
  obtain ⟨s, rfl, ws⟩ := field_int Try.underlying3 (hg0_ 2 _ _ rfl rfl)
  obtain ⟨k, rfl, wk⟩ := field_int Try.underlying3 (hg0_ 3 _ _ rfl rfl)
  obtain ⟨d, rfl, wd⟩ := field_int Try.underlying3 (hg0_ 4 _ _ rfl rfl)
  obtain ⟨l1_, rfl, hl1_, hg1_⟩ := open_struct Try.underlying28 (by kernel_rfl) (by kernel_rfl) (hval 1 _ v1 rfl rfl) h1
  obtain ⟨c1_0, c1_1, rfl⟩ := list2 hl1_
  obtain ⟨T, rfl, wT⟩ := field_int Try.underlying3 (hg1_ 0 _ _ rfl rfl)
  obtain ⟨q, rfl, wq⟩ := field_int Try.underlying3 (hg1_ 1 _ _ rfl rfl)
  obtain ⟨n, rfl, rfl, rfl, wn⟩ := open_int Try.underlying3 (hval 2 _ v2 rfl rfl) h2
  refine Gives.use (turns_any l t s k d T q n W (wf_i64 wT).2 (wf_i64 wq).1) fun W' hb => ?_
  exact ⟨_, rfl, law_post Try.laidOut (by kernel_rfl) (by kernel_rfl) Try.underlying4 rfl hW' ⟨rfl, rfl, rfl⟩ hb⟩
theorem turns_holds : Rows.ControlTurnsSaid :=
  OpenClaim.holds_of_wide 5 Try.f5 rfl rfl rfl rfl rfl rfl rfl ⟨rfl, rfl, rfl, rfl, rfl⟩ rfl rfl rfl rfl rfl (by kernel_rfl) Try.func5 (by kernel_rfl)
    (of_decide_eq_true (by kernel_rfl)) (by unfold Func.isWrapper; first | (rw [if_pos (by decide +kernel)]; kernel_rfl) | (rw [if_neg (by decide +kernel)]; exact ⟨rfl, rfl⟩))
    (fun os started H enc _ => turns_lifted os started H enc)
end Go.Proofs.Ytlcaanodbhigkaa
