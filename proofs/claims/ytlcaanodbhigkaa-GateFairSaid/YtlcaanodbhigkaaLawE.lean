/-
  The statements of layer 28 (gate), proved: GateFair.
-/
import Derived.Test.YtlcaanodbhigkaaGateI
import Derived.Test.YtlcaanodbhigkaaPGateF
namespace Go.Proofs.Ytlcaanodbhigkaa
open Go Go.ChangeShapes Go.WideShapes Go.ChangeAt Go.RowKit Go.Deep
attribute [local go_sem] calm calmAt calmUpon After.cell After.frozen
set_option maxHeartbeats 1000000 in
set_option maxRecDepth 100000 in
theorem fair_yes (l t s k d : Int) (A : Option Addr) (n c : Nat) (x0 x1 x2 : Int) (w : World) (hR : rightB l t d = true) (hz : AskAt w w.heap.size A n) (hn : n ≤ 60)
    (i0 : 0 ≤ x0) (j0 : x0 ≤ 4294967295) (i1 : 0 ≤ x1) (j1 : x1 ≤ 4294967295) (i2 : 0 ≤ x2) (j2 : x2 ≤ 4294967295) :
    Gives 7 #[.agg #[.int .i64 l, .int .i64 t, .int .i64 s, .int .i64 k, .int .i64 d], .slice A n c, .agg #[.int .u32 x0, .int .u32 x1, .int .u32 x2]] w (.bool true) := by
  have HZ := Lib.hid hz
  clear hz
  obtain ⟨hl, hl', ht, htl, hd, hd'⟩ := right_iff.1 hR
  have r2 : ∀ w, Gives 10 #[.agg #[.int .i64 l, .int .i64 t, .int .i64 s, .int .i64 k, .int .i64 d]] w (.bool true) := fun w => hR ▸ rright_any l t s k d w
  have R2 := Lib.hid r2
  have HR := Lib.hid hR
  clear r2 hR
  have hmn := imin
  refine gives ?_
  go_enter Try.func7, Try.ntmps7
  go_wp2_with (first | (go_at_call 18; (with_reducible refine Gives.use (awake28 _) ?_); intro w1 hb1; have hB1 := below_call (B := w.heap.size) (w := w) (by (repeat' (first | (with_reducible exact Below.refl _ _) | (with_reducible assumption) | (with_reducible refine Below.alloc ?_ ?_ _) | (with_reducible refine Below.setCell ?_ ?_ _) | (with_reducible refine Below.drew ?_) | (with_reducible exact Nat.le_refl _) | omega | (simp; omega) | (simp; done)))) hb1 (by (first | (with_reducible exact Nat.le_refl _) | (with_reducible assumption) | omega | (simp; omega) | (simp; done))); obtain ⟨hc1, hf1⟩ := bcell hb1; have hz1 := hb1.size; have z1_0 : w.heap.size < w1.heap.size := (by first | omega | (have h := hz1; simp at h; omega)); have kc1_0 := fun o => hc1 (w.heap.size) o (by first | assumption | (simp; done) | (simp; omega)); have kf1_0 := fun o => hf1 (w.heap.size) o (by first | assumption | (simp; done) | (simp; omega)); have z1_1 : w.heap.size + 1 < w1.heap.size := (by first | omega | (have h := hz1; simp at h; omega)); have kc1_1 := fun o => hc1 (w.heap.size + 1) o (by first | assumption | (simp; done) | (simp; omega)); have kf1_1 := fun o => hf1 (w.heap.size + 1) o (by first | assumption | (simp; done) | (simp; omega))) | (go_at_call 10; (with_reducible refine Gives.use ((R2.out _)) ?_); intro w2 hb2; have hB2 := below_call (B := w.heap.size) (w := w) (by (repeat' (first | (with_reducible exact Below.refl _ _) | (with_reducible assumption) | (with_reducible refine Below.alloc ?_ ?_ _) | (with_reducible refine Below.setCell ?_ ?_ _) | (with_reducible refine Below.drew ?_) | (with_reducible exact Nat.le_refl _) | omega | (simp; omega) | (simp; done)))) hb2 (by (first | (with_reducible exact Nat.le_refl _) | (with_reducible assumption) | omega | (simp; omega) | (simp; done))); obtain ⟨hc2, hf2⟩ := bcell hb2; have hz2 := hb2.size; have z2_0 : w.heap.size < w2.heap.size := (by first | omega | (have h := hz2; simp at h; omega)); have kc2_0 := fun o => hc2 (w.heap.size) o (by first | assumption | (simp; done) | (simp; omega)); have kf2_0 := fun o => hf2 (w.heap.size) o (by first | assumption | (simp; done) | (simp; omega)); have z2_1 : w.heap.size + 1 < w2.heap.size := (by first | omega | (have h := hz2; simp at h; omega)); have kc2_1 := fun o => hc2 (w.heap.size + 1) o (by first | assumption | (simp; done) | (simp; omega)); have kf2_1 := fun o => hf2 (w.heap.size + 1) o (by first | assumption | (simp; done) | (simp; omega))) | (go_at_call 19; (with_reducible refine Gives.use (new_yes _ _ _ _ _ _ HR.out) ?_); intro w3 hb3; have hB3 := below_call (B := w.heap.size) (w := w) (by (repeat' (first | (with_reducible exact Below.refl _ _) | (with_reducible assumption) | (with_reducible refine Below.alloc ?_ ?_ _) | (with_reducible refine Below.setCell ?_ ?_ _) | (with_reducible refine Below.drew ?_) | (with_reducible exact Nat.le_refl _) | omega | (simp; omega) | (simp; done)))) hb3 (by (first | (with_reducible exact Nat.le_refl _) | (with_reducible assumption) | omega | (simp; omega) | (simp; done))); obtain ⟨hc3, hf3⟩ := bcell hb3; have hz3 := hb3.size; have z3_0 : w.heap.size < w3.heap.size := (by first | omega | (have h := hz3; simp at h; omega)); have kc3_0 := fun o => hc3 (w.heap.size) o (by first | assumption | (simp; done) | (simp; omega)); have kf3_0 := fun o => hf3 (w.heap.size) o (by first | assumption | (simp; done) | (simp; omega)); have z3_1 : w.heap.size + 1 < w3.heap.size := (by first | omega | (have h := hz3; simp at h; omega)); have kc3_1 := fun o => hc3 (w.heap.size + 1) o (by first | assumption | (simp; done) | (simp; omega)); have kf3_1 := fun o => hf3 (w.heap.size + 1) o (by first | assumption | (simp; done) | (simp; omega))))
  have H0 : GInv w w3.heap.size l t s k d t 0 0 (w3.alloc (.cells #[.int .i64 l, .int .i64 t, .int .i64 s, .int .i64 k, .int .i64 d, .int .i64 t, .int .i64 0, .int .i64 0] 40)) :=
    ⟨hB3.alloc (by omega) _, ((((((Blk.new w _ _).alloc _).below hb1 (by (first | (with_reducible exact Nat.le_refl _) | (with_reducible assumption) | omega | (simp; omega) | (simp; done)))).below hb2 (by omega)).below hb3 (by omega)).alloc _), Blk.new _ _ _, by omega⟩
  have E0 : Blk (w3.alloc (.cells #[.int .i64 l, .int .i64 t, .int .i64 s, .int .i64 k, .int .i64 d, .int .i64 t, .int .i64 0, .int .i64 0] 40)) (w.heap.size + 1) 64 #[.int .u32 x0, .int .u32 x1, .int .u32 x2] :=
    (((((Blk.fresh (g := w.heap.size + 1) (by simp)).below hb1 (by (first | (with_reducible exact Nat.le_refl _) | (with_reducible assumption) | omega | (simp; omega) | (simp; done)))).below hb2 (by omega)).below hb3 (by omega)).alloc _)
  obtain ⟨G, hG⟩ : ∃ G, G = w3.heap.size := ⟨_, rfl⟩
  have hG1 : w.heap.size + 1 < G := by omega
  rw [← hG] at H0 ⊢
  have H0' := Lib.hid (And.intro H0 E0)
  clear hG H0 E0 hc1 hc2 hc3 hf1 hf2 hf3 kc1_0 kc2_0 kc3_0 kf1_0 kf2_0 kf3_0 kc1_1 kc2_1 kc3_1 kf1_1 kf2_1 kf3_1
  go_loopw [9] (fun i wr => ∃ (j : Nat) (T q b : Int), j ≤ n ∧ i = .int .i64 j ∧ GS.ok l d ⟨T, q, b⟩ ∧ t ≤ T ∧ GInv w G l t s k d T q b wr ∧ Blk wr (w.heap.size + 1) 64 #[.int .u32 x0, .int .u32 x1, .int .u32 x2]) (fun i _ => n - (intOf i).toNat)
  case atStart => exact ⟨0, t, 0, 0, Nat.zero_le _, rfl, ⟨ht, htl, Int.le_refl _, hd, Int.le_refl _, by show 0 ≤ l; omega⟩, Int.le_refl _, H0'.out.1, H0'.out.2⟩
  case round =>
    clear H0' hB1 hB2 hB3 hb1 hb2 hb3
    obtain ⟨j, T, q, b, hj, rfl, hok, hbT, H, E⟩ := hrel
    have hT1 : 0 ≤ T := hok.1
    have hT2 : T ≤ l := hok.2.1
    have hBr := H.1
    have hzr := hBr.size
    have kc := H.2.1.cell
    have kg := H.2.2.1.cell
    have ke := E.cell
    have lc := H.2.1.lt
    have lg := H.2.2.1.lt
    have le := E.lt
    have hne := H.2.2.2
    have HH := Lib.hid (And.intro H E)
    have HOK := Lib.hid hok
    clear H hok E
    by_cases hlt : j < n
    · obtain ⟨bb, o, rfl, hbb, hall⟩ := HZ.out (by omega)
      obtain ⟨u, v, z, f, h0, h1, h2, h3⟩ := hall j hlt
      have e0 : wr.cell? ⟨bb, o + j * 4, none⟩ = some (.int .i64 u) := (hBr.cell hbb).trans h0
      have e1 : wr.cell? ⟨bb, o + j * 4 + 1, none⟩ = some (.int .i64 v) := (hBr.cell hbb).trans h1
      have e2 : wr.cell? ⟨bb, o + j * 4 + 2, none⟩ = some (.int .i64 z) := (hBr.cell hbb).trans h2
      have hbr : bb < wr.heap.size := by omega
      clear hall h0 h1 h2 h3
      go_upto_region 11 with (fail)
      (refine wp_region_calmU true [0, 1, 2, 3, 4, 5, 6, 7, 8, 9, 10, 11, 12, 13, 14, 15, 16, 17, 18, 19] [20] (by intro _ c a w d v h; cases d <;> exact h) (by kernel_rfl) (by kernel_rfl) (by kernel_rfl) (by kernel_rfl) ?_; simp only [pick, List.getElem?_cons_zero, List.getElem?_cons_succ]; (repeat (refine wpCalm_step (fun K hK => ?_); go_simp; (try go_ints); first | (refine hK _ ?_; clear hK K) | (apply Exists.intro; refine ⟨fun _ => ?_, hK _ ?_⟩; (· (go_at_call 27; with_reducible (exact Gives.calm (judge_any _ _ _ _ _ _ _ _ _ _ _ _ HR.out HOK.out)))); clear hK K))); refine wpCalm_nil ?_)
      refine wpTail_list rfl ?_
      intro w4 hb4 _
      have hgo := judgeG_ok l t d ⟨T, q, b⟩ u v z (by omega) ht htl hd HOK.out
      have hgb := judgeG_min l t d ⟨T, q, b⟩ u v z (by omega) ht htl HOK.out hbT
      generalize judgeG l t d ⟨T, q, b⟩ u v z = g5 at *
      obtain ⟨T5, q5, b5⟩ := g5
      have H4 := HH.out.1.later hb4
      have E4 := HH.out.2.below hb4 le
      have fg := H4.2.2.1.frozen
      have kg4 := H4.2.2.1.cell
      have fin : ∀ wx : World, GInv w G l t s k d T5 q5 b5 wx → Blk wx (w.heap.size + 1) 64 #[.int .u32 x0, .int .u32 x1, .int .u32 x2] →
          (∃ (j_1 : Nat) (T q b : Int), j_1 ≤ n ∧ Value.int .i64 ((j : Int) + 1) = .int .i64 j_1 ∧ GS.ok l d ⟨T, q, b⟩ ∧ t ≤ T ∧ GInv w G l t s k d T q b wx ∧ Blk wx (w.heap.size + 1) 64 #[.int .u32 x0, .int .u32 x1, .int .u32 x2]) ∧ n - (intOf (.int .i64 ((j : Int) + 1))).toNat < n - (intOf (.int .i64 (j : Int))).toNat := fun wx hx ex =>
        ⟨⟨j + 1, T5, q5, b5, by omega, by go_num, hgo, hgb, hx, ex⟩, by simp [intOf]; omega⟩
      have FIN := Lib.hid fin
      have HH4 := Lib.hid (And.intro H4 E4)
      clear fin H4 E4 hgo hgb hb4 kc kg ke e0 e1 e2
      dsimp only
      go_wp2
      exact FIN.out _ HH4.out.1.set_ (by (repeat (refine Blk.far ?_ (Nat.ne_of_lt hG1) _)); exact HH4.out.2)
    · go_upto_region 12 with (fail)
      clear HZ
      (refine wp_region_calm [0, 1, 2, 3, 4, 5, 6, 7] [] (by kernel_rfl) (by kernel_rfl) (by kernel_rfl) (by kernel_rfl) ?_; simp only [pick, List.getElem?_cons_zero, List.getElem?_cons_succ]; (repeat (refine wpCalm_step (fun K hK => ?_); go_simp; (try go_ints); first | (refine hK _ ?_; clear hK K) | (apply Exists.intro; refine ⟨fun _ => ?_, hK _ ?_⟩; (· fail); clear hK K))); refine wpCalm_nil ?_)
      refine wpTail_end ?_
      intro w4 hb4 _
      have H4 := HH.out.1.later hb4
      have E4 := HH.out.2.below hb4 le
      have kc := H4.2.1.cell
      have kg := H4.2.2.1.cell
      have ke := E4.cell
      have lc4 := H4.2.1.lt
      have lg4 := H4.2.2.1.lt
      have HH4 := Lib.hid H4
      clear H4 E4 hb4 HH
      go_wp2_with fail
      refine Gives.use (judge_any _ _ _ _ _ _ _ _ _ _ _ _ HR.out HOK.out) ?_
      intro w5 hb5
      have hb1 : 0 ≤ b := HOK.out.2.2.2.2.1
      have hb2 : b ≤ l := HOK.out.2.2.2.2.2
      have hff := fair_forms l t d ⟨T, q, b⟩ x0 x1 x2 (by omega) ht htl HOK.out i0 i1 i2
      have hgo := judgeG_ok l t d ⟨T, q, b⟩ (x0 + x1) x0 x2 (by omega) ht htl hd HOK.out
      have hgb := judgeG_min l t d ⟨T, q, b⟩ (x0 + x1) x0 x2 (by omega) ht htl HOK.out hbT
      generalize judgeG l t d ⟨T, q, b⟩ (x0 + x1) x0 x2 = g5 at *
      obtain ⟨T5, q5, b5⟩ := g5
      generalize grantB l ⟨T, q, b⟩ (x0 + x1) x0 x2 = gr at *
      generalize forceB l ⟨T, q, b⟩ (x0 + x1) x0 x2 = fo at *
      generalize overB (x0 + x1) x2 T = co at *
      have p1 : t ≤ T5 := hgb
      have p2 : T5 ≤ l := hgo.2.1
      have p3 : 0 ≤ b5 := hgo.2.2.2.2.1
      have p4 : b5 ≤ l := hgo.2.2.2.2.2
      clear hgo hgb HOK
      have H5 := HH4.out.later hb5
      have kg := H5.2.2.1.cell
      have kc := H5.2.1.cell
      have lc5 := H5.2.1.lt
      have lg5 := H5.2.2.1.lt
      have hB5 := H5.1
      have HB5 := Lib.hid hB5
      clear H5 hb5 HH4 hBr hB5
      dsimp only at hff ⊢
      simp only [GS.mk.injEq] at hff
      rcases hff with ⟨c1, c2, ⟨c3, c4, c5⟩, c6, c7⟩ | ⟨c1, c2, c3, c4⟩ | ⟨c1, c2, c3, c4, c5, c6, c7⟩
      · subst c1 c2 c3 c4 c5
        go_wp2
        ((try simp only [Exit.inBlock, Exit.then]); first | (refine bodyPost_ret (results_tmp rfl _ _ _) rfl ?_) | (refine bodyPost_ret (results_none rfl _ _ _) rfl ?_) | (refine bodyPost_end (results_none rfl _ _ _) rfl ?_) | go_ret2 | go_ret3)
        refine ⟨rfl, ?_⟩
        have := HB5.out
        (repeat' (first | (with_reducible exact Below.refl _ _) | (with_reducible assumption) | (with_reducible refine Below.alloc ?_ ?_ _) | (with_reducible refine Below.setCell ?_ ?_ _) | (with_reducible refine Below.drew ?_) | (with_reducible exact Nat.le_refl _) | omega | (simp; omega) | (simp; done)))
      · subst c1 c2
        have d1 : decide (x0 + x2 ≤ l) = false := by simp; omega
        have d2 : decide (x0 + x1 + x2 ≤ T) = false := by simp; omega
        go_wp2
        ((try simp only [Exit.inBlock, Exit.then]); first | (refine bodyPost_ret (results_tmp rfl _ _ _) rfl ?_) | (refine bodyPost_ret (results_none rfl _ _ _) rfl ?_) | (refine bodyPost_end (results_none rfl _ _ _) rfl ?_) | go_ret2 | go_ret3)
        refine ⟨rfl, ?_⟩
        have := HB5.out
        (repeat' (first | (with_reducible exact Below.refl _ _) | (with_reducible assumption) | (with_reducible refine Below.alloc ?_ ?_ _) | (with_reducible refine Below.setCell ?_ ?_ _) | (with_reducible refine Below.drew ?_) | (with_reducible exact Nat.le_refl _) | omega | (simp; omega) | (simp; done)))
      · subst c1 c2 c5
        go_wp2
        ((try simp only [Exit.inBlock, Exit.then]); first | (refine bodyPost_ret (results_tmp rfl _ _ _) rfl ?_) | (refine bodyPost_ret (results_none rfl _ _ _) rfl ?_) | (refine bodyPost_end (results_none rfl _ _ _) rfl ?_) | go_ret2 | go_ret3)
        refine ⟨rfl, ?_⟩
        have := HB5.out
        (repeat' (first | (with_reducible exact Below.refl _ _) | (with_reducible assumption) | (with_reducible refine Below.alloc ?_ ?_ _) | (with_reducible refine Below.setCell ?_ ?_ _) | (with_reducible refine Below.drew ?_) | (with_reducible exact Nat.le_refl _) | omega | (simp; omega) | (simp; done)))
set_option maxHeartbeats 1000000 in
set_option maxRecDepth 100000 in
theorem fair_no (l t s k d : Int) (A : Option Addr) (n c : Nat) (x0 x1 x2 : Int) (w : World) (hR : rightB l t d = false) :
    Gives 7 #[.agg #[.int .i64 l, .int .i64 t, .int .i64 s, .int .i64 k, .int .i64 d], .slice A n c, .agg #[.int .u32 x0, .int .u32 x1, .int .u32 x2]] w (.bool true) := by
  have r2 : ∀ w, Gives 10 #[.agg #[.int .i64 l, .int .i64 t, .int .i64 s, .int .i64 k, .int .i64 d]] w (.bool false) := fun w => hR ▸ rright_any l t s k d w
  clear hR
  have R2 := Lib.hid r2
  clear r2
  refine gives ?_
  go_enter Try.func7, Try.ntmps7
  go_wp2_with (first | (go_at_call 18; (with_reducible refine Gives.use (awake28 _) ?_); intro w1 hb1; have hB1 := below_call (B := w.heap.size) (w := w) (by (repeat' (first | (with_reducible exact Below.refl _ _) | (with_reducible assumption) | (with_reducible refine Below.alloc ?_ ?_ _) | (with_reducible refine Below.setCell ?_ ?_ _) | (with_reducible refine Below.drew ?_) | (with_reducible exact Nat.le_refl _) | omega | (simp; omega) | (simp; done)))) hb1 (by (first | (with_reducible exact Nat.le_refl _) | (with_reducible assumption) | omega | (simp; omega) | (simp; done))); obtain ⟨hc1, hf1⟩ := bcell hb1; have hz1 := hb1.size; have z1_0 : w.heap.size < w1.heap.size := (by first | omega | (have h := hz1; simp at h; omega)); have kc1_0 := fun o => hc1 (w.heap.size) o (by first | assumption | (simp; done) | (simp; omega)); have kf1_0 := fun o => hf1 (w.heap.size) o (by first | assumption | (simp; done) | (simp; omega)); have z1_1 : w.heap.size + 1 < w1.heap.size := (by first | omega | (have h := hz1; simp at h; omega)); have kc1_1 := fun o => hc1 (w.heap.size + 1) o (by first | assumption | (simp; done) | (simp; omega)); have kf1_1 := fun o => hf1 (w.heap.size + 1) o (by first | assumption | (simp; done) | (simp; omega))) | (go_at_call 10; (with_reducible refine Gives.use ((R2.out _)) ?_); intro w2 hb2; have hB2 := below_call (B := w.heap.size) (w := w) (by (repeat' (first | (with_reducible exact Below.refl _ _) | (with_reducible assumption) | (with_reducible refine Below.alloc ?_ ?_ _) | (with_reducible refine Below.setCell ?_ ?_ _) | (with_reducible refine Below.drew ?_) | (with_reducible exact Nat.le_refl _) | omega | (simp; omega) | (simp; done)))) hb2 (by (first | (with_reducible exact Nat.le_refl _) | (with_reducible assumption) | omega | (simp; omega) | (simp; done))); obtain ⟨hc2, hf2⟩ := bcell hb2; have hz2 := hb2.size; have z2_0 : w.heap.size < w2.heap.size := (by first | omega | (have h := hz2; simp at h; omega)); have kc2_0 := fun o => hc2 (w.heap.size) o (by first | assumption | (simp; done) | (simp; omega)); have kf2_0 := fun o => hf2 (w.heap.size) o (by first | assumption | (simp; done) | (simp; omega)); have z2_1 : w.heap.size + 1 < w2.heap.size := (by first | omega | (have h := hz2; simp at h; omega)); have kc2_1 := fun o => hc2 (w.heap.size + 1) o (by first | assumption | (simp; done) | (simp; omega)); have kf2_1 := fun o => hf2 (w.heap.size + 1) o (by first | assumption | (simp; done) | (simp; omega))))
  ((try simp only [Exit.inBlock, Exit.then]); first | (refine bodyPost_ret (results_tmp rfl _ _ _) rfl ?_) | (refine bodyPost_ret (results_none rfl _ _ _) rfl ?_) | (refine bodyPost_end (results_none rfl _ _ _) rfl ?_) | go_ret2 | go_ret3)
  exact ⟨rfl, hB2⟩
set_option maxHeartbeats 1000000 in
set_option maxRecDepth 100000 in
theorem fair_long (l t s k d : Int) (A : Option Addr) (n c : Nat) (x0 x1 x2 : Int) (w : World) (hR : rightB l t d = true) (hn : 60 < n) (hm : n ≤ maxLen) :
    Gives 7 #[.agg #[.int .i64 l, .int .i64 t, .int .i64 s, .int .i64 k, .int .i64 d], .slice A n c, .agg #[.int .u32 x0, .int .u32 x1, .int .u32 x2]] w (.bool true) := by
  unfold maxLen at hm
  have r2 : ∀ w, Gives 10 #[.agg #[.int .i64 l, .int .i64 t, .int .i64 s, .int .i64 k, .int .i64 d]] w (.bool true) := fun w => hR ▸ rright_any l t s k d w
  clear hR
  have R2 := Lib.hid r2
  clear r2
  refine gives ?_
  go_enter Try.func7, Try.ntmps7
  go_wp2_with (first | (go_at_call 18; (with_reducible refine Gives.use (awake28 _) ?_); intro w1 hb1; have hB1 := below_call (B := w.heap.size) (w := w) (by (repeat' (first | (with_reducible exact Below.refl _ _) | (with_reducible assumption) | (with_reducible refine Below.alloc ?_ ?_ _) | (with_reducible refine Below.setCell ?_ ?_ _) | (with_reducible refine Below.drew ?_) | (with_reducible exact Nat.le_refl _) | omega | (simp; omega) | (simp; done)))) hb1 (by (first | (with_reducible exact Nat.le_refl _) | (with_reducible assumption) | omega | (simp; omega) | (simp; done))); obtain ⟨hc1, hf1⟩ := bcell hb1; have hz1 := hb1.size; have z1_0 : w.heap.size < w1.heap.size := (by first | omega | (have h := hz1; simp at h; omega)); have kc1_0 := fun o => hc1 (w.heap.size) o (by first | assumption | (simp; done) | (simp; omega)); have kf1_0 := fun o => hf1 (w.heap.size) o (by first | assumption | (simp; done) | (simp; omega)); have z1_1 : w.heap.size + 1 < w1.heap.size := (by first | omega | (have h := hz1; simp at h; omega)); have kc1_1 := fun o => hc1 (w.heap.size + 1) o (by first | assumption | (simp; done) | (simp; omega)); have kf1_1 := fun o => hf1 (w.heap.size + 1) o (by first | assumption | (simp; done) | (simp; omega))) | (go_at_call 10; (with_reducible refine Gives.use ((R2.out _)) ?_); intro w2 hb2; have hB2 := below_call (B := w.heap.size) (w := w) (by (repeat' (first | (with_reducible exact Below.refl _ _) | (with_reducible assumption) | (with_reducible refine Below.alloc ?_ ?_ _) | (with_reducible refine Below.setCell ?_ ?_ _) | (with_reducible refine Below.drew ?_) | (with_reducible exact Nat.le_refl _) | omega | (simp; omega) | (simp; done)))) hb2 (by (first | (with_reducible exact Nat.le_refl _) | (with_reducible assumption) | omega | (simp; omega) | (simp; done))); obtain ⟨hc2, hf2⟩ := bcell hb2; have hz2 := hb2.size; have z2_0 : w.heap.size < w2.heap.size := (by first | omega | (have h := hz2; simp at h; omega)); have kc2_0 := fun o => hc2 (w.heap.size) o (by first | assumption | (simp; done) | (simp; omega)); have kf2_0 := fun o => hf2 (w.heap.size) o (by first | assumption | (simp; done) | (simp; omega)); have z2_1 : w.heap.size + 1 < w2.heap.size := (by first | omega | (have h := hz2; simp at h; omega)); have kc2_1 := fun o => hc2 (w.heap.size + 1) o (by first | assumption | (simp; done) | (simp; omega)); have kf2_1 := fun o => hf2 (w.heap.size + 1) o (by first | assumption | (simp; done) | (simp; omega))))
  ((try simp only [Exit.inBlock, Exit.then]); first | (refine bodyPost_ret (results_tmp rfl _ _ _) rfl ?_) | (refine bodyPost_ret (results_none rfl _ _ _) rfl ?_) | (refine bodyPost_end (results_none rfl _ _ _) rfl ?_) | go_ret2 | go_ret3)
  exact ⟨rfl, hB2⟩
theorem fair_any (l t s k d : Int) (A : Option Addr) (n c : Nat) (x0 x1 x2 : Int) (w : World) (hz : AskAt w w.heap.size A n) (hm : n ≤ maxLen)
    (h0 : 0 ≤ x0 ∧ x0 ≤ 4294967295) (h1 : 0 ≤ x1 ∧ x1 ≤ 4294967295) (h2 : 0 ≤ x2 ∧ x2 ≤ 4294967295) :
    Gives 7 #[.agg #[.int .i64 l, .int .i64 t, .int .i64 s, .int .i64 k, .int .i64 d], .slice A n c, .agg #[.int .u32 x0, .int .u32 x1, .int .u32 x2]] w (.bool true) := by
  cases h : rightB l t d with
  | true => exact (Nat.lt_or_ge 60 n).elim (fun hn => fair_long l t s k d A n c x0 x1 x2 w h hn hm) (fun hn => fair_yes l t s k d A n c x0 x1 x2 w h hz hn h0.1 h0.2 h1.1 h1.2 h2.1 h2.2)
  | false => exact fair_no l t s k d A n c x0 x1 x2 w h
set_option maxRecDepth 100000 in
theorem fair_lifted (os : Os) (started : os.Started) (H : Type) (enc : TypeId × Value → H) :
    ReturnsInHanded {} Try.checked os 7 .any (Rows.gateFairSpec.pre6 enc Try.prog Try.f7 Rows.gateFairRow.domain false) (Rows.gateFairSpec.post enc Try.prog Try.f7 false true false false) := by
  refine returnsInHanded_of_change (C := Try.checked) Try.own started (by kernel_rfl) Try.func7
    (ChangeSpec.witness6 (enc := enc) (C := Try.checked) false ⟨#[], #[.agg #[.int .i64 0, .int .i64 0, .int .i64 0, .int .i64 0, .int .i64 0], .slice none 0 0, .agg #[.int .u32 0, .int .u32 0, .int .u32 0]], []⟩ 8 (by kernel_rfl) (by kernel_rfl) (by kernel_rfl) (by kernel_rfl)) ?_
  intro W base args ds gs before hval0 hW hcnd hsized
  have hval : ∀ (j : Nat) t v, Try.f7.params[j]? = some t → args[j]? = some v → Value.okWide Try.prog W .any base t v := hval0
  have hW' := hW
  obtain ⟨p, q, hA0, hV, rfl, hfz, hnd⟩ := hW
  have hA : DataW.TrodAll enc Try.prog W 0 (fun _ => true) true Try.f7.params.toList args.toList ds p := hA0
  rw [Try.params7] at hA hval
  obtain ⟨v0, v1, v2, d0, d1, d2, p0, p1, p2, rfl, rfl, rfl, h0, h1, h2⟩ := trodAll_three hA
  obtain ⟨l0_, rfl, hl0_, hg0_⟩ := open_struct Try.underlying23 (by kernel_rfl) (by kernel_rfl) (hval 0 _ v0 rfl rfl) h0
  obtain ⟨c0_0, c0_1, c0_2, c0_3, c0_4, rfl⟩ := list5 hl0_
  obtain ⟨l, rfl, wl⟩ := field_int Try.underlying3 (hg0_ 0 _ _ rfl rfl)
  obtain ⟨t, rfl, wt⟩ := field_int Try.underlying3 (hg0_ 1 _ _ rfl rfl)
  obtain ⟨s, rfl, ws⟩ := field_int Try.underlying3 (hg0_ 2 _ _ rfl rfl)
  obtain ⟨k, rfl, wk⟩ := field_int Try.underlying3 (hg0_ 3 _ _ rfl rfl)
  obtain ⟨d, rfl, wd⟩ := field_int Try.underlying3 (hg0_ 4 _ _ rfl rfl)
  obtain ⟨A, n, c, rfl, hnn, hcn, hrn⟩ := open_asks (hval 1 _ v1 rfl rfl) h1
  obtain ⟨la, rfl, hla, hga⟩ := open_array Try.underlying64 (by kernel_rfl) (by kernel_rfl) (hval 2 _ v2 rfl rfl) h2
  obtain ⟨a0, a1, a2, rfl⟩ := list3 hla
  obtain ⟨x0, rfl, w0⟩ := field_int Try.underlying63 (hga 0 _ rfl)
  obtain ⟨x1, rfl, w1⟩ := field_int Try.underlying63 (hga 1 _ rfl)
  obtain ⟨x2, rfl, w2⟩ := field_int Try.underlying63 (hga 2 _ rfl)
  refine Gives.use (fair_any l t s k d A n c x0 x1 x2 W hrn (Nat.le_trans hnn hcn) (wf_u32 w0) (wf_u32 w1) (wf_u32 w2)) fun W' hb => ?_
  exact ⟨_, rfl, law_post Try.laidOut (by kernel_rfl) (by kernel_rfl) Try.underlying4 rfl hW' ⟨rfl, rfl, rfl⟩ hb⟩
theorem fair_holds : Rows.GateFairSaid :=
  OpenClaim.holds_of_wide 7 Try.f7 rfl rfl rfl rfl rfl rfl rfl ⟨rfl, rfl, rfl, rfl, rfl⟩ rfl rfl rfl rfl rfl (by kernel_rfl) Try.func7 (by kernel_rfl)
    (of_decide_eq_true (by kernel_rfl)) (by unfold Func.isWrapper; first | (rw [if_pos (by decide +kernel)]; kernel_rfl) | (rw [if_neg (by decide +kernel)]; exact ⟨rfl, rfl⟩))
    (fun os started H enc _ => fair_lifted os started H enc)
end Go.Proofs.Ytlcaanodbhigkaa
