/-
  The statements of layer 26 (control), proved: ControlSettles.
-/
import Derived.Test.YtlcaanodbhigkaaLaw
import Derived.Test.YtlcaanodbhigkaaControl
namespace Go.Proofs.Ytlcaanodbhigkaa
open Go Go.ChangeShapes Go.WideShapes Go.ChangeAt Go.RowKit Go.Deep
attribute [local go_sem] calm calmAt calmUpon After.cell After.frozen
set_option maxHeartbeats 1000000 in
set_option maxRecDepth 100000 in
theorem settles_yes (l t s k d : Int) (A : Option Addr) (n c : Nat) (zs : List Int) (m : Int) (w : World) (hR : rightB l t d = true) (hz : Reads w w.heap.size 1 A n (zs.map (Value.int .i64))) (hn : n ≤ 100) :
    Gives 4 #[.agg #[.int .i64 l, .int .i64 t, .int .i64 s, .int .i64 k, .int .i64 d], .slice A n c, .int .i64 m] w (.bool true) := by
  obtain ⟨hl, hl', ht, htl, hd, hd'⟩ := right_iff.1 hR
  have r2 : ∀ w, Gives 10 #[.agg #[.int .i64 l, .int .i64 t, .int .i64 s, .int .i64 k, .int .i64 d]] w (.bool true) := fun w => hR ▸ rright_any l t s k d w
  clear hR
  have R2 := Lib.hid r2
  clear r2
  have HZ := Lib.hid hz
  have hlen := hz.ints
  clear hz
  have hrun := run_bd l t d zs ht htl hd
  refine gives ?_
  go_enter Try.func4, Try.ntmps4
  go_wp2_with (first | (go_at_call 9; (with_reducible refine Gives.use (awake26 _) ?_); intro w1 hb1; have hB1 := below_call (B := w.heap.size) (w := w) (by go_grown) hb1 (by go_size); obtain ⟨hc1, hf1⟩ := bcell hb1; have hz1 := hb1.size; have z1_0 : w.heap.size < w1.heap.size := (by first | omega | (have h := hz1; simp at h; omega))) | (go_at_call 10; (with_reducible refine Gives.use ((R2.out _)) ?_); intro w2 hb2; have hB2 := below_call (B := w.heap.size) (w := w) (by go_grown) hb2 (by go_size); obtain ⟨hc2, hf2⟩ := bcell hb2; have hz2 := hb2.size; have z2_0 : w.heap.size < w2.heap.size := (by first | omega | (have h := hz2; simp at h; omega))))
  have HK := Lib.hid (HZ.out.below hB2)
  (refine wp_region_calm [0, 1, 2, 3, 4, 5] [6, 7] (by kernel_rfl) (by kernel_rfl) (by kernel_rfl) (by kernel_rfl) ?_; simp only [pick, List.getElem?_cons_zero, List.getElem?_cons_succ]; (repeat (refine wpCalm_step (fun K hK => ?_); go_simp; (try go_ints); first | (refine hK _ ?_; clear hK K) | (apply Exists.intro; refine ⟨fun _ => ?_, hK _ ?_⟩; (· first | (go_at_call 13; refine Gives.calm (run_any _ _ _ _ _ _ _ _ zs _ (by omega) hl' ht htl hd hd' ?_ (by omega)); exact HK.out.after hB2.size _) | (go_at_call 12; with_reducible (exact Gives.calm (next_any _ _ _ _ _ _ _ _ _ (by omega) hl' hd' ht htl (by omega) (by omega))))); clear hK K))); refine wpCalm_nil ?_)
  refine wpTail_fresh rfl rfl (fun x => by go_simp; rfl) ?_
  intro S hS
  simp only [Act.put, List.setIfInBounds_toArray, List.set_cons_succ, List.set_cons_zero]
  refine wpTail_list rfl ?_
  rintro w3 hb3 ⟨_, hF⟩
  have hB3 := below_call (B := w.heap.size) (w := w) (by go_grown) hb3 (by go_size); obtain ⟨hc3, hf3⟩ := bcell hb3; have hz3 := hb3.size; have z3_0 : w.heap.size < w3.heap.size := (by first | omega | (have h := hz3; simp at h; omega))
  have H3 : HInv w S l t s k d 0 0 w3 := ⟨hB3, (((Blk.new w _ _).below hb1 (by go_size)).below hb2 (by omega)).below hb3 (by omega), hF, by omega⟩
  have ks := H3.2.2.1.cell
  have fs := H3.2.2.1.frozen
  have H3' := Lib.hid H3
  clear H3 hF
  go_wp2_with fail
  refine rebase_calls (HInv w S l t s k d (step l t d (run l t d zs) m).1 (step l t d (run l t d zs) m).2) H3'.out.set_ ?_
  clear H3' ks fs hc1 hc2 hc3 hf1 hf2 hf3
  intro w4 H4
  have ho : OnWay (want l t m) l d 0 (step l t d (run l t d zs) m).1 (step l t d (run l t d zs) m).2 := by
    have h1 := step_law l t d (run l t d zs) m (by omega) ht htl hrun
    have h2 := want_bd l t m ht htl
    have h3 : want l t m ≤ (step l t d (run l t d zs) m).1 := by unfold want; omega
    exact onWay_start _ _ _ _ _ ⟨h2.1, h3, h1.2.2.1, h1.2.2.2.2.1, h1.2.2.2.2.2⟩ hl'
  generalize (step l t d (run l t d zs) m).1 = T at *
  generalize (step l t d (run l t d zs) m).2 = q at *
  have HO := Lib.hid ho
  clear ho
  refine Gives.use (want_any _ _ _ _ _ _ _ (by omega) hl') ?_
  intro w5 hb5
  have H5 := Lib.hid (H4.later hb5)
  clear H4 hb5
  have hwb := want_bd l t m ht htl
  obtain ⟨WT, hWT⟩ : ∃ WT, WT = want l t m := ⟨_, rfl⟩
  rw [← hWT] at hwb ⊢
  have HWT := Lib.hid hWT
  clear hWT
  go_wp2
  clear hb1 hb2 hb3 hB1 hB2 hB3 HK R2 HZ
  go_loopw [9] (fun i wr => ∃ (j : Nat) (T q : Int), j ≤ 374 ∧ i = .int .i64 j ∧ OnWay (want l t m) l d j T q ∧ HInv w S l t s k d T q wr) (fun i _ => 374 - (intOf i).toNat)
  case atStart => exact ⟨0, T, q, by omega, rfl, HO.out, H5.out⟩
  case round =>
    clear HO H5 T q
    obtain ⟨j, T, q, hj, rfl, ho, H⟩ := hrel
    have hos := onWay_step l t d m j T q ht htl hd' ho
    have hw2 := ho.1
    have hw3 := ho.2.1
    have hw4 := ho.2.2.1
    have hw5 := ho.2.2.2.1
    have hw6 := ho.2.2.2.2.1
    rw [← HWT.out] at hw2 hw3
    have hBr := H.1
    have kc := H.2.1.cell
    have ks := H.2.2.1.cell
    have fs := H.2.2.1.frozen
    have lc := H.2.1.lt
    have ls := H.2.2.1.lt
    have hne := H.2.2.2
    have HH := Lib.hid H
    have HO := Lib.hid ho
    obtain ⟨ho1, ho2, ho3⟩ := hos
    have HO1 := Lib.hid ho1
    clear H ho ho1
    rw [← HWT.out] at ho3
    by_cases hlt : j < 374
    · go_wp2_with (go_at_call 12; (with_reducible refine Gives.use (next_any _ _ _ _ _ _ _ _ _ (by omega) hl' hd' ht htl (by omega) (by omega)) ?_); intro w6 hb6; generalize hT : nextT l t d T q m = T1 at *; generalize hq : nextQ l t d T q m = q1 at *; have HT := Lib.hid hT; have Hq := Lib.hid hq; clear hT hq; have H6 := Lib.hid (HH.out.later hb6); have kc6 := H6.out.2.1.cell; have ks6 := H6.out.2.2.1.cell; have fs6 := H6.out.2.2.1.frozen; have lc6 := H6.out.2.1.lt; have ls6 := H6.out.2.2.1.lt; clear kc ks fs lc ls)
      refine ⟨⟨j + 1, T1, q1, by omega, by go_num, ?_, (HInv.set_ H6.out).later ((Below.refl _ _).alloc (Nat.le_refl _) _)⟩, by simp [intOf]; omega⟩
      exact HO1.out
    · obtain rfl : j = 374 := by omega
      have hse := onWay_end _ _ _ _ _ hd' HO.out
      rw [← HWT.out] at hse
      clear hlt
      rcases hse with ⟨hs1, hs2⟩ | ⟨hs1, hs2⟩
      · subst hs2
        have hs3 : WT = 0 := hs1
        subst hs3
        go_wp2
        go_returns
        exact ⟨rfl, hBr⟩
      · have hs4 : (WT == 0) = false := by simp; omega
        have hse := next_settled l t d T q m (by rw [← HWT.out]; exact hw3) (by rw [← HWT.out]; exact hs2)
        obtain ⟨hx1, hx2⟩ := hse
        go_wp2
        (refine wp_region_calm [0, 1, 2, 3, 4, 5, 6, 7, 8, 9, 10, 11, 12, 13, 14, 15] [] (by kernel_rfl) (by kernel_rfl) (by kernel_rfl) (by kernel_rfl) ?_; simp only [pick, List.getElem?_cons_zero, List.getElem?_cons_succ]; (repeat (refine wpCalm_step (fun K hK => ?_); go_simp; (try go_ints); first | (refine hK _ ?_; clear hK K) | (apply Exists.intro; refine ⟨fun _ => ?_, hK _ ?_⟩; (· (go_at_call 12; with_reducible (exact Gives.calm (next_any _ _ _ _ _ _ _ _ _ (by omega) hl' hd' ht htl (by omega) (by omega))))); clear hK K))); refine wpCalm_nil ?_)
        refine wpTail_end ?_
        intro w6 hb6 _
        have hB6 := hBr.trans (hb6.mono hBr.size)
        go_wp2
        go_returns
        exact ⟨rfl, hB6⟩
set_option maxHeartbeats 1000000 in
set_option maxRecDepth 100000 in
theorem settles_no (l t s k d : Int) (A : Option Addr) (n c : Nat) (m : Int) (w : World) (hR : rightB l t d = false) :
    Gives 4 #[.agg #[.int .i64 l, .int .i64 t, .int .i64 s, .int .i64 k, .int .i64 d], .slice A n c, .int .i64 m] w (.bool true) := by
  have r2 : ∀ w, Gives 10 #[.agg #[.int .i64 l, .int .i64 t, .int .i64 s, .int .i64 k, .int .i64 d]] w (.bool false) := fun w => hR ▸ rright_any l t s k d w
  clear hR
  have R2 := Lib.hid r2
  clear r2
  refine gives ?_
  go_enter Try.func4, Try.ntmps4
  go_wp2_with (first | (go_at_call 9; (with_reducible refine Gives.use (awake26 _) ?_); intro w1 hb1; have hB1 := below_call (B := w.heap.size) (w := w) (by go_grown) hb1 (by go_size); obtain ⟨hc1, hf1⟩ := bcell hb1; have hz1 := hb1.size; have z1_0 : w.heap.size < w1.heap.size := (by first | omega | (have h := hz1; simp at h; omega))) | (go_at_call 10; (with_reducible refine Gives.use ((R2.out _)) ?_); intro w2 hb2; have hB2 := below_call (B := w.heap.size) (w := w) (by go_grown) hb2 (by go_size); obtain ⟨hc2, hf2⟩ := bcell hb2; have hz2 := hb2.size; have z2_0 : w.heap.size < w2.heap.size := (by first | omega | (have h := hz2; simp at h; omega))))
  go_returns
  exact ⟨rfl, hB2⟩
set_option maxHeartbeats 1000000 in
set_option maxRecDepth 100000 in
theorem settles_long (l t s k d : Int) (A : Option Addr) (n c : Nat) (m : Int) (w : World) (hR : rightB l t d = true) (hn : 100 < n) (hm : n ≤ maxLen) :
    Gives 4 #[.agg #[.int .i64 l, .int .i64 t, .int .i64 s, .int .i64 k, .int .i64 d], .slice A n c, .int .i64 m] w (.bool true) := by
  unfold maxLen at hm
  have r2 : ∀ w, Gives 10 #[.agg #[.int .i64 l, .int .i64 t, .int .i64 s, .int .i64 k, .int .i64 d]] w (.bool true) := fun w => hR ▸ rright_any l t s k d w
  clear hR
  have R2 := Lib.hid r2
  clear r2
  refine gives ?_
  go_enter Try.func4, Try.ntmps4
  go_wp2_with (first | (go_at_call 9; (with_reducible refine Gives.use (awake26 _) ?_); intro w1 hb1; have hB1 := below_call (B := w.heap.size) (w := w) (by go_grown) hb1 (by go_size); obtain ⟨hc1, hf1⟩ := bcell hb1; have hz1 := hb1.size; have z1_0 : w.heap.size < w1.heap.size := (by first | omega | (have h := hz1; simp at h; omega))) | (go_at_call 10; (with_reducible refine Gives.use ((R2.out _)) ?_); intro w2 hb2; have hB2 := below_call (B := w.heap.size) (w := w) (by go_grown) hb2 (by go_size); obtain ⟨hc2, hf2⟩ := bcell hb2; have hz2 := hb2.size; have z2_0 : w.heap.size < w2.heap.size := (by first | omega | (have h := hz2; simp at h; omega))))
  go_returns
  exact ⟨rfl, hB2⟩
theorem settles_any (l t s k d : Int) (A : Option Addr) (n c : Nat) (zs : List Int) (m : Int) (w : World) (hz : Reads w w.heap.size 1 A n (zs.map (Value.int .i64))) (hm : n ≤ maxLen) :
    Gives 4 #[.agg #[.int .i64 l, .int .i64 t, .int .i64 s, .int .i64 k, .int .i64 d], .slice A n c, .int .i64 m] w (.bool true) := by
  cases h : rightB l t d with
  | true => exact (Nat.lt_or_ge 100 n).elim (fun hn => settles_long l t s k d A n c m w h hn hm) (fun hn => settles_yes l t s k d A n c zs m w h hz hn)
  | false => exact settles_no l t s k d A n c m w h
set_option maxRecDepth 100000 in
theorem settles_lifted (os : Os) (started : os.Started) (H : Type) (enc : TypeId × Value → H) :
    ReturnsInHanded {} Try.checked os 4 .any (Rows.controlSettlesSpec.pre6 enc Try.prog Try.f4 Rows.controlSettlesRow.domain false) (Rows.controlSettlesSpec.post enc Try.prog Try.f4 false true false false) := by
  refine returnsInHanded_of_change (C := Try.checked) Try.own started (by kernel_rfl) Try.func4
    (ChangeSpec.witness6 (enc := enc) (C := Try.checked) false ⟨#[], #[.agg #[.int .i64 0, .int .i64 0, .int .i64 0, .int .i64 0, .int .i64 0], .slice none 0 0, .int .i64 0], []⟩ 8 (by kernel_rfl) (by kernel_rfl) (by kernel_rfl) (by kernel_rfl)) ?_
  intro W base args ds gs before hval0 hW hcnd hsized
  have hval : ∀ (j : Nat) t v, Try.f4.params[j]? = some t → args[j]? = some v → Value.okWide Try.prog W .any base t v := hval0
  have hW' := hW
  obtain ⟨p, q, hA0, hV, rfl, hfz, hnd⟩ := hW
  have hA : DataW.TrodAll enc Try.prog W 0 (fun _ => true) true Try.f4.params.toList args.toList ds p := hA0
  rw [Try.params4] at hA hval
  obtain ⟨v0, v1, v2, d0, d1, d2, p0, p1, p2, rfl, rfl, rfl, h0, h1, h2⟩ := trodAll_three hA
  obtain ⟨l0_, rfl, hl0_, hg0_⟩ := open_struct Try.underlying23 (by kernel_rfl) (by kernel_rfl) (hval 0 _ v0 rfl rfl) h0
  obtain ⟨c0_0, c0_1, c0_2, c0_3, c0_4, rfl⟩ := list5 hl0_
  obtain ⟨l, rfl, wl⟩ := field_int Try.underlying3 (hg0_ 0 _ _ rfl rfl)
  obtain ⟨t, rfl, wt⟩ := field_int Try.underlying3 (hg0_ 1 _ _ rfl rfl)
  obtain ⟨s, rfl, ws⟩ := field_int Try.underlying3 (hg0_ 2 _ _ rfl rfl)
  obtain ⟨k, rfl, wk⟩ := field_int Try.underlying3 (hg0_ 3 _ _ rfl rfl)
  obtain ⟨d, rfl, wd⟩ := field_int Try.underlying3 (hg0_ 4 _ _ rfl rfl)
  obtain ⟨A, n, c, zs, rfl, hnn, hcn, hrn, hwn⟩ := open_reads Try.underlying24 Try.underlying3 (by kernel_rfl) (hval 1 _ v1 rfl rfl) h1
  obtain ⟨m, rfl, rfl, rfl, wm⟩ := open_int Try.underlying3 (hval 2 _ v2 rfl rfl) h2
  refine Gives.use (settles_any l t s k d A n c zs m W hrn (Nat.le_trans hnn hcn)) fun W' hb => ?_
  exact ⟨_, rfl, law_post Try.laidOut (by kernel_rfl) (by kernel_rfl) Try.underlying4 rfl hW' ⟨rfl, rfl, rfl⟩ hb⟩
theorem settles_holds : Rows.ControlSettlesSaid :=
  OpenClaim.holds_of_wide 4 Try.f4 rfl rfl rfl rfl rfl rfl rfl ⟨rfl, rfl, rfl, rfl, rfl⟩ rfl rfl rfl rfl rfl (by kernel_rfl) Try.func4 (by kernel_rfl)
    (of_decide_eq_true (by kernel_rfl)) (by unfold Func.isWrapper; first | (rw [if_pos (by decide +kernel)]; kernel_rfl) | (rw [if_neg (by decide +kernel)]; exact ⟨rfl, rfl⟩))
    (fun os started H enc _ => settles_lifted os started H enc)
end Go.Proofs.Ytlcaanodbhigkaa
