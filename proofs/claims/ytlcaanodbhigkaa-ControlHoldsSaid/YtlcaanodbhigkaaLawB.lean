/-
  The statements of layer 26 (control), proved: ControlHolds.
-/
import Derived.Test.YtlcaanodbhigkaaLaw
import Derived.Test.YtlcaanodbhigkaaControl
namespace Go.Proofs.Ytlcaanodbhigkaa
open Go Go.ChangeShapes Go.WideShapes Go.ChangeAt Go.RowKit Go.Deep
attribute [local go_sem] calm calmAt calmUpon After.cell After.frozen
set_option maxHeartbeats 1000000 in
theorem holds_yes (l t s k d : Int) (A : Option Addr) (n c : Nat) (zs : List Int) (w : World) (hR : rightB l t d = true) (hz : Reads w w.heap.size 1 A n (zs.map (Value.int .i64))) (hn : n ≤ 100) :
    Gives 3 #[.agg #[.int .i64 l, .int .i64 t, .int .i64 s, .int .i64 k, .int .i64 d], .slice A n c] w (.bool true) := by
  have HZ := Lib.hid hz
  have hlen := hz.ints
  clear hz
  obtain ⟨hl, hl', ht, htl, hd, hd'⟩ := right_iff.1 hR
  have r2 : ∀ w, Gives 10 #[.agg #[.int .i64 l, .int .i64 t, .int .i64 s, .int .i64 k, .int .i64 d]] w (.bool true) := fun w => hR ▸ rright_any l t s k d w
  clear hR
  have R2 := Lib.hid r2
  clear r2
  have hmx := imax
  have hmn := imin
  refine gives ?_
  go_enter Try.func3, Try.ntmps3
  go_wp2_with (first | (go_at_call 9; (with_reducible refine Gives.use (awake26 _) ?_); intro w1 hb1; have hB1 := below_call (B := w.heap.size) (w := w) (by go_grown) hb1 (by go_size); obtain ⟨hc1, hf1⟩ := bcell hb1; have hz1 := hb1.size; have z1_0 : w.heap.size < w1.heap.size := (by first | omega | (have h := hz1; simp at h; omega))) | (go_at_call 10; (with_reducible refine Gives.use ((R2.out _)) ?_); intro w2 hb2; have hB2 := below_call (B := w.heap.size) (w := w) (by go_grown) hb2 (by go_size); obtain ⟨hc2, hf2⟩ := bcell hb2; have hz2 := hb2.size; have z2_0 : w.heap.size < w2.heap.size := (by first | omega | (have h := hz2; simp at h; omega))) | (go_at_call 11; (with_reducible refine Gives.use (begin_any _ _ _ _ _ _) ?_); intro w3 hb3; have hB3 := below_call (B := w.heap.size) (w := w) (by go_grown) hb3 (by go_size); obtain ⟨hc3, hf3⟩ := bcell hb3; have hz3 := hb3.size; have z3_0 : w.heap.size < w3.heap.size := (by first | omega | (have h := hz3; simp at h; omega))))
  obtain ⟨S, hS⟩ : ∃ S, S = w3.heap.size := ⟨_, rfl⟩
  have H0 : HInv w S l t s k d (run l t d (zs.take 0)).1 (run l t d (zs.take 0)).2 (w3.alloc (.cells #[.int .i64 t, .int .i64 0] 28)) := by
    subst hS
    exact ⟨hB3.alloc (by omega) _, (((((Blk.new w _ _).below hb1 (by go_size)).below hb2 (by omega)).below hb3 (by omega)).alloc _), Blk.new _ _ _, by omega⟩
  rw [← hS]
  clear hS hc1 hc2 hc3 hf1 hf2 hf3
  have H0' := Lib.hid H0
  clear H0
  go_loopw [6] (fun i wr => ∃ j : Nat, j ≤ n ∧ i = .int .i64 j ∧ HInv w S l t s k d (run l t d (zs.take j)).1 (run l t d (zs.take j)).2 wr) (fun i _ => n - (intOf i).toNat)
  case atStart => exact ⟨0, Nat.zero_le _, rfl, H0'.out⟩
  case round =>
    clear H0' hB1 hB2 hB3 hb1 hb2 hb3
    obtain ⟨j, hj, rfl, H⟩ := hrel
    obtain ⟨hBr, Kc, Ks, hne⟩ := H
    have H : HInv w S l t s k d (run l t d (zs.take j)).1 (run l t d (zs.take j)).2 wr := ⟨hBr, Kc, Ks, hne⟩
    have H1 := Lib.hid H
    clear H
    have hzr := hBr.size
    have kc := Kc.cell
    have ks := Ks.cell
    have fs := Ks.frozen
    have lc := Kc.lt
    have ls := Ks.lt
    have hbd := run_bd l t d (zs.take j) ht htl hd
    by_cases hlt : j < n
    · obtain ⟨b, o, u, rfl, hb, hx, hc⟩ := (HZ.out.below hBr).at_ hlt
      have hjz : j < zs.length := by omega
      rw [List.getElem?_map, List.getElem?_eq_getElem hjz] at hx
      obtain rfl : Value.int .i64 zs[j] = u := by simpa using hx
      clear hx
      have hbr : b < wr.heap.size := by omega
      have hc5 : ∀ w5, Below w.heap.size w w5 → b < w5.heap.size ∧ w5.cell? ⟨b, o + j, none⟩ = some (.int .i64 zs[j]) := fun w5 h5 => by
        obtain ⟨b', o', u', e1, hb1, hx1, hc1⟩ := (HZ.out.below h5).at_ hlt
        injection e1 with e1
        injection e1 with e2 e3
        subst e2 e3
        rw [List.getElem?_map, List.getElem?_eq_getElem hjz] at hx1
        obtain rfl : Value.int .i64 zs[j] = u' := by simpa using hx1
        exact ⟨by have := h5.size; omega, hc1⟩
      have HC5 := Lib.hid hc5
      clear hc5
      go_wp2
      (refine wp_region_calm [0, 1, 2, 3, 4, 5, 6] [7] (by kernel_rfl) (by kernel_rfl) (by kernel_rfl) (by kernel_rfl) ?_; simp only [pick, List.getElem?_cons_zero, List.getElem?_cons_succ]; (repeat (refine wpCalm_step (fun K hK => ?_); go_simp; (try go_ints); first | (refine hK _ ?_; clear hK K) | (apply Exists.intro; refine ⟨fun _ => ?_, hK _ ?_⟩; (· (go_at_call 12; with_reducible (exact Gives.calm (next_any _ _ _ _ _ _ _ _ _ (by omega) hl' hd' ht htl (by omega) (by omega))))); clear hK K))); refine wpCalm_nil ?_)
      refine wpTail_list rfl ?_
      intro w4 hb4 _
      have H4 := H1.out.later hb4
      have ks4 := H4.2.2.1.cell
      have fs4 := H4.2.2.1.frozen
      have H4' := Lib.hid H4
      clear H4
      go_wp2
      refine rebase (HInv w S l t s k d (step l t d (run l t d (zs.take j)) zs[j]).1 (step l t d (run l t d (zs.take j)) zs[j]).2) H4'.out.set_ ?_
      clear ks4 fs4 H4' hb4 hc hb hbr
      intro w5 H5
      have hsl := step_law l t d (run l t d (zs.take j)) zs[j] (by omega) ht htl hbd
      rw [← run_snoc, ← take_snoc zs j hjz] at hsl H5
      have hy := HC5.out w5 H5.1
      obtain ⟨hb, hc⟩ := hy
      clear HC5 kc ks fs lc ls
      have kc := H5.2.1.cell
      have ks := H5.2.2.1.cell
      have lc := H5.2.1.lt
      have ls := H5.2.2.1.lt
      have H5' := Lib.hid H5
      clear H5
      generalize hT : (run l t d (zs.take (j + 1))).1 = T' at *
      generalize hq : (run l t d (zs.take (j + 1))).2 = q' at *
      have HT := Lib.hid hT
      have Hq := Lib.hid hq
      clear hT hq
      obtain ⟨s1, s2, s3, s4, s5, s6⟩ := hsl
      (refine wp_region_calm [0, 1, 2, 3, 4, 5, 6, 7, 8] [] (by kernel_rfl) (by kernel_rfl) (by kernel_rfl) (by kernel_rfl) ?_; simp only [pick, List.getElem?_cons_zero, List.getElem?_cons_succ]; (repeat (refine wpCalm_step (fun K hK => ?_); go_simp; (try go_ints); first | (refine hK _ ?_; clear hK K) | (apply Exists.intro; refine ⟨fun _ => ?_, hK _ ?_⟩; (· fail); clear hK K))); refine wpCalm_nil ?_)
      refine wpTail_end ?_
      intro w6 hb6 _
      have H6 := Lib.hid (H5'.out.later hb6)
      have kc6 := H6.out.2.1.cell
      have ks6 := H6.out.2.2.1.cell
      clear kc ks
      go_wp2
      refine ⟨⟨j + 1, by omega, by go_num, ?_⟩, by simp [intOf]; omega⟩
      rw [HT.out, Hq.out]
      exact H6.out
    · obtain rfl : n = j := by omega
      have e1 : zs.take n = zs := List.take_of_length_le (by omega)
      rw [e1] at ks
      clear e1 hbd H1
      have HK := HZ.out.below hBr
      have HK' := Lib.hid HK
      clear HK
      go_wp2
      (refine wp_region_calm [0, 1, 2, 3, 4, 5] [] (by kernel_rfl) (by kernel_rfl) (by kernel_rfl) (by kernel_rfl) ?_; simp only [pick, List.getElem?_cons_zero, List.getElem?_cons_succ]; (repeat (refine wpCalm_step (fun K hK => ?_); go_simp; (try go_ints); first | (refine hK _ ?_; clear hK K) | (apply Exists.intro; refine ⟨fun _ => ?_, hK _ ?_⟩; (· go_at_call 13; refine Gives.calm (run_any _ _ _ _ _ _ _ _ zs _ (by omega) hl' ht htl hd hd' ?_ (by omega)); exact HK'.out.after hBr.size _); clear hK K))); refine wpCalm_nil ?_)
      refine wpTail_end ?_
      intro w4 hb4 _
      have hB4 := hBr.trans (hb4.mono hBr.size)
      go_wp2
      go_returns
      exact ⟨rfl, hB4⟩
set_option maxHeartbeats 1000000 in
theorem holds_no (l t s k d : Int) (A : Option Addr) (n c : Nat) (w : World) (hR : rightB l t d = false) :
    Gives 3 #[.agg #[.int .i64 l, .int .i64 t, .int .i64 s, .int .i64 k, .int .i64 d], .slice A n c] w (.bool true) := by
  have r2 : ∀ w, Gives 10 #[.agg #[.int .i64 l, .int .i64 t, .int .i64 s, .int .i64 k, .int .i64 d]] w (.bool false) := fun w => hR ▸ rright_any l t s k d w
  clear hR
  have R2 := Lib.hid r2
  clear r2
  refine gives ?_
  go_enter Try.func3, Try.ntmps3
  go_wp2_with (first | (go_at_call 9; (with_reducible refine Gives.use (awake26 _) ?_); intro w1 hb1; have hB1 := below_call (B := w.heap.size) (w := w) (by go_grown) hb1 (by go_size); obtain ⟨hc1, hf1⟩ := bcell hb1; have hz1 := hb1.size; have z1_0 : w.heap.size < w1.heap.size := (by first | omega | (have h := hz1; simp at h; omega))) | (go_at_call 10; (with_reducible refine Gives.use ((R2.out _)) ?_); intro w2 hb2; have hB2 := below_call (B := w.heap.size) (w := w) (by go_grown) hb2 (by go_size); obtain ⟨hc2, hf2⟩ := bcell hb2; have hz2 := hb2.size; have z2_0 : w.heap.size < w2.heap.size := (by first | omega | (have h := hz2; simp at h; omega))))
  go_returns
  exact ⟨rfl, hB2⟩
set_option maxHeartbeats 1000000 in
theorem holds_long (l t s k d : Int) (A : Option Addr) (n c : Nat) (w : World) (hR : rightB l t d = true) (hn : 100 < n) (hm : n ≤ maxLen) :
    Gives 3 #[.agg #[.int .i64 l, .int .i64 t, .int .i64 s, .int .i64 k, .int .i64 d], .slice A n c] w (.bool true) := by
  unfold maxLen at hm
  have r2 : ∀ w, Gives 10 #[.agg #[.int .i64 l, .int .i64 t, .int .i64 s, .int .i64 k, .int .i64 d]] w (.bool true) := fun w => hR ▸ rright_any l t s k d w
  clear hR
  have R2 := Lib.hid r2
  clear r2
  refine gives ?_
  go_enter Try.func3, Try.ntmps3
  go_wp2_with (first | (go_at_call 9; (with_reducible refine Gives.use (awake26 _) ?_); intro w1 hb1; have hB1 := below_call (B := w.heap.size) (w := w) (by go_grown) hb1 (by go_size); obtain ⟨hc1, hf1⟩ := bcell hb1; have hz1 := hb1.size; have z1_0 : w.heap.size < w1.heap.size := (by first | omega | (have h := hz1; simp at h; omega))) | (go_at_call 10; (with_reducible refine Gives.use ((R2.out _)) ?_); intro w2 hb2; have hB2 := below_call (B := w.heap.size) (w := w) (by go_grown) hb2 (by go_size); obtain ⟨hc2, hf2⟩ := bcell hb2; have hz2 := hb2.size; have z2_0 : w.heap.size < w2.heap.size := (by first | omega | (have h := hz2; simp at h; omega))))
  go_returns
  exact ⟨rfl, hB2⟩
theorem holds_any (l t s k d : Int) (A : Option Addr) (n c : Nat) (zs : List Int) (w : World) (hz : Reads w w.heap.size 1 A n (zs.map (Value.int .i64))) (hm : n ≤ maxLen) :
    Gives 3 #[.agg #[.int .i64 l, .int .i64 t, .int .i64 s, .int .i64 k, .int .i64 d], .slice A n c] w (.bool true) := by
  cases h : rightB l t d with
  | true => exact (Nat.lt_or_ge 100 n).elim (fun hn => holds_long l t s k d A n c w h hn hm) (fun hn => holds_yes l t s k d A n c zs w h hz hn)
  | false => exact holds_no l t s k d A n c w h
set_option maxRecDepth 100000 in
theorem holds_lifted (os : Os) (started : os.Started) (H : Type) (enc : TypeId × Value → H) :
    ReturnsInHanded {} Try.checked os 3 .any (Rows.controlHoldsSpec.pre6 enc Try.prog Try.f3 Rows.controlHoldsRow.domain false) (Rows.controlHoldsSpec.post enc Try.prog Try.f3 false true false false) := by
  refine returnsInHanded_of_change (C := Try.checked) Try.own started (by kernel_rfl) Try.func3
    (ChangeSpec.witness6 (enc := enc) (C := Try.checked) false ⟨#[], #[.agg #[.int .i64 0, .int .i64 0, .int .i64 0, .int .i64 0, .int .i64 0], .slice none 0 0], []⟩ 8 (by kernel_rfl) (by kernel_rfl) (by kernel_rfl) (by kernel_rfl)) ?_
  intro W base args ds gs before hval0 hW hcnd hsized
  have hval : ∀ (j : Nat) t v, Try.f3.params[j]? = some t → args[j]? = some v → Value.okWide Try.prog W .any base t v := hval0
  have hW' := hW
  obtain ⟨p, q, hA0, hV, rfl, hfz, hnd⟩ := hW
  have hA : DataW.TrodAll enc Try.prog W 0 (fun _ => true) true Try.f3.params.toList args.toList ds p := hA0
  rw [Try.params3] at hA hval
  obtain ⟨v0, v1, d0, d1, p0, p1, rfl, rfl, rfl, h0, h1⟩ := trodAll_two hA
  obtain ⟨l0_, rfl, hl0_, hg0_⟩ := open_struct Try.underlying23 (by kernel_rfl) (by kernel_rfl) (hval 0 _ v0 rfl rfl) h0
  obtain ⟨c0_0, c0_1, c0_2, c0_3, c0_4, rfl⟩ := list5 hl0_
  obtain ⟨l, rfl, wl⟩ := field_int Try.underlying3 (hg0_ 0 _ _ rfl rfl)
  obtain ⟨t, rfl, wt⟩ := field_int Try.underlying3 (hg0_ 1 _ _ rfl rfl)
  obtain ⟨s, rfl, ws⟩ := field_int Try.underlying3 (hg0_ 2 _ _ rfl rfl)
  obtain ⟨k, rfl, wk⟩ := field_int Try.underlying3 (hg0_ 3 _ _ rfl rfl)
  obtain ⟨d, rfl, wd⟩ := field_int Try.underlying3 (hg0_ 4 _ _ rfl rfl)
  obtain ⟨A, n, c, zs, rfl, hnn, hcn, hrn, hwn⟩ := open_reads Try.underlying24 Try.underlying3 (by kernel_rfl) (hval 1 _ v1 rfl rfl) h1
  refine Gives.use (holds_any l t s k d A n c zs W hrn (Nat.le_trans hnn hcn)) fun W' hb => ?_
  exact ⟨_, rfl, law_post Try.laidOut (by kernel_rfl) (by kernel_rfl) Try.underlying4 rfl hW' ⟨rfl, rfl, rfl⟩ hb⟩
theorem holds_holds : Rows.ControlHoldsSaid :=
  OpenClaim.holds_of_wide 3 Try.f3 rfl rfl rfl rfl rfl rfl rfl ⟨rfl, rfl, rfl, rfl, rfl⟩ rfl rfl rfl rfl rfl (by kernel_rfl) Try.func3 (by kernel_rfl)
    (of_decide_eq_true (by kernel_rfl)) (by unfold Func.isWrapper; first | (rw [if_pos (by decide +kernel)]; kernel_rfl) | (rw [if_neg (by decide +kernel)]; exact ⟨rfl, rfl⟩))
    (fun os started H enc _ => holds_lifted os started H enc)
end Go.Proofs.Ytlcaanodbhigkaa
