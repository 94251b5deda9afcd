/-
  The statements of layer 28 (gate), proved: GatePays.
-/
import Derived.Test.YtlcaanodbhigkaaLaw
import Derived.Test.YtlcaanodbhigkaaGateL
import Derived.Test.YtlcaanodbhigkaaGateR
namespace Go.Proofs.Ytlcaanodbhigkaa
open Go Go.ChangeShapes Go.WideShapes Go.ChangeAt Go.RowKit Go.Deep
attribute [local go_sem] calm calmAt calmUpon After.cell After.frozen
/-- The settings' block, the gate's block. -/
def GInv (w : World) (G : Nat) (l t s k d T q b : Int) (wr : World) : Prop :=
  Below w.heap.size w wr ∧ Blk wr w.heap.size 23 #[.int .i64 l, .int .i64 t, .int .i64 s, .int .i64 k, .int .i64 d] ∧
    Blk wr G 40 #[.int .i64 l, .int .i64 t, .int .i64 s, .int .i64 k, .int .i64 d, .int .i64 T, .int .i64 q, .int .i64 b] ∧ w.heap.size < G
theorem GInv.later {w : World} {G : Nat} {l t s k d T q b : Int} {wr w' : World} (h : GInv w G l t s k d T q b wr) (hb : Below wr.heap.size wr w') : GInv w G l t s k d T q b w' :=
  ⟨h.1.trans (hb.mono h.1.size), h.2.1.below hb h.2.1.lt, h.2.2.1.below hb h.2.2.1.lt, h.2.2.2⟩
theorem GInv.set_ {w : World} {G : Nat} {l t s k d T q b T' q' b' : Int} {wr : World} (h : GInv w G l t s k d T q b wr) : GInv w G l t s k d T' q' b' ((((((((wr.setCell ⟨G, 0, none⟩ (.int .i64 l)).setCell ⟨G, 1, none⟩ (.int .i64 t)).setCell ⟨G, 2, none⟩ (.int .i64 s)).setCell ⟨G, 3, none⟩ (.int .i64 k)).setCell ⟨G, 4, none⟩ (.int .i64 d)).setCell ⟨G, 5, none⟩ (.int .i64 T')).setCell ⟨G, 6, none⟩ (.int .i64 q')).setCell ⟨G, 7, none⟩ (.int .i64 b')) := by
  obtain ⟨h1, h2, h3, h4⟩ := h
  refine ⟨?_, ?_, Blk.as ((((((((h3.set_ 0 _).set_ 1 _).set_ 2 _).set_ 3 _).set_ 4 _).set_ 5 _).set_ 6 _).set_ 7 _) (by simp), h4⟩
  · repeat (refine Below.setCell ?_ (Nat.le_of_lt h4) _)
    exact h1
  · repeat (refine Blk.far ?_ (Nat.ne_of_lt h4) _)
    exact h2
theorem and_mask (u : Int) : 0 ≤ bits .and .i64 u 1073741823 ∧ bits .and .i64 u 1073741823 ≤ 1073741823 := by
  show 0 ≤ IntKind.i64.wrap (((BitVec.ofInt 64 u &&& BitVec.ofInt 64 1073741823).toNat : Nat) : Int) ∧ IntKind.i64.wrap (((BitVec.ofInt 64 u &&& BitVec.ofInt 64 1073741823).toNat : Nat) : Int) ≤ 1073741823
  have h : (BitVec.ofInt 64 u &&& BitVec.ofInt 64 1073741823).toNat ≤ 1073741823 := by
    rw [BitVec.toNat_and]
    exact Nat.le_trans Nat.and_le_right (by decide)
  rw [IntKind.wrap_i64]
  omega
/-- A request in a slice that came in. -/
def AskAt (w : World) (B : Nat) (A : Option Addr) (n : Nat) : Prop :=
  0 < n → ∃ b o, A = some ⟨b, o, none⟩ ∧ b < B ∧ ∀ j, j < n → ∃ (u v z : Int) (f : Bool), w.cell? ⟨b, o + j * 4, none⟩ = some (.int .i64 u) ∧ w.cell? ⟨b, o + j * 4 + 1, none⟩ = some (.int .i64 v) ∧
    w.cell? ⟨b, o + j * 4 + 2, none⟩ = some (.int .i64 z) ∧ w.cell? ⟨b, o + j * 4 + 3, none⟩ = some (.bool f)
set_option maxHeartbeats 1000000 in
set_option maxRecDepth 100000 in
theorem pays_yes (l t s k d : Int) (A : Option Addr) (n c : Nat) (w : World) (hR : rightB l t d = true) (hz : AskAt w w.heap.size A n) (hn : n ≤ 60) :
    Gives 8 #[.agg #[.int .i64 l, .int .i64 t, .int .i64 s, .int .i64 k, .int .i64 d], .slice A n c] w (.bool true) := by
  have HZ := Lib.hid hz
  clear hz
  obtain ⟨hl, hl', ht, htl, hd, hd'⟩ := right_iff.1 hR
  have r2 : ∀ w, Gives 10 #[.agg #[.int .i64 l, .int .i64 t, .int .i64 s, .int .i64 k, .int .i64 d]] w (.bool true) := fun w => hR ▸ rright_any l t s k d w
  have R2 := Lib.hid r2
  have HR := Lib.hid hR
  clear r2 hR
  have hmn := imin
  refine gives ?_
  go_enter Try.func8, Try.ntmps8
  go_wp2_with (first | (go_at_call 18; (with_reducible refine Gives.use (awake28 _) ?_); intro w1 hb1; have hB1 := below_call (B := w.heap.size) (w := w) (by (repeat' (first | (with_reducible exact Below.refl _ _) | (with_reducible assumption) | (with_reducible refine Below.alloc ?_ ?_ _) | (with_reducible refine Below.setCell ?_ ?_ _) | (with_reducible refine Below.drew ?_) | (with_reducible exact Nat.le_refl _) | omega | (simp; omega) | (simp; done)))) hb1 (by (first | (with_reducible exact Nat.le_refl _) | (with_reducible assumption) | omega | (simp; omega) | (simp; done))); obtain ⟨hc1, hf1⟩ := bcell hb1; have hz1 := hb1.size; have z1_0 : w.heap.size < w1.heap.size := (by first | omega | (have h := hz1; simp at h; omega)); have kc1_0 := fun o => hc1 (w.heap.size) o (by first | assumption | (simp; done) | (simp; omega)); have kf1_0 := fun o => hf1 (w.heap.size) o (by first | assumption | (simp; done) | (simp; omega))) | (go_at_call 10; (with_reducible refine Gives.use ((R2.out _)) ?_); intro w2 hb2; have hB2 := below_call (B := w.heap.size) (w := w) (by (repeat' (first | (with_reducible exact Below.refl _ _) | (with_reducible assumption) | (with_reducible refine Below.alloc ?_ ?_ _) | (with_reducible refine Below.setCell ?_ ?_ _) | (with_reducible refine Below.drew ?_) | (with_reducible exact Nat.le_refl _) | omega | (simp; omega) | (simp; done)))) hb2 (by (first | (with_reducible exact Nat.le_refl _) | (with_reducible assumption) | omega | (simp; omega) | (simp; done))); obtain ⟨hc2, hf2⟩ := bcell hb2; have hz2 := hb2.size; have z2_0 : w.heap.size < w2.heap.size := (by first | omega | (have h := hz2; simp at h; omega)); have kc2_0 := fun o => hc2 (w.heap.size) o (by first | assumption | (simp; done) | (simp; omega)); have kf2_0 := fun o => hf2 (w.heap.size) o (by first | assumption | (simp; done) | (simp; omega))) | (go_at_call 19; (with_reducible refine Gives.use (new_yes _ _ _ _ _ _ HR.out) ?_); intro w3 hb3; have hB3 := below_call (B := w.heap.size) (w := w) (by (repeat' (first | (with_reducible exact Below.refl _ _) | (with_reducible assumption) | (with_reducible refine Below.alloc ?_ ?_ _) | (with_reducible refine Below.setCell ?_ ?_ _) | (with_reducible refine Below.drew ?_) | (with_reducible exact Nat.le_refl _) | omega | (simp; omega) | (simp; done)))) hb3 (by (first | (with_reducible exact Nat.le_refl _) | (with_reducible assumption) | omega | (simp; omega) | (simp; done))); obtain ⟨hc3, hf3⟩ := bcell hb3; have hz3 := hb3.size; have z3_0 : w.heap.size < w3.heap.size := (by first | omega | (have h := hz3; simp at h; omega)); have kc3_0 := fun o => hc3 (w.heap.size) o (by first | assumption | (simp; done) | (simp; omega)); have kf3_0 := fun o => hf3 (w.heap.size) o (by first | assumption | (simp; done) | (simp; omega))))
  have H0 : GInv w w3.heap.size l t s k d t 0 0 (w3.alloc (.cells #[.int .i64 l, .int .i64 t, .int .i64 s, .int .i64 k, .int .i64 d, .int .i64 t, .int .i64 0, .int .i64 0] 40)) :=
    ⟨hB3.alloc (by omega) _, (((((Blk.new w _ _).below hb1 (by (first | (with_reducible exact Nat.le_refl _) | (with_reducible assumption) | omega | (simp; omega) | (simp; done)))).below hb2 (by omega)).below hb3 (by omega)).alloc _), Blk.new _ _ _, by omega⟩
  obtain ⟨G, hG⟩ : ∃ G, G = w3.heap.size := ⟨_, rfl⟩
  rw [← hG] at H0 ⊢
  have H0' := Lib.hid H0
  clear hG H0 hc1 hc2 hc3 hf1 hf2 hf3 kc1_0 kc2_0 kc3_0 kf1_0 kf2_0 kf3_0
  go_loopw [7] (fun i wr => ∃ (j : Nat) (T q b : Int), j ≤ n ∧ i = .int .i64 j ∧ GS.ok l d ⟨T, q, b⟩ ∧ b ≤ T ∧ GInv w G l t s k d T q b wr) (fun i _ => n - (intOf i).toNat)
  case atStart => exact ⟨0, t, 0, 0, Nat.zero_le _, rfl, ⟨ht, htl, Int.le_refl _, hd, Int.le_refl _, by show 0 ≤ l; omega⟩, ht, H0'.out⟩
  case round =>
    clear H0' hB1 hB2 hB3 hb1 hb2 hb3
    obtain ⟨j, T, q, b, hj, rfl, hok, hbT, H⟩ := hrel
    have hT1 : 0 ≤ T := hok.1
    have hT2 : T ≤ l := hok.2.1
    have hb1 : 0 ≤ b := hok.2.2.2.2.1
    have hb2 : b ≤ l := hok.2.2.2.2.2
    have hBr := H.1
    have hzr := hBr.size
    have kc := H.2.1.cell
    have kg := H.2.2.1.cell
    have fg := H.2.2.1.frozen
    have lc := H.2.1.lt
    have lg := H.2.2.1.lt
    have hne := H.2.2.2
    have HH := Lib.hid H
    have HOK := Lib.hid hok
    clear H hok
    by_cases hlt : j < n
    · obtain ⟨bb, o, rfl, hbb, hall⟩ := HZ.out (by omega)
      obtain ⟨u, v, z, f, h0, h1, h2, h3⟩ := hall j hlt
      have e0 : wr.cell? ⟨bb, o + j * 4, none⟩ = some (.int .i64 u) := (hBr.cell hbb).trans h0
      have e1 : wr.cell? ⟨bb, o + j * 4 + 1, none⟩ = some (.int .i64 v) := (hBr.cell hbb).trans h1
      have e2 : wr.cell? ⟨bb, o + j * 4 + 2, none⟩ = some (.int .i64 z) := (hBr.cell hbb).trans h2
      have hbr : bb < wr.heap.size := by omega
      clear hall h0 h1 h2 h3
      go_upto_region 11 with (fail)
      (refine wp_region_calm [0, 1, 2, 3, 4, 5, 6, 7, 8, 9, 10, 11, 12, 13, 14, 15, 16, 17, 18, 19, 20] [] (by kernel_rfl) (by kernel_rfl) (by kernel_rfl) (by kernel_rfl) ?_; simp only [pick, List.getElem?_cons_zero, List.getElem?_cons_succ]; (repeat (refine wpCalm_step (fun K hK => ?_); go_simp; (try go_ints); first | (refine hK _ ?_; clear hK K) | (apply Exists.intro; refine ⟨fun _ => ?_, hK _ ?_⟩; (· fail); clear hK K))); refine wpCalm_nil ?_)
      refine wpTail_end ?_
      intro w4 hb4 _
      have mu := and_mask u
      have mv := and_mask v
      have mz := and_mask z
      generalize bits .and .i64 u 1073741823 = U at *
      generalize bits .and .i64 v 1073741823 = V at *
      generalize bits .and .i64 z 1073741823 = Z at *
      clear e0 e1 e2 kc kg fg
      have H4 := HH.out.later hb4
      have kg := H4.2.2.1.cell
      have lg4 := H4.2.2.1.lt
      have HH4 := Lib.hid H4
      clear H4 hb4
      go_wp2_with fail
      refine Gives.use (judge_any _ _ _ _ _ _ _ _ _ _ _ _ HR.out HOK.out) ?_
      intro w5 hb5
      have hf := judge_forms l ⟨T, q, b⟩ U (min V U) Z mu.1 mz.1
      have hgo := judgeG_ok l t d ⟨T, q, b⟩ U (min V U) Z (by omega) ht htl hd HOK.out
      have hgb := judgeG_base l t d ⟨T, q, b⟩ U (min V U) Z (by omega) ht htl HOK.out hbT
      generalize judgeG l t d ⟨T, q, b⟩ U (min V U) Z = g5 at *
      obtain ⟨T5, q5, b5⟩ := g5
      generalize grantB l ⟨T, q, b⟩ U (min V U) Z = gr at *
      generalize forceB l ⟨T, q, b⟩ U (min V U) Z = fo at *
      generalize overB U Z T = co at *
      have p1 : b5 ≤ T5 := hgb
      have p2 : b5 ≤ l := hgo.2.2.2.2.2
      have HGO := Lib.hid hgo
      clear hgo hgb
      have H5 := HH4.out.later hb5
      have kg := H5.2.2.1.cell
      have fg := H5.2.2.1.frozen
      have lg5 := H5.2.2.1.lt
      have kc := H5.2.1.cell
      have lc5 := H5.2.1.lt
      have HH5 := Lib.hid H5
      clear H5 hb5 HH4 HH
      dsimp only at hf ⊢
      obtain ⟨u1, u2⟩ := mu
      obtain ⟨z1, z2⟩ := mz
      have q1 : b5 ≤ T5 ∧ b5 ≤ l := ⟨p1, p2⟩
      have fin : ∀ j1 : Int, j1 = (j : Int) + 1 → ∀ wx : World, GInv w G l t s k d T5 q5 b5 wx →
          (∃ (j_1 : Nat) (T q b : Int), j_1 ≤ n ∧ Value.int .i64 j1 = .int .i64 j_1 ∧ GS.ok l d ⟨T, q, b⟩ ∧ b ≤ T ∧ GInv w G l t s k d T q b wx) ∧ n - (intOf (.int .i64 j1)).toNat < n - (intOf (.int .i64 (j : Int))).toNat :=
        fun j1 e wx hx => by
          subst e
          exact ⟨⟨j + 1, T5, q5, b5, by omega, by go_num, HGO.out, p1, hx⟩, by simp [intOf]; omega⟩
      have FIN := Lib.hid fin
      have two : ∀ (wx : World) (o1 o2 : Obj), GInv w G l t s k d T5 q5 b5 wx → GInv w G l t s k d T5 q5 b5 ((wx.alloc o1).alloc o2) := fun wx o1 o2 hx =>
        hx.later (((Below.refl _ _).alloc (Nat.le_refl _) _).alloc (by simp) _)
      have TWO := Lib.hid two
      have HB := Lib.hid hBr
      clear fin two q1 HGO hBr
      rcases hf with ⟨c1, c2, c3⟩ | ⟨c1, c3⟩ | ⟨c1, c3, c2, c4⟩
      · subst c1 c2 c3
        go_wp2
        exact FIN.out _ rfl _ (TWO.out _ _ _ HH5.out.set_)
      · subst c1 c3
        cases gr
        · go_wp2
          exact FIN.out _ rfl _ (TWO.out _ _ _ HH5.out.set_)
        · go_wp2
          exact FIN.out _ rfl _ (TWO.out _ _ _ HH5.out.set_)
      · subst c1 c2 c3
        have c5 : decide (U + Z ≤ 2 * b) = false := by simp; omega
        go_wp2
        exact FIN.out _ rfl _ (TWO.out _ _ _ HH5.out.set_)
    · go_wp2
      ((try simp only [Exit.inBlock, Exit.then]); first | (refine bodyPost_ret (results_tmp rfl _ _ _) rfl ?_) | (refine bodyPost_ret (results_none rfl _ _ _) rfl ?_) | (refine bodyPost_end (results_none rfl _ _ _) rfl ?_) | go_ret2 | go_ret3)
      exact ⟨rfl, hBr⟩
set_option maxHeartbeats 1000000 in
set_option maxRecDepth 100000 in
theorem pays_no (l t s k d : Int) (A : Option Addr) (n c : Nat) (w : World) (hR : rightB l t d = false) :
    Gives 8 #[.agg #[.int .i64 l, .int .i64 t, .int .i64 s, .int .i64 k, .int .i64 d], .slice A n c] w (.bool true) := by
  have r2 : ∀ w, Gives 10 #[.agg #[.int .i64 l, .int .i64 t, .int .i64 s, .int .i64 k, .int .i64 d]] w (.bool false) := fun w => hR ▸ rright_any l t s k d w
  clear hR
  have R2 := Lib.hid r2
  clear r2
  refine gives ?_
  go_enter Try.func8, Try.ntmps8
  go_wp2_with (first | (go_at_call 18; (with_reducible refine Gives.use (awake28 _) ?_); intro w1 hb1; have hB1 := below_call (B := w.heap.size) (w := w) (by (repeat' (first | (with_reducible exact Below.refl _ _) | (with_reducible assumption) | (with_reducible refine Below.alloc ?_ ?_ _) | (with_reducible refine Below.setCell ?_ ?_ _) | (with_reducible refine Below.drew ?_) | (with_reducible exact Nat.le_refl _) | omega | (simp; omega) | (simp; done)))) hb1 (by (first | (with_reducible exact Nat.le_refl _) | (with_reducible assumption) | omega | (simp; omega) | (simp; done))); obtain ⟨hc1, hf1⟩ := bcell hb1; have hz1 := hb1.size; have z1_0 : w.heap.size < w1.heap.size := (by first | omega | (have h := hz1; simp at h; omega)); have kc1_0 := fun o => hc1 (w.heap.size) o (by first | assumption | (simp; done) | (simp; omega)); have kf1_0 := fun o => hf1 (w.heap.size) o (by first | assumption | (simp; done) | (simp; omega))) | (go_at_call 10; (with_reducible refine Gives.use ((R2.out _)) ?_); intro w2 hb2; have hB2 := below_call (B := w.heap.size) (w := w) (by (repeat' (first | (with_reducible exact Below.refl _ _) | (with_reducible assumption) | (with_reducible refine Below.alloc ?_ ?_ _) | (with_reducible refine Below.setCell ?_ ?_ _) | (with_reducible refine Below.drew ?_) | (with_reducible exact Nat.le_refl _) | omega | (simp; omega) | (simp; done)))) hb2 (by (first | (with_reducible exact Nat.le_refl _) | (with_reducible assumption) | omega | (simp; omega) | (simp; done))); obtain ⟨hc2, hf2⟩ := bcell hb2; have hz2 := hb2.size; have z2_0 : w.heap.size < w2.heap.size := (by first | omega | (have h := hz2; simp at h; omega)); have kc2_0 := fun o => hc2 (w.heap.size) o (by first | assumption | (simp; done) | (simp; omega)); have kf2_0 := fun o => hf2 (w.heap.size) o (by first | assumption | (simp; done) | (simp; omega))))
  ((try simp only [Exit.inBlock, Exit.then]); first | (refine bodyPost_ret (results_tmp rfl _ _ _) rfl ?_) | (refine bodyPost_ret (results_none rfl _ _ _) rfl ?_) | (refine bodyPost_end (results_none rfl _ _ _) rfl ?_) | go_ret2 | go_ret3)
  exact ⟨rfl, hB2⟩
set_option maxHeartbeats 1000000 in
set_option maxRecDepth 100000 in
theorem pays_long (l t s k d : Int) (A : Option Addr) (n c : Nat) (w : World) (hR : rightB l t d = true) (hn : 60 < n) (hm : n ≤ maxLen) :
    Gives 8 #[.agg #[.int .i64 l, .int .i64 t, .int .i64 s, .int .i64 k, .int .i64 d], .slice A n c] w (.bool true) := by
  unfold maxLen at hm
  have r2 : ∀ w, Gives 10 #[.agg #[.int .i64 l, .int .i64 t, .int .i64 s, .int .i64 k, .int .i64 d]] w (.bool true) := fun w => hR ▸ rright_any l t s k d w
  clear hR
  have R2 := Lib.hid r2
  clear r2
  refine gives ?_
  go_enter Try.func8, Try.ntmps8
  go_wp2_with (first | (go_at_call 18; (with_reducible refine Gives.use (awake28 _) ?_); intro w1 hb1; have hB1 := below_call (B := w.heap.size) (w := w) (by (repeat' (first | (with_reducible exact Below.refl _ _) | (with_reducible assumption) | (with_reducible refine Below.alloc ?_ ?_ _) | (with_reducible refine Below.setCell ?_ ?_ _) | (with_reducible refine Below.drew ?_) | (with_reducible exact Nat.le_refl _) | omega | (simp; omega) | (simp; done)))) hb1 (by (first | (with_reducible exact Nat.le_refl _) | (with_reducible assumption) | omega | (simp; omega) | (simp; done))); obtain ⟨hc1, hf1⟩ := bcell hb1; have hz1 := hb1.size; have z1_0 : w.heap.size < w1.heap.size := (by first | omega | (have h := hz1; simp at h; omega)); have kc1_0 := fun o => hc1 (w.heap.size) o (by first | assumption | (simp; done) | (simp; omega)); have kf1_0 := fun o => hf1 (w.heap.size) o (by first | assumption | (simp; done) | (simp; omega))) | (go_at_call 10; (with_reducible refine Gives.use ((R2.out _)) ?_); intro w2 hb2; have hB2 := below_call (B := w.heap.size) (w := w) (by (repeat' (first | (with_reducible exact Below.refl _ _) | (with_reducible assumption) | (with_reducible refine Below.alloc ?_ ?_ _) | (with_reducible refine Below.setCell ?_ ?_ _) | (with_reducible refine Below.drew ?_) | (with_reducible exact Nat.le_refl _) | omega | (simp; omega) | (simp; done)))) hb2 (by (first | (with_reducible exact Nat.le_refl _) | (with_reducible assumption) | omega | (simp; omega) | (simp; done))); obtain ⟨hc2, hf2⟩ := bcell hb2; have hz2 := hb2.size; have z2_0 : w.heap.size < w2.heap.size := (by first | omega | (have h := hz2; simp at h; omega)); have kc2_0 := fun o => hc2 (w.heap.size) o (by first | assumption | (simp; done) | (simp; omega)); have kf2_0 := fun o => hf2 (w.heap.size) o (by first | assumption | (simp; done) | (simp; omega))))
  ((try simp only [Exit.inBlock, Exit.then]); first | (refine bodyPost_ret (results_tmp rfl _ _ _) rfl ?_) | (refine bodyPost_ret (results_none rfl _ _ _) rfl ?_) | (refine bodyPost_end (results_none rfl _ _ _) rfl ?_) | go_ret2 | go_ret3)
  exact ⟨rfl, hB2⟩
theorem pays_any (l t s k d : Int) (A : Option Addr) (n c : Nat) (w : World) (hz : AskAt w w.heap.size A n) (hm : n ≤ maxLen) :
    Gives 8 #[.agg #[.int .i64 l, .int .i64 t, .int .i64 s, .int .i64 k, .int .i64 d], .slice A n c] w (.bool true) := by
  cases h : rightB l t d with
  | true => exact (Nat.lt_or_ge 60 n).elim (fun hn => pays_long l t s k d A n c w h hn hm) (fun hn => pays_yes l t s k d A n c w h hz hn)
  | false => exact pays_no l t s k d A n c w h
theorem open_asks {H : Type} {enc : TypeId × Value → H} {w : World} {base : Nat} {held : Bool} {r : Reach} {b0 : Nat} {v : Value} {d : DataW H} {ps : List MemPlace}
    (hval : Value.okWide Try.prog w r b0 38 v) (h : DataW.Trod enc Try.prog w base (fun _ => true) held 38 v d ps) :
    ∃ (A : Option Addr) (n c : Nat), v = .slice A n c ∧ n ≤ c ∧ c ≤ maxLen ∧ AskAt w w.heap.size A n := by
  obtain ⟨A, n, c, rfl, h1, h2, h3⟩ := open_structs Try.underlying38 Try.underlying48 (by kernel_rfl) (by kernel_rfl) (by decide) hval h
  refine ⟨A, n, c, rfl, h1, h2, fun hn => ?_⟩
  obtain ⟨b, o, e, hb, hi⟩ := h3 hn
  refine ⟨b, o, e, hb, fun j hj => ?_⟩
  obtain ⟨u0, c0, t0⟩ := hi j hj 0 _ rfl
  obtain ⟨u1, c1, t1⟩ := hi j hj 1 _ rfl
  obtain ⟨u2, c2, t2⟩ := hi j hj 2 _ rfl
  obtain ⟨u3, c3, t3⟩ := hi j hj 3 _ rfl
  obtain ⟨x, rfl, _⟩ := field_int Try.underlying3 t0
  obtain ⟨y, rfl, _⟩ := field_int Try.underlying3 t1
  obtain ⟨z, rfl, _⟩ := field_int Try.underlying3 t2
  obtain ⟨f, rfl⟩ := field_bool Try.underlying4 t3
  exact ⟨x, y, z, f, c0, c1, c2, c3⟩
set_option maxRecDepth 100000 in
theorem pays_lifted (os : Os) (started : os.Started) (H : Type) (enc : TypeId × Value → H) :
    ReturnsInHanded {} Try.checked os 8 .any (Rows.gatePaysSpec.pre6 enc Try.prog Try.f8 Rows.gatePaysRow.domain false) (Rows.gatePaysSpec.post enc Try.prog Try.f8 false true false false) := by
  refine returnsInHanded_of_change (C := Try.checked) Try.own started (by kernel_rfl) Try.func8
    (ChangeSpec.witness6 (enc := enc) (C := Try.checked) false ⟨#[], #[.agg #[.int .i64 0, .int .i64 0, .int .i64 0, .int .i64 0, .int .i64 0], .slice none 0 0], []⟩ 8 (by kernel_rfl) (by kernel_rfl) (by kernel_rfl) (by kernel_rfl)) ?_
  intro W base args ds gs before hval0 hW hcnd hsized
  have hval : ∀ (j : Nat) t v, Try.f8.params[j]? = some t → args[j]? = some v → Value.okWide Try.prog W .any base t v := hval0
  have hW' := hW
  obtain ⟨p, q, hA0, hV, rfl, hfz, hnd⟩ := hW
  have hA : DataW.TrodAll enc Try.prog W 0 (fun _ => true) true Try.f8.params.toList args.toList ds p := hA0
  rw [Try.params8] at hA hval
  obtain ⟨v0, v1, d0, d1, p0, p1, rfl, rfl, rfl, h0, h1⟩ := trodAll_two hA
  obtain ⟨l0_, rfl, hl0_, hg0_⟩ := open_struct Try.underlying23 (by kernel_rfl) (by kernel_rfl) (hval 0 _ v0 rfl rfl) h0
  obtain ⟨c0_0, c0_1, c0_2, c0_3, c0_4, rfl⟩ := list5 hl0_
  obtain ⟨l, rfl, wl⟩ := field_int Try.underlying3 (hg0_ 0 _ _ rfl rfl)
  obtain ⟨t, rfl, wt⟩ := field_int Try.underlying3 (hg0_ 1 _ _ rfl rfl)
  obtain ⟨s, rfl, ws⟩ := field_int Try.underlying3 (hg0_ 2 _ _ rfl rfl)
  obtain ⟨k, rfl, wk⟩ := field_int Try.underlying3 (hg0_ 3 _ _ rfl rfl)
  obtain ⟨d, rfl, wd⟩ := field_int Try.underlying3 (hg0_ 4 _ _ rfl rfl)
  obtain ⟨A, n, c, rfl, hnn, hcn, hrn⟩ := open_asks (hval 1 _ v1 rfl rfl) h1
  refine Gives.use (pays_any l t s k d A n c W hrn (Nat.le_trans hnn hcn)) fun W' hb => ?_
  exact ⟨_, rfl, law_post Try.laidOut (by kernel_rfl) (by kernel_rfl) Try.underlying4 rfl hW' ⟨rfl, rfl, rfl⟩ hb⟩
theorem pays_holds : Rows.GatePaysSaid :=
  OpenClaim.holds_of_wide 8 Try.f8 rfl rfl rfl rfl rfl rfl rfl ⟨rfl, rfl, rfl, rfl, rfl⟩ rfl rfl rfl rfl rfl (by kernel_rfl) Try.func8 (by kernel_rfl)
    (of_decide_eq_true (by kernel_rfl)) (by unfold Func.isWrapper; first | (rw [if_pos (by decide +kernel)]; kernel_rfl) | (rw [if_neg (by decide +kernel)]; exact ⟨rfl, rfl⟩))
    (fun os started H enc _ => pays_lifted os started H enc)
end Go.Proofs.Ytlcaanodbhigkaa
