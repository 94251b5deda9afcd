/-
  The law of a meter's rise: round by round.
-/
import Derived.Test.YtanfjgkohhlcoaaMF
import Derived.Test.YtanfjgkohhlcoaaME
namespace Go.Proofs.Ytanfjgkohhlcoaa
open Go Go.RowKit
theorem wv_sat {s : Int} (h : 0 ≤ s) : wv (satH s) (satL s) = min s 340282366920938463463374607431768211455 := by
  by_cases hs : s < 340282366920938463463374607431768211456
  · unfold satH satL wv
    rw [satF_t hs]
    simp only [cond_true]
    omega
  · rw [(sat_over hs).2.1, (sat_over hs).2.2]
    unfold wv
    omega
theorem wv_r {a b : Int} (ha : isU a) (hb : isU b) : 0 ≤ wv a b ∧ wv a b ≤ 340282366920938463463374607431768211455 := by
  unfold isU at ha hb
  unfold wv
  omega
theorem steps_v {a b c d : Int} (h g : Int) (ha : isU a) (hb : isU b) (hc : isU c) (hd : isU d) : wv (haymowref07_Steps_0 a b c d h g) (haymowref07_Steps_1 a b c d h g) = min (wv a b + wv c d) 340282366920938463463374607431768211455 := by
  obtain ⟨g1, g2, _⟩ := radd ha hb hc hd
  unfold haymowref07_Steps_0 haymowref07_Steps_1
  rw [g1, g2]
  exact wv_sat (Int.add_nonneg (wv_nn ha hb) (wv_nn hc hd))
theorem cmp_ge {a b c d h g a' b' c' d' h' g' : Int} (ha : isU a) (hb : isU b) (hc : isU c) (hd : isU d) (ha' : isU a') (hb' : isU b') (hc' : isU c') (hd' : isU d') (h1 : wv a b ≤ wv a' b') (h2 : wv c d ≤ wv c' d') :
    decide (haymowref01_Cmp_0 (haymowref07_Steps_0 a' b' c' d' h' g') (haymowref07_Steps_1 a' b' c' d' h' g') (haymowref07_Steps_0 a b c d h g) (haymowref07_Steps_1 a b c d h g) < 0) = false := by
  obtain ⟨u1, u2⟩ := steps_isU h g ha hb hc hd
  obtain ⟨v1, v2⟩ := steps_isU h' g' ha' hb' hc' hd'
  rw [rcmp v1 v2 u1 u2, steps_v h g ha hb hc hd, steps_v h' g' ha' hb' hc' hd']
  apply decide_eq_false
  have hle : min (wv a b + wv c d) 340282366920938463463374607431768211455 ≤ min (wv a' b' + wv c' d') 340282366920938463463374607431768211455 := by omega
  rcases Int.lt_or_eq_of_le hle with hl | he
  · rw [cmp_gt hl]; decide
  · rw [cmp_eq he.symm]; decide
theorem st_ge {j k a b v : Int} (ha : isU a) (hb : isU b) : wv a b ≤ wv (bif actB j k v then stp0 a b v else a) (bif actB j k v then stp1 a b v else b) := by
  cases actB j k v with
  | false => exact Int.le_refl _
  | true =>
    simp only [cond_true]
    obtain ⟨g1, g2, _⟩ := radd ha hb isU0 (wrapU v)
    unfold stp0 stp1
    rw [g1, g2, wv_sat (Int.add_nonneg (wv_nn ha hb) (wv_nn isU0 (wrapU v)))]
    have := wv_nn isU0 (wrapU v)
    have := (wv_r ha hb).2
    omega
/-- What is held. -/
structure Six.fit (x : Six) : Prop where
  ok : x.ok
  h0 : 0 ≤ x.h
  hg : x.h ≤ x.g
  g1 : x.g ≤ 281474976710656
theorem hold_f {a b c d h g v : Int} (h0 : 0 ≤ h) (hg : h ≤ g) (g1 : g ≤ 281474976710656) (hv : -9223372036854775808 ≤ v ∧ v ≤ 9223372036854775807) : 0 ≤ haymowref07_Hold_0 a b c d h g v ∧ haymowref07_Hold_0 a b c d h g v ≤ haymowref07_Hold_1 a b c d h g v ∧ g ≤ haymowref07_Hold_1 a b c d h g v ∧ haymowref07_Hold_1 a b c d h g v ≤ 281474976710656 ∧
    (bif haymowref07_Hold_2 a b c d h g v == 0 then IntKind.i64.wrap (haymowref07_Hold_0 a b c d h g v - h) != v else false) = false := by
  unfold haymowref07_Hold_0 haymowref07_Hold_1 haymowref07_Hold_2
  rw [IntWalk.i64_in (281474976710656 - h) (by omega)]
  by_cases c1 : v < 0
  · rw [decide_eq_true c1]
    exact ⟨h0, hg, Int.le_refl _, g1, rfl⟩
  · rw [decide_eq_false c1]
    by_cases c2 : 281474976710656 - h < v
    · rw [decide_eq_true c2]
      exact ⟨h0, hg, Int.le_refl _, g1, rfl⟩
    · rw [decide_eq_false c2, IntWalk.i64_in (h + v) (by omega)]
      simp only [cond_false, beq_self_eq_true, cond_true]
      rw [show h + v - h = v by omega, IntWalk.i64_in v hv]
      by_cases c3 : g < h + v
      · rw [decide_eq_true c3]
        simp only [cond_true, bne_self_eq_false]
        exact ⟨by omega, by omega, by omega, by omega, trivial⟩
      · rw [decide_eq_false c3]
        simp only [cond_false, bne_self_eq_false]
        exact ⟨by omega, by omega, by omega, by omega, trivial⟩
theorem free_f {a b c d h g v : Int} (h0 : 0 ≤ h) (hg : h ≤ g) (g1 : g ≤ 281474976710656) (hv : -9223372036854775808 ≤ v ∧ v ≤ 9223372036854775807) : 0 ≤ haymowref07_Free_0 a b c d h g v ∧ haymowref07_Free_0 a b c d h g v ≤ g ∧
    (bif haymowref07_Free_1 a b c d h g v == 0 then IntKind.i64.wrap (h - haymowref07_Free_0 a b c d h g v) != v else false) = false := by
  unfold haymowref07_Free_0 haymowref07_Free_1
  by_cases c1 : v < 0
  · rw [decide_eq_true c1]
    exact ⟨h0, hg, rfl⟩
  · rw [decide_eq_false c1]
    by_cases c2 : h < v
    · rw [decide_eq_true c2]
      exact ⟨h0, hg, rfl⟩
    · rw [decide_eq_false c2, IntWalk.i64_in (h - v) (by omega)]
      simp only [cond_false, beq_self_eq_true, cond_true]
      rw [show h - (h - v) = v by omega, IntWalk.i64_in v hv]
      simp only [bne_self_eq_false]
      exact ⟨by omega, by omega, trivial⟩
theorem nxt_fit {x : Six} {k v : Int} (hx : x.fit) (hv : -9223372036854775808 ≤ v ∧ v ≤ 9223372036854775807) : (nxt x k v).fit := by
  have ho := nxt_ok hx.ok k v
  unfold nxt at ho ⊢
  cases h0 : (k == 0) with
  | true =>
    rw [h0] at ho
    obtain ⟨p1, p2, p3, p4, _⟩ := hold_f (a := x.a) (b := x.b) (c := x.c) (d := x.d) (v := v) hx.h0 hx.hg hx.g1 hv
    exact ⟨ho, p1, p2, p4⟩
  | false =>
    rw [h0] at ho
    cases h1 : (k == 1) with
    | true =>
      rw [h1] at ho
      obtain ⟨p1, p2, _⟩ := free_f (a := x.a) (b := x.b) (c := x.c) (d := x.d) (v := v) hx.h0 hx.hg hx.g1 hv
      exact ⟨ho, p1, p2, hx.g1⟩
    | false =>
      rw [h1] at ho
      exact ⟨ho, hx.h0, hx.hg, hx.g1⟩
theorem mr_next {n : Nat} {cp : Option Nat} {ks ns : List Int} {x : Six} {i : Nat} (hi : i < n) (hb : n ≤ 200) (hk : ks.length = n) (hn : ns.length = n) (hx : x.fit) (hv : -9223372036854775808 ≤ ns.getD i 0 ∧ ns.getD i 0 ≤ 9223372036854775807) :
    H_ Try.prog ((54, e_aw07) :: (L_m7 Try.prog Try.f55 Try.f56 Try.f58 Try.f60 Try.f64 Try.f65 Try.f66 Try.f67 Try.f68)) Try.f14 mrC [] 99 (hd Try.f14 0) (mrTm n cp i) (mrM ks ns x.a x.b x.c x.d x.h x.g) = some (.head (hd Try.f14 0) (mrTm n cp ((i + 1 : Nat) : Int))
      (mrM ks ns (nxt x (ks.getD i 0) (ns.getD i 0)).a (nxt x (ks.getD i 0) (ns.getD i 0)).b (nxt x (ks.getD i 0) (ns.getD i 0)).c (nxt x (ks.getD i 0) (ns.getD i 0)).d (nxt x (ks.getD i 0) (ns.getD i 0)).h (nxt x (ks.getD i 0) (ns.getD i 0)).g) true) := by
  obtain ⟨a, b, c, d, h, g⟩ := x
  obtain ⟨⟨h1, h2, h3, h4⟩, h0, hg, g1⟩ := hx
  simp only at h1 h2 h3 h4 h0 hg g1
  have i1 := of_inU h1; have i2 := of_inU h2; have i3 := of_inU h3; have i4 := of_inU h4
  rw [mr_round, decide_eq_true (show (i : Int) < Int.ofNat n by simp; omega)]
  simp only [Int.toNat_natCast, col0]
  have w1 : IntKind.i64.wrap ((i : Int) + 1) = ((i + 1 : Nat) : Int) := by rw [IntWalk.i64_in _ (by omega)]; omega
  rw [w1]
  simp only [decide_eq_true (show (0 : Int) ≤ (i : Int) by omega), decide_eq_true hi, decide_eq_true (show i < ks.length by omega), decide_eq_true (show i < ns.length by omega), h1, h2, h3, h4]
  generalize ks.getD i 0 = k
  generalize ns.getD i 0 = v at hv ⊢
  obtain ⟨j1, j2⟩ := st_in (j := 0) (k := haymowlaw07_kind_0 k v) (v := v) h1 h2
  obtain ⟨j3, j4⟩ := st_in (j := 1) (k := haymowlaw07_kind_0 k v) (v := v) h3 h4
  have k1 : inU (sA (haymowlaw07_kind_0 k v) a b v) = true := j1
  have k2 : inU (sB (haymowlaw07_kind_0 k v) a b v) = true := j2
  have k3 : inU (sC (haymowlaw07_kind_0 k v) c d v) = true := j3
  have k4 : inU (sD (haymowlaw07_kind_0 k v) c d v) = true := j4
  have m1 : wv a b ≤ wv (sA (haymowlaw07_kind_0 k v) a b v) (sB (haymowlaw07_kind_0 k v) a b v) := st_ge i1 i2
  have m2 : wv c d ≤ wv (sC (haymowlaw07_kind_0 k v) c d v) (sD (haymowlaw07_kind_0 k v) c d v) := st_ge i3 i4
  obtain ⟨p1, p2, p3, p4, p5⟩ := hold_f (a := a) (b := b) (c := c) (d := d) (v := v) h0 hg g1 hv
  obtain ⟨q1, q2, q3⟩ := free_f (a := a) (b := b) (c := c) (d := d) (v := v) h0 hg g1 hv
  have cH := cmp_ge (h := h) (g := g) (h' := haymowref07_Hold_0 a b c d h g v) (g' := haymowref07_Hold_1 a b c d h g v) i1 i2 i3 i4 i1 i2 i3 i4 (Int.le_refl _) (Int.le_refl _)
  have cF := cmp_ge (h := h) (g := g) (h' := haymowref07_Free_0 a b c d h g v) (g' := g) i1 i2 i3 i4 i1 i2 i3 i4 (Int.le_refl _) (Int.le_refl _)
  have cS := cmp_ge (h := h) (g := g) (h' := h) (g' := g) i1 i2 i3 i4 (of_inU k1) (of_inU k2) (of_inU k3) (of_inU k4) m1 m2
  simp only [cH, cF, cS, p5, q3, k1, k2, k3, k4, decide_eq_false (show ¬ haymowref07_Hold_1 a b c d h g v < g by omega), decide_eq_false (show ¬ haymowref07_Hold_1 a b c d h g v < haymowref07_Hold_0 a b c d h g v by omega), decide_eq_false (show ¬ haymowref07_Hold_0 a b c d h g v < 0 by omega),
    decide_eq_false (show ¬ g < g by omega), decide_eq_false (show ¬ g < haymowref07_Free_0 a b c d h g v by omega), decide_eq_false (show ¬ haymowref07_Free_0 a b c d h g v < 0 by omega), decide_eq_false (show ¬ g < h by omega), decide_eq_false (show ¬ h < 0 by omega),
    cond_true, cond_false, Bool.or_true, Bool.not_false, Bool.not_true]
  unfold nxt
  cases (k == 0) with
  | true => rfl
  | false =>
    cases (k == 1) with
    | true => rfl
    | false => rfl
end Go.Proofs.Ytanfjgkohhlcoaa
