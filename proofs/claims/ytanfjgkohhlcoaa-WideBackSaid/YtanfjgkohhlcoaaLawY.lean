/-
  The statements WideTimes and WideBack of layer 1 (wide), proved.
-/
import Derived.Test.YtanfjgkohhlcoaaPlain
import Derived.Test.YtanfjgkohhlcoaaVh
namespace Go.Proofs.Ytanfjgkohhlcoaa
open Go Go.ChangeShapes Go.WideShapes Go.ChangeAt Go.RowKit Go.Deep
theorem isU_wf {z : Int} (h : (Lit.int .u64 z).wf = true) : isU z := by
  have := wf_u64 h
  unfold isU
  omega
theorem widetimes_all (a b n : Int) (ha : isU a) (hb : isU b) (hn : isU n) (w : World) : Gives 3 #[.agg #[.int .u64 a, .int .u64 b], .int .u64 n] w (.bool true) := by
  have hx : AV.rels (fun _ => ⟨0, 0, 0⟩) 0 [.agg [vu a, vu b], vu n] [.agg #[.int .u64 a, .int .u64 b], .int .u64 n] := by
    simp only [AV.rels, AV.rel]
    exact ⟨_, _, rfl, ⟨_, rfl, _, _, rfl, rfl, _, _, rfl, rfl, rfl⟩, _, _, rfl, rfl, rfl⟩
  exact plain_gives hE_w mixed Try.func3 rfl (wt_true ha hb hn) hx
theorem wideback_all (a b c d n : Int) (ha : isU a) (hb : isU b) (hc : isU c) (hd : isU d) (hn : isU n) (w : World) : Gives 7 #[.agg #[.int .u64 a, .int .u64 b], .agg #[.int .u64 c, .int .u64 d], .int .u64 n] w (.bool true) := by
  have hx : AV.rels (fun _ => ⟨0, 0, 0⟩) 0 [.agg [vu a, vu b], .agg [vu c, vu d], vu n] [.agg #[.int .u64 a, .int .u64 b], .agg #[.int .u64 c, .int .u64 d], .int .u64 n] := by
    simp only [AV.rels, AV.rel]
    exact ⟨_, _, rfl, ⟨_, rfl, _, _, rfl, rfl, _, _, rfl, rfl, rfl⟩, _, _, rfl, ⟨_, rfl, _, _, rfl, rfl, _, _, rfl, rfl, rfl⟩, _, _, rfl, rfl, rfl⟩
  exact plain_gives hE_w mixed Try.func7 rfl (wb_true ha hb hc hd hn) hx

set_option maxRecDepth 100000 in
theorem widetimes_lifted (os : Os) (started : os.Started) (H : Type) (enc : TypeId × Value → H) :
    ReturnsInHanded {} Try.checked os 3 .any (Rows.wideTimesSpec.pre6 enc Try.prog Try.f3 Rows.wideTimesRow.domain false) (Rows.wideTimesSpec.post enc Try.prog Try.f3 false true false false) := by
  refine returnsInHanded_of_change (C := Try.checked) Try.own started (by kernel_rfl) Try.func3
    (ChangeSpec.witness6 (enc := enc) (C := Try.checked) false ⟨#[], #[.agg #[.int .u64 0, .int .u64 0], .int .u64 0], []⟩ 8 (by kernel_rfl) (by kernel_rfl) (by kernel_rfl) (by kernel_rfl)) ?_
  intro W base args ds gs before hval0 hW hcnd hsized
  have hval : ∀ (j : Nat) t v, Try.f3.params[j]? = some t → args[j]? = some v → Value.okWide Try.prog W .any base t v := hval0
  have hW' := hW
  obtain ⟨p, q, hA0, hV, rfl, hfz, hnd⟩ := hW
  have hA : DataW.TrodAll enc Try.prog W 0 (fun _ => true) true Try.f3.params.toList args.toList ds p := hA0
  rw [Try.params3] at hA hval
  obtain ⟨v0, v1, d0, d1, p0, p1, rfl, rfl, rfl, h0, h1⟩ := trodAll_two hA
  obtain ⟨l0_, rfl, hl0_, hg0_⟩ := open_struct Try.underlying24 (by kernel_rfl) (by kernel_rfl) (hval 0 _ v0 rfl rfl) h0
  obtain ⟨c0_0, c0_1, rfl⟩ := list2 hl0_
  obtain ⟨a, rfl, wa⟩ := field_int Try.underlying22 (hg0_ 0 _ _ rfl rfl)
  obtain ⟨b, rfl, wb⟩ := field_int Try.underlying22 (hg0_ 1 _ _ rfl rfl)
  obtain ⟨n, rfl, rfl, rfl, wn⟩ := open_int Try.underlying22 (hval 1 _ v1 rfl rfl) h1
  refine Gives.use (widetimes_all a b n (isU_wf wa) (isU_wf wb) (isU_wf wn) W) fun W' hb => ?_
  exact ⟨_, rfl, law_post Try.laidOut (by kernel_rfl) (by kernel_rfl) Try.underlying4 rfl hW' ⟨rfl, rfl, rfl⟩ hb⟩
theorem widetimes_holds : Rows.WideTimesSaid :=
  OpenClaim.holds_of_wide 3 Try.f3 rfl rfl rfl rfl rfl rfl rfl ⟨rfl, rfl, rfl, rfl, rfl⟩ rfl rfl rfl rfl rfl (by kernel_rfl) Try.func3 (by kernel_rfl)
    (of_decide_eq_true (by kernel_rfl)) (by unfold Func.isWrapper; first | (rw [if_pos (by decide +kernel)]; kernel_rfl) | (rw [if_neg (by decide +kernel)]; exact ⟨rfl, rfl⟩))
    (fun os started H enc _ => widetimes_lifted os started H enc)

set_option maxRecDepth 100000 in
theorem wideback_lifted (os : Os) (started : os.Started) (H : Type) (enc : TypeId × Value → H) :
    ReturnsInHanded {} Try.checked os 7 .any (Rows.wideBackSpec.pre6 enc Try.prog Try.f7 Rows.wideBackRow.domain false) (Rows.wideBackSpec.post enc Try.prog Try.f7 false true false false) := by
  refine returnsInHanded_of_change (C := Try.checked) Try.own started (by kernel_rfl) Try.func7
    (ChangeSpec.witness6 (enc := enc) (C := Try.checked) false ⟨#[], #[.agg #[.int .u64 0, .int .u64 0], .agg #[.int .u64 0, .int .u64 0], .int .u64 0], []⟩ 8 (by kernel_rfl) (by kernel_rfl) (by kernel_rfl) (by kernel_rfl)) ?_
  intro W base args ds gs before hval0 hW hcnd hsized
  have hval : ∀ (j : Nat) t v, Try.f7.params[j]? = some t → args[j]? = some v → Value.okWide Try.prog W .any base t v := hval0
  have hW' := hW
  obtain ⟨p, q, hA0, hV, rfl, hfz, hnd⟩ := hW
  have hA : DataW.TrodAll enc Try.prog W 0 (fun _ => true) true Try.f7.params.toList args.toList ds p := hA0
  rw [Try.params7] at hA hval
  obtain ⟨v0, v1, v2, d0, d1, d2, p0, p1, p2, rfl, rfl, rfl, h0, h1, h2⟩ := trodAll_three hA
  obtain ⟨l0_, rfl, hl0_, hg0_⟩ := open_struct Try.underlying24 (by kernel_rfl) (by kernel_rfl) (hval 0 _ v0 rfl rfl) h0
  obtain ⟨c0_0, c0_1, rfl⟩ := list2 hl0_
  obtain ⟨a, rfl, wa⟩ := field_int Try.underlying22 (hg0_ 0 _ _ rfl rfl)
  obtain ⟨b, rfl, wb⟩ := field_int Try.underlying22 (hg0_ 1 _ _ rfl rfl)
  obtain ⟨l1_, rfl, hl1_, hg1_⟩ := open_struct Try.underlying24 (by kernel_rfl) (by kernel_rfl) (hval 1 _ v1 rfl rfl) h1
  obtain ⟨c1_0, c1_1, rfl⟩ := list2 hl1_
  obtain ⟨c, rfl, wc⟩ := field_int Try.underlying22 (hg1_ 0 _ _ rfl rfl)
  obtain ⟨d, rfl, wd⟩ := field_int Try.underlying22 (hg1_ 1 _ _ rfl rfl)
  obtain ⟨n, rfl, rfl, rfl, wn⟩ := open_int Try.underlying22 (hval 2 _ v2 rfl rfl) h2
  refine Gives.use (wideback_all a b c d n (isU_wf wa) (isU_wf wb) (isU_wf wc) (isU_wf wd) (isU_wf wn) W) fun W' hb => ?_
  exact ⟨_, rfl, law_post Try.laidOut (by kernel_rfl) (by kernel_rfl) Try.underlying4 rfl hW' ⟨rfl, rfl, rfl⟩ hb⟩
theorem wideback_holds : Rows.WideBackSaid :=
  OpenClaim.holds_of_wide 7 Try.f7 rfl rfl rfl rfl rfl rfl rfl ⟨rfl, rfl, rfl, rfl, rfl⟩ rfl rfl rfl rfl rfl (by kernel_rfl) Try.func7 (by kernel_rfl)
    (of_decide_eq_true (by kernel_rfl)) (by unfold Func.isWrapper; first | (rw [if_pos (by decide +kernel)]; kernel_rfl) | (rw [if_neg (by decide +kernel)]; exact ⟨rfl, rfl⟩))
    (fun os started H enc _ => wideback_lifted os started H enc)
end Go.Proofs.Ytanfjgkohhlcoaa
