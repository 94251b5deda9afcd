/-
  The statements of layer 25 (cost), proved: CostSums, CostPays, CostRises.
-/
import Derived.Test.YtanfjgkohhlcoaaPlain
import Derived.Test.YtanfjgkohhlcoaaWM
namespace Go.Proofs.Ytanfjgkohhlcoaa
open Go Go.ChangeShapes Go.WideShapes Go.ChangeAt Go.RowKit Go.Deep
theorem isI_of {z : Int} (h : (Lit.int .i64 z).wf = true) : isI z := by
  simp only [Lit.wf, Bool.and_eq_true, decide_eq_true_eq] at h
  have e1 : IntKind.min .i64 = -9223372036854775808 := by decide
  have e2 : IntKind.max .i64 = 9223372036854775807 := by decide
  rw [e1, e2] at h
  exact h
theorem isW_of {z : Int} (h : (Lit.int .u32 z).wf = true) : isW z := by
  have := wf_u32 h
  unfold isW
  omega
theorem costsums_all (a b c : Int) (ha : isI a) (hb : isI b) (hc : isI c) (w : World) : Gives 9 #[.int .i64 a, .int .i64 b, .int .i64 c] w (.bool true) := by
  have hx : AV.rels (fun _ => ⟨0, 0, 0⟩) 0 [vi a, vi b, vi c] [.int .i64 a, .int .i64 b, .int .i64 c] := by
    simp only [AV.rels, AV.rel]
    exact ⟨_, _, rfl, rfl, _, _, rfl, rfl, _, _, rfl, rfl, rfl⟩
  have h := t_haymowlaw25_CostSums a b c (costsums_true ha hb hc).2
  unfold s_haymowlaw25_CostSums at h
  rw [(costsums_true ha hb hc).1] at h
  exact plain_gives hE_haymowlaw25_awake mixed Try.func9 rfl h hx
theorem costpays_all (n0 n1 n2 n3 n4 : Int) (h0 : isW n0) (h1 : isW n1) (h2 : isW n2) (h3 : isW n3) (h4 : isW n4) (w : World) : Gives 8 #[.agg #[.int .u32 n0, .int .u32 n1, .int .u32 n2, .int .u32 n3, .int .u32 n4]] w (.bool true) := by
  have hx : AV.rels (fun _ => ⟨0, 0, 0⟩) 0 [.agg [.val (.int .u32 n0), .val (.int .u32 n1), .val (.int .u32 n2), .val (.int .u32 n3), .val (.int .u32 n4)]] [.agg #[.int .u32 n0, .int .u32 n1, .int .u32 n2, .int .u32 n3, .int .u32 n4]] := by
    simp only [AV.rels, AV.rel]
    exact ⟨_, _, rfl, ⟨_, rfl, _, _, rfl, rfl, _, _, rfl, rfl, _, _, rfl, rfl, _, _, rfl, rfl, _, _, rfl, rfl, rfl⟩, rfl⟩
  have h := t_haymowlaw25_CostPays n0 n1 n2 n3 n4 (costpays_true h0 h1 h2 h3 h4).2
  unfold s_haymowlaw25_CostPays at h
  rw [(costpays_true h0 h1 h2 h3 h4).1] at h
  exact plain_gives hE_haymowlaw25_CostRises mixed Try.func8 rfl h hx
theorem costrises_all (n k a b o : Int) (hn : isW n) (hk : isW k) (ha : isW a) (hb : isW b) (ho : isW o) (w : World) : Gives 10 #[.agg #[.int .u32 n, .int .u32 k], .agg #[.int .u32 a, .int .u32 b], .int .u32 o] w (.bool true) := by
  have hx : AV.rels (fun _ => ⟨0, 0, 0⟩) 0 [.agg [.val (.int .u32 n), .val (.int .u32 k)], .agg [.val (.int .u32 a), .val (.int .u32 b)], .val (.int .u32 o)] [.agg #[.int .u32 n, .int .u32 k], .agg #[.int .u32 a, .int .u32 b], .int .u32 o] := by
    simp only [AV.rels, AV.rel]
    exact ⟨_, _, rfl, ⟨_, rfl, _, _, rfl, rfl, _, _, rfl, rfl, rfl⟩, _, _, rfl, ⟨_, rfl, _, _, rfl, rfl, _, _, rfl, rfl, rfl⟩, _, _, rfl, rfl, rfl⟩
  have h := t_haymowlaw25_CostRises n k a b o (costrises_true hn hk ha hb ho).2
  unfold s_haymowlaw25_CostRises at h
  rw [(costrises_true hn hk ha hb ho).1] at h
  exact plain_gives hE_haymowlaw25_CostSums mixed Try.func10 rfl h hx

set_option maxRecDepth 100000 in
theorem costsums_lifted (os : Os) (started : os.Started) (H : Type) (enc : TypeId × Value → H) :
    ReturnsInHanded {} Try.checked os 9 .any (Rows.costSumsSpec.pre6 enc Try.prog Try.f9 Rows.costSumsRow.domain false) (Rows.costSumsSpec.post enc Try.prog Try.f9 false true false false) := by
  refine returnsInHanded_of_change (C := Try.checked) Try.own started (by kernel_rfl) Try.func9
    (ChangeSpec.witness6 (enc := enc) (C := Try.checked) false ⟨#[], #[.int .i64 0, .int .i64 0, .int .i64 0], []⟩ 8 (by kernel_rfl) (by kernel_rfl) (by kernel_rfl) (by kernel_rfl)) ?_
  intro W base args ds gs before hval0 hW hcnd hsized
  have hval : ∀ (j : Nat) t v, Try.f9.params[j]? = some t → args[j]? = some v → Value.okWide Try.prog W .any base t v := hval0
  have hW' := hW
  obtain ⟨p, q, hA0, hV, rfl, hfz, hnd⟩ := hW
  have hA : DataW.TrodAll enc Try.prog W 0 (fun _ => true) true Try.f9.params.toList args.toList ds p := hA0
  rw [Try.params9] at hA hval
  obtain ⟨v0, v1, v2, d0, d1, d2, p0, p1, p2, rfl, rfl, rfl, h0, h1, h2⟩ := trodAll_three hA
  obtain ⟨a, rfl, rfl, rfl, wa⟩ := open_int Try.underlying3 (hval 0 _ v0 rfl rfl) h0
  obtain ⟨b, rfl, rfl, rfl, wb⟩ := open_int Try.underlying3 (hval 1 _ v1 rfl rfl) h1
  obtain ⟨c, rfl, rfl, rfl, wc⟩ := open_int Try.underlying3 (hval 2 _ v2 rfl rfl) h2
  refine Gives.use (costsums_all a b c (isI_of wa) (isI_of wb) (isI_of wc) W) fun W' hb => ?_
  exact ⟨_, rfl, law_post Try.laidOut (by kernel_rfl) (by kernel_rfl) Try.underlying4 rfl hW' ⟨rfl, rfl, rfl⟩ hb⟩
theorem costsums_holds : Rows.CostSumsSaid :=
  OpenClaim.holds_of_wide 9 Try.f9 rfl rfl rfl rfl rfl rfl rfl ⟨rfl, rfl, rfl, rfl, rfl⟩ rfl rfl rfl rfl rfl (by kernel_rfl) Try.func9 (by kernel_rfl)
    (of_decide_eq_true (by kernel_rfl)) (by unfold Func.isWrapper; first | (rw [if_pos (by decide +kernel)]; kernel_rfl) | (rw [if_neg (by decide +kernel)]; exact ⟨rfl, rfl⟩))
    (fun os started H enc _ => costsums_lifted os started H enc)
set_option maxRecDepth 100000 in
theorem costpays_lifted (os : Os) (started : os.Started) (H : Type) (enc : TypeId × Value → H) :
    ReturnsInHanded {} Try.checked os 8 .any (Rows.costPaysSpec.pre6 enc Try.prog Try.f8 Rows.costPaysRow.domain false) (Rows.costPaysSpec.post enc Try.prog Try.f8 false true false false) := by
  refine returnsInHanded_of_change (C := Try.checked) Try.own started (by kernel_rfl) Try.func8
    (ChangeSpec.witness6 (enc := enc) (C := Try.checked) false ⟨#[], #[.agg #[.int .u32 0, .int .u32 0, .int .u32 0, .int .u32 0, .int .u32 0]], []⟩ 8 (by kernel_rfl) (by kernel_rfl) (by kernel_rfl) (by kernel_rfl)) ?_
  intro W base args ds gs before hval0 hW hcnd hsized
  have hval : ∀ (j : Nat) t v, Try.f8.params[j]? = some t → args[j]? = some v → Value.okWide Try.prog W .any base t v := hval0
  have hW' := hW
  obtain ⟨p, q, hA0, hV, rfl, hfz, hnd⟩ := hW
  have hA : DataW.TrodAll enc Try.prog W 0 (fun _ => true) true Try.f8.params.toList args.toList ds p := hA0
  rw [Try.params8] at hA hval
  obtain ⟨v0, d0, rfl, rfl, h0⟩ := trodAll_one hA
  obtain ⟨l0_, rfl, hl0_, hg0_⟩ := open_array Try.underlying50 (by kernel_rfl) (by kernel_rfl) (hval 0 _ v0 rfl rfl) h0
  obtain ⟨c0_0, c0_1, c0_2, c0_3, c0_4, rfl⟩ := list5 hl0_
  obtain ⟨n0, rfl, wn0⟩ := field_int Try.underlying49 (hg0_ 0 _ rfl)
  obtain ⟨n1, rfl, wn1⟩ := field_int Try.underlying49 (hg0_ 1 _ rfl)
  obtain ⟨n2, rfl, wn2⟩ := field_int Try.underlying49 (hg0_ 2 _ rfl)
  obtain ⟨n3, rfl, wn3⟩ := field_int Try.underlying49 (hg0_ 3 _ rfl)
  obtain ⟨n4, rfl, wn4⟩ := field_int Try.underlying49 (hg0_ 4 _ rfl)
  refine Gives.use (costpays_all n0 n1 n2 n3 n4 (isW_of wn0) (isW_of wn1) (isW_of wn2) (isW_of wn3) (isW_of wn4) W) fun W' hb => ?_
  exact ⟨_, rfl, law_post Try.laidOut (by kernel_rfl) (by kernel_rfl) Try.underlying4 rfl hW' ⟨rfl, rfl, rfl⟩ hb⟩
theorem costpays_holds : Rows.CostPaysSaid :=
  OpenClaim.holds_of_wide 8 Try.f8 rfl rfl rfl rfl rfl rfl rfl ⟨rfl, rfl, rfl, rfl, rfl⟩ rfl rfl rfl rfl rfl (by kernel_rfl) Try.func8 (by kernel_rfl)
    (of_decide_eq_true (by kernel_rfl)) (by unfold Func.isWrapper; first | (rw [if_pos (by decide +kernel)]; kernel_rfl) | (rw [if_neg (by decide +kernel)]; exact ⟨rfl, rfl⟩))
    (fun os started H enc _ => costpays_lifted os started H enc)
set_option maxRecDepth 100000 in
theorem costrises_lifted (os : Os) (started : os.Started) (H : Type) (enc : TypeId × Value → H) :
    ReturnsInHanded {} Try.checked os 10 .any (Rows.costRisesSpec.pre6 enc Try.prog Try.f10 Rows.costRisesRow.domain false) (Rows.costRisesSpec.post enc Try.prog Try.f10 false true false false) := by
  refine returnsInHanded_of_change (C := Try.checked) Try.own started (by kernel_rfl) Try.func10
    (ChangeSpec.witness6 (enc := enc) (C := Try.checked) false ⟨#[], #[.agg #[.int .u32 0, .int .u32 0], .agg #[.int .u32 0, .int .u32 0], .int .u32 0], []⟩ 8 (by kernel_rfl) (by kernel_rfl) (by kernel_rfl) (by kernel_rfl)) ?_
  intro W base args ds gs before hval0 hW hcnd hsized
  have hval : ∀ (j : Nat) t v, Try.f10.params[j]? = some t → args[j]? = some v → Value.okWide Try.prog W .any base t v := hval0
  have hW' := hW
  obtain ⟨p, q, hA0, hV, rfl, hfz, hnd⟩ := hW
  have hA : DataW.TrodAll enc Try.prog W 0 (fun _ => true) true Try.f10.params.toList args.toList ds p := hA0
  rw [Try.params10] at hA hval
  obtain ⟨v0, v1, v2, d0, d1, d2, p0, p1, p2, rfl, rfl, rfl, h0, h1, h2⟩ := trodAll_three hA
  obtain ⟨l0_, rfl, hl0_, hg0_⟩ := open_array Try.underlying57 (by kernel_rfl) (by kernel_rfl) (hval 0 _ v0 rfl rfl) h0
  obtain ⟨c0_0, c0_1, rfl⟩ := list2 hl0_
  obtain ⟨n, rfl, wn⟩ := field_int Try.underlying49 (hg0_ 0 _ rfl)
  obtain ⟨k, rfl, wk⟩ := field_int Try.underlying49 (hg0_ 1 _ rfl)
  obtain ⟨l1_, rfl, hl1_, hg1_⟩ := open_array Try.underlying57 (by kernel_rfl) (by kernel_rfl) (hval 1 _ v1 rfl rfl) h1
  obtain ⟨c1_0, c1_1, rfl⟩ := list2 hl1_
  obtain ⟨a, rfl, wa⟩ := field_int Try.underlying49 (hg1_ 0 _ rfl)
  obtain ⟨b, rfl, wb⟩ := field_int Try.underlying49 (hg1_ 1 _ rfl)
  obtain ⟨o, rfl, rfl, rfl, wo⟩ := open_int Try.underlying49 (hval 2 _ v2 rfl rfl) h2
  refine Gives.use (costrises_all n k a b o (isW_of wn) (isW_of wk) (isW_of wa) (isW_of wb) (isW_of wo) W) fun W' hb => ?_
  exact ⟨_, rfl, law_post Try.laidOut (by kernel_rfl) (by kernel_rfl) Try.underlying4 rfl hW' ⟨rfl, rfl, rfl⟩ hb⟩
theorem costrises_holds : Rows.CostRisesSaid :=
  OpenClaim.holds_of_wide 10 Try.f10 rfl rfl rfl rfl rfl rfl rfl ⟨rfl, rfl, rfl, rfl, rfl⟩ rfl rfl rfl rfl rfl (by kernel_rfl) Try.func10 (by kernel_rfl)
    (of_decide_eq_true (by kernel_rfl)) (by unfold Func.isWrapper; first | (rw [if_pos (by decide +kernel)]; kernel_rfl) | (rw [if_neg (by decide +kernel)]; exact ⟨rfl, rfl⟩))
    (fun os started H enc _ => costrises_lifted os started H enc)
end Go.Proofs.Ytanfjgkohhlcoaa
