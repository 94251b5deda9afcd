/-
  The statement WideSums of layer 1 (wide), proved.
-/
import Derived.Test.YtanfjgkohhlcoaaPlain
import Derived.Test.YtanfjgkohhlcoaaWU
namespace Go.Proofs.Ytanfjgkohhlcoaa
open Go Go.ChangeShapes Go.WideShapes Go.ChangeAt Go.RowKit Go.Deep
theorem isU_of {z : Int} (h : (Lit.int .u64 z).wf = true) : isU z := by
  have := wf_u64 h
  unfold isU
  omega
theorem widesums_run {a b c d : Int} (ha : isU a) (hb : isU b) (hc : isU c) (hd : isU d) : F_ Try.prog L_haymowlaw01_awake Try.f6 [] [] 99 [.agg [vu a, vu b], .agg [vu c, vu d]] noMem = some (.ret (vb true) ⟨[], 99⟩ true) := by
  obtain ⟨a1, a2, a3, a4⟩ := wadd ha hb hc hd
  obtain ⟨r1, r2, r3⟩ := radd ha hb hc hd
  obtain ⟨s1, s2, s3, s4⟩ := wsub ha hb hc hd
  obtain ⟨t1, t2, t3⟩ := rsub ha hb hc hd
  rw [r_haymowlaw01_WideSums]
  simp only [a1, a2, a3, a4, r1, r2, r3, s1, s2, s3, s4, t1, t2, t3, wcmp ha hb hc hd, rcmp ha hb hc hd, wless ha hb hc hd, less_iff, beq_self_eq_true, Bool.and_true, cond_true, Bool.and_self]
theorem widesums_all (a b c d : Int) (ha : isU a) (hb : isU b) (hc : isU c) (hd : isU d) (w : World) : Gives 6 #[.agg #[.int .u64 a, .int .u64 b], .agg #[.int .u64 c, .int .u64 d]] w (.bool true) := by
  have hx : AV.rels (fun _ => ⟨0, 0, 0⟩) 0 [.agg [vu a, vu b], .agg [vu c, vu d]] [.agg #[.int .u64 a, .int .u64 b], .agg #[.int .u64 c, .int .u64 d]] := by
    simp only [AV.rels, AV.rel]
    exact ⟨_, _, rfl, ⟨_, rfl, _, _, rfl, rfl, _, _, rfl, rfl, rfl⟩, _, _, rfl, ⟨_, rfl, _, _, rfl, rfl, _, _, rfl, rfl, rfl⟩, rfl⟩
  have h := widesums_run ha hb hc hd
  exact plain_gives hE_haymowlaw01_awake mixed Try.func6 rfl h hx

set_option maxRecDepth 100000 in
theorem widesums_lifted (os : Os) (started : os.Started) (H : Type) (enc : TypeId × Value → H) :
    ReturnsInHanded {} Try.checked os 6 .any (Rows.wideSumsSpec.pre6 enc Try.prog Try.f6 Rows.wideSumsRow.domain false) (Rows.wideSumsSpec.post enc Try.prog Try.f6 false true false false) := by
  refine returnsInHanded_of_change (C := Try.checked) Try.own started (by kernel_rfl) Try.func6
    (ChangeSpec.witness6 (enc := enc) (C := Try.checked) false ⟨#[], #[.agg #[.int .u64 0, .int .u64 0], .agg #[.int .u64 0, .int .u64 0]], []⟩ 8 (by kernel_rfl) (by kernel_rfl) (by kernel_rfl) (by kernel_rfl)) ?_
  intro W base args ds gs before hval0 hW hcnd hsized
  have hval : ∀ (j : Nat) t v, Try.f6.params[j]? = some t → args[j]? = some v → Value.okWide Try.prog W .any base t v := hval0
  have hW' := hW
  obtain ⟨p, q, hA0, hV, rfl, hfz, hnd⟩ := hW
  have hA : DataW.TrodAll enc Try.prog W 0 (fun _ => true) true Try.f6.params.toList args.toList ds p := hA0
  rw [Try.params6] at hA hval
  obtain ⟨v0, v1, d0, d1, p0, p1, rfl, rfl, rfl, h0, h1⟩ := trodAll_two hA
  obtain ⟨l0_, rfl, hl0_, hg0_⟩ := open_struct Try.underlying24 (by kernel_rfl) (by kernel_rfl) (hval 0 _ v0 rfl rfl) h0
  obtain ⟨c0_0, c0_1, rfl⟩ := list2 hl0_
  obtain ⟨a, rfl, wa⟩ := field_int Try.underlying22 (hg0_ 0 _ _ rfl rfl)
  obtain ⟨b, rfl, wb⟩ := field_int Try.underlying22 (hg0_ 1 _ _ rfl rfl)
  obtain ⟨l1_, rfl, hl1_, hg1_⟩ := open_struct Try.underlying24 (by kernel_rfl) (by kernel_rfl) (hval 1 _ v1 rfl rfl) h1
  obtain ⟨c1_0, c1_1, rfl⟩ := list2 hl1_
  obtain ⟨c, rfl, wc⟩ := field_int Try.underlying22 (hg1_ 0 _ _ rfl rfl)
  obtain ⟨d, rfl, wd⟩ := field_int Try.underlying22 (hg1_ 1 _ _ rfl rfl)
  refine Gives.use (widesums_all a b c d (isU_of wa) (isU_of wb) (isU_of wc) (isU_of wd) W) fun W' hb => ?_
  exact ⟨_, rfl, law_post Try.laidOut (by kernel_rfl) (by kernel_rfl) Try.underlying4 rfl hW' ⟨rfl, rfl, rfl⟩ hb⟩
theorem widesums_holds : Rows.WideSumsSaid :=
  OpenClaim.holds_of_wide 6 Try.f6 rfl rfl rfl rfl rfl rfl rfl ⟨rfl, rfl, rfl, rfl, rfl⟩ rfl rfl rfl rfl rfl (by kernel_rfl) Try.func6 (by kernel_rfl)
    (of_decide_eq_true (by kernel_rfl)) (by unfold Func.isWrapper; first | (rw [if_pos (by decide +kernel)]; kernel_rfl) | (rw [if_neg (by decide +kernel)]; exact ⟨rfl, rfl⟩))
    (fun os started H enc _ => widesums_lifted os started H enc)
end Go.Proofs.Ytanfjgkohhlcoaa
