/-
  The statement ClassCounts of layer 4 (class), proved.
-/
import Derived.Test.YtnkpegdmbocgaaaPlain
import Derived.Test.YtnkpegdmbocgaaaCP
namespace Go.Proofs.Ytnkpegdmbocgaaa
open Go Go.ChangeShapes Go.WideShapes Go.ChangeAt Go.RowKit Go.Deep
theorem rng_of {zs : List Int} (h : ∀ z ∈ zs, (Lit.int .i64 z).wf = true) : rngB zs = true := by
  refine List.all_eq_true.2 fun z hz => ?_
  obtain ⟨a, b⟩ := wf_i64 (h z hz)
  rw [decide_eq_true a, decide_eq_true b]
  rfl
theorem classcounts_all (A : Option Addr) (n c : Nat) (zs : List Int) (c0 c1 c2 c3 c4 c5 c6 c7 c8 c9 c10 c11 c12 c13 ah : Int) (w : World) (hz : Reads w w.heap.size 1 A n (zs.map (Value.int .i64))) (hnc : n ≤ c) (hr : rngB zs = true) (ha : ah ≤ 9223372036854775807) :
    Gives 8 #[.slice A n c, .agg #[.int .i64 c0, .int .i64 c1, .int .i64 c2, .int .i64 c3, .int .i64 c4, .int .i64 c5, .int .i64 c6, .int .i64 c7, .int .i64 c8, .int .i64 c9, .int .i64 c10, .int .i64 c11, .int .i64 c12, .int .i64 c13], .int .i64 ah] w (.bool true) := by
  obtain ⟨i, hin⟩ := in_ints hz
  have hl := hz.ints
  have hx : AV.rels (fun _ => i) 1 [.sl false 0 1 0 1 n (some c), .agg [vi c0, vi c1, vi c2, vi c3, vi c4, vi c5, vi c6, vi c7, vi c8, vi c9, vi c10, vi c11, vi c12, vi c13], vi ah] [.slice A n c, .agg #[.int .i64 c0, .int .i64 c1, .int .i64 c2, .int .i64 c3, .int .i64 c4, .int .i64 c5, .int .i64 c6, .int .i64 c7, .int .i64 c8, .int .i64 c9, .int .i64 c10, .int .i64 c11, .int .i64 c12, .int .i64 c13], .int .i64 ah] := by
    have h0 := InB.arg (ρ := fun _ => i) (l := 0) (nx := 1) hin (by omega) hnc 1 1
    have h1 : AV.rel (fun _ => i) 1 (.agg [vi c0, vi c1, vi c2, vi c3, vi c4, vi c5, vi c6, vi c7, vi c8, vi c9, vi c10, vi c11, vi c12, vi c13]) (.agg #[.int .i64 c0, .int .i64 c1, .int .i64 c2, .int .i64 c3, .int .i64 c4, .int .i64 c5, .int .i64 c6, .int .i64 c7, .int .i64 c8, .int .i64 c9, .int .i64 c10, .int .i64 c11, .int .i64 c12, .int .i64 c13]) := by
      simp only [AV.rel, AV.rels]
      exact ⟨_, rfl, _, _, rfl, rfl, _, _, rfl, rfl, _, _, rfl, rfl, _, _, rfl, rfl, _, _, rfl, rfl, _, _, rfl, rfl, _, _, rfl, rfl, _, _, rfl, rfl, _, _, rfl, rfl, _, _, rfl, rfl, _, _, rfl, rfl, _, _, rfl, rfl, _, _, rfl, rfl, _, _, rfl, rfl, rfl⟩
    have h2 : AV.rel (fun _ => i) 1 (vi ah) (.int .i64 ah) := by simp only [AV.rel]
    simp only [AV.rels]
    exact ⟨_, _, rfl, h0, _, _, rfl, h1, _, _, rfl, h2, rfl⟩
  exact gives_true (m := ⟨[(0, some ⟨false, false, .col (.ints .i64 zs)⟩)], 1⟩) Try.func8 rfl (cc_gives n c zs (by omega) hr c0 c1 c2 c3 c4 c5 c6 c7 c8 c9 c10 c11 c12 c13 ah ha) rfl (mrel_one (hin.ok _ _)) hx

set_option maxRecDepth 100000 in
theorem classcounts_lifted (os : Os) (started : os.Started) (H : Type) (enc : TypeId × Value → H) :
    ReturnsInHanded {} Try.checked os 8 .any (Rows.classCountsSpec.pre6 enc Try.prog Try.f8 Rows.classCountsRow.domain false) (Rows.classCountsSpec.post enc Try.prog Try.f8 false true false false) := by
  refine returnsInHanded_of_change (C := Try.checked) Try.own started (by kernel_rfl) Try.func8
    (ChangeSpec.witness6 (enc := enc) (C := Try.checked) false ⟨#[], #[.slice none 0 0, .agg #[.int .i64 0, .int .i64 0, .int .i64 0, .int .i64 0, .int .i64 0, .int .i64 0, .int .i64 0, .int .i64 0, .int .i64 0, .int .i64 0, .int .i64 0, .int .i64 0, .int .i64 0, .int .i64 0], .int .i64 0], []⟩ 8 (by kernel_rfl) (by kernel_rfl) (by kernel_rfl) (by kernel_rfl)) ?_
  intro W base args ds gs before hval0 hW hcnd hsized
  have hval : ∀ (j : Nat) t v, Try.f8.params[j]? = some t → args[j]? = some v → Value.okWide Try.prog W .any base t v := hval0
  have hW' := hW
  obtain ⟨p, q, hA0, hV, rfl, hfz, hnd⟩ := hW
  have hA : DataW.TrodAll enc Try.prog W 0 (fun _ => true) true Try.f8.params.toList args.toList ds p := hA0
  rw [Try.params8] at hA hval
  obtain ⟨v0, v1, v2, d0, d1, d2, p0, p1, p2, rfl, rfl, rfl, h0, h1, h2⟩ := trodAll_three hA
  obtain ⟨A, n, c, zs, rfl, hnn, hcn, hrn, hwn⟩ := open_reads Try.underlying53 Try.underlying3 (by kernel_rfl) (hval 0 _ v0 rfl rfl) h0
  obtain ⟨l1_, rfl, hl1_, hg1_⟩ := open_array Try.underlying54 (by kernel_rfl) (by kernel_rfl) (hval 1 _ v1 rfl rfl) h1
  obtain ⟨c1_0, c1_1, c1_2, c1_3, c1_4, c1_5, c1_6, c1_7, c1_8, c1_9, c1_10, c1_11, c1_12, c1_13, rfl⟩ := list14 hl1_
  obtain ⟨c0, rfl, wc0⟩ := field_int Try.underlying3 (hg1_ 0 _ rfl)
  obtain ⟨c1, rfl, wc1⟩ := field_int Try.underlying3 (hg1_ 1 _ rfl)
  obtain ⟨c2, rfl, wc2⟩ := field_int Try.underlying3 (hg1_ 2 _ rfl)
  obtain ⟨c3, rfl, wc3⟩ := field_int Try.underlying3 (hg1_ 3 _ rfl)
  obtain ⟨c4, rfl, wc4⟩ := field_int Try.underlying3 (hg1_ 4 _ rfl)
  obtain ⟨c5, rfl, wc5⟩ := field_int Try.underlying3 (hg1_ 5 _ rfl)
  obtain ⟨c6, rfl, wc6⟩ := field_int Try.underlying3 (hg1_ 6 _ rfl)
  obtain ⟨c7, rfl, wc7⟩ := field_int Try.underlying3 (hg1_ 7 _ rfl)
  obtain ⟨c8, rfl, wc8⟩ := field_int Try.underlying3 (hg1_ 8 _ rfl)
  obtain ⟨c9, rfl, wc9⟩ := field_int Try.underlying3 (hg1_ 9 _ rfl)
  obtain ⟨c10, rfl, wc10⟩ := field_int Try.underlying3 (hg1_ 10 _ rfl)
  obtain ⟨c11, rfl, wc11⟩ := field_int Try.underlying3 (hg1_ 11 _ rfl)
  obtain ⟨c12, rfl, wc12⟩ := field_int Try.underlying3 (hg1_ 12 _ rfl)
  obtain ⟨c13, rfl, wc13⟩ := field_int Try.underlying3 (hg1_ 13 _ rfl)
  obtain ⟨ah, rfl, rfl, rfl, wah⟩ := open_int Try.underlying3 (hval 2 _ v2 rfl rfl) h2
  refine Gives.use (classcounts_all A n c zs c0 c1 c2 c3 c4 c5 c6 c7 c8 c9 c10 c11 c12 c13 ah W hrn hnn (rng_of hwn) (wf_i64 wah).2) fun W' hb => ?_
  exact ⟨_, rfl, law_post Try.laidOut (by kernel_rfl) (by kernel_rfl) Try.underlying4 rfl hW' ⟨rfl, rfl, rfl⟩ hb⟩
theorem classcounts_holds : Rows.ClassCountsSaid :=
  OpenClaim.holds_of_wide 8 Try.f8 rfl rfl rfl rfl rfl rfl rfl ⟨rfl, rfl, rfl, rfl, rfl⟩ rfl rfl rfl rfl rfl (by kernel_rfl) Try.func8 (by kernel_rfl)
    (of_decide_eq_true (by kernel_rfl)) (by unfold Func.isWrapper; first | (rw [if_pos (by decide +kernel)]; kernel_rfl) | (rw [if_neg (by decide +kernel)]; exact ⟨rfl, rfl⟩))
    (fun os started H enc _ => classcounts_lifted os started H enc)
end Go.Proofs.Ytnkpegdmbocgaaa
