/-
  The statements of layer 13 (shape), proved: ShapeCharges.
-/
import Derived.Test.YtnkpegdmbocgaaaPlain
import Derived.Test.YtnkpegdmbocgaaaSE
import Derived.Test.YtnkpegdmbocgaaaCL
namespace Go.Proofs.Ytnkpegdmbocgaaa
open Go Go.ChangeShapes Go.WideShapes Go.ChangeAt Go.RowKit Go.Deep
theorem words_bd (p r : Int) : 0 ≤ shape_Words_0 p r ∧ shape_Words_0 p r ≤ 8191 := by
  rw [words13]
  unfold haymowref13_Words_0
  cases h : haymowref13_Right_0 p r with
  | false => exact ⟨(by decide : (0 : Int) ≤ 0), (by decide : (0 : Int) ≤ 8191)⟩
  | true =>
    have hR : (0 ≤ p ∧ p < 4096) ∧ 0 ≤ r ∧ r < 4096 := by
      unfold haymowref13_Right_0 at h
      simp [Bool.cond_eq_ite] at h
      omega
    rw [wr (1 + p) (by omega) (by omega), wr (1 + p + r) (by omega) (by omega)]
    simp only [Bool.not_true, cond_false]
    omega
theorem frame13 (n : Int) : shape_Frame_0 n = haymowref13_Frame_0 n := by
  unfold shape_Frame_0 haymowref13_Frame_0
  rw [show (2 : Int) + n = n + 2 by omega]
theorem charges_true (p r small slots : Int) : haymowlaw13_ShapeCharges_0 p r small slots = true ∧ c_haymowlaw13_ShapeCharges p r small slots = true := by
  have hw := words_bd p r
  obtain ⟨h1, h2⟩ := class_of (shape_Words_0 p r) (by omega) (by omega)
  have hL : shape_Large_0 p r small = decide (small < haymowref13_Words_0 p r) := by unfold shape_Large_0; rw [words13]
  have hC : shape_Class_0 p r = haymowref04_Of_0 (haymowref13_Words_0 p r) := by unfold shape_Class_0; rw [h1, words13]
  unfold haymowlaw13_ShapeCharges_0 c_haymowlaw13_ShapeCharges c_shape_Class
  rw [right13, words13, hL, charge13, frame13, hC, ← words13, h2]
  simp
theorem charges_all (p r small slots : Int) (w : World) : Gives 11 #[.agg #[.int .i64 p, .int .i64 r], .int .i64 small, .int .i64 slots] w (.bool true) := by
  have hx : AV.rels (fun _ => ⟨0, 0, 0⟩) 0 [.agg [vi p, vi r], vi small, vi slots] [.agg #[.int .i64 p, .int .i64 r], .int .i64 small, .int .i64 slots] := by
    simp only [AV.rels, AV.rel]
    exact ⟨_, _, rfl, ⟨_, rfl, _, _, rfl, rfl, _, _, rfl, rfl, rfl⟩, _, _, rfl, rfl, _, _, rfl, rfl, rfl⟩
  have h := t_haymowlaw13_ShapeCharges p r small slots (charges_true p r small slots).2
  unfold s_haymowlaw13_ShapeCharges at h
  rw [(charges_true p r small slots).1] at h
  exact plain_gives hE_shape_Class mixed Try.func11 rfl h hx

set_option maxRecDepth 100000 in
theorem charges_lifted (os : Os) (started : os.Started) (H : Type) (enc : TypeId × Value → H) :
    ReturnsInHanded {} Try.checked os 11 .any (Rows.shapeChargesSpec.pre6 enc Try.prog Try.f11 Rows.shapeChargesRow.domain false) (Rows.shapeChargesSpec.post enc Try.prog Try.f11 false true false false) := by
  refine returnsInHanded_of_change (C := Try.checked) Try.own started (by kernel_rfl) Try.func11
    (ChangeSpec.witness6 (enc := enc) (C := Try.checked) false ⟨#[], #[.agg #[.int .i64 0, .int .i64 0], .int .i64 0, .int .i64 0], []⟩ 8 (by kernel_rfl) (by kernel_rfl) (by kernel_rfl) (by kernel_rfl)) ?_
  intro W base args ds gs before hval0 hW hcnd hsized
  have hval : ∀ (j : Nat) t v, Try.f11.params[j]? = some t → args[j]? = some v → Value.okWide Try.prog W .any base t v := hval0
  have hW' := hW
  obtain ⟨p, q, hA0, hV, rfl, hfz, hnd⟩ := hW
  have hA : DataW.TrodAll enc Try.prog W 0 (fun _ => true) true Try.f11.params.toList args.toList ds p := hA0
  rw [Try.params11] at hA hval
  obtain ⟨v0, v1, v2, d0, d1, d2, p0, p1, p2, rfl, rfl, rfl, h0, h1, h2⟩ := trodAll_three hA
  obtain ⟨l0_, rfl, hl0_, hg0_⟩ := open_struct Try.underlying30 (by kernel_rfl) (by kernel_rfl) (hval 0 _ v0 rfl rfl) h0
  obtain ⟨c0_0, c0_1, rfl⟩ := list2 hl0_
  obtain ⟨p, rfl, wp⟩ := field_int Try.underlying3 (hg0_ 0 _ _ rfl rfl)
  obtain ⟨r, rfl, wr⟩ := field_int Try.underlying3 (hg0_ 1 _ _ rfl rfl)
  obtain ⟨small, rfl, rfl, rfl, wsmall⟩ := open_int Try.underlying3 (hval 1 _ v1 rfl rfl) h1
  obtain ⟨slots, rfl, rfl, rfl, wslots⟩ := open_int Try.underlying3 (hval 2 _ v2 rfl rfl) h2
  refine Gives.use (charges_all p r small slots W) fun W' hb => ?_
  exact ⟨_, rfl, law_post Try.laidOut (by kernel_rfl) (by kernel_rfl) Try.underlying4 rfl hW' ⟨rfl, rfl, rfl⟩ hb⟩
theorem charges_holds : Rows.ShapeChargesSaid :=
  OpenClaim.holds_of_wide 11 Try.f11 rfl rfl rfl rfl rfl rfl rfl ⟨rfl, rfl, rfl, rfl, rfl⟩ rfl rfl rfl rfl rfl (by kernel_rfl) Try.func11 (by kernel_rfl)
    (of_decide_eq_true (by kernel_rfl)) (by unfold Func.isWrapper; first | (rw [if_pos (by decide +kernel)]; kernel_rfl) | (rw [if_neg (by decide +kernel)]; exact ⟨rfl, rfl⟩))
    (fun os started H enc _ => charges_lifted os started H enc)
end Go.Proofs.Ytnkpegdmbocgaaa
