/-
  The statement WideLists of layer 1 (wide), proved.
-/
import Derived.Test.YtanfjgkohhlcoaaPlain
import Derived.Test.YtanfjgkohhlcoaaWV
namespace Go.Proofs.Ytanfjgkohhlcoaa
open Go Go.ChangeShapes Go.WideShapes Go.ChangeAt Go.RowKit Go.Deep
theorem uB_of {zs : List Int} (h : ∀ z ∈ zs, (Lit.int .u64 z).wf = true) : uB zs = true := by
  refine List.all_eq_true.2 fun z hz => ?_
  have := wf_u64 (h z hz)
  exact inU_of (by unfold isU; omega)
theorem wf_u8 {z : Int} (h : (Lit.int .u8 z).wf = true) : 0 ≤ z ∧ z ≤ 255 := by
  simp only [Lit.wf, Bool.and_eq_true, decide_eq_true_eq] at h
  have e1 : IntKind.min .u8 = 0 := by decide
  have e2 : IntKind.max .u8 = 255 := by decide
  rw [e1, e2] at h
  exact h
theorem widelists_all (A : Option Addr) (n c : Nat) (zs : List Int) (t : Int) (w : World) (hz : Reads w w.heap.size 1 A n (zs.map (Value.int .u64))) (hnc : n ≤ c) (hu : uB zs = true) (ht : 0 ≤ t ∧ t ≤ 255) :
    Gives 4 #[.slice A n c, .int .u8 t] w (.bool true) := by
  obtain ⟨i, hin⟩ := in_ints hz
  have hl := hz.ints
  obtain ⟨t, rfl⟩ := Int.eq_ofNat_of_zero_le ht.1
  have hx : AV.rels (fun _ => i) 1 [.sl false 0 1 0 1 n (some c), .val (.int .u8 (t : Int))] [.slice A n c, .int .u8 (t : Int)] := by
    have h0 := InB.arg (ρ := fun _ => i) (l := 0) (nx := 1) hin (by omega) hnc 1 1
    have h2 : AV.rel (fun _ => i) 1 (.val (.int .u8 (t : Int))) (.int .u8 (t : Int)) := by simp only [AV.rel]
    simp only [AV.rels]
    exact ⟨_, _, rfl, h0, _, _, rfl, h2, rfl⟩
  exact gives_true (m := ⟨[(0, some ⟨false, false, .col (.ints .u64 zs)⟩)], 1⟩) Try.func4 rfl (wl_gives n c zs (by omega) hu t (by omega)) rfl (mrel_one (hin.ok _ _)) hx

set_option maxRecDepth 100000 in
theorem widelists_lifted (os : Os) (started : os.Started) (H : Type) (enc : TypeId × Value → H) :
    ReturnsInHanded {} Try.checked os 4 .any (Rows.wideListsSpec.pre6 enc Try.prog Try.f4 Rows.wideListsRow.domain false) (Rows.wideListsSpec.post enc Try.prog Try.f4 false true false false) := by
  refine returnsInHanded_of_change (C := Try.checked) Try.own started (by kernel_rfl) Try.func4
    (ChangeSpec.witness6 (enc := enc) (C := Try.checked) false ⟨#[], #[.slice none 0 0, .int .u8 0], []⟩ 8 (by kernel_rfl) (by kernel_rfl) (by kernel_rfl) (by kernel_rfl)) ?_
  intro W base args ds gs before hval0 hW hcnd hsized
  have hval : ∀ (j : Nat) t v, Try.f4.params[j]? = some t → args[j]? = some v → Value.okWide Try.prog W .any base t v := hval0
  have hW' := hW
  obtain ⟨p, q, hA0, hV, rfl, hfz, hnd⟩ := hW
  have hA : DataW.TrodAll enc Try.prog W 0 (fun _ => true) true Try.f4.params.toList args.toList ds p := hA0
  rw [Try.params4] at hA hval
  obtain ⟨v0, v1, d0, d1, p0, p1, rfl, rfl, rfl, h0, h1⟩ := trodAll_two hA
  obtain ⟨A, n, c, zs, rfl, hnn, hcn, hrn, hwn⟩ := open_reads Try.underlying34 Try.underlying22 (by kernel_rfl) (hval 0 _ v0 rfl rfl) h0
  obtain ⟨t, rfl, rfl, rfl, wt⟩ := open_int Try.underlying5 (hval 1 _ v1 rfl rfl) h1
  refine Gives.use (widelists_all A n c zs t W hrn hnn (uB_of hwn) (wf_u8 wt)) fun W' hb => ?_
  exact ⟨_, rfl, law_post Try.laidOut (by kernel_rfl) (by kernel_rfl) Try.underlying4 rfl hW' ⟨rfl, rfl, rfl⟩ hb⟩
theorem widelists_holds : Rows.WideListsSaid :=
  OpenClaim.holds_of_wide 4 Try.f4 rfl rfl rfl rfl rfl rfl rfl ⟨rfl, rfl, rfl, rfl, rfl⟩ rfl rfl rfl rfl rfl (by kernel_rfl) Try.func4 (by kernel_rfl)
    (of_decide_eq_true (by kernel_rfl)) (by unfold Func.isWrapper; first | (rw [if_pos (by decide +kernel)]; kernel_rfl) | (rw [if_neg (by decide +kernel)]; exact ⟨rfl, rfl⟩))
    (fun os started H enc _ => widelists_lifted os started H enc)
end Go.Proofs.Ytanfjgkohhlcoaa
