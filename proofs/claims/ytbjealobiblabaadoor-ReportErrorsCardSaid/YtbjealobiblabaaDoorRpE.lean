/-
  The statement ReportErrors of layer 31 (report), proved: a tied card. No condition.
-/
import Derived.Test.YtbjealobiblabaaDoorRpEe
namespace Go.Proofs.YtbjealobiblabaaDoor
open Go Go.ChangeShapes Go.WideShapes Go.ChangeAt Go.RowKit Go.Deep
theorem inZ_of {zs : List Int} (h : ∀ z ∈ zs, (Lit.int .i64 z).wf = true) : inZ zs = true := by
  unfold inZ
  rw [List.all_eq_true]
  intro z hz
  have := wf_i64 (h z hz)
  simp [this.1, this.2]
theorem re_any (A : Option Addr) (n c : Nat) (zs : List Int) (i : LI) {W : World} (hnc : n ≤ c) (hl : zs.length = n) (hz : inZ zs = true) (hin : InB W A n (.col (.ints .i64 zs)) i) : Gives 4 #[.slice A n c] W (.bool true) := by
  obtain ⟨L, hr⟩ := rise_is zs
  have hm : MRel (fun _ => i) ⟨[sI 0 zs], 1⟩ W := mrel_one (hin.ok _ _)
  have ha := InB.arg (ρ := fun _ => i) (l := 0) (nx := 1) (c := c) (n := n) hin (by omega) hnc 1 1
  subst hl
  exact gives_true (m := ⟨[sI 0 zs], 1⟩) (args := [.sl false 0 1 0 1 zs.length (some c)]) (xs := [.slice A zs.length c]) (c := bodyOf Tryd.f4) Tryd.func4 rfl
    (rx_all L zs false (some c) hz hr) rfl hm ⟨_, _, rfl, ha, rfl⟩
set_option maxRecDepth 100000 in
theorem reportErrors_lifted (os : Os) (started : os.Started) (H : Type) (enc : TypeId × Value → H) :
    ReturnsInHanded {} Tryd.checked os 4 .any (fun w args => (Rows.reportErrorsSpec.pre enc Tryd.prog Tryd.f4 [] false w args ∧ laidMetH Tryd.prog laidD w) ∧ sizedMet enc Tryd.prog Tryd.f4 (OpenSpec.ofChange Rows.reportErrorsSpec) false w args)
      (Rows.reportErrorsSpec.post enc Tryd.prog Tryd.f4 false true false false) := by
  refine returns_both (C := Tryd.checked) (X := fun w _ => laidMetH Tryd.prog laidD w) (fun _ _ _ hh h => h.of_heap hh) Tryd.own started (by kernel_rfl) Tryd.func4
    (ChangeSpec.witness_shaped (enc := enc) (C := Tryd.checked) (os := os) (X := fun w _ => laidMetH Tryd.prog laidD w) false (World.laidAll Tryd.prog os laidD) #[.slice none 0 0] 8 (World.laidAll_os _ _ _)
      (World.shaped_of_ZipB (by kernel_rfl) (by kernel_rfl)) (by kernel_rfl) (by kernel_rfl) (by kernel_rfl)
      (by rw [MakeChecks.laidMetH_plain _ _ _ (by kernel_rfl)]; exact laidMet_laidAll _ (by kernel_rfl) (by kernel_rfl))) ?_
  intro W base args ds gs before hval0 hW hL hsh
  have hval : ∀ (j : Nat) t v, Tryd.f4.params[j]? = some t → args[j]? = some v → Value.okWide Tryd.prog W .any base t v := hval0
  have hW' := hW
  obtain ⟨p, q, hA0, hV, rfl, hfz, hnd⟩ := hW
  have hA : DataW.TrodAll enc Tryd.prog W 0 (fun _ => true) true Tryd.f4.params.toList args.toList ds p := hA0
  rw [Tryd.params4] at hA hval
  obtain ⟨v0, d0, rfl, rfl, h0⟩ := trodAll_one hA
  obtain ⟨A, n, c, zs, rfl, hnn, hcn, hrn, hwn⟩ := open_reads Tryd.underlying35 Tryd.underlying3 (by kernel_rfl) (hval 0 _ v0 rfl rfl) h0
  obtain ⟨i, hin⟩ := in_ints hrn
  refine Gives.use (re_any A n c zs i hnn hrn.ints (inZ_of hwn) hin) fun W' hb => ?_
  exact ⟨_, rfl, law_post Tryd.laidOut (by kernel_rfl) (by kernel_rfl) Tryd.underlying4 rfl hW' ⟨rfl, rfl, rfl⟩ hb⟩
theorem reportErrors_holds : Rows.ReportErrorsSaid :=
  OpenClaim.holds_of_wide 4 Tryd.f4 rfl rfl rfl rfl rfl rfl rfl ⟨rfl, rfl, rfl, rfl, rfl⟩ rfl rfl rfl rfl rfl (by kernel_rfl) Tryd.func4 (by kernel_rfl)
    (of_decide_eq_true (by kernel_rfl)) (by unfold Func.isWrapper; first | (rw [if_pos (by decide +kernel)]; kernel_rfl) | (rw [if_neg (by decide +kernel)]; exact ⟨rfl, rfl⟩))
    (fun os started H enc _ => reportErrors_lifted os started H enc)
theorem reportErrors_card : Rows.ReportErrorsCardSaid :=
  Claim7.holds_tied_plain_at .later [] [.data, .pinned] true (true, "4b5b1769a70bd14dc7c229c7d4d96857f2e10a158dff3a92d561d051d4ab731c") false reportErrors_holds (fun _ h => by cases h) (by kernel_rfl) (fun _ h => by cases h) reportErrors_row_tie rfl ⟨rfl, rfl⟩ (by kernel_rfl) rfl
    (fun f fn hf hfn => by
      obtain rfl : f = 4 := Option.some.inj ((show Tryd.prog.funcNamed "haymow/haymowlaw31.ReportErrors" = some 4 by kernel_rfl).symm.trans hf) |>.symm
      obtain rfl : fn = Tryd.f4 := (Option.some.inj (Tryd.func4.symm.trans hfn)).symm
      exact ⟨by kernel_rfl, fun j t ht => by
        rw [Tryd.params4] at ht
        have hm : t ∈ [35] := by simpa using Array.mem_of_getElem? ht
        have hall : ([35].all fun u => !Tryd.prog.wantsStandIn u) = true := by kernel_rfl
        exact (show Tryd.prog.wantsStandIn t = false by simpa using List.all_eq_true.1 hall t hm)⟩)
    (by kernel_rfl)
end Go.Proofs.YtbjealobiblabaaDoor
