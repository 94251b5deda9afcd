/-
  The statement ReportCensus of layer 31 (report), proved: a tied card. No condition.
-/
import Derived.Test.YtbjealobiblabaaDoorRpCe
namespace Go.Proofs.YtbjealobiblabaaDoor
open Go Go.ChangeShapes Go.WideShapes Go.ChangeAt Go.RowKit Go.Deep
theorem rc_any (A : Option Addr) (n c : Nat) (cs : List Col) (i : LI) (w : World) (hin : InB w A n (.rows cs) i) (hnc : n ≤ c) (hf : Fits n [.i .i64, .i .i64, .i .i64, .i .i64, .b] cs) : Gives 5 #[.slice A n c] w (.bool true) := by
  obtain ⟨_, _, rfl, ⟨P, rfl, h1, _⟩, _, _, rfl, ⟨R, rfl, h2, _⟩, _, _, rfl, ⟨S, rfl, h3, _⟩, _, _, rfl, ⟨Q, rfl, h4, _⟩, _, _, rfl, ⟨G, rfl, h5⟩, rfl⟩ := hf
  have hm : MRel (fun _ => i) ⟨[(0, some ⟨false, false, hdC P R S Q G⟩)], 1⟩ w := mrel_one (hin.ok _ _)
  have hx : AV.rels (fun _ => i) 1 [.sl false 0 5 0 1 n (some c)] [.slice A n c] := by
    simp only [AV.rels]
    exact ⟨_, _, rfl, hin.arg (ρ := fun _ => i) (by omega) hnc 5 1, rfl⟩
  exact gives_true (c := bodyOf Tryd.f5) (m' := ⟨[], 99⟩) Tryd.func5 rfl (lc_all P R S Q G false n (some c) h1 h2 h3 h4 h5) rfl hm hx
set_option maxRecDepth 100000 in
theorem reportCensus_lifted (os : Os) (started : os.Started) (H : Type) (enc : TypeId × Value → H) :
    ReturnsInHanded {} Tryd.checked os 5 .any (fun w args => (Rows.reportCensusSpec.pre enc Tryd.prog Tryd.f5 [] false w args ∧ laidMetH Tryd.prog laidD w) ∧ sizedMet enc Tryd.prog Tryd.f5 (OpenSpec.ofChange Rows.reportCensusSpec) false w args)
      (Rows.reportCensusSpec.post enc Tryd.prog Tryd.f5 false true false false) := by
  refine returns_both (C := Tryd.checked) (X := fun w _ => laidMetH Tryd.prog laidD w) (fun _ _ _ hh h => h.of_heap hh) Tryd.own started (by kernel_rfl) Tryd.func5
    (ChangeSpec.witness_shaped (enc := enc) (C := Tryd.checked) (os := os) (X := fun w _ => laidMetH Tryd.prog laidD w) false (World.laidAll Tryd.prog os laidD) #[.slice none 0 0] 8 (World.laidAll_os _ _ _)
      (World.shaped_of_ZipB (by kernel_rfl) (by kernel_rfl)) (by kernel_rfl) (by kernel_rfl) (by kernel_rfl)
      (by rw [MakeChecks.laidMetH_plain _ _ _ (by kernel_rfl)]; exact laidMet_laidAll _ (by kernel_rfl) (by kernel_rfl))) ?_
  intro W base args ds gs before hval0 hW hL hsh
  have hval : ∀ (j : Nat) t v, Tryd.f5.params[j]? = some t → args[j]? = some v → Value.okWide Tryd.prog W .any base t v := hval0
  have hW' := hW
  obtain ⟨p, q, hA0, hV, rfl, hfz, hnd⟩ := hW
  have hA : DataW.TrodAll enc Tryd.prog W 0 (fun _ => true) true Tryd.f5.params.toList args.toList ds p := hA0
  rw [Tryd.params5] at hA hval
  obtain ⟨v0, d0, rfl, rfl, h0⟩ := trodAll_one hA
  obtain ⟨A, n, c, cs, i, rfl, hnc, hc, hf, hin⟩ := open_nrows [.i .i64, .i .i64, .i .i64, .i .i64, .b] Tryd.underlying42 (show leavesT Tryd.prog 9 49 = some [3, 3, 3, 3, 4] by kernel_rfl) (by kernel_rfl) (by decide) (by kernel_rfl) (hval 0 _ v0 rfl rfl) h0
  refine Gives.use (rc_any A n c cs i W hin hnc hf) fun W' hb => ?_
  exact ⟨_, rfl, law_post Tryd.laidOut (by kernel_rfl) (by kernel_rfl) Tryd.underlying4 rfl hW' ⟨rfl, rfl, rfl⟩ hb⟩
theorem reportCensus_holds : Rows.ReportCensusSaid :=
  OpenClaim.holds_of_wide 5 Tryd.f5 rfl rfl rfl rfl rfl rfl rfl ⟨rfl, rfl, rfl, rfl, rfl⟩ rfl rfl rfl rfl rfl (by kernel_rfl) Tryd.func5 (by kernel_rfl)
    (of_decide_eq_true (by kernel_rfl)) (by unfold Func.isWrapper; first | (rw [if_pos (by decide +kernel)]; kernel_rfl) | (rw [if_neg (by decide +kernel)]; exact ⟨rfl, rfl⟩))
    (fun os started H enc _ => reportCensus_lifted os started H enc)
theorem reportCensus_card : Rows.ReportCensusCardSaid :=
  Claim7.holds_tied_plain_at .later [] [.data, .pinned] true (true, "4b5b1769a70bd14dc7c229c7d4d96857f2e10a158dff3a92d561d051d4ab731c") false reportCensus_holds (fun _ h => by cases h) (by kernel_rfl) (fun _ h => by cases h) reportCensus_row_tie rfl ⟨rfl, rfl⟩ (by kernel_rfl) rfl
    (fun f fn hf hfn => by
      obtain rfl : f = 5 := Option.some.inj ((show Tryd.prog.funcNamed "haymow/haymowlaw31.ReportCensus" = some 5 by kernel_rfl).symm.trans hf) |>.symm
      obtain rfl : fn = Tryd.f5 := (Option.some.inj (Tryd.func5.symm.trans hfn)).symm
      exact ⟨by kernel_rfl, fun j t ht => by
        rw [Tryd.params5] at ht
        have hm : t ∈ [42] := by simpa using Array.mem_of_getElem? ht
        have hall : ([42].all fun u => !Tryd.prog.wantsStandIn u) = true := by kernel_rfl
        exact (show Tryd.prog.wantsStandIn t = false by simpa using List.all_eq_true.1 hall t hm)⟩)
    (by kernel_rfl)
end Go.Proofs.YtbjealobiblabaaDoor
