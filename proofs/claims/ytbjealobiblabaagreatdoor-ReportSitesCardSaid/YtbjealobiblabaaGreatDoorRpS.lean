/-
  The statement ReportSites of layer 31 (report), proved: a tied card. No condition.
-/
import Derived.Test.YtbjealobiblabaaGreatDoorRpSf
namespace Go.Proofs.YtbjealobiblabaaGreatDoor
open Go Go.ChangeShapes Go.WideShapes Go.ChangeAt Go.RowKit Go.Deep
set_option maxRecDepth 100000
theorem wf_u8 {z : Int} (h : (Lit.int .u8 z).wf = true) : 0 ≤ z ∧ z ≤ 255 := by
  simp only [Lit.wf, Bool.and_eq_true, decide_eq_true_eq] at h
  have e1 : IntKind.min .u8 = 0 := by decide
  have e2 : IntKind.max .u8 = 255 := by decide
  rw [e1, e2] at h
  exact h
theorem bytes_of {n : Nat} {S : List Int} (h1 : S.length = n) (h : ∀ j, j < n → (Lit.int .u8 (S.getD j 0)).wf = true) : Bytes S := ⟨fun t => by
  by_cases ht : t < n
  · exact wf_u8 (h t ht)
  · rw [List.getD_eq_getElem?_getD, List.getElem?_eq_none (by omega)]
    exact ⟨Int.le_refl _, by show (0 : Int) ≤ 255; omega⟩⟩
theorem rs_any (A A' : Option Addr) (n c n' c' : Nat) (cs : List Col) (zss : List (List Int)) (hss : List (List H5)) (i i' : LI) (w : World) (hin : InB w A n (.rows cs) i) (hnc : n ≤ c) (hf : Fits n [.i .u8, .i .u8] cs) (hin' : NestIn w A' n' [.ints .i64 zss, .heads hss] i') (hnc' : n' ≤ c') (hh : hss.length = n') : Gives 3 #[.slice A n c, .slice A' n' c'] w (.bool true) := by
  obtain ⟨_, _, rfl, ⟨S, rfl, h1, b1⟩, _, _, rfl, ⟨K, rfl, h2, b2⟩, rfl⟩ := hf
  let ρ : Rho := fun k => match k with
    | 0 => i'
    | _ => i
  have hm : MRel ρ ⟨[aN zss hss, qB S K], 2⟩ w := mrel_two (hin'.ok ρ 2) (hin.ok ρ 2) rfl rfl
  have hx : AV.rels ρ 2 [.sl false 1 2 0 1 n (some c), .sl false 0 2 0 1 n' (some c')] [.slice A n c, .slice A' n' c'] := by
    simp only [AV.rels]
    exact ⟨_, _, rfl, InB.arg (l := 1) (ρ := ρ) hin (by omega) hnc 2 1, _, _, rfl, NestIn.arg (l := 0) (ρ := ρ) hin' (by omega) hnc' 2 1, rfl⟩
  exact gives_true (c := bodyOf Tryz.f3) (m' := ⟨[], 99⟩) Tryz.func3 rfl (q_all n' hss zss S K false false n (some c) (some c') (bytes_of h1 b1) (bytes_of h2 b2) h1 h2 hh) rfl hm hx
set_option maxRecDepth 100000 in
theorem reportSites_lifted (os : Os) (started : os.Started) (H : Type) (enc : TypeId × Value → H) :
    ReturnsInHanded {} Tryz.checked os 3 .any (fun w args => (Rows.reportSitesSpec.pre enc Tryz.prog Tryz.f3 [] false w args ∧ laidMetH Tryz.prog laidD w) ∧ sizedMet enc Tryz.prog Tryz.f3 (OpenSpec.ofChange Rows.reportSitesSpec) false w args)
      (Rows.reportSitesSpec.post enc Tryz.prog Tryz.f3 false true false false) := by
  refine returns_both (C := Tryz.checked) (X := fun w _ => laidMetH Tryz.prog laidD w) (fun _ _ _ hh h => h.of_heap hh) Tryz.own started (by kernel_rfl) Tryz.func3
    (ChangeSpec.witness_shaped (enc := enc) (C := Tryz.checked) (os := os) (X := fun w _ => laidMetH Tryz.prog laidD w) false (World.laidAll Tryz.prog os laidD) #[.slice none 0 0, .slice none 0 0] 8 (World.laidAll_os _ _ _)
      (World.shaped_of_ZipB (by kernel_rfl) (by kernel_rfl)) (by kernel_rfl) (by kernel_rfl) (by kernel_rfl)
      (by rw [MakeChecks.laidMetH_plain _ _ _ (by kernel_rfl)]; exact laidMet_laidAll _ (by kernel_rfl) (by kernel_rfl))) ?_
  intro W base args ds gs before hval0 hW hL hsh
  have hval : ∀ (j : Nat) t v, Tryz.f3.params[j]? = some t → args[j]? = some v → Value.okWide Tryz.prog W .any base t v := hval0
  have hW' := hW
  obtain ⟨p, q, hA0, hV, rfl, hfz, hnd⟩ := hW
  have hA : DataW.TrodAll enc Tryz.prog W 0 (fun _ => true) true Tryz.f3.params.toList args.toList ds p := hA0
  rw [Tryz.params3] at hA hval
  obtain ⟨v0, v1, d0, d1, p0, p1, rfl, rfl, rfl, h0, h1⟩ := trodAll_two hA
  obtain ⟨A, n, c, cs, i, rfl, hnc, hc, hf, hin⟩ := open_nrows [.i .u8, .i .u8] Tryz.underlying22 (show leavesT Tryz.prog 9 35 = some [5, 5] by kernel_rfl) (by kernel_rfl) (by decide) (by kernel_rfl) (hval 0 _ v0 rfl rfl) h0
  obtain ⟨A', n', c', zss, hss, i', rfl, hnc', hc', hz, hh, hin'⟩ := open_acts Tryz.underlying23 (show leavesT Tryz.prog 9 42 = some [39, 40] by kernel_rfl) (by kernel_rfl) Tryz.underlying39 (by kernel_rfl) (by kernel_rfl) Tryz.underlying40 Tryz.underlying3 Tryz.underlying4 (show leavesT Tryz.prog 9 49 = some [3, 3, 3, 3, 4] by kernel_rfl) (by kernel_rfl) (hval 1 _ v1 rfl rfl) h1
  refine Gives.use (rs_any A A' n c n' c' cs zss hss i i' W hin hnc hf hin' hnc' hh) fun W' hb => ?_
  exact ⟨_, rfl, law_post Tryz.laidOut (by kernel_rfl) (by kernel_rfl) Tryz.underlying4 rfl hW' ⟨rfl, rfl, rfl⟩ hb⟩
theorem reportSites_holds : Rows.ReportSitesSaid :=
  OpenClaim.holds_of_wide 3 Tryz.f3 rfl rfl rfl rfl rfl rfl rfl ⟨rfl, rfl, rfl, rfl, rfl⟩ rfl rfl rfl rfl rfl (by kernel_rfl) Tryz.func3 (by kernel_rfl)
    (of_decide_eq_true (by kernel_rfl)) (by unfold Func.isWrapper; first | (rw [if_pos (by decide +kernel)]; kernel_rfl) | (rw [if_neg (by decide +kernel)]; exact ⟨rfl, rfl⟩))
    (fun os started H enc _ => reportSites_lifted os started H enc)
theorem reportSites_card : Rows.ReportSitesCardSaid :=
  Claim7.holds_tied_plain_at .later [] [.data, .pinned] true (true, "3d87e56f9e3b5d0bea2b747bdb0fa2bf85b26b219ebc886a171dfddeb76d83af") false reportSites_holds (fun _ h => by cases h) (by kernel_rfl) (fun _ h => by cases h) reportSites_row_tie rfl ⟨rfl, rfl⟩ (by kernel_rfl) rfl
    (fun f fn hf hfn => by
      obtain rfl : f = 3 := Option.some.inj ((show Tryz.prog.funcNamed "haymow/haymowlaw31.ReportSites" = some 3 by kernel_rfl).symm.trans hf) |>.symm
      obtain rfl : fn = Tryz.f3 := (Option.some.inj (Tryz.func3.symm.trans hfn)).symm
      exact ⟨by kernel_rfl, fun j t ht => by
        rw [Tryz.params3] at ht
        have hm : t ∈ [22, 23] := by simpa using Array.mem_of_getElem? ht
        have hall : ([22, 23].all fun u => !Tryz.prog.wantsStandIn u) = true := by kernel_rfl
        exact (show Tryz.prog.wantsStandIn t = false by simpa using List.all_eq_true.1 hall t hm)⟩)
    (by kernel_rfl)
end Go.Proofs.YtbjealobiblabaaGreatDoor
