/-
  The statement DigitsLists of layer 3 (digits), proved: a tied card. No condition.
-/
import Derived.Test.YtpmcflidggofkaaDoorGaDd
namespace Go.Proofs.YtpmcflidggofkaaDoor
open Go Go.ChangeShapes Go.WideShapes Go.ChangeAt Go.RowKit Go.Deep
theorem inI_of {zs : List Int} (h : ∀ z ∈ zs, (Lit.int .i64 z).wf = true) : inI zs = true := by
  unfold inI
  rw [List.all_eq_true]
  intro z hz
  have := wf_i64 (h z hz)
  rw [decide_eq_true this.1, decide_eq_true this.2]
  rfl
theorem dg_any (zs : List Int) (A : Option Addr) (n c : Nat) (i : LI) (s : ByteArray) {W : World} (hin : InB W A n (.col (.ints .i64 zs)) i) (hl : zs.length = n) (hnc : n ≤ c) (hz : inI zs = true) (hsh : W.ShapedOpen Tryd.prog) : Gives 3 #[.slice A n c, .string s] W (.bool true) := by
  obtain ⟨x, hx⟩ := ml_there hsh
  have hm : MRel (fun l => if l = 0 then i else ⟨0, 0, 0⟩) ⟨[dlA zs, (1, some (mlG x))], 2⟩ W := mrel_two (hin.ok _ _) (hx _ _) rfl rfl
  have ha := InB.arg (ρ := fun l => if l = 0 then i else ⟨0, 0, 0⟩) (l := 0) (nx := 2) (c := c) (n := n) hin (by omega) hnc 1 1
  subst hl
  refine gives_true (m := ⟨[dlA zs, (1, some (mlG x))], 2⟩) (args := [.sl false 0 1 0 1 zs.length (some c), vs s]) (xs := [.slice A zs.length c, .string s]) (c := bodyOf Tryd.f3) Tryd.func3 rfl (F_ret hE_dg mixedD rfl rfl (dg_true false (some c) zs x s hz)) rfl hm ?_
  exact ⟨_, _, rfl, ha, _, _, rfl, by simp [AV.rel], rfl⟩
set_option maxRecDepth 100000 in
theorem digitsLists_lifted (os : Os) (started : os.Started) (H : Type) (enc : TypeId × Value → H) :
    ReturnsInHanded {} Tryd.checked os 3 .any (fun w args => (Rows.digitsListsSpec.pre enc Tryd.prog Tryd.f3 [] false w args ∧ laidMetH Tryd.prog laidD w) ∧ sizedMet enc Tryd.prog Tryd.f3 (OpenSpec.ofChange Rows.digitsListsSpec) false w args)
      (Rows.digitsListsSpec.post enc Tryd.prog Tryd.f3 false true false false) := by
  refine returns_both (C := Tryd.checked) (X := fun w _ => laidMetH Tryd.prog laidD w) (fun _ _ _ hh h => h.of_heap hh) Tryd.own started (by kernel_rfl) Tryd.func3
    (ChangeSpec.witness_shaped (enc := enc) (C := Tryd.checked) (os := os) (X := fun w _ => laidMetH Tryd.prog laidD w) false (World.laidAll Tryd.prog os laidD) #[.slice none 0 0, .string ⟨#[]⟩] 8 (World.laidAll_os _ _ _)
      (World.shaped_of_ZipB (by kernel_rfl) (by kernel_rfl)) (by kernel_rfl) (by kernel_rfl) (by kernel_rfl)
      (by rw [MakeChecks.laidMetH_plain _ _ _ (by kernel_rfl)]; exact laidMet_laidAll _ (by kernel_rfl) (by kernel_rfl))) ?_
  intro W base args ds gs before hval0 hW hL hsh
  have hval : ∀ (j : Nat) t v, Tryd.f3.params[j]? = some t → args[j]? = some v → Value.okWide Tryd.prog W .any base t v := hval0
  have hW' := hW
  obtain ⟨p, q, hA0, hV, rfl, hfz, hnd⟩ := hW
  have hA : DataW.TrodAll enc Tryd.prog W 0 (fun _ => true) true Tryd.f3.params.toList args.toList ds p := hA0
  rw [Tryd.params3] at hA hval
  obtain ⟨v0, v1, d0, d1, p0, p1, rfl, rfl, rfl, h0, h1⟩ := trodAll_two hA
  obtain ⟨A, n, c, zs, rfl, hnn, hcn, hrn, hwn⟩ := open_reads Tryd.underlying22 Tryd.underlying3 (by kernel_rfl) (hval 0 _ v0 rfl rfl) h0
  obtain ⟨i, hin⟩ := in_ints hrn
  obtain ⟨s, rfl, hs⟩ := open_text Tryd.underlying9 (hval 1 _ v1 rfl rfl) h1
  refine Gives.use (dg_any zs A n c i s hin hrn.ints hnn (inI_of hwn) hsh) fun W' hb => ?_
  exact ⟨_, rfl, law_post Tryd.laidOut (by kernel_rfl) (by kernel_rfl) Tryd.underlying4 rfl hW' ⟨rfl, rfl, rfl⟩ hb⟩
theorem digitsLists_holds : Rows.DigitsListsSaid :=
  OpenClaim.holds_of_wide 3 Tryd.f3 rfl rfl rfl rfl rfl rfl rfl ⟨rfl, rfl, rfl, rfl, rfl⟩ rfl rfl rfl rfl rfl (by kernel_rfl) Tryd.func3 (by kernel_rfl)
    (of_decide_eq_true (by kernel_rfl)) (by unfold Func.isWrapper; first | (rw [if_pos (by decide +kernel)]; kernel_rfl) | (rw [if_neg (by decide +kernel)]; exact ⟨rfl, rfl⟩))
    (fun os started H enc _ => digitsLists_lifted os started H enc)
theorem digitsLists_card : Rows.DigitsListsCardSaid :=
  Claim7.holds_tied_plain_at .later [] [.data, .pinned] true (true, "e0de02e10d6383853cafe197c6223b3f67160a2e6ada19b86f354aa0fd611d1b") false digitsLists_holds (fun _ h => by cases h) (by kernel_rfl) (fun _ h => by cases h) digitsLists_row_tie rfl ⟨rfl, rfl⟩ (by kernel_rfl) rfl
    (fun f fn hf hfn => by
      obtain rfl : f = 3 := Option.some.inj ((show Tryd.prog.funcNamed "haymow/haymowlaw03.DigitsLists" = some 3 by kernel_rfl).symm.trans hf) |>.symm
      obtain rfl : fn = Tryd.f3 := (Option.some.inj (Tryd.func3.symm.trans hfn)).symm
      exact ⟨by kernel_rfl, fun j t ht => by
        rw [Tryd.params3] at ht
        have hm : t ∈ [22, 9] := by simpa using Array.mem_of_getElem? ht
        have hall : ([22, 9].all fun u => !Tryd.prog.wantsStandIn u) = true := by kernel_rfl
        exact (show Tryd.prog.wantsStandIn t = false by simpa using List.all_eq_true.1 hall t hm)⟩)
    (by kernel_rfl)
end Go.Proofs.YtpmcflidggofkaaDoor
