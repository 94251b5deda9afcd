/-
  The statement RecordLines of layer 34 (record), proved: a tied card. No condition.
-/
import Derived.Test.YtpmcflidggofkaaDoorGrLe
namespace Go.Proofs.YtpmcflidggofkaaDoor
open Go Go.ChangeShapes Go.WideShapes Go.ChangeAt Go.RowKit Go.Deep
theorem inI_4' {a b c d : Int} (h1 : (Lit.int .i64 a).wf = true) (h2 : (Lit.int .i64 b).wf = true) (h3 : (Lit.int .i64 c).wf = true) (h4 : (Lit.int .i64 d).wf = true) : inI [a, b, c, d] = true :=
  inI_of fun z hz => by
    simp only [List.mem_cons, List.not_mem_nil, or_false] at hz
    rcases hz with rfl | rfl | rfl | rfl <;> assumption
theorem rll_any (s : ByteArray) (k a b c d : Int) (hz : inI [a, b, c, d] = true) {W : World} (hsh : W.ShapedOpen Tryd.prog) : Gives 4 #[.string s, .agg #[.int .i64 k, .int .i64 a, .int .i64 b, .int .i64 c, .int .i64 d]] W (.bool true) := by
  obtain ⟨x, hm⟩ := ml_mrel hsh
  obtain ⟨r, hr⟩ := rll_true x s k a b c d hz
  exact gives_true (m := mlM [x]) (args := [vs s, .agg [vi k, vi a, vi b, vi c, vi d]]) (xs := [.string s, .agg #[.int .i64 k, .int .i64 a, .int .i64 b, .int .i64 c, .int .i64 d]]) (c := bodyOf Tryd.f4) Tryd.func4 rfl (F_ret (hE_rll r) mixedD rfl rfl hr) rfl hm
    ⟨_, _, rfl, by simp [AV.rel], _, _, rfl, agg5_rel k a b c d, rfl⟩
set_option maxRecDepth 100000 in
theorem recordLines_lifted (os : Os) (started : os.Started) (H : Type) (enc : TypeId × Value → H) :
    ReturnsInHanded {} Tryd.checked os 4 .any (fun w args => (Rows.recordLinesSpec.pre enc Tryd.prog Tryd.f4 [] false w args ∧ laidMetH Tryd.prog laidD w) ∧ sizedMet enc Tryd.prog Tryd.f4 (OpenSpec.ofChange Rows.recordLinesSpec) false w args)
      (Rows.recordLinesSpec.post enc Tryd.prog Tryd.f4 false true false false) := by
  refine returns_both (C := Tryd.checked) (X := fun w _ => laidMetH Tryd.prog laidD w) (fun _ _ _ hh h => h.of_heap hh) Tryd.own started (by kernel_rfl) Tryd.func4
    (ChangeSpec.witness_shaped (enc := enc) (C := Tryd.checked) (os := os) (X := fun w _ => laidMetH Tryd.prog laidD w) false (World.laidAll Tryd.prog os laidD) #[.string ⟨#[]⟩, .agg #[.int .i64 0, .int .i64 0, .int .i64 0, .int .i64 0, .int .i64 0]] 8 (World.laidAll_os _ _ _)
      (World.shaped_of_ZipB (by kernel_rfl) (by kernel_rfl)) (by kernel_rfl) (by kernel_rfl) (by kernel_rfl)
      (by rw [MakeChecks.laidMetH_plain _ _ _ (by kernel_rfl)]; exact laidMet_laidAll _ (by kernel_rfl) (by kernel_rfl))) ?_
  intro W base args ds gs before hval0 hW hL hsh
  have hval : ∀ (j : Nat) t v, Tryd.f4.params[j]? = some t → args[j]? = some v → Value.okWide Tryd.prog W .any base t v := hval0
  have hW' := hW
  obtain ⟨p, q, hA0, hV, rfl, hfz, hnd⟩ := hW
  have hA : DataW.TrodAll enc Tryd.prog W 0 (fun _ => true) true Tryd.f4.params.toList args.toList ds p := hA0
  rw [Tryd.params4] at hA hval
  obtain ⟨v0, v1, d0, d1, p0, p1, rfl, rfl, rfl, h0, h1⟩ := trodAll_two hA
  obtain ⟨s, rfl, hs⟩ := open_text Tryd.underlying9 (hval 0 _ v0 rfl rfl) h0
  obtain ⟨l1_, rfl, hl1_, hg1_⟩ := open_flat (ls := [33, 3, 3, 3, 3]) Tryd.underlying36 rfl (by kernel_rfl) (by kernel_rfl) (hval 1 _ v1 rfl rfl) h1
  obtain ⟨c1_0, r1_0, rfl, hr1_0⟩ := list_cons hl1_
  obtain ⟨c1_1, r1_1, rfl, hr1_1⟩ := list_cons hr1_0
  obtain ⟨c1_2, r1_2, rfl, hr1_2⟩ := list_cons hr1_1
  obtain ⟨c1_3, r1_3, rfl, hr1_3⟩ := list_cons hr1_2
  obtain ⟨c1_4, r1_4, rfl, hr1_4⟩ := list_cons hr1_3
  cases list_nil hr1_4
  obtain ⟨k, rfl, wk⟩ := field_int Tryd.underlying33 (hg1_ 0 _ _ rfl rfl)
  obtain ⟨a, rfl, wa⟩ := field_int Tryd.underlying3 (hg1_ 1 _ _ rfl rfl)
  obtain ⟨b, rfl, wb⟩ := field_int Tryd.underlying3 (hg1_ 2 _ _ rfl rfl)
  obtain ⟨c, rfl, wc⟩ := field_int Tryd.underlying3 (hg1_ 3 _ _ rfl rfl)
  obtain ⟨d, rfl, wd⟩ := field_int Tryd.underlying3 (hg1_ 4 _ _ rfl rfl)
  refine Gives.use (rll_any s k a b c d (inI_4' wa wb wc wd) hsh) fun W' hb => ?_
  exact ⟨_, rfl, law_post Tryd.laidOut (by kernel_rfl) (by kernel_rfl) Tryd.underlying4 rfl hW' ⟨rfl, rfl, rfl⟩ hb⟩
theorem recordLines_holds : Rows.RecordLinesSaid :=
  OpenClaim.holds_of_wide 4 Tryd.f4 rfl rfl rfl rfl rfl rfl rfl ⟨rfl, rfl, rfl, rfl, rfl⟩ rfl rfl rfl rfl rfl (by kernel_rfl) Tryd.func4 (by kernel_rfl)
    (of_decide_eq_true (by kernel_rfl)) (by unfold Func.isWrapper; first | (rw [if_pos (by decide +kernel)]; kernel_rfl) | (rw [if_neg (by decide +kernel)]; exact ⟨rfl, rfl⟩))
    (fun os started H enc _ => recordLines_lifted os started H enc)
theorem recordLines_card : Rows.RecordLinesCardSaid :=
  Claim7.holds_tied_plain_at .later [] [.data, .pinned] true (true, "e0de02e10d6383853cafe197c6223b3f67160a2e6ada19b86f354aa0fd611d1b") false recordLines_holds (fun _ h => by cases h) (by kernel_rfl) (fun _ h => by cases h) recordLines_row_tie rfl ⟨rfl, rfl⟩ (by kernel_rfl) rfl
    (fun f fn hf hfn => by
      obtain rfl : f = 4 := Option.some.inj ((show Tryd.prog.funcNamed "haymow/haymowlaw34.RecordLines" = some 4 by kernel_rfl).symm.trans hf) |>.symm
      obtain rfl : fn = Tryd.f4 := (Option.some.inj (Tryd.func4.symm.trans hfn)).symm
      exact ⟨by kernel_rfl, fun j t ht => by
        rw [Tryd.params4] at ht
        have hm : t ∈ [9, 36] := by simpa using Array.mem_of_getElem? ht
        have hall : ([9, 36].all fun u => !Tryd.prog.wantsStandIn u) = true := by kernel_rfl
        exact (show Tryd.prog.wantsStandIn t = false by simpa using List.all_eq_true.1 hall t hm)⟩)
    (by kernel_rfl)
end Go.Proofs.YtpmcflidggofkaaDoor
