/-
  The statement ScriptTexts of layer 42 (script), proved: a tied card. No condition.
-/
import Derived.Test.YtpmcflidggofkaaDoorGsTf
namespace Go.Proofs.YtpmcflidggofkaaDoor
open Go Go.ChangeShapes Go.WideShapes Go.ChangeAt Go.RowKit Go.Deep
theorem fits5 {n : Nat} {cs : List Col} (h : Fits n [.i .i64, .i .i64, .i .i64, .i .i64, .i .i64] cs) : ∃ c : Nat → List Int, cs = [.ints .i64 (c 0), .ints .i64 (c 1), .ints .i64 (c 2), .ints .i64 (c 3), .ints .i64 (c 4)] ∧ (∀ k, (c k).length = n) ∧ ∀ k, inI (c k) = true := by
  simp only [Fits, CK.fits] at h
  obtain ⟨_, _, rfl, ⟨c0, rfl, l0, w0⟩, _, _, rfl, ⟨c1, rfl, l1, w1⟩, _, _, rfl, ⟨c2, rfl, l2, w2⟩, _, _, rfl, ⟨c3, rfl, l3, w3⟩, _, _, rfl, ⟨c4, rfl, l4, w4⟩, rfl⟩ := h
  have key : ∀ l : List Int, l.length = n → (∀ j, j < n → (Lit.int .i64 (l.getD j 0)).wf = true) → inI l = true := fun l hl hw => inI_of fun z hz => by
    obtain ⟨j, hj, rfl⟩ := List.mem_iff_getElem.1 hz
    have := hw j (by omega)
    rw [List.getD_eq_getElem?_getD, List.getElem?_eq_getElem hj] at this
    exact this
  exact ⟨c5 c0 c1 c2 c3 c4, rfl, fun k => match k with | 0 => l0 | 1 => l1 | 2 => l2 | 3 => l3 | 4 => l4 | k + 5 => l4, fun k => match k with | 0 => key _ l0 w0 | 1 => key _ l1 w1 | 2 => key _ l2 w2 | 3 => key _ l3 w3 | 4 => key _ l4 w4 | k + 5 => key _ l4 w4⟩
theorem st_any (A : Option Addr) (n k : Nat) (i : LI) (cs : List Col) (a b c d e : Int) {W : World} (hf : Fits n [.i .i64, .i .i64, .i .i64, .i .i64, .i .i64] cs) (hin : InB W A n (.rows cs) i) (hnc : n ≤ k) (hz : inI [a, b, c, d, e] = true) (hsh : W.ShapedOpen Tryd.prog) :
    Gives 9 #[.agg #[.int .i64 a, .int .i64 b, .int .i64 c, .int .i64 d, .int .i64 e], .slice A n k] W (.bool true) := by
  obtain ⟨x, hx⟩ := ml_there hsh
  obtain ⟨cl, rfl, hl, hw⟩ := fits5 hf
  have hm : MRel (fun l => if l = 0 then i else ⟨0, 0, 0, 0⟩) ⟨stA x cl, 2⟩ W := mrel_two (hin.ok _ _) (hx _ _) rfl rfl
  have ha := InB.arg (ρ := fun l => if l = 0 then i else ⟨0, 0, 0, 0⟩) (l := 0) (nx := 2) (c := k) (n := n) hin (by omega) hnc 5 1
  exact gives_true (m := ⟨stA x cl, 2⟩) (args := [.agg [vi a, vi b, vi c, vi d, vi e], .sl false 0 5 0 1 n (some k)]) (xs := [.agg #[.int .i64 a, .int .i64 b, .int .i64 c, .int .i64 d, .int .i64 e], .slice A n k]) (c := bodyOf Tryd.f9) Tryd.func9 rfl
    (st_all x (g5 a b c d e) n (some k) cl hl hw hz) rfl hm ⟨_, _, rfl, agg5_rel a b c d e, _, _, rfl, ha, rfl⟩
set_option maxRecDepth 100000 in
theorem scriptTexts_lifted (os : Os) (started : os.Started) (H : Type) (enc : TypeId × Value → H) :
    ReturnsInHanded {} Tryd.checked os 9 .any (fun w args => (Rows.scriptTextsSpec.pre enc Tryd.prog Tryd.f9 [] false w args ∧ laidMetH Tryd.prog laidD w) ∧ sizedMet enc Tryd.prog Tryd.f9 (OpenSpec.ofChange Rows.scriptTextsSpec) false w args)
      (Rows.scriptTextsSpec.post enc Tryd.prog Tryd.f9 false true false false) := by
  refine returns_both (C := Tryd.checked) (X := fun w _ => laidMetH Tryd.prog laidD w) (fun _ _ _ hh h => h.of_heap hh) Tryd.own started (by kernel_rfl) Tryd.func9
    (ChangeSpec.witness_shaped (enc := enc) (C := Tryd.checked) (os := os) (X := fun w _ => laidMetH Tryd.prog laidD w) false (World.laidAll Tryd.prog os laidD) #[.agg #[.int .i64 0, .int .i64 0, .int .i64 0, .int .i64 0, .int .i64 0], .slice none 0 0] 8 (World.laidAll_os _ _ _)
      (World.shaped_of_ZipB (by kernel_rfl) (by kernel_rfl)) (by kernel_rfl) (by kernel_rfl) (by kernel_rfl)
      (by rw [MakeChecks.laidMetH_plain _ _ _ (by kernel_rfl)]; exact laidMet_laidAll _ (by kernel_rfl) (by kernel_rfl))) ?_
  intro W base args ds gs before hval0 hW hL hsh
  have hval : ∀ (j : Nat) t v, Tryd.f9.params[j]? = some t → args[j]? = some v → Value.okWide Tryd.prog W .any base t v := hval0
  have hW' := hW
  obtain ⟨p, q, hA0, hV, rfl, hfz, hnd⟩ := hW
  have hA : DataW.TrodAll enc Tryd.prog W 0 (fun _ => true) true Tryd.f9.params.toList args.toList ds p := hA0
  rw [Tryd.params9] at hA hval
  obtain ⟨v0, v1, d0, d1, p0, p1, rfl, rfl, rfl, h0, h1⟩ := trodAll_two hA
  obtain ⟨l0_, rfl, hl0_, hg0_⟩ := open_struct Tryd.underlying48 (by kernel_rfl) (by kernel_rfl) (hval 0 _ v0 rfl rfl) h0
  obtain ⟨c0_0, c0_1, c0_2, c0_3, c0_4, rfl⟩ := list5 hl0_
  obtain ⟨a, rfl, wa⟩ := field_int Tryd.underlying3 (hg0_ 0 _ _ rfl rfl)
  obtain ⟨b, rfl, wb⟩ := field_int Tryd.underlying3 (hg0_ 1 _ _ rfl rfl)
  obtain ⟨c, rfl, wc⟩ := field_int Tryd.underlying3 (hg0_ 2 _ _ rfl rfl)
  obtain ⟨d, rfl, wd⟩ := field_int Tryd.underlying3 (hg0_ 3 _ _ rfl rfl)
  obtain ⟨e, rfl, we⟩ := field_int Tryd.underlying3 (hg0_ 4 _ _ rfl rfl)
  obtain ⟨A, n, k, cs, i, rfl, hnc, hc, hf, hin⟩ := open_nrows [.i .i64, .i .i64, .i .i64, .i .i64, .i .i64] Tryd.underlying63 (show leavesT Tryd.prog 9 36 = some [33, 3, 3, 3, 3] by kernel_rfl) (by kernel_rfl) (by decide) (by kernel_rfl) (hval 1 _ v1 rfl rfl) h1
  refine Gives.use (st_any A n k i cs a b c d e hf hin hnc (inI_5 wa wb wc wd we) hsh) fun W' hb => ?_
  exact ⟨_, rfl, law_post Tryd.laidOut (by kernel_rfl) (by kernel_rfl) Tryd.underlying4 rfl hW' ⟨rfl, rfl, rfl⟩ hb⟩
theorem scriptTexts_holds : Rows.ScriptTextsSaid :=
  OpenClaim.holds_of_wide 9 Tryd.f9 rfl rfl rfl rfl rfl rfl rfl ⟨rfl, rfl, rfl, rfl, rfl⟩ rfl rfl rfl rfl rfl (by kernel_rfl) Tryd.func9 (by kernel_rfl)
    (of_decide_eq_true (by kernel_rfl)) (by unfold Func.isWrapper; first | (rw [if_pos (by decide +kernel)]; kernel_rfl) | (rw [if_neg (by decide +kernel)]; exact ⟨rfl, rfl⟩))
    (fun os started H enc _ => scriptTexts_lifted os started H enc)
theorem scriptTexts_card : Rows.ScriptTextsCardSaid :=
  Claim7.holds_tied_plain_at .later [] [.data, .pinned] true (true, "e0de02e10d6383853cafe197c6223b3f67160a2e6ada19b86f354aa0fd611d1b") false scriptTexts_holds (fun _ h => by cases h) (by kernel_rfl) (fun _ h => by cases h) scriptTexts_row_tie rfl ⟨rfl, rfl⟩ (by kernel_rfl) rfl
    (fun f fn hf hfn => by
      obtain rfl : f = 9 := Option.some.inj ((show Tryd.prog.funcNamed "haymow/haymowlaw42.ScriptTexts" = some 9 by kernel_rfl).symm.trans hf) |>.symm
      obtain rfl : fn = Tryd.f9 := (Option.some.inj (Tryd.func9.symm.trans hfn)).symm
      exact ⟨by kernel_rfl, fun j t ht => by
        rw [Tryd.params9] at ht
        have hm : t ∈ [48, 63] := by simpa using Array.mem_of_getElem? ht
        have hall : ([48, 63].all fun u => !Tryd.prog.wantsStandIn u) = true := by kernel_rfl
        exact (show Tryd.prog.wantsStandIn t = false by simpa using List.all_eq_true.1 hall t hm)⟩)
    (by kernel_rfl)
end Go.Proofs.YtpmcflidggofkaaDoor
