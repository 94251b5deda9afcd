/-
  The law FieldKeeps: it answers true, for every word, two fields and number. No condition.
-/
import Derived.Test.YtnkpegdmbocgaaaDoorFkc
namespace Go.Proofs.YtnkpegdmbocgaaaDoor
open Go Go.ChangeShapes Go.WideShapes Go.ChangeAt Go.RowKit Go.Deep
theorem fk_any (w n : Nat) (a s b t : Int) (hw : w < 2 ^ 64) (hn : n < 2 ^ 64) {W : World} (h : laidMetH Tryd.prog laidD W) : Gives 5 #[.int .u64 w, .agg #[.int .i64 a, .int .i64 s, .int .i64 b, .int .i64 t], .int .u64 n] W (.bool true) :=
  law_true (m := tzM) (args := [vu w, .agg [vi a, vi s, vi b, vi t], vu n]) (xs := [.int .u64 w, .agg #[.int .i64 a, .int .i64 s, .int .i64 b, .int .i64 t], .int .u64 n]) Tryd.func5 rfl (fk_gives w n a s b t hw hn) rfl (tab_there h) (by simp [AV.rels, AV.rel])
set_option maxRecDepth 100000 in
theorem fieldKeeps_lifted (os : Os) (started : os.Started) (H : Type) (enc : TypeId × Value → H) :
    ReturnsInHanded {} Tryd.checked os 5 .any (fun w args => (Rows.fieldKeepsSpec.pre enc Tryd.prog Tryd.f5 [] false w args ∧ laidMetH Tryd.prog laidD w) ∧ sizedMet enc Tryd.prog Tryd.f5 (OpenSpec.ofChange Rows.fieldKeepsSpec) false w args)
      (Rows.fieldKeepsSpec.post enc Tryd.prog Tryd.f5 false true false false) := by
  refine returnsInHanded_of_change_and (C := Tryd.checked) (X := fun w _ => laidMetH Tryd.prog laidD w) (fun _ _ _ hh h => h.of_heap hh) Tryd.own started (by kernel_rfl) Tryd.func5
    (ChangeSpec.witness_shaped (enc := enc) (C := Tryd.checked) (os := os) (X := fun w _ => laidMetH Tryd.prog laidD w) false (World.laidAll Tryd.prog os laidD) #[.int .u64 0, .agg #[.int .i64 0, .int .i64 0, .int .i64 0, .int .i64 0], .int .u64 0] 8 (World.laidAll_os _ _ _)
      (World.shaped_of_ZipB (by kernel_rfl) (by kernel_rfl)) (by kernel_rfl) (by kernel_rfl) (by kernel_rfl)
      (by rw [MakeChecks.laidMetH_plain _ _ _ (by kernel_rfl)]; exact laidMet_laidAll _ (by kernel_rfl) (by kernel_rfl))) ?_
  intro W base args ds gs before hval0 hW _ _ hL _
  have hval : ∀ (j : Nat) t v, Tryd.f5.params[j]? = some t → args[j]? = some v → Value.okWide Tryd.prog W .any base t v := hval0
  have hW' := hW
  obtain ⟨p, q, hA0, hV, rfl, hfz, hnd⟩ := hW
  have hA : DataW.TrodAll enc Tryd.prog W 0 (fun _ => true) true Tryd.f5.params.toList args.toList ds p := hA0
  rw [Tryd.params5] at hA hval
  obtain ⟨v0, v1, v2, d0, d1, d2, p0, p1, p2, rfl, rfl, rfl, h0, h1, h2⟩ := trodAll_three hA
  obtain ⟨x, rfl, rfl, rfl, wx⟩ := open_int Tryd.underlying22 (hval 0 _ v0 rfl rfl) h0
  obtain ⟨l1_, rfl, hl1_, hg1_⟩ := open_flat (ls := [3, 3, 3, 3]) Tryd.underlying45 rfl (by kernel_rfl) (by kernel_rfl) (hval 1 _ v1 rfl rfl) h1
  obtain ⟨c1_0, r1_0, rfl, hr1_0⟩ := list_cons hl1_
  obtain ⟨c1_1, r1_1, rfl, hr1_1⟩ := list_cons hr1_0
  obtain ⟨c1_2, r1_2, rfl, hr1_2⟩ := list_cons hr1_1
  obtain ⟨c1_3, r1_3, rfl, hr1_3⟩ := list_cons hr1_2
  cases list_nil hr1_3
  obtain ⟨a, rfl, wa⟩ := field_int Tryd.underlying3 (hg1_ 0 _ _ rfl rfl)
  obtain ⟨s, rfl, ws⟩ := field_int Tryd.underlying3 (hg1_ 1 _ _ rfl rfl)
  obtain ⟨b, rfl, wb⟩ := field_int Tryd.underlying3 (hg1_ 2 _ _ rfl rfl)
  obtain ⟨t, rfl, wt⟩ := field_int Tryd.underlying3 (hg1_ 3 _ _ rfl rfl)
  obtain ⟨y, rfl, rfl, rfl, wy⟩ := open_int Tryd.underlying22 (hval 2 _ v2 rfl rfl) h2
  obtain ⟨n, rfl⟩ : ∃ n : Nat, x = n := ⟨x.toNat, by have := wf_u64 wx; omega⟩
  obtain ⟨k, rfl⟩ : ∃ k : Nat, y = k := ⟨y.toNat, by have := wf_u64 wy; omega⟩
  have hx := wf_u64 wx
  have hy := wf_u64 wy
  refine Gives.use (fk_any n k a s b t (by omega) (by omega) hL) fun W' hb => ?_
  exact ⟨_, rfl, law_post Tryd.laidOut (by kernel_rfl) (by kernel_rfl) Tryd.underlying4 rfl hW' ⟨rfl, rfl, rfl⟩ hb⟩
theorem fieldKeeps_holds : Rows.FieldKeepsSaid :=
  OpenClaim.holds_of_wide 5 Tryd.f5 rfl rfl rfl rfl rfl rfl rfl ⟨rfl, rfl, rfl, rfl, rfl⟩ rfl rfl rfl rfl rfl (by kernel_rfl) Tryd.func5 (by kernel_rfl)
    (of_decide_eq_true (by kernel_rfl)) (by unfold Func.isWrapper; first | (rw [if_pos (by decide +kernel)]; kernel_rfl) | (rw [if_neg (by decide +kernel)]; exact ⟨rfl, rfl⟩))
    (fun os started H enc _ => fieldKeeps_lifted os started H enc)
theorem fieldKeeps_card : Rows.FieldKeepsCardSaid :=
  Claim7.holds_tied_plain_at .later [] [.data] true (true, "1aa8895dbdcc7b8fa130098f3bca7f6749d2dd39c44ce41953a4a50460cb8707") false fieldKeeps_holds (fun _ h => by cases h) (by kernel_rfl) (fun _ h => by cases h) fieldKeeps_row_tie rfl ⟨rfl, rfl⟩ (by kernel_rfl) rfl
    (fun f fn hf hfn => by
      obtain rfl : f = 5 := Option.some.inj ((show Tryd.prog.funcNamed "haymow/haymowlaw02.FieldKeeps" = some 5 by kernel_rfl).symm.trans hf) |>.symm
      obtain rfl : fn = Tryd.f5 := (Option.some.inj (Tryd.func5.symm.trans hfn)).symm
      exact ⟨by kernel_rfl, fun j t ht => by
        rw [Tryd.params5] at ht
        have hm : t ∈ [22, 45, 22] := by simpa using Array.mem_of_getElem? ht
        have hall : ([22, 45, 22].all fun u => !Tryd.prog.wantsStandIn u) = true := by kernel_rfl
        exact (show Tryd.prog.wantsStandIn t = false by simpa using List.all_eq_true.1 hall t hm)⟩)
    (by kernel_rfl)
end Go.Proofs.YtnkpegdmbocgaaaDoor
