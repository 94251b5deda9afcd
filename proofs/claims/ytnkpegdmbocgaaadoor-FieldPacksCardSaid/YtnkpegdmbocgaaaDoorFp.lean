/-
  The law FieldPacks: it answers true, for all fields and numbers. No condition.
-/
import Derived.Test.YtnkpegdmbocgaaaDoorFpd
namespace Go.Proofs.YtnkpegdmbocgaaaDoor
open Go Go.ChangeShapes Go.WideShapes Go.ChangeAt Go.RowKit Go.Deep
theorem mrel_ro {ρ : Rho} {w : World} {bl : List (Nat × Option ABlk)} {nx : Nat} (h : ∀ l b, look bl l = some b → l < nx ∧ b.wr = false ∧ b.ok ρ nx (ρ l) w) : MRel ρ ⟨bl, nx⟩ w :=
  ⟨fun l b hl => ⟨(h l b hl).1, (h l b hl).2.2⟩, fun l b l' b' hl _ hw => by rw [(h l b hl).2.1] at hw; cases hw⟩
theorem inU_of {zs : List Int} (h : ∀ z ∈ zs, (Lit.int .u64 z).wf = true) : inU zs = true := by
  unfold inU
  rw [List.all_eq_true]
  intro z hz
  have := wf_u64 (h z hz)
  simp; omega
theorem fpk_any (nn mm : Bool) (az ss ns : List Int) (n k : Nat) (c d : Option Nat) (h1 : n ≤ az.length) (h2 : n ≤ ss.length) (h3 : k ≤ ns.length) (hu : inU ns = true) :
    Gives_ Tryd.prog Tryd.f6 3 (enterA Tryd.f6 (bodyOf Tryd.f6) [.sl nn 0 2 0 1 n c, .sl mm 1 1 0 1 k d] (fpB az ss ns [(2, some ⟨false, false, .obj (.glob 0 (.ints .u8 tzTab))⟩)] 3)) (vb true) ⟨[], 99⟩ := by
  by_cases a : n ≤ 70
  · by_cases b : k ≤ 70
    · exact fpk_gives nn mm az ss ns n k c d a b h1 h2 h3 hu
    · have hb := fp_begin nn mm az ss ns n k c d
      rw [decide_eq_false (show ¬ (70 : Int) < n by omega), decide_eq_true (show (70 : Int) < k by omega)] at hb
      exact F_ret hE_w4 mixed rfl rfl hb
  · have hb := fp_begin nn mm az ss ns n k c d
    rw [decide_eq_true (show (70 : Int) < n by omega)] at hb
    exact F_ret hE_w4 mixed rfl rfl hb
theorem fpk_all (A B : Option Addr) (n c k d : Nat) (cs : List Col) (i : LI) (ns : List Int) (W : World) (hin : InB W A n (.rows cs) i) (hnc : n ≤ c) (hf : Fits n [.i .i64, .i .i64] cs) (hz : Reads W W.heap.size 1 B k (ns.map (Value.int .u64))) (hkd : k ≤ d) (hu : inU ns = true) (h : laidMetH Tryd.prog laidD W) :
    Gives 6 #[.slice A n c, .slice B k d] W (.bool true) := by
  obtain ⟨_, _, rfl, ⟨az, rfl, h1, _⟩, _, _, rfl, ⟨ss, rfl, h2, _⟩, rfl⟩ := hf
  obtain ⟨i2, hin2⟩ := in_ints hz
  have hl := hz.ints
  let ρ : Rho := fun l => if l = 0 then i else if l = 1 then i2 else ⟨0, 0, 0⟩
  have hm : MRel ρ (fpB az ss ns [(2, some ⟨false, false, .obj (.glob 0 (.ints .u8 tzTab))⟩)] 3) W := mrel_ro fun l b hb => by
    rw [look_cons] at hb
    split at hb
    · rename_i e; subst e; cases hb; exact ⟨by show (0 : Nat) < 3; omega, rfl, hin.ok ρ 3⟩
    · rw [look_cons] at hb
      split at hb
      · rename_i e; subst e; cases hb; exact ⟨by show (1 : Nat) < 3; omega, rfl, hin2.ok ρ 3⟩
      · rw [look_cons] at hb
        split at hb
        · rename_i e; subst e; cases hb; exact ⟨by show (2 : Nat) < 3; omega, rfl, (tab_there h).view (l := 0) rfl rfl ρ 3⟩
        · cases hb
  have hx : AV.rels ρ 3 [.sl false 0 2 0 1 n (some c), .sl false 1 1 0 1 k (some d)] [.slice A n c, .slice B k d] := by
    simp only [AV.rels]
    exact ⟨_, _, rfl, InB.arg (l := 0) (ρ := ρ) hin (by omega) hnc 2 1, _, _, rfl, InB.arg (l := 1) (ρ := ρ) hin2 (by omega) hkd 1 1, rfl⟩
  exact law_true (m := fpB az ss ns [(2, some ⟨false, false, .obj (.glob 0 (.ints .u8 tzTab))⟩)] 3) (args := [.sl false 0 2 0 1 n (some c), .sl false 1 1 0 1 k (some d)]) Tryd.func6 rfl (fpk_any false false az ss ns n k (some c) (some d) (by omega) (by omega) (by omega) hu) rfl hm hx
set_option maxRecDepth 100000 in
theorem fieldPacks_lifted (os : Os) (started : os.Started) (H : Type) (enc : TypeId × Value → H) :
    ReturnsInHanded {} Tryd.checked os 6 .any (fun w args => (Rows.fieldPacksSpec.pre enc Tryd.prog Tryd.f6 [] false w args ∧ laidMetH Tryd.prog laidD w) ∧ sizedMet enc Tryd.prog Tryd.f6 (OpenSpec.ofChange Rows.fieldPacksSpec) false w args)
      (Rows.fieldPacksSpec.post enc Tryd.prog Tryd.f6 false true false false) := by
  refine returnsInHanded_of_change_and (C := Tryd.checked) (X := fun w _ => laidMetH Tryd.prog laidD w) (fun _ _ _ hh h => h.of_heap hh) Tryd.own started (by kernel_rfl) Tryd.func6
    (ChangeSpec.witness_shaped (enc := enc) (C := Tryd.checked) (os := os) (X := fun w _ => laidMetH Tryd.prog laidD w) false (World.laidAll Tryd.prog os laidD) #[.slice none 0 0, .slice none 0 0] 8 (World.laidAll_os _ _ _)
      (World.shaped_of_ZipB (by kernel_rfl) (by kernel_rfl)) (by kernel_rfl) (by kernel_rfl) (by kernel_rfl)
      (by rw [MakeChecks.laidMetH_plain _ _ _ (by kernel_rfl)]; exact laidMet_laidAll _ (by kernel_rfl) (by kernel_rfl))) ?_
  intro W base args ds gs before hval0 hW _ _ hL _
  have hval : ∀ (j : Nat) t v, Tryd.f6.params[j]? = some t → args[j]? = some v → Value.okWide Tryd.prog W .any base t v := hval0
  have hW' := hW
  obtain ⟨p, q, hA0, hV, rfl, hfz, hnd⟩ := hW
  have hA : DataW.TrodAll enc Tryd.prog W 0 (fun _ => true) true Tryd.f6.params.toList args.toList ds p := hA0
  rw [Tryd.params6] at hA hval
  obtain ⟨v0, v1, d0, d1, p0, p1, rfl, rfl, rfl, h0, h1⟩ := trodAll_two hA
  obtain ⟨A, n, c, cs, i, rfl, hnc, hc, hf, hin⟩ := open_rows [.i .i64, .i .i64] Tryd.underlying48 Tryd.underlying32 (by kernel_rfl) (by kernel_rfl) (by decide) (by kernel_rfl) (hval 0 _ v0 rfl rfl) h0
  obtain ⟨B, k, d, zs, rfl, hnk, hck, hrk, hwk⟩ := open_reads Tryd.underlying49 Tryd.underlying22 (by kernel_rfl) (hval 1 _ v1 rfl rfl) h1
  refine Gives.use (fpk_all A B n c k d cs i zs W hin hnc hf hrk hnk (inU_of hwk) hL) fun W' hb => ?_
  exact ⟨_, rfl, law_post Tryd.laidOut (by kernel_rfl) (by kernel_rfl) Tryd.underlying4 rfl hW' ⟨rfl, rfl, rfl⟩ hb⟩
theorem fieldPacks_holds : Rows.FieldPacksSaid :=
  OpenClaim.holds_of_wide 6 Tryd.f6 rfl rfl rfl rfl rfl rfl rfl ⟨rfl, rfl, rfl, rfl, rfl⟩ rfl rfl rfl rfl rfl (by kernel_rfl) Tryd.func6 (by kernel_rfl)
    (of_decide_eq_true (by kernel_rfl)) (by unfold Func.isWrapper; first | (rw [if_pos (by decide +kernel)]; kernel_rfl) | (rw [if_neg (by decide +kernel)]; exact ⟨rfl, rfl⟩))
    (fun os started H enc _ => fieldPacks_lifted os started H enc)
theorem fieldPacks_card : Rows.FieldPacksCardSaid :=
  Claim7.holds_tied_plain_at .later [] [.data] true (true, "1aa8895dbdcc7b8fa130098f3bca7f6749d2dd39c44ce41953a4a50460cb8707") false fieldPacks_holds (fun _ h => by cases h) (by kernel_rfl) (fun _ h => by cases h) fieldPacks_row_tie rfl ⟨rfl, rfl⟩ (by kernel_rfl) rfl
    (fun f fn hf hfn => by
      obtain rfl : f = 6 := Option.some.inj ((show Tryd.prog.funcNamed "haymow/haymowlaw02.FieldPacks" = some 6 by kernel_rfl).symm.trans hf) |>.symm
      obtain rfl : fn = Tryd.f6 := (Option.some.inj (Tryd.func6.symm.trans hfn)).symm
      exact ⟨by kernel_rfl, fun j t ht => by
        rw [Tryd.params6] at ht
        have hm : t ∈ [48, 49] := by simpa using Array.mem_of_getElem? ht
        have hall : ([48, 49].all fun u => !Tryd.prog.wantsStandIn u) = true := by kernel_rfl
        exact (show Tryd.prog.wantsStandIn t = false by simpa using List.all_eq_true.1 hall t hm)⟩)
    (by kernel_rfl)
end Go.Proofs.YtnkpegdmbocgaaaDoor
