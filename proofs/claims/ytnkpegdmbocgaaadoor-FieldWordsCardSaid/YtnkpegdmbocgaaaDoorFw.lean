/-
  The law FieldWords: it answers true, for every word, field and number. No condition.
-/
import Derived.Test.YtnkpegdmbocgaaaDoorFwc
namespace Go.Proofs.YtnkpegdmbocgaaaDoor
open Go Go.ChangeShapes Go.WideShapes Go.ChangeAt Go.RowKit Go.Deep
theorem cMask (a s : Nat) (h : a + s ≤ 64) : c_field_Mask a s = true := by
  unfold c_field_Mask
  rw [IntWalk.i64_in (64 - (s : Int)) (by omega), decide_eq_true (show (0 : Int) ≤ 64 - s by omega), decide_eq_true (show (0 : Int) ≤ a by omega)]
  cases field_Right_0 a s <;> rfl
theorem cGet (w : Int) (a s : Nat) (h : a + s ≤ 64) : c_field_Get w a s = true := by
  unfold c_field_Get
  rw [cMask a s h, decide_eq_true (show (0 : Int) ≤ a by omega)]
  cases field_Right_0 a s <;> rfl
theorem cPut (w : Int) (n a s : Nat) (hn : n < 2 ^ 64) (h : a + s ≤ 64) : c_field_Put w a s n = true := by
  unfold c_field_Put
  rw [cMask a s h, decide_eq_true (show (0 : Int) ≤ a by omega), decide_eq_true (show (0 : Int) ≤ n by omega), decide_eq_true (show (n : Int) ≤ 18446744073709551615 by omega)]
  cases field_Right_0 a s <;> cases decide ((s : Int) < Int.ofNat (Lib.bitLen (n : Int).toNat)) <;> rfl
theorem put_no (w : Int) (a s n : Nat) (h1 : 1 ≤ s) (h : a + s ≤ 64) (hn : n < 2 ^ 64) (hb : ¬ n < 2 ^ s) : field_Put_0 w a s n = 0 ∧ field_Put_1 w a s n = 2 := by
  unfold field_Put_0 field_Put_1
  have hr : haymowref02_Right_0 a s = true := (right_iff _ _).2 ⟨by omega, by omega, by omega, by omega⟩
  have hl : ¬ Lib.bitLen n ≤ s := fun g => hb ((bl_le n s hn).1 g)
  rw [fRight, hr, Int.toNat_natCast, decide_eq_true (show (s : Int) < Int.ofNat (Lib.bitLen n) by show (s : Int) < ((Lib.bitLen n : Nat) : Int); omega)]
  exact ⟨rfl, rfl⟩
theorem put_ok (w : Int) (a s n : Nat) (h1 : 1 ≤ s) (h : a + s ≤ 64) (hb : n < 2 ^ s) : field_Put_1 w a s n = 0 := by
  unfold field_Put_1
  have hn : n < 2 ^ 64 := Nat.lt_of_lt_of_le hb (Nat.pow_le_pow_right (by omega) (by omega))
  have hr : haymowref02_Right_0 a s = true := (right_iff _ _).2 ⟨by omega, by omega, by omega, by omega⟩
  have hl : Lib.bitLen n ≤ s := (bl_le n s hn).2 hb
  rw [fRight, hr, Int.toNat_natCast, decide_eq_false (show ¬ (s : Int) < Int.ofNat (Lib.bitLen n) by show ¬ (s : Int) < ((Lib.bitLen n : Nat) : Int); omega)]
  rfl
theorem mask_get (a s : Nat) : getN (maskN a s) a s = maskN a s / 2 ^ a := by
  unfold getN; rw [Nat.and_self]
theorem fw_gives (w n : Nat) (a s : Int) (hw : w < 2 ^ 64) (hn : n < 2 ^ 64) (ha : -9223372036854775808 ≤ a ∧ a ≤ 9223372036854775807) (hs : -9223372036854775808 ≤ s ∧ s ≤ 9223372036854775807) : Gives_ Tryd.prog Tryd.f4 1 (enterA Tryd.f4 (bodyOf Tryd.f4) [vu w, .agg [vi a, vi s], vu n] tzM) (vb true) ⟨[], 99⟩ := by
  have h := run_fw w a s n
  cases hr : haymowref02_Right_0 a s with
  | false =>
    have hf : field_Right_0 a s = false := hr
    have e1 : c_field_Put w a s n = true := by unfold c_field_Put; rw [hf]; rfl
    have e2 : c_field_Mask a s = true := by unfold c_field_Mask; rw [hf]; rfl
    have e3 : c_field_Get w a s = true := by unfold c_field_Get; rw [hf]; rfl
    have e4 : field_Mask_0 a s = 0 := by unfold field_Mask_0; rw [hf]; rfl
    have e5 : field_Get_0 w a s = 0 := by unfold field_Get_0; rw [hf]; rfl
    have e6 : field_Put_0 w a s n = 0 := by unfold field_Put_0; rw [hf]; rfl
    have e7 : field_Put_1 w a s n = 1 := by unfold field_Put_1; rw [hf]; rfl
    rw [hr, hf, e1, e2, e3, e4, e5, e6, e7] at h
    exact gives_of (c := bodyOf Tryd.f4) hE_w2 (drawAB_ok hE_w2 mixed) rfl rfl h rfl
  | true =>
    have hf : field_Right_0 a s = true := hr
    obtain ⟨h1, h2, h3, h4⟩ := (right_iff a s).1 hr
    obtain ⟨a, rfl⟩ : ∃ k : Nat, a = k := ⟨a.toNat, by omega⟩
    obtain ⟨s, rfl⟩ : ∃ k : Nat, s = k := ⟨s.toNat, by omega⟩
    have h5 : 1 ≤ s := by omega
    have h6 : a + s ≤ 64 := by omega
    have hm := maskN_lt a s h6
    have hmd : (maskN a s : Int).fdiv (2 ^ a) = ((maskN a s / 2 ^ a : Nat) : Int) := by
      have h4 := fdivN (maskN a s) (2 ^ a) (Nat.two_pow_pos _)
      rw [show (((2 : Nat) ^ a : Nat) : Int) = (2 : Int) ^ a by simp] at h4
      exact h4
    have hwr : IntKind.u64.wrap (a : Int) = a := wrapU a (by omega)
    have hmin : min ((a : Int)).toNat 64 = a := by omega
    simp only [hr, hf, cMask a s h6, cGet w a s h6, cPut w n a s hn h6, mask_eq a s h5 h6, get_eq w a s hw h5 h6, Int.toNat_natCast, getR_eq _ a s h6, hwr, mask_get, ones_mask a s h6, fitR_eq n s hn] at h
    rw [show min a 64 = a by omega, hmd] at h
    have d1 : decide ((0 : Int) ≤ w) = true := decide_eq_true (by omega)
    have d2 : decide ((w : Int) ≤ 18446744073709551615) = true := decide_eq_true (by omega)
    have d3 : decide ((0 : Int) ≤ a) = true := decide_eq_true (by omega)
    have d4 : decide ((0 : Int) ≤ s) = true := decide_eq_true (by omega)
    have d5 : decide ((a : Int) + s ≤ 64) = true := decide_eq_true (by omega)
    have d6 : decide ((0 : Int) ≤ (maskN a s : Int)) = true := decide_eq_true (by omega)
    have d7 : decide ((maskN a s : Int) ≤ 18446744073709551615) = true := decide_eq_true (by omega)
    have d8 : decide ((0 : Int) ≤ n) = true := decide_eq_true (by omega)
    have d9 : decide ((n : Int) ≤ 18446744073709551615) = true := decide_eq_true (by omega)
    rw [d1, d2, d3, d4, d5, d6, d7, d8, d9, bne_self_eq_false, bne_self_eq_false, bne_self_eq_false] at h
    by_cases c : n < 2 ^ s
    · rw [decide_eq_true c, put_eq w a s n hw c h5 h6, putR_eq w a s n hw c h6, put_ok w a s n h5 h6 c, beq_self_eq_true] at h
      exact gives_of (c := bodyOf Tryd.f4) hE_w2 (drawAB_ok hE_w2 mixed) rfl rfl h rfl
    · obtain ⟨p0, p1⟩ := put_no w a s n h5 h6 hn c
      rw [decide_eq_false c, p0, p1] at h
      exact gives_of (c := bodyOf Tryd.f4) hE_w2 (drawAB_ok hE_w2 mixed) rfl rfl h rfl
theorem fw_any (w n : Nat) (a s : Int) (hw : w < 2 ^ 64) (hn : n < 2 ^ 64) (ha : -9223372036854775808 ≤ a ∧ a ≤ 9223372036854775807) (hs : -9223372036854775808 ≤ s ∧ s ≤ 9223372036854775807) {W : World} (h : laidMetH Tryd.prog laidD W) : Gives 4 #[.int .u64 w, .agg #[.int .i64 a, .int .i64 s], .int .u64 n] W (.bool true) :=
  law_true (m := tzM) (args := [vu w, .agg [vi a, vi s], vu n]) (xs := [.int .u64 w, .agg #[.int .i64 a, .int .i64 s], .int .u64 n]) Tryd.func4 rfl (fw_gives w n a s hw hn ha hs) rfl (tab_there h) (by simp [AV.rels, AV.rel])
set_option maxRecDepth 100000 in
theorem fieldWords_lifted (os : Os) (started : os.Started) (H : Type) (enc : TypeId × Value → H) :
    ReturnsInHanded {} Tryd.checked os 4 .any (fun w args => (Rows.fieldWordsSpec.pre enc Tryd.prog Tryd.f4 [] false w args ∧ laidMetH Tryd.prog laidD w) ∧ sizedMet enc Tryd.prog Tryd.f4 (OpenSpec.ofChange Rows.fieldWordsSpec) false w args)
      (Rows.fieldWordsSpec.post enc Tryd.prog Tryd.f4 false true false false) := by
  refine returnsInHanded_of_change_and (C := Tryd.checked) (X := fun w _ => laidMetH Tryd.prog laidD w) (fun _ _ _ hh h => h.of_heap hh) Tryd.own started (by kernel_rfl) Tryd.func4
    (ChangeSpec.witness_shaped (enc := enc) (C := Tryd.checked) (os := os) (X := fun w _ => laidMetH Tryd.prog laidD w) false (World.laidAll Tryd.prog os laidD) #[.int .u64 0, .agg #[.int .i64 0, .int .i64 0], .int .u64 0] 8 (World.laidAll_os _ _ _)
      (World.shaped_of_ZipB (by kernel_rfl) (by kernel_rfl)) (by kernel_rfl) (by kernel_rfl) (by kernel_rfl)
      (by rw [MakeChecks.laidMetH_plain _ _ _ (by kernel_rfl)]; exact laidMet_laidAll _ (by kernel_rfl) (by kernel_rfl))) ?_
  intro W base args ds gs before hval0 hW _ _ hL _
  have hval : ∀ (j : Nat) t v, Tryd.f4.params[j]? = some t → args[j]? = some v → Value.okWide Tryd.prog W .any base t v := hval0
  have hW' := hW
  obtain ⟨p, q, hA0, hV, rfl, hfz, hnd⟩ := hW
  have hA : DataW.TrodAll enc Tryd.prog W 0 (fun _ => true) true Tryd.f4.params.toList args.toList ds p := hA0
  rw [Tryd.params4] at hA hval
  obtain ⟨v0, v1, v2, d0, d1, d2, p0, p1, p2, rfl, rfl, rfl, h0, h1, h2⟩ := trodAll_three hA
  obtain ⟨x, rfl, rfl, rfl, wx⟩ := open_int Tryd.underlying22 (hval 0 _ v0 rfl rfl) h0
  obtain ⟨l1_, rfl, hl1_, hg1_⟩ := open_struct Tryd.underlying32 (by kernel_rfl) (by kernel_rfl) (hval 1 _ v1 rfl rfl) h1
  obtain ⟨c1_0, c1_1, rfl⟩ := list2 hl1_
  obtain ⟨a, rfl, wa⟩ := field_int Tryd.underlying3 (hg1_ 0 _ _ rfl rfl)
  obtain ⟨s, rfl, ws⟩ := field_int Tryd.underlying3 (hg1_ 1 _ _ rfl rfl)
  obtain ⟨y, rfl, rfl, rfl, wy⟩ := open_int Tryd.underlying22 (hval 2 _ v2 rfl rfl) h2
  obtain ⟨n, rfl⟩ : ∃ n : Nat, x = n := ⟨x.toNat, by have := wf_u64 wx; omega⟩
  obtain ⟨k, rfl⟩ : ∃ k : Nat, y = k := ⟨y.toNat, by have := wf_u64 wy; omega⟩
  have hx := wf_u64 wx
  have hy := wf_u64 wy
  refine Gives.use (fw_any n k a s (by omega) (by omega) (wf_i64 wa) (wf_i64 ws) hL) fun W' hb => ?_
  exact ⟨_, rfl, law_post Tryd.laidOut (by kernel_rfl) (by kernel_rfl) Tryd.underlying4 rfl hW' ⟨rfl, rfl, rfl⟩ hb⟩
theorem fieldWords_holds : Rows.FieldWordsSaid :=
  OpenClaim.holds_of_wide 4 Tryd.f4 rfl rfl rfl rfl rfl rfl rfl ⟨rfl, rfl, rfl, rfl, rfl⟩ rfl rfl rfl rfl rfl (by kernel_rfl) Tryd.func4 (by kernel_rfl)
    (of_decide_eq_true (by kernel_rfl)) (by unfold Func.isWrapper; first | (rw [if_pos (by decide +kernel)]; kernel_rfl) | (rw [if_neg (by decide +kernel)]; exact ⟨rfl, rfl⟩))
    (fun os started H enc _ => fieldWords_lifted os started H enc)
theorem fieldWords_card : Rows.FieldWordsCardSaid :=
  Claim7.holds_tied_plain_at .later [] [.data] true (true, "1aa8895dbdcc7b8fa130098f3bca7f6749d2dd39c44ce41953a4a50460cb8707") false fieldWords_holds (fun _ h => by cases h) (by kernel_rfl) (fun _ h => by cases h) fieldWords_row_tie rfl ⟨rfl, rfl⟩ (by kernel_rfl) rfl
    (fun f fn hf hfn => by
      obtain rfl : f = 4 := Option.some.inj ((show Tryd.prog.funcNamed "haymow/haymowlaw02.FieldWords" = some 4 by kernel_rfl).symm.trans hf) |>.symm
      obtain rfl : fn = Tryd.f4 := (Option.some.inj (Tryd.func4.symm.trans hfn)).symm
      exact ⟨by kernel_rfl, fun j t ht => by
        rw [Tryd.params4] at ht
        have hm : t ∈ [22, 32, 22] := by simpa using Array.mem_of_getElem? ht
        have hall : ([22, 32, 22].all fun u => !Tryd.prog.wantsStandIn u) = true := by kernel_rfl
        exact (show Tryd.prog.wantsStandIn t = false by simpa using List.all_eq_true.1 hall t hm)⟩)
    (by kernel_rfl)
end Go.Proofs.YtnkpegdmbocgaaaDoor
