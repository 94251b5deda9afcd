/-
  The law FieldPlaces: it answers true, for every word and every number of bits. No condition.
-/
import Derived.Test.YtnkpegdmbocgaaaDoorCards
import Derived.Test.YtnkpegdmbocgaaaDoorTie
import Derived.SevenTiedAt
import Derived.Lib.LaidU8
import Derived.Lay
import Derived.Test.YtnkpegdmbocgaaaDoorPs
import Derived.Test.YtnkpegdmbocgaaaDoorLaw
namespace Go.Proofs.YtnkpegdmbocgaaaDoor
open Go Go.ChangeShapes Go.WideShapes Go.ChangeAt Go.RowKit Go.Deep
def laidD : List (String × DataW Unit) := [("math/bits.deBruijn64tab", Rows.laid_math_bits_deBruijn64tab)]
/-- The table is there. -/
theorem tab_there {W : World} (h : laidMetH Tryd.prog laidD W) : MRel (fun _ => ⟨0, 0, 0⟩) tzM W := by
  rw [MakeChecks.laidMetH_plain _ _ _ (by kernel_rfl)] at h
  obtain ⟨g, t, cs, fuel, p, hg, hty, hvar, hd⟩ := Lib.laidMet.reads h (.head _)
  obtain rfl : g = 0 := Option.some.inj ((show Tryd.prog.globalNamed "math/bits.deBruijn64tab" = some 0 by kernel_rfl).symm.trans hg) |>.symm
  obtain rfl : t = 62 := Option.some.inj ((show (Tryd.prog.globals[0]?).map (·.type) = some 62 by kernel_rfl).symm.trans hty) |>.symm
  have hcs := Lib.cells_of_tab (zs := tzTab) Tryd.underlying62 Tryd.underlying5 (by kernel_rfl) (by kernel_rfl) hd
  refine mrel_one ⟨.inl ?_, fun r c a ha => by cases c <;> (simp only [Cont.at] at ha; cases ha), (fun h => by cases h), (fun h => by cases h), fun q hq => ?_⟩
  · simp only [World.var?, hg, Option.bind_some] at hvar
    split at hvar
    · rename_i hh; exact (Array.getElem?_eq_some_iff.1 hh).1
    · cases hvar
  · cases hq
    simp only [World.var?, hg, Option.bind_some] at hvar
    split at hvar
    · rename_i c0 t0 f0 hh
      cases hvar
      refine ⟨rfl, rfl, cs, _, _, hh, fun j v hv => ?_⟩
      simp only [Col.at, Prod.mk.injEq, decide_eq_true_eq] at hv
      obtain ⟨e, hl⟩ := hv
      cases e
      rw [← Array.getElem?_toList, hcs]
      simp [hl]
    · cases hvar
theorem places_len (n : Nat) : (placesN n).length ≤ 64 := by
  unfold placesN
  rw [List.length_map]
  exact Nat.le_trans (List.length_filter_le _ _) (by simp)
theorem wf_u8 {z : Int} (h : (Lit.int .u8 z).wf = true) : 0 ≤ z ∧ z ≤ 255 := by
  simp only [Lit.wf, Bool.and_eq_true, decide_eq_true_eq] at h
  have e1 : IntKind.min .u8 = 0 := by decide
  have e2 : IntKind.max .u8 = 255 := by decide
  rw [e1, e2] at h
  exact h
theorem fp_gives (n k : Nat) (hn : n < 2 ^ 64) (hk : k ≤ 255) : Gives_ Tryd.prog Tryd.f3 1 (enterA Tryd.f3 (bodyOf Tryd.f3) [vu n, .val (.int .u8 k)] tzM) (vb true) ⟨[], 99⟩ := by
  have h := run_fp n k
  have hl := places_len n
  have hw : IntKind.i64.wrap (k : Int) = k := by rw [IntKind.wrap_i64]; omega
  have e70 : (placesN n).take (Int.toNat 70) = placesN n := List.take_of_length_le (by show _ ≤ 70; omega)
  rw [Int.toNat_natCast, hw, Int.toNat_natCast, e70, show field_Ones_0 (n : Int) = ((placesN n).length : Int) from ones_eq n hn] at h
  have em : (placesN n).take ((min ((placesN n).length : Int) (k : Int)).toNat - Int.toNat 0) = (placesN n).take k := by
    rw [show (min ((placesN n).length : Int) (k : Int)).toNat - Int.toNat 0 = min (placesN n).length k by show _ - 0 = _; omega]
    by_cases hc : k ≤ (placesN n).length
    · rw [Nat.min_eq_right hc]
    · rw [Nat.min_eq_left (by omega), List.take_length, List.take_of_length_le (by omega)]
  have e1 : ∀ L : List Int, L.take L.length = L := fun L => List.take_length
  rw [e1, em, e1] at h
  have st : ∀ L : List Int, sameL L L = true := fun L => decide_eq_true rfl
  rw [st, st, cond_true, cond_true, beq_self_eq_true] at h
  refine gives_of (c := bodyOf Tryd.f3) hE_lw (drawAB_ok hE_lw mixed) rfl rfl h ?_
  have hk' : ((placesN n).take k).length ≤ 64 := by rw [List.length_take]; omega
  have hm0 : 0 ≤ min ((placesN n).length : Int) (k : Int) := by omega
  have hm1 : min ((placesN n).length : Int) (k : Int) ≤ ((placesN n).length : Int) := by omega
  have hb : ∀ a b : Nat, a ≤ b → Nat.ble a b = true := fun a b h => Nat.ble_eq_true_of_le h
  rw [hb _ _ (Nat.le_refl (placesN n).length), hb _ 9223372036854775807 (by omega), hb _ _ (Nat.le_refl _), hb ((min ((placesN n).length : Int) (k : Int)).toNat - Int.toNat 0) (placesN n).length (by show _ - 0 ≤ _; omega), hb _ 9223372036854775807 (by omega), decide_eq_true hm0, decide_eq_true hm1, decide_eq_true (show (0 : Int) ≤ n by omega), decide_eq_true (show (n : Int) ≤ 18446744073709551615 by omega)]
  rfl
theorem fp_any (n k : Nat) (hn : n < 2 ^ 64) (hk : k ≤ 255) {W : World} (h : laidMetH Tryd.prog laidD W) : Gives 3 #[.int .u64 n, .int .u8 k] W (.bool true) :=
  law_true (m := tzM) (args := [vu n, .val (.int .u8 k)]) (xs := [.int .u64 n, .int .u8 k]) Tryd.func3 rfl (fp_gives n k hn hk) rfl (tab_there h) (by simp [AV.rels, AV.rel])
set_option maxRecDepth 100000 in
theorem fieldPlaces_lifted (os : Os) (started : os.Started) (H : Type) (enc : TypeId × Value → H) :
    ReturnsInHanded {} Tryd.checked os 3 .any (fun w args => (Rows.fieldPlacesSpec.pre enc Tryd.prog Tryd.f3 [] false w args ∧ laidMetH Tryd.prog laidD w) ∧ sizedMet enc Tryd.prog Tryd.f3 (OpenSpec.ofChange Rows.fieldPlacesSpec) false w args)
      (Rows.fieldPlacesSpec.post enc Tryd.prog Tryd.f3 false true false false) := by
  refine returnsInHanded_of_change_and (C := Tryd.checked) (X := fun w _ => laidMetH Tryd.prog laidD w) (fun _ _ _ hh h => h.of_heap hh) Tryd.own started (by kernel_rfl) Tryd.func3
    (ChangeSpec.witness_shaped (enc := enc) (C := Tryd.checked) (os := os) (X := fun w _ => laidMetH Tryd.prog laidD w) false (World.laidAll Tryd.prog os laidD) #[.int .u64 0, .int .u8 0] 8 (World.laidAll_os _ _ _)
      (World.shaped_of_ZipB (by kernel_rfl) (by kernel_rfl)) (by kernel_rfl) (by kernel_rfl) (by kernel_rfl)
      (by rw [MakeChecks.laidMetH_plain _ _ _ (by kernel_rfl)]; exact laidMet_laidAll _ (by kernel_rfl) (by kernel_rfl))) ?_
  intro W base args ds gs before hval0 hW _ _ hL _
  have hval : ∀ (j : Nat) t v, Tryd.f3.params[j]? = some t → args[j]? = some v → Value.okWide Tryd.prog W .any base t v := hval0
  have hW' := hW
  obtain ⟨p, q, hA0, hV, rfl, hfz, hnd⟩ := hW
  have hA : DataW.TrodAll enc Tryd.prog W 0 (fun _ => true) true Tryd.f3.params.toList args.toList ds p := hA0
  rw [Tryd.params3] at hA hval
  obtain ⟨v0, v1, d0, d1, p0, p1, rfl, rfl, rfl, h0, h1⟩ := trodAll_two hA
  obtain ⟨x, rfl, rfl, rfl, wx⟩ := open_int Tryd.underlying22 (hval 0 _ v0 rfl rfl) h0
  obtain ⟨s, rfl, rfl, rfl, ws⟩ := open_int Tryd.underlying5 (hval 1 _ v1 rfl rfl) h1
  obtain ⟨n, rfl⟩ : ∃ n : Nat, x = n := ⟨x.toNat, by have := wf_u64 wx; omega⟩
  obtain ⟨k, rfl⟩ : ∃ k : Nat, s = k := ⟨s.toNat, by have := wf_u8 ws; omega⟩
  have hx := wf_u64 wx
  have hs := wf_u8 ws
  refine Gives.use (fp_any n k (by omega) (by omega) hL) fun W' hb => ?_
  exact ⟨_, rfl, law_post Tryd.laidOut (by kernel_rfl) (by kernel_rfl) Tryd.underlying4 rfl hW' ⟨rfl, rfl, rfl⟩ hb⟩
theorem fieldPlaces_holds : Rows.FieldPlacesSaid :=
  OpenClaim.holds_of_wide 3 Tryd.f3 rfl rfl rfl rfl rfl rfl rfl ⟨rfl, rfl, rfl, rfl, rfl⟩ rfl rfl rfl rfl rfl (by kernel_rfl) Tryd.func3 (by kernel_rfl)
    (of_decide_eq_true (by kernel_rfl)) (by unfold Func.isWrapper; first | (rw [if_pos (by decide +kernel)]; kernel_rfl) | (rw [if_neg (by decide +kernel)]; exact ⟨rfl, rfl⟩))
    (fun os started H enc _ => fieldPlaces_lifted os started H enc)
theorem fieldPlaces_card : Rows.FieldPlacesCardSaid :=
  Claim7.holds_tied_plain_at .later [] [.data] true (true, "1aa8895dbdcc7b8fa130098f3bca7f6749d2dd39c44ce41953a4a50460cb8707") false fieldPlaces_holds (fun _ h => by cases h) (by kernel_rfl) (fun _ h => by cases h) fieldPlaces_row_tie rfl ⟨rfl, rfl⟩ (by kernel_rfl) rfl
    (fun f fn hf hfn => by
      obtain rfl : f = 3 := Option.some.inj ((show Tryd.prog.funcNamed "haymow/haymowlaw02.FieldPlaces" = some 3 by kernel_rfl).symm.trans hf) |>.symm
      obtain rfl : fn = Tryd.f3 := (Option.some.inj (Tryd.func3.symm.trans hfn)).symm
      exact ⟨by kernel_rfl, fun j t ht => by
        rw [Tryd.params3] at ht
        have hm : t ∈ [22, 5] := by simpa using Array.mem_of_getElem? ht
        have hall : ([22, 5].all fun u => !Tryd.prog.wantsStandIn u) = true := by kernel_rfl
        exact (show Tryd.prog.wantsStandIn t = false by simpa using List.all_eq_true.1 hall t hm)⟩)
    (by kernel_rfl)
end Go.Proofs.YtnkpegdmbocgaaaDoor
