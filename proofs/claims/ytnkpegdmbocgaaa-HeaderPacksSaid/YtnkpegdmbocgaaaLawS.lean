/-
  The statements of layer 12 (header), proved: HeaderPacks, HeaderReads, HeaderMoves.
-/
import Derived.Test.YtnkpegdmbocgaaaPlain
import Derived.Test.YtnkpegdmbocgaaaFT
import Derived.Test.YtnkpegdmbocgaaaLeaf
namespace Go.Proofs.Ytnkpegdmbocgaaa
open Go Go.ChangeShapes Go.WideShapes Go.ChangeAt Go.RowKit Go.Deep
theorem fwd {n : Int} : header_Forward_0 n = (bif decide (0 ≤ n ∧ n < 4194304) then 9223372036854775808 + n else 0) ∧ header_Forward_1 n = (bif decide (0 ≤ n ∧ n < 4194304) then 0 else 2) := by
  unfold header_Forward_0 header_Forward_1
  rw [notWithin]
  by_cases h : 0 ≤ n ∧ n < 4194304
  · rw [decide_eq_true h, decide_eq_false (show ¬ n < 0 by omega), decide_eq_false (show ¬ 4194303 < n by omega), IntWalk.u64_in n (by omega)]
    refine ⟨?_, rfl⟩
    have := bits_sum (w := n) (n := 1) (a := 63) (by omega) (by omega) (by omega)
    have hc : bits .or .u64 9223372036854775808 n = bits .or .u64 n (1 * 2 ^ 63) := by
      simp only [bits]
      rw [BitVec.or_comm]
      rfl
    simp only [cond_false, cond_true]
    rw [hc, this]
    omega
  · rw [decide_eq_false h]
    by_cases h1 : n < 0
    · rw [decide_eq_true h1]; exact ⟨rfl, rfl⟩
    · rw [decide_eq_false h1, decide_eq_true (show 4194303 < n by omega)]; exact ⟨rfl, rfl⟩
/-- Is a word a moved object's? -/
def isM (w : Int) : Bool := decide (9223372036854775808 ≤ w ∧ w < 9223372036854775808 + 4194304)
theorem hdFwd {w : Int} (hw : 0 ≤ w ∧ w < 18446744073709551616) : header_Forwarded_0 w = (bif isM w then w - 9223372036854775808 else 0) ∧ header_Forwarded_1 w = isM w := by
  unfold header_Forwarded_0 header_Forwarded_1 isM
  rw [get_p hw, IntWalk.i64_in _ (by omega), (fwd (n := w % 1099511627776)).1, (fwd (n := w % 1099511627776)).2]
  by_cases h : 0 ≤ w % 1099511627776 ∧ w % 1099511627776 < 4194304
  · rw [decide_eq_true h]
    by_cases e : 9223372036854775808 + w % 1099511627776 = w
    · rw [decide_eq_true (show 9223372036854775808 ≤ w ∧ w < 9223372036854775808 + 4194304 by omega)]
      simp only [cond_true, e, bne_self_eq_false, cond_false]
      refine ⟨by omega, ?_⟩
      trivial
    · rw [decide_eq_false (show ¬ (9223372036854775808 ≤ w ∧ w < 9223372036854775808 + 4194304) by omega)]
      simp only [cond_true, show (9223372036854775808 + w % 1099511627776 != w) = true by simpa using e]
      exact ⟨rfl, rfl⟩
  · rw [decide_eq_false h, decide_eq_false (show ¬ (9223372036854775808 ≤ w ∧ w < 9223372036854775808 + 4194304) by omega)]
    exact ⟨rfl, rfl⟩
theorem refFwd {w : Int} (hw : 0 ≤ w ∧ w < 18446744073709551616) : haymowref12_Forwarded_0 w = (bif isM w then w - 9223372036854775808 else 0) ∧ haymowref12_Forwarded_1 w = isM w := by
  unfold haymowref12_Forwarded_0 haymowref12_Forwarded_1 isM
  by_cases h : w < 9223372036854775808
  · rw [decide_eq_true h, decide_eq_false (show ¬ (9223372036854775808 ≤ w ∧ w < 9223372036854775808 + 4194304) by omega)]
    exact ⟨rfl, rfl⟩
  · rw [decide_eq_false h, IntWalk.u64_in (w - 9223372036854775808) (by omega)]
    by_cases h' : 4194304 ≤ w - 9223372036854775808
    · rw [decide_eq_true h', decide_eq_false (show ¬ (9223372036854775808 ≤ w ∧ w < 9223372036854775808 + 4194304) by omega)]
      exact ⟨rfl, rfl⟩
    · rw [decide_eq_false h', decide_eq_true (show 9223372036854775808 ≤ w ∧ w < 9223372036854775808 + 4194304 by omega), IntWalk.i64_in _ (by omega)]
      exact ⟨rfl, rfl⟩
theorem isH_r {w : Int} (hw : 0 ≤ w ∧ w < 18446744073709551616) (h : isH w = true) : 4611686018427387904 ≤ w ∧ w < 9223372036854775808 := by
  unfold isH at h
  have e := eq_of_beq h
  obtain ⟨⟨p1, p2⟩, ⟨r1, r2⟩, ⟨s1, s2⟩, a1, a2⟩ := parts_in hw
  have b := bI_r (wl w)
  unfold pkI at e
  omega
theorem moves_true (at_ : Int) : haymowlaw12_HeaderMoves_0 at_ = true ∧ c_haymowlaw12_HeaderMoves at_ = true := by
  unfold haymowlaw12_HeaderMoves_0 c_haymowlaw12_HeaderMoves
  rw [fwd.1, fwd.2]
  by_cases h : 0 ≤ at_ ∧ at_ < 4194304
  · rw [decide_eq_false (show ¬ at_ < 0 by omega), decide_eq_false (show ¬ 4194304 ≤ at_ by omega), decide_eq_true h]
    simp only [cond_false, cond_true]
    have hw : 0 ≤ 9223372036854775808 + at_ ∧ 9223372036854775808 + at_ < 18446744073709551616 := by omega
    obtain ⟨f0, f1⟩ := hdFwd hw
    obtain ⟨_, _, _, _, _, u5, uc⟩ := hdUnp hw
    have hm : isM (9223372036854775808 + at_) = true := decide_eq_true (by omega)
    have hh : isH (9223372036854775808 + at_) = false := by
      cases e : isH (9223372036854775808 + at_) with
      | false => rfl
      | true => have := isH_r hw e; omega
    rw [f0, f1, u5, uc, hm, hh, IntWalk.u64_in at_ (by omega), IntWalk.u64_in _ (by omega)]
    simp only [cond_true, cond_false, show 9223372036854775808 + at_ - 9223372036854775808 = at_ by omega]
    simp
  · rw [decide_eq_false h]
    by_cases h1 : at_ < 0
    · rw [decide_eq_true h1]; exact ⟨rfl, rfl⟩
    · rw [decide_eq_false h1, decide_eq_true (show 4194304 ≤ at_ by omega)]; exact ⟨rfl, rfl⟩
theorem reads_true {w : Int} (hw : 0 ≤ w ∧ w < 18446744073709551616) : haymowlaw12_HeaderReads_0 w = true ∧ c_haymowlaw12_HeaderReads w = true := by
  obtain ⟨u0, u1, u2, u3, u4, u5, u6⟩ := hdUnp hw
  obtain ⟨r0, r1, r2, r3, r4, r5⟩ := refUnp hw
  obtain ⟨f0, f1⟩ := hdFwd hw
  obtain ⟨g0, g1⟩ := refFwd hw
  obtain ⟨o0, o1, oc⟩ := hdOld hw
  obtain ⟨h1, h2, h3, h4⟩ := parts_in hw
  unfold haymowlaw12_HeaderReads_0 c_haymowlaw12_HeaderReads
  rw [u0, u1, u2, u3, u4, u5, u6, r0, r1, r2, r3, r4, r5, f0, f1, g0, g1, o0, o1, oc]
  cases hh : isH w with
  | false =>
    simp only [cond_false]
    cases hm : isM w with
    | false => by_cases e : w = 0 <;> simp [e]
    | true =>
      have e : ¬ w = 0 := by
        have := of_decide_eq_true hm
        omega
      simp [e]
  | true =>
    have hr := isH_r hw hh
    have hm : isM w = false := decide_eq_false (by omega)
    have e : ¬ w = 0 := by omega
    rw [hm]
    simp only [cond_true]
    rw [refOld _ _ _ _ h4, refpack _ (show inR (wp w) (wr' w) (ws w) (up7 (wa w)) from ⟨h1, h2, h3, (up7_min h4).2⟩)]
    simp [e]
theorem packs_true (p r s a : Int) (l : Bool) : haymowlaw12_HeaderPacks_0 p r s a l = true ∧ c_haymowlaw12_HeaderPacks p r s a l = true := by
  unfold haymowlaw12_HeaderPacks_0 c_haymowlaw12_HeaderPacks
  rw [check_eq]
  by_cases hc : haymowref12_Check_0 p r s a l = 0
  · have hi := check_in hc
    obtain ⟨q0, q1, q2⟩ := pack_ok l hi
    rw [hc, q0, q1, q2, refpack l hi]
    obtain ⟨hw, e0, e1, e2, e3, e4, e5⟩ := pk_parts (l := l) hi
    obtain ⟨u0, u1, u2, u3, u4, u5, u6⟩ := hdUnp hw
    obtain ⟨o0, o1, oc⟩ := hdOld hw
    rw [o0, o1, oc, u0, u1, u2, u3, u4, u5, u6, e0, e1, e2, e3, e4, e5]
    simp only [cond_true]
    obtain ⟨h1, h2, h3, h4⟩ := hi
    obtain ⟨hw', d0, d1, d2, d3, d4, d5⟩ := pk_parts (l := l) (show inR p r s (up7 a) from ⟨h1, h2, h3, (up7_min h4).2⟩)
    obtain ⟨v0, v1, v2, v3, v4, v5, v6⟩ := hdUnp hw'
    rw [v0, v1, v2, v3, v4, v5, v6, d0, d1, d2, d3, d4, d5, refOld _ _ _ _ h4]
    unfold header_Words_0
    simp
  · obtain ⟨q0, q1, q2⟩ := pack_no hc
    rw [q0, q1, q2, show (haymowref12_Check_0 p r s a l != 0) = true by simpa using hc]
    simp
theorem moves_all (at_ : Int) (w : World) : Gives 3 #[.int .i64 at_] w (.bool true) := by
  have hx : AV.rels (fun _ => ⟨0, 0, 0⟩) 0 [vi at_] [.int .i64 at_] := by
    simp only [AV.rels, AV.rel]
    exact ⟨_, _, rfl, rfl, rfl⟩
  have h := t_haymowlaw12_HeaderMoves at_ (moves_true at_).2
  unfold s_haymowlaw12_HeaderMoves at h
  rw [(moves_true at_).1] at h
  exact plain_gives hE_haymowlaw12_awake mixed Try.func3 rfl h hx
theorem reads_all {x : Int} (hw : 0 ≤ x ∧ x < 18446744073709551616) (w : World) : Gives 5 #[.int .u64 x] w (.bool true) := by
  have hx : AV.rels (fun _ => ⟨0, 0, 0⟩) 0 [vu x] [.int .u64 x] := by
    simp only [AV.rels, AV.rel]
    exact ⟨_, _, rfl, rfl, rfl⟩
  have h := t_haymowlaw12_HeaderReads x (reads_true hw).2
  unfold s_haymowlaw12_HeaderReads at h
  rw [(reads_true hw).1] at h
  exact plain_gives hE_haymowlaw12_HeaderMoves mixed Try.func5 rfl h hx
theorem packs_all (p r s a : Int) (l : Bool) (w : World) : Gives 4 #[.agg #[.int .i64 p, .int .i64 r, .int .i64 s, .int .i64 a, .bool l]] w (.bool true) := by
  have hx : AV.rels (fun _ => ⟨0, 0, 0⟩) 0 [.agg [vi p, vi r, vi s, vi a, vb l]] [.agg #[.int .i64 p, .int .i64 r, .int .i64 s, .int .i64 a, .bool l]] := by
    simp only [AV.rels, AV.rel]
    exact ⟨_, _, rfl, ⟨_, rfl, _, _, rfl, rfl, _, _, rfl, rfl, _, _, rfl, rfl, _, _, rfl, rfl, _, _, rfl, rfl, rfl⟩, rfl⟩
  have h := t_haymowlaw12_HeaderPacks p r s a l (packs_true p r s a l).2
  unfold s_haymowlaw12_HeaderPacks at h
  rw [(packs_true p r s a l).1] at h
  exact plain_gives hE_haymowlaw12_HeaderReads mixed Try.func4 rfl h hx

set_option maxRecDepth 100000 in
theorem moves_lifted (os : Os) (started : os.Started) (H : Type) (enc : TypeId × Value → H) :
    ReturnsInHanded {} Try.checked os 3 .any (Rows.headerMovesSpec.pre6 enc Try.prog Try.f3 Rows.headerMovesRow.domain false) (Rows.headerMovesSpec.post enc Try.prog Try.f3 false true false false) := by
  refine returnsInHanded_of_change (C := Try.checked) Try.own started (by kernel_rfl) Try.func3
    (ChangeSpec.witness6 (enc := enc) (C := Try.checked) false ⟨#[], #[.int .i64 0], []⟩ 8 (by kernel_rfl) (by kernel_rfl) (by kernel_rfl) (by kernel_rfl)) ?_
  intro W base args ds gs before hval0 hW hcnd hsized
  have hval : ∀ (j : Nat) t v, Try.f3.params[j]? = some t → args[j]? = some v → Value.okWide Try.prog W .any base t v := hval0
  have hW' := hW
  obtain ⟨p, q, hA0, hV, rfl, hfz, hnd⟩ := hW
  have hA : DataW.TrodAll enc Try.prog W 0 (fun _ => true) true Try.f3.params.toList args.toList ds p := hA0
  rw [Try.params3] at hA hval
  obtain ⟨v0, d0, rfl, rfl, h0⟩ := trodAll_one hA
  obtain ⟨n, rfl, rfl, rfl, wn⟩ := open_int Try.underlying3 (hval 0 _ v0 rfl rfl) h0
  refine Gives.use (moves_all n W) fun W' hb => ?_
  exact ⟨_, rfl, law_post Try.laidOut (by kernel_rfl) (by kernel_rfl) Try.underlying4 rfl hW' ⟨rfl, rfl, rfl⟩ hb⟩
theorem moves_holds : Rows.HeaderMovesSaid :=
  OpenClaim.holds_of_wide 3 Try.f3 rfl rfl rfl rfl rfl rfl rfl ⟨rfl, rfl, rfl, rfl, rfl⟩ rfl rfl rfl rfl rfl (by kernel_rfl) Try.func3 (by kernel_rfl)
    (of_decide_eq_true (by kernel_rfl)) (by unfold Func.isWrapper; first | (rw [if_pos (by decide +kernel)]; kernel_rfl) | (rw [if_neg (by decide +kernel)]; exact ⟨rfl, rfl⟩))
    (fun os started H enc _ => moves_lifted os started H enc)

set_option maxRecDepth 100000 in
theorem reads_lifted (os : Os) (started : os.Started) (H : Type) (enc : TypeId × Value → H) :
    ReturnsInHanded {} Try.checked os 5 .any (Rows.headerReadsSpec.pre6 enc Try.prog Try.f5 Rows.headerReadsRow.domain false) (Rows.headerReadsSpec.post enc Try.prog Try.f5 false true false false) := by
  refine returnsInHanded_of_change (C := Try.checked) Try.own started (by kernel_rfl) Try.func5
    (ChangeSpec.witness6 (enc := enc) (C := Try.checked) false ⟨#[], #[.int .u64 0], []⟩ 8 (by kernel_rfl) (by kernel_rfl) (by kernel_rfl) (by kernel_rfl)) ?_
  intro W base args ds gs before hval0 hW hcnd hsized
  have hval : ∀ (j : Nat) t v, Try.f5.params[j]? = some t → args[j]? = some v → Value.okWide Try.prog W .any base t v := hval0
  have hW' := hW
  obtain ⟨p, q, hA0, hV, rfl, hfz, hnd⟩ := hW
  have hA : DataW.TrodAll enc Try.prog W 0 (fun _ => true) true Try.f5.params.toList args.toList ds p := hA0
  rw [Try.params5] at hA hval
  obtain ⟨v0, d0, rfl, rfl, h0⟩ := trodAll_one hA
  obtain ⟨n, rfl, rfl, rfl, wn⟩ := open_int Try.underlying23 (hval 0 _ v0 rfl rfl) h0
  refine Gives.use (reads_all ⟨(wf_u64 wn).1, by have := (wf_u64 wn).2; omega⟩ W) fun W' hb => ?_
  exact ⟨_, rfl, law_post Try.laidOut (by kernel_rfl) (by kernel_rfl) Try.underlying4 rfl hW' ⟨rfl, rfl, rfl⟩ hb⟩
theorem reads_holds : Rows.HeaderReadsSaid :=
  OpenClaim.holds_of_wide 5 Try.f5 rfl rfl rfl rfl rfl rfl rfl ⟨rfl, rfl, rfl, rfl, rfl⟩ rfl rfl rfl rfl rfl (by kernel_rfl) Try.func5 (by kernel_rfl)
    (of_decide_eq_true (by kernel_rfl)) (by unfold Func.isWrapper; first | (rw [if_pos (by decide +kernel)]; kernel_rfl) | (rw [if_neg (by decide +kernel)]; exact ⟨rfl, rfl⟩))
    (fun os started H enc _ => reads_lifted os started H enc)

set_option maxRecDepth 100000 in
theorem packs_lifted (os : Os) (started : os.Started) (H : Type) (enc : TypeId × Value → H) :
    ReturnsInHanded {} Try.checked os 4 .any (Rows.headerPacksSpec.pre6 enc Try.prog Try.f4 Rows.headerPacksRow.domain false) (Rows.headerPacksSpec.post enc Try.prog Try.f4 false true false false) := by
  refine returnsInHanded_of_change (C := Try.checked) Try.own started (by kernel_rfl) Try.func4
    (ChangeSpec.witness6 (enc := enc) (C := Try.checked) false ⟨#[], #[.agg #[.int .i64 0, .int .i64 0, .int .i64 0, .int .i64 0, .bool false]], []⟩ 8 (by kernel_rfl) (by kernel_rfl) (by kernel_rfl) (by kernel_rfl)) ?_
  intro W base args ds gs before hval0 hW hcnd hsized
  have hval : ∀ (j : Nat) t v, Try.f4.params[j]? = some t → args[j]? = some v → Value.okWide Try.prog W .any base t v := hval0
  have hW' := hW
  obtain ⟨p, q, hA0, hV, rfl, hfz, hnd⟩ := hW
  have hA : DataW.TrodAll enc Try.prog W 0 (fun _ => true) true Try.f4.params.toList args.toList ds p := hA0
  rw [Try.params4] at hA hval
  obtain ⟨v0, d0, rfl, rfl, h0⟩ := trodAll_one hA
  obtain ⟨l0_, rfl, hl0_, hg0_⟩ := open_flat (ls := [3, 3, 3, 3, 4]) Try.underlying32 rfl (by kernel_rfl) (by kernel_rfl) (hval 0 _ v0 rfl rfl) h0
  obtain ⟨c0_0, r0_0, rfl, hr0_0⟩ := list_cons hl0_
  obtain ⟨c0_1, r0_1, rfl, hr0_1⟩ := list_cons hr0_0
  obtain ⟨c0_2, r0_2, rfl, hr0_2⟩ := list_cons hr0_1
  obtain ⟨c0_3, r0_3, rfl, hr0_3⟩ := list_cons hr0_2
  obtain ⟨c0_4, r0_4, rfl, hr0_4⟩ := list_cons hr0_3
  cases list_nil hr0_4
  obtain ⟨p, rfl, wp⟩ := field_int Try.underlying3 (hg0_ 0 _ _ rfl rfl)
  obtain ⟨r, rfl, wr⟩ := field_int Try.underlying3 (hg0_ 1 _ _ rfl rfl)
  obtain ⟨s, rfl, ws⟩ := field_int Try.underlying3 (hg0_ 2 _ _ rfl rfl)
  obtain ⟨a, rfl, wa⟩ := field_int Try.underlying3 (hg0_ 3 _ _ rfl rfl)
  obtain ⟨l, rfl⟩ := field_bool Try.underlying4 (hg0_ 4 _ _ rfl rfl)
  refine Gives.use (packs_all p r s a l W) fun W' hb => ?_
  exact ⟨_, rfl, law_post Try.laidOut (by kernel_rfl) (by kernel_rfl) Try.underlying4 rfl hW' ⟨rfl, rfl, rfl⟩ hb⟩
theorem packs_holds : Rows.HeaderPacksSaid :=
  OpenClaim.holds_of_wide 4 Try.f4 rfl rfl rfl rfl rfl rfl rfl ⟨rfl, rfl, rfl, rfl, rfl⟩ rfl rfl rfl rfl rfl (by kernel_rfl) Try.func4 (by kernel_rfl)
    (of_decide_eq_true (by kernel_rfl)) (by unfold Func.isWrapper; first | (rw [if_pos (by decide +kernel)]; kernel_rfl) | (rw [if_neg (by decide +kernel)]; exact ⟨rfl, rfl⟩))
    (fun os started H enc _ => packs_lifted os started H enc)
end Go.Proofs.Ytnkpegdmbocgaaa
