/-
  The statement ChainKeeps of layer 9 (chain), proved. No condition.
-/
import Derived.Test.YtmjpikkloofakaaChkf
namespace Go.Proofs.Ytmjpikkloofakaa
open Go Go.ChangeShapes Go.WideShapes Go.ChangeAt Go.RowKit Go.Deep
set_option maxRecDepth 100000
set_option maxHeartbeats 4000000
theorem kp_all (KD ID : List Int) (OT : List Bool) (WS : List Int) (n k : Nat) (c c' : Option Nat) (h1 : KD.length = n) (h2 : ID.length = n) (h3 : OT.length = n) (hw : WS.length = k) :
    Gives_ Try.prog Try.f4 2 (enterA Try.f4 (bodyOf Try.f4) [.sl false 0 3 0 1 n c, .sl false 1 1 0 1 k c'] ⟨[opB KD ID OT, woB WS], 2⟩) (vb true) ⟨[], 99⟩ := by
  by_cases hn : n ≤ 60 ∧ k ≤ 24
  · have he := kp_in KD ID OT WS n k c c'
    rw [conj_tm (by simp only [List.all_cons, List.all_nil, _root_.id, Bool.and_true, Bool.not_eq_true', Bool.cond_true_left, Bool.or_eq_false_iff, decide_eq_false_iff_not, Int.ofNat_eq_natCast]; omega)] at he
    have g := FEO_head (c := bodyOf Try.f4) (m := ⟨[opB KD ID OT, woB WS], 2⟩) (hE_kp ok_told0 0 0 0 99 [2, 0] [] [] 8) mixedM rfl rfl he rfl
    obtain ⟨W, ws, L0, L1, r, w, g1, g2, g3⟩ := kp_mid KD ID OT WS n k c c' hn.2 hw ⟨h1, h2, h3, hn.1⟩
    exact (Goes.rto (B := 2) (nx := 7) [(0, 0), (1, 1), (2, 3), (3, 4), (4, 6), (5, 13), (6, 17)] g rfl (by kernel_rfl)).gives (g3.gives (kp_end KD ID OT WS n k c c' hn.2 hw g1 g2))
  · have he := kp_no KD ID OT WS n k c c'
    rw [conj_tm (by simp only [List.all_cons, List.all_nil, _root_.id, Bool.and_true, Bool.cond_true_left, Bool.or_eq_true, decide_eq_true_eq, Int.ofNat_eq_natCast]; omega)] at he
    exact FEO_ret (c := bodyOf Try.f4) (m := ⟨[opB KD ID OT, woB WS], 2⟩) (hE_kp ok_told0 0 0 0 99 [2, 0] [] [] 8) mixedM rfl rfl he rfl
theorem keeps_all (A : Option Addr) (n c : Nat) (cs : List Col) (i : LI) (B : Option Addr) (k d : Nat) (zs : List Int) (i' : LI) (w : World) (hin : InB w A n (.rows cs) i) (hnc : n ≤ c) (hf : Fits n [.i .i64, .i .i64, .b] cs) (hin' : InB w B k (.col (.ints .u64 zs)) i') (hkd : k ≤ d) (hz : zs.length = k) : Gives 4 #[.slice A n c, .slice B k d] w (.bool true) := by
  obtain ⟨_, _, rfl, ⟨KD, rfl, h1, _⟩, _, _, rfl, ⟨ID, rfl, h2, _⟩, _, _, rfl, ⟨OT, rfl, h3⟩, rfl⟩ := hf
  let ρ : Rho := fun l => if l = 0 then i else i'
  have hm : MRel ρ ⟨[opB KD ID OT, woB zs], 2⟩ w := mrel_two (hin.ok _ _) (hin'.ok _ _) rfl rfl
  have hx : AV.rels ρ 2 [.sl false 0 3 0 1 n (some c), .sl false 1 1 0 1 k (some d)] [.slice A n c, .slice B k d] := by
    simp only [AV.rels]
    exact ⟨_, _, rfl, hin.arg (ρ := ρ) (l := 0) (by omega) hnc 3 1, _, _, rfl, hin'.arg (ρ := ρ) (l := 1) (by omega) hkd 1 1, rfl⟩
  exact gives_true (c := bodyOf Try.f4) (m' := ⟨[], 99⟩) Try.func4 rfl (kp_all KD ID OT zs n k (some c) (some d) (by omega) (by omega) (by omega) hz) rfl hm hx
set_option maxRecDepth 100000 in
theorem chainkeeps_lifted (os : Os) (started : os.Started) (H : Type) (enc : TypeId × Value → H) :
    ReturnsInHanded {} Try.checked os 4 .any (Rows.chainKeepsSpec.pre6 enc Try.prog Try.f4 Rows.chainKeepsRow.domain false) (Rows.chainKeepsSpec.post enc Try.prog Try.f4 false true false false) := by
  refine returnsInHanded_of_change (C := Try.checked) Try.own started (by kernel_rfl) Try.func4
    (ChangeSpec.witness6 (enc := enc) (C := Try.checked) false ⟨#[], #[.slice none 0 0, .slice none 0 0], []⟩ 8 (by kernel_rfl) (by kernel_rfl) (by kernel_rfl) (by kernel_rfl)) ?_
  intro W base args ds gs before hval0 hW hcnd hsized
  have hval : ∀ (j : Nat) t v, Try.f4.params[j]? = some t → args[j]? = some v → Value.okWide Try.prog W .any base t v := hval0
  have hW' := hW
  obtain ⟨p, q, hA0, hV, rfl, hfz, hnd⟩ := hW
  have hA : DataW.TrodAll enc Try.prog W 0 (fun _ => true) true Try.f4.params.toList args.toList ds p := hA0
  rw [Try.params4] at hA hval
  obtain ⟨v0, v1, d0, d1, p0, p1, rfl, rfl, rfl, h0, h1⟩ := trodAll_two hA
  obtain ⟨A, n, c, cs, i, rfl, hnc, hc, hf, hin⟩ := open_rows [.i .i64, .i .i64, .b] Try.underlying39 Try.underlying53 (by kernel_rfl) (by kernel_rfl) (by decide) (by kernel_rfl) (hval 0 _ v0 rfl rfl) h0
  obtain ⟨B, k, d, zs, rfl, hnk, hck, hrk, hwk⟩ := open_reads Try.underlying40 Try.underlying44 (by kernel_rfl) (hval 1 _ v1 rfl rfl) h1
  obtain ⟨i', hin'⟩ := in_ints hrk
  refine Gives.use (keeps_all A n c cs i B k d zs i' W hin hnc hf hin' hnk hrk.ints) fun W' hb => ?_
  exact ⟨_, rfl, law_post Try.laidOut (by kernel_rfl) (by kernel_rfl) Try.underlying4 rfl hW' ⟨rfl, rfl, rfl⟩ hb⟩
theorem chainkeeps_holds : Rows.ChainKeepsSaid :=
  OpenClaim.holds_of_wide 4 Try.f4 rfl rfl rfl rfl rfl rfl rfl ⟨rfl, rfl, rfl, rfl, rfl⟩ rfl rfl rfl rfl rfl (by kernel_rfl) Try.func4 (by kernel_rfl)
    (of_decide_eq_true (by kernel_rfl)) (by unfold Func.isWrapper; first | (rw [if_pos (by decide +kernel)]; kernel_rfl) | (rw [if_neg (by decide +kernel)]; exact ⟨rfl, rfl⟩))
    (fun os started H enc _ => chainkeeps_lifted os started H enc)
end Go.Proofs.Ytmjpikkloofakaa
