/-
  The statement WideTexts of layer 1 (wide), proved.
-/
import Derived.Test.YtanfjgkohhlcoaaPlain
import Derived.Test.YtanfjgkohhlcoaaVk
import Derived.Test.YtanfjgkohhlcoaaTxt
namespace Go.Proofs.Ytanfjgkohhlcoaa
open Go Go.ChangeShapes Go.WideShapes Go.ChangeAt Go.RowKit Go.Deep
theorem isU_wf {z : Int} (h : (Lit.int .u64 z).wf = true) : isU z := by
  have := wf_u64 h
  unfold isU
  omega
def wxV (a b : Int) (s : ByteArray) : Bool := bif bif bif bif (wtx (wv a b)).toList == (wtx (wv a b)).toList then pR0 (wtx (wv a b)) == a && (pR1 (wtx (wv a b)) == b && true) else false then pR2 (wtx (wv a b)) == 0 else false then pR0 s == pR0 s && (pR1 s == pR1 s && true) else false then pR2 s == pR2 s else false
def wxO (a b : Int) (s : ByteArray) : Bool := bif inU a then bif inU b then bif Nat.ble (wtx (wv a b)).size 1000 then bif Nat.ble s.size 1000 then bif Nat.ble s.size 1000 then bif inU a then bif inU b then true else false else false else false else false else false else false else false
theorem wx_run (a b : Int) (s : ByteArray) : F_ Try.prog L_t Try.f5 [] [] 99 [.agg [vu a, vu b], vs s] noMem = bif decide (200 < Int.ofNat s.size) then some (.ret (vb true) ⟨[], 99⟩ true) else some (.ret (vb (wxV a b s)) ⟨[], 99⟩ (wxO a b s)) := by kernel_rfl
theorem wx_true {a b : Int} (s : ByteArray) (ha : isU a) (hb : isU b) : F_ Try.prog L_t Try.f5 [] [] 99 [.agg [vu a, vu b], vs s] noMem = some (.ret (vb true) ⟨[], 99⟩ true) := by
  rw [wx_run]
  by_cases c : (200 : Int) < Int.ofNat s.size
  · rw [decide_eq_true c]; rfl
  · have hs : s.size ≤ 200 := by simp at c; omega
    have hz := wtx_size (wv a b)
    have hw := wv_in ha hb
    have h := wtx_back hw.1 hw.2
    obtain ⟨f4, f5, f6⟩ := sat_of (s := wv a b) rfl ha hb
    have e0 : pR0 (wtx (wv a b)) = a := by unfold pR0; rw [h]; exact f5
    have e1 : pR1 (wtx (wv a b)) = b := by unfold pR1; rw [h]; exact f6
    have e2 : pR2 (wtx (wv a b)) = 0 := by unfold pR2; rw [h]
    rw [decide_eq_false c]
    unfold wxV wxO
    rw [e0, e1, e2, inU_of ha, inU_of hb, Nat.ble_eq_true_of_le (show s.size ≤ 1000 by omega), Nat.ble_eq_true_of_le (show (wtx (wv a b)).size ≤ 1000 by omega)]
    simp
theorem widetexts_all (a b : Int) (s : ByteArray) (ha : isU a) (hb : isU b) (w : World) : Gives 5 #[.agg #[.int .u64 a, .int .u64 b], .string s] w (.bool true) := by
  have hx : AV.rels (fun _ => ⟨0, 0, 0⟩) 0 [.agg [vu a, vu b], vs s] [.agg #[.int .u64 a, .int .u64 b], .string s] := by
    simp only [AV.rels, AV.rel]
    exact ⟨_, _, rfl, ⟨_, rfl, _, _, rfl, rfl, _, _, rfl, rfl, rfl⟩, _, _, rfl, rfl, rfl⟩
  exact plain_gives hE_t mixed Try.func5 rfl (wx_true s ha hb) hx

set_option maxRecDepth 100000 in
theorem widetexts_lifted (os : Os) (started : os.Started) (H : Type) (enc : TypeId × Value → H) :
    ReturnsInHanded {} Try.checked os 5 .any (Rows.wideTextsSpec.pre6 enc Try.prog Try.f5 Rows.wideTextsRow.domain false) (Rows.wideTextsSpec.post enc Try.prog Try.f5 false true false false) := by
  refine returnsInHanded_of_change (C := Try.checked) Try.own started (by kernel_rfl) Try.func5
    (ChangeSpec.witness6 (enc := enc) (C := Try.checked) false ⟨#[], #[.agg #[.int .u64 0, .int .u64 0], .string ⟨#[]⟩], []⟩ 8 (by kernel_rfl) (by kernel_rfl) (by kernel_rfl) (by kernel_rfl)) ?_
  intro W base args ds gs before hval0 hW hcnd hsized
  have hval : ∀ (j : Nat) t v, Try.f5.params[j]? = some t → args[j]? = some v → Value.okWide Try.prog W .any base t v := hval0
  have hW' := hW
  obtain ⟨p, q, hA0, hV, rfl, hfz, hnd⟩ := hW
  have hA : DataW.TrodAll enc Try.prog W 0 (fun _ => true) true Try.f5.params.toList args.toList ds p := hA0
  rw [Try.params5] at hA hval
  obtain ⟨v0, v1, d0, d1, p0, p1, rfl, rfl, rfl, h0, h1⟩ := trodAll_two hA
  obtain ⟨l0_, rfl, hl0_, hg0_⟩ := open_struct Try.underlying24 (by kernel_rfl) (by kernel_rfl) (hval 0 _ v0 rfl rfl) h0
  obtain ⟨c0_0, c0_1, rfl⟩ := list2 hl0_
  obtain ⟨a, rfl, wa⟩ := field_int Try.underlying22 (hg0_ 0 _ _ rfl rfl)
  obtain ⟨b, rfl, wb⟩ := field_int Try.underlying22 (hg0_ 1 _ _ rfl rfl)
  obtain ⟨s, rfl, hs⟩ := open_text Try.underlying9 (hval 1 _ v1 rfl rfl) h1
  refine Gives.use (widetexts_all a b s (isU_wf wa) (isU_wf wb) W) fun W' hb => ?_
  exact ⟨_, rfl, law_post Try.laidOut (by kernel_rfl) (by kernel_rfl) Try.underlying4 rfl hW' ⟨rfl, rfl, rfl⟩ hb⟩
theorem widetexts_holds : Rows.WideTextsSaid :=
  OpenClaim.holds_of_wide 5 Try.f5 rfl rfl rfl rfl rfl rfl rfl ⟨rfl, rfl, rfl, rfl, rfl⟩ rfl rfl rfl rfl rfl (by kernel_rfl) Try.func5 (by kernel_rfl)
    (of_decide_eq_true (by kernel_rfl)) (by unfold Func.isWrapper; first | (rw [if_pos (by decide +kernel)]; kernel_rfl) | (rw [if_neg (by decide +kernel)]; exact ⟨rfl, rfl⟩))
    (fun os started H enc _ => widetexts_lifted os started H enc)
end Go.Proofs.Ytanfjgkohhlcoaa
