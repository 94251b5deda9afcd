/-
  The statement DigitsWords of layer 3 (digits), proved.
-/
import Derived.Test.YtpmcflidggofkaaPlain
import Derived.Test.YtpmcflidggofkaaEC
import Derived.Test.YtpmcflidggofkaaTxt
namespace Go.Proofs.Ytpmcflidggofkaa
open Go Go.ChangeShapes Go.WideShapes Go.ChangeAt Go.RowKit Go.Deep
theorem words_true {w : Int} (hw : 0 ≤ w ∧ w < 18446744073709551616) (s : ByteArray) : F_ Try.prog (L_eb digits_Hex_0 c_digits_Hex (fun w => hxF 16 w ⟨#[]⟩)) Try.f4 [] [] 99 [vu w, vs s] noMem = some (.ret (vb true) ⟨[], 99⟩ true) := by
  rw [dw_run, cHex hw]
  have e1 : hxF 16 w ⟨#[]⟩ = digits_Hex_0 w := by
    rw [hxF_eq 16 w _ hw, hex_eq hw]
    apply ByteArray.ext
    simp
  have hz : (digits_Hex_0 w).size = 16 := by rw [hex_eq hw, strOf_size, figL_len]
  have hb := back_word hw 16 0 rfl
  have h0 : w / 16 ^ 16 = 0 := by omega
  rw [h0, ← hex_eq hw] at hb
  have e2 : rhV0 (digits_Hex_0 w) = w ∧ rhV1 (digits_Hex_0 w) = 0 := by
    unfold rhV0 rhV1 rhV
    rw [hz, hb]
    exact ⟨rfl, rfl⟩
  have e3 : rhV0 s = rrV0 s ∧ (rhV1 s == 0) = rrV1 s ∧ (rrV1 s = false → rhV1 s = 5) := by
    unfold rhV0 rhV1 rhV rrV0 rrV1 rrV
    cases hc : Int.ofNat s.size != 16 with
    | true => exact ⟨rfl, rfl, fun _ => rfl⟩
    | false => exact both s 16 0 0 rfl (by decide)
  obtain ⟨q1, q2, q3⟩ := e3
  simp only [e1, e2.1, e2.2, q1, q2]
  cases hr : rrV1 s with
  | true => simp
  | false =>
    rw [q3 hr]
    simp
theorem words_all {x : Int} (hw : 0 ≤ x ∧ x < 18446744073709551616) (s : ByteArray) (w : World) : Gives 4 #[.int .u64 x, .string s] w (.bool true) := by
  have hx : AV.rels (fun _ => ⟨0, 0, 0⟩) 0 [vu x, vs s] [.int .u64 x, .string s] := by
    simp only [AV.rels, AV.rel]
    exact ⟨_, _, rfl, rfl, _, _, rfl, rfl, rfl⟩
  exact plain_gives hE_eb mixed Try.func4 rfl (words_true hw s) hx
set_option maxRecDepth 100000 in
theorem digitswords_lifted (os : Os) (started : os.Started) (H : Type) (enc : TypeId × Value → H) :
    ReturnsInHanded {} Try.checked os 4 .any (Rows.digitsWordsSpec.pre6 enc Try.prog Try.f4 Rows.digitsWordsRow.domain false) (Rows.digitsWordsSpec.post enc Try.prog Try.f4 false true false false) := by
  refine returnsInHanded_of_change (C := Try.checked) Try.own started (by kernel_rfl) Try.func4
    (ChangeSpec.witness6 (enc := enc) (C := Try.checked) false ⟨#[], #[.int .u64 0, .string ⟨#[]⟩], []⟩ 8 (by kernel_rfl) (by kernel_rfl) (by kernel_rfl) (by kernel_rfl)) ?_
  intro W base args ds gs before hval0 hW hcnd hsized
  have hval : ∀ (j : Nat) t v, Try.f4.params[j]? = some t → args[j]? = some v → Value.okWide Try.prog W .any base t v := hval0
  have hW' := hW
  obtain ⟨p, q, hA0, hV, rfl, hfz, hnd⟩ := hW
  have hA : DataW.TrodAll enc Try.prog W 0 (fun _ => true) true Try.f4.params.toList args.toList ds p := hA0
  rw [Try.params4] at hA hval
  obtain ⟨v0, v1, d0, d1, p0, p1, rfl, rfl, rfl, h0, h1⟩ := trodAll_two hA
  obtain ⟨n, rfl, rfl, rfl, wn⟩ := open_int Try.underlying30 (hval 0 _ v0 rfl rfl) h0
  obtain ⟨s, rfl, hs⟩ := open_text Try.underlying9 (hval 1 _ v1 rfl rfl) h1
  refine Gives.use (words_all ⟨(wf_u64 wn).1, by have := (wf_u64 wn).2; omega⟩ s W) fun W' hb => ?_
  exact ⟨_, rfl, law_post Try.laidOut (by kernel_rfl) (by kernel_rfl) Try.underlying4 rfl hW' ⟨rfl, rfl, rfl⟩ hb⟩
theorem digitswords_holds : Rows.DigitsWordsSaid :=
  OpenClaim.holds_of_wide 4 Try.f4 rfl rfl rfl rfl rfl rfl rfl ⟨rfl, rfl, rfl, rfl, rfl⟩ rfl rfl rfl rfl rfl (by kernel_rfl) Try.func4 (by kernel_rfl)
    (of_decide_eq_true (by kernel_rfl)) (by unfold Func.isWrapper; first | (rw [if_pos (by decide +kernel)]; kernel_rfl) | (rw [if_neg (by decide +kernel)]; exact ⟨rfl, rfl⟩))
    (fun os started H enc _ => digitswords_lifted os started H enc)
end Go.Proofs.Ytpmcflidggofkaa
