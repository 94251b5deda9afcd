/-
  The statement DigitsNumbers of layer 3 (digits), proved.
-/
import Derived.Test.YtpmcflidggofkaaPlain
import Derived.Test.YtpmcflidggofkaaDX
namespace Go.Proofs.Ytpmcflidggofkaa
open Go Go.ChangeShapes Go.WideShapes Go.ChangeAt Go.RowKit Go.Deep
theorem open_text {H : Type} {enc : TypeId × Value → H} {P : Program} {w : World} {base : Nat} {sp : Nat → Bool} {held : Bool} {r : Reach} {b0 : Nat} {t : TypeId} {v : Value} {d : DataW H} {ps : List MemPlace} (ht : P.underlying t = some .string) (hval : Value.okWide P w r b0 t v) (hd : DataW.Trod enc P w base sp held t v d ps) :
    ∃ s : ByteArray, v = .string s ∧ s.size ≤ maxLen := by
  obtain ⟨s, rfl⟩ := okWide_string ht hval
  obtain ⟨fuel, hf⟩ := hd
  obtain ⟨s', h, hx, hs⟩ := DataW.trod_string ht hf
  simp [Value.cells] at h
  subst h
  exact ⟨s, rfl, hs⟩
theorem digitsnumbers_all (n : Int) (s : ByteArray) (hn : -9223372036854775808 ≤ n ∧ n ≤ 9223372036854775807) (w : World) : Gives 3 #[.int .i64 n, .string s] w (.bool true) := by
  have hx : AV.rels (fun _ => ⟨0, 0, 0⟩) 0 [vi n, vs s] [.int .i64 n, .string s] := by
    simp only [AV.rels, AV.rel]
    exact ⟨_, _, rfl, rfl, _, _, rfl, rfl, rfl⟩
  have ht := digitsnumbers_true n s hn.1 hn.2
  have h := t_haymowlaw03_DigitsNumbers n s ht.2
  unfold s_haymowlaw03_DigitsNumbers at h
  rw [ht.1] at h
  exact plain_gives hE_haymowlaw03_awake mixed Try.func3 rfl h hx

set_option maxRecDepth 100000 in
theorem digitsnumbers_lifted (os : Os) (started : os.Started) (H : Type) (enc : TypeId × Value → H) :
    ReturnsInHanded {} Try.checked os 3 .any (Rows.digitsNumbersSpec.pre6 enc Try.prog Try.f3 Rows.digitsNumbersRow.domain false) (Rows.digitsNumbersSpec.post enc Try.prog Try.f3 false true false false) := by
  refine returnsInHanded_of_change (C := Try.checked) Try.own started (by kernel_rfl) Try.func3
    (ChangeSpec.witness6 (enc := enc) (C := Try.checked) false ⟨#[], #[.int .i64 0, .string ⟨#[]⟩], []⟩ 8 (by kernel_rfl) (by kernel_rfl) (by kernel_rfl) (by kernel_rfl)) ?_
  intro W base args ds gs before hval0 hW hcnd hsized
  have hval : ∀ (j : Nat) t v, Try.f3.params[j]? = some t → args[j]? = some v → Value.okWide Try.prog W .any base t v := hval0
  have hW' := hW
  obtain ⟨p, q, hA0, hV, rfl, hfz, hnd⟩ := hW
  have hA : DataW.TrodAll enc Try.prog W 0 (fun _ => true) true Try.f3.params.toList args.toList ds p := hA0
  rw [Try.params3] at hA hval
  obtain ⟨v0, v1, d0, d1, p0, p1, rfl, rfl, rfl, h0, h1⟩ := trodAll_two hA
  obtain ⟨n, rfl, rfl, rfl, wn⟩ := open_int Try.underlying3 (hval 0 _ v0 rfl rfl) h0
  obtain ⟨s, rfl, hs⟩ := open_text Try.underlying9 (hval 1 _ v1 rfl rfl) h1
  refine Gives.use (digitsnumbers_all n s (wf_i64 wn) W) fun W' hb => ?_
  exact ⟨_, rfl, law_post Try.laidOut (by kernel_rfl) (by kernel_rfl) Try.underlying4 rfl hW' ⟨rfl, rfl, rfl⟩ hb⟩
theorem digitsnumbers_holds : Rows.DigitsNumbersSaid :=
  OpenClaim.holds_of_wide 3 Try.f3 rfl rfl rfl rfl rfl rfl rfl ⟨rfl, rfl, rfl, rfl, rfl⟩ rfl rfl rfl rfl rfl (by kernel_rfl) Try.func3 (by kernel_rfl)
    (of_decide_eq_true (by kernel_rfl)) (by unfold Func.isWrapper; first | (rw [if_pos (by decide +kernel)]; kernel_rfl) | (rw [if_neg (by decide +kernel)]; exact ⟨rfl, rfl⟩))
    (fun os started H enc _ => digitsnumbers_lifted os started H enc)
end Go.Proofs.Ytpmcflidggofkaa
