/-
  The statement MeterRises of layer 7 (meter), proved.
-/
import Derived.Test.YtanfjgkohhlcoaaMG
import Derived.Test.YtanfjgkohhlcoaaInRow
namespace Go.Proofs.Ytanfjgkohhlcoaa
open Go Go.ChangeShapes Go.WideShapes Go.ChangeAt Go.RowKit Go.Deep
def mrS (ks ns : List Int) : MS := ⟨[(0, some ⟨false, false, .rows [.ints .i64 ks, .ints .i64 ns]⟩)], 1⟩
theorem mr_in (n : Nat) (cp : Option Nat) (ks ns : List Int) : F_ Try.prog ((54, e_aw07) :: (L_m7 Try.prog Try.f55 Try.f56 Try.f58 Try.f60 Try.f64 Try.f65 Try.f66 Try.f67 Try.f68)) Try.f14 mrC [] 99 [.sl false 0 2 0 1 n cp] (mrS ks ns) =
    bif decide (200 < Int.ofNat n) then some (.ret (vb true) ⟨[], 99⟩ true) else some (.head (hd Try.f14 0) (mrTm n cp 0) (mrM ks ns 0 0 0 0 0 0) true) := by kernel_rfl
theorem mr_end (n : Nat) (cp : Option Nat) (ks ns : List Int) (x : Six) : H_ Try.prog ((54, e_aw07) :: (L_m7 Try.prog Try.f55 Try.f56 Try.f58 Try.f60 Try.f64 Try.f65 Try.f66 Try.f67 Try.f68)) Try.f14 mrC [] 99 (hd Try.f14 0) (mrTm n cp n) (mrM ks ns x.a x.b x.c x.d x.h x.g) = some (.ret (vb true) ⟨[], 99⟩ true) := by
  obtain ⟨a, b, c, d, h, g⟩ := x
  rw [mr_round, decide_eq_false (show ¬ (n : Int) < Int.ofNat n by simp)]
  rfl
theorem mr_loop {n : Nat} {cp : Option Nat} {ks ns : List Int} (hb : n ≤ 200) (hk : ks.length = n) (hn : ns.length = n) (hw : ∀ i, i < n → -9223372036854775808 ≤ ns.getD i 0 ∧ ns.getD i 0 ≤ 9223372036854775807) : ∀ (j i : Nat) (x : Six), i + j = n → x.fit →
    Gives_ Try.prog Try.f14 1 ⟨hd Try.f14 0, mrTm n cp i, mrM ks ns x.a x.b x.c x.d x.h x.g⟩ (vb true) ⟨[], 99⟩
  | 0, i, x, hi, _ => by
    have : i = n := by omega
    subst this
    exact H_ret (cuts := mrC) (ns := []) (top := 99) hE_m7a mixed rfl (mr_end i cp ks ns x)
  | j + 1, i, x, hi, hx =>
    Goes.gives (H_head (f := Try.f14) (cuts := mrC) (ns := []) (top := 99) hE_m7a mixed rfl (mr_next (by omega) hb hk hn hx (hw i (by omega)))) (mr_loop hb hk hn hw j (i + 1) _ (by omega) (nxt_fit hx (hw i (by omega))))
theorem rises_all (A : Option Addr) (n c : Nat) (cs : List Col) (i : LI) (w : World) (hin : InB w A n (.rows cs) i) (hnc : n ≤ c) (hf : Fits n [.i .i64, .i .i64] cs) : Gives 14 #[.slice A n c] w (.bool true) := by
  obtain ⟨_, _, rfl, ⟨ks, rfl, h1, _⟩, _, _, rfl, ⟨ns, rfl, h2, h3⟩, rfl⟩ := hf
  have hm : MRel (fun _ => i) (mrS ks ns) w := mrel_one (hin.ok _ _)
  have hx : AV.rels (fun _ => i) 1 [.sl false 0 2 0 1 n (some c)] [.slice A n c] := by
    simp only [AV.rels]
    exact ⟨_, _, rfl, hin.arg (ρ := fun _ => i) (by omega) hnc 2 1, rfl⟩
  have hw : ∀ i, i < n → -9223372036854775808 ≤ ns.getD i 0 ∧ ns.getD i 0 ≤ 9223372036854775807 := fun i hi => wf_i64 (h3 i hi)
  refine gives_true (c := bodyOf Try.f14) (m' := ⟨[], 99⟩) Try.func14 rfl ?_ rfl hm hx
  by_cases hn : 200 < n
  · refine F_ret hE_m7a mixed (cuts := mrC) (ns := []) (top := 99) rfl rfl ?_
    rw [mr_in, decide_eq_true (show (200 : Int) < Int.ofNat n by simp; omega)]
    rfl
  · refine Goes.gives (F_head (f := Try.f14) (c := bodyOf Try.f14) (cuts := mrC) (ns := []) (top := 99) (todo := hd Try.f14 0) (tm := mrTm n (some c) 0) (m' := mrM ks ns 0 0 0 0 0 0) hE_m7a mixed rfl rfl (by
      rw [mr_in, decide_eq_false (show ¬ (200 : Int) < Int.ofNat n by simp; omega)]
      rfl)) (mr_loop (by omega) (by omega) (by omega) hw n 0 ⟨0, 0, 0, 0, 0, 0⟩ (by omega) ⟨⟨rfl, rfl, rfl, rfl⟩, by decide, by decide, by decide⟩)

set_option maxRecDepth 100000 in
theorem meterrises_lifted (os : Os) (started : os.Started) (H : Type) (enc : TypeId × Value → H) :
    ReturnsInHanded {} Try.checked os 14 .any (Rows.meterRisesSpec.pre6 enc Try.prog Try.f14 Rows.meterRisesRow.domain false) (Rows.meterRisesSpec.post enc Try.prog Try.f14 false true false false) := by
  refine returnsInHanded_of_change (C := Try.checked) Try.own started (by kernel_rfl) Try.func14
    (ChangeSpec.witness6 (enc := enc) (C := Try.checked) false ⟨#[], #[.slice none 0 0], []⟩ 8 (by kernel_rfl) (by kernel_rfl) (by kernel_rfl) (by kernel_rfl)) ?_
  intro W base args ds gs before hval0 hW hcnd hsized
  have hval : ∀ (j : Nat) t v, Try.f14.params[j]? = some t → args[j]? = some v → Value.okWide Try.prog W .any base t v := hval0
  have hW' := hW
  obtain ⟨p, q, hA0, hV, rfl, hfz, hnd⟩ := hW
  have hA : DataW.TrodAll enc Try.prog W 0 (fun _ => true) true Try.f14.params.toList args.toList ds p := hA0
  rw [Try.params14] at hA hval
  obtain ⟨v0, d0, rfl, rfl, h0⟩ := trodAll_one hA
  obtain ⟨A, n, c, cs, i, rfl, hnc, hc, hf, hin⟩ := open_rows [.i .i64, .i .i64] Try.underlying78 Try.underlying85 (by kernel_rfl) (by kernel_rfl) (by decide) (by kernel_rfl) (hval 0 _ v0 rfl rfl) h0
  refine Gives.use (rises_all A n c cs i W hin hnc hf) fun W' hb => ?_
  exact ⟨_, rfl, law_post Try.laidOut (by kernel_rfl) (by kernel_rfl) Try.underlying4 rfl hW' ⟨rfl, rfl, rfl⟩ hb⟩
theorem meterrises_holds : Rows.MeterRisesSaid :=
  OpenClaim.holds_of_wide 14 Try.f14 rfl rfl rfl rfl rfl rfl rfl ⟨rfl, rfl, rfl, rfl, rfl⟩ rfl rfl rfl rfl rfl (by kernel_rfl) Try.func14 (by kernel_rfl)
    (of_decide_eq_true (by kernel_rfl)) (by unfold Func.isWrapper; first | (rw [if_pos (by decide +kernel)]; kernel_rfl) | (rw [if_neg (by decide +kernel)]; exact ⟨rfl, rfl⟩))
    (fun os started H enc _ => meterrises_lifted os started H enc)
end Go.Proofs.Ytanfjgkohhlcoaa
