/-
  The statement MeterPlays of layer 7 (meter), proved.
-/
import Derived.Test.YtanfjgkohhlcoaaME
import Derived.Test.YtanfjgkohhlcoaaInRow
import Derived.Test.YtanfjgkohhlcoaaLeaf
namespace Go.Proofs.Ytanfjgkohhlcoaa
open Go Go.ChangeShapes Go.WideShapes Go.ChangeAt Go.RowKit Go.Deep
def mpS (ks ns : List Int) : MS := ⟨[(0, some ⟨false, false, .rows [.ints .i64 ks, .ints .i64 ns]⟩)], 1⟩
theorem mp_in (n : Nat) (cp : Option Nat) (ks ns : List Int) (s t : Int) : F_ Try.prog ((54, e_aw07) :: (L_m7 Try.prog Try.f55 Try.f56 Try.f58 Try.f60 Try.f64 Try.f65 Try.f66 Try.f67 Try.f68)) Try.f13 mpC [] 99 [.sl false 0 2 0 1 n cp, .agg [vu s, vu t]] (mpS ks ns) =
    bif decide (200 < Int.ofNat n) then some (.ret (vb true) ⟨[], 99⟩ true) else some (.head (hd Try.f13 0) (mpTm n cp 0) (mpM ks ns s t 0 0 0 0 0 0) true) := by kernel_rfl
theorem mp_end (n : Nat) (cp : Option Nat) (ks ns : List Int) (s t : Int) (x : Six) : H_ Try.prog ((54, e_aw07) :: (L_m7 Try.prog Try.f55 Try.f56 Try.f58 Try.f60 Try.f64 Try.f65 Try.f66 Try.f67 Try.f68)) Try.f13 mpC [] 99 (hd Try.f13 0) (mpTm n cp n) (x.M ks ns s t) = some (.ret (vb true) ⟨[], 99⟩ true) := by
  obtain ⟨a, b, c, d, h, g⟩ := x
  unfold Six.M
  rw [mp_round, decide_eq_false (show ¬ (n : Int) < Int.ofNat n by simp)]
  rfl
theorem mp_loop {n : Nat} {cp : Option Nat} {ks ns : List Int} {s t : Int} (hb : n ≤ 200) (hk : ks.length = n) (hn : ns.length = n) (hs : inU s = true) (ht : inU t = true) : ∀ (j i : Nat) (x : Six), i + j = n → x.ok →
    Gives_ Try.prog Try.f13 1 ⟨hd Try.f13 0, mpTm n cp i, x.M ks ns s t⟩ (vb true) ⟨[], 99⟩
  | 0, i, x, hi, _ => by
    have : i = n := by omega
    subst this
    exact H_ret (cuts := mpC) (ns := []) (top := 99) hE_m7a mixed rfl (mp_end i cp ks ns s t x)
  | j + 1, i, x, hi, hx =>
    Goes.gives (H_head (f := Try.f13) (cuts := mpC) (ns := []) (top := 99) hE_m7a mixed rfl (mp_next (by omega) hb hk hn hs ht hx)) (mp_loop hb hk hn hs ht j (i + 1) _ (by omega) (nxt_ok hx _ _))
theorem plays_all (A : Option Addr) (n c : Nat) (cs : List Col) (i : LI) (s t : Int) (w : World) (hin : InB w A n (.rows cs) i) (hnc : n ≤ c) (hf : Fits n [.i .i64, .i .i64] cs) (hs : inU s = true) (ht : inU t = true) : Gives 13 #[.slice A n c, .agg #[.int .u64 s, .int .u64 t]] w (.bool true) := by
  obtain ⟨_, _, rfl, ⟨ks, rfl, h1, _⟩, _, _, rfl, ⟨ns, rfl, h2, _⟩, rfl⟩ := hf
  have hm : MRel (fun _ => i) (mpS ks ns) w := mrel_one (hin.ok _ _)
  have hx : AV.rels (fun _ => i) 1 [.sl false 0 2 0 1 n (some c), .agg [vu s, vu t]] [.slice A n c, .agg #[.int .u64 s, .int .u64 t]] := by
    simp only [AV.rels]
    refine ⟨_, _, rfl, hin.arg (ρ := fun _ => i) (by omega) hnc 2 1, _, _, rfl, ?_, rfl⟩
    simp only [AV.rel, AV.rels]
    exact ⟨_, rfl, _, _, rfl, rfl, _, _, rfl, rfl, rfl⟩
  refine gives_true (c := bodyOf Try.f13) (m' := ⟨[], 99⟩) Try.func13 rfl ?_ rfl hm hx
  by_cases hn : 200 < n
  · refine F_ret hE_m7a mixed (cuts := mpC) (ns := []) (top := 99) rfl rfl ?_
    rw [mp_in, decide_eq_true (show (200 : Int) < Int.ofNat n by simp; omega)]
    rfl
  · refine Goes.gives (F_head (f := Try.f13) (c := bodyOf Try.f13) (cuts := mpC) (ns := []) (top := 99) (todo := hd Try.f13 0) (tm := mpTm n (some c) 0) (m' := mpM ks ns s t 0 0 0 0 0 0) hE_m7a mixed rfl rfl (by
      rw [mp_in, decide_eq_false (show ¬ (200 : Int) < Int.ofNat n by simp; omega)]
      rfl)) (mp_loop (by omega) (by omega) (by omega) hs ht n 0 ⟨0, 0, 0, 0, 0, 0⟩ (by omega) ⟨rfl, rfl, rfl, rfl⟩)

set_option maxRecDepth 100000 in
theorem meterplays_lifted (os : Os) (started : os.Started) (H : Type) (enc : TypeId × Value → H) :
    ReturnsInHanded {} Try.checked os 13 .any (Rows.meterPlaysSpec.pre6 enc Try.prog Try.f13 Rows.meterPlaysRow.domain false) (Rows.meterPlaysSpec.post enc Try.prog Try.f13 false true false false) := by
  refine returnsInHanded_of_change (C := Try.checked) Try.own started (by kernel_rfl) Try.func13
    (ChangeSpec.witness6 (enc := enc) (C := Try.checked) false ⟨#[], #[.slice none 0 0, .agg #[.int .u64 0, .int .u64 0]], []⟩ 8 (by kernel_rfl) (by kernel_rfl) (by kernel_rfl) (by kernel_rfl)) ?_
  intro W base args ds gs before hval0 hW hcnd hsized
  have hval : ∀ (j : Nat) t v, Try.f13.params[j]? = some t → args[j]? = some v → Value.okWide Try.prog W .any base t v := hval0
  have hW' := hW
  obtain ⟨p, q, hA0, hV, rfl, hfz, hnd⟩ := hW
  have hA : DataW.TrodAll enc Try.prog W 0 (fun _ => true) true Try.f13.params.toList args.toList ds p := hA0
  rw [Try.params13] at hA hval
  obtain ⟨v0, v1, d0, d1, p0, p1, rfl, rfl, rfl, h0, h1⟩ := trodAll_two hA
  obtain ⟨A, n, c, cs, i, rfl, hnc, hc, hf, hin⟩ := open_rows [.i .i64, .i .i64] Try.underlying78 Try.underlying85 (by kernel_rfl) (by kernel_rfl) (by decide) (by kernel_rfl) (hval 0 _ v0 rfl rfl) h0
  obtain ⟨l1_, rfl, hl1_, hg1_⟩ := open_flat (ls := [22, 22]) Try.underlying24 rfl (by kernel_rfl) (by kernel_rfl) (hval 1 _ v1 rfl rfl) h1
  obtain ⟨c1_0, r1_0, rfl, hr1_0⟩ := list_cons hl1_
  obtain ⟨c1_1, r1_1, rfl, hr1_1⟩ := list_cons hr1_0
  cases list_nil hr1_1
  obtain ⟨s, rfl, ws⟩ := field_int Try.underlying22 (hg1_ 0 _ _ rfl rfl)
  obtain ⟨t, rfl, wt⟩ := field_int Try.underlying22 (hg1_ 1 _ _ rfl rfl)
  refine Gives.use (plays_all A n c cs i s t W hin hnc hf (to_inU (by have := wf_u64 ws; unfold isU; omega)) (to_inU (by have := wf_u64 wt; unfold isU; omega))) fun W' hb => ?_
  exact ⟨_, rfl, law_post Try.laidOut (by kernel_rfl) (by kernel_rfl) Try.underlying4 rfl hW' ⟨rfl, rfl, rfl⟩ hb⟩
theorem meterplays_holds : Rows.MeterPlaysSaid :=
  OpenClaim.holds_of_wide 13 Try.f13 rfl rfl rfl rfl rfl rfl rfl ⟨rfl, rfl, rfl, rfl, rfl⟩ rfl rfl rfl rfl rfl (by kernel_rfl) Try.func13 (by kernel_rfl)
    (of_decide_eq_true (by kernel_rfl)) (by unfold Func.isWrapper; first | (rw [if_pos (by decide +kernel)]; kernel_rfl) | (rw [if_neg (by decide +kernel)]; exact ⟨rfl, rfl⟩))
    (fun os started H enc _ => meterplays_lifted os started H enc)
end Go.Proofs.Ytanfjgkohhlcoaa
