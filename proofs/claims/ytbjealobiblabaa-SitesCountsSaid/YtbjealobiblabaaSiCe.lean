/-
  What the program's functions hand back.
-/
import Derived.Test.YtbjealobiblabaaSiCd
namespace Go.Proofs.Ytbjealobiblabaa
open Go Go.ChangeShapes Go.WideShapes Go.ChangeAt Go.RowKit Go.Deep
set_option maxRecDepth 100000
section
variable (S K : List Int) (n c : Nat)
theorem ssB_eq {n i : Nat} (hi : i < n) (hn : n ≤ 60) : ssB n (i : Int) = ((n - 1 - i : Nat) : Int) := by
  unfold ssB
  have e : Int.ofNat n = (n : Int) := rfl
  rw [e, wr64 ((n : Int) - 1) (by omega) (by omega), wr64 _ (by omega) (by omega)]
  omega
theorem jy_nat (i : Nat) : jy (i : Int) = i := by unfold jy; rw [addN_eq, mulN_eq, Int.toNat_natCast]; omega
theorem ss_order {zs us : List Int} (hz : ofZ zs = true) (h0 : 0 ≤ zs.getD 0 0) {t : Nat} (ht : t < us.length) (hl : us.length ≤ 32) (ho : 0 < t → ¬ atW zs (us.getD (t - 1) 0) < atW zs (us.getD t 0)) : conj (ss2O zs us us.length (t : Int)) = true := by
  have e0 : Int.ofNat us.length = (us.length : Int) := rfl
  refine cj_all fun b hb => ?_
  simp only [List.mem_cons, List.not_mem_nil, or_false] at hb
  rw [jy_nat, hz, e0, decide_eq_true h0] at hb
  by_cases hp : 0 < t
  · have e1 : IntKind.i64.wrap ((t : Int) - 1) = ((t - 1 : Nat) : Int) := by rw [wr64 _ (by omega) (by omega)]; omega
    rw [e1, jy_nat, decide_eq_true (show (0 : Int) < (t : Int) by omega), cond_true, decide_eq_false (ho hp)] at hb
    rcases hb with rfl | rfl | rfl | rfl | rfl | rfl | rfl | rfl | rfl | rfl | rfl | rfl | rfl | rfl | rfl | rfl | rfl | rfl | rfl <;> first | rfl | (simp <;> omega)
  · rw [decide_eq_false (show ¬ (0 : Int) < (t : Int) by omega), cond_false] at hb
    rcases hb with rfl | rfl | rfl | rfl | rfl | rfl | rfl | rfl | rfl | rfl | rfl | rfl | rfl | rfl | rfl | rfl | rfl | rfl | rfl <;> first | rfl | (simp <;> omega)
variable {k : Int} {f g : Nat → Int}
abbrev shS (k : Int) (f g : Nat → Int) : List Int := usS (stV k f g) (usV (stV k f g))
theorem ss_loop2 (h : Fg f g) {N : Nat} (hk : k = N) (h32 : N ≤ 32) (h1 : 1 ≤ N) (i : Int) : ∀ (j t : Nat), t + j = (shS k f g).length →
    Gives_ Try.prog Try.f7 1 ⟨hd Try.f7 1, ss2T n c (shS k f g).length i (sumTo (fun x => shZ (stV k f g) ((shS k f g).getD x 0)) t) (sumTo (fun x => atW (stV k f g) ((shS k f g).getD x 0)) t) (t : Int), ss2M S K (stV k f g) (stV k f g) (shS k f g) 4⟩ (vb true) ⟨[], 99⟩
  | 0, t, ht => by
    have hz : ofZ (stV k f g) = true := stV_of (by omega)
    have ht : t = (shS k f g).length := by omega
    subst ht
    rw [sumTo_list (shZ (stV k f g)), sumTo_list (atW (stV k f g)), words_all h hk h32]
    obtain ⟨hs1, hs2⟩ := shares_all h hk h32
    have hW := (sumG h h32)
    rw [← tW_st h hk h32] at hW
    generalize lsum (shZ (stV k f g)) (usS (stV k f g) (usV (stV k f g))) = s at *
    have c1 : ssC1 (stV k f g) s (tW (stV k f g)) = false := by
      unfold ssC1
      rw [bne_self_eq_false, cond_false, decide_eq_false (show ¬ 1000 < s by omega), cond_false]
      by_cases hp : 0 < tW (stV k f g)
      · rw [decide_eq_true hp, cond_true, decide_eq_false (by have := hs2 hp; omega)]
      · rw [decide_eq_false hp, cond_false]
    have c2 : ssC2 (stV k f g) (stV k f g) s (tW (stV k f g)) = false := by unfold ssC2; rw [c1, cond_false, samZ_refl]; rfl
    have c3 : ssC3 (stV k f g) (stV k f g) s (tW (stV k f g)) = false := by unfold ssC3; rw [c2, cond_false, samZ_refl]; rfl
    have hi : isZ (stV k f g) 0 = true := isZ_iff.2 (by rw [stV_0]; omega)
    have a1 : ssA1 (stV k f g) = true := by unfold ssA1 adE; rw [hi]; rfl
    have eB : adB (stV k f g) 0 1 = stV k (fun x => f x + cO k 0 1 x) (fun x => g x + cW k 0 1 x) := adB_st (by omega) f g 0 1 (fun x => by have := h.f0 x; omega) (fun x => by have := h.g1 x; have := (h.g0 x).1; omega) (by omega)
    have a2 : ssA2 (stV k f g) (stV k f g) = true := by
      unfold ssA2
      rw [a1, cond_true, eB]
      have : samZ (stV k (fun x => f x + cO k 0 1 x) (fun x => g x + cW k 0 1 x)) (stV k f g) = false := by
        unfold samZ
        rw [stV_0, stV_0, beq_self_eq_true, cond_true]
        unfold sameP
        rw [stV_s (show 0 < 64 by omega), stV_s (show 0 < 64 by omega)]
        simp only [Nat.zero_mod, if_true, Nat.zero_div]
        unfold cO
        rw [if_pos (by omega), show (f 0 + 1 == f 0) = false by simp; omega]
        rfl
      rw [this]; rfl
    have a3 : ssA3 (stV k f g) (stV k f g) = true := by
      unfold ssA3
      rw [a2, cond_true, stV_0, show ((0 : Int) == k) = false by simp; omega]
      rfl
    have hB : ofZ (adB (stV k f g) 0 1) = true := by rw [eB]; exact stV_of (by omega)
    have he := ss_end S K (stV k f g) (stV k f g) (shS k f g) n c (shS k f g).length i s (tW (stV k f g)) ((shS k f g).length : Int)
    rw [a3, c1, c2, c3, a1, a2, hz, hB, decide_eq_false (show ¬ ((shS k f g).length : Int) < Int.ofNat (shS k f g).length from Int.lt_irrefl _), stV_0, decide_eq_true (show 0 ≤ k by omega)] at he
    exact HO_ret hE_ss mixedP rfl he rfl
  | j + 1, t, ht => by
    have hz : ofZ (stV k f g) = true := stV_of (by omega)
    have hl : (shS k f g).length = (usV (stV k f g)).length ∧ (usV (stV k f g)).length ≤ N := used_len hk
    have hG := sumG h h32
    have he := ss2_round S K (stV k f g) (stV k f g) (shS k f g) n c (shS k f g).length i (sumTo (fun x => shZ (stV k f g) ((shS k f g).getD x 0)) t) (sumTo (fun x => atW (stV k f g) ((shS k f g).getD x 0)) t) (t : Int)
    have b1 := sumTo_le (c := fun x => shZ (stV k f g) ((shS k f g).getD x 0)) (b := 1000) (n := t + 1) fun x _ => shZ_range h hk h32 _
    have b2 := sumTo_le (c := fun x => atW (stV k f g) ((shS k f g).getD x 0)) (b := 4123168602240) (n := t + 1) fun x _ => by have := atW_range h hk h32 ((shS k f g).getD x 0); omega
    have ht32 : t + 1 ≤ 32 := by omega
    rw [ss_order hz (by rw [stV_0]; omega) (show t < (shS k f g).length by omega) (by omega) (fun h0 => used_order hk h32 t h0 (show t < (shS k f g).length by omega)), jy_nat, up1_nat (show t ≤ 4294967296 by omega)] at he
    rw [sumTo] at b1 b2
    have w1 : ((t + 1 : Nat) : Int) * 1000 ≤ 32000 := by omega
    have w2 : ((t + 1 : Nat) : Int) * 4123168602240 ≤ 131941395271680 := by omega
    rw [wr64 _ (by omega) (by omega), wr64 _ (by omega) (by omega)] at he
    exact Goes.gives ((HO_head hE_ss mixedP rfl he rfl).trans (Goes.ren (P := Try.prog) (B := 1) (σ := [(0, 0), (1, 1), (2, 2), (3, 3)]) (nx := 4) rfl)) (ss_loop2 h hk h32 h1 i j (t + 1) (by omega))
-- the first loop
abbrev fA (S K : List Int) (k : Int) (j : Nat) : Nat → Int := fun x => sumTo (fun i => cO k (S.getD i 0) (K.getD i 0) x) j
abbrev gA (S K : List Int) (k : Int) (j : Nat) : Nat → Int := fun x => sumTo (fun i => cW k (S.getD i 0) (K.getD i 0) x) j
abbrev fR (S K : List Int) (k : Int) (n j : Nat) : Nat → Int := fun x => sumTo (fun i => cO k (S.getD (n - 1 - i) 0) (K.getD (n - 1 - i) 0) x) j
abbrev gR (S K : List Int) (k : Int) (n j : Nat) : Nat → Int := fun x => sumTo (fun i => cW k (S.getD (n - 1 - i) 0) (K.getD (n - 1 - i) 0) x) j
theorem cO_01 (k s w : Int) (x : Nat) : 0 ≤ cO k s w x ∧ cO k s w x ≤ 1 := by unfold cO; split <;> omega
theorem cW_le {k s w : Int} (hw : w ≤ 2147483647) (x : Nat) : 0 ≤ cW k s w x ∧ cW k s w x ≤ 2147483647 * cO k s w x := by
  unfold cW cO
  split <;> omega
theorem fg_of (s w : Nat → Int) (hw : ∀ i, w i ≤ 2147483647) {j : Nat} (hj : j ≤ 60) : Fg (fun x => sumTo (fun i => cO k (s i) (w i) x) j) (fun x => sumTo (fun i => cW k (s i) (w i) x) j) where
  f0 x := by
    have := sumTo_le (c := fun i => cO k (s i) (w i) x) (b := 1) (n := j) fun i _ => cO_01 _ _ _ _
    omega
  g0 x := by
    have h1 := sumTo_le (c := fun i => cW k (s i) (w i) x) (b := 2147483647) (n := j) fun i _ => by have := cW_le (k := k) (s := s i) (hw i) x; have := cO_01 k (s i) (w i) x; omega
    have h2 := sumTo_mono (c := fun i => cW k (s i) (w i) x) (d := fun i => 2147483647 * cO k (s i) (w i) x) (n := j) fun i _ => (cW_le (hw i) x).2
    rw [sumTo_mul] at h2
    exact ⟨h1.1, h2⟩
theorem ssO_ok {S K zs os : List Int} {n i : Nat} (hi : i < n) (hn : n ≤ 60) (h1 : n ≤ S.length) (h2 : n ≤ K.length) (hz : ofZ zs = true) (ho : ofZ os = true) : conj (ssO S K zs os n (i : Int)) = true := by
  unfold ssO
  rw [ssB_eq hi hn, jy_nat, jy_nat, hz, ho, Int.toNat_natCast, Int.toNat_natCast, decide_eq_true (show 0 ≤ (i : Int) by omega), decide_eq_true hi, decide_eq_true (show i < S.length by omega), decide_eq_true (show i < K.length by omega),
    decide_eq_true (show 0 ≤ ((n - 1 - i : Nat) : Int) by omega), decide_eq_true (show n - 1 - i < n by omega), decide_eq_true (show n - 1 - i < S.length by omega), decide_eq_true (show n - 1 - i < K.length by omega)]
  rfl
theorem ss_loop1 (hn : n ≤ 60) (h1 : n ≤ S.length) (h2 : n ≤ K.length) (hw : ∀ i, -2147483648 ≤ K.getD i 0 ∧ K.getD i 0 ≤ 2147483647) {N : Nat} (hk : k = N) (h32 : N ≤ 32) (h1N : 1 ≤ N) : ∀ (j i : Nat), i + j = n →
    Gives_ Try.prog Try.f7 1 ⟨hd Try.f7 0, ssT n c (i : Int), ssM0 S K (stV k (fA S K k i) (gA S K k i)) (stV k (fR S K k n i) (gR S K k n i))⟩ (vb true) ⟨[], 99⟩
  | 0, i, hi => by
    have hi : i = n := by omega
    subst hi
    have e1 : fR S K k i i = fA S K k i := funext fun x => sumTo_rev (fun t => cO k (S.getD t 0) (K.getD t 0) x) i
    have e2 : gR S K k i i = gA S K k i := funext fun x => sumTo_rev (fun t => cW k (S.getD t 0) (K.getD t 0) x) i
    rw [e1, e2]
    have hF : Fg (fA S K k i) (gA S K k i) := fg_of (fun t => S.getD t 0) (fun t => K.getD t 0) (fun t => (hw t).2) hn
    have hz : ofZ (stV k (fA S K k i) (gA S K k i)) = true := stV_of (by omega)
    have he := ss_round S K (stV k (fA S K k i) (gA S K k i)) (stV k (fA S K k i) (gA S K k i)) i c (i : Int)
    rw [decide_eq_false (show ¬ (i : Int) < Int.ofNat i from Int.lt_irrefl _), cond_false, hz, stV_0, decide_eq_true (show 0 ≤ k by omega)] at he
    have hl : (shS k (fA S K k i) (gA S K k i)).length = (usV (stV k (fA S K k i) (gA S K k i))).length := (used_len hk).1
    rw [← hl] at he
    exact Goes.gives ((H_head (f := Try.f7) hE_ss mixedP rfl he).trans (Goes.ren (P := Try.prog) (B := 1) (σ := [(0, 0), (1, 1), (2, 2), (3, 3)]) (nx := 4) rfl)) (ss_loop2 S K i c hF hk h32 h1N (i : Int) (shS k (fA S K k i) (gA S K k i)).length 0 (by omega))
  | j + 1, i, hi => by
    have hF : Fg (fA S K k i) (gA S K k i) := fg_of (fun t => S.getD t 0) (fun t => K.getD t 0) (fun t => (hw t).2) (by omega)
    have hR : Fg (fR S K k n i) (gR S K k n i) := fg_of (fun t => S.getD (n - 1 - t) 0) (fun t => K.getD (n - 1 - t) 0) (fun t => (hw _).2) (by omega)
    have he := ss_round S K (stV k (fA S K k i) (gA S K k i)) (stV k (fR S K k n i) (gR S K k n i)) n c (i : Int)
    have q1 := hw i
    have q2 := hw (n - 1 - i)
    rw [decide_eq_true (show (i : Int) < Int.ofNat n by show (i : Int) < (n : Int); omega), cond_true, ssO_ok (by omega) hn h1 h2 (stV_of (by omega)) (stV_of (by omega)), ssB_eq (by omega) hn, jy_nat, jy_nat, up1_nat (by omega), wr64 (K.getD i 0) (by omega) (by omega), wr64 (K.getD (n - 1 - i) 0) (by omega) (by omega),
      adB_st (by omega) _ _ _ _ (fun x => by have := hF.f0 x; omega) (fun x => by have := hF.g1 x; have := (hF.g0 x).1; omega) (by omega),
      adB_st (by omega) _ _ _ _ (fun x => by have := hR.f0 x; omega) (fun x => by have := hR.g1 x; have := (hR.g0 x).1; omega) (by omega)] at he
    exact Goes.gives ((H_head (f := Try.f7) hE_ss mixedP rfl he).trans (Goes.ren (P := Try.prog) (B := 1) (σ := [(0, 0), (1, 1), (2, 2)]) (nx := 3) rfl)) (ss_loop1 hn h1 h2 hw hk h32 h1N j (i + 1) (by omega))
end
theorem ssN_ok {u : Int} (h0 : 0 ≤ u) (h1 : u ≤ 255) : 1 ≤ ssN u ∧ ssN u ≤ 32 := by
  unfold ssN
  rw [wr64 u (by omega) (by omega)]
  have h2 := Int.tmod_nonneg 32 h0
  have h3 := Int.tmod_lt_of_pos u (show (0 : Int) < 32 by omega)
  rw [wr64 _ (by omega) (by omega)]
  omega
theorem wf_i32 {z : Int} (h : (Lit.int .i32 z).wf = true) : -2147483648 ≤ z ∧ z ≤ 2147483647 := by
  simp only [Lit.wf, Bool.and_eq_true, decide_eq_true_eq] at h
  have e1 : IntKind.min .i32 = -2147483648 := by decide
  have e2 : IntKind.max .i32 = 2147483647 := by decide
  rw [e1, e2] at h
  exact h
theorem wf_u8 {z : Int} (h : (Lit.int .u8 z).wf = true) : 0 ≤ z ∧ z ≤ 255 := by
  simp only [Lit.wf, Bool.and_eq_true, decide_eq_true_eq] at h
  have e1 : IntKind.min .u8 = 0 := by decide
  have e2 : IntKind.max .u8 = 255 := by decide
  rw [e1, e2] at h
  exact h
theorem shares_any (A : Option Addr) (n c : Nat) (cs : List Col) (i : LI) (u : Int) (w : World) (h0 : 0 ≤ u) (h1 : u ≤ 255) (hin : InB w A n (.rows cs) i) (hnc : n ≤ c) (hf : Fits n [.i .i64, .i .i32] cs) : Gives 7 #[.int .u8 u, .slice A n c] w (.bool true) := by
  obtain ⟨_, _, rfl, ⟨S, rfl, h2, _⟩, _, _, rfl, ⟨K, rfl, h3, h4⟩, rfl⟩ := hf
  have hm : MRel (fun _ => i) ⟨[ssI S K], 1⟩ w := mrel_one (hin.ok _ _)
  have hx : AV.rels (fun _ => i) 1 [vc u, .sl false 0 2 0 1 n (some c)] [.int .u8 u, .slice A n c] := by
    simp only [AV.rels]
    exact ⟨_, _, rfl, by simp [AV.rel], _, _, rfl, hin.arg (ρ := fun _ => i) (by omega) hnc 2 1, rfl⟩
  refine gives_true (c := bodyOf Try.f7) (m' := ⟨[], 99⟩) Try.func7 rfl ?_ rfl hm hx
  have he := ss_in S K n c u
  by_cases hn : 60 < n
  · rw [decide_eq_true (show (60 : Int) < Int.ofNat n by show (60 : Int) < (n : Int); omega), cond_true] at he
    exact F_ret hE_ss mixedP (cuts := ssC) (ns := []) (top := 99) rfl rfl he
  · obtain ⟨g1, g2⟩ := ssN_ok h0 h1
    obtain ⟨N, hN⟩ := Int.eq_ofNat_of_zero_le (show 0 ≤ ssN u by omega)
    have hN : ssN u = (N : Int) := hN
    rw [decide_eq_false (show ¬ (60 : Int) < Int.ofNat n by show ¬ (60 : Int) < (n : Int); omega), cond_false, decide_eq_true g1, decide_eq_true g2, newZ_st, hN] at he
    have hw : ∀ j, -2147483648 ≤ K.getD j 0 ∧ K.getD j 0 ≤ 2147483647 := fun j => by
      by_cases hj : j < n
      · exact wf_i32 (h4 j hj)
      · rw [List.getD_eq_getElem?_getD, List.getElem?_eq_none (by omega)]
        exact ⟨by show (-2147483648 : Int) ≤ 0; omega, by show (0 : Int) ≤ 2147483647; omega⟩
    exact Goes.gives ((F_head (f := Try.f7) (c := bodyOf Try.f7) (cuts := ssC) (ns := []) (top := 99) hE_ss mixedP rfl rfl he).trans (Goes.ren (P := Try.prog) (B := 1) (σ := [(0, 0), (1, 1), (2, 2)]) (nx := 3) rfl)) (ss_loop1 S K n c (by omega) (by omega) (by omega) hw (k := (N : Int)) rfl (by omega) (by omega) n 0 (by omega))
set_option maxRecDepth 100000 in
theorem sitesShares_lifted (os : Os) (started : os.Started) (H : Type) (enc : TypeId × Value → H) :
    ReturnsInHanded {} Try.checked os 7 .any (Rows.sitesSharesSpec.pre6 enc Try.prog Try.f7 Rows.sitesSharesRow.domain false) (Rows.sitesSharesSpec.post enc Try.prog Try.f7 false true false false) := by
  refine returnsInHanded_of_change (C := Try.checked) Try.own started (by kernel_rfl) Try.func7
    (ChangeSpec.witness6 (enc := enc) (C := Try.checked) false ⟨#[], #[.int .u8 0, .slice none 0 0], []⟩ 8 (by kernel_rfl) (by kernel_rfl) (by kernel_rfl) (by kernel_rfl)) ?_
  intro W base args ds gs before hval0 hW hcnd hsized
  have hval : ∀ (j : Nat) t v, Try.f7.params[j]? = some t → args[j]? = some v → Value.okWide Try.prog W .any base t v := hval0
  have hW' := hW
  obtain ⟨p, q, hA0, hV, rfl, hfz, hnd⟩ := hW
  have hA : DataW.TrodAll enc Try.prog W 0 (fun _ => true) true Try.f7.params.toList args.toList ds p := hA0
  rw [Try.params7] at hA hval
  obtain ⟨v0, v1, d0, d1, p0, p1, rfl, rfl, rfl, h0, h1⟩ := trodAll_two hA
  obtain ⟨u, rfl, rfl, rfl, wu⟩ := open_int Try.underlying5 (hval 0 _ v0 rfl rfl) h0
  obtain ⟨A, n, c, cs, i, rfl, hnc, hc, hf, hin⟩ := open_rows [.i .i64, .i .i32] Try.underlying58 Try.underlying68 (by kernel_rfl) (by kernel_rfl) (by decide) (by kernel_rfl) (hval 1 _ v1 rfl rfl) h1
  refine Gives.use (shares_any A n c cs i u W (wf_u8 wu).1 (wf_u8 wu).2 hin hnc hf) fun W' hb => ?_
  exact ⟨_, rfl, law_post Try.laidOut (by kernel_rfl) (by kernel_rfl) Try.underlying4 rfl hW' ⟨rfl, rfl, rfl⟩ hb⟩
theorem sitesShares_holds : Rows.SitesSharesSaid :=
  OpenClaim.holds_of_wide 7 Try.f7 rfl rfl rfl rfl rfl rfl rfl ⟨rfl, rfl, rfl, rfl, rfl⟩ rfl rfl rfl rfl rfl (by kernel_rfl) Try.func7 (by kernel_rfl)
    (of_decide_eq_true (by kernel_rfl)) (by unfold Func.isWrapper; first | (rw [if_pos (by decide +kernel)]; kernel_rfl) | (rw [if_neg (by decide +kernel)]; exact ⟨rfl, rfl⟩))
    (fun os started H enc _ => sitesShares_lifted os started H enc)
end Go.Proofs.Ytbjealobiblabaa
