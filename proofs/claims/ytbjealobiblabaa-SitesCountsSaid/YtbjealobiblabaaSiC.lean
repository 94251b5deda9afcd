/-
  The statement SitesCounts of layer 29 (sites), proved.
-/
import Derived.Test.YtbjealobiblabaaSiCe
namespace Go.Proofs.Ytbjealobiblabaa
open Go Go.ChangeShapes Go.WideShapes Go.ChangeAt Go.RowKit Go.Deep
set_option maxRecDepth 100000
section
variable (S K : List Int) (n c : Nat)
variable {k : Int} {f g : Nat → Int}
theorem sc_final (h : Fg f g) {N : Nat} (hk : k = N) (h32 : N ≤ 32) (h1 : 1 ≤ N) (site i : Int) (nn wr op : Bool) :
    Gives_ Try.prog Try.f6 1 ⟨hd Try.f6 1, sc2T n c nn k site i (N : Int), scM S K (stV k f g) (rsL f N) (rsL g N) 2 wr op 3⟩ (vb true) ⟨[], 99⟩ := by
  have hz : ofZ (stV k f g) = true := stV_of (by omega)
  have hN : k.toNat = N := by rw [hk, Int.toNat_natCast]
  have hl : (usS (stV k f g) (usV (stV k f g))).length = (usV (stV k f g)).length ∧ (usV (stV k f g)).length ≤ N := used_len hk
  have r1 : scR1 (stV k f g) (rsL f N) (rsL g N) k = true := by
    unfold scR1 ruL sameL
    rw [hN, decide_eq_true_eq]
    exact order_eq h hk h32
  have r2 : scR2 (stV k f g) (rsL f N) (rsL g N) k = true := by
    unfold scR2 rTot
    rw [r1, hN, cond_true, tO_st h hk h32, tW_st h hk h32, rO_st h h32, rW_st h h32]
    simp
  have r3 : scR3 (stV k f g) (rsL f N) (rsL g N) k site = true := by
    unfold scR3
    rw [r2, cond_true]
    unfold isZ
    rw [stV_0]
    simp
  have r4 : scR4 (stV k f g) (rsL f N) (rsL g N) k site = true := by
    unfold scR4 rTot
    rw [r3, cond_true, hN, rW_st h h32, share_eq h hk h32]
    simp
  have he := sc_end S K (stV k f g) (rsL f N) (rsL g N) n c k site i (N : Int) nn wr op
  have hc : (conj [!decide ((N : Int) < k), Nat.ble k.toNat 4096, Nat.ble k.toNat (rsL f N).length, Nat.ble k.toNat (rsL g N).length, ofZ (stV k f g), decide (0 ≤ (stV k f g).getD 0 0), Nat.ble k.toNat 4096, Nat.ble k.toNat (rsL f N).length, Nat.ble k.toNat (rsL g N).length,
        Nat.beq (usV (stV k f g)).length (usS (stV k f g) (usV (stV k f g))).length, Nat.beq (ruL (rsL f N) (rsL g N) k).length (ruL (rsL f N) (rsL g N) k).length, Nat.ble (usV (stV k f g)).length 9223372036854775807,
        !scR1 (stV k f g) (rsL f N) (rsL g N) k || ofZ (stV k f g), !scR1 (stV k f g) (rsL f N) (rsL g N) k || decide (0 ≤ (stV k f g).getD 0 0), !scR2 (stV k f g) (rsL f N) (rsL g N) k || decide (0 < (stV k f g).length),
        !scR3 (stV k f g) (rsL f N) (rsL g N) k site || ofZ (stV k f g), !scR3 (stV k f g) (rsL f N) (rsL g N) k site || decide (0 ≤ (stV k f g).getD 0 0), !scR3 (stV k f g) (rsL f N) (rsL g N) k site || Nat.ble k.toNat 4096, !scR3 (stV k f g) (rsL f N) (rsL g N) k site || Nat.ble k.toNat (rsL f N).length, !scR3 (stV k f g) (rsL f N) (rsL g N) k site || Nat.ble k.toNat (rsL g N).length]) = true := by
    rw [r1, r2, r3, hN, hz, stV_0, rsL_len, rsL_len, stV_len, hl.1, Nat.beq_refl, Nat.beq_refl, Nat.ble_eq_true_of_le (show N ≤ 4096 by omega), Nat.ble_eq_true_of_le (Nat.le_refl N), Nat.ble_eq_true_of_le (show (usV (stV k f g)).length ≤ 9223372036854775807 by omega), decide_eq_false (show ¬ (N : Int) < k by omega), decide_eq_true (show 0 ≤ k by omega)]
    rfl
  rw [hc, r4] at he
  exact HO_ret hE_sc mixedP rfl he rfl
theorem sc_loop2 (h : Fg f g) {N : Nat} (hk : k = N) (h32 : N ≤ 32) (h1 : 1 ≤ N) (site i : Int) (nn wr op : Bool) : ∀ (j t : Nat), t + j = N →
    Gives_ Try.prog Try.f6 1 ⟨hd Try.f6 1, sc2T n c nn k site i (t : Int), scM S K (stV k f g) (rsL f N) (rsL g N) 2 wr op 3⟩ (vb true) ⟨[], 99⟩
  | 0, t, ht => by
    have ht : t = N := by omega
    subst ht
    exact sc_final S K n c h hk h32 h1 site i nn wr op
  | j + 1, t, ht => by
    have hz : ofZ (stV k f g) = true := stV_of (by omega)
    have hN : k.toNat = N := by rw [hk, Int.toNat_natCast]
    have he := sc_2 S K (stV k f g) (rsL f N) (rsL g N) n c k site i (t : Int) nn wr op
    have e1 : scE (stV k f g) (rsL f N) (rsL g N) (t : Int) = false := by
      unfold scE
      rw [jy_nat, rsL_get (by omega), rsL_get (by omega), atW_st hk h32, if_pos (by omega), Int.toNat_natCast]
      have : atO (stV k f g) (t : Int) = f t := by
        unfold atO
        rw [isZ_iff.2 (by rw [stV_0]; omega), cond_true, stV_O (by omega)]
      rw [this]
      simp
    have e2 : (bif scE (stV k f g) (rsL f N) (rsL g N) (t : Int) then true else shZ (stV k f g) (t : Int) != rsV (rsL g N) k.toNat (rTot (rsL g N) k) (t : Int)) = false := by
      unfold rTot
      rw [e1, cond_false, hN, rW_st h h32, share_eq h hk h32]
      simp
    rw [e2, e1, hz, hN, stV_0, rsL_len, rsL_len, jy_nat, Int.toNat_natCast, Nat.ble_eq_true_of_le (show N ≤ 4096 by omega), Nat.ble_eq_true_of_le (Nat.le_refl N), decide_eq_true (show (t : Int) < k by omega), decide_eq_true (show 0 ≤ (t : Int) by omega), decide_eq_true (show t < N by omega), decide_eq_true (show 0 ≤ k by omega), up1_nat (by omega)] at he
    exact Goes.gives ((HO_head hE_sc mixedP rfl he rfl).trans (Goes.ren (P := Try.prog) (B := 1) (σ := [(0, 0), (1, 1), (2, 2)]) (nx := 3) rfl)) (sc_loop2 h hk h32 h1 site i nn wr op j (t + 1) (by omega))
theorem scO_ok {zs : List Int} {i : Nat} (hi : i < n) (h1 : n ≤ S.length) (h2 : n ≤ K.length) (hz : ofZ zs = true) : conj (scO S K zs n (i : Int)) = true := by
  refine cj_all fun b hb => ?_
  simp only [scO, List.mem_cons, List.not_mem_nil, or_false] at hb
  rw [jy_nat, hz, Int.toNat_natCast, decide_eq_true (show (i : Int) < Int.ofNat n by show (i : Int) < (n : Int); omega), decide_eq_true (show 0 ≤ (i : Int) by omega), decide_eq_true hi, decide_eq_true (show i < S.length by omega), decide_eq_true (show i < K.length by omega)] at hb
  simpa using hb
set_option maxHeartbeats 1000000 in
theorem sc_loop1 (hn : n ≤ 60) (h1 : n ≤ S.length) (h2 : n ≤ K.length) (hw : ∀ i, -2147483648 ≤ K.getD i 0 ∧ K.getD i 0 ≤ 2147483647) {N : Nat} (hk : k = N) (h32 : N ≤ 32) (h1N : 1 ≤ N) (site : Int) : ∀ (j i : Nat) (nn wr op : Bool), i + j = n →
    Gives_ Try.prog Try.f6 1 ⟨hd Try.f6 0, scT n c 2 nn k site (i : Int), scM S K (stV k (fA S K k i) (gA S K k i)) (rsL (fA S K k i) N) (rsL (gA S K k i) N) 2 wr op 3⟩ (vb true) ⟨[], 99⟩
  | 0, i, nn, wr, op, hi => by
    have hF : Fg (fA S K k i) (gA S K k i) := fg_of (fun t => S.getD t 0) (fun t => K.getD t 0) (fun t => (hw t).2) (by omega)
    have he := sc_out S K (stV k (fA S K k i) (gA S K k i)) (rsL (fA S K k i) N) (rsL (gA S K k i) N) n c k site (i : Int) nn wr op
    rw [decide_eq_false (show ¬ (i : Int) < Int.ofNat n by show ¬ (i : Int) < (n : Int); omega)] at he
    exact Goes.gives ((HO_head hE_sc mixedP rfl he rfl).trans (Goes.ren (P := Try.prog) (B := 1) (σ := [(0, 0), (1, 1), (2, 2)]) (nx := 3) rfl)) (sc_loop2 S K n c hF hk h32 h1N site (i : Int) nn wr op N 0 (by omega))
  | j + 1, i, nn, wr, op, hi => by
    have hF : Fg (fA S K k i) (gA S K k i) := fg_of (fun t => S.getD t 0) (fun t => K.getD t 0) (fun t => (hw t).2) (by omega)
    have hz : ofZ (stV k (fA S K k i) (gA S K k i)) = true := stV_of (by omega)
    have hN : k.toNat = N := by rw [hk, Int.toNat_natCast]
    have q1 := hw i
    have eS : scS S (i : Int) = S.getD i 0 := by unfold scS; rw [jy_nat]
    have eK : scK K (i : Int) = K.getD i 0 := by unfold scK; rw [jy_nat, wr64 _ (by omega) (by omega)]
    have eB : adB (stV k (fA S K k i) (gA S K k i)) (S.getD i 0) (K.getD i 0) = stV k (fA S K k (i + 1)) (gA S K k (i + 1)) := adB_st (by omega) _ _ _ _ (fun x => by have := hF.f0 x; omega) (fun x => by have := hF.g1 x; have := (hF.g0 x).1; omega) (by omega)
    have hO := scO_ok S K n (zs := stV k (fA S K k i) (gA S K k i)) (show i < n by omega) h1 h2 hz
    by_cases hv : 0 ≤ S.getD i 0 ∧ S.getD i 0 < k
    · have hc1 : scC1 S k (i : Int) = false := by
        unfold scC1
        rw [eS, decide_eq_false (show ¬ S.getD i 0 < 0 by omega), cond_false, decide_eq_false (by omega)]
      have hiz : isZ (stV k (fA S K k i) (gA S K k i)) (S.getD i 0) = true := isZ_iff.2 (by rw [stV_0]; exact hv)
      by_cases hp : K.getD i 0 < 1
      · have he := sc_r2 S K (stV k (fA S K k i) (gA S K k i)) (rsL (fA S K k i) N) (rsL (gA S K k i) N) n c k site (i : Int) nn wr op
        have ef : fA S K k (i + 1) = fA S K k i := funext fun x => by
          show sumTo _ (i + 1) = sumTo _ i
          rw [sumTo]
          unfold cO
          rw [if_neg (by omega)]
          omega
        have eg : gA S K k (i + 1) = gA S K k i := funext fun x => by
          show sumTo _ (i + 1) = sumTo _ i
          rw [sumTo]
          unfold cW
          rw [if_neg (by omega)]
          omega
        have ea : adE (stV k (fA S K k i) (gA S K k i)) (S.getD i 0) (K.getD i 0) = 1 := by unfold adE; rw [hiz, decide_eq_true hp]; rfl
        have hc : conj (scO S K (stV k (fA S K k i) (gA S K k i)) n (i : Int) ++ [!scC1 S k (i : Int), decide (0 ≤ (i : Int)), decide ((i : Int).toNat < n), decide (jy (i : Int) < K.length), decide (K.getD (jy (i : Int)) 0 < 1), !(adE (stV k (fA S K k i) (gA S K k i)) (scS S (i : Int)) (scK K (i : Int)) != 1)]) = true := by
          refine cj_app _ _ hO ?_
          rw [hc1, eS, eK, ea, jy_nat, Int.toNat_natCast, decide_eq_true (show 0 ≤ (i : Int) by omega), decide_eq_true (show i < n by omega), decide_eq_true (show i < K.length by omega), decide_eq_true hp]
          rfl
        rw [hc, eS, eK, eB, up1_nat (show i ≤ 4294967296 by omega)] at he
        have ih := sc_loop1 hn h1 h2 hw hk h32 h1N site j (i + 1) nn wr op (by omega)
        rw [ef, eg] at he ih
        exact Goes.gives ((HO_head hE_sc mixedP rfl he rfl).trans (Goes.ren (P := Try.prog) (B := 1) (σ := [(0, 0), (1, 1), (2, 2)]) (nx := 3) rfl)) ih
      · have he := sc_r3 S K (stV k (fA S K k i) (gA S K k i)) (rsL (fA S K k i) N) (rsL (gA S K k i) N) n c k site (i : Int) nn wr op
        obtain ⟨s, hs⟩ := Int.eq_ofNat_of_zero_le hv.1
        have hs : S.getD i 0 = (s : Int) := hs
        have ef : rsL (fA S K k (i + 1)) N = raL (rsL (fA S K k i) N) N (S.getD i 0) 1 := by
          rw [hs, rsL_set (show s < N by omega)]
          refine congrArg (fun φ => rsL φ N) (funext fun x => ?_)
          show sumTo _ (i + 1) = _
          have hf := hF.f0 x
          have hf' : sumTo (fun i => cO k (S.getD i 0) (K.getD i 0) x) i = fA S K k i x := rfl
          rw [sumTo, hf']
          unfold cO
          by_cases e : x = s
          · rw [if_pos e, if_pos (by omega), wr64 _ (by omega) (by omega)]
          · rw [if_neg e, if_neg (by omega)]; omega
        have eg : rsL (gA S K k (i + 1)) N = raL (rsL (gA S K k i) N) N (S.getD i 0) (K.getD i 0) := by
          rw [hs, rsL_set (show s < N by omega)]
          refine congrArg (fun φ => rsL φ N) (funext fun x => ?_)
          show sumTo _ (i + 1) = _
          have hg := hF.g1 x
          have hg0 := (hF.g0 x).1
          have hg' : sumTo (fun i => cW k (S.getD i 0) (K.getD i 0) x) i = gA S K k i x := rfl
          rw [sumTo, hg']
          unfold cW
          by_cases e : x = s
          · rw [if_pos e, if_pos (by omega), wr64 _ (by omega) (by omega)]
          · rw [if_neg e, if_neg (by omega)]; omega
        have ea : adE (stV k (fA S K k i) (gA S K k i)) (S.getD i 0) (K.getD i 0) = 0 := by unfold adE; rw [hiz, decide_eq_false hp]; rfl
        have hc : conj (scO S K (stV k (fA S K k i) (gA S K k i)) n (i : Int) ++ [!scC1 S k (i : Int), decide (0 ≤ (i : Int)), decide ((i : Int).toNat < n), decide (jy (i : Int) < K.length), !decide (K.getD (jy (i : Int)) 0 < 1), decide (0 ≤ (i : Int)), decide ((i : Int).toNat < n), decide (jy (i : Int) < S.length), decide (0 ≤ (i : Int)), decide ((i : Int).toNat < n), decide (jy (i : Int) < K.length),
            decide (0 ≤ scS S (i : Int)), decide (scS S (i : Int) < Int.ofNat k.toNat), Nat.ble k.toNat 4096, Nat.ble k.toNat (rsL (fA S K k i) N).length, Nat.ble k.toNat (rsL (gA S K k i) N).length, !(adE (stV k (fA S K k i) (gA S K k i)) (scS S (i : Int)) (scK K (i : Int)) != 0)]) = true := by
          refine cj_app _ _ hO ?_
          rw [hc1, eS, eK, ea, hN, rsL_len, rsL_len, jy_nat, Int.toNat_natCast, decide_eq_true (show 0 ≤ (i : Int) by omega), decide_eq_true (show i < n by omega), decide_eq_true (show i < K.length by omega), decide_eq_true (show i < S.length by omega), decide_eq_false hp, decide_eq_true hv.1, decide_eq_true (show S.getD i 0 < Int.ofNat N by show S.getD i 0 < (N : Int); omega), Nat.ble_eq_true_of_le (show N ≤ 4096 by omega), Nat.ble_eq_true_of_le (Nat.le_refl N)]
          rfl
        rw [hc, eS, eK, eB, hN, ← ef, ← eg, up1_nat (show i ≤ 4294967296 by omega)] at he
        exact Goes.gives ((HO_head hE_sc mixedP rfl he rfl).trans (Goes.ren (P := Try.prog) (B := 1) (σ := [(0, 0), (1, 1), (2, 3)]) (nx := 3) rfl)) (sc_loop1 hn h1 h2 hw hk h32 h1N site j (i + 1) false false false (by omega))
    · have hc1 : scC1 S k (i : Int) = true := by
        unfold scC1
        rw [eS]
        by_cases h0 : S.getD i 0 < 0
        · rw [decide_eq_true h0]; rfl
        · rw [decide_eq_false h0, cond_false, decide_eq_true (by omega)]
      have hiz : isZ (stV k (fA S K k i) (gA S K k i)) (S.getD i 0) = false := isZ_out (by rw [stV_0]; exact hv)
      have he := sc_r1 S K (stV k (fA S K k i) (gA S K k i)) (rsL (fA S K k i) N) (rsL (gA S K k i) N) n c k site (i : Int) nn wr op
      have ef : fA S K k (i + 1) = fA S K k i := funext fun x => by
        show sumTo _ (i + 1) = sumTo _ i
        rw [sumTo]
        unfold cO
        rw [if_neg (by omega)]
        omega
      have eg : gA S K k (i + 1) = gA S K k i := funext fun x => by
        show sumTo _ (i + 1) = sumTo _ i
        rw [sumTo]
        unfold cW
        rw [if_neg (by omega)]
        omega
      have ea : adE (stV k (fA S K k i) (gA S K k i)) (S.getD i 0) (K.getD i 0) = 21 := by unfold adE; rw [hiz]; rfl
      have hc : conj (scO S K (stV k (fA S K k i) (gA S K k i)) n (i : Int) ++ [scC1 S k (i : Int), !(adE (stV k (fA S K k i) (gA S K k i)) (scS S (i : Int)) (scK K (i : Int)) != 21)]) = true := by
        refine cj_app _ _ hO ?_
        rw [hc1, eS, eK, ea]
        rfl
      rw [hc, eS, eK, eB, up1_nat (show i ≤ 4294967296 by omega)] at he
      have ih := sc_loop1 hn h1 h2 hw hk h32 h1N site j (i + 1) nn wr op (by omega)
      rw [ef, eg] at he ih
      exact Goes.gives ((HO_head hE_sc mixedP rfl he rfl).trans (Goes.ren (P := Try.prog) (B := 1) (σ := [(0, 0), (1, 1), (2, 2)]) (nx := 3) rfl)) ih
end
theorem counts_any (A : Option Addr) (n c : Nat) (cs : List Col) (i : LI) (N site : Int) (w : World) (hin : InB w A n (.rows cs) i) (hnc : n ≤ c) (hf : Fits n [.i .i64, .i .i32] cs) : Gives 6 #[.int .i64 N, .slice A n c, .int .i64 site] w (.bool true) := by
  obtain ⟨_, _, rfl, ⟨S, rfl, h2, _⟩, _, _, rfl, ⟨K, rfl, h3, h4⟩, rfl⟩ := hf
  have hm : MRel (fun _ => i) ⟨[ssI S K], 1⟩ w := mrel_one (hin.ok _ _)
  have hx : AV.rels (fun _ => i) 1 [vi N, .sl false 0 2 0 1 n (some c), vi site] [.int .i64 N, .slice A n c, .int .i64 site] := by
    simp only [AV.rels]
    exact ⟨_, _, rfl, by simp [AV.rel], _, _, rfl, hin.arg (ρ := fun _ => i) (by omega) hnc 2 1, _, _, rfl, by simp [AV.rel], rfl⟩
  refine gives_true (c := bodyOf Try.f6) (m' := ⟨[], 99⟩) Try.func6 rfl ?_ rfl hm hx
  by_cases hn : 60 < n
  · have he := sc_big S K n c N site
    rw [decide_eq_true (show (60 : Int) < Int.ofNat n by show (60 : Int) < (n : Int); omega)] at he
    exact FO_ret hE_sx mixedP rfl rfl he rfl
  · have hnd : decide ((60 : Int) < Int.ofNat n) = false := decide_eq_false (by show ¬ (60 : Int) < (n : Int); omega)
    by_cases hb : 1 ≤ N ∧ N ≤ 32
    · obtain ⟨M, hM⟩ := Int.eq_ofNat_of_zero_le (show 0 ≤ N by omega)
      have hM : N = (M : Int) := hM
      have he := sc_in S K n c N site
      rw [hnd, decide_eq_true hb.1, decide_eq_true hb.2, decide_eq_false (show ¬ N < 1 by omega), decide_eq_false (show ¬ 32 < N by omega), bne_self_eq_false, decide_eq_true (show 0 ≤ N by omega), decide_eq_true (Int.le_refl N), decide_eq_true (show 16 * N ≤ 281474976710656 by omega), decide_eq_true (show N ≤ 9223372036854775807 by omega), newZ_st, show N.toNat = M by rw [hM, Int.toNat_natCast], rsL_rep] at he
      have hw : ∀ j, -2147483648 ≤ K.getD j 0 ∧ K.getD j 0 ≤ 2147483647 := fun j => by
        by_cases hj : j < n
        · exact wf_i32 (h4 j hj)
        · rw [List.getD_eq_getElem?_getD, List.getElem?_eq_none (by omega)]
          exact ⟨by show (-2147483648 : Int) ≤ 0; omega, by show (0 : Int) ≤ 2147483647; omega⟩
      exact Goes.gives ((FO_head (f := Try.f6) (c := bodyOf Try.f6) hE_sc mixedP rfl rfl he rfl).trans (Goes.ren (P := Try.prog) (B := 1) (σ := [(0, 0), (1, 1), (2, 2)]) (nx := 3) rfl)) (sc_loop1 S K n c (k := N) (by omega) (by omega) (by omega) hw hM (by omega) (by omega) site n 0 true true true (by omega))
    · have he := sc_bad S K n c N site
      have e1 : (decide (N < 1) || decide (32 < N)) = true := by simp; omega
      have e2 : (bif decide (N < 1) then true else decide (32 < N)) = true := by
        by_cases h1 : N < 1
        · rw [decide_eq_true h1]; rfl
        · rw [decide_eq_false h1, cond_false, decide_eq_true (by omega)]
      rw [hnd, e1, e2] at he
      exact FO_ret hE_sx mixedP rfl rfl he rfl
set_option maxRecDepth 100000 in
theorem sitesCounts_lifted (os : Os) (started : os.Started) (H : Type) (enc : TypeId × Value → H) :
    ReturnsInHanded {} Try.checked os 6 .any (Rows.sitesCountsSpec.pre6 enc Try.prog Try.f6 Rows.sitesCountsRow.domain false) (Rows.sitesCountsSpec.post enc Try.prog Try.f6 false true false false) := by
  refine returnsInHanded_of_change (C := Try.checked) Try.own started (by kernel_rfl) Try.func6
    (ChangeSpec.witness6 (enc := enc) (C := Try.checked) false ⟨#[], #[.int .i64 0, .slice none 0 0, .int .i64 0], []⟩ 8 (by kernel_rfl) (by kernel_rfl) (by kernel_rfl) (by kernel_rfl)) ?_
  intro W base args ds gs before hval0 hW hcnd hsized
  have hval : ∀ (j : Nat) t v, Try.f6.params[j]? = some t → args[j]? = some v → Value.okWide Try.prog W .any base t v := hval0
  have hW' := hW
  obtain ⟨p, q, hA0, hV, rfl, hfz, hnd⟩ := hW
  have hA : DataW.TrodAll enc Try.prog W 0 (fun _ => true) true Try.f6.params.toList args.toList ds p := hA0
  rw [Try.params6] at hA hval
  obtain ⟨v0, v1, v2, d0, d1, d2, p0, p1, p2, rfl, rfl, rfl, h0, h1, h2⟩ := trodAll_three hA
  obtain ⟨N, rfl, rfl, rfl, wN⟩ := open_int Try.underlying3 (hval 0 _ v0 rfl rfl) h0
  obtain ⟨A, n, c, cs, i, rfl, hnc, hc, hf, hin⟩ := open_rows [.i .i64, .i .i32] Try.underlying58 Try.underlying68 (by kernel_rfl) (by kernel_rfl) (by decide) (by kernel_rfl) (hval 1 _ v1 rfl rfl) h1
  obtain ⟨site, rfl, rfl, rfl, wsite⟩ := open_int Try.underlying3 (hval 2 _ v2 rfl rfl) h2
  refine Gives.use (counts_any A n c cs i N site W hin hnc hf) fun W' hb => ?_
  exact ⟨_, rfl, law_post Try.laidOut (by kernel_rfl) (by kernel_rfl) Try.underlying4 rfl hW' ⟨rfl, rfl, rfl⟩ hb⟩
theorem sitesCounts_holds : Rows.SitesCountsSaid :=
  OpenClaim.holds_of_wide 6 Try.f6 rfl rfl rfl rfl rfl rfl rfl ⟨rfl, rfl, rfl, rfl, rfl⟩ rfl rfl rfl rfl rfl (by kernel_rfl) Try.func6 (by kernel_rfl)
    (of_decide_eq_true (by kernel_rfl)) (by unfold Func.isWrapper; first | (rw [if_pos (by decide +kernel)]; kernel_rfl) | (rw [if_neg (by decide +kernel)]; exact ⟨rfl, rfl⟩))
    (fun os started H enc _ => sitesCounts_lifted os started H enc)
end Go.Proofs.Ytbjealobiblabaa
