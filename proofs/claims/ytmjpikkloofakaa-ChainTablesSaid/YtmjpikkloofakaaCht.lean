/-
  The statement ChainTables of layer 9 (chain), proved. No condition.
-/
import Derived.Test.YtmjpikkloofakaaChtd
namespace Go.Proofs.Ytmjpikkloofakaa
open Go Go.ChangeShapes Go.WideShapes Go.ChangeAt Go.RowKit Go.Deep
set_option maxRecDepth 100000
theorem rg_eq (w n p : Int) : (bif bif bif bif decide ((2 : Int) ≤ w) then decide (w ≤ (64 : Int)) else false then bif decide ((0 : Int) ≤ n) then decide (n < w) else false else false then bif decide ((0 : Int) ≤ p) then decide (p < w) else false else false then n != p else false) = decide (2 ≤ w ∧ w ≤ 64 ∧ 0 ≤ n ∧ n < w ∧ 0 ≤ p ∧ p < w ∧ n ≠ p) := by
  rw [Bool.eq_iff_iff, decide_eq_true_eq]
  simp only [Bool.cond_false_right, Bool.cond_true_left, Bool.and_eq_true, Bool.or_eq_true, decide_eq_true_eq, bne_iff_ne, beq_iff_eq, ne_eq]
  omega
theorem r1_eq (w n p : Int) : (bif bif decide (w < (2 : Int)) then true else decide ((64 : Int) < w) then true else n == p) = decide (w < 2 ∨ 64 < w ∨ n = p) := by
  rw [Bool.eq_iff_iff, decide_eq_true_eq]
  simp only [Bool.cond_false_right, Bool.cond_true_left, Bool.and_eq_true, Bool.or_eq_true, decide_eq_true_eq, bne_iff_ne, beq_iff_eq, ne_eq]
  omega
theorem r2_eq (w n p : Int) : (bif bif bif decide ((0 : Int) ≤ n) then decide (n < w) else false then decide ((0 : Int) ≤ p) else false then decide (p < w) else false) = decide (0 ≤ n ∧ n < w ∧ 0 ≤ p ∧ p < w) := by
  rw [Bool.eq_iff_iff, decide_eq_true_eq]
  simp only [Bool.cond_false_right, Bool.cond_true_left, Bool.and_eq_true, Bool.or_eq_true, decide_eq_true_eq, bne_iff_ne, beq_iff_eq, ne_eq]
  omega
theorem ct_all (s : Nat) (hs : s ≤ 255) (w n p id : Int) : Gives_ Try.prog Try.f3 0 (enterA Try.f3 (bodyOf Try.f3) [.val (.int .u8 (s : Int)), .agg [vi w, vi n, vi p], vi id] noMem) (vb true) ⟨[], 99⟩ := by
  have es : IntKind.i64.wrap (s : Int) = (s : Int) := wrapIm (by omega) (by omega)
  by_cases hR : 2 ≤ w ∧ w ≤ 64 ∧ 0 ≤ n ∧ n < w ∧ 0 ≤ p ∧ p < w ∧ n ≠ p
  · have d1 := decide_eq_true hR
    have d2 : decide (w < 2 ∨ 64 < w ∨ n = p) = false := decide_eq_false (by omega)
    have d3 : decide (0 ≤ n ∧ n < w ∧ 0 ≤ p ∧ p < w) = true := decide_eq_true (by omega)
    obtain ⟨W, hW⟩ := Int.eq_ofNat_of_zero_le (show 0 ≤ w by omega)
    have hW : w = (W : Int) := hW
    obtain ⟨N, hN⟩ := Int.eq_ofNat_of_zero_le (show 0 ≤ n by omega)
    have hN : n = (N : Int) := hN
    obtain ⟨Q, hQ⟩ := Int.eq_ofNat_of_zero_le (show 0 ≤ p by omega)
    have hQ : p = (Q : Int) := hQ
    subst hW hN hQ
    have eq : (s : Int).tdiv (W : Int) = ((s / W : Nat) : Int) := by rw [Int.tdiv_eq_ediv_of_nonneg (by omega)]; rfl
    have hle : s / W ≤ s := Nat.div_le_self _ _
    have hdm : s / W * W ≤ s := Nat.div_mul_le_self s W
    generalize s / W = K at *
    have ed : IntKind.i64.wrap (K : Int) = (K : Int) := wrapIm (by omega) (by omega)
    have hz : decide (¬ (W : Int) = 0) = true := decide_eq_true (by omega)
    by_cases hi : 1 ≤ id ∧ id ≤ (K : Int)
    · obtain ⟨x, hx⟩ := Int.eq_ofNat_of_zero_le (show 0 ≤ id by omega)
      have hx : id = (x : Int) := hx
      subst hx
      have hm : x * W ≤ s := by
        have h1 : x ≤ K := by omega
        exact Nat.le_trans (Nat.mul_le_mul_right W h1) hdm
      have hm2 : (x - 1) * W + W = x * W := by
        have h1 : x - 1 + 1 = x := by omega
        have h2 := Nat.succ_mul (x - 1) W
        rw [Nat.succ_eq_add_one, h1] at h2
        omega
      have hm3 : ((x : Int) - 1) * (W : Int) = (((x - 1) * W : Nat) : Int) := by
        rw [show (x : Int) - 1 = ((x - 1 : Nat) : Int) by omega]
        exact (Int.natCast_mul _ _).symm
      generalize (x - 1) * W = A at *
      generalize x * W = A2 at *
      have ei : ∀ c : Nat, c < W → IntKind.i64.wrap (IntKind.i64.wrap (IntKind.i64.wrap ((x : Int) - 1) * (W : Int)) + (c : Int)) = ((A + c : Nat) : Int) := fun c hc => by
        rw [wrapIm (n := (x : Int) - 1) (by omega) (by omega), hm3, wrapIm (n := (A : Int)) (by omega) (by omega), wrapIm (n := (A : Int) + (c : Int)) (by omega) (by omega)]
        omega
      have eN := ei N (by omega)
      have eQ := ei Q (by omega)
      obtain ⟨f1, f2, f3, f4, f5, f6, f7⟩ := acc_ok (a := A + N) (n := s) (by omega) (by omega)
      obtain ⟨g1, g2, g3, g4, g5, g6, g7⟩ := acc_ok (a := A + Q) (n := s) (by omega) (by omega)
      have h1 : decide ((x : Int) < 1) = false := decide_eq_false (by omega)
      have h2 : decide ((K : Int) < (x : Int)) = false := decide_eq_false (by omega)
      have he := ct_v (s : Int) W N Q x
      simp only [rg_eq, r1_eq, r2_eq, d1, d2, d3, es, eN, eQ, Int.toNat_natCast, Int.ofNat_eq_natCast, eq, ed, beq_self_eq_true, cond_true] at he
      rw [conj_tm (by
        simp only [List.all_cons, List.all_nil, Bool.and_true, Bool.and_eq_true, Bool.or_true, _root_.id, f1, f2, f3, g1, g2, g3, h1, h2, hz, upM (show A + N ≤ 4294967296 by omega), upM (show A + Q ≤ 4294967296 by omega), f4, f5, f6, f7, g4, g5, g6, g7, Int.toNat_natCast, cond_false, Bool.not_false, az_nat, List.length_set, List.length_replicate, true_and, decide_eq_true_eq, Bool.not_eq_true', decide_eq_false_iff_not]
        omega)] at he
      exact FEO_ret (c := bodyOf Try.f3) (m := noMem) (hE_ct _ _ _ _) mixedM rfl rfl he rfl
    · have he := ct_i (s : Int) W N Q id
      have hb : (bif decide (id < (1 : Int)) then true else decide ((K : Int) < id)) = true := by
        by_cases h1 : id < 1
        · rw [decide_eq_true h1]; rfl
        · rw [decide_eq_false h1, cond_false, decide_eq_true (by omega)]
      simp only [rg_eq, r1_eq, r2_eq, d1, d2, d3, es, Int.toNat_natCast, Int.ofNat_eq_natCast, eq, ed, beq_self_eq_true, cond_true, hb, hz, Bool.or_true] at he
      rw [conj_tm (by
        simp only [List.all_cons, List.all_nil, Bool.and_true, Bool.and_eq_true, Bool.or_true, _root_.id, Bool.not_false, true_and, decide_eq_true_eq, Bool.not_eq_true', decide_eq_false_iff_not]
        omega)] at he
      exact FEO_ret (c := bodyOf Try.f3) (m := noMem) (hE_ct _ _ _ _) mixedM rfl rfl he rfl
  · have d1 := decide_eq_false hR
    by_cases h1 : w < 2 ∨ 64 < w ∨ n = p
    · have he := ct_f1 (s : Int) w n p id
      have d2 := decide_eq_true h1
      simp only [rg_eq, r1_eq, d1, d2, es, beq_self_eq_true, Bool.or_true] at he
      rw [conj_tm (by
        simp only [List.all_cons, List.all_nil, Bool.and_true, Bool.and_eq_true, _root_.id, true_and, decide_eq_true_eq, Bool.not_eq_true', decide_eq_false_iff_not]
        omega)] at he
      exact FEO_ret (c := bodyOf Try.f3) (m := noMem) (hE_ct _ _ _ _) mixedM rfl rfl he rfl
    · have he := ct_f2 (s : Int) w n p id
      have d2 := decide_eq_false h1
      have d3 : decide (0 ≤ n ∧ n < w ∧ 0 ≤ p ∧ p < w) = false := decide_eq_false (by omega)
      simp only [rg_eq, r1_eq, r2_eq, d1, d2, d3, es, beq_self_eq_true, Bool.or_true, Bool.not_false] at he
      rw [conj_tm (by
        simp only [List.all_cons, List.all_nil, Bool.and_true, Bool.and_eq_true, _root_.id, true_and, decide_eq_true_eq, Bool.not_eq_true', decide_eq_false_iff_not]
        omega)] at he
      exact FEO_ret (c := bodyOf Try.f3) (m := noMem) (hE_ct _ _ _ _) mixedM rfl rfl he rfl
theorem wf_u8c {z : Int} (h : (Lit.int .u8 z).wf = true) : 0 ≤ z ∧ z ≤ 255 := by
  simp only [Lit.wf, Bool.and_eq_true, decide_eq_true_eq] at h
  have e1 : IntKind.min .u8 = 0 := by decide
  have e2 : IntKind.max .u8 = 255 := by decide
  rw [e1, e2] at h
  exact h
theorem ct_any (sz : Int) (hs : 0 ≤ sz ∧ sz ≤ 255) (a b c id : Int) (w : World) : Gives 3 #[.int .u8 sz, .agg #[.int .i64 a, .int .i64 b, .int .i64 c], .int .i64 id] w (.bool true) := by
  obtain ⟨s, h⟩ := Int.eq_ofNat_of_zero_le hs.1
  have h : sz = (s : Int) := h
  subst h
  exact gives_true (ρ := fun _ => ⟨0, 0, 0, 0⟩) (m := noMem) (args := [.val (.int .u8 (s : Int)), .agg [vi a, vi b, vi c], vi id]) (xs := [.int .u8 (s : Int), .agg #[.int .i64 a, .int .i64 b, .int .i64 c], .int .i64 id]) (c := bodyOf Try.f3) (m' := ⟨[], 99⟩) Try.func3 rfl (ct_all s (by omega) a b c id) rfl mrel_none (by
    simp only [AV.rels, AV.rel]
    exact ⟨_, _, rfl, rfl, _, _, rfl, ⟨[.int .i64 a, .int .i64 b, .int .i64 c], rfl, _, _, rfl, rfl, _, _, rfl, rfl, _, _, rfl, rfl, rfl⟩, _, _, rfl, rfl, rfl⟩)
set_option maxRecDepth 100000 in
theorem chaintables_lifted (os : Os) (started : os.Started) (H : Type) (enc : TypeId × Value → H) :
    ReturnsInHanded {} Try.checked os 3 .any (Rows.chainTablesSpec.pre6 enc Try.prog Try.f3 Rows.chainTablesRow.domain false) (Rows.chainTablesSpec.post enc Try.prog Try.f3 false true false false) := by
  refine returnsInHanded_of_change (C := Try.checked) Try.own started (by kernel_rfl) Try.func3
    (ChangeSpec.witness6 (enc := enc) (C := Try.checked) false ⟨#[], #[.int .u8 0, .agg #[.int .i64 0, .int .i64 0, .int .i64 0], .int .i64 0], []⟩ 8 (by kernel_rfl) (by kernel_rfl) (by kernel_rfl) (by kernel_rfl)) ?_
  intro W base args ds gs before hval0 hW hcnd hsized
  have hval : ∀ (j : Nat) t v, Try.f3.params[j]? = some t → args[j]? = some v → Value.okWide Try.prog W .any base t v := hval0
  have hW' := hW
  obtain ⟨p, q, hA0, hV, rfl, hfz, hnd⟩ := hW
  have hA : DataW.TrodAll enc Try.prog W 0 (fun _ => true) true Try.f3.params.toList args.toList ds p := hA0
  rw [Try.params3] at hA hval
  obtain ⟨v0, v1, v2, d0, d1, d2, p0, p1, p2, rfl, rfl, rfl, h0, h1, h2⟩ := trodAll_three hA
  obtain ⟨sz, rfl, rfl, rfl, wsz⟩ := open_int Try.underlying5 (hval 0 _ v0 rfl rfl) h0
  obtain ⟨l1_, rfl, hl1_, hg1_⟩ := open_array Try.underlying22 (by kernel_rfl) (by kernel_rfl) (hval 1 _ v1 rfl rfl) h1
  obtain ⟨c1_0, c1_1, c1_2, rfl⟩ := list3 hl1_
  obtain ⟨a, rfl, wa⟩ := field_int Try.underlying3 (hg1_ 0 _ rfl)
  obtain ⟨b, rfl, wb⟩ := field_int Try.underlying3 (hg1_ 1 _ rfl)
  obtain ⟨c, rfl, wc⟩ := field_int Try.underlying3 (hg1_ 2 _ rfl)
  obtain ⟨id, rfl, rfl, rfl, wid⟩ := open_int Try.underlying3 (hval 2 _ v2 rfl rfl) h2
  refine Gives.use (ct_any sz (wf_u8c wsz) a b c id W) fun W' hb => ?_
  exact ⟨_, rfl, law_post Try.laidOut (by kernel_rfl) (by kernel_rfl) Try.underlying4 rfl hW' ⟨rfl, rfl, rfl⟩ hb⟩
theorem chaintables_holds : Rows.ChainTablesSaid :=
  OpenClaim.holds_of_wide 3 Try.f3 rfl rfl rfl rfl rfl rfl rfl ⟨rfl, rfl, rfl, rfl, rfl⟩ rfl rfl rfl rfl rfl (by kernel_rfl) Try.func3 (by kernel_rfl)
    (of_decide_eq_true (by kernel_rfl)) (by unfold Func.isWrapper; first | (rw [if_pos (by decide +kernel)]; kernel_rfl) | (rw [if_neg (by decide +kernel)]; exact ⟨rfl, rfl⟩))
    (fun os started H enc _ => chaintables_lifted os started H enc)
end Go.Proofs.Ytmjpikkloofakaa
