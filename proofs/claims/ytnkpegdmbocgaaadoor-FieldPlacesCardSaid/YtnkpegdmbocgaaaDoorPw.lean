/-
  The places of a word's bits, told one by one to a loop: what the law's own 'places' hands back.
-/
import Derived.Test.YtnkpegdmbocgaaaDoorPu
import Derived.Test.YtnkpegdmbocgaaaDoorExY
namespace Go.Proofs.YtnkpegdmbocgaaaDoor
open Go Go.RowKit
set_option maxRecDepth 100000
/-- The bits that are 1. -/
def placesN (n : Nat) : List Int := ((List.range 64).filter n.testBit).map Int.ofNat
theorem and_pred (n k : Nat) (hb : n.testBit k = true) (hl : ∀ j, j < k → n.testBit j = false) (j : Nat) : (n &&& (n - 1)).testBit j = (n.testBit j && decide (j ≠ k)) := by
  obtain ⟨q, hq⟩ : ∃ q, n = 2 ^ k * (2 * q + 1) := by
    have h1 : n % 2 ^ k = 0 := by
      apply Nat.eq_of_testBit_eq
      intro i
      rw [Nat.testBit_mod_two_pow, Nat.zero_testBit]
      by_cases hi : i < k
      · simp [hi, hl i hi]
      · simp [hi]
    have h2 : n / 2 ^ k % 2 = 1 := by
      have := Nat.testBit_eq_decide_div_mod_eq (x := n) (i := k)
      rw [hb] at this
      simpa using this.symm
    refine ⟨n / 2 ^ k / 2, ?_⟩
    have e1 := Nat.div_add_mod n (2 ^ k)
    have e2 := Nat.div_add_mod (n / 2 ^ k) 2
    rw [h1] at e1
    rw [h2] at e2
    rw [e2]
    omega
  have hpos : 0 < 2 ^ k := Nat.pow_pos (by decide)
  have hp : n - 1 = 2 ^ k * (2 * q) + (2 ^ k - 1) := by rw [hq, Nat.mul_add]; omega
  rw [Nat.testBit_and]
  by_cases hj : j < k
  · rw [hl j hj]; rfl
  · obtain ⟨i, rfl⟩ : ∃ i, j = k + i := ⟨j - k, by omega⟩
    have e1 : (n - 1).testBit (k + i) = (2 * q).testBit i := by
      rw [hp, Nat.testBit_two_pow_mul_add _ (by omega), if_neg (by omega)]
      simp
    have e2 : n.testBit (k + i) = (2 * q + 1).testBit i := by
      rw [hq, Nat.testBit_two_pow_mul]; simp
    rw [e1, e2]
    cases i with
    | zero => simp
    | succ i =>
      have e : (2 * q + 1).testBit (i + 1) = q.testBit i := by rw [Nat.testBit_succ]; congr 1; omega
      have e' : (2 * q).testBit (i + 1) = q.testBit i := by rw [Nat.testBit_succ]; congr 1; omega
      rw [e, e']
      simp
theorem filter_first {p q : Nat → Bool} {k m : Nat} (hk : k < m) (hp : p k = true) (hl : ∀ j, j < k → p j = false) (hq : ∀ j, q j = (p j && decide (j ≠ k))) : (List.range m).filter p = k :: (List.range m).filter q := by
  have e : List.range m = List.range k ++ k :: List.range' (k + 1) (m - k - 1) := by
    rw [List.range_eq_range', List.range_eq_range', show m = k + (m - k) by omega, ← List.range'_append_1]
    congr 1
    rw [show m - k = (m - k - 1) + 1 by omega, List.range'_succ]
    simp
  rw [e, List.filter_append, List.filter_append]
  have h1 : (List.range k).filter p = [] := List.filter_eq_nil_iff.2 fun j hj => by simp [hl j (List.mem_range.1 hj)]
  have h2 : (List.range k).filter q = [] := List.filter_eq_nil_iff.2 fun j hj => by simp [hq, hl j (List.mem_range.1 hj)]
  rw [h1, h2, List.nil_append, List.nil_append, List.filter_cons_of_pos hp, List.filter_cons_of_neg (by simp [hq])]
  congr 1
  apply List.filter_congr
  intro j hj
  have : k + 1 ≤ j := (List.mem_range'_1.1 hj).1
  have hne : j ≠ k := by omega
  simp [hq, hne]
theorem placesN_step {n : Nat} (hn : n < 2 ^ 64) (h0 : n ≠ 0) : placesN n = (tzN n : Int) :: placesN (n &&& (n - 1)) := by
  cases hf : (List.range 64).find? n.testBit with
  | none => exact absurd (tzN_none hn hf) h0
  | some k =>
    obtain ⟨k1, k2, k3⟩ := tzN_some hf
    unfold placesN
    rw [filter_first k1 k2 k3 (and_pred n k k2 k3), List.map_cons]
    simp [tzN, hf]
theorem placesN_zero : placesN 0 = [] := by decide
def nextB (y : Int) : Int := bits .and .u64 y (IntKind.u64.wrap (y - 1))
theorem nextB_eq {n : Nat} (hn : n < 2 ^ 64) (h0 : n ≠ 0) : nextB n = ((n &&& (n - 1) : Nat) : Int) := by
  have hw : IntKind.u64.wrap ((n : Int) - 1) = ((n - 1 : Nat) : Int) := by
    simp only [IntKind.wrap, IntKind.bits, IntKind.signed]
    simp
    omega
  unfold nextB
  rw [hw]
  exact (bits_nat .u64 64 (by decide) (fun n h1 h2 => by simp only [IntKind.wrap, IntKind.bits, IntKind.signed]; simp; omega) n (n - 1) hn (by omega)).1
-- the loop's states
abbrev plTm (x most : Int) : List AV := [vu x, vi most, .unk, .ptr 1 1 0 0, .val (.slice none 0 0), vb false, .clo 28 [] [.ptr 2 1 0 0], .ptr 3 1 0 0, .unk, .unk, .unk, .unk, .unk, .clo 28 [] [.ptr 2 1 0 0], .unk, .unk, .unk, .unk, .unk, .unk, .unk, .unk, .unk, .unk]
abbrev itM (t : List Item) (st : Nat) (pe : Option Code) (x most : Int) (o : AV) (k : Nat) (ob : Option ABlk) (top : Nat) : MS :=
  ⟨[(0, some ⟨false, false, .obj (.glob 0 (.ints .u8 tzTab))⟩), (1, some ⟨true, false, .cells [vi most]⟩), (2, some ⟨true, false, .cells [vu x]⟩), (3, some ⟨true, false, .cells [o]⟩), (4, lpB t st pe (plTm x most)), (k, ob)], top⟩
abbrev itT (y : Int) : List AV := [.yld 4, .ptr 2 1 0 0, .unk, vu y, .unk, .unk, .unk, .unk, .unk, .unk, .unk, .unk, .unk, .unk, .unk, .unk]
abbrev itE (P : Program) (orc : List Nat) : Env := envY (yieldS P [] orc) L_tz
abbrev itC (k nx : Nat) : List Cut := [(0, [0, 1, 3], [0, 1, 2, 3, 4, k], nx), (1, [0, 1, 3], [0, 1, 2, 3, 4, k], nx)]
abbrev slO (k n : Nat) : AV := .sl true k 1 0 1 n none
abbrev slB (zs : List Int) : Option ABlk := some ⟨true, true, .col (.ints .i64 zs)⟩
abbrev nilO : AV := .val (.slice none 0 0)
theorem it_begin (x most : Int) : FE_ Tryd.prog (itE Tryd.prog []) Tryd.f28 (itC 5 6) [0, 1, 2, 3, 4, 5] 99 [.yld 4, .ptr 2 1 0 0] ⟨(4, lpB (rg Tryd.f9 0) 0 none (plTm x most)) :: [(0, some ⟨false, false, .obj (.glob 0 (.ints .u8 tzTab))⟩), (1, some ⟨true, false, .cells [vi most]⟩), (2, some ⟨true, false, .cells [vu x]⟩), (3, some ⟨true, false, .cells [nilO]⟩)], 5⟩ =
    some (.head (hd Tryd.f28 0) (itT x) (itM (rg Tryd.f9 0) 0 none x most nilO 5 none 6) true) := by kernel_rfl
theorem it_done0 (x most : Int) : HE_ Tryd.prog (itE Tryd.prog []) Tryd.f28 (itC 5 6) [0, 1, 2, 3, 4, 5] 99 (hd Tryd.f28 0) (itT 0) (itM (rg Tryd.f9 0) 0 none x most nilO 5 none 6) =
    some (.ret (.tup []) (itM (rg Tryd.f9 0) 0 none x most nilO 5 none 99) true) := by kernel_rfl
theorem it_done1 (x most : Int) (n : Nat) (zs : List Int) : HE_ Tryd.prog (itE Tryd.prog []) Tryd.f28 (itC 5 6) [0, 1, 2, 3, 4, 5] 99 (hd Tryd.f28 0) (itT 0) (itM (rg Tryd.f9 0) 0 none x most (slO 5 n) 5 (slB zs) 6) =
    some (.ret (.tup []) (itM (rg Tryd.f9 0) 0 none x most (slO 5 n) 5 (slB zs) 99) true) := by kernel_rfl
theorem it_stop0 (x y most : Int) : HE_ Tryd.prog (itE Tryd.prog [1]) Tryd.f28 (itC 5 6) [0, 1, 2, 3, 4, 5] 99 (hd Tryd.f28 0) (itT y) (itM (rg Tryd.f9 0) 0 none x most nilO 5 none 6) =
    bif y != 0 then some (.ret (.tup []) (itM (rg Tryd.f9 0) 1 (some (.exit 0)) x most nilO 5 none 99) (conj [decide (0 ≤ y), decide (y ≤ 18446744073709551615), decide ((0 : Int) ≥ most)]))
    else some (.ret (.tup []) (itM (rg Tryd.f9 0) 0 none x most nilO 5 none 99) true) := by kernel_rfl
theorem it_stop1 (x y most : Int) (n : Nat) (zs : List Int) : HE_ Tryd.prog (itE Tryd.prog [1]) Tryd.f28 (itC 5 6) [0, 1, 2, 3, 4, 5] 99 (hd Tryd.f28 0) (itT y) (itM (rg Tryd.f9 0) 0 none x most (slO 5 n) 5 (slB zs) 6) =
    bif y != 0 then some (.ret (.tup []) (itM (rg Tryd.f9 0) 1 (some (.exit 0)) x most (slO 5 n) 5 (slB zs) 99) (conj [decide (0 ≤ y), decide (y ≤ 18446744073709551615), decide ((n : Int) ≥ most)]))
    else some (.ret (.tup []) (itM (rg Tryd.f9 0) 0 none x most (slO 5 n) 5 (slB zs) 99) true) := by kernel_rfl
theorem it_round0 (x y most : Int) : HE_ Tryd.prog (itE Tryd.prog [0]) Tryd.f28 (itC 7 8) [0, 1, 2, 3, 4, 5] 99 (hd Tryd.f28 0) (itT y) (itM (rg Tryd.f9 0) 0 none x most nilO 5 none 6) =
    bif y != 0 then some (.head (hd Tryd.f28 0) (itT (nextB y)) (itM (rg Tryd.f9 0) 0 none x most (slO 7 1) 7 (slB [((tzN y.toNat : Nat) : Int)]) 8) (conj [decide (0 ≤ y), decide (y ≤ 18446744073709551615), !decide ((0 : Int) ≥ most)]))
    else some (.ret (.tup []) (itM (rg Tryd.f9 0) 0 none x most nilO 5 none 99) true) := by kernel_rfl
theorem it_round1 (x y most : Int) (n : Nat) (zs : List Int) : HE_ Tryd.prog (itE Tryd.prog [0]) Tryd.f28 (itC 7 8) [0, 1, 2, 3, 4, 5] 99 (hd Tryd.f28 0) (itT y) (itM (rg Tryd.f9 0) 0 none x most (slO 5 n) 5 (slB zs) 6) =
    bif y != 0 then some (.head (hd Tryd.f28 0) (itT (nextB y)) (itM (rg Tryd.f9 0) 0 none x most (slO 7 (n + 1)) 7 (slB (zs.take n ++ [((tzN y.toNat : Nat) : Int)])) 8) (conj [decide (0 ≤ y), decide (y ≤ 18446744073709551615), !decide ((n : Int) ≥ most), decide (0 < n), decide ((n + 1) * 8 ≤ 140737488355328), decide (n ≤ zs.length)]))
    else some (.ret (.tup []) (itM (rg Tryd.f9 0) 0 none x most (slO 5 n) 5 (slB zs) 99) true) := by kernel_rfl
theorem itE_ok (orc : List Nat) : ESound Tryd.prog (itE Tryd.prog orc) := envY_ok hE_tz env_nil mixed
/-- What has been gathered. -/
def outO (k : Nat) : List Int → AV
  | [] => nilO
  | z :: zs => slO k (z :: zs).length
def outK : List Int → Option ABlk
  | [] => none
  | z :: zs => slB (z :: zs)
abbrev itS (f g : Func) (y x most : Int) (zs : List Int) : St := ⟨hd f 0, itT y, itM (rg g 0) 0 none x most (outO 5 zs) 5 (outK zs) 6⟩
theorem round_goes (x most : Int) (n : Nat) (hn : n < 2 ^ 64) (h0 : n ≠ 0) (zs : List Int) (hz : zs.length ≤ 64) (hm : (zs.length : Int) < most) : Goes Tryd.prog 5 (itS Tryd.f28 Tryd.f9 n x most zs) (itS Tryd.f28 Tryd.f9 ((n &&& (n - 1) : Nat) : Int) x most (zs ++ [((tzN n : Nat) : Int)])) := by
  have hy : ((n : Int) != 0) = true := by simp; omega
  have hle : (n : Int) ≤ 18446744073709551615 := by omega
  cases zs with
  | nil =>
    have h := it_round0 x n most
    rw [hy, cond_true, nextB_eq hn h0, Int.toNat_natCast] at h
    have hm' : (0 : Int) < most := by simpa using hm
    refine Goes.trans (HE_head (itE_ok [0]) mixed rfl h (by simp [conj, hle]; omega)) ?_
    exact Goes.ren (σ := [(0, 0), (1, 1), (2, 2), (3, 3), (4, 4), (5, 7)]) (nx := 6) rfl
  | cons z zs =>
    have h := it_round1 x n most (z :: zs).length (z :: zs)
    rw [hy, cond_true, nextB_eq hn h0, Int.toNat_natCast, List.take_length] at h
    have hl : (z :: zs).length = zs.length + 1 := rfl
    refine Goes.trans (HE_head (itE_ok [0]) mixed rfl h (by
      simp only [conj, Bool.and_eq_true, decide_eq_true_eq, Bool.not_eq_true', decide_eq_false_iff_not]
      rw [hl] at hm hz ⊢
      refine ⟨by omega, by omega, by omega, by omega, by omega, by omega, trivial⟩)) ?_
    have hr := Goes.ren (P := Tryd.prog) (B := 5) (σ := [(0, 0), (1, 1), (2, 2), (3, 3), (4, 4), (5, 7)]) (nx := 6) (s := ⟨hd Tryd.f28 0, itT ((n &&& (n - 1) : Nat) : Int), itM (rg Tryd.f9 0) 0 none x most (slO 7 ((z :: zs).length + 1)) 7 (slB (z :: zs ++ [((tzN n : Nat) : Int)])) 8⟩) rfl
    have e : renSt [(0, 0), (1, 1), (2, 2), (3, 3), (4, 4), (5, 7)] 6 ⟨hd Tryd.f28 0, itT ((n &&& (n - 1) : Nat) : Int), itM (rg Tryd.f9 0) 0 none x most (slO 7 ((z :: zs).length + 1)) 7 (slB (z :: zs ++ [((tzN n : Nat) : Int)])) 8⟩ = itS Tryd.f28 Tryd.f9 ((n &&& (n - 1) : Nat) : Int) x most (z :: zs ++ [((tzN n : Nat) : Int)]) := by
      have : (z :: zs).length + 1 = (z :: (zs ++ [((tzN n : Nat) : Int)])).length := by simp
      rw [this]
      rfl
    rw [e] at hr
    exact hr
theorem it_gives (x most : Int) : ∀ (L : List Int) (n : Nat) (zs : List Int), n < 2 ^ 64 → placesN n = L → zs.length + L.length ≤ 64 →
    ∃ st pe, (pe = none ∨ pe = some (.exit 0)) ∧ Gives_ Tryd.prog Tryd.f28 5 (itS Tryd.f28 Tryd.f9 n x most zs) (.tup []) (itM (rg Tryd.f9 0) st pe x most (outO 5 (zs ++ L.take (most.toNat - zs.length))) 5 (outK (zs ++ L.take (most.toNat - zs.length))) 99)
  | [], n, zs, hn, hL, _ => by
    have h0 : n = 0 := by
      rcases Nat.eq_zero_or_pos n with h | h
      · exact h
      · rw [placesN_step hn (by omega)] at hL; cases hL
    subst h0
    refine ⟨0, none, .inl rfl, ?_⟩
    rw [List.take_nil, List.append_nil]
    cases zs with
    | nil => exact HE_ret (itE_ok []) mixed rfl (it_done0 x most) rfl
    | cons z zs => exact HE_ret (itE_ok []) mixed rfl (it_done1 x most (z :: zs).length (z :: zs)) rfl
  | p :: L, n, zs, hn, hL, hz => by
    have h0 : n ≠ 0 := fun h => by rw [h, placesN_zero] at hL; cases hL
    have hy : ((n : Int) != 0) = true := by simp; omega
    have hle : (n : Int) ≤ 18446744073709551615 := by omega
    rw [placesN_step hn h0] at hL
    obtain ⟨rfl, hL2⟩ := List.cons.inj hL
    simp only [List.length_cons] at hz
    by_cases hm : (zs.length : Int) < most
    · obtain ⟨st, pe, hp, hg⟩ := it_gives x most L (n &&& (n - 1)) (zs ++ [((tzN n : Nat) : Int)]) (Nat.lt_of_le_of_lt Nat.and_le_left hn) hL2 (by simp; omega)
      refine ⟨st, pe, hp, (round_goes x most n hn h0 zs (by omega) hm).gives ?_⟩
      have e : zs ++ [((tzN n : Nat) : Int)] ++ L.take (most.toNat - (zs ++ [((tzN n : Nat) : Int)]).length) = zs ++ (((tzN n : Nat) : Int) :: L).take (most.toNat - zs.length) := by
        rw [show most.toNat - zs.length = (most.toNat - (zs.length + 1)) + 1 by omega, List.take_succ_cons]
        simp
      rw [e] at hg
      exact hg
    · refine ⟨1, some (.exit 0), .inr rfl, ?_⟩
      rw [show most.toNat - zs.length = 0 by omega, List.take_zero, List.append_nil]
      cases zs with
      | nil =>
        have h := it_stop0 x n most
        rw [hy, cond_true] at h
        have hm' : most ≤ 0 := by simpa using hm
        exact HE_ret (itE_ok [1]) mixed rfl h (by simp [conj, hle]; omega)
      | cons z zs =>
        have h := it_stop1 x n most (z :: zs).length (z :: zs)
        rw [hy, cond_true] at h
        exact HE_ret (itE_ok [1]) mixed rfl h (by
          simp only [conj, Bool.and_eq_true, decide_eq_true_eq]
          exact ⟨by omega, hle, by omega, trivial⟩)
end Go.Proofs.YtnkpegdmbocgaaaDoor
