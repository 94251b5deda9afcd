/-
  Counts by classes: the law.
-/
import Derived.Test.YtnkpegdmbocgaaaCN
namespace Go.Proofs.Ytnkpegdmbocgaaa
open Go Go.RowKit
theorem list14 {α : Type} {l : List α} (h : l.length = 14) : ∃ a0 a1 a2 a3 a4 a5 a6 a7 a8 a9 a10 a11 a12 a13, l = [a0, a1, a2, a3, a4, a5, a6, a7, a8, a9, a10, a11, a12, a13] := by
  match l, h with
  | [a0, a1, a2, a3, a4, a5, a6, a7, a8, a9, a10, a11, a12, a13], _ => exact ⟨a0, a1, a2, a3, a4, a5, a6, a7, a8, a9, a10, a11, a12, a13, rfl⟩
def sumL (L : List Int) : Int := L.getD 0 0 + L.getD 1 0 + L.getD 2 0 + L.getD 3 0 + L.getD 4 0 + L.getD 5 0 + L.getD 6 0 + L.getD 7 0 + L.getD 8 0 + L.getD 9 0 + L.getD 10 0 + L.getD 11 0 + L.getD 12 0 + L.getD 13 0
theorem sumL_lit (a0 a1 a2 a3 a4 a5 a6 a7 a8 a9 a10 a11 a12 a13 : Int) : sumL [a0, a1, a2, a3, a4, a5, a6, a7, a8, a9, a10, a11, a12, a13] = a0 + a1 + a2 + a3 + a4 + a5 + a6 + a7 + a8 + a9 + a10 + a11 + a12 + a13 := rfl
structure Good (L : List Int) (n : Int) : Prop where
  len : L.length = 14
  nn : ∀ k, 0 ≤ L.getD k 0
  sum : sumL L = n
set_option maxHeartbeats 4000000 in
theorem good_step {L : List Int} {n : Int} (h : Good L n) (p : Nat) (hp : p < 14) (hn : n ≤ 1000) : Good (L.set p (IntKind.i64.wrap (L.getD p 0 + 1))) (n + 1) := by
  obtain ⟨l0, l1, l2, l3, l4, l5, l6, l7, l8, l9, l10, l11, l12, l13, rfl⟩ := list14 h.len
  have n0 := h.nn
  have hs := h.sum
  have m0 : 0 ≤ l0 := n0 0
  have m1 : 0 ≤ l1 := n0 1
  have m2 : 0 ≤ l2 := n0 2
  have m3 : 0 ≤ l3 := n0 3
  have m4 : 0 ≤ l4 := n0 4
  have m5 : 0 ≤ l5 := n0 5
  have m6 : 0 ≤ l6 := n0 6
  have m7 : 0 ≤ l7 := n0 7
  have m8 : 0 ≤ l8 := n0 8
  have m9 : 0 ≤ l9 := n0 9
  have m10 : 0 ≤ l10 := n0 10
  have m11 : 0 ≤ l11 := n0 11
  have m12 : 0 ≤ l12 := n0 12
  have m13 : 0 ≤ l13 := n0 13
  unfold sumL at hs
  have hs : l0 + l1 + l2 + l3 + l4 + l5 + l6 + l7 + l8 + l9 + l10 + l11 + l12 + l13 = n := hs
  have hw : IntKind.i64.wrap ([l0, l1, l2, l3, l4, l5, l6, l7, l8, l9, l10, l11, l12, l13].getD p 0 + 1) = [l0, l1, l2, l3, l4, l5, l6, l7, l8, l9, l10, l11, l12, l13].getD p 0 + 1 := by
    have : [l0, l1, l2, l3, l4, l5, l6, l7, l8, l9, l10, l11, l12, l13].getD p 0 ≤ n := by
      rcases (show p = 0 ∨ p = 1 ∨ p = 2 ∨ p = 3 ∨ p = 4 ∨ p = 5 ∨ p = 6 ∨ p = 7 ∨ p = 8 ∨ p = 9 ∨ p = 10 ∨ p = 11 ∨ p = 12 ∨ p = 13 by omega) with rfl | rfl | rfl | rfl | rfl | rfl | rfl | rfl | rfl | rfl | rfl | rfl | rfl | rfl
      · show l0 ≤ n; omega
      · show l1 ≤ n; omega
      · show l2 ≤ n; omega
      · show l3 ≤ n; omega
      · show l4 ≤ n; omega
      · show l5 ≤ n; omega
      · show l6 ≤ n; omega
      · show l7 ≤ n; omega
      · show l8 ≤ n; omega
      · show l9 ≤ n; omega
      · show l10 ≤ n; omega
      · show l11 ≤ n; omega
      · show l12 ≤ n; omega
      · show l13 ≤ n; omega
    exact wr _ (by have := n0 p; omega) (by omega)
  rw [hw]
  refine ⟨by simp, fun k => ?_, ?_⟩
  · by_cases e : k = p
    · subst e
      have := n0 k
      rw [List.getD_eq_getElem?_getD, List.getElem?_set_self (by simpa using hp), Option.getD_some]
      omega
    · have := n0 k
      rw [List.getD_eq_getElem?_getD, List.getElem?_set_ne (Ne.symm e), ← List.getD_eq_getElem?_getD]
      exact this
  · rcases (show p = 0 ∨ p = 1 ∨ p = 2 ∨ p = 3 ∨ p = 4 ∨ p = 5 ∨ p = 6 ∨ p = 7 ∨ p = 8 ∨ p = 9 ∨ p = 10 ∨ p = 11 ∨ p = 12 ∨ p = 13 by omega) with rfl | rfl | rfl | rfl | rfl | rfl | rfl | rfl | rfl | rfl | rfl | rfl | rfl | rfl
    · simp only [List.set_cons_zero, List.set_cons_succ, List.getD_cons_zero, List.getD_cons_succ]
      rw [sumL_lit]; omega
    · simp only [List.set_cons_zero, List.set_cons_succ, List.getD_cons_zero, List.getD_cons_succ]
      rw [sumL_lit]; omega
    · simp only [List.set_cons_zero, List.set_cons_succ, List.getD_cons_zero, List.getD_cons_succ]
      rw [sumL_lit]; omega
    · simp only [List.set_cons_zero, List.set_cons_succ, List.getD_cons_zero, List.getD_cons_succ]
      rw [sumL_lit]; omega
    · simp only [List.set_cons_zero, List.set_cons_succ, List.getD_cons_zero, List.getD_cons_succ]
      rw [sumL_lit]; omega
    · simp only [List.set_cons_zero, List.set_cons_succ, List.getD_cons_zero, List.getD_cons_succ]
      rw [sumL_lit]; omega
    · simp only [List.set_cons_zero, List.set_cons_succ, List.getD_cons_zero, List.getD_cons_succ]
      rw [sumL_lit]; omega
    · simp only [List.set_cons_zero, List.set_cons_succ, List.getD_cons_zero, List.getD_cons_succ]
      rw [sumL_lit]; omega
    · simp only [List.set_cons_zero, List.set_cons_succ, List.getD_cons_zero, List.getD_cons_succ]
      rw [sumL_lit]; omega
    · simp only [List.set_cons_zero, List.set_cons_succ, List.getD_cons_zero, List.getD_cons_succ]
      rw [sumL_lit]; omega
    · simp only [List.set_cons_zero, List.set_cons_succ, List.getD_cons_zero, List.getD_cons_succ]
      rw [sumL_lit]; omega
    · simp only [List.set_cons_zero, List.set_cons_succ, List.getD_cons_zero, List.getD_cons_succ]
      rw [sumL_lit]; omega
    · simp only [List.set_cons_zero, List.set_cons_succ, List.getD_cons_zero, List.getD_cons_succ]
      rw [sumL_lit]; omega
    · simp only [List.set_cons_zero, List.set_cons_succ, List.getD_cons_zero, List.getD_cons_succ]
      rw [sumL_lit]; omega
theorem good_cnt (zs : List Int) : ∀ (j i : Nat) (L : List Int), i + j ≤ 1000 → Good L i → Good (cntF zs i j L) ((i + j : Nat) : Int)
  | 0, i, L, _, h => h
  | j + 1, i, L, hi, h => by
    obtain ⟨h0, h1⟩ := of_bd (zs.getD i 0)
    have hg := good_step h (haymowref04_Of_0 (zs.getD i 0)).toNat (by omega) (by omega)
    have := good_cnt zs j (i + 1) _ (by omega) (show Good _ (((i + 1 : Nat) : Int)) from by rw [show ((i + 1 : Nat) : Int) = (i : Int) + 1 by omega]; exact hg)
    rw [show i + (j + 1) = i + 1 + j by omega]
    exact this
theorem good_0 : Good (List.replicate 14 0) 0 := ⟨rfl, fun k => by
  rw [List.getD_eq_getElem?_getD, List.getElem?_replicate]
  split <;> simp, rfl⟩
def sumFrom (L : List Int) : Nat → Nat → Int
  | 0, _ => 0
  | j + 1, k => L.getD k 0 + sumFrom L j (k + 1)
theorem rank_ok {L : List Int} (hnn : ∀ k, 0 ≤ L.getD k 0) : ∀ (j k : Nat) (a : Int), k + j = 14 → 0 ≤ a → a ≤ 1000 → a < sumFrom L j k → rankB L j k a = true ∧ ∃ r : Nat, r < 14 ∧ rankI L j k a = (r : Int) ∧ 0 < L.getD r 0
  | 0, k, a, _, h0, _, h => by simp only [sumFrom] at h; omega
  | j + 1, k, a, hk, h0, h1, h => by
    simp only [sumFrom] at h
    unfold rankB rankI
    have := hnn k
    by_cases c : a < L.getD k 0
    · rw [decide_eq_true c]
      exact ⟨rfl, k, by omega, rfl, by omega⟩
    · rw [decide_eq_false c, show max (L.getD k 0) 0 = L.getD k 0 by omega, wr _ (by omega) (by omega)]
      exact rank_ok hnn j (k + 1) _ (by omega) (by omega) (by omega) (by omega)
theorem rank_last {L : List Int} {n : Nat} (h : Good L n) (hn : n ≤ 1000) : rank1 L (IntKind.i64.wrap ((n : Int) - 1)) = decide (0 < (n : Int)) ∧ (0 < n → ∃ r : Nat, r < 14 ∧ rank0 L (IntKind.i64.wrap ((n : Int) - 1)) = (r : Int) ∧ 0 < L.getD r 0) := by
  rw [wr _ (by omega) (by omega)]
  unfold rank0 rank1
  by_cases h0 : n = 0
  · subst h0
    exact ⟨rfl, fun h => by omega⟩
  · have hs : sumFrom L 14 0 = n := by
      rw [← h.sum]
      simp only [sumFrom, sumL, Nat.zero_add, Nat.reduceAdd]
      omega
    obtain ⟨g1, g2⟩ := rank_ok h.nn 14 0 ((n : Int) - 1) (by omega) (by omega) (by omega) (by omega)
    rw [decide_eq_false (show ¬ ((n : Int) - 1 < 0) by omega), decide_eq_true (show 0 < (n : Int) by omega)]
    exact ⟨g1, fun _ => g2⟩
-- the law's own text
def lwC : List Cut := [(2, [0, 2, 4, 7, 8], [0, 1, 2], 3)]
def lxC : List Cut := [(2, [0, 2, 4, 7, 8, 9, 10, 11], [0, 1, 2, 3], 4)]
def lwTm (n c : Nat) (ah i : Int) : List AV := [.sl false 0 1 0 1 n (some c), .unk, vi ah, .unk, .ptr 1 1 0 0, .unk, .unk, .ptr 2 1 0 0, vi i] ++ List.replicate 96 .unk
def lxTm (n c : Nat) (ah i : Int) : List AV := [.sl false 0 1 0 1 n (some c), .unk, vi ah, .unk, .ptr 1 1 0 0, .unk, .unk, .ptr 2 1 0 0, vi i, .ptr 3 1 0 0, vi 0, vi 0] ++ List.replicate 93 .unk
def lwM (zs C L : List Int) : MS := ⟨[(0, some ⟨false, false, .col (.ints .i64 zs)⟩), (1, some ⟨true, false, .col (.ints .i64 C)⟩), (2, some ⟨true, false, .col (.ints .i64 L)⟩)], 3⟩
def lwN (zs C L : List Int) : MS := ⟨[(0, some ⟨false, false, .col (.ints .i64 zs)⟩), (1, some ⟨true, false, .col (.ints .i64 C)⟩), (2, some ⟨true, false, .col (.ints .i64 L)⟩), (3, none)], 4⟩
def lxM (zs C L G : List Int) : MS := ⟨[(0, some ⟨false, false, .col (.ints .i64 zs)⟩), (1, some ⟨true, false, .col (.ints .i64 C)⟩), (2, some ⟨true, false, .col (.ints .i64 L)⟩), (3, some ⟨true, false, .col (.ints .i64 G)⟩)], 4⟩
def list14L (L : List Int) : List Int := [L.getD 0 0, L.getD 1 0, L.getD 2 0, L.getD 3 0, L.getD 4 0, L.getD 5 0, L.getD 6 0, L.getD 7 0, L.getD 8 0, L.getD 9 0, L.getD 10 0, L.getD 11 0, L.getD 12 0, L.getD 13 0]
theorem lw_in (n c : Nat) (zs : List Int) (c0 c1 c2 c3 c4 c5 c6 c7 c8 c9 c10 c11 c12 c13 ah : Int) : F_ Try.prog L_cc Try.f8 lwC [] 99 [.sl false 0 1 0 1 n (some c), .agg [vi c0, vi c1, vi c2, vi c3, vi c4, vi c5, vi c6, vi c7, vi c8, vi c9, vi c10, vi c11, vi c12, vi c13], vi ah] ⟨[(0, some ⟨false, false, .col (.ints .i64 zs)⟩)], 1⟩ =
    bif decide ((300 : Int) < n) then some (Fin_.ret (vb true) ⟨[], 99⟩ true) else some (Fin_.head (hd Try.f8 0) (lwTm n c ah 0) (lwM zs [c0, c1, c2, c3, c4, c5, c6, c7, c8, c9, c10, c11, c12, c13] (List.replicate 14 0)) true) := by kernel_rfl
def oblB (n : Nat) (zs : List Int) : Bool := bif decide (n ≤ 9223372036854775807) then bif decide (n ≤ zs.length) then bif rngB zs then true else false else false else false
theorem lw_round (n c : Nat) (zs C L : List Int) (ah i : Int) : H_ Try.prog L_cc Try.f8 lwC [] 99 (hd Try.f8 0) (lwTm n c ah i) (lwM zs C L) =
    bif decide (i < n) then some (Fin_.head (hd Try.f8 0) (lwTm n c ah (IntKind.i64.wrap (i + 1))) (lwM zs C (L.set (haymowref04_Of_0 (zs.getD i.toNat 0)).toNat (IntKind.i64.wrap (L.getD (haymowref04_Of_0 (zs.getD i.toNat 0)).toNat 0 + 1))))
      (atB i n zs (inB (haymowref04_Of_0 (zs.getD i.toNat 0)) L (inB (haymowref04_Of_0 (zs.getD i.toNat 0)) L true))))
    else some (Fin_.head (hd Try.f8 1) (lwTm n c ah i) (lwM zs C L) (oblB n zs)) := by kernel_rfl
theorem lw_exit (n c : Nat) (zs C L : List Int) (ah i : Int) : H_ Try.prog L_cc Try.f8 lxC [] 99 (hd Try.f8 0) (lwTm n c ah i) (lwM zs C L) =
    bif decide (i < n) then some (Fin_.head (hd Try.f8 0) (lwTm n c ah (IntKind.i64.wrap (i + 1))) (lwN zs C (L.set (haymowref04_Of_0 (zs.getD i.toNat 0)).toNat (IntKind.i64.wrap (L.getD (haymowref04_Of_0 (zs.getD i.toNat 0)).toNat 0 + 1))))
      (atB i n zs (inB (haymowref04_Of_0 (zs.getD i.toNat 0)) L (inB (haymowref04_Of_0 (zs.getD i.toNat 0)) L true))))
    else some (Fin_.head (hd Try.f8 1) (lxTm n c ah i) (lxM zs C L (list14L (cntF zs 0 n (List.replicate 14 0)))) (oblB n zs)) := by kernel_rfl
def qA (n : Nat) (ah : Int) (c0 c1 c2 c3 c4 c5 c6 c7 c8 c9 c10 c11 c12 c13 l0 l1 l2 l3 l4 l5 l6 l7 l8 l9 l10 l11 l12 l13 : Int) : Bool := bif bif bif bif (l0 == l0 && (l1 == l1 && (l2 == l2 && (l3 == l3 && (l4 == l4 && (l5 == l5 && (l6 == l6 && (l7 == l7 && (l8 == l8 && (l9 == l9 && (l10 == l10 && (l11 == l11 && (l12 == l12 && (l13 == l13 && true)))))))))))))) then IntKind.i64.wrap (IntKind.i64.wrap (IntKind.i64.wrap (IntKind.i64.wrap (IntKind.i64.wrap (IntKind.i64.wrap (IntKind.i64.wrap (IntKind.i64.wrap (IntKind.i64.wrap (IntKind.i64.wrap (IntKind.i64.wrap (IntKind.i64.wrap (IntKind.i64.wrap (IntKind.i64.wrap (0 + l0) + l1) + l2) + l3) + l4) + l5) + l6) + l7) + l8) + l9) + l10) + l11) + l12) + l13) == (n : Int) else false then rank0 [c0, c1, c2, c3, c4, c5, c6, c7, c8, c9, c10, c11, c12, c13] ah == rank0 [c0, c1, c2, c3, c4, c5, c6, c7, c8, c9, c10, c11, c12, c13] ah else false then rank1 [c0, c1, c2, c3, c4, c5, c6, c7, c8, c9, c10, c11, c12, c13] ah == rank1 [c0, c1, c2, c3, c4, c5, c6, c7, c8, c9, c10, c11, c12, c13] ah else false then rank1 [l0, l1, l2, l3, l4, l5, l6, l7, l8, l9, l10, l11, l12, l13] (IntKind.i64.wrap ((n : Int) - 1)) == decide (0 < (n : Int)) else false
theorem lw_last (n c : Nat) (zs : List Int) (ah i : Int) (c0 c1 c2 c3 c4 c5 c6 c7 c8 c9 c10 c11 c12 c13 l0 l1 l2 l3 l4 l5 l6 l7 l8 l9 l10 l11 l12 l13 : Int) : H_ Try.prog L_cc Try.f8 [] [] 99 (hd Try.f8 1) (lxTm n c ah i) (lxM zs [c0, c1, c2, c3, c4, c5, c6, c7, c8, c9, c10, c11, c12, c13] [l0, l1, l2, l3, l4, l5, l6, l7, l8, l9, l10, l11, l12, l13] [l0, l1, l2, l3, l4, l5, l6, l7, l8, l9, l10, l11, l12, l13]) =
    some (Fin_.ret (vb (bif qA n ah c0 c1 c2 c3 c4 c5 c6 c7 c8 c9 c10 c11 c12 c13 l0 l1 l2 l3 l4 l5 l6 l7 l8 l9 l10 l11 l12 l13 then bif !rank1 [l0, l1, l2, l3, l4, l5, l6, l7, l8, l9, l10, l11, l12, l13] (IntKind.i64.wrap ((n : Int) - 1)) then true else decide (0 < [l0, l1, l2, l3, l4, l5, l6, l7, l8, l9, l10, l11, l12, l13].getD (rank0 [l0, l1, l2, l3, l4, l5, l6, l7, l8, l9, l10, l11, l12, l13] (IntKind.i64.wrap ((n : Int) - 1))).toNat 0) else false)) ⟨[], 99⟩
      (bif decide (ah ≤ 9223372036854775807) then bif !(qA n ah c0 c1 c2 c3 c4 c5 c6 c7 c8 c9 c10 c11 c12 c13 l0 l1 l2 l3 l4 l5 l6 l7 l8 l9 l10 l11 l12 l13 && !!rank1 [l0, l1, l2, l3, l4, l5, l6, l7, l8, l9, l10, l11, l12, l13] (IntKind.i64.wrap ((n : Int) - 1))) || decide (0 ≤ rank0 [l0, l1, l2, l3, l4, l5, l6, l7, l8, l9, l10, l11, l12, l13] (IntKind.i64.wrap ((n : Int) - 1))) then
        bif !(qA n ah c0 c1 c2 c3 c4 c5 c6 c7 c8 c9 c10 c11 c12 c13 l0 l1 l2 l3 l4 l5 l6 l7 l8 l9 l10 l11 l12 l13 && !!rank1 [l0, l1, l2, l3, l4, l5, l6, l7, l8, l9, l10, l11, l12, l13] (IntKind.i64.wrap ((n : Int) - 1))) || decide ((rank0 [l0, l1, l2, l3, l4, l5, l6, l7, l8, l9, l10, l11, l12, l13] (IntKind.i64.wrap ((n : Int) - 1))).toNat < 14) then
        bif !(qA n ah c0 c1 c2 c3 c4 c5 c6 c7 c8 c9 c10 c11 c12 c13 l0 l1 l2 l3 l4 l5 l6 l7 l8 l9 l10 l11 l12 l13 && !!rank1 [l0, l1, l2, l3, l4, l5, l6, l7, l8, l9, l10, l11, l12, l13] (IntKind.i64.wrap ((n : Int) - 1))) || decide ((rank0 [l0, l1, l2, l3, l4, l5, l6, l7, l8, l9, l10, l11, l12, l13] (IntKind.i64.wrap ((n : Int) - 1))).toNat < 14) then true else false else false else false else false)) := by kernel_rfl
set_option maxHeartbeats 4000000 in
theorem last_true {n : Nat} {ah : Int} {c0 c1 c2 c3 c4 c5 c6 c7 c8 c9 c10 c11 c12 c13 l0 l1 l2 l3 l4 l5 l6 l7 l8 l9 l10 l11 l12 l13 : Int} (h : Good [l0, l1, l2, l3, l4, l5, l6, l7, l8, l9, l10, l11, l12, l13] n) (hn : n ≤ 1000) (ha : ah ≤ 9223372036854775807) (cc : Nat) (zs : List Int) (i : Int) : H_ Try.prog L_cc Try.f8 [] [] 99 (hd Try.f8 1) (lxTm n cc ah i) (lxM zs [c0, c1, c2, c3, c4, c5, c6, c7, c8, c9, c10, c11, c12, c13] [l0, l1, l2, l3, l4, l5, l6, l7, l8, l9, l10, l11, l12, l13] [l0, l1, l2, l3, l4, l5, l6, l7, l8, l9, l10, l11, l12, l13]) = some (Fin_.ret (vb true) ⟨[], 99⟩ true) := by
  obtain ⟨r1, r2⟩ := rank_last h hn
  have hs := h.sum
  rw [sumL_lit] at hs
  have m0 : 0 ≤ l0 := h.nn 0
  have m1 : 0 ≤ l1 := h.nn 1
  have m2 : 0 ≤ l2 := h.nn 2
  have m3 : 0 ≤ l3 := h.nn 3
  have m4 : 0 ≤ l4 := h.nn 4
  have m5 : 0 ≤ l5 := h.nn 5
  have m6 : 0 ≤ l6 := h.nn 6
  have m7 : 0 ≤ l7 := h.nn 7
  have m8 : 0 ≤ l8 := h.nn 8
  have m9 : 0 ≤ l9 := h.nn 9
  have m10 : 0 ≤ l10 := h.nn 10
  have m11 : 0 ≤ l11 := h.nn 11
  have m12 : 0 ≤ l12 := h.nn 12
  have m13 : 0 ≤ l13 := h.nn 13
  have hq : qA n ah c0 c1 c2 c3 c4 c5 c6 c7 c8 c9 c10 c11 c12 c13 l0 l1 l2 l3 l4 l5 l6 l7 l8 l9 l10 l11 l12 l13 = true := by
    unfold qA
    rw [wr (0 + l0) (by omega) (by omega), wr (0 + l0 + l1) (by omega) (by omega), wr (0 + l0 + l1 + l2) (by omega) (by omega), wr (0 + l0 + l1 + l2 + l3) (by omega) (by omega), wr (0 + l0 + l1 + l2 + l3 + l4) (by omega) (by omega), wr (0 + l0 + l1 + l2 + l3 + l4 + l5) (by omega) (by omega), wr (0 + l0 + l1 + l2 + l3 + l4 + l5 + l6) (by omega) (by omega), wr (0 + l0 + l1 + l2 + l3 + l4 + l5 + l6 + l7) (by omega) (by omega), wr (0 + l0 + l1 + l2 + l3 + l4 + l5 + l6 + l7 + l8) (by omega) (by omega), wr (0 + l0 + l1 + l2 + l3 + l4 + l5 + l6 + l7 + l8 + l9) (by omega) (by omega), wr (0 + l0 + l1 + l2 + l3 + l4 + l5 + l6 + l7 + l8 + l9 + l10) (by omega) (by omega), wr (0 + l0 + l1 + l2 + l3 + l4 + l5 + l6 + l7 + l8 + l9 + l10 + l11) (by omega) (by omega), wr (0 + l0 + l1 + l2 + l3 + l4 + l5 + l6 + l7 + l8 + l9 + l10 + l11 + l12) (by omega) (by omega), wr (0 + l0 + l1 + l2 + l3 + l4 + l5 + l6 + l7 + l8 + l9 + l10 + l11 + l12 + l13) (by omega) (by omega), r1]
    rw [show (0 + l0 + l1 + l2 + l3 + l4 + l5 + l6 + l7 + l8 + l9 + l10 + l11 + l12 + l13 == (n : Int)) = true by simp; omega]
    simp
  rw [lw_last, hq, r1, decide_eq_true ha]
  by_cases h0 : n = 0
  · subst h0
    rfl
  · obtain ⟨r, g1, g2, g3⟩ := r2 (by omega)
    rw [g2, Int.toNat_natCast, decide_eq_true g3, decide_eq_true (show 0 < (n : Int) by omega), decide_eq_true (show (0 : Int) ≤ r by omega), decide_eq_true g1]
    rfl
theorem list14L_eq {L : List Int} (h : L.length = 14) : list14L L = L := by
  obtain ⟨l0, l1, l2, l3, l4, l5, l6, l7, l8, l9, l10, l11, l12, l13, rfl⟩ := list14 h
  rfl
theorem lw_loop (n c : Nat) (hn : n ≤ 300) (zs : List Int) (hz : n ≤ zs.length) (hr : rngB zs = true) (c0 c1 c2 c3 c4 c5 c6 c7 c8 c9 c10 c11 c12 c13 ah : Int) (ha : ah ≤ 9223372036854775807) : ∀ (j i : Nat) (L : List Int), i + j = n → Good L i → cntF zs i j L = cntF zs 0 n (List.replicate 14 0) →
    Gives_ Try.prog Try.f8 1 ⟨hd Try.f8 0, lwTm n c ah i, lwM zs [c0, c1, c2, c3, c4, c5, c6, c7, c8, c9, c10, c11, c12, c13] L⟩ (vb true) ⟨[], 99⟩
  | 0, i, L, hi, hg, he => by
    have hi' : i = n := by omega
    subst hi'
    have hL : cntF zs 0 i (List.replicate 14 0) = L := he.symm
    refine Goes.gives (H_head (f := Try.f8) (cuts := lxC) (ns := []) (top := 99) (todo' := hd Try.f8 1) (tm' := lxTm i c ah i) (m' := lxM zs [c0, c1, c2, c3, c4, c5, c6, c7, c8, c9, c10, c11, c12, c13] L L) hE_cc mixed rfl ?_) ?_
    · rw [lw_exit, decide_eq_false (show ¬ (i : Int) < i by omega), hL, list14L_eq hg.len]
      unfold oblB
      rw [decide_eq_true (show i ≤ 9223372036854775807 by omega), decide_eq_true hz, hr]
      rfl
    · obtain ⟨l0, l1, l2, l3, l4, l5, l6, l7, l8, l9, l10, l11, l12, l13, rfl⟩ := list14 hg.len
      exact H_ret (cuts := []) (ns := []) (top := 99) hE_cc mixed rfl (last_true hg (by omega) ha c zs i)
  | j + 1, i, L, hi, hg, he => by
    obtain ⟨h0, h1⟩ := of_bd (zs.getD i 0)
    refine Goes.gives (H_head (f := Try.f8) (cuts := lwC) (ns := []) (top := 99) (todo' := hd Try.f8 0) (tm' := lwTm n c ah ((i + 1 : Nat) : Int)) (m' := lwM zs [c0, c1, c2, c3, c4, c5, c6, c7, c8, c9, c10, c11, c12, c13] (L.set (haymowref04_Of_0 (zs.getD i 0)).toNat (IntKind.i64.wrap (L.getD (haymowref04_Of_0 (zs.getD i 0)).toNat 0 + 1)))) hE_cc mixed rfl ?_)
      (lw_loop n c hn zs hz hr c0 c1 c2 c3 c4 c5 c6 c7 c8 c9 c10 c11 c12 c13 ah ha j (i + 1) _ (by omega) ?_ he)
    · rw [lw_round, decide_eq_true (show (i : Int) < n by omega), Int.toNat_natCast, atB_ok (by omega) hz, inB_ok hg.len, inB_ok hg.len, show IntKind.i64.wrap ((i : Int) + 1) = ((i + 1 : Nat) : Int) by rw [wr _ (by omega) (by omega)]; omega]
      rfl
    · rw [show ((i + 1 : Nat) : Int) = (i : Int) + 1 by omega]
      exact good_step hg _ (by omega) (by omega)
theorem cc_gives (n c : Nat) (zs : List Int) (hz : n ≤ zs.length) (hr : rngB zs = true) (c0 c1 c2 c3 c4 c5 c6 c7 c8 c9 c10 c11 c12 c13 ah : Int) (ha : ah ≤ 9223372036854775807) :
    Gives_ Try.prog Try.f8 1 (enterA Try.f8 (bodyOf Try.f8) [.sl false 0 1 0 1 n (some c), .agg [vi c0, vi c1, vi c2, vi c3, vi c4, vi c5, vi c6, vi c7, vi c8, vi c9, vi c10, vi c11, vi c12, vi c13], vi ah] ⟨[(0, some ⟨false, false, .col (.ints .i64 zs)⟩)], 1⟩) (vb true) ⟨[], 99⟩ := by
  have h := lw_in n c zs c0 c1 c2 c3 c4 c5 c6 c7 c8 c9 c10 c11 c12 c13 ah
  by_cases hn : n ≤ 300
  · rw [decide_eq_false (show ¬ (300 : Int) < n by omega)] at h
    exact Goes.gives (F_head (f := Try.f8) (c := bodyOf Try.f8) (cuts := lwC) (ns := []) (top := 99) hE_cc mixed rfl rfl h) (lw_loop n c hn zs hz hr c0 c1 c2 c3 c4 c5 c6 c7 c8 c9 c10 c11 c12 c13 ah ha n 0 _ (by omega) good_0 rfl)
  · rw [decide_eq_true (show (300 : Int) < n by omega)] at h
    exact F_ret (f := Try.f8) (c := bodyOf Try.f8) hE_cc mixed rfl rfl h
end Go.Proofs.Ytnkpegdmbocgaaa
