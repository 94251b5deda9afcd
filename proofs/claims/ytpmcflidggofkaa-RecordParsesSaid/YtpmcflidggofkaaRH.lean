/-
  Records that may be: record.Right and the document's Right; what becomes of others.
-/
import Derived.Test.YtpmcflidggofkaaRG
import Derived.Test.YtpmcflidggofkaaSm
namespace Go.Proofs.Ytpmcflidggofkaa
open Go Go.RowKit
def rtA (n : Nat) (a b c d : Int) : Bool := match n with
  | 0 => a == 0 && (b == 0 && (c == 0 && (d == 0)))
  | 1 => b == 0 && (c == 0 && (d == 0))
  | 2 => c == 0 && (d == 0)
  | 3 => d == 0
  | _ => true
def rtB (k a b c d : Int) : Bool := bif record_Is_0 k then rtA (recAr k).toNat a b c d else false
abbrev rtR (x : Bool) : Option Fin_ := some (.ret (vb x) ⟨[], 99⟩ true)
theorem rt_tree0 (a b c d : Int) : (bif a != 0 then some (.ret (vb false) ⟨[], 99⟩ true) else bif b != 0 then some (.ret (vb false) ⟨[], 99⟩ true) else bif c != 0 then some (.ret (vb false) ⟨[], 99⟩ true) else bif d != 0 then some (.ret (vb false) ⟨[], 99⟩ true) else some (.ret (vb true) ⟨[], 99⟩ true)) = rtR (rtA 0 a b c d) := by
  simp only [rtA, bne]
  cases (a == 0) <;> cases (b == 0) <;> cases (c == 0) <;> cases (d == 0) <;> rfl
theorem rt_tree1 (a b c d : Int) : (bif b != 0 then some (.ret (vb false) ⟨[], 99⟩ true) else bif c != 0 then some (.ret (vb false) ⟨[], 99⟩ true) else bif d != 0 then some (.ret (vb false) ⟨[], 99⟩ true) else some (.ret (vb true) ⟨[], 99⟩ true)) = rtR (rtA 1 a b c d) := by
  simp only [rtA, bne]
  cases (b == 0) <;> cases (c == 0) <;> cases (d == 0) <;> rfl
theorem rt_tree2 (a b c d : Int) : (bif c != 0 then some (.ret (vb false) ⟨[], 99⟩ true) else bif d != 0 then some (.ret (vb false) ⟨[], 99⟩ true) else some (.ret (vb true) ⟨[], 99⟩ true)) = rtR (rtA 2 a b c d) := by
  simp only [rtA, bne]
  cases (c == 0) <;> cases (d == 0) <;> rfl
theorem rt_tree3 (a b c d : Int) : (bif d != 0 then some (.ret (vb false) ⟨[], 99⟩ true) else some (.ret (vb true) ⟨[], 99⟩ true)) = rtR (rtA 3 a b c d) := by
  simp only [rtA, bne]
  cases (d == 0) <;> rfl
theorem rt_tree4 (a b c d : Int) : (some (.ret (vb true) ⟨[], 99⟩ true)) = rtR (rtA 4 a b c d) := by
  rfl
theorem rp_in (a b c d : Int) : ∀ n : Nat, n < 21 → F_ Try.prog L_rg Try.f20 [] [] 99 [.agg [vi (n : Int), vi a, vi b, vi c, vi d]] noMem = rtR (rtA (arL.getD n 0).toNat a b c d)
  | 0, _ => by
    have h : F_ Try.prog L_rg Try.f20 [] [] 99 [.agg [vi (Int.ofNat 0), vi a, vi b, vi c, vi d]] noMem = some (.ret (vb true) ⟨[], 99⟩ true) := by kernel_rfl
    exact h.trans (rt_tree4 a b c d)
  | 1, _ => by
    have h : F_ Try.prog L_rg Try.f20 [] [] 99 [.agg [vi (Int.ofNat 1), vi a, vi b, vi c, vi d]] noMem = bif a != 0 then some (.ret (vb false) ⟨[], 99⟩ true) else bif b != 0 then some (.ret (vb false) ⟨[], 99⟩ true) else bif c != 0 then some (.ret (vb false) ⟨[], 99⟩ true) else bif d != 0 then some (.ret (vb false) ⟨[], 99⟩ true) else some (.ret (vb true) ⟨[], 99⟩ true) := by kernel_rfl
    exact h.trans (rt_tree0 a b c d)
  | 2, _ => by
    have h : F_ Try.prog L_rg Try.f20 [] [] 99 [.agg [vi (Int.ofNat 2), vi a, vi b, vi c, vi d]] noMem = bif b != 0 then some (.ret (vb false) ⟨[], 99⟩ true) else bif c != 0 then some (.ret (vb false) ⟨[], 99⟩ true) else bif d != 0 then some (.ret (vb false) ⟨[], 99⟩ true) else some (.ret (vb true) ⟨[], 99⟩ true) := by kernel_rfl
    exact h.trans (rt_tree1 a b c d)
  | 3, _ => by
    have h : F_ Try.prog L_rg Try.f20 [] [] 99 [.agg [vi (Int.ofNat 3), vi a, vi b, vi c, vi d]] noMem = bif b != 0 then some (.ret (vb false) ⟨[], 99⟩ true) else bif c != 0 then some (.ret (vb false) ⟨[], 99⟩ true) else bif d != 0 then some (.ret (vb false) ⟨[], 99⟩ true) else some (.ret (vb true) ⟨[], 99⟩ true) := by kernel_rfl
    exact h.trans (rt_tree1 a b c d)
  | 4, _ => by
    have h : F_ Try.prog L_rg Try.f20 [] [] 99 [.agg [vi (Int.ofNat 4), vi a, vi b, vi c, vi d]] noMem = bif a != 0 then some (.ret (vb false) ⟨[], 99⟩ true) else bif b != 0 then some (.ret (vb false) ⟨[], 99⟩ true) else bif c != 0 then some (.ret (vb false) ⟨[], 99⟩ true) else bif d != 0 then some (.ret (vb false) ⟨[], 99⟩ true) else some (.ret (vb true) ⟨[], 99⟩ true) := by kernel_rfl
    exact h.trans (rt_tree0 a b c d)
  | 5, _ => by
    have h : F_ Try.prog L_rg Try.f20 [] [] 99 [.agg [vi (Int.ofNat 5), vi a, vi b, vi c, vi d]] noMem = bif b != 0 then some (.ret (vb false) ⟨[], 99⟩ true) else bif c != 0 then some (.ret (vb false) ⟨[], 99⟩ true) else bif d != 0 then some (.ret (vb false) ⟨[], 99⟩ true) else some (.ret (vb true) ⟨[], 99⟩ true) := by kernel_rfl
    exact h.trans (rt_tree1 a b c d)
  | 6, _ => by
    have h : F_ Try.prog L_rg Try.f20 [] [] 99 [.agg [vi (Int.ofNat 6), vi a, vi b, vi c, vi d]] noMem = bif b != 0 then some (.ret (vb false) ⟨[], 99⟩ true) else bif c != 0 then some (.ret (vb false) ⟨[], 99⟩ true) else bif d != 0 then some (.ret (vb false) ⟨[], 99⟩ true) else some (.ret (vb true) ⟨[], 99⟩ true) := by kernel_rfl
    exact h.trans (rt_tree1 a b c d)
  | 7, _ => by
    have h : F_ Try.prog L_rg Try.f20 [] [] 99 [.agg [vi (Int.ofNat 7), vi a, vi b, vi c, vi d]] noMem = bif c != 0 then some (.ret (vb false) ⟨[], 99⟩ true) else bif d != 0 then some (.ret (vb false) ⟨[], 99⟩ true) else some (.ret (vb true) ⟨[], 99⟩ true) := by kernel_rfl
    exact h.trans (rt_tree2 a b c d)
  | 8, _ => by
    have h : F_ Try.prog L_rg Try.f20 [] [] 99 [.agg [vi (Int.ofNat 8), vi a, vi b, vi c, vi d]] noMem = bif c != 0 then some (.ret (vb false) ⟨[], 99⟩ true) else bif d != 0 then some (.ret (vb false) ⟨[], 99⟩ true) else some (.ret (vb true) ⟨[], 99⟩ true) := by kernel_rfl
    exact h.trans (rt_tree2 a b c d)
  | 9, _ => by
    have h : F_ Try.prog L_rg Try.f20 [] [] 99 [.agg [vi (Int.ofNat 9), vi a, vi b, vi c, vi d]] noMem = bif b != 0 then some (.ret (vb false) ⟨[], 99⟩ true) else bif c != 0 then some (.ret (vb false) ⟨[], 99⟩ true) else bif d != 0 then some (.ret (vb false) ⟨[], 99⟩ true) else some (.ret (vb true) ⟨[], 99⟩ true) := by kernel_rfl
    exact h.trans (rt_tree1 a b c d)
  | 10, _ => by
    have h : F_ Try.prog L_rg Try.f20 [] [] 99 [.agg [vi (Int.ofNat 10), vi a, vi b, vi c, vi d]] noMem = bif d != 0 then some (.ret (vb false) ⟨[], 99⟩ true) else some (.ret (vb true) ⟨[], 99⟩ true) := by kernel_rfl
    exact h.trans (rt_tree3 a b c d)
  | 11, _ => by
    have h : F_ Try.prog L_rg Try.f20 [] [] 99 [.agg [vi (Int.ofNat 11), vi a, vi b, vi c, vi d]] noMem = bif d != 0 then some (.ret (vb false) ⟨[], 99⟩ true) else some (.ret (vb true) ⟨[], 99⟩ true) := by kernel_rfl
    exact h.trans (rt_tree3 a b c d)
  | 12, _ => by
    have h : F_ Try.prog L_rg Try.f20 [] [] 99 [.agg [vi (Int.ofNat 12), vi a, vi b, vi c, vi d]] noMem = bif c != 0 then some (.ret (vb false) ⟨[], 99⟩ true) else bif d != 0 then some (.ret (vb false) ⟨[], 99⟩ true) else some (.ret (vb true) ⟨[], 99⟩ true) := by kernel_rfl
    exact h.trans (rt_tree2 a b c d)
  | 13, _ => by
    have h : F_ Try.prog L_rg Try.f20 [] [] 99 [.agg [vi (Int.ofNat 13), vi a, vi b, vi c, vi d]] noMem = bif d != 0 then some (.ret (vb false) ⟨[], 99⟩ true) else some (.ret (vb true) ⟨[], 99⟩ true) := by kernel_rfl
    exact h.trans (rt_tree3 a b c d)
  | 14, _ => by
    have h : F_ Try.prog L_rg Try.f20 [] [] 99 [.agg [vi (Int.ofNat 14), vi a, vi b, vi c, vi d]] noMem = bif c != 0 then some (.ret (vb false) ⟨[], 99⟩ true) else bif d != 0 then some (.ret (vb false) ⟨[], 99⟩ true) else some (.ret (vb true) ⟨[], 99⟩ true) := by kernel_rfl
    exact h.trans (rt_tree2 a b c d)
  | 15, _ => by
    have h : F_ Try.prog L_rg Try.f20 [] [] 99 [.agg [vi (Int.ofNat 15), vi a, vi b, vi c, vi d]] noMem = bif b != 0 then some (.ret (vb false) ⟨[], 99⟩ true) else bif c != 0 then some (.ret (vb false) ⟨[], 99⟩ true) else bif d != 0 then some (.ret (vb false) ⟨[], 99⟩ true) else some (.ret (vb true) ⟨[], 99⟩ true) := by kernel_rfl
    exact h.trans (rt_tree1 a b c d)
  | 16, _ => by
    have h : F_ Try.prog L_rg Try.f20 [] [] 99 [.agg [vi (Int.ofNat 16), vi a, vi b, vi c, vi d]] noMem = bif b != 0 then some (.ret (vb false) ⟨[], 99⟩ true) else bif c != 0 then some (.ret (vb false) ⟨[], 99⟩ true) else bif d != 0 then some (.ret (vb false) ⟨[], 99⟩ true) else some (.ret (vb true) ⟨[], 99⟩ true) := by kernel_rfl
    exact h.trans (rt_tree1 a b c d)
  | 17, _ => by
    have h : F_ Try.prog L_rg Try.f20 [] [] 99 [.agg [vi (Int.ofNat 17), vi a, vi b, vi c, vi d]] noMem = bif a != 0 then some (.ret (vb false) ⟨[], 99⟩ true) else bif b != 0 then some (.ret (vb false) ⟨[], 99⟩ true) else bif c != 0 then some (.ret (vb false) ⟨[], 99⟩ true) else bif d != 0 then some (.ret (vb false) ⟨[], 99⟩ true) else some (.ret (vb true) ⟨[], 99⟩ true) := by kernel_rfl
    exact h.trans (rt_tree0 a b c d)
  | 18, _ => by
    have h : F_ Try.prog L_rg Try.f20 [] [] 99 [.agg [vi (Int.ofNat 18), vi a, vi b, vi c, vi d]] noMem = bif a != 0 then some (.ret (vb false) ⟨[], 99⟩ true) else bif b != 0 then some (.ret (vb false) ⟨[], 99⟩ true) else bif c != 0 then some (.ret (vb false) ⟨[], 99⟩ true) else bif d != 0 then some (.ret (vb false) ⟨[], 99⟩ true) else some (.ret (vb true) ⟨[], 99⟩ true) := by kernel_rfl
    exact h.trans (rt_tree0 a b c d)
  | 19, _ => by
    have h : F_ Try.prog L_rg Try.f20 [] [] 99 [.agg [vi (Int.ofNat 19), vi a, vi b, vi c, vi d]] noMem = bif a != 0 then some (.ret (vb false) ⟨[], 99⟩ true) else bif b != 0 then some (.ret (vb false) ⟨[], 99⟩ true) else bif c != 0 then some (.ret (vb false) ⟨[], 99⟩ true) else bif d != 0 then some (.ret (vb false) ⟨[], 99⟩ true) else some (.ret (vb true) ⟨[], 99⟩ true) := by kernel_rfl
    exact h.trans (rt_tree0 a b c d)
  | 20, _ => by
    have h : F_ Try.prog L_rg Try.f20 [] [] 99 [.agg [vi (Int.ofNat 20), vi a, vi b, vi c, vi d]] noMem = bif a != 0 then some (.ret (vb false) ⟨[], 99⟩ true) else bif b != 0 then some (.ret (vb false) ⟨[], 99⟩ true) else bif c != 0 then some (.ret (vb false) ⟨[], 99⟩ true) else bif d != 0 then some (.ret (vb false) ⟨[], 99⟩ true) else some (.ret (vb true) ⟨[], 99⟩ true) := by kernel_rfl
    exact h.trans (rt_tree0 a b c d)
  | n + 21, h => by omega
theorem rr_in (a b c d : Int) : ∀ n : Nat, n < 21 → F_ Try.prog L_rg Try.f19 [] [] 99 [.agg [vi (n : Int), vi a, vi b, vi c, vi d]] noMem = rtR (rtA (arL.getD n 0).toNat a b c d)
  | 0, _ => by
    have h : F_ Try.prog L_rg Try.f19 [] [] 99 [.agg [vi (Int.ofNat 0), vi a, vi b, vi c, vi d]] noMem = some (.ret (vb true) ⟨[], 99⟩ true) := by kernel_rfl
    exact h.trans (rt_tree4 a b c d)
  | 1, _ => by
    have h : F_ Try.prog L_rg Try.f19 [] [] 99 [.agg [vi (Int.ofNat 1), vi a, vi b, vi c, vi d]] noMem = bif a != 0 then some (.ret (vb false) ⟨[], 99⟩ true) else bif b != 0 then some (.ret (vb false) ⟨[], 99⟩ true) else bif c != 0 then some (.ret (vb false) ⟨[], 99⟩ true) else bif d != 0 then some (.ret (vb false) ⟨[], 99⟩ true) else some (.ret (vb true) ⟨[], 99⟩ true) := by kernel_rfl
    exact h.trans (rt_tree0 a b c d)
  | 2, _ => by
    have h : F_ Try.prog L_rg Try.f19 [] [] 99 [.agg [vi (Int.ofNat 2), vi a, vi b, vi c, vi d]] noMem = bif b != 0 then some (.ret (vb false) ⟨[], 99⟩ true) else bif c != 0 then some (.ret (vb false) ⟨[], 99⟩ true) else bif d != 0 then some (.ret (vb false) ⟨[], 99⟩ true) else some (.ret (vb true) ⟨[], 99⟩ true) := by kernel_rfl
    exact h.trans (rt_tree1 a b c d)
  | 3, _ => by
    have h : F_ Try.prog L_rg Try.f19 [] [] 99 [.agg [vi (Int.ofNat 3), vi a, vi b, vi c, vi d]] noMem = bif b != 0 then some (.ret (vb false) ⟨[], 99⟩ true) else bif c != 0 then some (.ret (vb false) ⟨[], 99⟩ true) else bif d != 0 then some (.ret (vb false) ⟨[], 99⟩ true) else some (.ret (vb true) ⟨[], 99⟩ true) := by kernel_rfl
    exact h.trans (rt_tree1 a b c d)
  | 4, _ => by
    have h : F_ Try.prog L_rg Try.f19 [] [] 99 [.agg [vi (Int.ofNat 4), vi a, vi b, vi c, vi d]] noMem = bif a != 0 then some (.ret (vb false) ⟨[], 99⟩ true) else bif b != 0 then some (.ret (vb false) ⟨[], 99⟩ true) else bif c != 0 then some (.ret (vb false) ⟨[], 99⟩ true) else bif d != 0 then some (.ret (vb false) ⟨[], 99⟩ true) else some (.ret (vb true) ⟨[], 99⟩ true) := by kernel_rfl
    exact h.trans (rt_tree0 a b c d)
  | 5, _ => by
    have h : F_ Try.prog L_rg Try.f19 [] [] 99 [.agg [vi (Int.ofNat 5), vi a, vi b, vi c, vi d]] noMem = bif b != 0 then some (.ret (vb false) ⟨[], 99⟩ true) else bif c != 0 then some (.ret (vb false) ⟨[], 99⟩ true) else bif d != 0 then some (.ret (vb false) ⟨[], 99⟩ true) else some (.ret (vb true) ⟨[], 99⟩ true) := by kernel_rfl
    exact h.trans (rt_tree1 a b c d)
  | 6, _ => by
    have h : F_ Try.prog L_rg Try.f19 [] [] 99 [.agg [vi (Int.ofNat 6), vi a, vi b, vi c, vi d]] noMem = bif b != 0 then some (.ret (vb false) ⟨[], 99⟩ true) else bif c != 0 then some (.ret (vb false) ⟨[], 99⟩ true) else bif d != 0 then some (.ret (vb false) ⟨[], 99⟩ true) else some (.ret (vb true) ⟨[], 99⟩ true) := by kernel_rfl
    exact h.trans (rt_tree1 a b c d)
  | 7, _ => by
    have h : F_ Try.prog L_rg Try.f19 [] [] 99 [.agg [vi (Int.ofNat 7), vi a, vi b, vi c, vi d]] noMem = bif c != 0 then some (.ret (vb false) ⟨[], 99⟩ true) else bif d != 0 then some (.ret (vb false) ⟨[], 99⟩ true) else some (.ret (vb true) ⟨[], 99⟩ true) := by kernel_rfl
    exact h.trans (rt_tree2 a b c d)
  | 8, _ => by
    have h : F_ Try.prog L_rg Try.f19 [] [] 99 [.agg [vi (Int.ofNat 8), vi a, vi b, vi c, vi d]] noMem = bif c != 0 then some (.ret (vb false) ⟨[], 99⟩ true) else bif d != 0 then some (.ret (vb false) ⟨[], 99⟩ true) else some (.ret (vb true) ⟨[], 99⟩ true) := by kernel_rfl
    exact h.trans (rt_tree2 a b c d)
  | 9, _ => by
    have h : F_ Try.prog L_rg Try.f19 [] [] 99 [.agg [vi (Int.ofNat 9), vi a, vi b, vi c, vi d]] noMem = bif b != 0 then some (.ret (vb false) ⟨[], 99⟩ true) else bif c != 0 then some (.ret (vb false) ⟨[], 99⟩ true) else bif d != 0 then some (.ret (vb false) ⟨[], 99⟩ true) else some (.ret (vb true) ⟨[], 99⟩ true) := by kernel_rfl
    exact h.trans (rt_tree1 a b c d)
  | 10, _ => by
    have h : F_ Try.prog L_rg Try.f19 [] [] 99 [.agg [vi (Int.ofNat 10), vi a, vi b, vi c, vi d]] noMem = bif d != 0 then some (.ret (vb false) ⟨[], 99⟩ true) else some (.ret (vb true) ⟨[], 99⟩ true) := by kernel_rfl
    exact h.trans (rt_tree3 a b c d)
  | 11, _ => by
    have h : F_ Try.prog L_rg Try.f19 [] [] 99 [.agg [vi (Int.ofNat 11), vi a, vi b, vi c, vi d]] noMem = bif d != 0 then some (.ret (vb false) ⟨[], 99⟩ true) else some (.ret (vb true) ⟨[], 99⟩ true) := by kernel_rfl
    exact h.trans (rt_tree3 a b c d)
  | 12, _ => by
    have h : F_ Try.prog L_rg Try.f19 [] [] 99 [.agg [vi (Int.ofNat 12), vi a, vi b, vi c, vi d]] noMem = bif c != 0 then some (.ret (vb false) ⟨[], 99⟩ true) else bif d != 0 then some (.ret (vb false) ⟨[], 99⟩ true) else some (.ret (vb true) ⟨[], 99⟩ true) := by kernel_rfl
    exact h.trans (rt_tree2 a b c d)
  | 13, _ => by
    have h : F_ Try.prog L_rg Try.f19 [] [] 99 [.agg [vi (Int.ofNat 13), vi a, vi b, vi c, vi d]] noMem = bif d != 0 then some (.ret (vb false) ⟨[], 99⟩ true) else some (.ret (vb true) ⟨[], 99⟩ true) := by kernel_rfl
    exact h.trans (rt_tree3 a b c d)
  | 14, _ => by
    have h : F_ Try.prog L_rg Try.f19 [] [] 99 [.agg [vi (Int.ofNat 14), vi a, vi b, vi c, vi d]] noMem = bif c != 0 then some (.ret (vb false) ⟨[], 99⟩ true) else bif d != 0 then some (.ret (vb false) ⟨[], 99⟩ true) else some (.ret (vb true) ⟨[], 99⟩ true) := by kernel_rfl
    exact h.trans (rt_tree2 a b c d)
  | 15, _ => by
    have h : F_ Try.prog L_rg Try.f19 [] [] 99 [.agg [vi (Int.ofNat 15), vi a, vi b, vi c, vi d]] noMem = bif b != 0 then some (.ret (vb false) ⟨[], 99⟩ true) else bif c != 0 then some (.ret (vb false) ⟨[], 99⟩ true) else bif d != 0 then some (.ret (vb false) ⟨[], 99⟩ true) else some (.ret (vb true) ⟨[], 99⟩ true) := by kernel_rfl
    exact h.trans (rt_tree1 a b c d)
  | 16, _ => by
    have h : F_ Try.prog L_rg Try.f19 [] [] 99 [.agg [vi (Int.ofNat 16), vi a, vi b, vi c, vi d]] noMem = bif b != 0 then some (.ret (vb false) ⟨[], 99⟩ true) else bif c != 0 then some (.ret (vb false) ⟨[], 99⟩ true) else bif d != 0 then some (.ret (vb false) ⟨[], 99⟩ true) else some (.ret (vb true) ⟨[], 99⟩ true) := by kernel_rfl
    exact h.trans (rt_tree1 a b c d)
  | 17, _ => by
    have h : F_ Try.prog L_rg Try.f19 [] [] 99 [.agg [vi (Int.ofNat 17), vi a, vi b, vi c, vi d]] noMem = bif a != 0 then some (.ret (vb false) ⟨[], 99⟩ true) else bif b != 0 then some (.ret (vb false) ⟨[], 99⟩ true) else bif c != 0 then some (.ret (vb false) ⟨[], 99⟩ true) else bif d != 0 then some (.ret (vb false) ⟨[], 99⟩ true) else some (.ret (vb true) ⟨[], 99⟩ true) := by kernel_rfl
    exact h.trans (rt_tree0 a b c d)
  | 18, _ => by
    have h : F_ Try.prog L_rg Try.f19 [] [] 99 [.agg [vi (Int.ofNat 18), vi a, vi b, vi c, vi d]] noMem = bif a != 0 then some (.ret (vb false) ⟨[], 99⟩ true) else bif b != 0 then some (.ret (vb false) ⟨[], 99⟩ true) else bif c != 0 then some (.ret (vb false) ⟨[], 99⟩ true) else bif d != 0 then some (.ret (vb false) ⟨[], 99⟩ true) else some (.ret (vb true) ⟨[], 99⟩ true) := by kernel_rfl
    exact h.trans (rt_tree0 a b c d)
  | 19, _ => by
    have h : F_ Try.prog L_rg Try.f19 [] [] 99 [.agg [vi (Int.ofNat 19), vi a, vi b, vi c, vi d]] noMem = bif a != 0 then some (.ret (vb false) ⟨[], 99⟩ true) else bif b != 0 then some (.ret (vb false) ⟨[], 99⟩ true) else bif c != 0 then some (.ret (vb false) ⟨[], 99⟩ true) else bif d != 0 then some (.ret (vb false) ⟨[], 99⟩ true) else some (.ret (vb true) ⟨[], 99⟩ true) := by kernel_rfl
    exact h.trans (rt_tree0 a b c d)
  | 20, _ => by
    have h : F_ Try.prog L_rg Try.f19 [] [] 99 [.agg [vi (Int.ofNat 20), vi a, vi b, vi c, vi d]] noMem = bif a != 0 then some (.ret (vb false) ⟨[], 99⟩ true) else bif b != 0 then some (.ret (vb false) ⟨[], 99⟩ true) else bif c != 0 then some (.ret (vb false) ⟨[], 99⟩ true) else bif d != 0 then some (.ret (vb false) ⟨[], 99⟩ true) else some (.ret (vb true) ⟨[], 99⟩ true) := by kernel_rfl
    exact h.trans (rt_tree0 a b c d)
  | n + 21, h => by omega
def e_nar : Spec := fun _ args => match args with
  | [.val (.int .i64 k)] => some (vi (-1), none, [!record_Is_0 k])
  | _ => none
theorem ok_nar : SpecOk Try.prog 25 e_nar := fun m args v mo bs h hb => by
  unfold e_nar at h
  split at h
  · rename_i k
    cases h
    simp only [List.all_cons, List.all_nil, id, Bool.and_true, Bool.not_eq_true'] at hb
    have := ok_rar m [vi k] _ _ _ rfl rfl
    rw [(tab_no hb).1] at this
    exact this
  · cases h
def L_nrg : List (FuncId × Spec) := (25, e_nar) :: L_no
theorem hE_nrg : ESound Try.prog (envOf L_nrg) := env_cons ok_nar hE_no
theorem rp_out (k a b c d : Int) : F_ Try.prog L_nrg Try.f20 [] [] 99 [.agg [vi k, vi a, vi b, vi c, vi d]] noMem = some (.ret (vb false) ⟨[], 99⟩ (bif !record_Is_0 k then true else false)) := by kernel_rfl
theorem rr_out (k a b c d : Int) : F_ Try.prog L_nrg Try.f19 [] [] 99 [.agg [vi k, vi a, vi b, vi c, vi d]] noMem = some (.ret (vb false) ⟨[], 99⟩ (bif !record_Is_0 k then true else false)) := by kernel_rfl
def e_rt : Spec := fun _ args => match args with
  | [.agg [.val (.int .i64 k), .val (.int .i64 a), .val (.int .i64 b), .val (.int .i64 c), .val (.int .i64 d)]] => some (vb (rtB k a b c d), none, [])
  | _ => none
theorem ok_rt (f : FuncId) (fn : Func) (cd : Code) (hc : ∀ xs w, (callFunc f xs).run Try.prog w = .ok (.enter f xs) w) (hf : Try.prog.funcs[f]? = some fn) (hb : fn.body = some cd)
    (hin : ∀ (a b c d : Int) (n : Nat), n < 21 → F_ Try.prog L_rg fn [] [] 99 [.agg [vi (n : Int), vi a, vi b, vi c, vi d]] noMem = rtR (rtA (arL.getD n 0).toNat a b c d))
    (hout : ∀ (k a b c d : Int), F_ Try.prog L_nrg fn [] [] 99 [.agg [vi k, vi a, vi b, vi c, vi d]] noMem = some (.ret (vb false) ⟨[], 99⟩ (bif !record_Is_0 k then true else false))) : SpecOk Try.prog f e_rt := fun m args v mo bs h hbs => by
  unfold e_rt at h
  split at h
  · rename_i k a b c d
    cases h
    unfold rtB
    cases hk : record_Is_0 k with
    | true =>
      obtain ⟨n, rfl, hn⟩ := is_nat hk
      have e : recAr (n : Int) = arL.getD n 0 := by unfold recAr; rw [hk]; rfl
      rw [e]
      exact pure_fn (c := cd) hE_rg mixed hc hf hb (hin a b c d n hn) rfl rfl
    | false =>
      have := hout k a b c d
      rw [hk] at this
      exact pure_fn (c := cd) hE_nrg mixed hc hf hb this rfl rfl
  · cases h
theorem ok_rtp : SpecOk Try.prog 20 e_rt := ok_rt _ _ (bodyOf Try.f20) (fun xs w => Try.call20 xs w) Try.func20 rfl rp_in rp_out
theorem ok_rtr : SpecOk Try.prog 19 e_rt := ok_rt _ _ (bodyOf Try.f19) (fun xs w => Try.call19 xs w) Try.func19 rfl rr_in rr_out
-- of one that may not be: stand-ins that say so
def e_nrt : Spec := fun _ args => match args with
  | [.agg [.val (.int .i64 k), .val (.int .i64 a), .val (.int .i64 b), .val (.int .i64 c), .val (.int .i64 d)]] => some (vb false, none, [!rtB k a b c d])
  | _ => none
theorem ok_nrt {f : FuncId} (h0 : SpecOk Try.prog f e_rt) : SpecOk Try.prog f e_nrt := fun m args v mo bs h hb => by
  unfold e_nrt at h
  split at h
  · rename_i k a b c d
    cases h
    simp only [List.all_cons, List.all_nil, id, Bool.and_true, Bool.not_eq_true'] at hb
    have := h0 m [.agg [vi k, vi a, vi b, vi c, vi d]] _ _ _ rfl rfl
    rw [hb] at this
    exact this
  · cases h
def L_nrt : List (FuncId × Spec) := (20, e_nrt) :: L_rg
theorem hE_nrt : ESound Try.prog (envOf L_nrt) := env_cons (ok_nrt ok_rtp) hE_rg
theorem rec_no (k a b c d : Int) : F_ Try.prog L_nrt Try.f21 [] [] 99 [.agg [vi k, vi a, vi b, vi c, vi d]] noMem = some (.ret (.val (.slice none 0 0)) ⟨[], 99⟩ (bif !rtB k a b c d then true else false)) := by kernel_rfl
theorem lin_no (k a b c d : Int) : F_ Try.prog L_nrt Try.f22 [] [] 99 [.agg [vi k, vi a, vi b, vi c, vi d]] noMem = some (.ret (vs ⟨#[]⟩) ⟨[], 99⟩ (bif !rtB k a b c d then true else false)) := by kernel_rfl
def e_rec0 (v : AV) : Spec := fun _ args => match args with
  | [.agg [.val (.int .i64 k), .val (.int .i64 a), .val (.int .i64 b), .val (.int .i64 c), .val (.int .i64 d)]] => some (v, none, [!rtB k a b c d])
  | _ => none
theorem ok_rec0 {f : FuncId} {fn : Func} {cd : Code} {u : AV} (hc : ∀ xs w, (callFunc f xs).run Try.prog w = .ok (.enter f xs) w) (hf : Try.prog.funcs[f]? = some fn) (hbd : fn.body = some cd) (hu : u.ground = true)
    (hr : ∀ (k a b c d : Int), F_ Try.prog L_nrt fn [] [] 99 [.agg [vi k, vi a, vi b, vi c, vi d]] noMem = some (.ret u ⟨[], 99⟩ (bif !rtB k a b c d then true else false))) : SpecOk Try.prog f (e_rec0 u) := fun m args v mo bs h hb => by
  unfold e_rec0 at h
  split at h
  · rename_i k a b c d
    cases h
    simp only [List.all_cons, List.all_nil, id, Bool.and_true, Bool.not_eq_true'] at hb
    have := hr k a b c d
    rw [hb] at this
    exact pure_fn (c := cd) hE_nrt mixed hc hf hbd this rfl hu
  · cases h
def L_lawA : List (FuncId × Spec) := (21, e_rec0 (.val (.slice none 0 0))) :: (22, e_rec0 (vs ⟨#[]⟩)) :: (20, e_nrt) :: (19, e_nrt) :: (17, e_prs) :: (18, e_prs) :: L_rg
theorem ok_prsp : SpecOk Try.prog 17 e_prs := ok_prs _ _ (bodyOf Try.f17) (fun xs w => Try.call17 xs w) Try.func17 rfl p_all
theorem ok_prsr : SpecOk Try.prog 18 e_prs := ok_prs _ _ (bodyOf Try.f18) (fun xs w => Try.call18 xs w) Try.func18 rfl r_all
theorem hE_lawA : ESound Try.prog (envOf L_lawA) :=
  env_cons (ok_rec0 (cd := bodyOf Try.f21) (fun xs w => Try.call21 xs w) Try.func21 rfl rfl rec_no)
    (env_cons (ok_rec0 (cd := bodyOf Try.f22) (fun xs w => Try.call22 xs w) Try.func22 rfl rfl lin_no)
      (env_cons (ok_nrt ok_rtp) (env_cons (ok_nrt ok_rtr) (env_cons ok_prsp (env_cons ok_prsr hE_rg)))))
def rpM (zs : List Int) : MS := ⟨[(0, some ⟨false, false, .col (.ints .i64 zs)⟩)], 1⟩
-- of one that may be: run in place
def L_rpR (P : Program) (f : Func) : List (FuncId × Spec) := (20, inlP P L_rg f) :: L_rg
theorem hE_rpR : ESound Try.prog (envOf (L_rpR Try.prog Try.f20)) := env_cons (inlP_ok hE_rg mixed (fun xs w => Try.call20 xs w) Try.func20 rfl) hE_rg
def L_lawB (P : Program) (f f1 f2 f3 f4 f5 : Func) : List (FuncId × Spec) := (21, inl P (L_rpR P f) f1) :: (24, inl P L_rg f2) :: (23, orS e_same (inl P L_rg f4)) :: (19, inlP P L_rg f3) :: (17, orS e_prs (inl P L_rg f5)) :: (18, e_prs) :: L_rpR P f
theorem hE_lawB : ESound Try.prog (envOf (L_lawB Try.prog Try.f20 Try.f21 Try.f24 Try.f19 Try.f23 Try.f17)) :=
  env_cons (inl_ok hE_rpR mixed (fun xs w => Try.call21 xs w) Try.func21 rfl)
    (env_cons (inl_ok hE_rg mixed (fun xs w => Try.call24 xs w) Try.func24 rfl)
      (env_cons (orS_ok ok_same (inl_ok hE_rg mixed (fun xs w => Try.call23 xs w) Try.func23 rfl)) (env_cons (inlP_ok hE_rg mixed (fun xs w => Try.call19 xs w) Try.func19 rfl) (env_cons (orS_ok ok_prsp (inl_ok hE_rg mixed (fun xs w => Try.call17 xs w) Try.func17 rfl)) (env_cons ok_prsr hE_rpR)))))
end Go.Proofs.Ytpmcflidggofkaa
