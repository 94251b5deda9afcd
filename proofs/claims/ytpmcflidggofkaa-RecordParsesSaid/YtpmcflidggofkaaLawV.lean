/-
  The statement RecordParses of layer 34 (record), proved.
-/
import Derived.Test.YtpmcflidggofkaaRH
import Derived.Test.YtpmcflidggofkaaLeaf
namespace Go.Proofs.Ytpmcflidggofkaa
open Go Go.ChangeShapes Go.WideShapes Go.ChangeAt Go.RowKit Go.Deep
def cmpz (zs : List Int) : Bool := bif !(prA zs 0 == prA zs 0 && (prA zs 1 == prA zs 1 && (prA zs 2 == prA zs 2 && (prA zs 3 == prA zs 3 && (prA zs 4 == prA zs 4 && true))) && true)) then true else prE zs != prE zs
theorem cmpz_no (zs : List Int) : cmpz zs = false := by unfold cmpz; simp
def kz (n : Nat) (zs : List Int) : Bool := bif n.beq zs.length then bif n.ble 20 then bif n.beq zs.length then bif n.ble 20 then true else false else false else false else false
theorem kz_yes {zs : List Int} (h : zs.length ≤ 20) : kz zs.length zs = true := by
  unfold kz
  rw [Nat.ble_eq_true_of_le h, Nat.beq_refl]
  rfl
def kA (n : Nat) (zs : List Int) (r : Bool) : Bool := bif n.beq zs.length then bif n.ble 20 then bif n.beq zs.length then bif n.ble 20 then bif !r then bif !r then bif false || !r then bif false || !r then true else false else false else false else false else false else false else false else false
theorem lawA_run (nn : Bool) (n : Nat) (cp : Option Nat) (zs : List Int) (k a b c d : Int) : F_ Try.prog L_lawA Try.f5 [] [] 99 [.sl nn 0 1 0 1 n cp, .agg [vi k, vi a, vi b, vi c, vi d]] (rpM zs) =
    bif decide (20 < Int.ofNat n) then some (.ret (vb true) ⟨[], 99⟩ true) else bif cmpz zs then some (.ret (vb false) ⟨[], 99⟩ (kz n zs)) else some (.ret (vb true) ⟨[], 99⟩ (kA n zs (rtB k a b c d))) := by kernel_rfl
abbrev lawB_ (n : Nat) (zs : List Int) (x : Bool) : Option Fin_ := bif decide (20 < Int.ofNat n) then some (.ret (vb true) ⟨[], 99⟩ true) else bif cmpz zs then some (.ret (vb false) ⟨[], 99⟩ (kz n zs)) else some (.ret (vb x) ⟨[], 99⟩ (kz n zs))
theorem lawB_run0 (nn : Bool) (n : Nat) (cp : Option Nat) (zs : List Int) (a b c d : Int) : F_ Try.prog (L_lawB Try.prog Try.f20 Try.f21 Try.f24 Try.f19 Try.f23 Try.f17) Try.f5 [] [] 99 [.sl nn 0 1 0 1 n cp, .agg [vi (Int.ofNat 0), vi a, vi b, vi c, vi d]] (rpM zs) = lawB_ n zs (bif bif sameL [0, a, b, c, d] [0, a, b, c, d] then (((0 : Int) == 0) && (((a : Int) == a && ((b : Int) == b && ((c : Int) == c && ((d : Int) == d && true)))) && true)) else false then true else false) := by kernel_rfl
theorem lawB_run1 (nn : Bool) (n : Nat) (cp : Option Nat) (zs : List Int) : F_ Try.prog (L_lawB Try.prog Try.f20 Try.f21 Try.f24 Try.f19 Try.f23 Try.f17) Try.f5 [] [] 99 [.sl nn 0 1 0 1 n cp, .agg [vi (Int.ofNat 1), vi 0, vi 0, vi 0, vi 0]] (rpM zs) = lawB_ n zs (true) := by kernel_rfl
theorem lawB_run2 (nn : Bool) (n : Nat) (cp : Option Nat) (zs : List Int) (a : Int) : F_ Try.prog (L_lawB Try.prog Try.f20 Try.f21 Try.f24 Try.f19 Try.f23 Try.f17) Try.f5 [] [] 99 [.sl nn 0 1 0 1 n cp, .agg [vi (Int.ofNat 2), vi a, vi 0, vi 0, vi 0]] (rpM zs) = lawB_ n zs (bif bif sameL [2, a] [2, a] then (((2 : Int) == 2) && (((a : Int) == a && ((0 : Int) == 0 && ((0 : Int) == 0 && ((0 : Int) == 0 && true)))) && true)) else false then true else false) := by kernel_rfl
theorem lawB_run3 (nn : Bool) (n : Nat) (cp : Option Nat) (zs : List Int) (a : Int) : F_ Try.prog (L_lawB Try.prog Try.f20 Try.f21 Try.f24 Try.f19 Try.f23 Try.f17) Try.f5 [] [] 99 [.sl nn 0 1 0 1 n cp, .agg [vi (Int.ofNat 3), vi a, vi 0, vi 0, vi 0]] (rpM zs) = lawB_ n zs (bif bif sameL [3, a] [3, a] then (((3 : Int) == 3) && (((a : Int) == a && ((0 : Int) == 0 && ((0 : Int) == 0 && ((0 : Int) == 0 && true)))) && true)) else false then true else false) := by kernel_rfl
theorem lawB_run4 (nn : Bool) (n : Nat) (cp : Option Nat) (zs : List Int) : F_ Try.prog (L_lawB Try.prog Try.f20 Try.f21 Try.f24 Try.f19 Try.f23 Try.f17) Try.f5 [] [] 99 [.sl nn 0 1 0 1 n cp, .agg [vi (Int.ofNat 4), vi 0, vi 0, vi 0, vi 0]] (rpM zs) = lawB_ n zs (true) := by kernel_rfl
theorem lawB_run5 (nn : Bool) (n : Nat) (cp : Option Nat) (zs : List Int) (a : Int) : F_ Try.prog (L_lawB Try.prog Try.f20 Try.f21 Try.f24 Try.f19 Try.f23 Try.f17) Try.f5 [] [] 99 [.sl nn 0 1 0 1 n cp, .agg [vi (Int.ofNat 5), vi a, vi 0, vi 0, vi 0]] (rpM zs) = lawB_ n zs (bif bif sameL [5, a] [5, a] then (((5 : Int) == 5) && (((a : Int) == a && ((0 : Int) == 0 && ((0 : Int) == 0 && ((0 : Int) == 0 && true)))) && true)) else false then true else false) := by kernel_rfl
theorem lawB_run6 (nn : Bool) (n : Nat) (cp : Option Nat) (zs : List Int) (a : Int) : F_ Try.prog (L_lawB Try.prog Try.f20 Try.f21 Try.f24 Try.f19 Try.f23 Try.f17) Try.f5 [] [] 99 [.sl nn 0 1 0 1 n cp, .agg [vi (Int.ofNat 6), vi a, vi 0, vi 0, vi 0]] (rpM zs) = lawB_ n zs (bif bif sameL [6, a] [6, a] then (((6 : Int) == 6) && (((a : Int) == a && ((0 : Int) == 0 && ((0 : Int) == 0 && ((0 : Int) == 0 && true)))) && true)) else false then true else false) := by kernel_rfl
theorem lawB_run7 (nn : Bool) (n : Nat) (cp : Option Nat) (zs : List Int) (a b : Int) : F_ Try.prog (L_lawB Try.prog Try.f20 Try.f21 Try.f24 Try.f19 Try.f23 Try.f17) Try.f5 [] [] 99 [.sl nn 0 1 0 1 n cp, .agg [vi (Int.ofNat 7), vi a, vi b, vi 0, vi 0]] (rpM zs) = lawB_ n zs (bif bif sameL [7, a, b] [7, a, b] then (((7 : Int) == 7) && (((a : Int) == a && ((b : Int) == b && ((0 : Int) == 0 && ((0 : Int) == 0 && true)))) && true)) else false then true else false) := by kernel_rfl
theorem lawB_run8 (nn : Bool) (n : Nat) (cp : Option Nat) (zs : List Int) (a b : Int) : F_ Try.prog (L_lawB Try.prog Try.f20 Try.f21 Try.f24 Try.f19 Try.f23 Try.f17) Try.f5 [] [] 99 [.sl nn 0 1 0 1 n cp, .agg [vi (Int.ofNat 8), vi a, vi b, vi 0, vi 0]] (rpM zs) = lawB_ n zs (bif bif sameL [8, a, b] [8, a, b] then (((8 : Int) == 8) && (((a : Int) == a && ((b : Int) == b && ((0 : Int) == 0 && ((0 : Int) == 0 && true)))) && true)) else false then true else false) := by kernel_rfl
theorem lawB_run9 (nn : Bool) (n : Nat) (cp : Option Nat) (zs : List Int) (a : Int) : F_ Try.prog (L_lawB Try.prog Try.f20 Try.f21 Try.f24 Try.f19 Try.f23 Try.f17) Try.f5 [] [] 99 [.sl nn 0 1 0 1 n cp, .agg [vi (Int.ofNat 9), vi a, vi 0, vi 0, vi 0]] (rpM zs) = lawB_ n zs (bif bif sameL [9, a] [9, a] then (((9 : Int) == 9) && (((a : Int) == a && ((0 : Int) == 0 && ((0 : Int) == 0 && ((0 : Int) == 0 && true)))) && true)) else false then true else false) := by kernel_rfl
theorem lawB_run10 (nn : Bool) (n : Nat) (cp : Option Nat) (zs : List Int) (a b c : Int) : F_ Try.prog (L_lawB Try.prog Try.f20 Try.f21 Try.f24 Try.f19 Try.f23 Try.f17) Try.f5 [] [] 99 [.sl nn 0 1 0 1 n cp, .agg [vi (Int.ofNat 10), vi a, vi b, vi c, vi 0]] (rpM zs) = lawB_ n zs (bif bif sameL [10, a, b, c] [10, a, b, c] then (((10 : Int) == 10) && (((a : Int) == a && ((b : Int) == b && ((c : Int) == c && ((0 : Int) == 0 && true)))) && true)) else false then true else false) := by kernel_rfl
theorem lawB_run11 (nn : Bool) (n : Nat) (cp : Option Nat) (zs : List Int) (a b c : Int) : F_ Try.prog (L_lawB Try.prog Try.f20 Try.f21 Try.f24 Try.f19 Try.f23 Try.f17) Try.f5 [] [] 99 [.sl nn 0 1 0 1 n cp, .agg [vi (Int.ofNat 11), vi a, vi b, vi c, vi 0]] (rpM zs) = lawB_ n zs (bif bif sameL [11, a, b, c] [11, a, b, c] then (((11 : Int) == 11) && (((a : Int) == a && ((b : Int) == b && ((c : Int) == c && ((0 : Int) == 0 && true)))) && true)) else false then true else false) := by kernel_rfl
theorem lawB_run12 (nn : Bool) (n : Nat) (cp : Option Nat) (zs : List Int) (a b : Int) : F_ Try.prog (L_lawB Try.prog Try.f20 Try.f21 Try.f24 Try.f19 Try.f23 Try.f17) Try.f5 [] [] 99 [.sl nn 0 1 0 1 n cp, .agg [vi (Int.ofNat 12), vi a, vi b, vi 0, vi 0]] (rpM zs) = lawB_ n zs (bif bif sameL [12, a, b] [12, a, b] then (((12 : Int) == 12) && (((a : Int) == a && ((b : Int) == b && ((0 : Int) == 0 && ((0 : Int) == 0 && true)))) && true)) else false then true else false) := by kernel_rfl
theorem lawB_run13 (nn : Bool) (n : Nat) (cp : Option Nat) (zs : List Int) (a b c : Int) : F_ Try.prog (L_lawB Try.prog Try.f20 Try.f21 Try.f24 Try.f19 Try.f23 Try.f17) Try.f5 [] [] 99 [.sl nn 0 1 0 1 n cp, .agg [vi (Int.ofNat 13), vi a, vi b, vi c, vi 0]] (rpM zs) = lawB_ n zs (bif bif sameL [13, a, b, c] [13, a, b, c] then (((13 : Int) == 13) && (((a : Int) == a && ((b : Int) == b && ((c : Int) == c && ((0 : Int) == 0 && true)))) && true)) else false then true else false) := by kernel_rfl
theorem lawB_run14 (nn : Bool) (n : Nat) (cp : Option Nat) (zs : List Int) (a b : Int) : F_ Try.prog (L_lawB Try.prog Try.f20 Try.f21 Try.f24 Try.f19 Try.f23 Try.f17) Try.f5 [] [] 99 [.sl nn 0 1 0 1 n cp, .agg [vi (Int.ofNat 14), vi a, vi b, vi 0, vi 0]] (rpM zs) = lawB_ n zs (bif bif sameL [14, a, b] [14, a, b] then (((14 : Int) == 14) && (((a : Int) == a && ((b : Int) == b && ((0 : Int) == 0 && ((0 : Int) == 0 && true)))) && true)) else false then true else false) := by kernel_rfl
theorem lawB_run15 (nn : Bool) (n : Nat) (cp : Option Nat) (zs : List Int) (a : Int) : F_ Try.prog (L_lawB Try.prog Try.f20 Try.f21 Try.f24 Try.f19 Try.f23 Try.f17) Try.f5 [] [] 99 [.sl nn 0 1 0 1 n cp, .agg [vi (Int.ofNat 15), vi a, vi 0, vi 0, vi 0]] (rpM zs) = lawB_ n zs (bif bif sameL [15, a] [15, a] then (((15 : Int) == 15) && (((a : Int) == a && ((0 : Int) == 0 && ((0 : Int) == 0 && ((0 : Int) == 0 && true)))) && true)) else false then true else false) := by kernel_rfl
theorem lawB_run16 (nn : Bool) (n : Nat) (cp : Option Nat) (zs : List Int) (a : Int) : F_ Try.prog (L_lawB Try.prog Try.f20 Try.f21 Try.f24 Try.f19 Try.f23 Try.f17) Try.f5 [] [] 99 [.sl nn 0 1 0 1 n cp, .agg [vi (Int.ofNat 16), vi a, vi 0, vi 0, vi 0]] (rpM zs) = lawB_ n zs (bif bif sameL [16, a] [16, a] then (((16 : Int) == 16) && (((a : Int) == a && ((0 : Int) == 0 && ((0 : Int) == 0 && ((0 : Int) == 0 && true)))) && true)) else false then true else false) := by kernel_rfl
theorem lawB_run17 (nn : Bool) (n : Nat) (cp : Option Nat) (zs : List Int) : F_ Try.prog (L_lawB Try.prog Try.f20 Try.f21 Try.f24 Try.f19 Try.f23 Try.f17) Try.f5 [] [] 99 [.sl nn 0 1 0 1 n cp, .agg [vi (Int.ofNat 17), vi 0, vi 0, vi 0, vi 0]] (rpM zs) = lawB_ n zs (true) := by kernel_rfl
theorem lawB_run18 (nn : Bool) (n : Nat) (cp : Option Nat) (zs : List Int) : F_ Try.prog (L_lawB Try.prog Try.f20 Try.f21 Try.f24 Try.f19 Try.f23 Try.f17) Try.f5 [] [] 99 [.sl nn 0 1 0 1 n cp, .agg [vi (Int.ofNat 18), vi 0, vi 0, vi 0, vi 0]] (rpM zs) = lawB_ n zs (true) := by kernel_rfl
theorem lawB_run19 (nn : Bool) (n : Nat) (cp : Option Nat) (zs : List Int) : F_ Try.prog (L_lawB Try.prog Try.f20 Try.f21 Try.f24 Try.f19 Try.f23 Try.f17) Try.f5 [] [] 99 [.sl nn 0 1 0 1 n cp, .agg [vi (Int.ofNat 19), vi 0, vi 0, vi 0, vi 0]] (rpM zs) = lawB_ n zs (true) := by kernel_rfl
theorem lawB_run20 (nn : Bool) (n : Nat) (cp : Option Nat) (zs : List Int) : F_ Try.prog (L_lawB Try.prog Try.f20 Try.f21 Try.f24 Try.f19 Try.f23 Try.f17) Try.f5 [] [] 99 [.sl nn 0 1 0 1 n cp, .agg [vi (Int.ofNat 20), vi 0, vi 0, vi 0, vi 0]] (rpM zs) = lawB_ n zs (true) := by kernel_rfl
theorem lawB_yes {n : Nat} {zs : List Int} {x : Bool} (hn : n = zs.length) (hx : x = true) : lawB_ n zs x = some (.ret (vb true) ⟨[], 99⟩ true) := by
  subst hn hx
  unfold lawB_
  by_cases h : zs.length ≤ 20
  · rw [decide_eq_false (show ¬ (20 : Int) < Int.ofNat zs.length by simp; omega), cmpz_no, kz_yes h]; rfl
  · rw [decide_eq_true (show (20 : Int) < Int.ofNat zs.length by simp; omega)]; rfl
theorem same_self (l : List Int) : sameL l l = true := decide_eq_true rfl
theorem lawB_all (nn : Bool) (cp : Option Nat) (zs : List Int) (a b c d : Int) : ∀ n : Nat, n < 21 → rtA (arL.getD n 0).toNat a b c d = true → F_ Try.prog (L_lawB Try.prog Try.f20 Try.f21 Try.f24 Try.f19 Try.f23 Try.f17) Try.f5 [] [] 99 [.sl nn 0 1 0 1 zs.length cp, .agg [vi (n : Int), vi a, vi b, vi c, vi d]] (rpM zs) = some (.ret (vb true) ⟨[], 99⟩ true)
  | 0, _, h => by
    have e : rtA 4 a b c d = true := h
    simp only [rtA, Bool.and_eq_true, beq_iff_eq] at e
    exact (lawB_run0 nn zs.length cp zs a b c d).trans (lawB_yes rfl (by simp [same_self]))
  | 1, _, h => by
    have e : rtA 0 a b c d = true := h
    simp only [rtA, Bool.and_eq_true, beq_iff_eq] at e
    obtain ⟨e0, e1, e2, e3⟩ := e
    subst e0 e1 e2 e3
    exact (lawB_run1 nn zs.length cp zs).trans (lawB_yes rfl (by rfl))
  | 2, _, h => by
    have e : rtA 1 a b c d = true := h
    simp only [rtA, Bool.and_eq_true, beq_iff_eq] at e
    obtain ⟨e0, e1, e2⟩ := e
    subst e0 e1 e2
    exact (lawB_run2 nn zs.length cp zs a).trans (lawB_yes rfl (by simp [same_self]))
  | 3, _, h => by
    have e : rtA 1 a b c d = true := h
    simp only [rtA, Bool.and_eq_true, beq_iff_eq] at e
    obtain ⟨e0, e1, e2⟩ := e
    subst e0 e1 e2
    exact (lawB_run3 nn zs.length cp zs a).trans (lawB_yes rfl (by simp [same_self]))
  | 4, _, h => by
    have e : rtA 0 a b c d = true := h
    simp only [rtA, Bool.and_eq_true, beq_iff_eq] at e
    obtain ⟨e0, e1, e2, e3⟩ := e
    subst e0 e1 e2 e3
    exact (lawB_run4 nn zs.length cp zs).trans (lawB_yes rfl (by rfl))
  | 5, _, h => by
    have e : rtA 1 a b c d = true := h
    simp only [rtA, Bool.and_eq_true, beq_iff_eq] at e
    obtain ⟨e0, e1, e2⟩ := e
    subst e0 e1 e2
    exact (lawB_run5 nn zs.length cp zs a).trans (lawB_yes rfl (by simp [same_self]))
  | 6, _, h => by
    have e : rtA 1 a b c d = true := h
    simp only [rtA, Bool.and_eq_true, beq_iff_eq] at e
    obtain ⟨e0, e1, e2⟩ := e
    subst e0 e1 e2
    exact (lawB_run6 nn zs.length cp zs a).trans (lawB_yes rfl (by simp [same_self]))
  | 7, _, h => by
    have e : rtA 2 a b c d = true := h
    simp only [rtA, Bool.and_eq_true, beq_iff_eq] at e
    obtain ⟨e0, e1⟩ := e
    subst e0 e1
    exact (lawB_run7 nn zs.length cp zs a b).trans (lawB_yes rfl (by simp [same_self]))
  | 8, _, h => by
    have e : rtA 2 a b c d = true := h
    simp only [rtA, Bool.and_eq_true, beq_iff_eq] at e
    obtain ⟨e0, e1⟩ := e
    subst e0 e1
    exact (lawB_run8 nn zs.length cp zs a b).trans (lawB_yes rfl (by simp [same_self]))
  | 9, _, h => by
    have e : rtA 1 a b c d = true := h
    simp only [rtA, Bool.and_eq_true, beq_iff_eq] at e
    obtain ⟨e0, e1, e2⟩ := e
    subst e0 e1 e2
    exact (lawB_run9 nn zs.length cp zs a).trans (lawB_yes rfl (by simp [same_self]))
  | 10, _, h => by
    have e : rtA 3 a b c d = true := h
    simp only [rtA, Bool.and_eq_true, beq_iff_eq] at e
    subst e
    exact (lawB_run10 nn zs.length cp zs a b c).trans (lawB_yes rfl (by simp [same_self]))
  | 11, _, h => by
    have e : rtA 3 a b c d = true := h
    simp only [rtA, Bool.and_eq_true, beq_iff_eq] at e
    subst e
    exact (lawB_run11 nn zs.length cp zs a b c).trans (lawB_yes rfl (by simp [same_self]))
  | 12, _, h => by
    have e : rtA 2 a b c d = true := h
    simp only [rtA, Bool.and_eq_true, beq_iff_eq] at e
    obtain ⟨e0, e1⟩ := e
    subst e0 e1
    exact (lawB_run12 nn zs.length cp zs a b).trans (lawB_yes rfl (by simp [same_self]))
  | 13, _, h => by
    have e : rtA 3 a b c d = true := h
    simp only [rtA, Bool.and_eq_true, beq_iff_eq] at e
    subst e
    exact (lawB_run13 nn zs.length cp zs a b c).trans (lawB_yes rfl (by simp [same_self]))
  | 14, _, h => by
    have e : rtA 2 a b c d = true := h
    simp only [rtA, Bool.and_eq_true, beq_iff_eq] at e
    obtain ⟨e0, e1⟩ := e
    subst e0 e1
    exact (lawB_run14 nn zs.length cp zs a b).trans (lawB_yes rfl (by simp [same_self]))
  | 15, _, h => by
    have e : rtA 1 a b c d = true := h
    simp only [rtA, Bool.and_eq_true, beq_iff_eq] at e
    obtain ⟨e0, e1, e2⟩ := e
    subst e0 e1 e2
    exact (lawB_run15 nn zs.length cp zs a).trans (lawB_yes rfl (by simp [same_self]))
  | 16, _, h => by
    have e : rtA 1 a b c d = true := h
    simp only [rtA, Bool.and_eq_true, beq_iff_eq] at e
    obtain ⟨e0, e1, e2⟩ := e
    subst e0 e1 e2
    exact (lawB_run16 nn zs.length cp zs a).trans (lawB_yes rfl (by simp [same_self]))
  | 17, _, h => by
    have e : rtA 0 a b c d = true := h
    simp only [rtA, Bool.and_eq_true, beq_iff_eq] at e
    obtain ⟨e0, e1, e2, e3⟩ := e
    subst e0 e1 e2 e3
    exact (lawB_run17 nn zs.length cp zs).trans (lawB_yes rfl (by rfl))
  | 18, _, h => by
    have e : rtA 0 a b c d = true := h
    simp only [rtA, Bool.and_eq_true, beq_iff_eq] at e
    obtain ⟨e0, e1, e2, e3⟩ := e
    subst e0 e1 e2 e3
    exact (lawB_run18 nn zs.length cp zs).trans (lawB_yes rfl (by rfl))
  | 19, _, h => by
    have e : rtA 0 a b c d = true := h
    simp only [rtA, Bool.and_eq_true, beq_iff_eq] at e
    obtain ⟨e0, e1, e2, e3⟩ := e
    subst e0 e1 e2 e3
    exact (lawB_run19 nn zs.length cp zs).trans (lawB_yes rfl (by rfl))
  | 20, _, h => by
    have e : rtA 0 a b c d = true := h
    simp only [rtA, Bool.and_eq_true, beq_iff_eq] at e
    obtain ⟨e0, e1, e2, e3⟩ := e
    subst e0 e1 e2 e3
    exact (lawB_run20 nn zs.length cp zs).trans (lawB_yes rfl (by rfl))
  | n + 21, h, _ => by omega
theorem parses_all (zs : List Int) (A : Option Addr) (n c : Nat) (i : LI) (k a b c0 d : Int) (w : World) (hin : InB w A n (.col (.ints .i64 zs)) i) (hn : n = zs.length) (hnc : n ≤ c) : Gives 5 #[.slice A n c, .agg #[.int .i64 k, .int .i64 a, .int .i64 b, .int .i64 c0, .int .i64 d]] w (.bool true) := by
  subst hn
  let ρ : Rho := fun _ => i
  have hm : MRel ρ (rpM zs) w := mrel_one (hin.ok ρ 1)
  have hx : AV.rels ρ 1 [.sl false 0 1 0 1 zs.length (some c), .agg [vi k, vi a, vi b, vi c0, vi d]] [.slice A zs.length c, .agg #[.int .i64 k, .int .i64 a, .int .i64 b, .int .i64 c0, .int .i64 d]] := by
    simp only [AV.rels]
    refine ⟨_, _, rfl, InB.arg (ρ := ρ) (l := 0) hin (by omega) hnc 1 1, _, _, rfl, ?_, rfl⟩
    simp only [AV.rel, AV.rels]
    exact ⟨_, rfl, _, _, rfl, rfl, _, _, rfl, rfl, _, _, rfl, rfl, _, _, rfl, rfl, _, _, rfl, rfl, rfl⟩
  cases hr : rtB k a b c0 d with
  | false =>
    have h := lawA_run false zs.length (some c) zs k a b c0 d
    have h' : F_ Try.prog L_lawA Try.f5 [] [] 99 [.sl false 0 1 0 1 zs.length (some c), .agg [vi k, vi a, vi b, vi c0, vi d]] (rpM zs) = some (.ret (vb true) ⟨[], 99⟩ true) := by
      rw [h, hr]
      by_cases hl : zs.length ≤ 20
      · rw [decide_eq_false (show ¬ (20 : Int) < Int.ofNat zs.length by simp; omega), cmpz_no]
        unfold kA
        rw [Nat.ble_eq_true_of_le hl, Nat.beq_refl]
        rfl
      · rw [decide_eq_true (show (20 : Int) < Int.ofNat zs.length by simp; omega)]; rfl
    exact gives_true (c := bodyOf Try.f5) Try.func5 rfl (F_ret hE_lawA mixed rfl rfl h') rfl hm hx
  | true =>
    have hI : record_Is_0 k = true := by
      unfold rtB at hr
      cases h : record_Is_0 k with
      | true => rfl
      | false => rw [h] at hr; cases hr
    obtain ⟨m, rfl, hm'⟩ := is_nat hI
    have hrA : rtA (arL.getD m 0).toNat a b c0 d = true := by
      unfold rtB at hr
      rw [hI] at hr
      have e : recAr (m : Int) = arL.getD m 0 := by unfold recAr; rw [hI]; rfl
      rw [e] at hr
      exact hr
    exact gives_true (c := bodyOf Try.f5) Try.func5 rfl (F_ret hE_lawB mixed rfl rfl (lawB_all false (some c) zs a b c0 d m hm' hrA)) rfl hm hx

set_option maxRecDepth 100000 in
theorem recordparses_lifted (os : Os) (started : os.Started) (H : Type) (enc : TypeId × Value → H) :
    ReturnsInHanded {} Try.checked os 5 .any (Rows.recordParsesSpec.pre6 enc Try.prog Try.f5 Rows.recordParsesRow.domain false) (Rows.recordParsesSpec.post enc Try.prog Try.f5 false true false false) := by
  refine returnsInHanded_of_change (C := Try.checked) Try.own started (by kernel_rfl) Try.func5
    (ChangeSpec.witness6 (enc := enc) (C := Try.checked) false ⟨#[], #[.slice none 0 0, .agg #[.int .i64 0, .int .i64 0, .int .i64 0, .int .i64 0, .int .i64 0]], []⟩ 8 (by kernel_rfl) (by kernel_rfl) (by kernel_rfl) (by kernel_rfl)) ?_
  intro W base args ds gs before hval0 hW hcnd hsized
  have hval : ∀ (j : Nat) t v, Try.f5.params[j]? = some t → args[j]? = some v → Value.okWide Try.prog W .any base t v := hval0
  have hW' := hW
  obtain ⟨p, q, hA0, hV, rfl, hfz, hnd⟩ := hW
  have hA : DataW.TrodAll enc Try.prog W 0 (fun _ => true) true Try.f5.params.toList args.toList ds p := hA0
  rw [Try.params5] at hA hval
  obtain ⟨v0, v1, d0, d1, p0, p1, rfl, rfl, rfl, h0, h1⟩ := trodAll_two hA
  obtain ⟨A, n, c, zs, rfl, hnn, hcn, hrn, hwn⟩ := open_reads Try.underlying37 Try.underlying3 (by kernel_rfl) (hval 0 _ v0 rfl rfl) h0
  obtain ⟨i, hin⟩ := in_ints hrn
  obtain ⟨l1_, rfl, hl1_, hg1_⟩ := open_flat (ls := [38, 3, 3, 3, 3]) Try.underlying41 rfl (by kernel_rfl) (by kernel_rfl) (hval 1 _ v1 rfl rfl) h1
  obtain ⟨c1_0, r1_0, rfl, hr1_0⟩ := list_cons hl1_
  obtain ⟨c1_1, r1_1, rfl, hr1_1⟩ := list_cons hr1_0
  obtain ⟨c1_2, r1_2, rfl, hr1_2⟩ := list_cons hr1_1
  obtain ⟨c1_3, r1_3, rfl, hr1_3⟩ := list_cons hr1_2
  obtain ⟨c1_4, r1_4, rfl, hr1_4⟩ := list_cons hr1_3
  cases list_nil hr1_4
  obtain ⟨k, rfl, wk⟩ := field_int Try.underlying38 (hg1_ 0 _ _ rfl rfl)
  obtain ⟨a, rfl, wa⟩ := field_int Try.underlying3 (hg1_ 1 _ _ rfl rfl)
  obtain ⟨b, rfl, wb⟩ := field_int Try.underlying3 (hg1_ 2 _ _ rfl rfl)
  obtain ⟨c0, rfl, wc0⟩ := field_int Try.underlying3 (hg1_ 3 _ _ rfl rfl)
  obtain ⟨d, rfl, wd⟩ := field_int Try.underlying3 (hg1_ 4 _ _ rfl rfl)
  refine Gives.use (parses_all zs A n c i k a b c0 d W hin hrn.ints.symm hnn) fun W' hb => ?_
  exact ⟨_, rfl, law_post Try.laidOut (by kernel_rfl) (by kernel_rfl) Try.underlying4 rfl hW' ⟨rfl, rfl, rfl⟩ hb⟩
theorem recordparses_holds : Rows.RecordParsesSaid :=
  OpenClaim.holds_of_wide 5 Try.f5 rfl rfl rfl rfl rfl rfl rfl ⟨rfl, rfl, rfl, rfl, rfl⟩ rfl rfl rfl rfl rfl (by kernel_rfl) Try.func5 (by kernel_rfl)
    (of_decide_eq_true (by kernel_rfl)) (by unfold Func.isWrapper; first | (rw [if_pos (by decide +kernel)]; kernel_rfl) | (rw [if_neg (by decide +kernel)]; exact ⟨rfl, rfl⟩))
    (fun os started H enc _ => recordparses_lifted os started H enc)
end Go.Proofs.Ytpmcflidggofkaa
