/-
  Records read: record.Parse and the document's Parse.
-/
import Derived.Test.YtpmcflidggofkaaRF
import Derived.Test.YtpmcflidggofkaaExH
namespace Go.Proofs.Ytpmcflidggofkaa
open Go Go.RowKit
theorem ref_ar (k : Int) : haymowref34_Arity_0 k = recAr k ∧ c_haymowref34_Arity k = true := by
  cases hk : record_Is_0 k with
  | true =>
    obtain ⟨n, rfl, hn⟩ := is_nat hk
    obtain ⟨h1, _, h3, _⟩ := tab_at hn
    exact ⟨h1.symm, h3⟩
  | false =>
    obtain ⟨h1, h2, h3, _⟩ := tab_no hk
    exact ⟨h2.trans h1.symm, h3⟩
theorem ar_r (k : Int) : -1 ≤ recAr k ∧ recAr k ≤ 4 ∧ (recAr k < 0 ↔ record_Is_0 k = false) := by
  cases hk : record_Is_0 k with
  | true =>
    obtain ⟨n, rfl, hn⟩ := is_nat hk
    obtain ⟨h1, h2, _, _, _, h6⟩ := tab_at hn
    rw [h1]
    refine ⟨by omega, by omega, ⟨fun h => by omega, fun h => by cases h⟩⟩
  | false =>
    obtain ⟨h1, _⟩ := tab_no hk
    rw [h1]
    exact ⟨by omega, by omega, ⟨fun _ => rfl, fun _ => by omega⟩⟩
def e_rar : Spec := fun _ args => match args with
  | [.val (.int .i64 k)] => some (vi (recAr k), none, [])
  | _ => none
theorem ok_rar : SpecOk Try.prog 25 e_rar := fun m args v mo bs h hb => by
  unfold e_rar at h
  split at h
  · rename_i k
    cases h
    have := ok_haymowref34_Arity m [vi k] _ _ _ rfl (by simp [(ref_ar k).2])
    unfold s_haymowref34_Arity at this
    rw [(ref_ar k).1] at this
    exact this
  · cases h
def L_rg : List (FuncId × Spec) := (25, e_rar) :: L_a34
theorem hE_rg : ESound Try.prog (envOf L_rg) := env_cons ok_rar hE_a34
def prE : List Int → Int
  | [] => 40
  | z :: r => bif record_Is_0 z then (bif decide ((r.length : Int) = recAr z) then 0 else 41) else 40
def prA (zs : List Int) (i : Nat) : Int := bif decide (prE zs = 0) then zs.getD i 0 else 0
abbrev prR (zs : List Int) : Option Fin_ := some (.ret (.tup [.agg [vi (prA zs 0), vi (prA zs 1), vi (prA zs 2), vi (prA zs 3), vi (prA zs 4)], vi (prE zs)]) ⟨[], 99⟩ true)
abbrev pr40 : Option Fin_ := some (.ret (.tup [.agg [vi 0, vi 0, vi 0, vi 0, vi 0], vi 40]) ⟨[], 99⟩ true)
abbrev pr41 : Option Fin_ := some (.ret (.tup [.agg [vi 0, vi 0, vi 0, vi 0, vi 0], vi 41]) ⟨[], 99⟩ true)
abbrev pr0 (z0 : Int) (r : List Int) : Option Fin_ := some (.ret (.tup [.agg [vi z0, vi (r.getD 0 0), vi (r.getD 1 0), vi (r.getD 2 0), vi (r.getD 3 0)], vi 0]) ⟨[], 99⟩ true)
theorem pr_val {X B : Option Fin_} {z0 : Int} {r : List Int} (h : X = bif record_Is_0 z0 then bif decide ((r.length : Int) = recAr z0) then B else pr41 else pr40) (hB : (r.length : Int) = recAr z0 → B = pr0 z0 r) : X = prR (z0 :: r) := by
  rw [h]
  cases hI : record_Is_0 z0 with
  | false =>
    have e : prE (z0 :: r) = 40 := by simp only [prE, hI, cond_false]
    unfold prR prA
    rw [e]
    rfl
  | true =>
    simp only [cond_true]
    by_cases hr : (r.length : Int) = recAr z0
    · have e : prE (z0 :: r) = 0 := by simp only [prE, hI, cond_true, decide_eq_true hr]
      unfold prR prA
      rw [decide_eq_true hr, hB hr, e]
      rfl
    · have e : prE (z0 :: r) = 41 := by simp only [prE, hI, cond_true, cond_false, decide_eq_false hr]
      unfold prR prA
      rw [decide_eq_false hr, e]
      rfl
theorem close_p {X B : Option Fin_} {z0 : Int} {r : List Int} (h : X = bif !record_Is_0 z0 then pr40 else bif ((r.length : Int) != recAr z0) then pr41 else B) (hB : (r.length : Int) = recAr z0 → B = pr0 z0 r) : X = prR (z0 :: r) := by
  refine pr_val (B := B) ?_ hB
  rw [h]
  cases record_Is_0 z0 with
  | false => rfl
  | true =>
    by_cases hr : (r.length : Int) = recAr z0
    · rw [decide_eq_true hr, hr]; simp
    · rw [decide_eq_false hr, show ((r.length : Int) != recAr z0) = true by simpa using hr]; rfl
theorem close_r {X B : Option Fin_} {z0 : Int} {r : List Int} (h : X = bif decide (recAr z0 < 0) then pr40 else bif (((r.length + 1 : Nat) : Int) != IntKind.i64.wrap (1 + recAr z0)) then pr41 else B) (hB : (r.length : Int) = recAr z0 → B = pr0 z0 r) : X = prR (z0 :: r) := by
  refine pr_val (B := B) ?_ hB
  obtain ⟨a1, a2, a3⟩ := ar_r z0
  rw [h, IntWalk.i64_in _ (by omega)]
  cases hI : record_Is_0 z0 with
  | false => rw [decide_eq_true (a3.2 hI)]; rfl
  | true =>
    rw [decide_eq_false (fun hl => by rw [a3.1 hl] at hI; cases hI)]
    by_cases hr : (r.length : Int) = recAr z0
    · rw [decide_eq_true hr, show (((r.length + 1 : Nat) : Int) != 1 + recAr z0) = false by simp; omega]; rfl
    · rw [decide_eq_false hr, show (((r.length + 1 : Nat) : Int) != 1 + recAr z0) = true by simp; omega]; rfl
theorem p_run1 (nn : Bool) (c : Option Nat) (z0 : Int) : F_ Try.prog L_rg Try.f17 [] [] 99 [.sl nn 0 1 0 1 1 c] ⟨[(0, some ⟨false, false, .col (.ints .i64 [z0])⟩)], 1⟩ = bif !record_Is_0 z0 then pr40 else bif (0 != recAr z0) then pr41 else some (.ret (.tup [.agg [vi z0, vi 0, vi 0, vi 0, vi 0], vi 0]) ⟨[], 99⟩ true) := by kernel_rfl
theorem p_run2 (nn : Bool) (c : Option Nat) (z0 z1 : Int) : F_ Try.prog L_rg Try.f17 [] [] 99 [.sl nn 0 1 0 1 2 c] ⟨[(0, some ⟨false, false, .col (.ints .i64 [z0, z1])⟩)], 1⟩ = bif !record_Is_0 z0 then pr40 else bif (1 != recAr z0) then pr41 else some (.ret (.tup [.agg [vi z0, vi z1, vi 0, vi 0, vi 0], vi 0]) ⟨[], 99⟩ true) := by kernel_rfl
theorem p_run3 (nn : Bool) (c : Option Nat) (z0 z1 z2 : Int) : F_ Try.prog L_rg Try.f17 [] [] 99 [.sl nn 0 1 0 1 3 c] ⟨[(0, some ⟨false, false, .col (.ints .i64 [z0, z1, z2])⟩)], 1⟩ = bif !record_Is_0 z0 then pr40 else bif (2 != recAr z0) then pr41 else some (.ret (.tup [.agg [vi z0, vi z1, vi z2, vi 0, vi 0], vi 0]) ⟨[], 99⟩ true) := by kernel_rfl
theorem p_run4 (nn : Bool) (c : Option Nat) (z0 z1 z2 z3 : Int) : F_ Try.prog L_rg Try.f17 [] [] 99 [.sl nn 0 1 0 1 4 c] ⟨[(0, some ⟨false, false, .col (.ints .i64 [z0, z1, z2, z3])⟩)], 1⟩ = bif !record_Is_0 z0 then pr40 else bif (3 != recAr z0) then pr41 else some (.ret (.tup [.agg [vi z0, vi z1, vi z2, vi z3, vi 0], vi 0]) ⟨[], 99⟩ true) := by kernel_rfl
theorem p_run5 (nn : Bool) (c : Option Nat) (z0 z1 z2 z3 z4 : Int) : F_ Try.prog L_rg Try.f17 [] [] 99 [.sl nn 0 1 0 1 5 c] ⟨[(0, some ⟨false, false, .col (.ints .i64 [z0, z1, z2, z3, z4])⟩)], 1⟩ = bif !record_Is_0 z0 then pr40 else bif (4 != recAr z0) then pr41 else some (.ret (.tup [.agg [vi z0, vi z1, vi z2, vi z3, vi z4], vi 0]) ⟨[], 99⟩ true) := by kernel_rfl
theorem p_run6 (nn : Bool) (c : Option Nat) (z0 z1 z2 z3 z4 z5 : Int) : F_ Try.prog L_rg Try.f17 [] [] 99 [.sl nn 0 1 0 1 6 c] ⟨[(0, some ⟨false, false, .col (.ints .i64 [z0, z1, z2, z3, z4, z5])⟩)], 1⟩ = bif !record_Is_0 z0 then pr40 else bif (5 != recAr z0) then pr41 else some (.ret (.tup [.agg [vi z0, vi z1, vi z2, vi z3, vi z4], vi 0]) ⟨[], 99⟩ true) := by kernel_rfl
theorem p_run7 (nn : Bool) (c : Option Nat) (z0 z1 z2 z3 z4 z5 z6 : Int) : F_ Try.prog L_rg Try.f17 [] [] 99 [.sl nn 0 1 0 1 7 c] ⟨[(0, some ⟨false, false, .col (.ints .i64 [z0, z1, z2, z3, z4, z5, z6])⟩)], 1⟩ = bif !record_Is_0 z0 then pr40 else bif (6 != recAr z0) then pr41 else some (.ret (.tup [.agg [vi z0, vi z1, vi z2, vi z3, vi z4], vi 0]) ⟨[], 99⟩ true) := by kernel_rfl
theorem p_run8 (nn : Bool) (c : Option Nat) (z0 z1 z2 z3 z4 z5 z6 z7 : Int) : F_ Try.prog L_rg Try.f17 [] [] 99 [.sl nn 0 1 0 1 8 c] ⟨[(0, some ⟨false, false, .col (.ints .i64 [z0, z1, z2, z3, z4, z5, z6, z7])⟩)], 1⟩ = bif !record_Is_0 z0 then pr40 else bif (7 != recAr z0) then pr41 else some (.ret (.tup [.agg [vi z0, vi z1, vi z2, vi z3, vi z4], vi 0]) ⟨[], 99⟩ true) := by kernel_rfl
theorem p_run9 (nn : Bool) (c : Option Nat) (z0 z1 z2 z3 z4 z5 z6 z7 z8 : Int) : F_ Try.prog L_rg Try.f17 [] [] 99 [.sl nn 0 1 0 1 9 c] ⟨[(0, some ⟨false, false, .col (.ints .i64 [z0, z1, z2, z3, z4, z5, z6, z7, z8])⟩)], 1⟩ = bif !record_Is_0 z0 then pr40 else bif (8 != recAr z0) then pr41 else some (.ret (.tup [.agg [vi z0, vi z1, vi z2, vi z3, vi z4], vi 0]) ⟨[], 99⟩ true) := by kernel_rfl
theorem p_run10 (nn : Bool) (c : Option Nat) (z0 z1 z2 z3 z4 z5 z6 z7 z8 z9 : Int) : F_ Try.prog L_rg Try.f17 [] [] 99 [.sl nn 0 1 0 1 10 c] ⟨[(0, some ⟨false, false, .col (.ints .i64 [z0, z1, z2, z3, z4, z5, z6, z7, z8, z9])⟩)], 1⟩ = bif !record_Is_0 z0 then pr40 else bif (9 != recAr z0) then pr41 else some (.ret (.tup [.agg [vi z0, vi z1, vi z2, vi z3, vi z4], vi 0]) ⟨[], 99⟩ true) := by kernel_rfl
theorem p_run11 (nn : Bool) (c : Option Nat) (z0 z1 z2 z3 z4 z5 z6 z7 z8 z9 z10 : Int) : F_ Try.prog L_rg Try.f17 [] [] 99 [.sl nn 0 1 0 1 11 c] ⟨[(0, some ⟨false, false, .col (.ints .i64 [z0, z1, z2, z3, z4, z5, z6, z7, z8, z9, z10])⟩)], 1⟩ = bif !record_Is_0 z0 then pr40 else bif (10 != recAr z0) then pr41 else some (.ret (.tup [.agg [vi z0, vi z1, vi z2, vi z3, vi z4], vi 0]) ⟨[], 99⟩ true) := by kernel_rfl
theorem p_run12 (nn : Bool) (c : Option Nat) (z0 z1 z2 z3 z4 z5 z6 z7 z8 z9 z10 z11 : Int) : F_ Try.prog L_rg Try.f17 [] [] 99 [.sl nn 0 1 0 1 12 c] ⟨[(0, some ⟨false, false, .col (.ints .i64 [z0, z1, z2, z3, z4, z5, z6, z7, z8, z9, z10, z11])⟩)], 1⟩ = bif !record_Is_0 z0 then pr40 else bif (11 != recAr z0) then pr41 else some (.ret (.tup [.agg [vi z0, vi z1, vi z2, vi z3, vi z4], vi 0]) ⟨[], 99⟩ true) := by kernel_rfl
theorem p_run13 (nn : Bool) (c : Option Nat) (z0 z1 z2 z3 z4 z5 z6 z7 z8 z9 z10 z11 z12 : Int) : F_ Try.prog L_rg Try.f17 [] [] 99 [.sl nn 0 1 0 1 13 c] ⟨[(0, some ⟨false, false, .col (.ints .i64 [z0, z1, z2, z3, z4, z5, z6, z7, z8, z9, z10, z11, z12])⟩)], 1⟩ = bif !record_Is_0 z0 then pr40 else bif (12 != recAr z0) then pr41 else some (.ret (.tup [.agg [vi z0, vi z1, vi z2, vi z3, vi z4], vi 0]) ⟨[], 99⟩ true) := by kernel_rfl
theorem p_run14 (nn : Bool) (c : Option Nat) (z0 z1 z2 z3 z4 z5 z6 z7 z8 z9 z10 z11 z12 z13 : Int) : F_ Try.prog L_rg Try.f17 [] [] 99 [.sl nn 0 1 0 1 14 c] ⟨[(0, some ⟨false, false, .col (.ints .i64 [z0, z1, z2, z3, z4, z5, z6, z7, z8, z9, z10, z11, z12, z13])⟩)], 1⟩ = bif !record_Is_0 z0 then pr40 else bif (13 != recAr z0) then pr41 else some (.ret (.tup [.agg [vi z0, vi z1, vi z2, vi z3, vi z4], vi 0]) ⟨[], 99⟩ true) := by kernel_rfl
theorem p_run15 (nn : Bool) (c : Option Nat) (z0 z1 z2 z3 z4 z5 z6 z7 z8 z9 z10 z11 z12 z13 z14 : Int) : F_ Try.prog L_rg Try.f17 [] [] 99 [.sl nn 0 1 0 1 15 c] ⟨[(0, some ⟨false, false, .col (.ints .i64 [z0, z1, z2, z3, z4, z5, z6, z7, z8, z9, z10, z11, z12, z13, z14])⟩)], 1⟩ = bif !record_Is_0 z0 then pr40 else bif (14 != recAr z0) then pr41 else some (.ret (.tup [.agg [vi z0, vi z1, vi z2, vi z3, vi z4], vi 0]) ⟨[], 99⟩ true) := by kernel_rfl
theorem p_run16 (nn : Bool) (c : Option Nat) (z0 z1 z2 z3 z4 z5 z6 z7 z8 z9 z10 z11 z12 z13 z14 z15 : Int) : F_ Try.prog L_rg Try.f17 [] [] 99 [.sl nn 0 1 0 1 16 c] ⟨[(0, some ⟨false, false, .col (.ints .i64 [z0, z1, z2, z3, z4, z5, z6, z7, z8, z9, z10, z11, z12, z13, z14, z15])⟩)], 1⟩ = bif !record_Is_0 z0 then pr40 else bif (15 != recAr z0) then pr41 else some (.ret (.tup [.agg [vi z0, vi z1, vi z2, vi z3, vi z4], vi 0]) ⟨[], 99⟩ true) := by kernel_rfl
theorem p_run17 (nn : Bool) (c : Option Nat) (z0 z1 z2 z3 z4 z5 z6 z7 z8 z9 z10 z11 z12 z13 z14 z15 z16 : Int) : F_ Try.prog L_rg Try.f17 [] [] 99 [.sl nn 0 1 0 1 17 c] ⟨[(0, some ⟨false, false, .col (.ints .i64 [z0, z1, z2, z3, z4, z5, z6, z7, z8, z9, z10, z11, z12, z13, z14, z15, z16])⟩)], 1⟩ = bif !record_Is_0 z0 then pr40 else bif (16 != recAr z0) then pr41 else some (.ret (.tup [.agg [vi z0, vi z1, vi z2, vi z3, vi z4], vi 0]) ⟨[], 99⟩ true) := by kernel_rfl
theorem p_run18 (nn : Bool) (c : Option Nat) (z0 z1 z2 z3 z4 z5 z6 z7 z8 z9 z10 z11 z12 z13 z14 z15 z16 z17 : Int) : F_ Try.prog L_rg Try.f17 [] [] 99 [.sl nn 0 1 0 1 18 c] ⟨[(0, some ⟨false, false, .col (.ints .i64 [z0, z1, z2, z3, z4, z5, z6, z7, z8, z9, z10, z11, z12, z13, z14, z15, z16, z17])⟩)], 1⟩ = bif !record_Is_0 z0 then pr40 else bif (17 != recAr z0) then pr41 else some (.ret (.tup [.agg [vi z0, vi z1, vi z2, vi z3, vi z4], vi 0]) ⟨[], 99⟩ true) := by kernel_rfl
theorem p_run19 (nn : Bool) (c : Option Nat) (z0 z1 z2 z3 z4 z5 z6 z7 z8 z9 z10 z11 z12 z13 z14 z15 z16 z17 z18 : Int) : F_ Try.prog L_rg Try.f17 [] [] 99 [.sl nn 0 1 0 1 19 c] ⟨[(0, some ⟨false, false, .col (.ints .i64 [z0, z1, z2, z3, z4, z5, z6, z7, z8, z9, z10, z11, z12, z13, z14, z15, z16, z17, z18])⟩)], 1⟩ = bif !record_Is_0 z0 then pr40 else bif (18 != recAr z0) then pr41 else some (.ret (.tup [.agg [vi z0, vi z1, vi z2, vi z3, vi z4], vi 0]) ⟨[], 99⟩ true) := by kernel_rfl
theorem p_run20 (nn : Bool) (c : Option Nat) (z0 z1 z2 z3 z4 z5 z6 z7 z8 z9 z10 z11 z12 z13 z14 z15 z16 z17 z18 z19 : Int) : F_ Try.prog L_rg Try.f17 [] [] 99 [.sl nn 0 1 0 1 20 c] ⟨[(0, some ⟨false, false, .col (.ints .i64 [z0, z1, z2, z3, z4, z5, z6, z7, z8, z9, z10, z11, z12, z13, z14, z15, z16, z17, z18, z19])⟩)], 1⟩ = bif !record_Is_0 z0 then pr40 else bif (19 != recAr z0) then pr41 else some (.ret (.tup [.agg [vi z0, vi z1, vi z2, vi z3, vi z4], vi 0]) ⟨[], 99⟩ true) := by kernel_rfl
theorem p_all (nn : Bool) (c : Option Nat) : ∀ zs : List Int, zs.length ≤ 20 → F_ Try.prog L_rg Try.f17 [] [] 99 [.sl nn 0 1 0 1 zs.length c] ⟨[(0, some ⟨false, false, .col (.ints .i64 zs)⟩)], 1⟩ = prR zs
  | [], _ => by
    have h : F_ Try.prog L_rg Try.f17 [] [] 99 [.sl nn 0 1 0 1 0 c] ⟨[(0, some ⟨false, false, .col (.ints .i64 [])⟩)], 1⟩ = pr40 := by kernel_rfl
    exact h
  | [z0], _ => close_p (r := []) (p_run1 nn c z0) (fun _ => rfl)
  | [z0, z1], _ => close_p (r := [z1]) (p_run2 nn c z0 z1) (fun _ => rfl)
  | [z0, z1, z2], _ => close_p (r := [z1, z2]) (p_run3 nn c z0 z1 z2) (fun _ => rfl)
  | [z0, z1, z2, z3], _ => close_p (r := [z1, z2, z3]) (p_run4 nn c z0 z1 z2 z3) (fun _ => rfl)
  | [z0, z1, z2, z3, z4], _ => close_p (r := [z1, z2, z3, z4]) (p_run5 nn c z0 z1 z2 z3 z4) (fun _ => rfl)
  | [z0, z1, z2, z3, z4, z5], _ => close_p (r := [z1, z2, z3, z4, z5]) (p_run6 nn c z0 z1 z2 z3 z4 z5) (fun h => absurd h (by have := (ar_r z0).2.1; simp; omega))
  | [z0, z1, z2, z3, z4, z5, z6], _ => close_p (r := [z1, z2, z3, z4, z5, z6]) (p_run7 nn c z0 z1 z2 z3 z4 z5 z6) (fun h => absurd h (by have := (ar_r z0).2.1; simp; omega))
  | [z0, z1, z2, z3, z4, z5, z6, z7], _ => close_p (r := [z1, z2, z3, z4, z5, z6, z7]) (p_run8 nn c z0 z1 z2 z3 z4 z5 z6 z7) (fun h => absurd h (by have := (ar_r z0).2.1; simp; omega))
  | [z0, z1, z2, z3, z4, z5, z6, z7, z8], _ => close_p (r := [z1, z2, z3, z4, z5, z6, z7, z8]) (p_run9 nn c z0 z1 z2 z3 z4 z5 z6 z7 z8) (fun h => absurd h (by have := (ar_r z0).2.1; simp; omega))
  | [z0, z1, z2, z3, z4, z5, z6, z7, z8, z9], _ => close_p (r := [z1, z2, z3, z4, z5, z6, z7, z8, z9]) (p_run10 nn c z0 z1 z2 z3 z4 z5 z6 z7 z8 z9) (fun h => absurd h (by have := (ar_r z0).2.1; simp; omega))
  | [z0, z1, z2, z3, z4, z5, z6, z7, z8, z9, z10], _ => close_p (r := [z1, z2, z3, z4, z5, z6, z7, z8, z9, z10]) (p_run11 nn c z0 z1 z2 z3 z4 z5 z6 z7 z8 z9 z10) (fun h => absurd h (by have := (ar_r z0).2.1; simp; omega))
  | [z0, z1, z2, z3, z4, z5, z6, z7, z8, z9, z10, z11], _ => close_p (r := [z1, z2, z3, z4, z5, z6, z7, z8, z9, z10, z11]) (p_run12 nn c z0 z1 z2 z3 z4 z5 z6 z7 z8 z9 z10 z11) (fun h => absurd h (by have := (ar_r z0).2.1; simp; omega))
  | [z0, z1, z2, z3, z4, z5, z6, z7, z8, z9, z10, z11, z12], _ => close_p (r := [z1, z2, z3, z4, z5, z6, z7, z8, z9, z10, z11, z12]) (p_run13 nn c z0 z1 z2 z3 z4 z5 z6 z7 z8 z9 z10 z11 z12) (fun h => absurd h (by have := (ar_r z0).2.1; simp; omega))
  | [z0, z1, z2, z3, z4, z5, z6, z7, z8, z9, z10, z11, z12, z13], _ => close_p (r := [z1, z2, z3, z4, z5, z6, z7, z8, z9, z10, z11, z12, z13]) (p_run14 nn c z0 z1 z2 z3 z4 z5 z6 z7 z8 z9 z10 z11 z12 z13) (fun h => absurd h (by have := (ar_r z0).2.1; simp; omega))
  | [z0, z1, z2, z3, z4, z5, z6, z7, z8, z9, z10, z11, z12, z13, z14], _ => close_p (r := [z1, z2, z3, z4, z5, z6, z7, z8, z9, z10, z11, z12, z13, z14]) (p_run15 nn c z0 z1 z2 z3 z4 z5 z6 z7 z8 z9 z10 z11 z12 z13 z14) (fun h => absurd h (by have := (ar_r z0).2.1; simp; omega))
  | [z0, z1, z2, z3, z4, z5, z6, z7, z8, z9, z10, z11, z12, z13, z14, z15], _ => close_p (r := [z1, z2, z3, z4, z5, z6, z7, z8, z9, z10, z11, z12, z13, z14, z15]) (p_run16 nn c z0 z1 z2 z3 z4 z5 z6 z7 z8 z9 z10 z11 z12 z13 z14 z15) (fun h => absurd h (by have := (ar_r z0).2.1; simp; omega))
  | [z0, z1, z2, z3, z4, z5, z6, z7, z8, z9, z10, z11, z12, z13, z14, z15, z16], _ => close_p (r := [z1, z2, z3, z4, z5, z6, z7, z8, z9, z10, z11, z12, z13, z14, z15, z16]) (p_run17 nn c z0 z1 z2 z3 z4 z5 z6 z7 z8 z9 z10 z11 z12 z13 z14 z15 z16) (fun h => absurd h (by have := (ar_r z0).2.1; simp; omega))
  | [z0, z1, z2, z3, z4, z5, z6, z7, z8, z9, z10, z11, z12, z13, z14, z15, z16, z17], _ => close_p (r := [z1, z2, z3, z4, z5, z6, z7, z8, z9, z10, z11, z12, z13, z14, z15, z16, z17]) (p_run18 nn c z0 z1 z2 z3 z4 z5 z6 z7 z8 z9 z10 z11 z12 z13 z14 z15 z16 z17) (fun h => absurd h (by have := (ar_r z0).2.1; simp; omega))
  | [z0, z1, z2, z3, z4, z5, z6, z7, z8, z9, z10, z11, z12, z13, z14, z15, z16, z17, z18], _ => close_p (r := [z1, z2, z3, z4, z5, z6, z7, z8, z9, z10, z11, z12, z13, z14, z15, z16, z17, z18]) (p_run19 nn c z0 z1 z2 z3 z4 z5 z6 z7 z8 z9 z10 z11 z12 z13 z14 z15 z16 z17 z18) (fun h => absurd h (by have := (ar_r z0).2.1; simp; omega))
  | [z0, z1, z2, z3, z4, z5, z6, z7, z8, z9, z10, z11, z12, z13, z14, z15, z16, z17, z18, z19], _ => close_p (r := [z1, z2, z3, z4, z5, z6, z7, z8, z9, z10, z11, z12, z13, z14, z15, z16, z17, z18, z19]) (p_run20 nn c z0 z1 z2 z3 z4 z5 z6 z7 z8 z9 z10 z11 z12 z13 z14 z15 z16 z17 z18 z19) (fun h => absurd h (by have := (ar_r z0).2.1; simp; omega))
  | z0 :: z1 :: z2 :: z3 :: z4 :: z5 :: z6 :: z7 :: z8 :: z9 :: z10 :: z11 :: z12 :: z13 :: z14 :: z15 :: z16 :: z17 :: z18 :: z19 :: z20 :: r, h => by simp only [List.length_cons] at h; omega
theorem r_run1 (nn : Bool) (c : Option Nat) (z0 : Int) : F_ Try.prog L_rg Try.f18 [] [] 99 [.sl nn 0 1 0 1 1 c] ⟨[(0, some ⟨false, false, .col (.ints .i64 [z0])⟩)], 1⟩ = bif decide (recAr z0 < 0) then pr40 else bif (1 != IntKind.i64.wrap (1 + recAr z0)) then pr41 else some (.ret (.tup [.agg [vi z0, vi 0, vi 0, vi 0, vi 0], vi 0]) ⟨[], 99⟩ true) := by kernel_rfl
theorem r_run2 (nn : Bool) (c : Option Nat) (z0 z1 : Int) : F_ Try.prog L_rg Try.f18 [] [] 99 [.sl nn 0 1 0 1 2 c] ⟨[(0, some ⟨false, false, .col (.ints .i64 [z0, z1])⟩)], 1⟩ = bif decide (recAr z0 < 0) then pr40 else bif (2 != IntKind.i64.wrap (1 + recAr z0)) then pr41 else some (.ret (.tup [.agg [vi z0, vi z1, vi 0, vi 0, vi 0], vi 0]) ⟨[], 99⟩ true) := by kernel_rfl
theorem r_run3 (nn : Bool) (c : Option Nat) (z0 z1 z2 : Int) : F_ Try.prog L_rg Try.f18 [] [] 99 [.sl nn 0 1 0 1 3 c] ⟨[(0, some ⟨false, false, .col (.ints .i64 [z0, z1, z2])⟩)], 1⟩ = bif decide (recAr z0 < 0) then pr40 else bif (3 != IntKind.i64.wrap (1 + recAr z0)) then pr41 else some (.ret (.tup [.agg [vi z0, vi z1, vi z2, vi 0, vi 0], vi 0]) ⟨[], 99⟩ true) := by kernel_rfl
theorem r_run4 (nn : Bool) (c : Option Nat) (z0 z1 z2 z3 : Int) : F_ Try.prog L_rg Try.f18 [] [] 99 [.sl nn 0 1 0 1 4 c] ⟨[(0, some ⟨false, false, .col (.ints .i64 [z0, z1, z2, z3])⟩)], 1⟩ = bif decide (recAr z0 < 0) then pr40 else bif (4 != IntKind.i64.wrap (1 + recAr z0)) then pr41 else some (.ret (.tup [.agg [vi z0, vi z1, vi z2, vi z3, vi 0], vi 0]) ⟨[], 99⟩ true) := by kernel_rfl
theorem r_run5 (nn : Bool) (c : Option Nat) (z0 z1 z2 z3 z4 : Int) : F_ Try.prog L_rg Try.f18 [] [] 99 [.sl nn 0 1 0 1 5 c] ⟨[(0, some ⟨false, false, .col (.ints .i64 [z0, z1, z2, z3, z4])⟩)], 1⟩ = bif decide (recAr z0 < 0) then pr40 else bif (5 != IntKind.i64.wrap (1 + recAr z0)) then pr41 else some (.ret (.tup [.agg [vi z0, vi z1, vi z2, vi z3, vi z4], vi 0]) ⟨[], 99⟩ true) := by kernel_rfl
theorem r_run6 (nn : Bool) (c : Option Nat) (z0 z1 z2 z3 z4 z5 : Int) : F_ Try.prog L_rg Try.f18 [] [] 99 [.sl nn 0 1 0 1 6 c] ⟨[(0, some ⟨false, false, .col (.ints .i64 [z0, z1, z2, z3, z4, z5])⟩)], 1⟩ = bif decide (recAr z0 < 0) then pr40 else bif (6 != IntKind.i64.wrap (1 + recAr z0)) then pr41 else none := by kernel_rfl
theorem r_run7 (nn : Bool) (c : Option Nat) (z0 z1 z2 z3 z4 z5 z6 : Int) : F_ Try.prog L_rg Try.f18 [] [] 99 [.sl nn 0 1 0 1 7 c] ⟨[(0, some ⟨false, false, .col (.ints .i64 [z0, z1, z2, z3, z4, z5, z6])⟩)], 1⟩ = bif decide (recAr z0 < 0) then pr40 else bif (7 != IntKind.i64.wrap (1 + recAr z0)) then pr41 else none := by kernel_rfl
theorem r_run8 (nn : Bool) (c : Option Nat) (z0 z1 z2 z3 z4 z5 z6 z7 : Int) : F_ Try.prog L_rg Try.f18 [] [] 99 [.sl nn 0 1 0 1 8 c] ⟨[(0, some ⟨false, false, .col (.ints .i64 [z0, z1, z2, z3, z4, z5, z6, z7])⟩)], 1⟩ = bif decide (recAr z0 < 0) then pr40 else bif (8 != IntKind.i64.wrap (1 + recAr z0)) then pr41 else none := by kernel_rfl
theorem r_run9 (nn : Bool) (c : Option Nat) (z0 z1 z2 z3 z4 z5 z6 z7 z8 : Int) : F_ Try.prog L_rg Try.f18 [] [] 99 [.sl nn 0 1 0 1 9 c] ⟨[(0, some ⟨false, false, .col (.ints .i64 [z0, z1, z2, z3, z4, z5, z6, z7, z8])⟩)], 1⟩ = bif decide (recAr z0 < 0) then pr40 else bif (9 != IntKind.i64.wrap (1 + recAr z0)) then pr41 else none := by kernel_rfl
theorem r_run10 (nn : Bool) (c : Option Nat) (z0 z1 z2 z3 z4 z5 z6 z7 z8 z9 : Int) : F_ Try.prog L_rg Try.f18 [] [] 99 [.sl nn 0 1 0 1 10 c] ⟨[(0, some ⟨false, false, .col (.ints .i64 [z0, z1, z2, z3, z4, z5, z6, z7, z8, z9])⟩)], 1⟩ = bif decide (recAr z0 < 0) then pr40 else bif (10 != IntKind.i64.wrap (1 + recAr z0)) then pr41 else none := by kernel_rfl
theorem r_run11 (nn : Bool) (c : Option Nat) (z0 z1 z2 z3 z4 z5 z6 z7 z8 z9 z10 : Int) : F_ Try.prog L_rg Try.f18 [] [] 99 [.sl nn 0 1 0 1 11 c] ⟨[(0, some ⟨false, false, .col (.ints .i64 [z0, z1, z2, z3, z4, z5, z6, z7, z8, z9, z10])⟩)], 1⟩ = bif decide (recAr z0 < 0) then pr40 else bif (11 != IntKind.i64.wrap (1 + recAr z0)) then pr41 else none := by kernel_rfl
theorem r_run12 (nn : Bool) (c : Option Nat) (z0 z1 z2 z3 z4 z5 z6 z7 z8 z9 z10 z11 : Int) : F_ Try.prog L_rg Try.f18 [] [] 99 [.sl nn 0 1 0 1 12 c] ⟨[(0, some ⟨false, false, .col (.ints .i64 [z0, z1, z2, z3, z4, z5, z6, z7, z8, z9, z10, z11])⟩)], 1⟩ = bif decide (recAr z0 < 0) then pr40 else bif (12 != IntKind.i64.wrap (1 + recAr z0)) then pr41 else none := by kernel_rfl
theorem r_run13 (nn : Bool) (c : Option Nat) (z0 z1 z2 z3 z4 z5 z6 z7 z8 z9 z10 z11 z12 : Int) : F_ Try.prog L_rg Try.f18 [] [] 99 [.sl nn 0 1 0 1 13 c] ⟨[(0, some ⟨false, false, .col (.ints .i64 [z0, z1, z2, z3, z4, z5, z6, z7, z8, z9, z10, z11, z12])⟩)], 1⟩ = bif decide (recAr z0 < 0) then pr40 else bif (13 != IntKind.i64.wrap (1 + recAr z0)) then pr41 else none := by kernel_rfl
theorem r_run14 (nn : Bool) (c : Option Nat) (z0 z1 z2 z3 z4 z5 z6 z7 z8 z9 z10 z11 z12 z13 : Int) : F_ Try.prog L_rg Try.f18 [] [] 99 [.sl nn 0 1 0 1 14 c] ⟨[(0, some ⟨false, false, .col (.ints .i64 [z0, z1, z2, z3, z4, z5, z6, z7, z8, z9, z10, z11, z12, z13])⟩)], 1⟩ = bif decide (recAr z0 < 0) then pr40 else bif (14 != IntKind.i64.wrap (1 + recAr z0)) then pr41 else none := by kernel_rfl
theorem r_run15 (nn : Bool) (c : Option Nat) (z0 z1 z2 z3 z4 z5 z6 z7 z8 z9 z10 z11 z12 z13 z14 : Int) : F_ Try.prog L_rg Try.f18 [] [] 99 [.sl nn 0 1 0 1 15 c] ⟨[(0, some ⟨false, false, .col (.ints .i64 [z0, z1, z2, z3, z4, z5, z6, z7, z8, z9, z10, z11, z12, z13, z14])⟩)], 1⟩ = bif decide (recAr z0 < 0) then pr40 else bif (15 != IntKind.i64.wrap (1 + recAr z0)) then pr41 else none := by kernel_rfl
theorem r_run16 (nn : Bool) (c : Option Nat) (z0 z1 z2 z3 z4 z5 z6 z7 z8 z9 z10 z11 z12 z13 z14 z15 : Int) : F_ Try.prog L_rg Try.f18 [] [] 99 [.sl nn 0 1 0 1 16 c] ⟨[(0, some ⟨false, false, .col (.ints .i64 [z0, z1, z2, z3, z4, z5, z6, z7, z8, z9, z10, z11, z12, z13, z14, z15])⟩)], 1⟩ = bif decide (recAr z0 < 0) then pr40 else bif (16 != IntKind.i64.wrap (1 + recAr z0)) then pr41 else none := by kernel_rfl
theorem r_run17 (nn : Bool) (c : Option Nat) (z0 z1 z2 z3 z4 z5 z6 z7 z8 z9 z10 z11 z12 z13 z14 z15 z16 : Int) : F_ Try.prog L_rg Try.f18 [] [] 99 [.sl nn 0 1 0 1 17 c] ⟨[(0, some ⟨false, false, .col (.ints .i64 [z0, z1, z2, z3, z4, z5, z6, z7, z8, z9, z10, z11, z12, z13, z14, z15, z16])⟩)], 1⟩ = bif decide (recAr z0 < 0) then pr40 else bif (17 != IntKind.i64.wrap (1 + recAr z0)) then pr41 else none := by kernel_rfl
theorem r_run18 (nn : Bool) (c : Option Nat) (z0 z1 z2 z3 z4 z5 z6 z7 z8 z9 z10 z11 z12 z13 z14 z15 z16 z17 : Int) : F_ Try.prog L_rg Try.f18 [] [] 99 [.sl nn 0 1 0 1 18 c] ⟨[(0, some ⟨false, false, .col (.ints .i64 [z0, z1, z2, z3, z4, z5, z6, z7, z8, z9, z10, z11, z12, z13, z14, z15, z16, z17])⟩)], 1⟩ = bif decide (recAr z0 < 0) then pr40 else bif (18 != IntKind.i64.wrap (1 + recAr z0)) then pr41 else none := by kernel_rfl
theorem r_run19 (nn : Bool) (c : Option Nat) (z0 z1 z2 z3 z4 z5 z6 z7 z8 z9 z10 z11 z12 z13 z14 z15 z16 z17 z18 : Int) : F_ Try.prog L_rg Try.f18 [] [] 99 [.sl nn 0 1 0 1 19 c] ⟨[(0, some ⟨false, false, .col (.ints .i64 [z0, z1, z2, z3, z4, z5, z6, z7, z8, z9, z10, z11, z12, z13, z14, z15, z16, z17, z18])⟩)], 1⟩ = bif decide (recAr z0 < 0) then pr40 else bif (19 != IntKind.i64.wrap (1 + recAr z0)) then pr41 else none := by kernel_rfl
theorem r_run20 (nn : Bool) (c : Option Nat) (z0 z1 z2 z3 z4 z5 z6 z7 z8 z9 z10 z11 z12 z13 z14 z15 z16 z17 z18 z19 : Int) : F_ Try.prog L_rg Try.f18 [] [] 99 [.sl nn 0 1 0 1 20 c] ⟨[(0, some ⟨false, false, .col (.ints .i64 [z0, z1, z2, z3, z4, z5, z6, z7, z8, z9, z10, z11, z12, z13, z14, z15, z16, z17, z18, z19])⟩)], 1⟩ = bif decide (recAr z0 < 0) then pr40 else bif (20 != IntKind.i64.wrap (1 + recAr z0)) then pr41 else none := by kernel_rfl
theorem r_all (nn : Bool) (c : Option Nat) : ∀ zs : List Int, zs.length ≤ 20 → F_ Try.prog L_rg Try.f18 [] [] 99 [.sl nn 0 1 0 1 zs.length c] ⟨[(0, some ⟨false, false, .col (.ints .i64 zs)⟩)], 1⟩ = prR zs
  | [], _ => by
    have h : F_ Try.prog L_rg Try.f18 [] [] 99 [.sl nn 0 1 0 1 0 c] ⟨[(0, some ⟨false, false, .col (.ints .i64 [])⟩)], 1⟩ = pr40 := by kernel_rfl
    exact h
  | [z0], _ => close_r (r := []) (r_run1 nn c z0) (fun _ => rfl)
  | [z0, z1], _ => close_r (r := [z1]) (r_run2 nn c z0 z1) (fun _ => rfl)
  | [z0, z1, z2], _ => close_r (r := [z1, z2]) (r_run3 nn c z0 z1 z2) (fun _ => rfl)
  | [z0, z1, z2, z3], _ => close_r (r := [z1, z2, z3]) (r_run4 nn c z0 z1 z2 z3) (fun _ => rfl)
  | [z0, z1, z2, z3, z4], _ => close_r (r := [z1, z2, z3, z4]) (r_run5 nn c z0 z1 z2 z3 z4) (fun _ => rfl)
  | [z0, z1, z2, z3, z4, z5], _ => close_r (r := [z1, z2, z3, z4, z5]) (r_run6 nn c z0 z1 z2 z3 z4 z5) (fun h => absurd h (by have := (ar_r z0).2.1; simp; omega))
  | [z0, z1, z2, z3, z4, z5, z6], _ => close_r (r := [z1, z2, z3, z4, z5, z6]) (r_run7 nn c z0 z1 z2 z3 z4 z5 z6) (fun h => absurd h (by have := (ar_r z0).2.1; simp; omega))
  | [z0, z1, z2, z3, z4, z5, z6, z7], _ => close_r (r := [z1, z2, z3, z4, z5, z6, z7]) (r_run8 nn c z0 z1 z2 z3 z4 z5 z6 z7) (fun h => absurd h (by have := (ar_r z0).2.1; simp; omega))
  | [z0, z1, z2, z3, z4, z5, z6, z7, z8], _ => close_r (r := [z1, z2, z3, z4, z5, z6, z7, z8]) (r_run9 nn c z0 z1 z2 z3 z4 z5 z6 z7 z8) (fun h => absurd h (by have := (ar_r z0).2.1; simp; omega))
  | [z0, z1, z2, z3, z4, z5, z6, z7, z8, z9], _ => close_r (r := [z1, z2, z3, z4, z5, z6, z7, z8, z9]) (r_run10 nn c z0 z1 z2 z3 z4 z5 z6 z7 z8 z9) (fun h => absurd h (by have := (ar_r z0).2.1; simp; omega))
  | [z0, z1, z2, z3, z4, z5, z6, z7, z8, z9, z10], _ => close_r (r := [z1, z2, z3, z4, z5, z6, z7, z8, z9, z10]) (r_run11 nn c z0 z1 z2 z3 z4 z5 z6 z7 z8 z9 z10) (fun h => absurd h (by have := (ar_r z0).2.1; simp; omega))
  | [z0, z1, z2, z3, z4, z5, z6, z7, z8, z9, z10, z11], _ => close_r (r := [z1, z2, z3, z4, z5, z6, z7, z8, z9, z10, z11]) (r_run12 nn c z0 z1 z2 z3 z4 z5 z6 z7 z8 z9 z10 z11) (fun h => absurd h (by have := (ar_r z0).2.1; simp; omega))
  | [z0, z1, z2, z3, z4, z5, z6, z7, z8, z9, z10, z11, z12], _ => close_r (r := [z1, z2, z3, z4, z5, z6, z7, z8, z9, z10, z11, z12]) (r_run13 nn c z0 z1 z2 z3 z4 z5 z6 z7 z8 z9 z10 z11 z12) (fun h => absurd h (by have := (ar_r z0).2.1; simp; omega))
  | [z0, z1, z2, z3, z4, z5, z6, z7, z8, z9, z10, z11, z12, z13], _ => close_r (r := [z1, z2, z3, z4, z5, z6, z7, z8, z9, z10, z11, z12, z13]) (r_run14 nn c z0 z1 z2 z3 z4 z5 z6 z7 z8 z9 z10 z11 z12 z13) (fun h => absurd h (by have := (ar_r z0).2.1; simp; omega))
  | [z0, z1, z2, z3, z4, z5, z6, z7, z8, z9, z10, z11, z12, z13, z14], _ => close_r (r := [z1, z2, z3, z4, z5, z6, z7, z8, z9, z10, z11, z12, z13, z14]) (r_run15 nn c z0 z1 z2 z3 z4 z5 z6 z7 z8 z9 z10 z11 z12 z13 z14) (fun h => absurd h (by have := (ar_r z0).2.1; simp; omega))
  | [z0, z1, z2, z3, z4, z5, z6, z7, z8, z9, z10, z11, z12, z13, z14, z15], _ => close_r (r := [z1, z2, z3, z4, z5, z6, z7, z8, z9, z10, z11, z12, z13, z14, z15]) (r_run16 nn c z0 z1 z2 z3 z4 z5 z6 z7 z8 z9 z10 z11 z12 z13 z14 z15) (fun h => absurd h (by have := (ar_r z0).2.1; simp; omega))
  | [z0, z1, z2, z3, z4, z5, z6, z7, z8, z9, z10, z11, z12, z13, z14, z15, z16], _ => close_r (r := [z1, z2, z3, z4, z5, z6, z7, z8, z9, z10, z11, z12, z13, z14, z15, z16]) (r_run17 nn c z0 z1 z2 z3 z4 z5 z6 z7 z8 z9 z10 z11 z12 z13 z14 z15 z16) (fun h => absurd h (by have := (ar_r z0).2.1; simp; omega))
  | [z0, z1, z2, z3, z4, z5, z6, z7, z8, z9, z10, z11, z12, z13, z14, z15, z16, z17], _ => close_r (r := [z1, z2, z3, z4, z5, z6, z7, z8, z9, z10, z11, z12, z13, z14, z15, z16, z17]) (r_run18 nn c z0 z1 z2 z3 z4 z5 z6 z7 z8 z9 z10 z11 z12 z13 z14 z15 z16 z17) (fun h => absurd h (by have := (ar_r z0).2.1; simp; omega))
  | [z0, z1, z2, z3, z4, z5, z6, z7, z8, z9, z10, z11, z12, z13, z14, z15, z16, z17, z18], _ => close_r (r := [z1, z2, z3, z4, z5, z6, z7, z8, z9, z10, z11, z12, z13, z14, z15, z16, z17, z18]) (r_run19 nn c z0 z1 z2 z3 z4 z5 z6 z7 z8 z9 z10 z11 z12 z13 z14 z15 z16 z17 z18) (fun h => absurd h (by have := (ar_r z0).2.1; simp; omega))
  | [z0, z1, z2, z3, z4, z5, z6, z7, z8, z9, z10, z11, z12, z13, z14, z15, z16, z17, z18, z19], _ => close_r (r := [z1, z2, z3, z4, z5, z6, z7, z8, z9, z10, z11, z12, z13, z14, z15, z16, z17, z18, z19]) (r_run20 nn c z0 z1 z2 z3 z4 z5 z6 z7 z8 z9 z10 z11 z12 z13 z14 z15 z16 z17 z18 z19) (fun h => absurd h (by have := (ar_r z0).2.1; simp; omega))
  | z0 :: z1 :: z2 :: z3 :: z4 :: z5 :: z6 :: z7 :: z8 :: z9 :: z10 :: z11 :: z12 :: z13 :: z14 :: z15 :: z16 :: z17 :: z18 :: z19 :: z20 :: r, h => by simp only [List.length_cons] at h; omega
def e_prs : Spec := fun m args => match args with
  | [.sl nn l 1 0 1 n c] => match look m.bl l with
    | some ⟨_, _, .col (.ints .i64 zs)⟩ => some (.tup [.agg [vi (prA zs 0), vi (prA zs 1), vi (prA zs 2), vi (prA zs 3), vi (prA zs 4)], vi (prE zs)], none, [Nat.beq n zs.length, Nat.ble n 20])
    | _ => none
  | _ => none
theorem ok_prs (f : FuncId) (fn : Func) (c : Code) (hc : ∀ xs w, (callFunc f xs).run Try.prog w = .ok (.enter f xs) w) (hf : Try.prog.funcs[f]? = some fn) (hb : fn.body = some c)
    (h : ∀ (nn : Bool) (c : Option Nat) (zs : List Int), zs.length ≤ 20 → F_ Try.prog L_rg fn [] [] 99 [.sl nn 0 1 0 1 zs.length c] ⟨[(0, some ⟨false, false, .col (.ints .i64 zs)⟩)], 1⟩ = prR zs) : SpecOk Try.prog f e_prs := fun m args v mo bs he hbs => by
  unfold e_prs at he
  split at he
  · rename_i nn l n cap
    split at he
    · rename_i wr op zs hl
      cases he
      simp only [List.all_cons, List.all_nil, id, Bool.and_eq_true, Bool.and_true] at hbs
      have hn := Nat.eq_of_beq_eq_true hbs.1
      have hle := Nat.le_of_ble_eq_true hbs.2
      subst hn
      exact lift_one (ar := []) (br := []) hl rfl (fsound hc hf hb (F_ret hE_rg mixed rfl hb (h nn cap zs hle))) rfl rfl rfl rfl
    · cases he
  · cases he
end Go.Proofs.Ytpmcflidggofkaa
