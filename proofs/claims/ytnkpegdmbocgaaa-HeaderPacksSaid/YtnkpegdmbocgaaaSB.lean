/-
  Shapes: the sum of many, and the plain laws.
-/
import Derived.IntWalk
import Derived.Test.YtnkpegdmbocgaaaSA
import Derived.Test.YtnkpegdmbocgaaaEx13
namespace Go.Proofs.Ytnkpegdmbocgaaa
open Go Go.RowKit
theorem wr (x : Int) (h : -9223372036854775808 ≤ x) (h' : x ≤ 9223372036854775807) : IntKind.i64.wrap x = x := IntWalk.i64_in x ⟨h, h'⟩
/-- Numbers added one by one. -/
def totF (f : Nat → Int) : Nat → Nat → Int → Int
  | _, 0, z => z
  | i, j + 1, z => totF f (i + 1) j (IntKind.i64.wrap (z + f i))
def shB (ps rs : List Int) : ABlk := ⟨false, false, .rows [.ints .i64 ps, .ints .i64 rs]⟩
def sumC : List Cut := [(2, [0, 5, 8, 9, 10], [0], 1)]
def sumTm (small z i : Int) (n c : Nat) : List AV := [vi small, .unk, .unk, .unk, .unk, vi z, .unk, .unk, .sl false 0 2 0 1 n (some c), vi n, vi i] ++ List.replicate 10 .unk
def inS (i : Int) (n : Nat) (ps rs : List Int) : Bool := bif decide (0 ≤ i) then bif decide (i.toNat < n) then bif decide (i.toNat < ps.length) then bif decide (i.toNat < rs.length) then true else false else false else false else false
theorem sum_in (small : Int) (n c : Nat) (ps rs : List Int) : F_ Try.prog L_haymowlaw13_awake Try.f40 sumC [] 99 [vi small, .sl false 0 2 0 1 n (some c)] ⟨[(0, some (shB ps rs))], 1⟩ =
    some (Fin_.head (hd Try.f40 0) (sumTm small 0 0 n c) ⟨[(0, some (shB ps rs))], 1⟩ true) := by kernel_rfl
theorem sum_round (small z i : Int) (n c : Nat) (ps rs : List Int) : H_ Try.prog L_haymowlaw13_awake Try.f40 sumC [] 99 (hd Try.f40 0) (sumTm small z i n c) ⟨[(0, some (shB ps rs))], 1⟩ =
    bif decide (i < n) then some (Fin_.head (hd Try.f40 0) (sumTm small (IntKind.i64.wrap (z + shape_Charge_0 (ps.getD i.toNat 0) (rs.getD i.toNat 0) small)) (IntKind.i64.wrap (i + 1)) n c) ⟨[(0, some (shB ps rs))], 1⟩ (inS i n ps rs))
    else some (Fin_.ret (vi z) ⟨[], 99⟩ true) := by kernel_rfl
theorem inS_ok {i n : Nat} {ps rs : List Int} (h : i < n) (h1 : n ≤ ps.length) (h2 : n ≤ rs.length) : inS (i : Int) n ps rs = true := by
  unfold inS
  simp only [Int.toNat_natCast]
  rw [decide_eq_true (show (0 : Int) ≤ i by omega), decide_eq_true h, decide_eq_true (show i < ps.length by omega), decide_eq_true (show i < rs.length by omega)]
  rfl
theorem sum_loop (small : Int) (n c : Nat) (hn : n ≤ 9223372036854775807) (ps rs : List Int) (h1 : n ≤ ps.length) (h2 : n ≤ rs.length) : ∀ (j i : Nat) (z : Int), i + j = n →
    Gives_ Try.prog Try.f40 1 ⟨hd Try.f40 0, sumTm small z i n c, ⟨[(0, some (shB ps rs))], 1⟩⟩ (vi (totF (fun k => shape_Charge_0 (ps.getD k 0) (rs.getD k 0) small) i j z)) ⟨[], 99⟩
  | 0, i, z, hi => by
    refine H_ret (cuts := sumC) (ns := []) (top := 99) hE_haymowlaw13_awake mixed rfl ?_
    rw [sum_round, decide_eq_false (show ¬ ((i : Int) < (n : Int)) by omega)]
    rfl
  | j + 1, i, z, hi => by
    refine Goes.gives (H_head (f := Try.f40) (cuts := sumC) (ns := []) (top := 99) hE_haymowlaw13_awake mixed rfl ?_) (sum_loop small n c hn ps rs h1 h2 j (i + 1) _ (by omega))
    rw [sum_round, decide_eq_true (show (i : Int) < (n : Int) by omega), inS_ok (by omega) h1 h2, show IntKind.i64.wrap ((i : Int) + 1) = ((i + 1 : Nat) : Int) by rw [wr _ (by omega) (by omega)]; omega]
    simp only [Int.toNat_natCast, cond_true]
theorem sum_all (small : Int) (n c : Nat) (hn : n ≤ 9223372036854775807) (ps rs : List Int) (h1 : n ≤ ps.length) (h2 : n ≤ rs.length) :
    FSound Try.prog 40 ⟨[(0, some (shB ps rs))], 1⟩ [vi small, .sl false 0 2 0 1 n (some c)] (vi (totF (fun k => shape_Charge_0 (ps.getD k 0) (rs.getD k 0) small) 0 n 0)) ⟨[], 99⟩ :=
  fsound (c := bodyOf Try.f40) (fun xs w => Try.call40 xs w) Try.func40 rfl
    (Goes.gives (F_head (f := Try.f40) (c := bodyOf Try.f40) (cuts := sumC) (ns := []) (top := 99) hE_haymowlaw13_awake mixed rfl rfl (sum_in small n c ps rs)) (sum_loop small n c hn ps rs h1 h2 n 0 0 (by omega)))
def e_sum : Spec := fun m args => match args with
  | [.val (.int .i64 small), .sl false l 2 0 1 n (some c)] => match look m.bl l with
    | some ⟨_, _, .rows [.ints .i64 ps, .ints .i64 rs]⟩ => some (vi (totF (fun k => shape_Charge_0 (ps.getD k 0) (rs.getD k 0) small) 0 n 0), none, [decide (n ≤ 9223372036854775807), decide (n ≤ ps.length), decide (n ≤ rs.length)])
    | _ => none
  | _ => none
theorem ok_sum : SpecOk Try.prog 40 e_sum := fun m args v mo bs h hb => by
  unfold e_sum at h
  split at h
  · rename_i small l n c
    split at h
    · rename_i wr op ps rs hl
      cases h
      simp only [List.all_cons, List.all_nil, id, Bool.and_eq_true, decide_eq_true_eq] at hb
      exact lift_one (ar := [vi small]) (br := []) hl rfl (sum_all small n c hb.1 ps rs hb.2.1 hb.2.2.1) rfl rfl rfl rfl
    · cases h
  · cases h
def L_sum : List (FuncId × Spec) := (40, e_sum) :: L_haymowlaw13_awake
theorem hE_sum : ESound Try.prog (envOf L_sum) := env_cons ok_sum hE_haymowlaw13_awake
theorem within_eq (n m : Int) : header_within_0 n m = decide (0 ≤ n ∧ n ≤ m) := by
  unfold header_within_0
  rw [Bool.eq_iff_iff]
  simp [Bool.cond_eq_ite]
theorem right13 (p r : Int) : shape_Right_0 p r = haymowref13_Right_0 p r := by
  unfold shape_Right_0 header_Check_0 haymowref13_Right_0
  simp only [within_eq]
  rw [Bool.eq_iff_iff]
  by_cases a : 0 ≤ p ∧ p ≤ 4095 <;> by_cases b : 0 ≤ r ∧ r ≤ 4095 <;> simp [a, b, Bool.cond_eq_ite] <;> omega
theorem words13 (p r : Int) : shape_Words_0 p r = haymowref13_Words_0 p r := by
  unfold shape_Words_0 header_Words_0 haymowref13_Words_0
  rw [right13]
theorem charge13 (p r small : Int) : shape_Charge_0 p r small = haymowref13_Charge_0 p r small := by
  unfold shape_Charge_0 shape_Large_0 haymowref13_Charge_0
  rw [words13]
end Go.Proofs.Ytnkpegdmbocgaaa
