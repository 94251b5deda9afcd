/-
  What functions hand back, reckoned from their text.
-/
import Derived.Test.YtanfjgkohhlcoaaProg
import Derived.Test.YtanfjgkohhlcoaaCarry
namespace Go.Proofs.Ytanfjgkohhlcoaa
open Go Go.RowKit
def s_wide_Of (n_ : Int) : AV := AV.agg [AV.val (Value.int IntKind.u64 0), AV.val (Value.int IntKind.u64 n_)]
theorem t_wide_Of (n_ : Int) : F_ Try.prog L_carry Try.f34 [] [] 99 [AV.val (Value.int IntKind.u64 n_)] noMem = some (.ret (s_wide_Of n_) { bl := [], nx := 99 } true) := by kernel_rfl
def e_wide_Of : Spec := fun _ args => match args with
  | [.val (.int .u64 n_)] => some (s_wide_Of n_, none, [])
  | _ => none
theorem ok_wide_Of : SpecOk Try.prog 34 e_wide_Of := fun m args v mo bs h hb => by
  unfold e_wide_Of at h
  split at h
  · cases h
    exact pure_fn (c := bodyOf Try.f34) hE_carry mixed (fun xs w => Try.call34 xs w) Try.func34 rfl (t_wide_Of _) rfl rfl
  · cases h
def L_wide_Of : List (FuncId × Spec) := (34, e_wide_Of) :: L_carry
theorem hE_wide_Of : ESound Try.prog (envOf L_wide_Of) := env_cons ok_wide_Of hE_carry
def s_wide_Most : AV := AV.agg [AV.val (Value.int IntKind.u64 18446744073709551615), AV.val (Value.int IntKind.u64 18446744073709551615)]
theorem t_wide_Most : F_ Try.prog L_wide_Of Try.f32 [] [] 99 [] noMem = some (.ret (s_wide_Most) { bl := [], nx := 99 } true) := by kernel_rfl
def e_wide_Most : Spec := fun _ args => match args with
  | [] => some (s_wide_Most , none, [])
  | _ => none
theorem ok_wide_Most : SpecOk Try.prog 32 e_wide_Most := fun m args v mo bs h hb => by
  unfold e_wide_Most at h
  split at h
  · cases h
    exact pure_fn (c := bodyOf Try.f32) hE_wide_Of mixed (fun xs w => Try.call32 xs w) Try.func32 rfl (t_wide_Most) rfl rfl
  · cases h
def L_wide_Most : List (FuncId × Spec) := (32, e_wide_Most) :: L_wide_Of
theorem hE_wide_Most : ESound Try.prog (envOf L_wide_Most) := env_cons ok_wide_Most hE_wide_Of
def wide_Cmp_0 (a_0 : Int) (a_1 : Int) (b_0 : Int) (b_1 : Int) : Int := bif a_0 == b_0 && (a_1 == b_1 && true) then 0 else bif bif decide (a_0 < b_0) then true else bif a_0 == b_0 then decide (a_1 < b_1) else false then -1 else 1
def s_wide_Cmp (a_0 : Int) (a_1 : Int) (b_0 : Int) (b_1 : Int) : AV := AV.val (Value.int IntKind.i64 (wide_Cmp_0 a_0 a_1 b_0 b_1))
theorem t_wide_Cmp (a_0 : Int) (a_1 : Int) (b_0 : Int) (b_1 : Int) : F_ Try.prog L_wide_Most Try.f30 [] [] 99 [AV.agg [AV.val (Value.int IntKind.u64 a_0), AV.val (Value.int IntKind.u64 a_1)], AV.agg [AV.val (Value.int IntKind.u64 b_0), AV.val (Value.int IntKind.u64 b_1)]] noMem = some (.ret (s_wide_Cmp a_0 a_1 b_0 b_1) { bl := [], nx := 99 } true) := by
  have h : F_ Try.prog L_wide_Most Try.f30 [] [] 99 [AV.agg [AV.val (Value.int IntKind.u64 a_0), AV.val (Value.int IntKind.u64 a_1)], AV.agg [AV.val (Value.int IntKind.u64 b_0), AV.val (Value.int IntKind.u64 b_1)]] noMem = bif a_0 == b_0 && (a_1 == b_1 && true) then some (Fin_.ret (AV.val (Value.int IntKind.i64 0)) { bl := [], nx := 99 } true) else bif bif decide (a_0 < b_0) then true else bif a_0 == b_0 then decide (a_1 < b_1) else false then some (Fin_.ret (AV.val (Value.int IntKind.i64 (-1))) { bl := [], nx := 99 } true) else some (Fin_.ret (AV.val (Value.int IntKind.i64 1)) { bl := [], nx := 99 } true) := by kernel_rfl
  rw [h]
  clear h
  unfold s_wide_Cmp wide_Cmp_0
  generalize (bif decide (a_0 < b_0) then true else bif a_0 == b_0 then decide (a_1 < b_1) else false) = b0_
  generalize (a_0 == b_0 && (a_1 == b_1 && true)) = b1_
  cases b1_
  ·
    cases b0_
    ·
      rfl
    ·
      rfl
  ·
    rfl
def e_wide_Cmp : Spec := fun _ args => match args with
  | [.agg [.val (.int .u64 a_0), .val (.int .u64 a_1)], .agg [.val (.int .u64 b_0), .val (.int .u64 b_1)]] => some (s_wide_Cmp a_0 a_1 b_0 b_1, none, [])
  | _ => none
theorem ok_wide_Cmp : SpecOk Try.prog 30 e_wide_Cmp := fun m args v mo bs h hb => by
  unfold e_wide_Cmp at h
  split at h
  · cases h
    exact pure_fn (c := bodyOf Try.f30) hE_wide_Most mixed (fun xs w => Try.call30 xs w) Try.func30 rfl (t_wide_Cmp _ _ _ _) rfl rfl
  · cases h
def L_wide_Cmp : List (FuncId × Spec) := (30, e_wide_Cmp) :: L_wide_Most
theorem hE_wide_Cmp : ESound Try.prog (envOf L_wide_Cmp) := env_cons ok_wide_Cmp hE_wide_Most
def wide_Less_0 (a_0 : Int) (a_1 : Int) (b_0 : Int) (b_1 : Int) : Bool := decide (wide_Cmp_0 a_0 a_1 b_0 b_1 < 0)
def s_wide_Less (a_0 : Int) (a_1 : Int) (b_0 : Int) (b_1 : Int) : AV := AV.val (Value.bool (wide_Less_0 a_0 a_1 b_0 b_1))
theorem t_wide_Less (a_0 : Int) (a_1 : Int) (b_0 : Int) (b_1 : Int) : F_ Try.prog L_wide_Cmp Try.f31 [] [] 99 [AV.agg [AV.val (Value.int IntKind.u64 a_0), AV.val (Value.int IntKind.u64 a_1)], AV.agg [AV.val (Value.int IntKind.u64 b_0), AV.val (Value.int IntKind.u64 b_1)]] noMem = some (.ret (s_wide_Less a_0 a_1 b_0 b_1) { bl := [], nx := 99 } true) := by kernel_rfl
def e_wide_Less : Spec := fun _ args => match args with
  | [.agg [.val (.int .u64 a_0), .val (.int .u64 a_1)], .agg [.val (.int .u64 b_0), .val (.int .u64 b_1)]] => some (s_wide_Less a_0 a_1 b_0 b_1, none, [])
  | _ => none
theorem ok_wide_Less : SpecOk Try.prog 31 e_wide_Less := fun m args v mo bs h hb => by
  unfold e_wide_Less at h
  split at h
  · cases h
    exact pure_fn (c := bodyOf Try.f31) hE_wide_Cmp mixed (fun xs w => Try.call31 xs w) Try.func31 rfl (t_wide_Less _ _ _ _) rfl rfl
  · cases h
def L_wide_Less : List (FuncId × Spec) := (31, e_wide_Less) :: L_wide_Cmp
theorem hE_wide_Less : ESound Try.prog (envOf L_wide_Less) := env_cons ok_wide_Less hE_wide_Cmp
def wide_Add_0 (a_0 : Int) (a_1 : Int) (b_0 : Int) (b_1 : Int) : Int := bif (a_0 + b_0 + (a_1 + b_1 + 0) / 18446744073709551616) / 18446744073709551616 != 0 then 18446744073709551615 else (a_0 + b_0 + (a_1 + b_1 + 0) / 18446744073709551616) % 18446744073709551616
def wide_Add_1 (a_0 : Int) (a_1 : Int) (b_0 : Int) (b_1 : Int) : Int := bif (a_0 + b_0 + (a_1 + b_1 + 0) / 18446744073709551616) / 18446744073709551616 != 0 then 18446744073709551615 else (a_1 + b_1 + 0) % 18446744073709551616
def wide_Add_2 (a_0 : Int) (a_1 : Int) (b_0 : Int) (b_1 : Int) : Bool := bif (a_0 + b_0 + (a_1 + b_1 + 0) / 18446744073709551616) / 18446744073709551616 != 0 then false else true
def s_wide_Add (a_0 : Int) (a_1 : Int) (b_0 : Int) (b_1 : Int) : AV := AV.tup [AV.agg [AV.val (Value.int IntKind.u64 (wide_Add_0 a_0 a_1 b_0 b_1)), AV.val (Value.int IntKind.u64 (wide_Add_1 a_0 a_1 b_0 b_1))], AV.val (Value.bool (wide_Add_2 a_0 a_1 b_0 b_1))]
def c_wide_Add (a_0 : Int) (a_1 : Int) (b_0 : Int) (b_1 : Int) : Bool := bif inU a_1 then bif inU b_1 then bif inU a_0 then bif inU b_0 then bif decide (0 ≤ (a_1 + b_1 + 0) / 18446744073709551616) then bif decide ((a_1 + b_1 + 0) / 18446744073709551616 ≤ 1) then true else false else false else false else false else false else false
theorem t_wide_Add (a_0 : Int) (a_1 : Int) (b_0 : Int) (b_1 : Int) : c_wide_Add a_0 a_1 b_0 b_1 = true → F_ Try.prog L_wide_Less Try.f26 [] [] 99 [AV.agg [AV.val (Value.int IntKind.u64 a_0), AV.val (Value.int IntKind.u64 a_1)], AV.agg [AV.val (Value.int IntKind.u64 b_0), AV.val (Value.int IntKind.u64 b_1)]] noMem = some (.ret (s_wide_Add a_0 a_1 b_0 b_1) { bl := [], nx := 99 } true) := by
  have h : F_ Try.prog L_wide_Less Try.f26 [] [] 99 [AV.agg [AV.val (Value.int IntKind.u64 a_0), AV.val (Value.int IntKind.u64 a_1)], AV.agg [AV.val (Value.int IntKind.u64 b_0), AV.val (Value.int IntKind.u64 b_1)]] noMem = bif (a_0 + b_0 + (a_1 + b_1 + 0) / 18446744073709551616) / 18446744073709551616 != 0 then some (Fin_.ret (AV.tup [AV.agg [AV.val (Value.int IntKind.u64 18446744073709551615), AV.val (Value.int IntKind.u64 18446744073709551615)], AV.val (Value.bool false)]) { bl := [], nx := 99 } (bif inU a_1 then bif inU b_1 then bif inU a_0 then bif inU b_0 then bif decide (0 ≤ (a_1 + b_1 + 0) / 18446744073709551616) then bif decide ((a_1 + b_1 + 0) / 18446744073709551616 ≤ 1) then true else false else false else false else false else false else false)) else some (Fin_.ret (AV.tup [AV.agg [AV.val (Value.int IntKind.u64 ((a_0 + b_0 + (a_1 + b_1 + 0) / 18446744073709551616) % 18446744073709551616)), AV.val (Value.int IntKind.u64 ((a_1 + b_1 + 0) % 18446744073709551616))], AV.val (Value.bool true)]) { bl := [], nx := 99 } (bif inU a_1 then bif inU b_1 then bif inU a_0 then bif inU b_0 then bif decide (0 ≤ (a_1 + b_1 + 0) / 18446744073709551616) then bif decide ((a_1 + b_1 + 0) / 18446744073709551616 ≤ 1) then true else false else false else false else false else false else false)) := by kernel_rfl
  rw [h]
  clear h
  unfold s_wide_Add wide_Add_0 wide_Add_1 wide_Add_2 c_wide_Add
  generalize ((a_0 + b_0 + (a_1 + b_1 + 0) / 18446744073709551616) / 18446744073709551616 != 0) = b0_
  generalize (decide ((a_1 + b_1 + 0) / 18446744073709551616 ≤ 1)) = b1_
  generalize (decide (0 ≤ (a_1 + b_1 + 0) / 18446744073709551616)) = b2_
  generalize (inU a_1) = b3_
  generalize (inU a_0) = b4_
  generalize (inU b_0) = b5_
  generalize (inU b_1) = b6_
  cases b0_ <;> cases b1_ <;> cases b2_ <;> cases b3_ <;> cases b4_ <;> cases b5_ <;> cases b6_ <;> (first | rfl | (intro h_; cases h_; done) | (intro _; rfl))
def e_wide_Add : Spec := fun _ args => match args with
  | [.agg [.val (.int .u64 a_0), .val (.int .u64 a_1)], .agg [.val (.int .u64 b_0), .val (.int .u64 b_1)]] => some (s_wide_Add a_0 a_1 b_0 b_1, none, [c_wide_Add a_0 a_1 b_0 b_1])
  | _ => none
theorem ok_wide_Add : SpecOk Try.prog 26 e_wide_Add := fun m args v mo bs h hb => by
  unfold e_wide_Add at h
  split at h
  · cases h
    exact pure_fn (c := bodyOf Try.f26) hE_wide_Less mixed (fun xs w => Try.call26 xs w) Try.func26 rfl (t_wide_Add _ _ _ _ (by simpa using hb)) rfl rfl
  · cases h
def L_wide_Add : List (FuncId × Spec) := (26, e_wide_Add) :: L_wide_Less
theorem hE_wide_Add : ESound Try.prog (envOf L_wide_Add) := env_cons ok_wide_Add hE_wide_Less
def wide_Sub_0 (a_0 : Int) (a_1 : Int) (b_0 : Int) (b_1 : Int) : Int := bif wide_Less_0 a_0 a_1 b_0 b_1 then 0 else (a_0 + 18446744073709551616 - b_0 - borrow a_1 b_1 0) % 18446744073709551616
def wide_Sub_1 (a_0 : Int) (a_1 : Int) (b_0 : Int) (b_1 : Int) : Int := bif wide_Less_0 a_0 a_1 b_0 b_1 then 0 else (a_1 + 18446744073709551616 - b_1 - 0) % 18446744073709551616
def wide_Sub_2 (a_0 : Int) (a_1 : Int) (b_0 : Int) (b_1 : Int) : Bool := bif wide_Less_0 a_0 a_1 b_0 b_1 then false else true
def s_wide_Sub (a_0 : Int) (a_1 : Int) (b_0 : Int) (b_1 : Int) : AV := AV.tup [AV.agg [AV.val (Value.int IntKind.u64 (wide_Sub_0 a_0 a_1 b_0 b_1)), AV.val (Value.int IntKind.u64 (wide_Sub_1 a_0 a_1 b_0 b_1))], AV.val (Value.bool (wide_Sub_2 a_0 a_1 b_0 b_1))]
def c_wide_Sub (a_0 : Int) (a_1 : Int) (b_0 : Int) (b_1 : Int) : Bool := bif wide_Less_0 a_0 a_1 b_0 b_1 then true else bif inU a_1 then bif inU b_1 then bif inU a_0 then bif inU b_0 then bif decide (0 ≤ borrow a_1 b_1 0) then bif decide (borrow a_1 b_1 0 ≤ 1) then true else false else false else false else false else false else false
theorem t_wide_Sub (a_0 : Int) (a_1 : Int) (b_0 : Int) (b_1 : Int) : c_wide_Sub a_0 a_1 b_0 b_1 = true → F_ Try.prog L_wide_Add Try.f27 [] [] 99 [AV.agg [AV.val (Value.int IntKind.u64 a_0), AV.val (Value.int IntKind.u64 a_1)], AV.agg [AV.val (Value.int IntKind.u64 b_0), AV.val (Value.int IntKind.u64 b_1)]] noMem = some (.ret (s_wide_Sub a_0 a_1 b_0 b_1) { bl := [], nx := 99 } true) := by
  have h : F_ Try.prog L_wide_Add Try.f27 [] [] 99 [AV.agg [AV.val (Value.int IntKind.u64 a_0), AV.val (Value.int IntKind.u64 a_1)], AV.agg [AV.val (Value.int IntKind.u64 b_0), AV.val (Value.int IntKind.u64 b_1)]] noMem = bif wide_Less_0 a_0 a_1 b_0 b_1 then some (Fin_.ret (AV.tup [AV.agg [AV.val (Value.int IntKind.u64 0), AV.val (Value.int IntKind.u64 0)], AV.val (Value.bool false)]) { bl := [], nx := 99 } true) else some (Fin_.ret (AV.tup [AV.agg [AV.val (Value.int IntKind.u64 ((a_0 + 18446744073709551616 - b_0 - borrow a_1 b_1 0) % 18446744073709551616)), AV.val (Value.int IntKind.u64 ((a_1 + 18446744073709551616 - b_1 - 0) % 18446744073709551616))], AV.val (Value.bool true)]) { bl := [], nx := 99 } (bif inU a_1 then bif inU b_1 then bif inU a_0 then bif inU b_0 then bif decide (0 ≤ borrow a_1 b_1 0) then bif decide (borrow a_1 b_1 0 ≤ 1) then true else false else false else false else false else false else false)) := by kernel_rfl
  rw [h]
  clear h
  unfold s_wide_Sub wide_Sub_0 wide_Sub_1 wide_Sub_2 c_wide_Sub
  generalize (decide (borrow a_1 b_1 0 ≤ 1)) = b0_
  generalize (decide (0 ≤ borrow a_1 b_1 0)) = b1_
  generalize (wide_Less_0 a_0 a_1 b_0 b_1) = b2_
  generalize (inU b_1) = b3_
  generalize (inU a_0) = b4_
  generalize (inU b_0) = b5_
  generalize (inU a_1) = b6_
  cases b0_ <;> cases b1_ <;> cases b2_ <;> cases b3_ <;> cases b4_ <;> cases b5_ <;> cases b6_ <;> (first | rfl | (intro h_; cases h_; done) | (intro _; rfl))
def e_wide_Sub : Spec := fun _ args => match args with
  | [.agg [.val (.int .u64 a_0), .val (.int .u64 a_1)], .agg [.val (.int .u64 b_0), .val (.int .u64 b_1)]] => some (s_wide_Sub a_0 a_1 b_0 b_1, none, [c_wide_Sub a_0 a_1 b_0 b_1])
  | _ => none
theorem ok_wide_Sub : SpecOk Try.prog 27 e_wide_Sub := fun m args v mo bs h hb => by
  unfold e_wide_Sub at h
  split at h
  · cases h
    exact pure_fn (c := bodyOf Try.f27) hE_wide_Add mixed (fun xs w => Try.call27 xs w) Try.func27 rfl (t_wide_Sub _ _ _ _ (by simpa using hb)) rfl rfl
  · cases h
def L_wide_Sub : List (FuncId × Spec) := (27, e_wide_Sub) :: L_wide_Add
theorem hE_wide_Sub : ESound Try.prog (envOf L_wide_Sub) := env_cons ok_wide_Sub hE_wide_Add
def wide_Mul_0 (a_0 : Int) (a_1 : Int) (n_ : Int) : Int := bif bif a_0 * n_ / 18446744073709551616 != 0 then true else (a_0 * n_ % 18446744073709551616 + a_1 * n_ / 18446744073709551616 + 0) / 18446744073709551616 != 0 then 18446744073709551615 else (a_0 * n_ % 18446744073709551616 + a_1 * n_ / 18446744073709551616 + 0) % 18446744073709551616
def wide_Mul_1 (a_0 : Int) (a_1 : Int) (n_ : Int) : Int := bif bif a_0 * n_ / 18446744073709551616 != 0 then true else (a_0 * n_ % 18446744073709551616 + a_1 * n_ / 18446744073709551616 + 0) / 18446744073709551616 != 0 then 18446744073709551615 else a_1 * n_ % 18446744073709551616
def wide_Mul_2 (a_0 : Int) (a_1 : Int) (n_ : Int) : Bool := bif bif a_0 * n_ / 18446744073709551616 != 0 then true else (a_0 * n_ % 18446744073709551616 + a_1 * n_ / 18446744073709551616 + 0) / 18446744073709551616 != 0 then false else true
def s_wide_Mul (a_0 : Int) (a_1 : Int) (n_ : Int) : AV := AV.tup [AV.agg [AV.val (Value.int IntKind.u64 (wide_Mul_0 a_0 a_1 n_)), AV.val (Value.int IntKind.u64 (wide_Mul_1 a_0 a_1 n_))], AV.val (Value.bool (wide_Mul_2 a_0 a_1 n_))]
def c_wide_Mul (a_0 : Int) (a_1 : Int) (n_ : Int) : Bool := bif inU a_1 then bif inU n_ then bif inU a_0 then bif inU n_ then bif inU (a_0 * n_ % 18446744073709551616) then bif inU (a_1 * n_ / 18446744073709551616) then true else false else false else false else false else false else false
theorem t_wide_Mul (a_0 : Int) (a_1 : Int) (n_ : Int) : c_wide_Mul a_0 a_1 n_ = true → F_ Try.prog L_wide_Sub Try.f16 [] [] 99 [AV.agg [AV.val (Value.int IntKind.u64 a_0), AV.val (Value.int IntKind.u64 a_1)], AV.val (Value.int IntKind.u64 n_)] noMem = some (.ret (s_wide_Mul a_0 a_1 n_) { bl := [], nx := 99 } true) := by
  have h : F_ Try.prog L_wide_Sub Try.f16 [] [] 99 [AV.agg [AV.val (Value.int IntKind.u64 a_0), AV.val (Value.int IntKind.u64 a_1)], AV.val (Value.int IntKind.u64 n_)] noMem = bif bif a_0 * n_ / 18446744073709551616 != 0 then true else (a_0 * n_ % 18446744073709551616 + a_1 * n_ / 18446744073709551616 + 0) / 18446744073709551616 != 0 then some (Fin_.ret (AV.tup [AV.agg [AV.val (Value.int IntKind.u64 18446744073709551615), AV.val (Value.int IntKind.u64 18446744073709551615)], AV.val (Value.bool false)]) { bl := [], nx := 99 } (bif inU a_1 then bif inU n_ then bif inU a_0 then bif inU n_ then bif inU (a_0 * n_ % 18446744073709551616) then bif inU (a_1 * n_ / 18446744073709551616) then true else false else false else false else false else false else false)) else some (Fin_.ret (AV.tup [AV.agg [AV.val (Value.int IntKind.u64 ((a_0 * n_ % 18446744073709551616 + a_1 * n_ / 18446744073709551616 + 0) % 18446744073709551616)), AV.val (Value.int IntKind.u64 (a_1 * n_ % 18446744073709551616))], AV.val (Value.bool true)]) { bl := [], nx := 99 } (bif inU a_1 then bif inU n_ then bif inU a_0 then bif inU n_ then bif inU (a_0 * n_ % 18446744073709551616) then bif inU (a_1 * n_ / 18446744073709551616) then true else false else false else false else false else false else false)) := by kernel_rfl
  rw [h]
  clear h
  unfold s_wide_Mul wide_Mul_0 wide_Mul_1 wide_Mul_2 c_wide_Mul
  generalize ((a_0 * n_ % 18446744073709551616 + a_1 * n_ / 18446744073709551616 + 0) / 18446744073709551616 != 0) = b0_
  generalize (a_0 * n_ / 18446744073709551616 != 0) = b1_
  generalize (inU (a_1 * n_ / 18446744073709551616)) = b2_
  generalize (inU (a_0 * n_ % 18446744073709551616)) = b3_
  generalize (inU a_1) = b4_
  generalize (inU a_0) = b5_
  generalize (inU n_) = b6_
  cases b0_ <;> cases b1_ <;> cases b2_ <;> cases b3_ <;> cases b4_ <;> cases b5_ <;> cases b6_ <;> (first | rfl | (intro h_; cases h_; done) | (intro _; rfl))
def e_wide_Mul : Spec := fun _ args => match args with
  | [.agg [.val (.int .u64 a_0), .val (.int .u64 a_1)], .val (.int .u64 n_)] => some (s_wide_Mul a_0 a_1 n_, none, [c_wide_Mul a_0 a_1 n_])
  | _ => none
theorem ok_wide_Mul : SpecOk Try.prog 16 e_wide_Mul := fun m args v mo bs h hb => by
  unfold e_wide_Mul at h
  split at h
  · cases h
    exact pure_fn (c := bodyOf Try.f16) hE_wide_Sub mixed (fun xs w => Try.call16 xs w) Try.func16 rfl (t_wide_Mul _ _ _ (by simpa using hb)) rfl rfl
  · cases h
def L_wide_Mul : List (FuncId × Spec) := (16, e_wide_Mul) :: L_wide_Sub
theorem hE_wide_Mul : ESound Try.prog (envOf L_wide_Mul) := env_cons ok_wide_Mul hE_wide_Sub
def s_haymowref01_Most : AV := AV.agg [AV.val (Value.int IntKind.u64 18446744073709551615), AV.val (Value.int IntKind.u64 18446744073709551615)]
theorem t_haymowref01_Most : F_ Try.prog L_wide_Mul Try.f33 [] [] 99 [] noMem = some (.ret (s_haymowref01_Most) { bl := [], nx := 99 } true) := by kernel_rfl
def e_haymowref01_Most : Spec := fun _ args => match args with
  | [] => some (s_haymowref01_Most , none, [])
  | _ => none
theorem ok_haymowref01_Most : SpecOk Try.prog 33 e_haymowref01_Most := fun m args v mo bs h hb => by
  unfold e_haymowref01_Most at h
  split at h
  · cases h
    exact pure_fn (c := bodyOf Try.f33) hE_wide_Mul mixed (fun xs w => Try.call33 xs w) Try.func33 rfl (t_haymowref01_Most) rfl rfl
  · cases h
def L_haymowref01_Most : List (FuncId × Spec) := (33, e_haymowref01_Most) :: L_wide_Mul
theorem hE_haymowref01_Most : ESound Try.prog (envOf L_haymowref01_Most) := env_cons ok_haymowref01_Most hE_wide_Mul
def haymowref01_Parts_0 (a_0 : Int) (a_1 : Int) : Int := a_1.tmod 4294967296
def haymowref01_Parts_1 (a_0 : Int) (a_1 : Int) : Int := IntKind.u64.wrap (a_1.tdiv 4294967296)
def haymowref01_Parts_2 (a_0 : Int) (a_1 : Int) : Int := a_0.tmod 4294967296
def haymowref01_Parts_3 (a_0 : Int) (a_1 : Int) : Int := IntKind.u64.wrap (a_0.tdiv 4294967296)
def s_haymowref01_Parts (a_0 : Int) (a_1 : Int) : AV := AV.agg [AV.val (Value.int IntKind.u64 (haymowref01_Parts_0 a_0 a_1)), AV.val (Value.int IntKind.u64 (haymowref01_Parts_1 a_0 a_1)), AV.val (Value.int IntKind.u64 (haymowref01_Parts_2 a_0 a_1)), AV.val (Value.int IntKind.u64 (haymowref01_Parts_3 a_0 a_1)), AV.val (Value.int IntKind.u64 0), AV.val (Value.int IntKind.u64 0)]
theorem t_haymowref01_Parts (a_0 : Int) (a_1 : Int) : F_ Try.prog L_haymowref01_Most Try.f71 [] [] 99 [AV.agg [AV.val (Value.int IntKind.u64 a_0), AV.val (Value.int IntKind.u64 a_1)]] noMem = some (.ret (s_haymowref01_Parts a_0 a_1) { bl := [], nx := 99 } true) := by kernel_rfl
def e_haymowref01_Parts : Spec := fun _ args => match args with
  | [.agg [.val (.int .u64 a_0), .val (.int .u64 a_1)]] => some (s_haymowref01_Parts a_0 a_1, none, [])
  | _ => none
theorem ok_haymowref01_Parts : SpecOk Try.prog 71 e_haymowref01_Parts := fun m args v mo bs h hb => by
  unfold e_haymowref01_Parts at h
  split at h
  · cases h
    exact pure_fn (c := bodyOf Try.f71) hE_haymowref01_Most mixed (fun xs w => Try.call71 xs w) Try.func71 rfl (t_haymowref01_Parts _ _) rfl rfl
  · cases h
def L_haymowref01_Parts : List (FuncId × Spec) := (71, e_haymowref01_Parts) :: L_haymowref01_Most
theorem hE_haymowref01_Parts : ESound Try.prog (envOf L_haymowref01_Parts) := env_cons ok_haymowref01_Parts hE_haymowref01_Most
def haymowref01_Cmp_0 (a_0 : Int) (a_1 : Int) (b_0 : Int) (b_1 : Int) : Int := bif decide (haymowref01_Parts_3 a_0 a_1 < haymowref01_Parts_3 b_0 b_1) then -1 else bif decide (haymowref01_Parts_3 b_0 b_1 < haymowref01_Parts_3 a_0 a_1) then 1 else bif decide (haymowref01_Parts_2 a_0 a_1 < haymowref01_Parts_2 b_0 b_1) then -1 else bif decide (haymowref01_Parts_2 b_0 b_1 < haymowref01_Parts_2 a_0 a_1) then 1 else bif decide (haymowref01_Parts_1 a_0 a_1 < haymowref01_Parts_1 b_0 b_1) then -1 else bif decide (haymowref01_Parts_1 b_0 b_1 < haymowref01_Parts_1 a_0 a_1) then 1 else bif decide (haymowref01_Parts_0 a_0 a_1 < haymowref01_Parts_0 b_0 b_1) then -1 else bif decide (haymowref01_Parts_0 b_0 b_1 < haymowref01_Parts_0 a_0 a_1) then 1 else 0
def s_haymowref01_Cmp (a_0 : Int) (a_1 : Int) (b_0 : Int) (b_1 : Int) : AV := AV.val (Value.int IntKind.i64 (haymowref01_Cmp_0 a_0 a_1 b_0 b_1))
theorem t_haymowref01_Cmp (a_0 : Int) (a_1 : Int) (b_0 : Int) (b_1 : Int) : F_ Try.prog L_haymowref01_Parts Try.f29 [] [] 99 [AV.agg [AV.val (Value.int IntKind.u64 a_0), AV.val (Value.int IntKind.u64 a_1)], AV.agg [AV.val (Value.int IntKind.u64 b_0), AV.val (Value.int IntKind.u64 b_1)]] noMem = some (.ret (s_haymowref01_Cmp a_0 a_1 b_0 b_1) { bl := [], nx := 99 } true) := by
  have h : F_ Try.prog L_haymowref01_Parts Try.f29 [] [] 99 [AV.agg [AV.val (Value.int IntKind.u64 a_0), AV.val (Value.int IntKind.u64 a_1)], AV.agg [AV.val (Value.int IntKind.u64 b_0), AV.val (Value.int IntKind.u64 b_1)]] noMem = bif decide (haymowref01_Parts_3 a_0 a_1 < haymowref01_Parts_3 b_0 b_1) then some (Fin_.ret (AV.val (Value.int IntKind.i64 (-1))) { bl := [], nx := 99 } true) else bif decide (haymowref01_Parts_3 b_0 b_1 < haymowref01_Parts_3 a_0 a_1) then some (Fin_.ret (AV.val (Value.int IntKind.i64 1)) { bl := [], nx := 99 } true) else bif decide (haymowref01_Parts_2 a_0 a_1 < haymowref01_Parts_2 b_0 b_1) then some (Fin_.ret (AV.val (Value.int IntKind.i64 (-1))) { bl := [], nx := 99 } true) else bif decide (haymowref01_Parts_2 b_0 b_1 < haymowref01_Parts_2 a_0 a_1) then some (Fin_.ret (AV.val (Value.int IntKind.i64 1)) { bl := [], nx := 99 } true) else bif decide (haymowref01_Parts_1 a_0 a_1 < haymowref01_Parts_1 b_0 b_1) then some (Fin_.ret (AV.val (Value.int IntKind.i64 (-1))) { bl := [], nx := 99 } true) else bif decide (haymowref01_Parts_1 b_0 b_1 < haymowref01_Parts_1 a_0 a_1) then some (Fin_.ret (AV.val (Value.int IntKind.i64 1)) { bl := [], nx := 99 } true) else bif decide (haymowref01_Parts_0 a_0 a_1 < haymowref01_Parts_0 b_0 b_1) then some (Fin_.ret (AV.val (Value.int IntKind.i64 (-1))) { bl := [], nx := 99 } true) else bif decide (haymowref01_Parts_0 b_0 b_1 < haymowref01_Parts_0 a_0 a_1) then some (Fin_.ret (AV.val (Value.int IntKind.i64 1)) { bl := [], nx := 99 } true) else some (Fin_.ret (AV.val (Value.int IntKind.i64 0)) { bl := [], nx := 99 } true) := by kernel_rfl
  rw [h]
  clear h
  unfold s_haymowref01_Cmp haymowref01_Cmp_0
  generalize (decide (haymowref01_Parts_0 b_0 b_1 < haymowref01_Parts_0 a_0 a_1)) = b0_
  generalize (decide (haymowref01_Parts_3 a_0 a_1 < haymowref01_Parts_3 b_0 b_1)) = b1_
  generalize (decide (haymowref01_Parts_3 b_0 b_1 < haymowref01_Parts_3 a_0 a_1)) = b2_
  generalize (decide (haymowref01_Parts_2 a_0 a_1 < haymowref01_Parts_2 b_0 b_1)) = b3_
  generalize (decide (haymowref01_Parts_2 b_0 b_1 < haymowref01_Parts_2 a_0 a_1)) = b4_
  generalize (decide (haymowref01_Parts_1 a_0 a_1 < haymowref01_Parts_1 b_0 b_1)) = b5_
  generalize (decide (haymowref01_Parts_1 b_0 b_1 < haymowref01_Parts_1 a_0 a_1)) = b6_
  generalize (decide (haymowref01_Parts_0 a_0 a_1 < haymowref01_Parts_0 b_0 b_1)) = b7_
  cases b1_
  ·
    cases b2_
    ·
      cases b3_
      ·
        cases b4_
        ·
          cases b5_
          ·
            cases b6_
            ·
              cases b7_
              ·
                cases b0_
                ·
                  rfl
                ·
                  rfl
              ·
                rfl
            ·
              rfl
          ·
            rfl
        ·
          rfl
      ·
        rfl
    ·
      rfl
  ·
    rfl
def e_haymowref01_Cmp : Spec := fun _ args => match args with
  | [.agg [.val (.int .u64 a_0), .val (.int .u64 a_1)], .agg [.val (.int .u64 b_0), .val (.int .u64 b_1)]] => some (s_haymowref01_Cmp a_0 a_1 b_0 b_1, none, [])
  | _ => none
theorem ok_haymowref01_Cmp : SpecOk Try.prog 29 e_haymowref01_Cmp := fun m args v mo bs h hb => by
  unfold e_haymowref01_Cmp at h
  split at h
  · cases h
    exact pure_fn (c := bodyOf Try.f29) hE_haymowref01_Parts mixed (fun xs w => Try.call29 xs w) Try.func29 rfl (t_haymowref01_Cmp _ _ _ _) rfl rfl
  · cases h
def L_haymowref01_Cmp : List (FuncId × Spec) := (29, e_haymowref01_Cmp) :: L_haymowref01_Parts
theorem hE_haymowref01_Cmp : ESound Try.prog (envOf L_haymowref01_Cmp) := env_cons ok_haymowref01_Cmp hE_haymowref01_Parts
def haymowref01_Whole_0 (f_0 : Int) (f_1 : Int) (f_2 : Int) (f_3 : Int) (f_4 : Int) (f_5 : Int) : Int := bif bif f_4 != 0 then true else f_5 != 0 then 18446744073709551615 else IntKind.u64.wrap (IntKind.u64.wrap (f_3 * 4294967296) + f_2)
def haymowref01_Whole_1 (f_0 : Int) (f_1 : Int) (f_2 : Int) (f_3 : Int) (f_4 : Int) (f_5 : Int) : Int := bif bif f_4 != 0 then true else f_5 != 0 then 18446744073709551615 else IntKind.u64.wrap (IntKind.u64.wrap (f_1 * 4294967296) + f_0)
def haymowref01_Whole_2 (f_0 : Int) (f_1 : Int) (f_2 : Int) (f_3 : Int) (f_4 : Int) (f_5 : Int) : Bool := bif bif f_4 != 0 then true else f_5 != 0 then false else true
def s_haymowref01_Whole (f_0 : Int) (f_1 : Int) (f_2 : Int) (f_3 : Int) (f_4 : Int) (f_5 : Int) : AV := AV.tup [AV.agg [AV.val (Value.int IntKind.u64 (haymowref01_Whole_0 f_0 f_1 f_2 f_3 f_4 f_5)), AV.val (Value.int IntKind.u64 (haymowref01_Whole_1 f_0 f_1 f_2 f_3 f_4 f_5))], AV.val (Value.bool (haymowref01_Whole_2 f_0 f_1 f_2 f_3 f_4 f_5))]
theorem t_haymowref01_Whole (f_0 : Int) (f_1 : Int) (f_2 : Int) (f_3 : Int) (f_4 : Int) (f_5 : Int) : F_ Try.prog L_haymowref01_Cmp Try.f72 [] [] 99 [AV.agg [AV.val (Value.int IntKind.u64 f_0), AV.val (Value.int IntKind.u64 f_1), AV.val (Value.int IntKind.u64 f_2), AV.val (Value.int IntKind.u64 f_3), AV.val (Value.int IntKind.u64 f_4), AV.val (Value.int IntKind.u64 f_5)]] noMem = some (.ret (s_haymowref01_Whole f_0 f_1 f_2 f_3 f_4 f_5) { bl := [], nx := 99 } true) := by
  have h : F_ Try.prog L_haymowref01_Cmp Try.f72 [] [] 99 [AV.agg [AV.val (Value.int IntKind.u64 f_0), AV.val (Value.int IntKind.u64 f_1), AV.val (Value.int IntKind.u64 f_2), AV.val (Value.int IntKind.u64 f_3), AV.val (Value.int IntKind.u64 f_4), AV.val (Value.int IntKind.u64 f_5)]] noMem = bif bif f_4 != 0 then true else f_5 != 0 then some (Fin_.ret (AV.tup [AV.agg [AV.val (Value.int IntKind.u64 18446744073709551615), AV.val (Value.int IntKind.u64 18446744073709551615)], AV.val (Value.bool false)]) { bl := [], nx := 99 } (bif !!f_4 != 0 || true then bif !!f_4 != 0 || true then true else false else false)) else some (Fin_.ret (AV.tup [AV.agg [AV.val (Value.int IntKind.u64 (IntKind.u64.wrap (IntKind.u64.wrap (f_3 * 4294967296) + f_2))), AV.val (Value.int IntKind.u64 (IntKind.u64.wrap (IntKind.u64.wrap (f_1 * 4294967296) + f_0)))], AV.val (Value.bool true)]) { bl := [], nx := 99 } (bif !!f_4 != 0 || true then bif !!f_4 != 0 || true then true else false else false)) := by kernel_rfl
  rw [h]
  clear h
  unfold s_haymowref01_Whole haymowref01_Whole_0 haymowref01_Whole_1 haymowref01_Whole_2
  generalize (f_5 != 0) = b0_
  generalize (f_4 != 0) = b1_
  cases b0_ <;> cases b1_ <;> (rfl)
def e_haymowref01_Whole : Spec := fun _ args => match args with
  | [.agg [.val (.int .u64 f_0), .val (.int .u64 f_1), .val (.int .u64 f_2), .val (.int .u64 f_3), .val (.int .u64 f_4), .val (.int .u64 f_5)]] => some (s_haymowref01_Whole f_0 f_1 f_2 f_3 f_4 f_5, none, [])
  | _ => none
theorem ok_haymowref01_Whole : SpecOk Try.prog 72 e_haymowref01_Whole := fun m args v mo bs h hb => by
  unfold e_haymowref01_Whole at h
  split at h
  · cases h
    exact pure_fn (c := bodyOf Try.f72) hE_haymowref01_Cmp mixed (fun xs w => Try.call72 xs w) Try.func72 rfl (t_haymowref01_Whole _ _ _ _ _ _) rfl rfl
  · cases h
def L_haymowref01_Whole : List (FuncId × Spec) := (72, e_haymowref01_Whole) :: L_haymowref01_Cmp
theorem hE_haymowref01_Whole : ESound Try.prog (envOf L_haymowref01_Whole) := env_cons ok_haymowref01_Whole hE_haymowref01_Cmp
def haymowref01_Add_0 (a_0 : Int) (a_1 : Int) (b_0 : Int) (b_1 : Int) : Int := haymowref01_Whole_0 ((IntKind.u64.wrap (IntKind.u64.wrap (haymowref01_Parts_0 a_0 a_1 + haymowref01_Parts_0 b_0 b_1) + 0)).tmod 4294967296) ((IntKind.u64.wrap (IntKind.u64.wrap (haymowref01_Parts_1 a_0 a_1 + haymowref01_Parts_1 b_0 b_1) + IntKind.u64.wrap ((IntKind.u64.wrap (IntKind.u64.wrap (haymowref01_Parts_0 a_0 a_1 + haymowref01_Parts_0 b_0 b_1) + 0)).tdiv 4294967296))).tmod 4294967296) ((IntKind.u64.wrap (IntKind.u64.wrap (haymowref01_Parts_2 a_0 a_1 + haymowref01_Parts_2 b_0 b_1) + IntKind.u64.wrap ((IntKind.u64.wrap (IntKind.u64.wrap (haymowref01_Parts_1 a_0 a_1 + haymowref01_Parts_1 b_0 b_1) + IntKind.u64.wrap ((IntKind.u64.wrap (IntKind.u64.wrap (haymowref01_Parts_0 a_0 a_1 + haymowref01_Parts_0 b_0 b_1) + 0)).tdiv 4294967296))).tdiv 4294967296))).tmod 4294967296) ((IntKind.u64.wrap (IntKind.u64.wrap (haymowref01_Parts_3 a_0 a_1 + haymowref01_Parts_3 b_0 b_1) + IntKind.u64.wrap ((IntKind.u64.wrap (IntKind.u64.wrap (haymowref01_Parts_2 a_0 a_1 + haymowref01_Parts_2 b_0 b_1) + IntKind.u64.wrap ((IntKind.u64.wrap (IntKind.u64.wrap (haymowref01_Parts_1 a_0 a_1 + haymowref01_Parts_1 b_0 b_1) + IntKind.u64.wrap ((IntKind.u64.wrap (IntKind.u64.wrap (haymowref01_Parts_0 a_0 a_1 + haymowref01_Parts_0 b_0 b_1) + 0)).tdiv 4294967296))).tdiv 4294967296))).tdiv 4294967296))).tmod 4294967296) ((IntKind.u64.wrap (0 + IntKind.u64.wrap ((IntKind.u64.wrap (IntKind.u64.wrap (haymowref01_Parts_3 a_0 a_1 + haymowref01_Parts_3 b_0 b_1) + IntKind.u64.wrap ((IntKind.u64.wrap (IntKind.u64.wrap (haymowref01_Parts_2 a_0 a_1 + haymowref01_Parts_2 b_0 b_1) + IntKind.u64.wrap ((IntKind.u64.wrap (IntKind.u64.wrap (haymowref01_Parts_1 a_0 a_1 + haymowref01_Parts_1 b_0 b_1) + IntKind.u64.wrap ((IntKind.u64.wrap (IntKind.u64.wrap (haymowref01_Parts_0 a_0 a_1 + haymowref01_Parts_0 b_0 b_1) + 0)).tdiv 4294967296))).tdiv 4294967296))).tdiv 4294967296))).tdiv 4294967296))).tmod 4294967296) 0
def haymowref01_Add_1 (a_0 : Int) (a_1 : Int) (b_0 : Int) (b_1 : Int) : Int := haymowref01_Whole_1 ((IntKind.u64.wrap (IntKind.u64.wrap (haymowref01_Parts_0 a_0 a_1 + haymowref01_Parts_0 b_0 b_1) + 0)).tmod 4294967296) ((IntKind.u64.wrap (IntKind.u64.wrap (haymowref01_Parts_1 a_0 a_1 + haymowref01_Parts_1 b_0 b_1) + IntKind.u64.wrap ((IntKind.u64.wrap (IntKind.u64.wrap (haymowref01_Parts_0 a_0 a_1 + haymowref01_Parts_0 b_0 b_1) + 0)).tdiv 4294967296))).tmod 4294967296) ((IntKind.u64.wrap (IntKind.u64.wrap (haymowref01_Parts_2 a_0 a_1 + haymowref01_Parts_2 b_0 b_1) + IntKind.u64.wrap ((IntKind.u64.wrap (IntKind.u64.wrap (haymowref01_Parts_1 a_0 a_1 + haymowref01_Parts_1 b_0 b_1) + IntKind.u64.wrap ((IntKind.u64.wrap (IntKind.u64.wrap (haymowref01_Parts_0 a_0 a_1 + haymowref01_Parts_0 b_0 b_1) + 0)).tdiv 4294967296))).tdiv 4294967296))).tmod 4294967296) ((IntKind.u64.wrap (IntKind.u64.wrap (haymowref01_Parts_3 a_0 a_1 + haymowref01_Parts_3 b_0 b_1) + IntKind.u64.wrap ((IntKind.u64.wrap (IntKind.u64.wrap (haymowref01_Parts_2 a_0 a_1 + haymowref01_Parts_2 b_0 b_1) + IntKind.u64.wrap ((IntKind.u64.wrap (IntKind.u64.wrap (haymowref01_Parts_1 a_0 a_1 + haymowref01_Parts_1 b_0 b_1) + IntKind.u64.wrap ((IntKind.u64.wrap (IntKind.u64.wrap (haymowref01_Parts_0 a_0 a_1 + haymowref01_Parts_0 b_0 b_1) + 0)).tdiv 4294967296))).tdiv 4294967296))).tdiv 4294967296))).tmod 4294967296) ((IntKind.u64.wrap (0 + IntKind.u64.wrap ((IntKind.u64.wrap (IntKind.u64.wrap (haymowref01_Parts_3 a_0 a_1 + haymowref01_Parts_3 b_0 b_1) + IntKind.u64.wrap ((IntKind.u64.wrap (IntKind.u64.wrap (haymowref01_Parts_2 a_0 a_1 + haymowref01_Parts_2 b_0 b_1) + IntKind.u64.wrap ((IntKind.u64.wrap (IntKind.u64.wrap (haymowref01_Parts_1 a_0 a_1 + haymowref01_Parts_1 b_0 b_1) + IntKind.u64.wrap ((IntKind.u64.wrap (IntKind.u64.wrap (haymowref01_Parts_0 a_0 a_1 + haymowref01_Parts_0 b_0 b_1) + 0)).tdiv 4294967296))).tdiv 4294967296))).tdiv 4294967296))).tdiv 4294967296))).tmod 4294967296) 0
def haymowref01_Add_2 (a_0 : Int) (a_1 : Int) (b_0 : Int) (b_1 : Int) : Bool := haymowref01_Whole_2 ((IntKind.u64.wrap (IntKind.u64.wrap (haymowref01_Parts_0 a_0 a_1 + haymowref01_Parts_0 b_0 b_1) + 0)).tmod 4294967296) ((IntKind.u64.wrap (IntKind.u64.wrap (haymowref01_Parts_1 a_0 a_1 + haymowref01_Parts_1 b_0 b_1) + IntKind.u64.wrap ((IntKind.u64.wrap (IntKind.u64.wrap (haymowref01_Parts_0 a_0 a_1 + haymowref01_Parts_0 b_0 b_1) + 0)).tdiv 4294967296))).tmod 4294967296) ((IntKind.u64.wrap (IntKind.u64.wrap (haymowref01_Parts_2 a_0 a_1 + haymowref01_Parts_2 b_0 b_1) + IntKind.u64.wrap ((IntKind.u64.wrap (IntKind.u64.wrap (haymowref01_Parts_1 a_0 a_1 + haymowref01_Parts_1 b_0 b_1) + IntKind.u64.wrap ((IntKind.u64.wrap (IntKind.u64.wrap (haymowref01_Parts_0 a_0 a_1 + haymowref01_Parts_0 b_0 b_1) + 0)).tdiv 4294967296))).tdiv 4294967296))).tmod 4294967296) ((IntKind.u64.wrap (IntKind.u64.wrap (haymowref01_Parts_3 a_0 a_1 + haymowref01_Parts_3 b_0 b_1) + IntKind.u64.wrap ((IntKind.u64.wrap (IntKind.u64.wrap (haymowref01_Parts_2 a_0 a_1 + haymowref01_Parts_2 b_0 b_1) + IntKind.u64.wrap ((IntKind.u64.wrap (IntKind.u64.wrap (haymowref01_Parts_1 a_0 a_1 + haymowref01_Parts_1 b_0 b_1) + IntKind.u64.wrap ((IntKind.u64.wrap (IntKind.u64.wrap (haymowref01_Parts_0 a_0 a_1 + haymowref01_Parts_0 b_0 b_1) + 0)).tdiv 4294967296))).tdiv 4294967296))).tdiv 4294967296))).tmod 4294967296) ((IntKind.u64.wrap (0 + IntKind.u64.wrap ((IntKind.u64.wrap (IntKind.u64.wrap (haymowref01_Parts_3 a_0 a_1 + haymowref01_Parts_3 b_0 b_1) + IntKind.u64.wrap ((IntKind.u64.wrap (IntKind.u64.wrap (haymowref01_Parts_2 a_0 a_1 + haymowref01_Parts_2 b_0 b_1) + IntKind.u64.wrap ((IntKind.u64.wrap (IntKind.u64.wrap (haymowref01_Parts_1 a_0 a_1 + haymowref01_Parts_1 b_0 b_1) + IntKind.u64.wrap ((IntKind.u64.wrap (IntKind.u64.wrap (haymowref01_Parts_0 a_0 a_1 + haymowref01_Parts_0 b_0 b_1) + 0)).tdiv 4294967296))).tdiv 4294967296))).tdiv 4294967296))).tdiv 4294967296))).tmod 4294967296) 0
def s_haymowref01_Add (a_0 : Int) (a_1 : Int) (b_0 : Int) (b_1 : Int) : AV := AV.tup [AV.agg [AV.val (Value.int IntKind.u64 (haymowref01_Add_0 a_0 a_1 b_0 b_1)), AV.val (Value.int IntKind.u64 (haymowref01_Add_1 a_0 a_1 b_0 b_1))], AV.val (Value.bool (haymowref01_Add_2 a_0 a_1 b_0 b_1))]
theorem t_haymowref01_Add (a_0 : Int) (a_1 : Int) (b_0 : Int) (b_1 : Int) : F_ Try.prog L_haymowref01_Whole Try.f20 [] [] 99 [AV.agg [AV.val (Value.int IntKind.u64 a_0), AV.val (Value.int IntKind.u64 a_1)], AV.agg [AV.val (Value.int IntKind.u64 b_0), AV.val (Value.int IntKind.u64 b_1)]] noMem = some (.ret (s_haymowref01_Add a_0 a_1 b_0 b_1) { bl := [], nx := 99 } true) := by kernel_rfl
def e_haymowref01_Add : Spec := fun _ args => match args with
  | [.agg [.val (.int .u64 a_0), .val (.int .u64 a_1)], .agg [.val (.int .u64 b_0), .val (.int .u64 b_1)]] => some (s_haymowref01_Add a_0 a_1 b_0 b_1, none, [])
  | _ => none
theorem ok_haymowref01_Add : SpecOk Try.prog 20 e_haymowref01_Add := fun m args v mo bs h hb => by
  unfold e_haymowref01_Add at h
  split at h
  · cases h
    exact pure_fn (c := bodyOf Try.f20) hE_haymowref01_Whole mixed (fun xs w => Try.call20 xs w) Try.func20 rfl (t_haymowref01_Add _ _ _ _) rfl rfl
  · cases h
def L_haymowref01_Add : List (FuncId × Spec) := (20, e_haymowref01_Add) :: L_haymowref01_Whole
theorem hE_haymowref01_Add : ESound Try.prog (envOf L_haymowref01_Add) := env_cons ok_haymowref01_Add hE_haymowref01_Whole
def haymowref01_Sub_0 (a_0 : Int) (a_1 : Int) (b_0 : Int) (b_1 : Int) : Int := bif decide (haymowref01_Cmp_0 a_0 a_1 b_0 b_1 < 0) then 0 else haymowref01_Whole_0 ((IntKind.u64.wrap (IntKind.u64.wrap (IntKind.u64.wrap (haymowref01_Parts_0 a_0 a_1 + 4294967296) - haymowref01_Parts_0 b_0 b_1) - 0)).tmod 4294967296) ((IntKind.u64.wrap (IntKind.u64.wrap (IntKind.u64.wrap (haymowref01_Parts_1 a_0 a_1 + 4294967296) - haymowref01_Parts_1 b_0 b_1) - IntKind.u64.wrap (1 - IntKind.u64.wrap ((IntKind.u64.wrap (IntKind.u64.wrap (IntKind.u64.wrap (haymowref01_Parts_0 a_0 a_1 + 4294967296) - haymowref01_Parts_0 b_0 b_1) - 0)).tdiv 4294967296)))).tmod 4294967296) ((IntKind.u64.wrap (IntKind.u64.wrap (IntKind.u64.wrap (haymowref01_Parts_2 a_0 a_1 + 4294967296) - haymowref01_Parts_2 b_0 b_1) - IntKind.u64.wrap (1 - IntKind.u64.wrap ((IntKind.u64.wrap (IntKind.u64.wrap (IntKind.u64.wrap (haymowref01_Parts_1 a_0 a_1 + 4294967296) - haymowref01_Parts_1 b_0 b_1) - IntKind.u64.wrap (1 - IntKind.u64.wrap ((IntKind.u64.wrap (IntKind.u64.wrap (IntKind.u64.wrap (haymowref01_Parts_0 a_0 a_1 + 4294967296) - haymowref01_Parts_0 b_0 b_1) - 0)).tdiv 4294967296)))).tdiv 4294967296)))).tmod 4294967296) ((IntKind.u64.wrap (IntKind.u64.wrap (IntKind.u64.wrap (haymowref01_Parts_3 a_0 a_1 + 4294967296) - haymowref01_Parts_3 b_0 b_1) - IntKind.u64.wrap (1 - IntKind.u64.wrap ((IntKind.u64.wrap (IntKind.u64.wrap (IntKind.u64.wrap (haymowref01_Parts_2 a_0 a_1 + 4294967296) - haymowref01_Parts_2 b_0 b_1) - IntKind.u64.wrap (1 - IntKind.u64.wrap ((IntKind.u64.wrap (IntKind.u64.wrap (IntKind.u64.wrap (haymowref01_Parts_1 a_0 a_1 + 4294967296) - haymowref01_Parts_1 b_0 b_1) - IntKind.u64.wrap (1 - IntKind.u64.wrap ((IntKind.u64.wrap (IntKind.u64.wrap (IntKind.u64.wrap (haymowref01_Parts_0 a_0 a_1 + 4294967296) - haymowref01_Parts_0 b_0 b_1) - 0)).tdiv 4294967296)))).tdiv 4294967296)))).tdiv 4294967296)))).tmod 4294967296) 0 0
def haymowref01_Sub_1 (a_0 : Int) (a_1 : Int) (b_0 : Int) (b_1 : Int) : Int := bif decide (haymowref01_Cmp_0 a_0 a_1 b_0 b_1 < 0) then 0 else haymowref01_Whole_1 ((IntKind.u64.wrap (IntKind.u64.wrap (IntKind.u64.wrap (haymowref01_Parts_0 a_0 a_1 + 4294967296) - haymowref01_Parts_0 b_0 b_1) - 0)).tmod 4294967296) ((IntKind.u64.wrap (IntKind.u64.wrap (IntKind.u64.wrap (haymowref01_Parts_1 a_0 a_1 + 4294967296) - haymowref01_Parts_1 b_0 b_1) - IntKind.u64.wrap (1 - IntKind.u64.wrap ((IntKind.u64.wrap (IntKind.u64.wrap (IntKind.u64.wrap (haymowref01_Parts_0 a_0 a_1 + 4294967296) - haymowref01_Parts_0 b_0 b_1) - 0)).tdiv 4294967296)))).tmod 4294967296) ((IntKind.u64.wrap (IntKind.u64.wrap (IntKind.u64.wrap (haymowref01_Parts_2 a_0 a_1 + 4294967296) - haymowref01_Parts_2 b_0 b_1) - IntKind.u64.wrap (1 - IntKind.u64.wrap ((IntKind.u64.wrap (IntKind.u64.wrap (IntKind.u64.wrap (haymowref01_Parts_1 a_0 a_1 + 4294967296) - haymowref01_Parts_1 b_0 b_1) - IntKind.u64.wrap (1 - IntKind.u64.wrap ((IntKind.u64.wrap (IntKind.u64.wrap (IntKind.u64.wrap (haymowref01_Parts_0 a_0 a_1 + 4294967296) - haymowref01_Parts_0 b_0 b_1) - 0)).tdiv 4294967296)))).tdiv 4294967296)))).tmod 4294967296) ((IntKind.u64.wrap (IntKind.u64.wrap (IntKind.u64.wrap (haymowref01_Parts_3 a_0 a_1 + 4294967296) - haymowref01_Parts_3 b_0 b_1) - IntKind.u64.wrap (1 - IntKind.u64.wrap ((IntKind.u64.wrap (IntKind.u64.wrap (IntKind.u64.wrap (haymowref01_Parts_2 a_0 a_1 + 4294967296) - haymowref01_Parts_2 b_0 b_1) - IntKind.u64.wrap (1 - IntKind.u64.wrap ((IntKind.u64.wrap (IntKind.u64.wrap (IntKind.u64.wrap (haymowref01_Parts_1 a_0 a_1 + 4294967296) - haymowref01_Parts_1 b_0 b_1) - IntKind.u64.wrap (1 - IntKind.u64.wrap ((IntKind.u64.wrap (IntKind.u64.wrap (IntKind.u64.wrap (haymowref01_Parts_0 a_0 a_1 + 4294967296) - haymowref01_Parts_0 b_0 b_1) - 0)).tdiv 4294967296)))).tdiv 4294967296)))).tdiv 4294967296)))).tmod 4294967296) 0 0
def haymowref01_Sub_2 (a_0 : Int) (a_1 : Int) (b_0 : Int) (b_1 : Int) : Bool := bif decide (haymowref01_Cmp_0 a_0 a_1 b_0 b_1 < 0) then false else true
def s_haymowref01_Sub (a_0 : Int) (a_1 : Int) (b_0 : Int) (b_1 : Int) : AV := AV.tup [AV.agg [AV.val (Value.int IntKind.u64 (haymowref01_Sub_0 a_0 a_1 b_0 b_1)), AV.val (Value.int IntKind.u64 (haymowref01_Sub_1 a_0 a_1 b_0 b_1))], AV.val (Value.bool (haymowref01_Sub_2 a_0 a_1 b_0 b_1))]
theorem t_haymowref01_Sub (a_0 : Int) (a_1 : Int) (b_0 : Int) (b_1 : Int) : F_ Try.prog L_haymowref01_Add Try.f28 [] [] 99 [AV.agg [AV.val (Value.int IntKind.u64 a_0), AV.val (Value.int IntKind.u64 a_1)], AV.agg [AV.val (Value.int IntKind.u64 b_0), AV.val (Value.int IntKind.u64 b_1)]] noMem = some (.ret (s_haymowref01_Sub a_0 a_1 b_0 b_1) { bl := [], nx := 99 } true) := by
  have h : F_ Try.prog L_haymowref01_Add Try.f28 [] [] 99 [AV.agg [AV.val (Value.int IntKind.u64 a_0), AV.val (Value.int IntKind.u64 a_1)], AV.agg [AV.val (Value.int IntKind.u64 b_0), AV.val (Value.int IntKind.u64 b_1)]] noMem = bif decide (haymowref01_Cmp_0 a_0 a_1 b_0 b_1 < 0) then some (Fin_.ret (AV.tup [AV.agg [AV.val (Value.int IntKind.u64 0), AV.val (Value.int IntKind.u64 0)], AV.val (Value.bool false)]) { bl := [], nx := 99 } true) else some (Fin_.ret (AV.tup [AV.agg [AV.val (Value.int IntKind.u64 (haymowref01_Whole_0 ((IntKind.u64.wrap (IntKind.u64.wrap (IntKind.u64.wrap (haymowref01_Parts_0 a_0 a_1 + 4294967296) - haymowref01_Parts_0 b_0 b_1) - 0)).tmod 4294967296) ((IntKind.u64.wrap (IntKind.u64.wrap (IntKind.u64.wrap (haymowref01_Parts_1 a_0 a_1 + 4294967296) - haymowref01_Parts_1 b_0 b_1) - IntKind.u64.wrap (1 - IntKind.u64.wrap ((IntKind.u64.wrap (IntKind.u64.wrap (IntKind.u64.wrap (haymowref01_Parts_0 a_0 a_1 + 4294967296) - haymowref01_Parts_0 b_0 b_1) - 0)).tdiv 4294967296)))).tmod 4294967296) ((IntKind.u64.wrap (IntKind.u64.wrap (IntKind.u64.wrap (haymowref01_Parts_2 a_0 a_1 + 4294967296) - haymowref01_Parts_2 b_0 b_1) - IntKind.u64.wrap (1 - IntKind.u64.wrap ((IntKind.u64.wrap (IntKind.u64.wrap (IntKind.u64.wrap (haymowref01_Parts_1 a_0 a_1 + 4294967296) - haymowref01_Parts_1 b_0 b_1) - IntKind.u64.wrap (1 - IntKind.u64.wrap ((IntKind.u64.wrap (IntKind.u64.wrap (IntKind.u64.wrap (haymowref01_Parts_0 a_0 a_1 + 4294967296) - haymowref01_Parts_0 b_0 b_1) - 0)).tdiv 4294967296)))).tdiv 4294967296)))).tmod 4294967296) ((IntKind.u64.wrap (IntKind.u64.wrap (IntKind.u64.wrap (haymowref01_Parts_3 a_0 a_1 + 4294967296) - haymowref01_Parts_3 b_0 b_1) - IntKind.u64.wrap (1 - IntKind.u64.wrap ((IntKind.u64.wrap (IntKind.u64.wrap (IntKind.u64.wrap (haymowref01_Parts_2 a_0 a_1 + 4294967296) - haymowref01_Parts_2 b_0 b_1) - IntKind.u64.wrap (1 - IntKind.u64.wrap ((IntKind.u64.wrap (IntKind.u64.wrap (IntKind.u64.wrap (haymowref01_Parts_1 a_0 a_1 + 4294967296) - haymowref01_Parts_1 b_0 b_1) - IntKind.u64.wrap (1 - IntKind.u64.wrap ((IntKind.u64.wrap (IntKind.u64.wrap (IntKind.u64.wrap (haymowref01_Parts_0 a_0 a_1 + 4294967296) - haymowref01_Parts_0 b_0 b_1) - 0)).tdiv 4294967296)))).tdiv 4294967296)))).tdiv 4294967296)))).tmod 4294967296) 0 0)), AV.val (Value.int IntKind.u64 (haymowref01_Whole_1 ((IntKind.u64.wrap (IntKind.u64.wrap (IntKind.u64.wrap (haymowref01_Parts_0 a_0 a_1 + 4294967296) - haymowref01_Parts_0 b_0 b_1) - 0)).tmod 4294967296) ((IntKind.u64.wrap (IntKind.u64.wrap (IntKind.u64.wrap (haymowref01_Parts_1 a_0 a_1 + 4294967296) - haymowref01_Parts_1 b_0 b_1) - IntKind.u64.wrap (1 - IntKind.u64.wrap ((IntKind.u64.wrap (IntKind.u64.wrap (IntKind.u64.wrap (haymowref01_Parts_0 a_0 a_1 + 4294967296) - haymowref01_Parts_0 b_0 b_1) - 0)).tdiv 4294967296)))).tmod 4294967296) ((IntKind.u64.wrap (IntKind.u64.wrap (IntKind.u64.wrap (haymowref01_Parts_2 a_0 a_1 + 4294967296) - haymowref01_Parts_2 b_0 b_1) - IntKind.u64.wrap (1 - IntKind.u64.wrap ((IntKind.u64.wrap (IntKind.u64.wrap (IntKind.u64.wrap (haymowref01_Parts_1 a_0 a_1 + 4294967296) - haymowref01_Parts_1 b_0 b_1) - IntKind.u64.wrap (1 - IntKind.u64.wrap ((IntKind.u64.wrap (IntKind.u64.wrap (IntKind.u64.wrap (haymowref01_Parts_0 a_0 a_1 + 4294967296) - haymowref01_Parts_0 b_0 b_1) - 0)).tdiv 4294967296)))).tdiv 4294967296)))).tmod 4294967296) ((IntKind.u64.wrap (IntKind.u64.wrap (IntKind.u64.wrap (haymowref01_Parts_3 a_0 a_1 + 4294967296) - haymowref01_Parts_3 b_0 b_1) - IntKind.u64.wrap (1 - IntKind.u64.wrap ((IntKind.u64.wrap (IntKind.u64.wrap (IntKind.u64.wrap (haymowref01_Parts_2 a_0 a_1 + 4294967296) - haymowref01_Parts_2 b_0 b_1) - IntKind.u64.wrap (1 - IntKind.u64.wrap ((IntKind.u64.wrap (IntKind.u64.wrap (IntKind.u64.wrap (haymowref01_Parts_1 a_0 a_1 + 4294967296) - haymowref01_Parts_1 b_0 b_1) - IntKind.u64.wrap (1 - IntKind.u64.wrap ((IntKind.u64.wrap (IntKind.u64.wrap (IntKind.u64.wrap (haymowref01_Parts_0 a_0 a_1 + 4294967296) - haymowref01_Parts_0 b_0 b_1) - 0)).tdiv 4294967296)))).tdiv 4294967296)))).tdiv 4294967296)))).tmod 4294967296) 0 0))], AV.val (Value.bool true)]) { bl := [], nx := 99 } true) := by kernel_rfl
  rw [h]
  clear h
  unfold s_haymowref01_Sub haymowref01_Sub_0 haymowref01_Sub_1 haymowref01_Sub_2
  generalize (decide (haymowref01_Cmp_0 a_0 a_1 b_0 b_1 < 0)) = b0_
  cases b0_
  ·
    rfl
  ·
    rfl
def e_haymowref01_Sub : Spec := fun _ args => match args with
  | [.agg [.val (.int .u64 a_0), .val (.int .u64 a_1)], .agg [.val (.int .u64 b_0), .val (.int .u64 b_1)]] => some (s_haymowref01_Sub a_0 a_1 b_0 b_1, none, [])
  | _ => none
theorem ok_haymowref01_Sub : SpecOk Try.prog 28 e_haymowref01_Sub := fun m args v mo bs h hb => by
  unfold e_haymowref01_Sub at h
  split at h
  · cases h
    exact pure_fn (c := bodyOf Try.f28) hE_haymowref01_Add mixed (fun xs w => Try.call28 xs w) Try.func28 rfl (t_haymowref01_Sub _ _ _ _) rfl rfl
  · cases h
def L_haymowref01_Sub : List (FuncId × Spec) := (28, e_haymowref01_Sub) :: L_haymowref01_Add
theorem hE_haymowref01_Sub : ESound Try.prog (envOf L_haymowref01_Sub) := env_cons ok_haymowref01_Sub hE_haymowref01_Add
end Go.Proofs.Ytanfjgkohhlcoaa
