/-
  What functions hand back, reckoned from their text.
-/
import Derived.Test.YtnkpegdmbocgaaaDoorProg
import Derived.Test.YtnkpegdmbocgaaaDoorPl
namespace Go.Proofs.YtnkpegdmbocgaaaDoor
open Go Go.RowKit
def haymowref02_Right_0 (at_ : Int) (size_ : Int) : Bool := bif bif bif decide (1 ≤ size_) then decide (size_ ≤ 64) else false then decide (0 ≤ at_) else false then decide (at_ ≤ IntKind.i64.wrap (64 - size_)) else false
def s_haymowref02_Right (at_ : Int) (size_ : Int) : AV := AV.val (Value.bool (haymowref02_Right_0 at_ size_))
theorem t_haymowref02_Right (at_ : Int) (size_ : Int) : F_ Tryd.prog L_len Tryd.f13 [] [] 99 [AV.val (Value.int IntKind.i64 at_), AV.val (Value.int IntKind.i64 size_)] noMem = some (.ret (s_haymowref02_Right at_ size_) { bl := [], nx := 99 } true) := by kernel_rfl
def e_haymowref02_Right : Spec := fun _ args => match args with
  | [.val (.int .i64 at_), .val (.int .i64 size_)] => some (s_haymowref02_Right at_ size_, none, [])
  | _ => none
theorem ok_haymowref02_Right : SpecOk Tryd.prog 13 e_haymowref02_Right := fun m args v mo bs h hb => by
  unfold e_haymowref02_Right at h
  split at h
  · cases h
    exact pure_fn (c := bodyOf Tryd.f13) hE_len mixed (fun xs w => Tryd.call13 xs w) Tryd.func13 rfl (t_haymowref02_Right _ _) rfl rfl
  · cases h
def L_haymowref02_Right : List (FuncId × Spec) := (13, e_haymowref02_Right) :: L_len
theorem hE_haymowref02_Right : ESound Tryd.prog (envOf L_haymowref02_Right) := env_cons ok_haymowref02_Right hE_len
def field_Right_0 (f_0 : Int) (f_1 : Int) : Bool := bif bif bif decide (1 ≤ f_1) then decide (f_1 ≤ 64) else false then decide (0 ≤ f_0) else false then decide (f_0 ≤ IntKind.i64.wrap (64 - f_1)) else false
def s_field_Right (f_0 : Int) (f_1 : Int) : AV := AV.val (Value.bool (field_Right_0 f_0 f_1))
theorem t_field_Right (f_0 : Int) (f_1 : Int) : F_ Tryd.prog L_haymowref02_Right Tryd.f14 [] [] 99 [AV.agg [AV.val (Value.int IntKind.i64 f_0), AV.val (Value.int IntKind.i64 f_1)]] noMem = some (.ret (s_field_Right f_0 f_1) { bl := [], nx := 99 } true) := by kernel_rfl
def e_field_Right : Spec := fun _ args => match args with
  | [.agg [.val (.int .i64 f_0), .val (.int .i64 f_1)]] => some (s_field_Right f_0 f_1, none, [])
  | _ => none
theorem ok_field_Right : SpecOk Tryd.prog 14 e_field_Right := fun m args v mo bs h hb => by
  unfold e_field_Right at h
  split at h
  · cases h
    exact pure_fn (c := bodyOf Tryd.f14) hE_haymowref02_Right mixed (fun xs w => Tryd.call14 xs w) Tryd.func14 rfl (t_field_Right _ _) rfl rfl
  · cases h
def L_field_Right : List (FuncId × Spec) := (14, e_field_Right) :: L_haymowref02_Right
theorem hE_field_Right : ESound Tryd.prog (envOf L_field_Right) := env_cons ok_field_Right hE_haymowref02_Right
def field_Mask_0 (f_0 : Int) (f_1 : Int) : Int := bif !field_Right_0 f_0 f_1 then 0 else IntKind.u64.wrap (Int.fdiv 18446744073709551615 (2 ^ min (IntKind.i64.wrap (64 - f_1)).toNat 64) * 2 ^ min f_0.toNat 64)
def s_field_Mask (f_0 : Int) (f_1 : Int) : AV := AV.val (Value.int IntKind.u64 (field_Mask_0 f_0 f_1))
def c_field_Mask (f_0 : Int) (f_1 : Int) : Bool := bif !field_Right_0 f_0 f_1 then true else bif decide (0 ≤ IntKind.i64.wrap (64 - f_1)) then bif decide (0 ≤ f_0) then true else false else false
theorem t_field_Mask (f_0 : Int) (f_1 : Int) : c_field_Mask f_0 f_1 = true → F_ Tryd.prog L_field_Right Tryd.f15 [] [] 99 [AV.agg [AV.val (Value.int IntKind.i64 f_0), AV.val (Value.int IntKind.i64 f_1)]] noMem = some (.ret (s_field_Mask f_0 f_1) { bl := [], nx := 99 } true) := by
  have h : F_ Tryd.prog L_field_Right Tryd.f15 [] [] 99 [AV.agg [AV.val (Value.int IntKind.i64 f_0), AV.val (Value.int IntKind.i64 f_1)]] noMem = bif !field_Right_0 f_0 f_1 then some (Fin_.ret (AV.val (Value.int IntKind.u64 0)) { bl := [], nx := 99 } true) else some (Fin_.ret (AV.val (Value.int IntKind.u64 (IntKind.u64.wrap (Int.fdiv 18446744073709551615 (2 ^ min (IntKind.i64.wrap (64 - f_1)).toNat 64) * 2 ^ min f_0.toNat 64)))) { bl := [], nx := 99 } (bif decide (0 ≤ IntKind.i64.wrap (64 - f_1)) then bif decide (0 ≤ f_0) then true else false else false)) := by kernel_rfl
  rw [h]
  clear h
  unfold s_field_Mask field_Mask_0 c_field_Mask
  generalize (!field_Right_0 f_0 f_1) = b0_
  cases b0_
  ·
    first | rfl | (intro h_; cases h_; done) | (intro _; rfl) | (intro h_; simp only [cond_true, cond_false] at h_ ⊢; rw [h_])
  ·
    first | rfl | (intro h_; cases h_; done) | (intro _; rfl) | (intro h_; simp only [cond_true, cond_false] at h_ ⊢; rw [h_])
def e_field_Mask : Spec := fun _ args => match args with
  | [.agg [.val (.int .i64 f_0), .val (.int .i64 f_1)]] => some (s_field_Mask f_0 f_1, none, [c_field_Mask f_0 f_1])
  | _ => none
theorem ok_field_Mask : SpecOk Tryd.prog 15 e_field_Mask := fun m args v mo bs h hb => by
  unfold e_field_Mask at h
  split at h
  · cases h
    exact pure_fn (c := bodyOf Tryd.f15) hE_field_Right mixed (fun xs w => Tryd.call15 xs w) Tryd.func15 rfl (t_field_Mask _ _ (by simpa using hb)) rfl rfl
  · cases h
def L_field_Mask : List (FuncId × Spec) := (15, e_field_Mask) :: L_field_Right
theorem hE_field_Mask : ESound Tryd.prog (envOf L_field_Mask) := env_cons ok_field_Mask hE_field_Right
def field_Get_0 (w_ : Int) (f_0 : Int) (f_1 : Int) : Int := bif !field_Right_0 f_0 f_1 then 0 else (bits BinOp.and IntKind.u64 w_ (field_Mask_0 f_0 f_1)).fdiv (2 ^ min f_0.toNat 64)
def s_field_Get (w_ : Int) (f_0 : Int) (f_1 : Int) : AV := AV.val (Value.int IntKind.u64 (field_Get_0 w_ f_0 f_1))
def c_field_Get (w_ : Int) (f_0 : Int) (f_1 : Int) : Bool := bif !field_Right_0 f_0 f_1 then true else bif c_field_Mask f_0 f_1 then bif decide (0 ≤ f_0) then true else false else false
theorem t_field_Get (w_ : Int) (f_0 : Int) (f_1 : Int) : c_field_Get w_ f_0 f_1 = true → F_ Tryd.prog L_field_Mask Tryd.f16 [] [] 99 [AV.val (Value.int IntKind.u64 w_), AV.agg [AV.val (Value.int IntKind.i64 f_0), AV.val (Value.int IntKind.i64 f_1)]] noMem = some (.ret (s_field_Get w_ f_0 f_1) { bl := [], nx := 99 } true) := by
  have h : F_ Tryd.prog L_field_Mask Tryd.f16 [] [] 99 [AV.val (Value.int IntKind.u64 w_), AV.agg [AV.val (Value.int IntKind.i64 f_0), AV.val (Value.int IntKind.i64 f_1)]] noMem = bif !field_Right_0 f_0 f_1 then some (Fin_.ret (AV.val (Value.int IntKind.u64 0)) { bl := [], nx := 99 } true) else some (Fin_.ret (AV.val (Value.int IntKind.u64 ((bits BinOp.and IntKind.u64 w_ (field_Mask_0 f_0 f_1)).fdiv (2 ^ min f_0.toNat 64)))) { bl := [], nx := 99 } (bif c_field_Mask f_0 f_1 then bif decide (0 ≤ f_0) then true else false else false)) := by kernel_rfl
  rw [h]
  clear h
  unfold s_field_Get field_Get_0 c_field_Get
  generalize (!field_Right_0 f_0 f_1) = b0_
  cases b0_
  ·
    first | rfl | (intro h_; cases h_; done) | (intro _; rfl) | (intro h_; simp only [cond_true, cond_false] at h_ ⊢; rw [h_])
  ·
    first | rfl | (intro h_; cases h_; done) | (intro _; rfl) | (intro h_; simp only [cond_true, cond_false] at h_ ⊢; rw [h_])
def e_field_Get : Spec := fun _ args => match args with
  | [.val (.int .u64 w_), .agg [.val (.int .i64 f_0), .val (.int .i64 f_1)]] => some (s_field_Get w_ f_0 f_1, none, [c_field_Get w_ f_0 f_1])
  | _ => none
theorem ok_field_Get : SpecOk Tryd.prog 16 e_field_Get := fun m args v mo bs h hb => by
  unfold e_field_Get at h
  split at h
  · cases h
    exact pure_fn (c := bodyOf Tryd.f16) hE_field_Mask mixed (fun xs w => Tryd.call16 xs w) Tryd.func16 rfl (t_field_Get _ _ _ (by simpa using hb)) rfl rfl
  · cases h
def L_field_Get : List (FuncId × Spec) := (16, e_field_Get) :: L_field_Mask
theorem hE_field_Get : ESound Tryd.prog (envOf L_field_Get) := env_cons ok_field_Get hE_field_Mask
def field_Put_0 (w_ : Int) (f_0 : Int) (f_1 : Int) (n_ : Int) : Int := bif !field_Right_0 f_0 f_1 then 0 else bif decide (f_1 < Int.ofNat (Lib.bitLen n_.toNat)) then 0 else bits BinOp.or IntKind.u64 (bits BinOp.andNot IntKind.u64 w_ (field_Mask_0 f_0 f_1)) (IntKind.u64.wrap (n_ * 2 ^ min f_0.toNat 64))
def field_Put_1 (w_ : Int) (f_0 : Int) (f_1 : Int) (n_ : Int) : Int := bif !field_Right_0 f_0 f_1 then 1 else bif decide (f_1 < Int.ofNat (Lib.bitLen n_.toNat)) then 2 else 0
def s_field_Put (w_ : Int) (f_0 : Int) (f_1 : Int) (n_ : Int) : AV := AV.tup [AV.val (Value.int IntKind.u64 (field_Put_0 w_ f_0 f_1 n_)), AV.val (Value.int IntKind.i64 (field_Put_1 w_ f_0 f_1 n_))]
def c_field_Put (w_ : Int) (f_0 : Int) (f_1 : Int) (n_ : Int) : Bool := bif !field_Right_0 f_0 f_1 then true else bif decide (f_1 < Int.ofNat (Lib.bitLen n_.toNat)) then bif decide (0 ≤ n_) then bif decide (n_ ≤ 18446744073709551615) then true else false else false else bif decide (0 ≤ n_) then bif decide (n_ ≤ 18446744073709551615) then bif c_field_Mask f_0 f_1 then bif decide (0 ≤ f_0) then true else false else false else false else false
theorem t_field_Put (w_ : Int) (f_0 : Int) (f_1 : Int) (n_ : Int) : c_field_Put w_ f_0 f_1 n_ = true → F_ Tryd.prog L_field_Get Tryd.f12 [] [] 99 [AV.val (Value.int IntKind.u64 w_), AV.agg [AV.val (Value.int IntKind.i64 f_0), AV.val (Value.int IntKind.i64 f_1)], AV.val (Value.int IntKind.u64 n_)] noMem = some (.ret (s_field_Put w_ f_0 f_1 n_) { bl := [], nx := 99 } true) := by
  have h : F_ Tryd.prog L_field_Get Tryd.f12 [] [] 99 [AV.val (Value.int IntKind.u64 w_), AV.agg [AV.val (Value.int IntKind.i64 f_0), AV.val (Value.int IntKind.i64 f_1)], AV.val (Value.int IntKind.u64 n_)] noMem = bif !field_Right_0 f_0 f_1 then some (Fin_.ret (AV.tup [AV.val (Value.int IntKind.u64 0), AV.val (Value.int IntKind.i64 1)]) { bl := [], nx := 99 } true) else bif decide (f_1 < Int.ofNat (Lib.bitLen n_.toNat)) then some (Fin_.ret (AV.tup [AV.val (Value.int IntKind.u64 0), AV.val (Value.int IntKind.i64 2)]) { bl := [], nx := 99 } (bif decide (0 ≤ n_) then bif decide (n_ ≤ 18446744073709551615) then true else false else false)) else some (Fin_.ret (AV.tup [AV.val (Value.int IntKind.u64 (bits BinOp.or IntKind.u64 (bits BinOp.andNot IntKind.u64 w_ (field_Mask_0 f_0 f_1)) (IntKind.u64.wrap (n_ * 2 ^ min f_0.toNat 64)))), AV.val (Value.int IntKind.i64 0)]) { bl := [], nx := 99 } (bif decide (0 ≤ n_) then bif decide (n_ ≤ 18446744073709551615) then bif c_field_Mask f_0 f_1 then bif decide (0 ≤ f_0) then true else false else false else false else false)) := by kernel_rfl
  rw [h]
  clear h
  unfold s_field_Put field_Put_0 field_Put_1 c_field_Put
  generalize (decide (f_1 < Int.ofNat (Lib.bitLen n_.toNat))) = b0_
  generalize (!field_Right_0 f_0 f_1) = b1_
  cases b1_
  ·
    cases b0_
    ·
      first | rfl | (intro h_; cases h_; done) | (intro _; rfl) | (intro h_; simp only [cond_true, cond_false] at h_ ⊢; rw [h_])
    ·
      first | rfl | (intro h_; cases h_; done) | (intro _; rfl) | (intro h_; simp only [cond_true, cond_false] at h_ ⊢; rw [h_])
  ·
    first | rfl | (intro h_; cases h_; done) | (intro _; rfl) | (intro h_; simp only [cond_true, cond_false] at h_ ⊢; rw [h_])
def e_field_Put : Spec := fun _ args => match args with
  | [.val (.int .u64 w_), .agg [.val (.int .i64 f_0), .val (.int .i64 f_1)], .val (.int .u64 n_)] => some (s_field_Put w_ f_0 f_1 n_, none, [c_field_Put w_ f_0 f_1 n_])
  | _ => none
theorem ok_field_Put : SpecOk Tryd.prog 12 e_field_Put := fun m args v mo bs h hb => by
  unfold e_field_Put at h
  split at h
  · cases h
    exact pure_fn (c := bodyOf Tryd.f12) hE_field_Get mixed (fun xs w => Tryd.call12 xs w) Tryd.func12 rfl (t_field_Put _ _ _ _ (by simpa using hb)) rfl rfl
  · cases h
def L_field_Put : List (FuncId × Spec) := (12, e_field_Put) :: L_field_Get
theorem hE_field_Put : ESound Tryd.prog (envOf L_field_Put) := env_cons ok_field_Put hE_field_Get
def math_bits_OnesCount64_0 (x_ : Int) : Int := bits BinOp.and IntKind.i64 (IntKind.i64.wrap (IntKind.u64.wrap (IntKind.u64.wrap (IntKind.u64.wrap (bits BinOp.and IntKind.u64 (IntKind.u64.wrap ((IntKind.u64.wrap (bits BinOp.and IntKind.u64 ((IntKind.u64.wrap (bits BinOp.and IntKind.u64 (x_.fdiv 2) 6148914691236517205 + bits BinOp.and IntKind.u64 x_ 6148914691236517205)).fdiv 4) 3689348814741910323 + bits BinOp.and IntKind.u64 (IntKind.u64.wrap (bits BinOp.and IntKind.u64 (x_.fdiv 2) 6148914691236517205 + bits BinOp.and IntKind.u64 x_ 6148914691236517205)) 3689348814741910323)).fdiv 16 + IntKind.u64.wrap (bits BinOp.and IntKind.u64 ((IntKind.u64.wrap (bits BinOp.and IntKind.u64 (x_.fdiv 2) 6148914691236517205 + bits BinOp.and IntKind.u64 x_ 6148914691236517205)).fdiv 4) 3689348814741910323 + bits BinOp.and IntKind.u64 (IntKind.u64.wrap (bits BinOp.and IntKind.u64 (x_.fdiv 2) 6148914691236517205 + bits BinOp.and IntKind.u64 x_ 6148914691236517205)) 3689348814741910323))) 1085102592571150095 + (bits BinOp.and IntKind.u64 (IntKind.u64.wrap ((IntKind.u64.wrap (bits BinOp.and IntKind.u64 ((IntKind.u64.wrap (bits BinOp.and IntKind.u64 (x_.fdiv 2) 6148914691236517205 + bits BinOp.and IntKind.u64 x_ 6148914691236517205)).fdiv 4) 3689348814741910323 + bits BinOp.and IntKind.u64 (IntKind.u64.wrap (bits BinOp.and IntKind.u64 (x_.fdiv 2) 6148914691236517205 + bits BinOp.and IntKind.u64 x_ 6148914691236517205)) 3689348814741910323)).fdiv 16 + IntKind.u64.wrap (bits BinOp.and IntKind.u64 ((IntKind.u64.wrap (bits BinOp.and IntKind.u64 (x_.fdiv 2) 6148914691236517205 + bits BinOp.and IntKind.u64 x_ 6148914691236517205)).fdiv 4) 3689348814741910323 + bits BinOp.and IntKind.u64 (IntKind.u64.wrap (bits BinOp.and IntKind.u64 (x_.fdiv 2) 6148914691236517205 + bits BinOp.and IntKind.u64 x_ 6148914691236517205)) 3689348814741910323))) 1085102592571150095).fdiv 256) + (IntKind.u64.wrap (bits BinOp.and IntKind.u64 (IntKind.u64.wrap ((IntKind.u64.wrap (bits BinOp.and IntKind.u64 ((IntKind.u64.wrap (bits BinOp.and IntKind.u64 (x_.fdiv 2) 6148914691236517205 + bits BinOp.and IntKind.u64 x_ 6148914691236517205)).fdiv 4) 3689348814741910323 + bits BinOp.and IntKind.u64 (IntKind.u64.wrap (bits BinOp.and IntKind.u64 (x_.fdiv 2) 6148914691236517205 + bits BinOp.and IntKind.u64 x_ 6148914691236517205)) 3689348814741910323)).fdiv 16 + IntKind.u64.wrap (bits BinOp.and IntKind.u64 ((IntKind.u64.wrap (bits BinOp.and IntKind.u64 (x_.fdiv 2) 6148914691236517205 + bits BinOp.and IntKind.u64 x_ 6148914691236517205)).fdiv 4) 3689348814741910323 + bits BinOp.and IntKind.u64 (IntKind.u64.wrap (bits BinOp.and IntKind.u64 (x_.fdiv 2) 6148914691236517205 + bits BinOp.and IntKind.u64 x_ 6148914691236517205)) 3689348814741910323))) 1085102592571150095 + (bits BinOp.and IntKind.u64 (IntKind.u64.wrap ((IntKind.u64.wrap (bits BinOp.and IntKind.u64 ((IntKind.u64.wrap (bits BinOp.and IntKind.u64 (x_.fdiv 2) 6148914691236517205 + bits BinOp.and IntKind.u64 x_ 6148914691236517205)).fdiv 4) 3689348814741910323 + bits BinOp.and IntKind.u64 (IntKind.u64.wrap (bits BinOp.and IntKind.u64 (x_.fdiv 2) 6148914691236517205 + bits BinOp.and IntKind.u64 x_ 6148914691236517205)) 3689348814741910323)).fdiv 16 + IntKind.u64.wrap (bits BinOp.and IntKind.u64 ((IntKind.u64.wrap (bits BinOp.and IntKind.u64 (x_.fdiv 2) 6148914691236517205 + bits BinOp.and IntKind.u64 x_ 6148914691236517205)).fdiv 4) 3689348814741910323 + bits BinOp.and IntKind.u64 (IntKind.u64.wrap (bits BinOp.and IntKind.u64 (x_.fdiv 2) 6148914691236517205 + bits BinOp.and IntKind.u64 x_ 6148914691236517205)) 3689348814741910323))) 1085102592571150095).fdiv 256)).fdiv 65536) + (IntKind.u64.wrap (IntKind.u64.wrap (bits BinOp.and IntKind.u64 (IntKind.u64.wrap ((IntKind.u64.wrap (bits BinOp.and IntKind.u64 ((IntKind.u64.wrap (bits BinOp.and IntKind.u64 (x_.fdiv 2) 6148914691236517205 + bits BinOp.and IntKind.u64 x_ 6148914691236517205)).fdiv 4) 3689348814741910323 + bits BinOp.and IntKind.u64 (IntKind.u64.wrap (bits BinOp.and IntKind.u64 (x_.fdiv 2) 6148914691236517205 + bits BinOp.and IntKind.u64 x_ 6148914691236517205)) 3689348814741910323)).fdiv 16 + IntKind.u64.wrap (bits BinOp.and IntKind.u64 ((IntKind.u64.wrap (bits BinOp.and IntKind.u64 (x_.fdiv 2) 6148914691236517205 + bits BinOp.and IntKind.u64 x_ 6148914691236517205)).fdiv 4) 3689348814741910323 + bits BinOp.and IntKind.u64 (IntKind.u64.wrap (bits BinOp.and IntKind.u64 (x_.fdiv 2) 6148914691236517205 + bits BinOp.and IntKind.u64 x_ 6148914691236517205)) 3689348814741910323))) 1085102592571150095 + (bits BinOp.and IntKind.u64 (IntKind.u64.wrap ((IntKind.u64.wrap (bits BinOp.and IntKind.u64 ((IntKind.u64.wrap (bits BinOp.and IntKind.u64 (x_.fdiv 2) 6148914691236517205 + bits BinOp.and IntKind.u64 x_ 6148914691236517205)).fdiv 4) 3689348814741910323 + bits BinOp.and IntKind.u64 (IntKind.u64.wrap (bits BinOp.and IntKind.u64 (x_.fdiv 2) 6148914691236517205 + bits BinOp.and IntKind.u64 x_ 6148914691236517205)) 3689348814741910323)).fdiv 16 + IntKind.u64.wrap (bits BinOp.and IntKind.u64 ((IntKind.u64.wrap (bits BinOp.and IntKind.u64 (x_.fdiv 2) 6148914691236517205 + bits BinOp.and IntKind.u64 x_ 6148914691236517205)).fdiv 4) 3689348814741910323 + bits BinOp.and IntKind.u64 (IntKind.u64.wrap (bits BinOp.and IntKind.u64 (x_.fdiv 2) 6148914691236517205 + bits BinOp.and IntKind.u64 x_ 6148914691236517205)) 3689348814741910323))) 1085102592571150095).fdiv 256) + (IntKind.u64.wrap (bits BinOp.and IntKind.u64 (IntKind.u64.wrap ((IntKind.u64.wrap (bits BinOp.and IntKind.u64 ((IntKind.u64.wrap (bits BinOp.and IntKind.u64 (x_.fdiv 2) 6148914691236517205 + bits BinOp.and IntKind.u64 x_ 6148914691236517205)).fdiv 4) 3689348814741910323 + bits BinOp.and IntKind.u64 (IntKind.u64.wrap (bits BinOp.and IntKind.u64 (x_.fdiv 2) 6148914691236517205 + bits BinOp.and IntKind.u64 x_ 6148914691236517205)) 3689348814741910323)).fdiv 16 + IntKind.u64.wrap (bits BinOp.and IntKind.u64 ((IntKind.u64.wrap (bits BinOp.and IntKind.u64 (x_.fdiv 2) 6148914691236517205 + bits BinOp.and IntKind.u64 x_ 6148914691236517205)).fdiv 4) 3689348814741910323 + bits BinOp.and IntKind.u64 (IntKind.u64.wrap (bits BinOp.and IntKind.u64 (x_.fdiv 2) 6148914691236517205 + bits BinOp.and IntKind.u64 x_ 6148914691236517205)) 3689348814741910323))) 1085102592571150095 + (bits BinOp.and IntKind.u64 (IntKind.u64.wrap ((IntKind.u64.wrap (bits BinOp.and IntKind.u64 ((IntKind.u64.wrap (bits BinOp.and IntKind.u64 (x_.fdiv 2) 6148914691236517205 + bits BinOp.and IntKind.u64 x_ 6148914691236517205)).fdiv 4) 3689348814741910323 + bits BinOp.and IntKind.u64 (IntKind.u64.wrap (bits BinOp.and IntKind.u64 (x_.fdiv 2) 6148914691236517205 + bits BinOp.and IntKind.u64 x_ 6148914691236517205)) 3689348814741910323)).fdiv 16 + IntKind.u64.wrap (bits BinOp.and IntKind.u64 ((IntKind.u64.wrap (bits BinOp.and IntKind.u64 (x_.fdiv 2) 6148914691236517205 + bits BinOp.and IntKind.u64 x_ 6148914691236517205)).fdiv 4) 3689348814741910323 + bits BinOp.and IntKind.u64 (IntKind.u64.wrap (bits BinOp.and IntKind.u64 (x_.fdiv 2) 6148914691236517205 + bits BinOp.and IntKind.u64 x_ 6148914691236517205)) 3689348814741910323))) 1085102592571150095).fdiv 256)).fdiv 65536)).fdiv 4294967296))) 127
def s_math_bits_OnesCount64 (x_ : Int) : AV := AV.val (Value.int IntKind.i64 (math_bits_OnesCount64_0 x_))
theorem t_math_bits_OnesCount64 (x_ : Int) : F_ Tryd.prog L_field_Put Tryd.f25 [] [] 99 [AV.val (Value.int IntKind.u64 x_)] noMem = some (.ret (s_math_bits_OnesCount64 x_) { bl := [], nx := 99 } true) := by kernel_rfl
def e_math_bits_OnesCount64 : Spec := fun _ args => match args with
  | [.val (.int .u64 x_)] => some (s_math_bits_OnesCount64 x_, none, [])
  | _ => none
theorem ok_math_bits_OnesCount64 : SpecOk Tryd.prog 25 e_math_bits_OnesCount64 := fun m args v mo bs h hb => by
  unfold e_math_bits_OnesCount64 at h
  split at h
  · cases h
    exact pure_fn (c := bodyOf Tryd.f25) hE_field_Put mixed (fun xs w => Tryd.call25 xs w) Tryd.func25 rfl (t_math_bits_OnesCount64 _) rfl rfl
  · cases h
def L_math_bits_OnesCount64 : List (FuncId × Spec) := (25, e_math_bits_OnesCount64) :: L_field_Put
theorem hE_math_bits_OnesCount64 : ESound Tryd.prog (envOf L_math_bits_OnesCount64) := env_cons ok_math_bits_OnesCount64 hE_field_Put
def field_Ones_0 (w_ : Int) : Int := math_bits_OnesCount64_0 w_
def s_field_Ones (w_ : Int) : AV := AV.val (Value.int IntKind.i64 (field_Ones_0 w_))
theorem t_field_Ones (w_ : Int) : F_ Tryd.prog L_math_bits_OnesCount64 Tryd.f11 [] [] 99 [AV.val (Value.int IntKind.u64 w_)] noMem = some (.ret (s_field_Ones w_) { bl := [], nx := 99 } true) := by kernel_rfl
def e_field_Ones : Spec := fun _ args => match args with
  | [.val (.int .u64 w_)] => some (s_field_Ones w_, none, [])
  | _ => none
theorem ok_field_Ones : SpecOk Tryd.prog 11 e_field_Ones := fun m args v mo bs h hb => by
  unfold e_field_Ones at h
  split at h
  · cases h
    exact pure_fn (c := bodyOf Tryd.f11) hE_math_bits_OnesCount64 mixed (fun xs w => Tryd.call11 xs w) Tryd.func11 rfl (t_field_Ones _) rfl rfl
  · cases h
def L_field_Ones : List (FuncId × Spec) := (11, e_field_Ones) :: L_math_bits_OnesCount64
theorem hE_field_Ones : ESound Tryd.prog (envOf L_field_Ones) := env_cons ok_field_Ones hE_math_bits_OnesCount64
end Go.Proofs.YtnkpegdmbocgaaaDoor
