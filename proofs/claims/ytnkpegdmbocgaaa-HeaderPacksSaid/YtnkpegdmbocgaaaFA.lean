/-
  What functions hand back, reckoned from their text.
-/
import Derived.Test.YtnkpegdmbocgaaaProg
import Derived.Test.YtnkpegdmbocgaaaFz
namespace Go.Proofs.Ytnkpegdmbocgaaa
open Go Go.RowKit
def field_Right_0 (f_0 : Int) (f_1 : Int) : Bool := bif bif bif decide (1 ≤ f_1) then decide (f_1 ≤ 64) else false then decide (0 ≤ f_0) else false then decide (f_0 ≤ IntKind.i64.wrap (64 - f_1)) else false
def s_field_Right (f_0 : Int) (f_1 : Int) : AV := AV.val (Value.bool (field_Right_0 f_0 f_1))
theorem t_field_Right (f_0 : Int) (f_1 : Int) : F_ Try.prog L_fz Try.f58 [] [] 99 [AV.agg [AV.val (Value.int IntKind.i64 f_0), AV.val (Value.int IntKind.i64 f_1)]] noMem = some (.ret (s_field_Right f_0 f_1) { bl := [], nx := 99 } true) := by kernel_rfl
def e_field_Right : Spec := fun _ args => match args with
  | [.agg [.val (.int .i64 f_0), .val (.int .i64 f_1)]] => some (s_field_Right f_0 f_1, none, [])
  | _ => none
theorem ok_field_Right : SpecOk Try.prog 58 e_field_Right := fun m args v mo bs h hb => by
  unfold e_field_Right at h
  split at h
  · cases h
    exact pure_fn (c := bodyOf Try.f58) hE_fz mixed (fun xs w => Try.call58 xs w) Try.func58 rfl (t_field_Right _ _) rfl rfl
  · cases h
def L_field_Right : List (FuncId × Spec) := (58, e_field_Right) :: L_fz
theorem hE_field_Right : ESound Try.prog (envOf L_field_Right) := env_cons ok_field_Right hE_fz
def field_Mask_0 (f_0 : Int) (f_1 : Int) : Int := bif !field_Right_0 f_0 f_1 then 0 else IntKind.u64.wrap (Int.fdiv 18446744073709551615 (2 ^ min (IntKind.i64.wrap (64 - f_1)).toNat 64) * 2 ^ min f_0.toNat 64)
def s_field_Mask (f_0 : Int) (f_1 : Int) : AV := AV.val (Value.int IntKind.u64 (field_Mask_0 f_0 f_1))
def c_field_Mask (f_0 : Int) (f_1 : Int) : Bool := bif !field_Right_0 f_0 f_1 then true else bif decide (0 ≤ IntKind.i64.wrap (64 - f_1)) then bif decide (0 ≤ f_0) then true else false else false
theorem t_field_Mask (f_0 : Int) (f_1 : Int) : c_field_Mask f_0 f_1 = true → F_ Try.prog L_field_Right Try.f59 [] [] 99 [AV.agg [AV.val (Value.int IntKind.i64 f_0), AV.val (Value.int IntKind.i64 f_1)]] noMem = some (.ret (s_field_Mask f_0 f_1) { bl := [], nx := 99 } true) := by
  have h : F_ Try.prog L_field_Right Try.f59 [] [] 99 [AV.agg [AV.val (Value.int IntKind.i64 f_0), AV.val (Value.int IntKind.i64 f_1)]] noMem = bif !field_Right_0 f_0 f_1 then some (Fin_.ret (AV.val (Value.int IntKind.u64 0)) { bl := [], nx := 99 } true) else some (Fin_.ret (AV.val (Value.int IntKind.u64 (IntKind.u64.wrap (Int.fdiv 18446744073709551615 (2 ^ min (IntKind.i64.wrap (64 - f_1)).toNat 64) * 2 ^ min f_0.toNat 64)))) { bl := [], nx := 99 } (bif decide (0 ≤ IntKind.i64.wrap (64 - f_1)) then bif decide (0 ≤ f_0) then true else false else false)) := by kernel_rfl
  rw [h]
  clear h
  unfold s_field_Mask field_Mask_0 c_field_Mask
  generalize (decide (0 ≤ IntKind.i64.wrap (64 - f_1))) = b0_
  generalize (decide (0 ≤ f_0)) = b1_
  generalize (field_Right_0 f_0 f_1) = b2_
  cases b0_ <;> cases b1_ <;> cases b2_ <;> (first | rfl | (intro h_; cases h_; done) | (intro _; rfl))
def e_field_Mask : Spec := fun _ args => match args with
  | [.agg [.val (.int .i64 f_0), .val (.int .i64 f_1)]] => some (s_field_Mask f_0 f_1, none, [c_field_Mask f_0 f_1])
  | _ => none
theorem ok_field_Mask : SpecOk Try.prog 59 e_field_Mask := fun m args v mo bs h hb => by
  unfold e_field_Mask at h
  split at h
  · cases h
    exact pure_fn (c := bodyOf Try.f59) hE_field_Right mixed (fun xs w => Try.call59 xs w) Try.func59 rfl (t_field_Mask _ _ (by simpa using hb)) rfl rfl
  · cases h
def L_field_Mask : List (FuncId × Spec) := (59, e_field_Mask) :: L_field_Right
theorem hE_field_Mask : ESound Try.prog (envOf L_field_Mask) := env_cons ok_field_Mask hE_field_Right
def field_Get_0 (w_ : Int) (f_0 : Int) (f_1 : Int) : Int := bif !field_Right_0 f_0 f_1 then 0 else (bits BinOp.and IntKind.u64 w_ (field_Mask_0 f_0 f_1)).fdiv (2 ^ min f_0.toNat 64)
def s_field_Get (w_ : Int) (f_0 : Int) (f_1 : Int) : AV := AV.val (Value.int IntKind.u64 (field_Get_0 w_ f_0 f_1))
def c_field_Get (w_ : Int) (f_0 : Int) (f_1 : Int) : Bool := bif !field_Right_0 f_0 f_1 then true else bif c_field_Mask f_0 f_1 then bif decide (0 ≤ f_0) then true else false else false
theorem t_field_Get (w_ : Int) (f_0 : Int) (f_1 : Int) : c_field_Get w_ f_0 f_1 = true → F_ Try.prog L_field_Mask Try.f50 [] [] 99 [AV.val (Value.int IntKind.u64 w_), AV.agg [AV.val (Value.int IntKind.i64 f_0), AV.val (Value.int IntKind.i64 f_1)]] noMem = some (.ret (s_field_Get w_ f_0 f_1) { bl := [], nx := 99 } true) := by
  have h : F_ Try.prog L_field_Mask Try.f50 [] [] 99 [AV.val (Value.int IntKind.u64 w_), AV.agg [AV.val (Value.int IntKind.i64 f_0), AV.val (Value.int IntKind.i64 f_1)]] noMem = bif !field_Right_0 f_0 f_1 then some (Fin_.ret (AV.val (Value.int IntKind.u64 0)) { bl := [], nx := 99 } true) else some (Fin_.ret (AV.val (Value.int IntKind.u64 ((bits BinOp.and IntKind.u64 w_ (field_Mask_0 f_0 f_1)).fdiv (2 ^ min f_0.toNat 64)))) { bl := [], nx := 99 } (bif c_field_Mask f_0 f_1 then bif decide (0 ≤ f_0) then true else false else false)) := by kernel_rfl
  rw [h]
  clear h
  unfold s_field_Get field_Get_0 c_field_Get
  generalize (decide (0 ≤ f_0)) = b0_
  generalize (field_Right_0 f_0 f_1) = b1_
  generalize (c_field_Mask f_0 f_1) = b2_
  cases b0_ <;> cases b1_ <;> cases b2_ <;> (first | rfl | (intro h_; cases h_; done) | (intro _; rfl))
def e_field_Get : Spec := fun _ args => match args with
  | [.val (.int .u64 w_), .agg [.val (.int .i64 f_0), .val (.int .i64 f_1)]] => some (s_field_Get w_ f_0 f_1, none, [c_field_Get w_ f_0 f_1])
  | _ => none
theorem ok_field_Get : SpecOk Try.prog 50 e_field_Get := fun m args v mo bs h hb => by
  unfold e_field_Get at h
  split at h
  · cases h
    exact pure_fn (c := bodyOf Try.f50) hE_field_Mask mixed (fun xs w => Try.call50 xs w) Try.func50 rfl (t_field_Get _ _ _ (by simpa using hb)) rfl rfl
  · cases h
def L_field_Get : List (FuncId × Spec) := (50, e_field_Get) :: L_field_Mask
theorem hE_field_Get : ESound Try.prog (envOf L_field_Get) := env_cons ok_field_Get hE_field_Mask
def field_Put_0 (w_ : Int) (f_0 : Int) (f_1 : Int) (n_ : Int) : Int := bif !field_Right_0 f_0 f_1 then 0 else bif decide (f_1 < Int.ofNat (Lib.bitLen n_.toNat)) then 0 else bits BinOp.or IntKind.u64 (bits BinOp.andNot IntKind.u64 w_ (field_Mask_0 f_0 f_1)) (IntKind.u64.wrap (n_ * 2 ^ min f_0.toNat 64))
def field_Put_1 (w_ : Int) (f_0 : Int) (f_1 : Int) (n_ : Int) : Int := bif !field_Right_0 f_0 f_1 then 1 else bif decide (f_1 < Int.ofNat (Lib.bitLen n_.toNat)) then 2 else 0
def s_field_Put (w_ : Int) (f_0 : Int) (f_1 : Int) (n_ : Int) : AV := AV.tup [AV.val (Value.int IntKind.u64 (field_Put_0 w_ f_0 f_1 n_)), AV.val (Value.int IntKind.i64 (field_Put_1 w_ f_0 f_1 n_))]
def c_field_Put (w_ : Int) (f_0 : Int) (f_1 : Int) (n_ : Int) : Bool := bif !field_Right_0 f_0 f_1 then true else bif decide (f_1 < Int.ofNat (Lib.bitLen n_.toNat)) then bif decide (0 ≤ n_) then bif decide (n_ ≤ 18446744073709551615) then true else false else false else bif decide (0 ≤ n_) then bif decide (n_ ≤ 18446744073709551615) then bif c_field_Mask f_0 f_1 then bif decide (0 ≤ f_0) then true else false else false else false else false
theorem t_field_Put (w_ : Int) (f_0 : Int) (f_1 : Int) (n_ : Int) : c_field_Put w_ f_0 f_1 n_ = true → F_ Try.prog L_field_Get Try.f61 [] [] 99 [AV.val (Value.int IntKind.u64 w_), AV.agg [AV.val (Value.int IntKind.i64 f_0), AV.val (Value.int IntKind.i64 f_1)], AV.val (Value.int IntKind.u64 n_)] noMem = some (.ret (s_field_Put w_ f_0 f_1 n_) { bl := [], nx := 99 } true) := by
  have h : F_ Try.prog L_field_Get Try.f61 [] [] 99 [AV.val (Value.int IntKind.u64 w_), AV.agg [AV.val (Value.int IntKind.i64 f_0), AV.val (Value.int IntKind.i64 f_1)], AV.val (Value.int IntKind.u64 n_)] noMem = bif !field_Right_0 f_0 f_1 then some (Fin_.ret (AV.tup [AV.val (Value.int IntKind.u64 0), AV.val (Value.int IntKind.i64 1)]) { bl := [], nx := 99 } true) else bif decide (f_1 < Int.ofNat (Lib.bitLen n_.toNat)) then some (Fin_.ret (AV.tup [AV.val (Value.int IntKind.u64 0), AV.val (Value.int IntKind.i64 2)]) { bl := [], nx := 99 } (bif decide (0 ≤ n_) then bif decide (n_ ≤ 18446744073709551615) then true else false else false)) else some (Fin_.ret (AV.tup [AV.val (Value.int IntKind.u64 (bits BinOp.or IntKind.u64 (bits BinOp.andNot IntKind.u64 w_ (field_Mask_0 f_0 f_1)) (IntKind.u64.wrap (n_ * 2 ^ min f_0.toNat 64)))), AV.val (Value.int IntKind.i64 0)]) { bl := [], nx := 99 } (bif decide (0 ≤ n_) then bif decide (n_ ≤ 18446744073709551615) then bif c_field_Mask f_0 f_1 then bif decide (0 ≤ f_0) then true else false else false else false else false)) := by kernel_rfl
  rw [h]
  clear h
  unfold s_field_Put field_Put_0 field_Put_1 c_field_Put
  generalize (decide (0 ≤ f_0)) = b0_
  generalize (decide (0 ≤ n_)) = b1_
  generalize (decide (f_1 < Int.ofNat (Lib.bitLen n_.toNat))) = b2_
  generalize (decide (n_ ≤ 18446744073709551615)) = b3_
  generalize (field_Right_0 f_0 f_1) = b4_
  generalize (c_field_Mask f_0 f_1) = b5_
  cases b0_ <;> cases b1_ <;> cases b2_ <;> cases b3_ <;> cases b4_ <;> cases b5_ <;> (first | rfl | (intro h_; cases h_; done) | (intro _; rfl))
def e_field_Put : Spec := fun _ args => match args with
  | [.val (.int .u64 w_), .agg [.val (.int .i64 f_0), .val (.int .i64 f_1)], .val (.int .u64 n_)] => some (s_field_Put w_ f_0 f_1 n_, none, [c_field_Put w_ f_0 f_1 n_])
  | _ => none
theorem ok_field_Put : SpecOk Try.prog 61 e_field_Put := fun m args v mo bs h hb => by
  unfold e_field_Put at h
  split at h
  · cases h
    exact pure_fn (c := bodyOf Try.f61) hE_field_Get mixed (fun xs w => Try.call61 xs w) Try.func61 rfl (t_field_Put _ _ _ _ (by simpa using hb)) rfl rfl
  · cases h
def L_field_Put : List (FuncId × Spec) := (61, e_field_Put) :: L_field_Get
theorem hE_field_Put : ESound Try.prog (envOf L_field_Put) := env_cons ok_field_Put hE_field_Get
def s_header_place : AV := AV.agg [AV.val (Value.int IntKind.i64 0), AV.val (Value.int IntKind.i64 40)]
theorem t_header_place : F_ Try.prog L_field_Put Try.f51 [] [] 99 [] noMem = some (.ret (s_header_place) { bl := [], nx := 99 } true) := by kernel_rfl
def e_header_place : Spec := fun _ args => match args with
  | [] => some (s_header_place , none, [])
  | _ => none
theorem ok_header_place : SpecOk Try.prog 51 e_header_place := fun m args v mo bs h hb => by
  unfold e_header_place at h
  split at h
  · cases h
    exact pure_fn (c := bodyOf Try.f51) hE_field_Put mixed (fun xs w => Try.call51 xs w) Try.func51 rfl (t_header_place) rfl rfl
  · cases h
def L_header_place : List (FuncId × Spec) := (51, e_header_place) :: L_field_Put
theorem hE_header_place : ESound Try.prog (envOf L_header_place) := env_cons ok_header_place hE_field_Put
def header_Forward_0 (at_ : Int) : Int := bif !header_within_0 at_ 4194303 then 0 else bits BinOp.or IntKind.u64 9223372036854775808 (IntKind.u64.wrap at_)
def header_Forward_1 (at_ : Int) : Int := bif !header_within_0 at_ 4194303 then 2 else 0
def s_header_Forward (at_ : Int) : AV := AV.tup [AV.val (Value.int IntKind.u64 (header_Forward_0 at_)), AV.val (Value.int IntKind.i64 (header_Forward_1 at_))]
theorem t_header_Forward (at_ : Int) : F_ Try.prog L_header_place Try.f13 [] [] 99 [AV.val (Value.int IntKind.i64 at_)] noMem = some (.ret (s_header_Forward at_) { bl := [], nx := 99 } true) := by
  have h : F_ Try.prog L_header_place Try.f13 [] [] 99 [AV.val (Value.int IntKind.i64 at_)] noMem = bif !header_within_0 at_ 4194303 then some (Fin_.ret (AV.tup [AV.val (Value.int IntKind.u64 0), AV.val (Value.int IntKind.i64 2)]) { bl := [], nx := 99 } true) else some (Fin_.ret (AV.tup [AV.val (Value.int IntKind.u64 (bits BinOp.or IntKind.u64 9223372036854775808 (IntKind.u64.wrap at_))), AV.val (Value.int IntKind.i64 0)]) { bl := [], nx := 99 } true) := by kernel_rfl
  rw [h]
  clear h
  unfold s_header_Forward header_Forward_0 header_Forward_1
  generalize (!header_within_0 at_ 4194303) = b0_
  cases b0_
  ·
    rfl
  ·
    rfl
def e_header_Forward : Spec := fun _ args => match args with
  | [.val (.int .i64 at_)] => some (s_header_Forward at_, none, [])
  | _ => none
theorem ok_header_Forward : SpecOk Try.prog 13 e_header_Forward := fun m args v mo bs h hb => by
  unfold e_header_Forward at h
  split at h
  · cases h
    exact pure_fn (c := bodyOf Try.f13) hE_header_place mixed (fun xs w => Try.call13 xs w) Try.func13 rfl (t_header_Forward _) rfl rfl
  · cases h
def L_header_Forward : List (FuncId × Spec) := (13, e_header_Forward) :: L_header_place
theorem hE_header_Forward : ESound Try.prog (envOf L_header_Forward) := env_cons ok_header_Forward hE_header_place
def haymowref12_Check_0 (h_0 : Int) (h_1 : Int) (h_2 : Int) (h_3 : Int) (h_4 : Bool) : Int := bif bif bif bif decide (h_0 < 0) then true else decide (4095 < h_0) then true else decide (h_1 < 0) then true else decide (4095 < h_1) then 20 else bif bif decide (h_2 < 0) then true else decide (31 < h_2) then 21 else bif bif decide (h_3 < 0) then true else decide (7 < h_3) then 2 else 0
def s_haymowref12_Check (h_0 : Int) (h_1 : Int) (h_2 : Int) (h_3 : Int) (h_4 : Bool) : AV := AV.val (Value.int IntKind.i64 (haymowref12_Check_0 h_0 h_1 h_2 h_3 h_4))
theorem t_haymowref12_Check (h_0 : Int) (h_1 : Int) (h_2 : Int) (h_3 : Int) (h_4 : Bool) : F_ Try.prog L_header_Forward Try.f16 [] [] 99 [AV.agg [AV.val (Value.int IntKind.i64 h_0), AV.val (Value.int IntKind.i64 h_1), AV.val (Value.int IntKind.i64 h_2), AV.val (Value.int IntKind.i64 h_3), AV.val (Value.bool h_4)]] noMem = some (.ret (s_haymowref12_Check h_0 h_1 h_2 h_3 h_4) { bl := [], nx := 99 } true) := by
  have h : F_ Try.prog L_header_Forward Try.f16 [] [] 99 [AV.agg [AV.val (Value.int IntKind.i64 h_0), AV.val (Value.int IntKind.i64 h_1), AV.val (Value.int IntKind.i64 h_2), AV.val (Value.int IntKind.i64 h_3), AV.val (Value.bool h_4)]] noMem = bif bif bif bif decide (h_0 < 0) then true else decide (4095 < h_0) then true else decide (h_1 < 0) then true else decide (4095 < h_1) then some (Fin_.ret (AV.val (Value.int IntKind.i64 20)) { bl := [], nx := 99 } true) else bif bif decide (h_2 < 0) then true else decide (31 < h_2) then some (Fin_.ret (AV.val (Value.int IntKind.i64 21)) { bl := [], nx := 99 } true) else bif bif decide (h_3 < 0) then true else decide (7 < h_3) then some (Fin_.ret (AV.val (Value.int IntKind.i64 2)) { bl := [], nx := 99 } true) else some (Fin_.ret (AV.val (Value.int IntKind.i64 0)) { bl := [], nx := 99 } true) := by kernel_rfl
  rw [h]
  clear h
  unfold s_haymowref12_Check haymowref12_Check_0
  generalize (bif bif bif decide (h_0 < 0) then true else decide (4095 < h_0) then true else decide (h_1 < 0) then true else decide (4095 < h_1)) = b0_
  generalize (bif decide (h_3 < 0) then true else decide (7 < h_3)) = b1_
  generalize (bif decide (h_2 < 0) then true else decide (31 < h_2)) = b2_
  cases b0_
  ·
    cases b2_
    ·
      cases b1_
      ·
        rfl
      ·
        rfl
    ·
      rfl
  ·
    rfl
def e_haymowref12_Check : Spec := fun _ args => match args with
  | [.agg [.val (.int .i64 h_0), .val (.int .i64 h_1), .val (.int .i64 h_2), .val (.int .i64 h_3), .val (.bool h_4)]] => some (s_haymowref12_Check h_0 h_1 h_2 h_3 h_4, none, [])
  | _ => none
theorem ok_haymowref12_Check : SpecOk Try.prog 16 e_haymowref12_Check := fun m args v mo bs h hb => by
  unfold e_haymowref12_Check at h
  split at h
  · cases h
    exact pure_fn (c := bodyOf Try.f16) hE_header_Forward mixed (fun xs w => Try.call16 xs w) Try.func16 rfl (t_haymowref12_Check _ _ _ _ _) rfl rfl
  · cases h
def L_haymowref12_Check : List (FuncId × Spec) := (16, e_haymowref12_Check) :: L_header_Forward
theorem hE_haymowref12_Check : ESound Try.prog (envOf L_haymowref12_Check) := env_cons ok_haymowref12_Check hE_header_Forward
def haymowref12_Pack_0 (h_0 : Int) (h_1 : Int) (h_2 : Int) (h_3 : Int) (h_4 : Bool) : Int := bif h_4 then IntKind.u64.wrap (IntKind.u64.wrap (IntKind.u64.wrap (IntKind.u64.wrap (4611686022722355200 + IntKind.u64.wrap (IntKind.u64.wrap h_3 * 536870912)) + IntKind.u64.wrap (IntKind.u64.wrap h_2 * 16777216)) + IntKind.u64.wrap (IntKind.u64.wrap h_1 * 4096)) + IntKind.u64.wrap h_0) else IntKind.u64.wrap (IntKind.u64.wrap (IntKind.u64.wrap (IntKind.u64.wrap (4611686018427387904 + IntKind.u64.wrap (IntKind.u64.wrap h_3 * 536870912)) + IntKind.u64.wrap (IntKind.u64.wrap h_2 * 16777216)) + IntKind.u64.wrap (IntKind.u64.wrap h_1 * 4096)) + IntKind.u64.wrap h_0)
def s_haymowref12_Pack (h_0 : Int) (h_1 : Int) (h_2 : Int) (h_3 : Int) (h_4 : Bool) : AV := AV.val (Value.int IntKind.u64 (haymowref12_Pack_0 h_0 h_1 h_2 h_3 h_4))
theorem t_haymowref12_Pack (h_0 : Int) (h_1 : Int) (h_2 : Int) (h_3 : Int) (h_4 : Bool) : F_ Try.prog L_haymowref12_Check Try.f20 [] [] 99 [AV.agg [AV.val (Value.int IntKind.i64 h_0), AV.val (Value.int IntKind.i64 h_1), AV.val (Value.int IntKind.i64 h_2), AV.val (Value.int IntKind.i64 h_3), AV.val (Value.bool h_4)]] noMem = some (.ret (s_haymowref12_Pack h_0 h_1 h_2 h_3 h_4) { bl := [], nx := 99 } true) := by
  have h : F_ Try.prog L_haymowref12_Check Try.f20 [] [] 99 [AV.agg [AV.val (Value.int IntKind.i64 h_0), AV.val (Value.int IntKind.i64 h_1), AV.val (Value.int IntKind.i64 h_2), AV.val (Value.int IntKind.i64 h_3), AV.val (Value.bool h_4)]] noMem = bif h_4 then some (Fin_.ret (AV.val (Value.int IntKind.u64 (IntKind.u64.wrap (IntKind.u64.wrap (IntKind.u64.wrap (IntKind.u64.wrap (4611686022722355200 + IntKind.u64.wrap (IntKind.u64.wrap h_3 * 536870912)) + IntKind.u64.wrap (IntKind.u64.wrap h_2 * 16777216)) + IntKind.u64.wrap (IntKind.u64.wrap h_1 * 4096)) + IntKind.u64.wrap h_0)))) { bl := [], nx := 99 } true) else some (Fin_.ret (AV.val (Value.int IntKind.u64 (IntKind.u64.wrap (IntKind.u64.wrap (IntKind.u64.wrap (IntKind.u64.wrap (4611686018427387904 + IntKind.u64.wrap (IntKind.u64.wrap h_3 * 536870912)) + IntKind.u64.wrap (IntKind.u64.wrap h_2 * 16777216)) + IntKind.u64.wrap (IntKind.u64.wrap h_1 * 4096)) + IntKind.u64.wrap h_0)))) { bl := [], nx := 99 } true) := by kernel_rfl
  rw [h]
  clear h
  unfold s_haymowref12_Pack haymowref12_Pack_0
  generalize h_4 = b0_
  cases b0_
  ·
    rfl
  ·
    rfl
def e_haymowref12_Pack : Spec := fun _ args => match args with
  | [.agg [.val (.int .i64 h_0), .val (.int .i64 h_1), .val (.int .i64 h_2), .val (.int .i64 h_3), .val (.bool h_4)]] => some (s_haymowref12_Pack h_0 h_1 h_2 h_3 h_4, none, [])
  | _ => none
theorem ok_haymowref12_Pack : SpecOk Try.prog 20 e_haymowref12_Pack := fun m args v mo bs h hb => by
  unfold e_haymowref12_Pack at h
  split at h
  · cases h
    exact pure_fn (c := bodyOf Try.f20) hE_haymowref12_Check mixed (fun xs w => Try.call20 xs w) Try.func20 rfl (t_haymowref12_Pack _ _ _ _ _) rfl rfl
  · cases h
def L_haymowref12_Pack : List (FuncId × Spec) := (20, e_haymowref12_Pack) :: L_haymowref12_Check
theorem hE_haymowref12_Pack : ESound Try.prog (envOf L_haymowref12_Pack) := env_cons ok_haymowref12_Pack hE_haymowref12_Check
def haymowref12_Older_0 (h_0 : Int) (h_1 : Int) (h_2 : Int) (h_3 : Int) (h_4 : Bool) : Int := bif decide (h_3 < 7) then IntKind.i64.wrap (h_3 + 1) else h_3
def s_haymowref12_Older (h_0 : Int) (h_1 : Int) (h_2 : Int) (h_3 : Int) (h_4 : Bool) : AV := AV.agg [AV.val (Value.int IntKind.i64 h_0), AV.val (Value.int IntKind.i64 h_1), AV.val (Value.int IntKind.i64 h_2), AV.val (Value.int IntKind.i64 (haymowref12_Older_0 h_0 h_1 h_2 h_3 h_4)), AV.val (Value.bool h_4)]
theorem t_haymowref12_Older (h_0 : Int) (h_1 : Int) (h_2 : Int) (h_3 : Int) (h_4 : Bool) : F_ Try.prog L_haymowref12_Pack Try.f21 [] [] 99 [AV.agg [AV.val (Value.int IntKind.i64 h_0), AV.val (Value.int IntKind.i64 h_1), AV.val (Value.int IntKind.i64 h_2), AV.val (Value.int IntKind.i64 h_3), AV.val (Value.bool h_4)]] noMem = some (.ret (s_haymowref12_Older h_0 h_1 h_2 h_3 h_4) { bl := [], nx := 99 } true) := by
  have h : F_ Try.prog L_haymowref12_Pack Try.f21 [] [] 99 [AV.agg [AV.val (Value.int IntKind.i64 h_0), AV.val (Value.int IntKind.i64 h_1), AV.val (Value.int IntKind.i64 h_2), AV.val (Value.int IntKind.i64 h_3), AV.val (Value.bool h_4)]] noMem = bif decide (h_3 < 7) then some (Fin_.ret (AV.agg [AV.val (Value.int IntKind.i64 h_0), AV.val (Value.int IntKind.i64 h_1), AV.val (Value.int IntKind.i64 h_2), AV.val (Value.int IntKind.i64 (IntKind.i64.wrap (h_3 + 1))), AV.val (Value.bool h_4)]) { bl := [], nx := 99 } true) else some (Fin_.ret (AV.agg [AV.val (Value.int IntKind.i64 h_0), AV.val (Value.int IntKind.i64 h_1), AV.val (Value.int IntKind.i64 h_2), AV.val (Value.int IntKind.i64 h_3), AV.val (Value.bool h_4)]) { bl := [], nx := 99 } true) := by kernel_rfl
  rw [h]
  clear h
  unfold s_haymowref12_Older haymowref12_Older_0
  generalize (decide (h_3 < 7)) = b0_
  cases b0_
  ·
    rfl
  ·
    rfl
def e_haymowref12_Older : Spec := fun _ args => match args with
  | [.agg [.val (.int .i64 h_0), .val (.int .i64 h_1), .val (.int .i64 h_2), .val (.int .i64 h_3), .val (.bool h_4)]] => some (s_haymowref12_Older h_0 h_1 h_2 h_3 h_4, none, [])
  | _ => none
theorem ok_haymowref12_Older : SpecOk Try.prog 21 e_haymowref12_Older := fun m args v mo bs h hb => by
  unfold e_haymowref12_Older at h
  split at h
  · cases h
    exact pure_fn (c := bodyOf Try.f21) hE_haymowref12_Pack mixed (fun xs w => Try.call21 xs w) Try.func21 rfl (t_haymowref12_Older _ _ _ _ _) rfl rfl
  · cases h
def L_haymowref12_Older : List (FuncId × Spec) := (21, e_haymowref12_Older) :: L_haymowref12_Pack
theorem hE_haymowref12_Older : ESound Try.prog (envOf L_haymowref12_Older) := env_cons ok_haymowref12_Older hE_haymowref12_Pack
def haymowref12_Forwarded_0 (w_ : Int) : Int := bif bif decide (w_ < 9223372036854775808) then true else decide (4194304 ≤ IntKind.u64.wrap (w_ - 9223372036854775808)) then 0 else IntKind.i64.wrap (IntKind.u64.wrap (w_ - 9223372036854775808))
def haymowref12_Forwarded_1 (w_ : Int) : Bool := bif bif decide (w_ < 9223372036854775808) then true else decide (4194304 ≤ IntKind.u64.wrap (w_ - 9223372036854775808)) then false else true
def s_haymowref12_Forwarded (w_ : Int) : AV := AV.tup [AV.val (Value.int IntKind.i64 (haymowref12_Forwarded_0 w_)), AV.val (Value.bool (haymowref12_Forwarded_1 w_))]
theorem t_haymowref12_Forwarded (w_ : Int) : F_ Try.prog L_haymowref12_Older Try.f24 [] [] 99 [AV.val (Value.int IntKind.u64 w_)] noMem = some (.ret (s_haymowref12_Forwarded w_) { bl := [], nx := 99 } true) := by
  have h : F_ Try.prog L_haymowref12_Older Try.f24 [] [] 99 [AV.val (Value.int IntKind.u64 w_)] noMem = bif bif decide (w_ < 9223372036854775808) then true else decide (4194304 ≤ IntKind.u64.wrap (w_ - 9223372036854775808)) then some (Fin_.ret (AV.tup [AV.val (Value.int IntKind.i64 0), AV.val (Value.bool false)]) { bl := [], nx := 99 } true) else some (Fin_.ret (AV.tup [AV.val (Value.int IntKind.i64 (IntKind.i64.wrap (IntKind.u64.wrap (w_ - 9223372036854775808)))), AV.val (Value.bool true)]) { bl := [], nx := 99 } true) := by kernel_rfl
  rw [h]
  clear h
  unfold s_haymowref12_Forwarded haymowref12_Forwarded_0 haymowref12_Forwarded_1
  generalize (bif decide (w_ < 9223372036854775808) then true else decide (4194304 ≤ IntKind.u64.wrap (w_ - 9223372036854775808))) = b0_
  cases b0_
  ·
    rfl
  ·
    rfl
def e_haymowref12_Forwarded : Spec := fun _ args => match args with
  | [.val (.int .u64 w_)] => some (s_haymowref12_Forwarded w_, none, [])
  | _ => none
theorem ok_haymowref12_Forwarded : SpecOk Try.prog 24 e_haymowref12_Forwarded := fun m args v mo bs h hb => by
  unfold e_haymowref12_Forwarded at h
  split at h
  · cases h
    exact pure_fn (c := bodyOf Try.f24) hE_haymowref12_Older mixed (fun xs w => Try.call24 xs w) Try.func24 rfl (t_haymowref12_Forwarded _) rfl rfl
  · cases h
def L_haymowref12_Forwarded : List (FuncId × Spec) := (24, e_haymowref12_Forwarded) :: L_haymowref12_Older
theorem hE_haymowref12_Forwarded : ESound Try.prog (envOf L_haymowref12_Forwarded) := env_cons ok_haymowref12_Forwarded hE_haymowref12_Older
def haymowref12_Unpack_0 (w_ : Int) : Int := bif haymowref12_Pack_0 (IntKind.i64.wrap (w_.tmod 4096)) (IntKind.i64.wrap ((IntKind.u64.wrap (w_.tdiv 4096)).tmod 4096)) (IntKind.i64.wrap ((IntKind.u64.wrap (w_.tdiv 16777216)).tmod 32)) (IntKind.i64.wrap ((IntKind.u64.wrap (w_.tdiv 536870912)).tmod 8)) ((IntKind.u64.wrap (w_.tdiv 4294967296)).tmod 2 == 1) != w_ then 0 else IntKind.i64.wrap (w_.tmod 4096)
def haymowref12_Unpack_1 (w_ : Int) : Int := bif haymowref12_Pack_0 (IntKind.i64.wrap (w_.tmod 4096)) (IntKind.i64.wrap ((IntKind.u64.wrap (w_.tdiv 4096)).tmod 4096)) (IntKind.i64.wrap ((IntKind.u64.wrap (w_.tdiv 16777216)).tmod 32)) (IntKind.i64.wrap ((IntKind.u64.wrap (w_.tdiv 536870912)).tmod 8)) ((IntKind.u64.wrap (w_.tdiv 4294967296)).tmod 2 == 1) != w_ then 0 else IntKind.i64.wrap ((IntKind.u64.wrap (w_.tdiv 4096)).tmod 4096)
def haymowref12_Unpack_2 (w_ : Int) : Int := bif haymowref12_Pack_0 (IntKind.i64.wrap (w_.tmod 4096)) (IntKind.i64.wrap ((IntKind.u64.wrap (w_.tdiv 4096)).tmod 4096)) (IntKind.i64.wrap ((IntKind.u64.wrap (w_.tdiv 16777216)).tmod 32)) (IntKind.i64.wrap ((IntKind.u64.wrap (w_.tdiv 536870912)).tmod 8)) ((IntKind.u64.wrap (w_.tdiv 4294967296)).tmod 2 == 1) != w_ then 0 else IntKind.i64.wrap ((IntKind.u64.wrap (w_.tdiv 16777216)).tmod 32)
def haymowref12_Unpack_3 (w_ : Int) : Int := bif haymowref12_Pack_0 (IntKind.i64.wrap (w_.tmod 4096)) (IntKind.i64.wrap ((IntKind.u64.wrap (w_.tdiv 4096)).tmod 4096)) (IntKind.i64.wrap ((IntKind.u64.wrap (w_.tdiv 16777216)).tmod 32)) (IntKind.i64.wrap ((IntKind.u64.wrap (w_.tdiv 536870912)).tmod 8)) ((IntKind.u64.wrap (w_.tdiv 4294967296)).tmod 2 == 1) != w_ then 0 else IntKind.i64.wrap ((IntKind.u64.wrap (w_.tdiv 536870912)).tmod 8)
def haymowref12_Unpack_4 (w_ : Int) : Bool := bif haymowref12_Pack_0 (IntKind.i64.wrap (w_.tmod 4096)) (IntKind.i64.wrap ((IntKind.u64.wrap (w_.tdiv 4096)).tmod 4096)) (IntKind.i64.wrap ((IntKind.u64.wrap (w_.tdiv 16777216)).tmod 32)) (IntKind.i64.wrap ((IntKind.u64.wrap (w_.tdiv 536870912)).tmod 8)) ((IntKind.u64.wrap (w_.tdiv 4294967296)).tmod 2 == 1) != w_ then false else (IntKind.u64.wrap (w_.tdiv 4294967296)).tmod 2 == 1
def haymowref12_Unpack_5 (w_ : Int) : Bool := bif haymowref12_Pack_0 (IntKind.i64.wrap (w_.tmod 4096)) (IntKind.i64.wrap ((IntKind.u64.wrap (w_.tdiv 4096)).tmod 4096)) (IntKind.i64.wrap ((IntKind.u64.wrap (w_.tdiv 16777216)).tmod 32)) (IntKind.i64.wrap ((IntKind.u64.wrap (w_.tdiv 536870912)).tmod 8)) ((IntKind.u64.wrap (w_.tdiv 4294967296)).tmod 2 == 1) != w_ then false else true
def s_haymowref12_Unpack (w_ : Int) : AV := AV.tup [AV.agg [AV.val (Value.int IntKind.i64 (haymowref12_Unpack_0 w_)), AV.val (Value.int IntKind.i64 (haymowref12_Unpack_1 w_)), AV.val (Value.int IntKind.i64 (haymowref12_Unpack_2 w_)), AV.val (Value.int IntKind.i64 (haymowref12_Unpack_3 w_)), AV.val (Value.bool (haymowref12_Unpack_4 w_))], AV.val (Value.bool (haymowref12_Unpack_5 w_))]
theorem t_haymowref12_Unpack (w_ : Int) : F_ Try.prog L_haymowref12_Forwarded Try.f23 [] [] 99 [AV.val (Value.int IntKind.u64 w_)] noMem = some (.ret (s_haymowref12_Unpack w_) { bl := [], nx := 99 } true) := by
  have h : F_ Try.prog L_haymowref12_Forwarded Try.f23 [] [] 99 [AV.val (Value.int IntKind.u64 w_)] noMem = bif haymowref12_Pack_0 (IntKind.i64.wrap (w_.tmod 4096)) (IntKind.i64.wrap ((IntKind.u64.wrap (w_.tdiv 4096)).tmod 4096)) (IntKind.i64.wrap ((IntKind.u64.wrap (w_.tdiv 16777216)).tmod 32)) (IntKind.i64.wrap ((IntKind.u64.wrap (w_.tdiv 536870912)).tmod 8)) ((IntKind.u64.wrap (w_.tdiv 4294967296)).tmod 2 == 1) != w_ then some (Fin_.ret (AV.tup [AV.agg [AV.val (Value.int IntKind.i64 0), AV.val (Value.int IntKind.i64 0), AV.val (Value.int IntKind.i64 0), AV.val (Value.int IntKind.i64 0), AV.val (Value.bool false)], AV.val (Value.bool false)]) { bl := [], nx := 99 } true) else some (Fin_.ret (AV.tup [AV.agg [AV.val (Value.int IntKind.i64 (IntKind.i64.wrap (w_.tmod 4096))), AV.val (Value.int IntKind.i64 (IntKind.i64.wrap ((IntKind.u64.wrap (w_.tdiv 4096)).tmod 4096))), AV.val (Value.int IntKind.i64 (IntKind.i64.wrap ((IntKind.u64.wrap (w_.tdiv 16777216)).tmod 32))), AV.val (Value.int IntKind.i64 (IntKind.i64.wrap ((IntKind.u64.wrap (w_.tdiv 536870912)).tmod 8))), AV.val (Value.bool ((IntKind.u64.wrap (w_.tdiv 4294967296)).tmod 2 == 1))], AV.val (Value.bool true)]) { bl := [], nx := 99 } true) := by kernel_rfl
  rw [h]
  clear h
  unfold s_haymowref12_Unpack haymowref12_Unpack_0 haymowref12_Unpack_1 haymowref12_Unpack_2 haymowref12_Unpack_3 haymowref12_Unpack_4 haymowref12_Unpack_5
  generalize (haymowref12_Pack_0 (IntKind.i64.wrap (w_.tmod 4096)) (IntKind.i64.wrap ((IntKind.u64.wrap (w_.tdiv 4096)).tmod 4096)) (IntKind.i64.wrap ((IntKind.u64.wrap (w_.tdiv 16777216)).tmod 32)) (IntKind.i64.wrap ((IntKind.u64.wrap (w_.tdiv 536870912)).tmod 8)) ((IntKind.u64.wrap (w_.tdiv 4294967296)).tmod 2 == 1) != w_) = b0_
  cases b0_
  ·
    rfl
  ·
    rfl
def e_haymowref12_Unpack : Spec := fun _ args => match args with
  | [.val (.int .u64 w_)] => some (s_haymowref12_Unpack w_, none, [])
  | _ => none
theorem ok_haymowref12_Unpack : SpecOk Try.prog 23 e_haymowref12_Unpack := fun m args v mo bs h hb => by
  unfold e_haymowref12_Unpack at h
  split at h
  · cases h
    exact pure_fn (c := bodyOf Try.f23) hE_haymowref12_Forwarded mixed (fun xs w => Try.call23 xs w) Try.func23 rfl (t_haymowref12_Unpack _) rfl rfl
  · cases h
def L_haymowref12_Unpack : List (FuncId × Spec) := (23, e_haymowref12_Unpack) :: L_haymowref12_Forwarded
theorem hE_haymowref12_Unpack : ESound Try.prog (envOf L_haymowref12_Unpack) := env_cons ok_haymowref12_Unpack hE_haymowref12_Forwarded
def header_Forwarded_0 (w_ : Int) : Int := bif bif header_Forward_1 (IntKind.i64.wrap (field_Get_0 w_ 0 40)) != 0 then true else header_Forward_0 (IntKind.i64.wrap (field_Get_0 w_ 0 40)) != w_ then 0 else IntKind.i64.wrap (field_Get_0 w_ 0 40)
def header_Forwarded_1 (w_ : Int) : Bool := bif bif header_Forward_1 (IntKind.i64.wrap (field_Get_0 w_ 0 40)) != 0 then true else header_Forward_0 (IntKind.i64.wrap (field_Get_0 w_ 0 40)) != w_ then false else true
def s_header_Forwarded (w_ : Int) : AV := AV.tup [AV.val (Value.int IntKind.i64 (header_Forwarded_0 w_)), AV.val (Value.bool (header_Forwarded_1 w_))]
theorem t_header_Forwarded (w_ : Int) : F_ Try.prog L_haymowref12_Unpack Try.f14 [] [] 99 [AV.val (Value.int IntKind.u64 w_)] noMem = some (.ret (s_header_Forwarded w_) { bl := [], nx := 99 } true) := by
  have h : F_ Try.prog L_haymowref12_Unpack Try.f14 [] [] 99 [AV.val (Value.int IntKind.u64 w_)] noMem = bif bif header_Forward_1 (IntKind.i64.wrap (field_Get_0 w_ 0 40)) != 0 then true else header_Forward_0 (IntKind.i64.wrap (field_Get_0 w_ 0 40)) != w_ then some (Fin_.ret (AV.tup [AV.val (Value.int IntKind.i64 0), AV.val (Value.bool false)]) { bl := [], nx := 99 } true) else some (Fin_.ret (AV.tup [AV.val (Value.int IntKind.i64 (IntKind.i64.wrap (field_Get_0 w_ 0 40))), AV.val (Value.bool true)]) { bl := [], nx := 99 } true) := by kernel_rfl
  rw [h]
  clear h
  unfold s_header_Forwarded header_Forwarded_0 header_Forwarded_1
  generalize (bif header_Forward_1 (IntKind.i64.wrap (field_Get_0 w_ 0 40)) != 0 then true else header_Forward_0 (IntKind.i64.wrap (field_Get_0 w_ 0 40)) != w_) = b0_
  cases b0_
  ·
    rfl
  ·
    rfl
def e_header_Forwarded : Spec := fun _ args => match args with
  | [.val (.int .u64 w_)] => some (s_header_Forwarded w_, none, [])
  | _ => none
theorem ok_header_Forwarded : SpecOk Try.prog 14 e_header_Forwarded := fun m args v mo bs h hb => by
  unfold e_header_Forwarded at h
  split at h
  · cases h
    exact pure_fn (c := bodyOf Try.f14) hE_haymowref12_Unpack mixed (fun xs w => Try.call14 xs w) Try.func14 rfl (t_header_Forwarded _) rfl rfl
  · cases h
def L_header_Forwarded : List (FuncId × Spec) := (14, e_header_Forwarded) :: L_haymowref12_Unpack
theorem hE_header_Forwarded : ESound Try.prog (envOf L_header_Forwarded) := env_cons ok_header_Forwarded hE_haymowref12_Unpack
end Go.Proofs.Ytnkpegdmbocgaaa
