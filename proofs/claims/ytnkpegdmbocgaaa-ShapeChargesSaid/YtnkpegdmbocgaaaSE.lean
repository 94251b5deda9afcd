/-
  What functions hand back, reckoned from their text.
-/
import Derived.Test.YtnkpegdmbocgaaaProg
import Derived.Test.YtnkpegdmbocgaaaSD
namespace Go.Proofs.Ytnkpegdmbocgaaa
open Go Go.RowKit
def shape_Class_0 (s_0 : Int) (s_1 : Int) : Int := class_Of_0 (shape_Words_0 s_0 s_1)
def s_shape_Class (s_0 : Int) (s_1 : Int) : AV := AV.val (Value.int IntKind.i64 (shape_Class_0 s_0 s_1))
def c_shape_Class (s_0 : Int) (s_1 : Int) : Bool := bif c_class_Of (shape_Words_0 s_0 s_1) then true else false
theorem t_shape_Class (s_0 : Int) (s_1 : Int) : c_shape_Class s_0 s_1 = true → F_ Try.prog L_both Try.f48 [] [] 99 [AV.agg [AV.val (Value.int IntKind.i64 s_0), AV.val (Value.int IntKind.i64 s_1)]] noMem = some (.ret (s_shape_Class s_0 s_1) { bl := [], nx := 99 } true) := by
  have h : F_ Try.prog L_both Try.f48 [] [] 99 [AV.agg [AV.val (Value.int IntKind.i64 s_0), AV.val (Value.int IntKind.i64 s_1)]] noMem = some (Fin_.ret (AV.val (Value.int IntKind.i64 (class_Of_0 (shape_Words_0 s_0 s_1)))) { bl := [], nx := 99 } (bif c_class_Of (shape_Words_0 s_0 s_1) then true else false)) := by kernel_rfl
  rw [h]
  clear h
  unfold s_shape_Class shape_Class_0 c_shape_Class
  generalize (c_class_Of (shape_Words_0 s_0 s_1)) = b0_
  cases b0_ <;> (first | rfl | (intro h_; cases h_; done) | (intro _; rfl))
def e_shape_Class : Spec := fun _ args => match args with
  | [.agg [.val (.int .i64 s_0), .val (.int .i64 s_1)]] => some (s_shape_Class s_0 s_1, none, [c_shape_Class s_0 s_1])
  | _ => none
theorem ok_shape_Class : SpecOk Try.prog 48 e_shape_Class := fun m args v mo bs h hb => by
  unfold e_shape_Class at h
  split at h
  · cases h
    exact pure_fn (c := bodyOf Try.f48) hE_both mixed (fun xs w => Try.call48 xs w) Try.func48 rfl (t_shape_Class _ _ (by simpa using hb)) rfl rfl
  · cases h
def L_shape_Class : List (FuncId × Spec) := (48, e_shape_Class) :: L_both
theorem hE_shape_Class : ESound Try.prog (envOf L_shape_Class) := env_cons ok_shape_Class hE_both
def haymowlaw13_ShapeCharges_0 (s_0 : Int) (s_1 : Int) (small_ : Int) (slots_ : Int) : Bool := bif bif bif bif bif shape_Right_0 s_0 s_1 == haymowref13_Right_0 s_0 s_1 then shape_Words_0 s_0 s_1 == haymowref13_Words_0 s_0 s_1 else false then shape_Large_0 s_0 s_1 small_ == decide (small_ < haymowref13_Words_0 s_0 s_1) else false then shape_Charge_0 s_0 s_1 small_ == haymowref13_Charge_0 s_0 s_1 small_ else false then shape_Frame_0 slots_ == haymowref13_Frame_0 slots_ else false then shape_Class_0 s_0 s_1 == haymowref04_Of_0 (haymowref13_Words_0 s_0 s_1) else false
def s_haymowlaw13_ShapeCharges (s_0 : Int) (s_1 : Int) (small_ : Int) (slots_ : Int) : AV := AV.val (Value.bool (haymowlaw13_ShapeCharges_0 s_0 s_1 small_ slots_))
def c_haymowlaw13_ShapeCharges (s_0 : Int) (s_1 : Int) (small_ : Int) (slots_ : Int) : Bool := bif (!bif bif bif bif shape_Right_0 s_0 s_1 == haymowref13_Right_0 s_0 s_1 then shape_Words_0 s_0 s_1 == haymowref13_Words_0 s_0 s_1 else false then shape_Large_0 s_0 s_1 small_ == decide (small_ < haymowref13_Words_0 s_0 s_1) else false then shape_Charge_0 s_0 s_1 small_ == haymowref13_Charge_0 s_0 s_1 small_ else false then shape_Frame_0 slots_ == haymowref13_Frame_0 slots_ else false) || c_shape_Class s_0 s_1 then true else false
theorem t_haymowlaw13_ShapeCharges (s_0 : Int) (s_1 : Int) (small_ : Int) (slots_ : Int) : c_haymowlaw13_ShapeCharges s_0 s_1 small_ slots_ = true → F_ Try.prog L_shape_Class Try.f11 [] [] 99 [AV.agg [AV.val (Value.int IntKind.i64 s_0), AV.val (Value.int IntKind.i64 s_1)], AV.val (Value.int IntKind.i64 small_), AV.val (Value.int IntKind.i64 slots_)] noMem = some (.ret (s_haymowlaw13_ShapeCharges s_0 s_1 small_ slots_) { bl := [], nx := 99 } true) := by
  have h : F_ Try.prog L_shape_Class Try.f11 [] [] 99 [AV.agg [AV.val (Value.int IntKind.i64 s_0), AV.val (Value.int IntKind.i64 s_1)], AV.val (Value.int IntKind.i64 small_), AV.val (Value.int IntKind.i64 slots_)] noMem = some (Fin_.ret (AV.val (Value.bool (bif bif bif bif bif shape_Right_0 s_0 s_1 == haymowref13_Right_0 s_0 s_1 then shape_Words_0 s_0 s_1 == haymowref13_Words_0 s_0 s_1 else false then shape_Large_0 s_0 s_1 small_ == decide (small_ < haymowref13_Words_0 s_0 s_1) else false then shape_Charge_0 s_0 s_1 small_ == haymowref13_Charge_0 s_0 s_1 small_ else false then shape_Frame_0 slots_ == haymowref13_Frame_0 slots_ else false then shape_Class_0 s_0 s_1 == haymowref04_Of_0 (haymowref13_Words_0 s_0 s_1) else false))) { bl := [], nx := 99 } (bif (!bif bif bif bif shape_Right_0 s_0 s_1 == haymowref13_Right_0 s_0 s_1 then shape_Words_0 s_0 s_1 == haymowref13_Words_0 s_0 s_1 else false then shape_Large_0 s_0 s_1 small_ == decide (small_ < haymowref13_Words_0 s_0 s_1) else false then shape_Charge_0 s_0 s_1 small_ == haymowref13_Charge_0 s_0 s_1 small_ else false then shape_Frame_0 slots_ == haymowref13_Frame_0 slots_ else false) || c_shape_Class s_0 s_1 then true else false)) := by kernel_rfl
  rw [h]
  clear h
  unfold s_haymowlaw13_ShapeCharges haymowlaw13_ShapeCharges_0 c_haymowlaw13_ShapeCharges
  generalize (shape_Large_0 s_0 s_1 small_ == decide (small_ < haymowref13_Words_0 s_0 s_1)) = b0_
  generalize (decide (small_ < haymowref13_Words_0 s_0 s_1)) = b1_
  generalize (shape_Right_0 s_0 s_1 == haymowref13_Right_0 s_0 s_1) = b2_
  generalize (shape_Words_0 s_0 s_1 == haymowref13_Words_0 s_0 s_1) = b3_
  generalize (shape_Frame_0 slots_ == haymowref13_Frame_0 slots_) = b4_
  generalize (shape_Charge_0 s_0 s_1 small_ == haymowref13_Charge_0 s_0 s_1 small_) = b5_
  generalize (shape_Class_0 s_0 s_1 == haymowref04_Of_0 (haymowref13_Words_0 s_0 s_1)) = b6_
  generalize (shape_Large_0 s_0 s_1 small_) = b7_
  generalize (haymowref13_Right_0 s_0 s_1) = b8_
  generalize (c_shape_Class s_0 s_1) = b9_
  generalize (shape_Right_0 s_0 s_1) = b10_
  cases b0_ <;> cases b1_ <;> cases b2_ <;> cases b3_ <;> cases b4_ <;> cases b5_ <;> cases b6_ <;> cases b7_ <;> cases b8_ <;> cases b9_ <;> cases b10_ <;> (first | rfl | (intro h_; cases h_; done) | (intro _; rfl))
def e_haymowlaw13_ShapeCharges : Spec := fun _ args => match args with
  | [.agg [.val (.int .i64 s_0), .val (.int .i64 s_1)], .val (.int .i64 small_), .val (.int .i64 slots_)] => some (s_haymowlaw13_ShapeCharges s_0 s_1 small_ slots_, none, [c_haymowlaw13_ShapeCharges s_0 s_1 small_ slots_])
  | _ => none
theorem ok_haymowlaw13_ShapeCharges : SpecOk Try.prog 11 e_haymowlaw13_ShapeCharges := fun m args v mo bs h hb => by
  unfold e_haymowlaw13_ShapeCharges at h
  split at h
  · cases h
    exact pure_fn (c := bodyOf Try.f11) hE_shape_Class mixed (fun xs w => Try.call11 xs w) Try.func11 rfl (t_haymowlaw13_ShapeCharges _ _ _ _ (by simpa using hb)) rfl rfl
  · cases h
def L_haymowlaw13_ShapeCharges : List (FuncId × Spec) := (11, e_haymowlaw13_ShapeCharges) :: L_shape_Class
theorem hE_haymowlaw13_ShapeCharges : ESound Try.prog (envOf L_haymowlaw13_ShapeCharges) := env_cons ok_haymowlaw13_ShapeCharges hE_shape_Class
end Go.Proofs.Ytnkpegdmbocgaaa
