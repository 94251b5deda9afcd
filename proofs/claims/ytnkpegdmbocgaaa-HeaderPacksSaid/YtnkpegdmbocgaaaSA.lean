/-
  What functions hand back, reckoned from their text.
-/
import Derived.Test.YtnkpegdmbocgaaaProg
import Derived.Test.YtnkpegdmbocgaaaEx12
namespace Go.Proofs.Ytnkpegdmbocgaaa
open Go Go.RowKit
theorem mixed : MixedOk Try.prog := by unfold MixedOk; kernel_rfl
def header_within_0 (n_ : Int) (most_ : Int) : Bool := bif decide (0 ≤ n_) then decide (n_ ≤ most_) else false
def s_header_within (n_ : Int) (most_ : Int) : AV := AV.val (Value.bool (header_within_0 n_ most_))
theorem t_header_within (n_ : Int) (most_ : Int) : F_ Try.prog [] Try.f49 [] [] 99 [AV.val (Value.int IntKind.i64 n_), AV.val (Value.int IntKind.i64 most_)] noMem = some (.ret (s_header_within n_ most_) { bl := [], nx := 99 } true) := by kernel_rfl
def e_header_within : Spec := fun _ args => match args with
  | [.val (.int .i64 n_), .val (.int .i64 most_)] => some (s_header_within n_ most_, none, [])
  | _ => none
theorem ok_header_within : SpecOk Try.prog 49 e_header_within := fun m args v mo bs h hb => by
  unfold e_header_within at h
  split at h
  · cases h
    exact pure_fn (c := bodyOf Try.f49) env_nil mixed (fun xs w => Try.call49 xs w) Try.func49 rfl (t_header_within _ _) rfl rfl
  · cases h
def L_header_within : List (FuncId × Spec) := (49, e_header_within) :: []
theorem hE_header_within : ESound Try.prog (envOf L_header_within) := env_cons ok_header_within env_nil
def header_Check_0 (h_0 : Int) (h_1 : Int) (h_2 : Int) (h_3 : Int) (h_4 : Bool) : Int := bif bif !header_within_0 h_0 4095 then true else !header_within_0 h_1 4095 then 20 else bif !header_within_0 h_2 31 then 21 else bif !header_within_0 h_3 7 then 2 else 0
def s_header_Check (h_0 : Int) (h_1 : Int) (h_2 : Int) (h_3 : Int) (h_4 : Bool) : AV := AV.val (Value.int IntKind.i64 (header_Check_0 h_0 h_1 h_2 h_3 h_4))
theorem t_header_Check (h_0 : Int) (h_1 : Int) (h_2 : Int) (h_3 : Int) (h_4 : Bool) : F_ Try.prog L_header_within Try.f18 [] [] 99 [AV.agg [AV.val (Value.int IntKind.i64 h_0), AV.val (Value.int IntKind.i64 h_1), AV.val (Value.int IntKind.i64 h_2), AV.val (Value.int IntKind.i64 h_3), AV.val (Value.bool h_4)]] noMem = some (.ret (s_header_Check h_0 h_1 h_2 h_3 h_4) { bl := [], nx := 99 } true) := by
  have h : F_ Try.prog L_header_within Try.f18 [] [] 99 [AV.agg [AV.val (Value.int IntKind.i64 h_0), AV.val (Value.int IntKind.i64 h_1), AV.val (Value.int IntKind.i64 h_2), AV.val (Value.int IntKind.i64 h_3), AV.val (Value.bool h_4)]] noMem = bif bif !header_within_0 h_0 4095 then true else !header_within_0 h_1 4095 then some (Fin_.ret (AV.val (Value.int IntKind.i64 20)) { bl := [], nx := 99 } true) else bif !header_within_0 h_2 31 then some (Fin_.ret (AV.val (Value.int IntKind.i64 21)) { bl := [], nx := 99 } true) else bif !header_within_0 h_3 7 then some (Fin_.ret (AV.val (Value.int IntKind.i64 2)) { bl := [], nx := 99 } true) else some (Fin_.ret (AV.val (Value.int IntKind.i64 0)) { bl := [], nx := 99 } true) := by kernel_rfl
  rw [h]
  clear h
  unfold s_header_Check header_Check_0
  generalize (bif !header_within_0 h_0 4095 then true else !header_within_0 h_1 4095) = b0_
  generalize (!header_within_0 h_3 7) = b1_
  generalize (!header_within_0 h_2 31) = b2_
  cases b0_
  ·
    cases b2_
    ·
      cases b1_
      ·
        rfl
      ·
        rfl
    ·
      rfl
  ·
    rfl
def e_header_Check : Spec := fun _ args => match args with
  | [.agg [.val (.int .i64 h_0), .val (.int .i64 h_1), .val (.int .i64 h_2), .val (.int .i64 h_3), .val (.bool h_4)]] => some (s_header_Check h_0 h_1 h_2 h_3 h_4, none, [])
  | _ => none
theorem ok_header_Check : SpecOk Try.prog 18 e_header_Check := fun m args v mo bs h hb => by
  unfold e_header_Check at h
  split at h
  · cases h
    exact pure_fn (c := bodyOf Try.f18) hE_header_within mixed (fun xs w => Try.call18 xs w) Try.func18 rfl (t_header_Check _ _ _ _ _) rfl rfl
  · cases h
def L_header_Check : List (FuncId × Spec) := (18, e_header_Check) :: L_header_within
theorem hE_header_Check : ESound Try.prog (envOf L_header_Check) := env_cons ok_header_Check hE_header_within
def header_Words_0 (h_0 : Int) (h_1 : Int) (h_2 : Int) (h_3 : Int) (h_4 : Bool) : Int := IntKind.i64.wrap (IntKind.i64.wrap (1 + h_0) + h_1)
def s_header_Words (h_0 : Int) (h_1 : Int) (h_2 : Int) (h_3 : Int) (h_4 : Bool) : AV := AV.val (Value.int IntKind.i64 (header_Words_0 h_0 h_1 h_2 h_3 h_4))
theorem t_header_Words (h_0 : Int) (h_1 : Int) (h_2 : Int) (h_3 : Int) (h_4 : Bool) : F_ Try.prog L_header_Check Try.f22 [] [] 99 [AV.agg [AV.val (Value.int IntKind.i64 h_0), AV.val (Value.int IntKind.i64 h_1), AV.val (Value.int IntKind.i64 h_2), AV.val (Value.int IntKind.i64 h_3), AV.val (Value.bool h_4)]] noMem = some (.ret (s_header_Words h_0 h_1 h_2 h_3 h_4) { bl := [], nx := 99 } true) := by kernel_rfl
def e_header_Words : Spec := fun _ args => match args with
  | [.agg [.val (.int .i64 h_0), .val (.int .i64 h_1), .val (.int .i64 h_2), .val (.int .i64 h_3), .val (.bool h_4)]] => some (s_header_Words h_0 h_1 h_2 h_3 h_4, none, [])
  | _ => none
theorem ok_header_Words : SpecOk Try.prog 22 e_header_Words := fun m args v mo bs h hb => by
  unfold e_header_Words at h
  split at h
  · cases h
    exact pure_fn (c := bodyOf Try.f22) hE_header_Check mixed (fun xs w => Try.call22 xs w) Try.func22 rfl (t_header_Words _ _ _ _ _) rfl rfl
  · cases h
def L_header_Words : List (FuncId × Spec) := (22, e_header_Words) :: L_header_Check
theorem hE_header_Words : ESound Try.prog (envOf L_header_Words) := env_cons ok_header_Words hE_header_Check
def shape_Right_0 (s_0 : Int) (s_1 : Int) : Bool := header_Check_0 s_0 s_1 0 0 false == 0
def s_shape_Right (s_0 : Int) (s_1 : Int) : AV := AV.val (Value.bool (shape_Right_0 s_0 s_1))
theorem t_shape_Right (s_0 : Int) (s_1 : Int) : F_ Try.prog L_header_Words Try.f42 [] [] 99 [AV.agg [AV.val (Value.int IntKind.i64 s_0), AV.val (Value.int IntKind.i64 s_1)]] noMem = some (.ret (s_shape_Right s_0 s_1) { bl := [], nx := 99 } true) := by kernel_rfl
def e_shape_Right : Spec := fun _ args => match args with
  | [.agg [.val (.int .i64 s_0), .val (.int .i64 s_1)]] => some (s_shape_Right s_0 s_1, none, [])
  | _ => none
theorem ok_shape_Right : SpecOk Try.prog 42 e_shape_Right := fun m args v mo bs h hb => by
  unfold e_shape_Right at h
  split at h
  · cases h
    exact pure_fn (c := bodyOf Try.f42) hE_header_Words mixed (fun xs w => Try.call42 xs w) Try.func42 rfl (t_shape_Right _ _) rfl rfl
  · cases h
def L_shape_Right : List (FuncId × Spec) := (42, e_shape_Right) :: L_header_Words
theorem hE_shape_Right : ESound Try.prog (envOf L_shape_Right) := env_cons ok_shape_Right hE_header_Words
def shape_Words_0 (s_0 : Int) (s_1 : Int) : Int := bif !shape_Right_0 s_0 s_1 then 0 else header_Words_0 s_0 s_1 0 0 false
def s_shape_Words (s_0 : Int) (s_1 : Int) : AV := AV.val (Value.int IntKind.i64 (shape_Words_0 s_0 s_1))
theorem t_shape_Words (s_0 : Int) (s_1 : Int) : F_ Try.prog L_shape_Right Try.f43 [] [] 99 [AV.agg [AV.val (Value.int IntKind.i64 s_0), AV.val (Value.int IntKind.i64 s_1)]] noMem = some (.ret (s_shape_Words s_0 s_1) { bl := [], nx := 99 } true) := by
  have h : F_ Try.prog L_shape_Right Try.f43 [] [] 99 [AV.agg [AV.val (Value.int IntKind.i64 s_0), AV.val (Value.int IntKind.i64 s_1)]] noMem = bif !shape_Right_0 s_0 s_1 then some (Fin_.ret (AV.val (Value.int IntKind.i64 0)) { bl := [], nx := 99 } true) else some (Fin_.ret (AV.val (Value.int IntKind.i64 (header_Words_0 s_0 s_1 0 0 false))) { bl := [], nx := 99 } true) := by kernel_rfl
  rw [h]
  clear h
  unfold s_shape_Words shape_Words_0
  generalize (!shape_Right_0 s_0 s_1) = b0_
  cases b0_
  ·
    rfl
  ·
    rfl
def e_shape_Words : Spec := fun _ args => match args with
  | [.agg [.val (.int .i64 s_0), .val (.int .i64 s_1)]] => some (s_shape_Words s_0 s_1, none, [])
  | _ => none
theorem ok_shape_Words : SpecOk Try.prog 43 e_shape_Words := fun m args v mo bs h hb => by
  unfold e_shape_Words at h
  split at h
  · cases h
    exact pure_fn (c := bodyOf Try.f43) hE_shape_Right mixed (fun xs w => Try.call43 xs w) Try.func43 rfl (t_shape_Words _ _) rfl rfl
  · cases h
def L_shape_Words : List (FuncId × Spec) := (43, e_shape_Words) :: L_shape_Right
theorem hE_shape_Words : ESound Try.prog (envOf L_shape_Words) := env_cons ok_shape_Words hE_shape_Right
def shape_Large_0 (s_0 : Int) (s_1 : Int) (small_ : Int) : Bool := decide (small_ < shape_Words_0 s_0 s_1)
def s_shape_Large (s_0 : Int) (s_1 : Int) (small_ : Int) : AV := AV.val (Value.bool (shape_Large_0 s_0 s_1 small_))
theorem t_shape_Large (s_0 : Int) (s_1 : Int) (small_ : Int) : F_ Try.prog L_shape_Words Try.f44 [] [] 99 [AV.agg [AV.val (Value.int IntKind.i64 s_0), AV.val (Value.int IntKind.i64 s_1)], AV.val (Value.int IntKind.i64 small_)] noMem = some (.ret (s_shape_Large s_0 s_1 small_) { bl := [], nx := 99 } true) := by kernel_rfl
def e_shape_Large : Spec := fun _ args => match args with
  | [.agg [.val (.int .i64 s_0), .val (.int .i64 s_1)], .val (.int .i64 small_)] => some (s_shape_Large s_0 s_1 small_, none, [])
  | _ => none
theorem ok_shape_Large : SpecOk Try.prog 44 e_shape_Large := fun m args v mo bs h hb => by
  unfold e_shape_Large at h
  split at h
  · cases h
    exact pure_fn (c := bodyOf Try.f44) hE_shape_Words mixed (fun xs w => Try.call44 xs w) Try.func44 rfl (t_shape_Large _ _ _) rfl rfl
  · cases h
def L_shape_Large : List (FuncId × Spec) := (44, e_shape_Large) :: L_shape_Words
theorem hE_shape_Large : ESound Try.prog (envOf L_shape_Large) := env_cons ok_shape_Large hE_shape_Words
def shape_Charge_0 (s_0 : Int) (s_1 : Int) (small_ : Int) : Int := bif bif decide (0 < shape_Words_0 s_0 s_1) then shape_Large_0 s_0 s_1 small_ else false then IntKind.i64.wrap (shape_Words_0 s_0 s_1 + 6) else shape_Words_0 s_0 s_1
def s_shape_Charge (s_0 : Int) (s_1 : Int) (small_ : Int) : AV := AV.val (Value.int IntKind.i64 (shape_Charge_0 s_0 s_1 small_))
theorem t_shape_Charge (s_0 : Int) (s_1 : Int) (small_ : Int) : F_ Try.prog L_shape_Large Try.f45 [] [] 99 [AV.agg [AV.val (Value.int IntKind.i64 s_0), AV.val (Value.int IntKind.i64 s_1)], AV.val (Value.int IntKind.i64 small_)] noMem = some (.ret (s_shape_Charge s_0 s_1 small_) { bl := [], nx := 99 } true) := by
  have h : F_ Try.prog L_shape_Large Try.f45 [] [] 99 [AV.agg [AV.val (Value.int IntKind.i64 s_0), AV.val (Value.int IntKind.i64 s_1)], AV.val (Value.int IntKind.i64 small_)] noMem = bif bif decide (0 < shape_Words_0 s_0 s_1) then shape_Large_0 s_0 s_1 small_ else false then some (Fin_.ret (AV.val (Value.int IntKind.i64 (IntKind.i64.wrap (shape_Words_0 s_0 s_1 + 6)))) { bl := [], nx := 99 } true) else some (Fin_.ret (AV.val (Value.int IntKind.i64 (shape_Words_0 s_0 s_1))) { bl := [], nx := 99 } true) := by kernel_rfl
  rw [h]
  clear h
  unfold s_shape_Charge shape_Charge_0
  generalize (bif decide (0 < shape_Words_0 s_0 s_1) then shape_Large_0 s_0 s_1 small_ else false) = b0_
  cases b0_
  ·
    rfl
  ·
    rfl
def e_shape_Charge : Spec := fun _ args => match args with
  | [.agg [.val (.int .i64 s_0), .val (.int .i64 s_1)], .val (.int .i64 small_)] => some (s_shape_Charge s_0 s_1 small_, none, [])
  | _ => none
theorem ok_shape_Charge : SpecOk Try.prog 45 e_shape_Charge := fun m args v mo bs h hb => by
  unfold e_shape_Charge at h
  split at h
  · cases h
    exact pure_fn (c := bodyOf Try.f45) hE_shape_Large mixed (fun xs w => Try.call45 xs w) Try.func45 rfl (t_shape_Charge _ _ _) rfl rfl
  · cases h
def L_shape_Charge : List (FuncId × Spec) := (45, e_shape_Charge) :: L_shape_Large
theorem hE_shape_Charge : ESound Try.prog (envOf L_shape_Charge) := env_cons ok_shape_Charge hE_shape_Large
def shape_Frame_0 (slots_ : Int) : Int := bif bif decide (slots_ < 0) then true else decide (256 < slots_) then 0 else IntKind.i64.wrap (2 + slots_)
def s_shape_Frame (slots_ : Int) : AV := AV.val (Value.int IntKind.i64 (shape_Frame_0 slots_))
theorem t_shape_Frame (slots_ : Int) : F_ Try.prog L_shape_Charge Try.f46 [] [] 99 [AV.val (Value.int IntKind.i64 slots_)] noMem = some (.ret (s_shape_Frame slots_) { bl := [], nx := 99 } true) := by
  have h : F_ Try.prog L_shape_Charge Try.f46 [] [] 99 [AV.val (Value.int IntKind.i64 slots_)] noMem = bif bif decide (slots_ < 0) then true else decide (256 < slots_) then some (Fin_.ret (AV.val (Value.int IntKind.i64 0)) { bl := [], nx := 99 } true) else some (Fin_.ret (AV.val (Value.int IntKind.i64 (IntKind.i64.wrap (2 + slots_)))) { bl := [], nx := 99 } true) := by kernel_rfl
  rw [h]
  clear h
  unfold s_shape_Frame shape_Frame_0
  generalize (bif decide (slots_ < 0) then true else decide (256 < slots_)) = b0_
  cases b0_
  ·
    rfl
  ·
    rfl
def e_shape_Frame : Spec := fun _ args => match args with
  | [.val (.int .i64 slots_)] => some (s_shape_Frame slots_, none, [])
  | _ => none
theorem ok_shape_Frame : SpecOk Try.prog 46 e_shape_Frame := fun m args v mo bs h hb => by
  unfold e_shape_Frame at h
  split at h
  · cases h
    exact pure_fn (c := bodyOf Try.f46) hE_shape_Charge mixed (fun xs w => Try.call46 xs w) Try.func46 rfl (t_shape_Frame _) rfl rfl
  · cases h
def L_shape_Frame : List (FuncId × Spec) := (46, e_shape_Frame) :: L_shape_Charge
theorem hE_shape_Frame : ESound Try.prog (envOf L_shape_Frame) := env_cons ok_shape_Frame hE_shape_Charge
def shape_Slot_0 (s_0 : Int) (s_1 : Int) (pointer_ : Int) : Int := bif bif bif !shape_Right_0 s_0 s_1 then true else decide (pointer_ < 0) then true else decide (s_0 ≤ pointer_) then 0 else IntKind.i64.wrap (1 + pointer_)
def shape_Slot_1 (s_0 : Int) (s_1 : Int) (pointer_ : Int) : Int := bif bif bif !shape_Right_0 s_0 s_1 then true else decide (pointer_ < 0) then true else decide (s_0 ≤ pointer_) then 32 else 0
def s_shape_Slot (s_0 : Int) (s_1 : Int) (pointer_ : Int) : AV := AV.tup [AV.val (Value.int IntKind.i64 (shape_Slot_0 s_0 s_1 pointer_)), AV.val (Value.int IntKind.i64 (shape_Slot_1 s_0 s_1 pointer_))]
theorem t_shape_Slot (s_0 : Int) (s_1 : Int) (pointer_ : Int) : F_ Try.prog L_shape_Frame Try.f36 [] [] 99 [AV.agg [AV.val (Value.int IntKind.i64 s_0), AV.val (Value.int IntKind.i64 s_1)], AV.val (Value.int IntKind.i64 pointer_)] noMem = some (.ret (s_shape_Slot s_0 s_1 pointer_) { bl := [], nx := 99 } true) := by
  have h : F_ Try.prog L_shape_Frame Try.f36 [] [] 99 [AV.agg [AV.val (Value.int IntKind.i64 s_0), AV.val (Value.int IntKind.i64 s_1)], AV.val (Value.int IntKind.i64 pointer_)] noMem = bif bif bif !shape_Right_0 s_0 s_1 then true else decide (pointer_ < 0) then true else decide (s_0 ≤ pointer_) then some (Fin_.ret (AV.tup [AV.val (Value.int IntKind.i64 0), AV.val (Value.int IntKind.i64 32)]) { bl := [], nx := 99 } true) else some (Fin_.ret (AV.tup [AV.val (Value.int IntKind.i64 (IntKind.i64.wrap (1 + pointer_))), AV.val (Value.int IntKind.i64 0)]) { bl := [], nx := 99 } true) := by kernel_rfl
  rw [h]
  clear h
  unfold s_shape_Slot shape_Slot_0 shape_Slot_1
  generalize (bif bif !shape_Right_0 s_0 s_1 then true else decide (pointer_ < 0) then true else decide (s_0 ≤ pointer_)) = b0_
  cases b0_
  ·
    rfl
  ·
    rfl
def e_shape_Slot : Spec := fun _ args => match args with
  | [.agg [.val (.int .i64 s_0), .val (.int .i64 s_1)], .val (.int .i64 pointer_)] => some (s_shape_Slot s_0 s_1 pointer_, none, [])
  | _ => none
theorem ok_shape_Slot : SpecOk Try.prog 36 e_shape_Slot := fun m args v mo bs h hb => by
  unfold e_shape_Slot at h
  split at h
  · cases h
    exact pure_fn (c := bodyOf Try.f36) hE_shape_Frame mixed (fun xs w => Try.call36 xs w) Try.func36 rfl (t_shape_Slot _ _ _) rfl rfl
  · cases h
def L_shape_Slot : List (FuncId × Spec) := (36, e_shape_Slot) :: L_shape_Frame
theorem hE_shape_Slot : ESound Try.prog (envOf L_shape_Slot) := env_cons ok_shape_Slot hE_shape_Frame
def shape_Cell_0 (s_0 : Int) (s_1 : Int) (raw_ : Int) : Int := bif bif bif !shape_Right_0 s_0 s_1 then true else decide (raw_ < 0) then true else decide (s_1 ≤ raw_) then 0 else IntKind.i64.wrap (IntKind.i64.wrap (1 + s_0) + raw_)
def shape_Cell_1 (s_0 : Int) (s_1 : Int) (raw_ : Int) : Int := bif bif bif !shape_Right_0 s_0 s_1 then true else decide (raw_ < 0) then true else decide (s_1 ≤ raw_) then 32 else 0
def s_shape_Cell (s_0 : Int) (s_1 : Int) (raw_ : Int) : AV := AV.tup [AV.val (Value.int IntKind.i64 (shape_Cell_0 s_0 s_1 raw_)), AV.val (Value.int IntKind.i64 (shape_Cell_1 s_0 s_1 raw_))]
theorem t_shape_Cell (s_0 : Int) (s_1 : Int) (raw_ : Int) : F_ Try.prog L_shape_Slot Try.f37 [] [] 99 [AV.agg [AV.val (Value.int IntKind.i64 s_0), AV.val (Value.int IntKind.i64 s_1)], AV.val (Value.int IntKind.i64 raw_)] noMem = some (.ret (s_shape_Cell s_0 s_1 raw_) { bl := [], nx := 99 } true) := by
  have h : F_ Try.prog L_shape_Slot Try.f37 [] [] 99 [AV.agg [AV.val (Value.int IntKind.i64 s_0), AV.val (Value.int IntKind.i64 s_1)], AV.val (Value.int IntKind.i64 raw_)] noMem = bif bif bif !shape_Right_0 s_0 s_1 then true else decide (raw_ < 0) then true else decide (s_1 ≤ raw_) then some (Fin_.ret (AV.tup [AV.val (Value.int IntKind.i64 0), AV.val (Value.int IntKind.i64 32)]) { bl := [], nx := 99 } true) else some (Fin_.ret (AV.tup [AV.val (Value.int IntKind.i64 (IntKind.i64.wrap (IntKind.i64.wrap (1 + s_0) + raw_))), AV.val (Value.int IntKind.i64 0)]) { bl := [], nx := 99 } true) := by kernel_rfl
  rw [h]
  clear h
  unfold s_shape_Cell shape_Cell_0 shape_Cell_1
  generalize (bif bif !shape_Right_0 s_0 s_1 then true else decide (raw_ < 0) then true else decide (s_1 ≤ raw_)) = b0_
  cases b0_
  ·
    rfl
  ·
    rfl
def e_shape_Cell : Spec := fun _ args => match args with
  | [.agg [.val (.int .i64 s_0), .val (.int .i64 s_1)], .val (.int .i64 raw_)] => some (s_shape_Cell s_0 s_1 raw_, none, [])
  | _ => none
theorem ok_shape_Cell : SpecOk Try.prog 37 e_shape_Cell := fun m args v mo bs h hb => by
  unfold e_shape_Cell at h
  split at h
  · cases h
    exact pure_fn (c := bodyOf Try.f37) hE_shape_Slot mixed (fun xs w => Try.call37 xs w) Try.func37 rfl (t_shape_Cell _ _ _) rfl rfl
  · cases h
def L_shape_Cell : List (FuncId × Spec) := (37, e_shape_Cell) :: L_shape_Slot
theorem hE_shape_Cell : ESound Try.prog (envOf L_shape_Cell) := env_cons ok_shape_Cell hE_shape_Slot
def haymowref13_Right_0 (s_0 : Int) (s_1 : Int) : Bool := bif bif bif decide (0 ≤ s_0) then decide (s_0 < 4096) else false then decide (0 ≤ s_1) else false then decide (s_1 < 4096) else false
def s_haymowref13_Right (s_0 : Int) (s_1 : Int) : AV := AV.val (Value.bool (haymowref13_Right_0 s_0 s_1))
theorem t_haymowref13_Right (s_0 : Int) (s_1 : Int) : F_ Try.prog L_shape_Cell Try.f38 [] [] 99 [AV.agg [AV.val (Value.int IntKind.i64 s_0), AV.val (Value.int IntKind.i64 s_1)]] noMem = some (.ret (s_haymowref13_Right s_0 s_1) { bl := [], nx := 99 } true) := by kernel_rfl
def e_haymowref13_Right : Spec := fun _ args => match args with
  | [.agg [.val (.int .i64 s_0), .val (.int .i64 s_1)]] => some (s_haymowref13_Right s_0 s_1, none, [])
  | _ => none
theorem ok_haymowref13_Right : SpecOk Try.prog 38 e_haymowref13_Right := fun m args v mo bs h hb => by
  unfold e_haymowref13_Right at h
  split at h
  · cases h
    exact pure_fn (c := bodyOf Try.f38) hE_shape_Cell mixed (fun xs w => Try.call38 xs w) Try.func38 rfl (t_haymowref13_Right _ _) rfl rfl
  · cases h
def L_haymowref13_Right : List (FuncId × Spec) := (38, e_haymowref13_Right) :: L_shape_Cell
theorem hE_haymowref13_Right : ESound Try.prog (envOf L_haymowref13_Right) := env_cons ok_haymowref13_Right hE_shape_Cell
def haymowref13_Words_0 (s_0 : Int) (s_1 : Int) : Int := bif !haymowref13_Right_0 s_0 s_1 then 0 else IntKind.i64.wrap (IntKind.i64.wrap (1 + s_0) + s_1)
def s_haymowref13_Words (s_0 : Int) (s_1 : Int) : AV := AV.val (Value.int IntKind.i64 (haymowref13_Words_0 s_0 s_1))
theorem t_haymowref13_Words (s_0 : Int) (s_1 : Int) : F_ Try.prog L_haymowref13_Right Try.f41 [] [] 99 [AV.agg [AV.val (Value.int IntKind.i64 s_0), AV.val (Value.int IntKind.i64 s_1)]] noMem = some (.ret (s_haymowref13_Words s_0 s_1) { bl := [], nx := 99 } true) := by
  have h : F_ Try.prog L_haymowref13_Right Try.f41 [] [] 99 [AV.agg [AV.val (Value.int IntKind.i64 s_0), AV.val (Value.int IntKind.i64 s_1)]] noMem = bif !haymowref13_Right_0 s_0 s_1 then some (Fin_.ret (AV.val (Value.int IntKind.i64 0)) { bl := [], nx := 99 } true) else some (Fin_.ret (AV.val (Value.int IntKind.i64 (IntKind.i64.wrap (IntKind.i64.wrap (1 + s_0) + s_1)))) { bl := [], nx := 99 } true) := by kernel_rfl
  rw [h]
  clear h
  unfold s_haymowref13_Words haymowref13_Words_0
  generalize (!haymowref13_Right_0 s_0 s_1) = b0_
  cases b0_
  ·
    rfl
  ·
    rfl
def e_haymowref13_Words : Spec := fun _ args => match args with
  | [.agg [.val (.int .i64 s_0), .val (.int .i64 s_1)]] => some (s_haymowref13_Words s_0 s_1, none, [])
  | _ => none
theorem ok_haymowref13_Words : SpecOk Try.prog 41 e_haymowref13_Words := fun m args v mo bs h hb => by
  unfold e_haymowref13_Words at h
  split at h
  · cases h
    exact pure_fn (c := bodyOf Try.f41) hE_haymowref13_Right mixed (fun xs w => Try.call41 xs w) Try.func41 rfl (t_haymowref13_Words _ _) rfl rfl
  · cases h
def L_haymowref13_Words : List (FuncId × Spec) := (41, e_haymowref13_Words) :: L_haymowref13_Right
theorem hE_haymowref13_Words : ESound Try.prog (envOf L_haymowref13_Words) := env_cons ok_haymowref13_Words hE_haymowref13_Right
def haymowref13_Charge_0 (s_0 : Int) (s_1 : Int) (small_ : Int) : Int := bif bif decide (0 < haymowref13_Words_0 s_0 s_1) then decide (small_ < haymowref13_Words_0 s_0 s_1) else false then IntKind.i64.wrap (haymowref13_Words_0 s_0 s_1 + 6) else haymowref13_Words_0 s_0 s_1
def s_haymowref13_Charge (s_0 : Int) (s_1 : Int) (small_ : Int) : AV := AV.val (Value.int IntKind.i64 (haymowref13_Charge_0 s_0 s_1 small_))
theorem t_haymowref13_Charge (s_0 : Int) (s_1 : Int) (small_ : Int) : F_ Try.prog L_haymowref13_Words Try.f39 [] [] 99 [AV.agg [AV.val (Value.int IntKind.i64 s_0), AV.val (Value.int IntKind.i64 s_1)], AV.val (Value.int IntKind.i64 small_)] noMem = some (.ret (s_haymowref13_Charge s_0 s_1 small_) { bl := [], nx := 99 } true) := by
  have h : F_ Try.prog L_haymowref13_Words Try.f39 [] [] 99 [AV.agg [AV.val (Value.int IntKind.i64 s_0), AV.val (Value.int IntKind.i64 s_1)], AV.val (Value.int IntKind.i64 small_)] noMem = bif bif decide (0 < haymowref13_Words_0 s_0 s_1) then decide (small_ < haymowref13_Words_0 s_0 s_1) else false then some (Fin_.ret (AV.val (Value.int IntKind.i64 (IntKind.i64.wrap (haymowref13_Words_0 s_0 s_1 + 6)))) { bl := [], nx := 99 } true) else some (Fin_.ret (AV.val (Value.int IntKind.i64 (haymowref13_Words_0 s_0 s_1))) { bl := [], nx := 99 } true) := by kernel_rfl
  rw [h]
  clear h
  unfold s_haymowref13_Charge haymowref13_Charge_0
  generalize (bif decide (0 < haymowref13_Words_0 s_0 s_1) then decide (small_ < haymowref13_Words_0 s_0 s_1) else false) = b0_
  cases b0_
  ·
    rfl
  ·
    rfl
def e_haymowref13_Charge : Spec := fun _ args => match args with
  | [.agg [.val (.int .i64 s_0), .val (.int .i64 s_1)], .val (.int .i64 small_)] => some (s_haymowref13_Charge s_0 s_1 small_, none, [])
  | _ => none
theorem ok_haymowref13_Charge : SpecOk Try.prog 39 e_haymowref13_Charge := fun m args v mo bs h hb => by
  unfold e_haymowref13_Charge at h
  split at h
  · cases h
    exact pure_fn (c := bodyOf Try.f39) hE_haymowref13_Words mixed (fun xs w => Try.call39 xs w) Try.func39 rfl (t_haymowref13_Charge _ _ _) rfl rfl
  · cases h
def L_haymowref13_Charge : List (FuncId × Spec) := (39, e_haymowref13_Charge) :: L_haymowref13_Words
theorem hE_haymowref13_Charge : ESound Try.prog (envOf L_haymowref13_Charge) := env_cons ok_haymowref13_Charge hE_haymowref13_Words
def haymowref13_Frame_0 (slots_ : Int) : Int := bif bif decide (slots_ < 0) then true else decide (256 < slots_) then 0 else IntKind.i64.wrap (slots_ + 2)
def s_haymowref13_Frame (slots_ : Int) : AV := AV.val (Value.int IntKind.i64 (haymowref13_Frame_0 slots_))
theorem t_haymowref13_Frame (slots_ : Int) : F_ Try.prog L_haymowref13_Charge Try.f47 [] [] 99 [AV.val (Value.int IntKind.i64 slots_)] noMem = some (.ret (s_haymowref13_Frame slots_) { bl := [], nx := 99 } true) := by
  have h : F_ Try.prog L_haymowref13_Charge Try.f47 [] [] 99 [AV.val (Value.int IntKind.i64 slots_)] noMem = bif bif decide (slots_ < 0) then true else decide (256 < slots_) then some (Fin_.ret (AV.val (Value.int IntKind.i64 0)) { bl := [], nx := 99 } true) else some (Fin_.ret (AV.val (Value.int IntKind.i64 (IntKind.i64.wrap (slots_ + 2)))) { bl := [], nx := 99 } true) := by kernel_rfl
  rw [h]
  clear h
  unfold s_haymowref13_Frame haymowref13_Frame_0
  generalize (bif decide (slots_ < 0) then true else decide (256 < slots_)) = b0_
  cases b0_
  ·
    rfl
  ·
    rfl
def e_haymowref13_Frame : Spec := fun _ args => match args with
  | [.val (.int .i64 slots_)] => some (s_haymowref13_Frame slots_, none, [])
  | _ => none
theorem ok_haymowref13_Frame : SpecOk Try.prog 47 e_haymowref13_Frame := fun m args v mo bs h hb => by
  unfold e_haymowref13_Frame at h
  split at h
  · cases h
    exact pure_fn (c := bodyOf Try.f47) hE_haymowref13_Charge mixed (fun xs w => Try.call47 xs w) Try.func47 rfl (t_haymowref13_Frame _) rfl rfl
  · cases h
def L_haymowref13_Frame : List (FuncId × Spec) := (47, e_haymowref13_Frame) :: L_haymowref13_Charge
theorem hE_haymowref13_Frame : ESound Try.prog (envOf L_haymowref13_Frame) := env_cons ok_haymowref13_Frame hE_haymowref13_Charge
def s_haymowlaw13_awake : AV := AV.val (Value.bool true)
theorem t_haymowlaw13_awake : F_ Try.prog L_haymowref13_Frame Try.f35 [] [] 99 [] noMem = some (.ret (s_haymowlaw13_awake) { bl := [], nx := 99 } true) := by kernel_rfl
def e_haymowlaw13_awake : Spec := fun _ args => match args with
  | [] => some (s_haymowlaw13_awake , none, [])
  | _ => none
theorem ok_haymowlaw13_awake : SpecOk Try.prog 35 e_haymowlaw13_awake := fun m args v mo bs h hb => by
  unfold e_haymowlaw13_awake at h
  split at h
  · cases h
    exact pure_fn (c := bodyOf Try.f35) hE_haymowref13_Frame mixed (fun xs w => Try.call35 xs w) Try.func35 rfl (t_haymowlaw13_awake) rfl rfl
  · cases h
def L_haymowlaw13_awake : List (FuncId × Spec) := (35, e_haymowlaw13_awake) :: L_haymowref13_Frame
theorem hE_haymowlaw13_awake : ESound Try.prog (envOf L_haymowlaw13_awake) := env_cons ok_haymowlaw13_awake hE_haymowref13_Frame
end Go.Proofs.Ytnkpegdmbocgaaa
