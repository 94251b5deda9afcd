/-
  What functions hand back, reckoned from their text.
-/
import Derived.Test.YtlcaanodbhigkaaProg
import Derived.Test.YtlcaanodbhigkaaEx12
namespace Go.Proofs.Ytlcaanodbhigkaa
open Go Go.RowKit
theorem mixed : MixedOk Try.prog := by unfold MixedOk; kernel_rfl
def control_Want_0 (c_0 : Int) (c_1 : Int) (c_2 : Int) (c_3 : Int) (c_4 : Int) (need_ : Int) : Int := max c_1 (min (IntKind.i64.wrap (2 * min (max need_ 0) c_0)) c_0)
def s_control_Want (c_0 : Int) (c_1 : Int) (c_2 : Int) (c_3 : Int) (c_4 : Int) (need_ : Int) : AV := AV.val (Value.int IntKind.i64 (control_Want_0 c_0 c_1 c_2 c_3 c_4 need_))
theorem t_control_Want (c_0 : Int) (c_1 : Int) (c_2 : Int) (c_3 : Int) (c_4 : Int) (need_ : Int) : F_ Try.prog [] Try.f14 [] [] 99 [AV.agg [AV.val (Value.int IntKind.i64 c_0), AV.val (Value.int IntKind.i64 c_1), AV.val (Value.int IntKind.i64 c_2), AV.val (Value.int IntKind.i64 c_3), AV.val (Value.int IntKind.i64 c_4)], AV.val (Value.int IntKind.i64 need_)] noMem = some (.ret (s_control_Want c_0 c_1 c_2 c_3 c_4 need_) { bl := [], nx := 99 } true) := by kernel_rfl
def e_control_Want : Spec := fun _ args => match args with
  | [.agg [.val (.int .i64 c_0), .val (.int .i64 c_1), .val (.int .i64 c_2), .val (.int .i64 c_3), .val (.int .i64 c_4)], .val (.int .i64 need_)] => some (s_control_Want c_0 c_1 c_2 c_3 c_4 need_, none, [])
  | _ => none
theorem ok_control_Want : SpecOk Try.prog 14 e_control_Want := fun m args v mo bs h hb => by
  unfold e_control_Want at h
  split at h
  · cases h
    exact pure_fn (c := bodyOf Try.f14) env_nil mixed (fun xs w => Try.call14 xs w) Try.func14 rfl (t_control_Want _ _ _ _ _ _) rfl rfl
  · cases h
def L_control_Want : List (FuncId × Spec) := (14, e_control_Want) :: []
theorem hE_control_Want : ESound Try.prog (envOf L_control_Want) := env_cons ok_control_Want env_nil
def control_Right_0 (c_0 : Int) (c_1 : Int) (c_2 : Int) (c_3 : Int) (c_4 : Int) : Bool := bif bif decide (c_0 < 16) then true else decide (1048576 < c_0) then false else bif bif decide (c_1 < 0) then true else decide (c_0 < c_1) then false else bif decide (0 ≤ c_4) then decide (c_4 ≤ 16) else false
def s_control_Right (c_0 : Int) (c_1 : Int) (c_2 : Int) (c_3 : Int) (c_4 : Int) : AV := AV.val (Value.bool (control_Right_0 c_0 c_1 c_2 c_3 c_4))
theorem t_control_Right (c_0 : Int) (c_1 : Int) (c_2 : Int) (c_3 : Int) (c_4 : Int) : F_ Try.prog L_control_Want Try.f15 [] [] 99 [AV.agg [AV.val (Value.int IntKind.i64 c_0), AV.val (Value.int IntKind.i64 c_1), AV.val (Value.int IntKind.i64 c_2), AV.val (Value.int IntKind.i64 c_3), AV.val (Value.int IntKind.i64 c_4)]] noMem = some (.ret (s_control_Right c_0 c_1 c_2 c_3 c_4) { bl := [], nx := 99 } true) := by
  have h : F_ Try.prog L_control_Want Try.f15 [] [] 99 [AV.agg [AV.val (Value.int IntKind.i64 c_0), AV.val (Value.int IntKind.i64 c_1), AV.val (Value.int IntKind.i64 c_2), AV.val (Value.int IntKind.i64 c_3), AV.val (Value.int IntKind.i64 c_4)]] noMem = bif bif decide (c_0 < 16) then true else decide (1048576 < c_0) then some (Fin_.ret (AV.val (Value.bool false)) { bl := [], nx := 99 } true) else bif bif decide (c_1 < 0) then true else decide (c_0 < c_1) then some (Fin_.ret (AV.val (Value.bool false)) { bl := [], nx := 99 } true) else some (Fin_.ret (AV.val (Value.bool (bif decide (0 ≤ c_4) then decide (c_4 ≤ 16) else false))) { bl := [], nx := 99 } true) := by kernel_rfl
  rw [h]
  clear h
  unfold s_control_Right control_Right_0
  generalize (bif decide (c_1 < 0) then true else decide (c_0 < c_1)) = b0_
  generalize (bif decide (c_0 < 16) then true else decide (1048576 < c_0)) = b1_
  cases b1_
  ·
    cases b0_
    ·
      rfl
    ·
      rfl
  ·
    rfl
def e_control_Right : Spec := fun _ args => match args with
  | [.agg [.val (.int .i64 c_0), .val (.int .i64 c_1), .val (.int .i64 c_2), .val (.int .i64 c_3), .val (.int .i64 c_4)]] => some (s_control_Right c_0 c_1 c_2 c_3 c_4, none, [])
  | _ => none
theorem ok_control_Right : SpecOk Try.prog 15 e_control_Right := fun m args v mo bs h hb => by
  unfold e_control_Right at h
  split at h
  · cases h
    exact pure_fn (c := bodyOf Try.f15) hE_control_Want mixed (fun xs w => Try.call15 xs w) Try.func15 rfl (t_control_Right _ _ _ _ _) rfl rfl
  · cases h
def L_control_Right : List (FuncId × Spec) := (15, e_control_Right) :: L_control_Want
theorem hE_control_Right : ESound Try.prog (envOf L_control_Right) := env_cons ok_control_Right hE_control_Want
def s_control_Begin (c_0 : Int) (c_1 : Int) (c_2 : Int) (c_3 : Int) (c_4 : Int) : AV := AV.agg [AV.val (Value.int IntKind.i64 c_1), AV.val (Value.int IntKind.i64 0)]
theorem t_control_Begin (c_0 : Int) (c_1 : Int) (c_2 : Int) (c_3 : Int) (c_4 : Int) : F_ Try.prog L_control_Right Try.f11 [] [] 99 [AV.agg [AV.val (Value.int IntKind.i64 c_0), AV.val (Value.int IntKind.i64 c_1), AV.val (Value.int IntKind.i64 c_2), AV.val (Value.int IntKind.i64 c_3), AV.val (Value.int IntKind.i64 c_4)]] noMem = some (.ret (s_control_Begin c_0 c_1 c_2 c_3 c_4) { bl := [], nx := 99 } true) := by kernel_rfl
def e_control_Begin : Spec := fun _ args => match args with
  | [.agg [.val (.int .i64 c_0), .val (.int .i64 c_1), .val (.int .i64 c_2), .val (.int .i64 c_3), .val (.int .i64 c_4)]] => some (s_control_Begin c_0 c_1 c_2 c_3 c_4, none, [])
  | _ => none
theorem ok_control_Begin : SpecOk Try.prog 11 e_control_Begin := fun m args v mo bs h hb => by
  unfold e_control_Begin at h
  split at h
  · cases h
    exact pure_fn (c := bodyOf Try.f11) hE_control_Right mixed (fun xs w => Try.call11 xs w) Try.func11 rfl (t_control_Begin _ _ _ _ _) rfl rfl
  · cases h
def L_control_Begin : List (FuncId × Spec) := (11, e_control_Begin) :: L_control_Right
theorem hE_control_Begin : ESound Try.prog (envOf L_control_Begin) := env_cons ok_control_Begin hE_control_Right
def control_Next_0 (c_0 : Int) (c_1 : Int) (c_2 : Int) (c_3 : Int) (c_4 : Int) (s_0 : Int) (s_1 : Int) (need_ : Int) : Int := bif decide (s_0 < control_Want_0 c_0 c_1 c_2 c_3 c_4 need_) then control_Want_0 c_0 c_1 c_2 c_3 c_4 need_ else bif decide (IntKind.i64.wrap (s_0.tdiv 2) < control_Want_0 c_0 c_1 c_2 c_3 c_4 need_) then s_0 else bif decide (c_4 ≤ s_1) then max (control_Want_0 c_0 c_1 c_2 c_3 c_4 need_) (IntKind.i64.wrap (s_0.tdiv 2)) else s_0
def control_Next_1 (c_0 : Int) (c_1 : Int) (c_2 : Int) (c_3 : Int) (c_4 : Int) (s_0 : Int) (s_1 : Int) (need_ : Int) : Int := bif decide (s_0 < control_Want_0 c_0 c_1 c_2 c_3 c_4 need_) then 0 else bif decide (IntKind.i64.wrap (s_0.tdiv 2) < control_Want_0 c_0 c_1 c_2 c_3 c_4 need_) then 0 else bif decide (c_4 ≤ s_1) then 0 else IntKind.i64.wrap (s_1 + 1)
def s_control_Next (c_0 : Int) (c_1 : Int) (c_2 : Int) (c_3 : Int) (c_4 : Int) (s_0 : Int) (s_1 : Int) (need_ : Int) : AV := AV.agg [AV.val (Value.int IntKind.i64 (control_Next_0 c_0 c_1 c_2 c_3 c_4 s_0 s_1 need_)), AV.val (Value.int IntKind.i64 (control_Next_1 c_0 c_1 c_2 c_3 c_4 s_0 s_1 need_))]
theorem t_control_Next (c_0 : Int) (c_1 : Int) (c_2 : Int) (c_3 : Int) (c_4 : Int) (s_0 : Int) (s_1 : Int) (need_ : Int) : F_ Try.prog L_control_Begin Try.f12 [] [] 99 [AV.agg [AV.val (Value.int IntKind.i64 c_0), AV.val (Value.int IntKind.i64 c_1), AV.val (Value.int IntKind.i64 c_2), AV.val (Value.int IntKind.i64 c_3), AV.val (Value.int IntKind.i64 c_4)], AV.agg [AV.val (Value.int IntKind.i64 s_0), AV.val (Value.int IntKind.i64 s_1)], AV.val (Value.int IntKind.i64 need_)] noMem = some (.ret (s_control_Next c_0 c_1 c_2 c_3 c_4 s_0 s_1 need_) { bl := [], nx := 99 } true) := by
  have h : F_ Try.prog L_control_Begin Try.f12 [] [] 99 [AV.agg [AV.val (Value.int IntKind.i64 c_0), AV.val (Value.int IntKind.i64 c_1), AV.val (Value.int IntKind.i64 c_2), AV.val (Value.int IntKind.i64 c_3), AV.val (Value.int IntKind.i64 c_4)], AV.agg [AV.val (Value.int IntKind.i64 s_0), AV.val (Value.int IntKind.i64 s_1)], AV.val (Value.int IntKind.i64 need_)] noMem = bif decide (s_0 < control_Want_0 c_0 c_1 c_2 c_3 c_4 need_) then some (Fin_.ret (AV.agg [AV.val (Value.int IntKind.i64 (control_Want_0 c_0 c_1 c_2 c_3 c_4 need_)), AV.val (Value.int IntKind.i64 0)]) { bl := [], nx := 99 } true) else bif decide (IntKind.i64.wrap (s_0.tdiv 2) < control_Want_0 c_0 c_1 c_2 c_3 c_4 need_) then some (Fin_.ret (AV.agg [AV.val (Value.int IntKind.i64 s_0), AV.val (Value.int IntKind.i64 0)]) { bl := [], nx := 99 } true) else bif decide (c_4 ≤ s_1) then some (Fin_.ret (AV.agg [AV.val (Value.int IntKind.i64 (max (control_Want_0 c_0 c_1 c_2 c_3 c_4 need_) (IntKind.i64.wrap (s_0.tdiv 2)))), AV.val (Value.int IntKind.i64 0)]) { bl := [], nx := 99 } true) else some (Fin_.ret (AV.agg [AV.val (Value.int IntKind.i64 s_0), AV.val (Value.int IntKind.i64 (IntKind.i64.wrap (s_1 + 1)))]) { bl := [], nx := 99 } true) := by kernel_rfl
  rw [h]
  clear h
  unfold s_control_Next control_Next_0 control_Next_1
  generalize (decide (IntKind.i64.wrap (s_0.tdiv 2) < control_Want_0 c_0 c_1 c_2 c_3 c_4 need_)) = b0_
  generalize (decide (s_0 < control_Want_0 c_0 c_1 c_2 c_3 c_4 need_)) = b1_
  generalize (decide (c_4 ≤ s_1)) = b2_
  cases b1_
  ·
    cases b0_
    ·
      cases b2_
      ·
        rfl
      ·
        rfl
    ·
      rfl
  ·
    rfl
def e_control_Next : Spec := fun _ args => match args with
  | [.agg [.val (.int .i64 c_0), .val (.int .i64 c_1), .val (.int .i64 c_2), .val (.int .i64 c_3), .val (.int .i64 c_4)], .agg [.val (.int .i64 s_0), .val (.int .i64 s_1)], .val (.int .i64 need_)] => some (s_control_Next c_0 c_1 c_2 c_3 c_4 s_0 s_1 need_, none, [])
  | _ => none
theorem ok_control_Next : SpecOk Try.prog 12 e_control_Next := fun m args v mo bs h hb => by
  unfold e_control_Next at h
  split at h
  · cases h
    exact pure_fn (c := bodyOf Try.f12) hE_control_Begin mixed (fun xs w => Try.call12 xs w) Try.func12 rfl (t_control_Next _ _ _ _ _ _ _ _) rfl rfl
  · cases h
def L_control_Next : List (FuncId × Spec) := (12, e_control_Next) :: L_control_Begin
theorem hE_control_Next : ESound Try.prog (envOf L_control_Next) := env_cons ok_control_Next hE_control_Begin
def haymowref26_Right_0 (c_0 : Int) (c_1 : Int) (c_2 : Int) (c_3 : Int) (c_4 : Int) : Bool := bif bif bif bif bif decide (16 ≤ c_0) then decide (c_0 ≤ 1048576) else false then decide (0 ≤ c_1) else false then decide (c_1 ≤ c_0) else false then decide (0 ≤ c_4) else false then decide (c_4 ≤ 16) else false
def s_haymowref26_Right (c_0 : Int) (c_1 : Int) (c_2 : Int) (c_3 : Int) (c_4 : Int) : AV := AV.val (Value.bool (haymowref26_Right_0 c_0 c_1 c_2 c_3 c_4))
theorem t_haymowref26_Right (c_0 : Int) (c_1 : Int) (c_2 : Int) (c_3 : Int) (c_4 : Int) : F_ Try.prog L_control_Next Try.f10 [] [] 99 [AV.agg [AV.val (Value.int IntKind.i64 c_0), AV.val (Value.int IntKind.i64 c_1), AV.val (Value.int IntKind.i64 c_2), AV.val (Value.int IntKind.i64 c_3), AV.val (Value.int IntKind.i64 c_4)]] noMem = some (.ret (s_haymowref26_Right c_0 c_1 c_2 c_3 c_4) { bl := [], nx := 99 } true) := by kernel_rfl
def e_haymowref26_Right : Spec := fun _ args => match args with
  | [.agg [.val (.int .i64 c_0), .val (.int .i64 c_1), .val (.int .i64 c_2), .val (.int .i64 c_3), .val (.int .i64 c_4)]] => some (s_haymowref26_Right c_0 c_1 c_2 c_3 c_4, none, [])
  | _ => none
theorem ok_haymowref26_Right : SpecOk Try.prog 10 e_haymowref26_Right := fun m args v mo bs h hb => by
  unfold e_haymowref26_Right at h
  split at h
  · cases h
    exact pure_fn (c := bodyOf Try.f10) hE_control_Next mixed (fun xs w => Try.call10 xs w) Try.func10 rfl (t_haymowref26_Right _ _ _ _ _) rfl rfl
  · cases h
def L_haymowref26_Right : List (FuncId × Spec) := (10, e_haymowref26_Right) :: L_control_Next
theorem hE_haymowref26_Right : ESound Try.prog (envOf L_haymowref26_Right) := env_cons ok_haymowref26_Right hE_control_Next
def haymowref26_Want_0 (c_0 : Int) (c_1 : Int) (c_2 : Int) (c_3 : Int) (c_4 : Int) (need_ : Int) : Int := bif decide (need_ < 0) then bif decide (c_0 < 0) then bif decide (c_0 < IntKind.i64.wrap (2 * c_0)) then bif decide (c_0 < c_1) then c_1 else c_0 else bif decide (IntKind.i64.wrap (2 * c_0) < c_1) then c_1 else IntKind.i64.wrap (2 * c_0) else bif decide (c_0 < 0) then bif decide (c_0 < c_1) then c_1 else c_0 else bif decide (0 < c_1) then c_1 else 0 else bif decide (c_0 < need_) then bif decide (c_0 < IntKind.i64.wrap (2 * c_0)) then bif decide (c_0 < c_1) then c_1 else c_0 else bif decide (IntKind.i64.wrap (2 * c_0) < c_1) then c_1 else IntKind.i64.wrap (2 * c_0) else bif decide (c_0 < IntKind.i64.wrap (2 * need_)) then bif decide (c_0 < c_1) then c_1 else c_0 else bif decide (IntKind.i64.wrap (2 * need_) < c_1) then c_1 else IntKind.i64.wrap (2 * need_)
def s_haymowref26_Want (c_0 : Int) (c_1 : Int) (c_2 : Int) (c_3 : Int) (c_4 : Int) (need_ : Int) : AV := AV.val (Value.int IntKind.i64 (haymowref26_Want_0 c_0 c_1 c_2 c_3 c_4 need_))
theorem t_haymowref26_Want (c_0 : Int) (c_1 : Int) (c_2 : Int) (c_3 : Int) (c_4 : Int) (need_ : Int) : F_ Try.prog L_haymowref26_Right Try.f17 [] [] 99 [AV.agg [AV.val (Value.int IntKind.i64 c_0), AV.val (Value.int IntKind.i64 c_1), AV.val (Value.int IntKind.i64 c_2), AV.val (Value.int IntKind.i64 c_3), AV.val (Value.int IntKind.i64 c_4)], AV.val (Value.int IntKind.i64 need_)] noMem = some (.ret (s_haymowref26_Want c_0 c_1 c_2 c_3 c_4 need_) { bl := [], nx := 99 } true) := by
  have h : F_ Try.prog L_haymowref26_Right Try.f17 [] [] 99 [AV.agg [AV.val (Value.int IntKind.i64 c_0), AV.val (Value.int IntKind.i64 c_1), AV.val (Value.int IntKind.i64 c_2), AV.val (Value.int IntKind.i64 c_3), AV.val (Value.int IntKind.i64 c_4)], AV.val (Value.int IntKind.i64 need_)] noMem = bif decide (need_ < 0) then bif decide (c_0 < 0) then bif decide (c_0 < IntKind.i64.wrap (2 * c_0)) then bif decide (c_0 < c_1) then some (Fin_.ret (AV.val (Value.int IntKind.i64 c_1)) { bl := [], nx := 99 } true) else some (Fin_.ret (AV.val (Value.int IntKind.i64 c_0)) { bl := [], nx := 99 } true) else bif decide (IntKind.i64.wrap (2 * c_0) < c_1) then some (Fin_.ret (AV.val (Value.int IntKind.i64 c_1)) { bl := [], nx := 99 } true) else some (Fin_.ret (AV.val (Value.int IntKind.i64 (IntKind.i64.wrap (2 * c_0)))) { bl := [], nx := 99 } true) else bif decide (c_0 < 0) then bif decide (c_0 < c_1) then some (Fin_.ret (AV.val (Value.int IntKind.i64 c_1)) { bl := [], nx := 99 } true) else some (Fin_.ret (AV.val (Value.int IntKind.i64 c_0)) { bl := [], nx := 99 } true) else bif decide (0 < c_1) then some (Fin_.ret (AV.val (Value.int IntKind.i64 c_1)) { bl := [], nx := 99 } true) else some (Fin_.ret (AV.val (Value.int IntKind.i64 0)) { bl := [], nx := 99 } true) else bif decide (c_0 < need_) then bif decide (c_0 < IntKind.i64.wrap (2 * c_0)) then bif decide (c_0 < c_1) then some (Fin_.ret (AV.val (Value.int IntKind.i64 c_1)) { bl := [], nx := 99 } true) else some (Fin_.ret (AV.val (Value.int IntKind.i64 c_0)) { bl := [], nx := 99 } true) else bif decide (IntKind.i64.wrap (2 * c_0) < c_1) then some (Fin_.ret (AV.val (Value.int IntKind.i64 c_1)) { bl := [], nx := 99 } true) else some (Fin_.ret (AV.val (Value.int IntKind.i64 (IntKind.i64.wrap (2 * c_0)))) { bl := [], nx := 99 } true) else bif decide (c_0 < IntKind.i64.wrap (2 * need_)) then bif decide (c_0 < c_1) then some (Fin_.ret (AV.val (Value.int IntKind.i64 c_1)) { bl := [], nx := 99 } true) else some (Fin_.ret (AV.val (Value.int IntKind.i64 c_0)) { bl := [], nx := 99 } true) else bif decide (IntKind.i64.wrap (2 * need_) < c_1) then some (Fin_.ret (AV.val (Value.int IntKind.i64 c_1)) { bl := [], nx := 99 } true) else some (Fin_.ret (AV.val (Value.int IntKind.i64 (IntKind.i64.wrap (2 * need_)))) { bl := [], nx := 99 } true) := by kernel_rfl
  rw [h]
  clear h
  unfold s_haymowref26_Want haymowref26_Want_0
  generalize (decide (IntKind.i64.wrap (2 * need_) < c_1)) = b0_
  generalize (decide (IntKind.i64.wrap (2 * c_0) < c_1)) = b1_
  generalize (decide (c_0 < IntKind.i64.wrap (2 * c_0))) = b2_
  generalize (decide (c_0 < IntKind.i64.wrap (2 * need_))) = b3_
  generalize (decide (0 < c_1)) = b4_
  generalize (decide (c_0 < 0)) = b5_
  generalize (decide (c_0 < c_1)) = b6_
  generalize (decide (c_0 < need_)) = b7_
  generalize (decide (need_ < 0)) = b8_
  cases b8_
  ·
    cases b7_
    ·
      cases b3_
      ·
        cases b0_
        ·
          rfl
        ·
          rfl
      ·
        cases b6_
        ·
          rfl
        ·
          rfl
    ·
      cases b2_
      ·
        cases b1_
        ·
          rfl
        ·
          rfl
      ·
        cases b6_
        ·
          rfl
        ·
          rfl
  ·
    cases b5_
    ·
      cases b4_
      ·
        rfl
      ·
        rfl
    ·
      cases b2_
      ·
        cases b1_
        ·
          rfl
        ·
          rfl
      ·
        cases b6_
        ·
          rfl
        ·
          rfl
def e_haymowref26_Want : Spec := fun _ args => match args with
  | [.agg [.val (.int .i64 c_0), .val (.int .i64 c_1), .val (.int .i64 c_2), .val (.int .i64 c_3), .val (.int .i64 c_4)], .val (.int .i64 need_)] => some (s_haymowref26_Want c_0 c_1 c_2 c_3 c_4 need_, none, [])
  | _ => none
theorem ok_haymowref26_Want : SpecOk Try.prog 17 e_haymowref26_Want := fun m args v mo bs h hb => by
  unfold e_haymowref26_Want at h
  split at h
  · cases h
    exact pure_fn (c := bodyOf Try.f17) hE_haymowref26_Right mixed (fun xs w => Try.call17 xs w) Try.func17 rfl (t_haymowref26_Want _ _ _ _ _ _) rfl rfl
  · cases h
def L_haymowref26_Want : List (FuncId × Spec) := (17, e_haymowref26_Want) :: L_haymowref26_Right
theorem hE_haymowref26_Want : ESound Try.prog (envOf L_haymowref26_Want) := env_cons ok_haymowref26_Want hE_haymowref26_Right
def haymowref26_Next_0 (c_0 : Int) (c_1 : Int) (c_2 : Int) (c_3 : Int) (c_4 : Int) (t_ : Int) (quiet_ : Int) (need_ : Int) : Int := bif decide (t_ < haymowref26_Want_0 c_0 c_1 c_2 c_3 c_4 need_) then haymowref26_Want_0 c_0 c_1 c_2 c_3 c_4 need_ else bif decide (IntKind.i64.wrap (t_.tdiv 2) < haymowref26_Want_0 c_0 c_1 c_2 c_3 c_4 need_) then t_ else bif decide (quiet_ < c_4) then t_ else max (IntKind.i64.wrap (t_.tdiv 2)) (haymowref26_Want_0 c_0 c_1 c_2 c_3 c_4 need_)
def haymowref26_Next_1 (c_0 : Int) (c_1 : Int) (c_2 : Int) (c_3 : Int) (c_4 : Int) (t_ : Int) (quiet_ : Int) (need_ : Int) : Int := bif decide (t_ < haymowref26_Want_0 c_0 c_1 c_2 c_3 c_4 need_) then 0 else bif decide (IntKind.i64.wrap (t_.tdiv 2) < haymowref26_Want_0 c_0 c_1 c_2 c_3 c_4 need_) then 0 else bif decide (quiet_ < c_4) then IntKind.i64.wrap (quiet_ + 1) else 0
def s_haymowref26_Next (c_0 : Int) (c_1 : Int) (c_2 : Int) (c_3 : Int) (c_4 : Int) (t_ : Int) (quiet_ : Int) (need_ : Int) : AV := AV.tup [AV.val (Value.int IntKind.i64 (haymowref26_Next_0 c_0 c_1 c_2 c_3 c_4 t_ quiet_ need_)), AV.val (Value.int IntKind.i64 (haymowref26_Next_1 c_0 c_1 c_2 c_3 c_4 t_ quiet_ need_))]
theorem t_haymowref26_Next (c_0 : Int) (c_1 : Int) (c_2 : Int) (c_3 : Int) (c_4 : Int) (t_ : Int) (quiet_ : Int) (need_ : Int) : F_ Try.prog L_haymowref26_Want Try.f16 [] [] 99 [AV.agg [AV.val (Value.int IntKind.i64 c_0), AV.val (Value.int IntKind.i64 c_1), AV.val (Value.int IntKind.i64 c_2), AV.val (Value.int IntKind.i64 c_3), AV.val (Value.int IntKind.i64 c_4)], AV.val (Value.int IntKind.i64 t_), AV.val (Value.int IntKind.i64 quiet_), AV.val (Value.int IntKind.i64 need_)] noMem = some (.ret (s_haymowref26_Next c_0 c_1 c_2 c_3 c_4 t_ quiet_ need_) { bl := [], nx := 99 } true) := by
  have h : F_ Try.prog L_haymowref26_Want Try.f16 [] [] 99 [AV.agg [AV.val (Value.int IntKind.i64 c_0), AV.val (Value.int IntKind.i64 c_1), AV.val (Value.int IntKind.i64 c_2), AV.val (Value.int IntKind.i64 c_3), AV.val (Value.int IntKind.i64 c_4)], AV.val (Value.int IntKind.i64 t_), AV.val (Value.int IntKind.i64 quiet_), AV.val (Value.int IntKind.i64 need_)] noMem = bif decide (t_ < haymowref26_Want_0 c_0 c_1 c_2 c_3 c_4 need_) then some (Fin_.ret (AV.tup [AV.val (Value.int IntKind.i64 (haymowref26_Want_0 c_0 c_1 c_2 c_3 c_4 need_)), AV.val (Value.int IntKind.i64 0)]) { bl := [], nx := 99 } true) else bif decide (IntKind.i64.wrap (t_.tdiv 2) < haymowref26_Want_0 c_0 c_1 c_2 c_3 c_4 need_) then some (Fin_.ret (AV.tup [AV.val (Value.int IntKind.i64 t_), AV.val (Value.int IntKind.i64 0)]) { bl := [], nx := 99 } true) else bif decide (quiet_ < c_4) then some (Fin_.ret (AV.tup [AV.val (Value.int IntKind.i64 t_), AV.val (Value.int IntKind.i64 (IntKind.i64.wrap (quiet_ + 1)))]) { bl := [], nx := 99 } true) else some (Fin_.ret (AV.tup [AV.val (Value.int IntKind.i64 (max (IntKind.i64.wrap (t_.tdiv 2)) (haymowref26_Want_0 c_0 c_1 c_2 c_3 c_4 need_))), AV.val (Value.int IntKind.i64 0)]) { bl := [], nx := 99 } true) := by kernel_rfl
  rw [h]
  clear h
  unfold s_haymowref26_Next haymowref26_Next_0 haymowref26_Next_1
  generalize (decide (IntKind.i64.wrap (t_.tdiv 2) < haymowref26_Want_0 c_0 c_1 c_2 c_3 c_4 need_)) = b0_
  generalize (decide (t_ < haymowref26_Want_0 c_0 c_1 c_2 c_3 c_4 need_)) = b1_
  generalize (decide (quiet_ < c_4)) = b2_
  cases b1_
  ·
    cases b0_
    ·
      cases b2_
      ·
        rfl
      ·
        rfl
    ·
      rfl
  ·
    rfl
def e_haymowref26_Next : Spec := fun _ args => match args with
  | [.agg [.val (.int .i64 c_0), .val (.int .i64 c_1), .val (.int .i64 c_2), .val (.int .i64 c_3), .val (.int .i64 c_4)], .val (.int .i64 t_), .val (.int .i64 quiet_), .val (.int .i64 need_)] => some (s_haymowref26_Next c_0 c_1 c_2 c_3 c_4 t_ quiet_ need_, none, [])
  | _ => none
theorem ok_haymowref26_Next : SpecOk Try.prog 16 e_haymowref26_Next := fun m args v mo bs h hb => by
  unfold e_haymowref26_Next at h
  split at h
  · cases h
    exact pure_fn (c := bodyOf Try.f16) hE_haymowref26_Want mixed (fun xs w => Try.call16 xs w) Try.func16 rfl (t_haymowref26_Next _ _ _ _ _ _ _ _) rfl rfl
  · cases h
def L_haymowref26_Next : List (FuncId × Spec) := (16, e_haymowref26_Next) :: L_haymowref26_Want
theorem hE_haymowref26_Next : ESound Try.prog (envOf L_haymowref26_Next) := env_cons ok_haymowref26_Next hE_haymowref26_Want
def gate_over_0 (a_ : Int) (b_ : Int) (most_ : Int) : Bool := bif decide (most_ < max a_ 0) then true else decide (IntKind.i64.wrap (most_ - max a_ 0) < max b_ 0)
def s_gate_over (a_ : Int) (b_ : Int) (most_ : Int) : AV := AV.val (Value.bool (gate_over_0 a_ b_ most_))
theorem t_gate_over (a_ : Int) (b_ : Int) (most_ : Int) : F_ Try.prog L_haymowref26_Next Try.f29 [] [] 99 [AV.val (Value.int IntKind.i64 a_), AV.val (Value.int IntKind.i64 b_), AV.val (Value.int IntKind.i64 most_)] noMem = some (.ret (s_gate_over a_ b_ most_) { bl := [], nx := 99 } true) := by kernel_rfl
def e_gate_over : Spec := fun _ args => match args with
  | [.val (.int .i64 a_), .val (.int .i64 b_), .val (.int .i64 most_)] => some (s_gate_over a_ b_ most_, none, [])
  | _ => none
theorem ok_gate_over : SpecOk Try.prog 29 e_gate_over := fun m args v mo bs h hb => by
  unfold e_gate_over at h
  split at h
  · cases h
    exact pure_fn (c := bodyOf Try.f29) hE_haymowref26_Next mixed (fun xs w => Try.call29 xs w) Try.func29 rfl (t_gate_over _ _ _) rfl rfl
  · cases h
def L_gate_over : List (FuncId × Spec) := (29, e_gate_over) :: L_haymowref26_Next
theorem hE_gate_over : ESound Try.prog (envOf L_gate_over) := env_cons ok_gate_over hE_haymowref26_Next
def gate_Gate_Asks_0 (g_0 : Int) (g_1 : Int) (g_2 : Int) (g_3 : Int) (g_4 : Int) (g_5 : Int) (g_6 : Int) (g_7 : Int) (used_ : Int) (words_ : Int) : Bool := gate_over_0 used_ words_ g_5
def s_gate_Gate_Asks (g_0 : Int) (g_1 : Int) (g_2 : Int) (g_3 : Int) (g_4 : Int) (g_5 : Int) (g_6 : Int) (g_7 : Int) (used_ : Int) (words_ : Int) : AV := AV.val (Value.bool (gate_Gate_Asks_0 g_0 g_1 g_2 g_3 g_4 g_5 g_6 g_7 used_ words_))
theorem t_gate_Gate_Asks (g_0 : Int) (g_1 : Int) (g_2 : Int) (g_3 : Int) (g_4 : Int) (g_5 : Int) (g_6 : Int) (g_7 : Int) (used_ : Int) (words_ : Int) : F_ Try.prog L_gate_over Try.f21 [] [] 99 [AV.agg [AV.val (Value.int IntKind.i64 g_0), AV.val (Value.int IntKind.i64 g_1), AV.val (Value.int IntKind.i64 g_2), AV.val (Value.int IntKind.i64 g_3), AV.val (Value.int IntKind.i64 g_4), AV.val (Value.int IntKind.i64 g_5), AV.val (Value.int IntKind.i64 g_6), AV.val (Value.int IntKind.i64 g_7)], AV.val (Value.int IntKind.i64 used_), AV.val (Value.int IntKind.i64 words_)] noMem = some (.ret (s_gate_Gate_Asks g_0 g_1 g_2 g_3 g_4 g_5 g_6 g_7 used_ words_) { bl := [], nx := 99 } true) := by kernel_rfl
def e_gate_Gate_Asks : Spec := fun _ args => match args with
  | [.agg [.val (.int .i64 g_0), .val (.int .i64 g_1), .val (.int .i64 g_2), .val (.int .i64 g_3), .val (.int .i64 g_4), .val (.int .i64 g_5), .val (.int .i64 g_6), .val (.int .i64 g_7)], .val (.int .i64 used_), .val (.int .i64 words_)] => some (s_gate_Gate_Asks g_0 g_1 g_2 g_3 g_4 g_5 g_6 g_7 used_ words_, none, [])
  | _ => none
theorem ok_gate_Gate_Asks : SpecOk Try.prog 21 e_gate_Gate_Asks := fun m args v mo bs h hb => by
  unfold e_gate_Gate_Asks at h
  split at h
  · cases h
    exact pure_fn (c := bodyOf Try.f21) hE_gate_over mixed (fun xs w => Try.call21 xs w) Try.func21 rfl (t_gate_Gate_Asks _ _ _ _ _ _ _ _ _ _) rfl rfl
  · cases h
def L_gate_Gate_Asks : List (FuncId × Spec) := (21, e_gate_Gate_Asks) :: L_gate_over
theorem hE_gate_Gate_Asks : ESound Try.prog (envOf L_gate_Gate_Asks) := env_cons ok_gate_Gate_Asks hE_gate_over
def gate_Gate_Fits_0 (g_0 : Int) (g_1 : Int) (g_2 : Int) (g_3 : Int) (g_4 : Int) (g_5 : Int) (g_6 : Int) (g_7 : Int) (live_ : Int) (words_ : Int) : Bool := !gate_over_0 live_ words_ g_0
def s_gate_Gate_Fits (g_0 : Int) (g_1 : Int) (g_2 : Int) (g_3 : Int) (g_4 : Int) (g_5 : Int) (g_6 : Int) (g_7 : Int) (live_ : Int) (words_ : Int) : AV := AV.val (Value.bool (gate_Gate_Fits_0 g_0 g_1 g_2 g_3 g_4 g_5 g_6 g_7 live_ words_))
theorem t_gate_Gate_Fits (g_0 : Int) (g_1 : Int) (g_2 : Int) (g_3 : Int) (g_4 : Int) (g_5 : Int) (g_6 : Int) (g_7 : Int) (live_ : Int) (words_ : Int) : F_ Try.prog L_gate_Gate_Asks Try.f23 [] [] 99 [AV.agg [AV.val (Value.int IntKind.i64 g_0), AV.val (Value.int IntKind.i64 g_1), AV.val (Value.int IntKind.i64 g_2), AV.val (Value.int IntKind.i64 g_3), AV.val (Value.int IntKind.i64 g_4), AV.val (Value.int IntKind.i64 g_5), AV.val (Value.int IntKind.i64 g_6), AV.val (Value.int IntKind.i64 g_7)], AV.val (Value.int IntKind.i64 live_), AV.val (Value.int IntKind.i64 words_)] noMem = some (.ret (s_gate_Gate_Fits g_0 g_1 g_2 g_3 g_4 g_5 g_6 g_7 live_ words_) { bl := [], nx := 99 } true) := by kernel_rfl
def e_gate_Gate_Fits : Spec := fun _ args => match args with
  | [.agg [.val (.int .i64 g_0), .val (.int .i64 g_1), .val (.int .i64 g_2), .val (.int .i64 g_3), .val (.int .i64 g_4), .val (.int .i64 g_5), .val (.int .i64 g_6), .val (.int .i64 g_7)], .val (.int .i64 live_), .val (.int .i64 words_)] => some (s_gate_Gate_Fits g_0 g_1 g_2 g_3 g_4 g_5 g_6 g_7 live_ words_, none, [])
  | _ => none
theorem ok_gate_Gate_Fits : SpecOk Try.prog 23 e_gate_Gate_Fits := fun m args v mo bs h hb => by
  unfold e_gate_Gate_Fits at h
  split at h
  · cases h
    exact pure_fn (c := bodyOf Try.f23) hE_gate_Gate_Asks mixed (fun xs w => Try.call23 xs w) Try.func23 rfl (t_gate_Gate_Fits _ _ _ _ _ _ _ _ _ _) rfl rfl
  · cases h
def L_gate_Gate_Fits : List (FuncId × Spec) := (23, e_gate_Gate_Fits) :: L_gate_Gate_Asks
theorem hE_gate_Gate_Fits : ESound Try.prog (envOf L_gate_Gate_Fits) := env_cons ok_gate_Gate_Fits hE_gate_Gate_Asks
def gate_Gate_Pressed_0 (g_0 : Int) (g_1 : Int) (g_2 : Int) (g_3 : Int) (g_4 : Int) (g_5 : Int) (g_6 : Int) (g_7 : Int) : Bool := decide (IntKind.i64.wrap ((max g_5 0).tdiv 2) < g_7)
def s_gate_Gate_Pressed (g_0 : Int) (g_1 : Int) (g_2 : Int) (g_3 : Int) (g_4 : Int) (g_5 : Int) (g_6 : Int) (g_7 : Int) : AV := AV.val (Value.bool (gate_Gate_Pressed_0 g_0 g_1 g_2 g_3 g_4 g_5 g_6 g_7))
theorem t_gate_Gate_Pressed (g_0 : Int) (g_1 : Int) (g_2 : Int) (g_3 : Int) (g_4 : Int) (g_5 : Int) (g_6 : Int) (g_7 : Int) : F_ Try.prog L_gate_Gate_Fits Try.f24 [] [] 99 [AV.agg [AV.val (Value.int IntKind.i64 g_0), AV.val (Value.int IntKind.i64 g_1), AV.val (Value.int IntKind.i64 g_2), AV.val (Value.int IntKind.i64 g_3), AV.val (Value.int IntKind.i64 g_4), AV.val (Value.int IntKind.i64 g_5), AV.val (Value.int IntKind.i64 g_6), AV.val (Value.int IntKind.i64 g_7)]] noMem = some (.ret (s_gate_Gate_Pressed g_0 g_1 g_2 g_3 g_4 g_5 g_6 g_7) { bl := [], nx := 99 } true) := by kernel_rfl
def e_gate_Gate_Pressed : Spec := fun _ args => match args with
  | [.agg [.val (.int .i64 g_0), .val (.int .i64 g_1), .val (.int .i64 g_2), .val (.int .i64 g_3), .val (.int .i64 g_4), .val (.int .i64 g_5), .val (.int .i64 g_6), .val (.int .i64 g_7)]] => some (s_gate_Gate_Pressed g_0 g_1 g_2 g_3 g_4 g_5 g_6 g_7, none, [])
  | _ => none
theorem ok_gate_Gate_Pressed : SpecOk Try.prog 24 e_gate_Gate_Pressed := fun m args v mo bs h hb => by
  unfold e_gate_Gate_Pressed at h
  split at h
  · cases h
    exact pure_fn (c := bodyOf Try.f24) hE_gate_Gate_Fits mixed (fun xs w => Try.call24 xs w) Try.func24 rfl (t_gate_Gate_Pressed _ _ _ _ _ _ _ _) rfl rfl
  · cases h
def L_gate_Gate_Pressed : List (FuncId × Spec) := (24, e_gate_Gate_Pressed) :: L_gate_Gate_Fits
theorem hE_gate_Gate_Pressed : ESound Try.prog (envOf L_gate_Gate_Pressed) := env_cons ok_gate_Gate_Pressed hE_gate_Gate_Fits
def gate_Gate_After_0 (g_0 : Int) (g_1 : Int) (g_2 : Int) (g_3 : Int) (g_4 : Int) (g_5 : Int) (g_6 : Int) (g_7 : Int) (live_ : Int) (words_ : Int) : Int := bif gate_Gate_Fits_0 g_0 g_1 g_2 g_3 g_4 g_5 g_6 g_7 live_ words_ then control_Next_0 g_0 g_1 g_2 g_3 g_4 g_5 g_6 (IntKind.i64.wrap (min (max live_ 0) g_0 + max words_ 0)) else control_Next_0 g_0 g_1 g_2 g_3 g_4 g_5 g_6 (min (max live_ 0) g_0)
def gate_Gate_After_1 (g_0 : Int) (g_1 : Int) (g_2 : Int) (g_3 : Int) (g_4 : Int) (g_5 : Int) (g_6 : Int) (g_7 : Int) (live_ : Int) (words_ : Int) : Int := bif gate_Gate_Fits_0 g_0 g_1 g_2 g_3 g_4 g_5 g_6 g_7 live_ words_ then control_Next_1 g_0 g_1 g_2 g_3 g_4 g_5 g_6 (IntKind.i64.wrap (min (max live_ 0) g_0 + max words_ 0)) else control_Next_1 g_0 g_1 g_2 g_3 g_4 g_5 g_6 (min (max live_ 0) g_0)
def gate_Gate_After_2 (g_0 : Int) (g_1 : Int) (g_2 : Int) (g_3 : Int) (g_4 : Int) (g_5 : Int) (g_6 : Int) (g_7 : Int) (live_ : Int) (words_ : Int) : Int := bif gate_Gate_Fits_0 g_0 g_1 g_2 g_3 g_4 g_5 g_6 g_7 live_ words_ then IntKind.i64.wrap (min (max live_ 0) g_0 + max words_ 0) else min (max live_ 0) g_0
def gate_Gate_After_3 (g_0 : Int) (g_1 : Int) (g_2 : Int) (g_3 : Int) (g_4 : Int) (g_5 : Int) (g_6 : Int) (g_7 : Int) (live_ : Int) (words_ : Int) : Bool := gate_Gate_Fits_0 g_0 g_1 g_2 g_3 g_4 g_5 g_6 g_7 live_ words_
def s_gate_Gate_After (g_0 : Int) (g_1 : Int) (g_2 : Int) (g_3 : Int) (g_4 : Int) (g_5 : Int) (g_6 : Int) (g_7 : Int) (live_ : Int) (words_ : Int) : AV := AV.tup [AV.agg [AV.val (Value.int IntKind.i64 g_0), AV.val (Value.int IntKind.i64 g_1), AV.val (Value.int IntKind.i64 g_2), AV.val (Value.int IntKind.i64 g_3), AV.val (Value.int IntKind.i64 g_4), AV.val (Value.int IntKind.i64 (gate_Gate_After_0 g_0 g_1 g_2 g_3 g_4 g_5 g_6 g_7 live_ words_)), AV.val (Value.int IntKind.i64 (gate_Gate_After_1 g_0 g_1 g_2 g_3 g_4 g_5 g_6 g_7 live_ words_)), AV.val (Value.int IntKind.i64 (gate_Gate_After_2 g_0 g_1 g_2 g_3 g_4 g_5 g_6 g_7 live_ words_))], AV.val (Value.bool (gate_Gate_After_3 g_0 g_1 g_2 g_3 g_4 g_5 g_6 g_7 live_ words_))]
theorem t_gate_Gate_After (g_0 : Int) (g_1 : Int) (g_2 : Int) (g_3 : Int) (g_4 : Int) (g_5 : Int) (g_6 : Int) (g_7 : Int) (live_ : Int) (words_ : Int) : F_ Try.prog L_gate_Gate_Pressed Try.f25 [] [] 99 [AV.agg [AV.val (Value.int IntKind.i64 g_0), AV.val (Value.int IntKind.i64 g_1), AV.val (Value.int IntKind.i64 g_2), AV.val (Value.int IntKind.i64 g_3), AV.val (Value.int IntKind.i64 g_4), AV.val (Value.int IntKind.i64 g_5), AV.val (Value.int IntKind.i64 g_6), AV.val (Value.int IntKind.i64 g_7)], AV.val (Value.int IntKind.i64 live_), AV.val (Value.int IntKind.i64 words_)] noMem = some (.ret (s_gate_Gate_After g_0 g_1 g_2 g_3 g_4 g_5 g_6 g_7 live_ words_) { bl := [], nx := 99 } true) := by
  have h : F_ Try.prog L_gate_Gate_Pressed Try.f25 [] [] 99 [AV.agg [AV.val (Value.int IntKind.i64 g_0), AV.val (Value.int IntKind.i64 g_1), AV.val (Value.int IntKind.i64 g_2), AV.val (Value.int IntKind.i64 g_3), AV.val (Value.int IntKind.i64 g_4), AV.val (Value.int IntKind.i64 g_5), AV.val (Value.int IntKind.i64 g_6), AV.val (Value.int IntKind.i64 g_7)], AV.val (Value.int IntKind.i64 live_), AV.val (Value.int IntKind.i64 words_)] noMem = bif gate_Gate_Fits_0 g_0 g_1 g_2 g_3 g_4 g_5 g_6 g_7 live_ words_ then some (Fin_.ret (AV.tup [AV.agg [AV.val (Value.int IntKind.i64 g_0), AV.val (Value.int IntKind.i64 g_1), AV.val (Value.int IntKind.i64 g_2), AV.val (Value.int IntKind.i64 g_3), AV.val (Value.int IntKind.i64 g_4), AV.val (Value.int IntKind.i64 (control_Next_0 g_0 g_1 g_2 g_3 g_4 g_5 g_6 (IntKind.i64.wrap (min (max live_ 0) g_0 + max words_ 0)))), AV.val (Value.int IntKind.i64 (control_Next_1 g_0 g_1 g_2 g_3 g_4 g_5 g_6 (IntKind.i64.wrap (min (max live_ 0) g_0 + max words_ 0)))), AV.val (Value.int IntKind.i64 (IntKind.i64.wrap (min (max live_ 0) g_0 + max words_ 0)))], AV.val (Value.bool (gate_Gate_Fits_0 g_0 g_1 g_2 g_3 g_4 g_5 g_6 g_7 live_ words_))]) { bl := [], nx := 99 } true) else some (Fin_.ret (AV.tup [AV.agg [AV.val (Value.int IntKind.i64 g_0), AV.val (Value.int IntKind.i64 g_1), AV.val (Value.int IntKind.i64 g_2), AV.val (Value.int IntKind.i64 g_3), AV.val (Value.int IntKind.i64 g_4), AV.val (Value.int IntKind.i64 (control_Next_0 g_0 g_1 g_2 g_3 g_4 g_5 g_6 (min (max live_ 0) g_0))), AV.val (Value.int IntKind.i64 (control_Next_1 g_0 g_1 g_2 g_3 g_4 g_5 g_6 (min (max live_ 0) g_0))), AV.val (Value.int IntKind.i64 (min (max live_ 0) g_0))], AV.val (Value.bool (gate_Gate_Fits_0 g_0 g_1 g_2 g_3 g_4 g_5 g_6 g_7 live_ words_))]) { bl := [], nx := 99 } true) := by kernel_rfl
  rw [h]
  clear h
  unfold s_gate_Gate_After gate_Gate_After_0 gate_Gate_After_1 gate_Gate_After_2 gate_Gate_After_3
  generalize (gate_Gate_Fits_0 g_0 g_1 g_2 g_3 g_4 g_5 g_6 g_7 live_ words_) = b0_
  cases b0_
  ·
    rfl
  ·
    rfl
def e_gate_Gate_After : Spec := fun _ args => match args with
  | [.agg [.val (.int .i64 g_0), .val (.int .i64 g_1), .val (.int .i64 g_2), .val (.int .i64 g_3), .val (.int .i64 g_4), .val (.int .i64 g_5), .val (.int .i64 g_6), .val (.int .i64 g_7)], .val (.int .i64 live_), .val (.int .i64 words_)] => some (s_gate_Gate_After g_0 g_1 g_2 g_3 g_4 g_5 g_6 g_7 live_ words_, none, [])
  | _ => none
theorem ok_gate_Gate_After : SpecOk Try.prog 25 e_gate_Gate_After := fun m args v mo bs h hb => by
  unfold e_gate_Gate_After at h
  split at h
  · cases h
    exact pure_fn (c := bodyOf Try.f25) hE_gate_Gate_Pressed mixed (fun xs w => Try.call25 xs w) Try.func25 rfl (t_gate_Gate_After _ _ _ _ _ _ _ _ _ _) rfl rfl
  · cases h
def L_gate_Gate_After : List (FuncId × Spec) := (25, e_gate_Gate_After) :: L_gate_Gate_Pressed
theorem hE_gate_Gate_After : ESound Try.prog (envOf L_gate_Gate_After) := env_cons ok_gate_Gate_After hE_gate_Gate_Pressed
def gate_Gate_Judge_0 (g_0 : Int) (g_1 : Int) (g_2 : Int) (g_3 : Int) (g_4 : Int) (g_5 : Int) (g_6 : Int) (g_7 : Int) (used_ : Int) (live_ : Int) (words_ : Int) : Int := bif !gate_Gate_Asks_0 g_0 g_1 g_2 g_3 g_4 g_5 g_6 g_7 used_ words_ then g_5 else gate_Gate_After_0 g_0 g_1 g_2 g_3 g_4 g_5 g_6 g_7 live_ words_
def gate_Gate_Judge_1 (g_0 : Int) (g_1 : Int) (g_2 : Int) (g_3 : Int) (g_4 : Int) (g_5 : Int) (g_6 : Int) (g_7 : Int) (used_ : Int) (live_ : Int) (words_ : Int) : Int := bif !gate_Gate_Asks_0 g_0 g_1 g_2 g_3 g_4 g_5 g_6 g_7 used_ words_ then g_6 else gate_Gate_After_1 g_0 g_1 g_2 g_3 g_4 g_5 g_6 g_7 live_ words_
def gate_Gate_Judge_2 (g_0 : Int) (g_1 : Int) (g_2 : Int) (g_3 : Int) (g_4 : Int) (g_5 : Int) (g_6 : Int) (g_7 : Int) (used_ : Int) (live_ : Int) (words_ : Int) : Int := bif !gate_Gate_Asks_0 g_0 g_1 g_2 g_3 g_4 g_5 g_6 g_7 used_ words_ then g_7 else gate_Gate_After_2 g_0 g_1 g_2 g_3 g_4 g_5 g_6 g_7 live_ words_
def gate_Gate_Judge_3 (g_0 : Int) (g_1 : Int) (g_2 : Int) (g_3 : Int) (g_4 : Int) (g_5 : Int) (g_6 : Int) (g_7 : Int) (used_ : Int) (live_ : Int) (words_ : Int) : Bool := bif !gate_Gate_Asks_0 g_0 g_1 g_2 g_3 g_4 g_5 g_6 g_7 used_ words_ then true else gate_Gate_After_3 g_0 g_1 g_2 g_3 g_4 g_5 g_6 g_7 live_ words_
def gate_Gate_Judge_4 (g_0 : Int) (g_1 : Int) (g_2 : Int) (g_3 : Int) (g_4 : Int) (g_5 : Int) (g_6 : Int) (g_7 : Int) (used_ : Int) (live_ : Int) (words_ : Int) : Bool := bif !gate_Gate_Asks_0 g_0 g_1 g_2 g_3 g_4 g_5 g_6 g_7 used_ words_ then false else true
def gate_Gate_Judge_5 (g_0 : Int) (g_1 : Int) (g_2 : Int) (g_3 : Int) (g_4 : Int) (g_5 : Int) (g_6 : Int) (g_7 : Int) (used_ : Int) (live_ : Int) (words_ : Int) : Bool := bif !gate_Gate_Asks_0 g_0 g_1 g_2 g_3 g_4 g_5 g_6 g_7 used_ words_ then false else bif gate_Gate_Pressed_0 g_0 g_1 g_2 g_3 g_4 g_5 g_6 g_7 then true else !gate_Gate_After_3 g_0 g_1 g_2 g_3 g_4 g_5 g_6 g_7 live_ words_
def s_gate_Gate_Judge (g_0 : Int) (g_1 : Int) (g_2 : Int) (g_3 : Int) (g_4 : Int) (g_5 : Int) (g_6 : Int) (g_7 : Int) (used_ : Int) (live_ : Int) (words_ : Int) : AV := AV.tup [AV.agg [AV.val (Value.int IntKind.i64 g_0), AV.val (Value.int IntKind.i64 g_1), AV.val (Value.int IntKind.i64 g_2), AV.val (Value.int IntKind.i64 g_3), AV.val (Value.int IntKind.i64 g_4), AV.val (Value.int IntKind.i64 (gate_Gate_Judge_0 g_0 g_1 g_2 g_3 g_4 g_5 g_6 g_7 used_ live_ words_)), AV.val (Value.int IntKind.i64 (gate_Gate_Judge_1 g_0 g_1 g_2 g_3 g_4 g_5 g_6 g_7 used_ live_ words_)), AV.val (Value.int IntKind.i64 (gate_Gate_Judge_2 g_0 g_1 g_2 g_3 g_4 g_5 g_6 g_7 used_ live_ words_))], AV.agg [AV.val (Value.bool (gate_Gate_Judge_3 g_0 g_1 g_2 g_3 g_4 g_5 g_6 g_7 used_ live_ words_)), AV.val (Value.bool (gate_Gate_Judge_4 g_0 g_1 g_2 g_3 g_4 g_5 g_6 g_7 used_ live_ words_)), AV.val (Value.bool (gate_Gate_Judge_5 g_0 g_1 g_2 g_3 g_4 g_5 g_6 g_7 used_ live_ words_))]]
theorem t_gate_Gate_Judge (g_0 : Int) (g_1 : Int) (g_2 : Int) (g_3 : Int) (g_4 : Int) (g_5 : Int) (g_6 : Int) (g_7 : Int) (used_ : Int) (live_ : Int) (words_ : Int) : F_ Try.prog L_gate_Gate_After Try.f27 [] [] 99 [AV.agg [AV.val (Value.int IntKind.i64 g_0), AV.val (Value.int IntKind.i64 g_1), AV.val (Value.int IntKind.i64 g_2), AV.val (Value.int IntKind.i64 g_3), AV.val (Value.int IntKind.i64 g_4), AV.val (Value.int IntKind.i64 g_5), AV.val (Value.int IntKind.i64 g_6), AV.val (Value.int IntKind.i64 g_7)], AV.val (Value.int IntKind.i64 used_), AV.val (Value.int IntKind.i64 live_), AV.val (Value.int IntKind.i64 words_)] noMem = some (.ret (s_gate_Gate_Judge g_0 g_1 g_2 g_3 g_4 g_5 g_6 g_7 used_ live_ words_) { bl := [], nx := 99 } true) := by
  have h : F_ Try.prog L_gate_Gate_After Try.f27 [] [] 99 [AV.agg [AV.val (Value.int IntKind.i64 g_0), AV.val (Value.int IntKind.i64 g_1), AV.val (Value.int IntKind.i64 g_2), AV.val (Value.int IntKind.i64 g_3), AV.val (Value.int IntKind.i64 g_4), AV.val (Value.int IntKind.i64 g_5), AV.val (Value.int IntKind.i64 g_6), AV.val (Value.int IntKind.i64 g_7)], AV.val (Value.int IntKind.i64 used_), AV.val (Value.int IntKind.i64 live_), AV.val (Value.int IntKind.i64 words_)] noMem = bif !gate_Gate_Asks_0 g_0 g_1 g_2 g_3 g_4 g_5 g_6 g_7 used_ words_ then some (Fin_.ret (AV.tup [AV.agg [AV.val (Value.int IntKind.i64 g_0), AV.val (Value.int IntKind.i64 g_1), AV.val (Value.int IntKind.i64 g_2), AV.val (Value.int IntKind.i64 g_3), AV.val (Value.int IntKind.i64 g_4), AV.val (Value.int IntKind.i64 g_5), AV.val (Value.int IntKind.i64 g_6), AV.val (Value.int IntKind.i64 g_7)], AV.agg [AV.val (Value.bool true), AV.val (Value.bool false), AV.val (Value.bool false)]]) { bl := [], nx := 99 } true) else some (Fin_.ret (AV.tup [AV.agg [AV.val (Value.int IntKind.i64 g_0), AV.val (Value.int IntKind.i64 g_1), AV.val (Value.int IntKind.i64 g_2), AV.val (Value.int IntKind.i64 g_3), AV.val (Value.int IntKind.i64 g_4), AV.val (Value.int IntKind.i64 (gate_Gate_After_0 g_0 g_1 g_2 g_3 g_4 g_5 g_6 g_7 live_ words_)), AV.val (Value.int IntKind.i64 (gate_Gate_After_1 g_0 g_1 g_2 g_3 g_4 g_5 g_6 g_7 live_ words_)), AV.val (Value.int IntKind.i64 (gate_Gate_After_2 g_0 g_1 g_2 g_3 g_4 g_5 g_6 g_7 live_ words_))], AV.agg [AV.val (Value.bool (gate_Gate_After_3 g_0 g_1 g_2 g_3 g_4 g_5 g_6 g_7 live_ words_)), AV.val (Value.bool true), AV.val (Value.bool (bif gate_Gate_Pressed_0 g_0 g_1 g_2 g_3 g_4 g_5 g_6 g_7 then true else !gate_Gate_After_3 g_0 g_1 g_2 g_3 g_4 g_5 g_6 g_7 live_ words_))]]) { bl := [], nx := 99 } true) := by kernel_rfl
  rw [h]
  clear h
  unfold s_gate_Gate_Judge gate_Gate_Judge_0 gate_Gate_Judge_1 gate_Gate_Judge_2 gate_Gate_Judge_3 gate_Gate_Judge_4 gate_Gate_Judge_5
  generalize (!gate_Gate_Asks_0 g_0 g_1 g_2 g_3 g_4 g_5 g_6 g_7 used_ words_) = b0_
  cases b0_
  ·
    rfl
  ·
    rfl
def e_gate_Gate_Judge : Spec := fun _ args => match args with
  | [.agg [.val (.int .i64 g_0), .val (.int .i64 g_1), .val (.int .i64 g_2), .val (.int .i64 g_3), .val (.int .i64 g_4), .val (.int .i64 g_5), .val (.int .i64 g_6), .val (.int .i64 g_7)], .val (.int .i64 used_), .val (.int .i64 live_), .val (.int .i64 words_)] => some (s_gate_Gate_Judge g_0 g_1 g_2 g_3 g_4 g_5 g_6 g_7 used_ live_ words_, none, [])
  | _ => none
theorem ok_gate_Gate_Judge : SpecOk Try.prog 27 e_gate_Gate_Judge := fun m args v mo bs h hb => by
  unfold e_gate_Gate_Judge at h
  split at h
  · cases h
    exact pure_fn (c := bodyOf Try.f27) hE_gate_Gate_After mixed (fun xs w => Try.call27 xs w) Try.func27 rfl (t_gate_Gate_Judge _ _ _ _ _ _ _ _ _ _ _) rfl rfl
  · cases h
def L_gate_Gate_Judge : List (FuncId × Spec) := (27, e_gate_Gate_Judge) :: L_gate_Gate_After
theorem hE_gate_Gate_Judge : ESound Try.prog (envOf L_gate_Gate_Judge) := env_cons ok_gate_Gate_Judge hE_gate_Gate_After
def gate_New_0 (c_0 : Int) (c_1 : Int) (c_2 : Int) (c_3 : Int) (c_4 : Int) : Int := bif !control_Right_0 c_0 c_1 c_2 c_3 c_4 then 0 else c_0
def gate_New_1 (c_0 : Int) (c_1 : Int) (c_2 : Int) (c_3 : Int) (c_4 : Int) : Int := bif !control_Right_0 c_0 c_1 c_2 c_3 c_4 then 0 else c_1
def gate_New_2 (c_0 : Int) (c_1 : Int) (c_2 : Int) (c_3 : Int) (c_4 : Int) : Int := bif !control_Right_0 c_0 c_1 c_2 c_3 c_4 then 0 else c_2
def gate_New_3 (c_0 : Int) (c_1 : Int) (c_2 : Int) (c_3 : Int) (c_4 : Int) : Int := bif !control_Right_0 c_0 c_1 c_2 c_3 c_4 then 0 else c_3
def gate_New_4 (c_0 : Int) (c_1 : Int) (c_2 : Int) (c_3 : Int) (c_4 : Int) : Int := bif !control_Right_0 c_0 c_1 c_2 c_3 c_4 then 0 else c_4
def gate_New_5 (c_0 : Int) (c_1 : Int) (c_2 : Int) (c_3 : Int) (c_4 : Int) : Int := bif !control_Right_0 c_0 c_1 c_2 c_3 c_4 then 42 else 0
def s_gate_New (c_0 : Int) (c_1 : Int) (c_2 : Int) (c_3 : Int) (c_4 : Int) : AV := AV.tup [AV.agg [AV.val (Value.int IntKind.i64 (gate_New_0 c_0 c_1 c_2 c_3 c_4)), AV.val (Value.int IntKind.i64 (gate_New_1 c_0 c_1 c_2 c_3 c_4)), AV.val (Value.int IntKind.i64 (gate_New_2 c_0 c_1 c_2 c_3 c_4)), AV.val (Value.int IntKind.i64 (gate_New_3 c_0 c_1 c_2 c_3 c_4)), AV.val (Value.int IntKind.i64 (gate_New_4 c_0 c_1 c_2 c_3 c_4)), AV.val (Value.int IntKind.i64 (gate_New_1 c_0 c_1 c_2 c_3 c_4)), AV.val (Value.int IntKind.i64 0), AV.val (Value.int IntKind.i64 0)], AV.val (Value.int IntKind.i64 (gate_New_5 c_0 c_1 c_2 c_3 c_4))]
theorem t_gate_New (c_0 : Int) (c_1 : Int) (c_2 : Int) (c_3 : Int) (c_4 : Int) : F_ Try.prog L_gate_Gate_Judge Try.f19 [] [] 99 [AV.agg [AV.val (Value.int IntKind.i64 c_0), AV.val (Value.int IntKind.i64 c_1), AV.val (Value.int IntKind.i64 c_2), AV.val (Value.int IntKind.i64 c_3), AV.val (Value.int IntKind.i64 c_4)]] noMem = some (.ret (s_gate_New c_0 c_1 c_2 c_3 c_4) { bl := [], nx := 99 } true) := by
  have h : F_ Try.prog L_gate_Gate_Judge Try.f19 [] [] 99 [AV.agg [AV.val (Value.int IntKind.i64 c_0), AV.val (Value.int IntKind.i64 c_1), AV.val (Value.int IntKind.i64 c_2), AV.val (Value.int IntKind.i64 c_3), AV.val (Value.int IntKind.i64 c_4)]] noMem = bif !control_Right_0 c_0 c_1 c_2 c_3 c_4 then some (Fin_.ret (AV.tup [AV.agg [AV.val (Value.int IntKind.i64 0), AV.val (Value.int IntKind.i64 0), AV.val (Value.int IntKind.i64 0), AV.val (Value.int IntKind.i64 0), AV.val (Value.int IntKind.i64 0), AV.val (Value.int IntKind.i64 0), AV.val (Value.int IntKind.i64 0), AV.val (Value.int IntKind.i64 0)], AV.val (Value.int IntKind.i64 42)]) { bl := [], nx := 99 } true) else some (Fin_.ret (AV.tup [AV.agg [AV.val (Value.int IntKind.i64 c_0), AV.val (Value.int IntKind.i64 c_1), AV.val (Value.int IntKind.i64 c_2), AV.val (Value.int IntKind.i64 c_3), AV.val (Value.int IntKind.i64 c_4), AV.val (Value.int IntKind.i64 c_1), AV.val (Value.int IntKind.i64 0), AV.val (Value.int IntKind.i64 0)], AV.val (Value.int IntKind.i64 0)]) { bl := [], nx := 99 } true) := by kernel_rfl
  rw [h]
  clear h
  unfold s_gate_New gate_New_0 gate_New_1 gate_New_2 gate_New_3 gate_New_4 gate_New_5
  generalize (!control_Right_0 c_0 c_1 c_2 c_3 c_4) = b0_
  cases b0_
  ·
    rfl
  ·
    rfl
def e_gate_New : Spec := fun _ args => match args with
  | [.agg [.val (.int .i64 c_0), .val (.int .i64 c_1), .val (.int .i64 c_2), .val (.int .i64 c_3), .val (.int .i64 c_4)]] => some (s_gate_New c_0 c_1 c_2 c_3 c_4, none, [])
  | _ => none
theorem ok_gate_New : SpecOk Try.prog 19 e_gate_New := fun m args v mo bs h hb => by
  unfold e_gate_New at h
  split at h
  · cases h
    exact pure_fn (c := bodyOf Try.f19) hE_gate_Gate_Judge mixed (fun xs w => Try.call19 xs w) Try.func19 rfl (t_gate_New _ _ _ _ _) rfl rfl
  · cases h
def L_gate_New : List (FuncId × Spec) := (19, e_gate_New) :: L_gate_Gate_Judge
theorem hE_gate_New : ESound Try.prog (envOf L_gate_New) := env_cons ok_gate_New hE_gate_Gate_Judge
def haymowref28_held_0 (n_ : Int) : Int := bif decide (n_ < 0) then 0 else n_
def s_haymowref28_held (n_ : Int) : AV := AV.val (Value.int IntKind.i64 (haymowref28_held_0 n_))
theorem t_haymowref28_held (n_ : Int) : F_ Try.prog L_gate_New Try.f30 [] [] 99 [AV.val (Value.int IntKind.i64 n_)] noMem = some (.ret (s_haymowref28_held n_) { bl := [], nx := 99 } true) := by
  have h : F_ Try.prog L_gate_New Try.f30 [] [] 99 [AV.val (Value.int IntKind.i64 n_)] noMem = bif decide (n_ < 0) then some (Fin_.ret (AV.val (Value.int IntKind.i64 0)) { bl := [], nx := 99 } true) else some (Fin_.ret (AV.val (Value.int IntKind.i64 n_)) { bl := [], nx := 99 } true) := by kernel_rfl
  rw [h]
  clear h
  unfold s_haymowref28_held haymowref28_held_0
  generalize (decide (n_ < 0)) = b0_
  cases b0_
  ·
    rfl
  ·
    rfl
def e_haymowref28_held : Spec := fun _ args => match args with
  | [.val (.int .i64 n_)] => some (s_haymowref28_held n_, none, [])
  | _ => none
theorem ok_haymowref28_held : SpecOk Try.prog 30 e_haymowref28_held := fun m args v mo bs h hb => by
  unfold e_haymowref28_held at h
  split at h
  · cases h
    exact pure_fn (c := bodyOf Try.f30) hE_gate_New mixed (fun xs w => Try.call30 xs w) Try.func30 rfl (t_haymowref28_held _) rfl rfl
  · cases h
def L_haymowref28_held : List (FuncId × Spec) := (30, e_haymowref28_held) :: L_gate_New
theorem hE_haymowref28_held : ESound Try.prog (envOf L_haymowref28_held) := env_cons ok_haymowref28_held hE_gate_New
def haymowref28_Fits_0 (a_ : Int) (b_ : Int) (most_ : Int) : Bool := bif decide (haymowref28_held_0 a_ ≤ most_) then decide (haymowref28_held_0 b_ ≤ IntKind.i64.wrap (most_ - haymowref28_held_0 a_)) else false
def s_haymowref28_Fits (a_ : Int) (b_ : Int) (most_ : Int) : AV := AV.val (Value.bool (haymowref28_Fits_0 a_ b_ most_))
theorem t_haymowref28_Fits (a_ : Int) (b_ : Int) (most_ : Int) : F_ Try.prog L_haymowref28_held Try.f22 [] [] 99 [AV.val (Value.int IntKind.i64 a_), AV.val (Value.int IntKind.i64 b_), AV.val (Value.int IntKind.i64 most_)] noMem = some (.ret (s_haymowref28_Fits a_ b_ most_) { bl := [], nx := 99 } true) := by kernel_rfl
def e_haymowref28_Fits : Spec := fun _ args => match args with
  | [.val (.int .i64 a_), .val (.int .i64 b_), .val (.int .i64 most_)] => some (s_haymowref28_Fits a_ b_ most_, none, [])
  | _ => none
theorem ok_haymowref28_Fits : SpecOk Try.prog 22 e_haymowref28_Fits := fun m args v mo bs h hb => by
  unfold e_haymowref28_Fits at h
  split at h
  · cases h
    exact pure_fn (c := bodyOf Try.f22) hE_haymowref28_held mixed (fun xs w => Try.call22 xs w) Try.func22 rfl (t_haymowref28_Fits _ _ _) rfl rfl
  · cases h
def L_haymowref28_Fits : List (FuncId × Spec) := (22, e_haymowref28_Fits) :: L_haymowref28_held
theorem hE_haymowref28_Fits : ESound Try.prog (envOf L_haymowref28_Fits) := env_cons ok_haymowref28_Fits hE_haymowref28_held
def haymowref28_After_0 (s_0 : Int) (s_1 : Int) (s_2 : Int) (s_3 : Int) (s_4 : Int) (s_5 : Int) (s_6 : Int) (s_7 : Int) (live_ : Int) (words_ : Int) : Int := bif decide (s_0 < haymowref28_held_0 live_) then bif haymowref28_Fits_0 live_ words_ s_0 then haymowref26_Next_0 s_0 s_1 s_2 s_3 s_4 s_5 s_6 (IntKind.i64.wrap (s_0 + haymowref28_held_0 words_)) else haymowref26_Next_0 s_0 s_1 s_2 s_3 s_4 s_5 s_6 s_0 else bif haymowref28_Fits_0 live_ words_ s_0 then haymowref26_Next_0 s_0 s_1 s_2 s_3 s_4 s_5 s_6 (IntKind.i64.wrap (haymowref28_held_0 live_ + haymowref28_held_0 words_)) else haymowref26_Next_0 s_0 s_1 s_2 s_3 s_4 s_5 s_6 (haymowref28_held_0 live_)
def haymowref28_After_1 (s_0 : Int) (s_1 : Int) (s_2 : Int) (s_3 : Int) (s_4 : Int) (s_5 : Int) (s_6 : Int) (s_7 : Int) (live_ : Int) (words_ : Int) : Int := bif decide (s_0 < haymowref28_held_0 live_) then bif haymowref28_Fits_0 live_ words_ s_0 then haymowref26_Next_1 s_0 s_1 s_2 s_3 s_4 s_5 s_6 (IntKind.i64.wrap (s_0 + haymowref28_held_0 words_)) else haymowref26_Next_1 s_0 s_1 s_2 s_3 s_4 s_5 s_6 s_0 else bif haymowref28_Fits_0 live_ words_ s_0 then haymowref26_Next_1 s_0 s_1 s_2 s_3 s_4 s_5 s_6 (IntKind.i64.wrap (haymowref28_held_0 live_ + haymowref28_held_0 words_)) else haymowref26_Next_1 s_0 s_1 s_2 s_3 s_4 s_5 s_6 (haymowref28_held_0 live_)
def haymowref28_After_2 (s_0 : Int) (s_1 : Int) (s_2 : Int) (s_3 : Int) (s_4 : Int) (s_5 : Int) (s_6 : Int) (s_7 : Int) (live_ : Int) (words_ : Int) : Int := bif decide (s_0 < haymowref28_held_0 live_) then bif haymowref28_Fits_0 live_ words_ s_0 then IntKind.i64.wrap (s_0 + haymowref28_held_0 words_) else s_0 else bif haymowref28_Fits_0 live_ words_ s_0 then IntKind.i64.wrap (haymowref28_held_0 live_ + haymowref28_held_0 words_) else haymowref28_held_0 live_
def haymowref28_After_3 (s_0 : Int) (s_1 : Int) (s_2 : Int) (s_3 : Int) (s_4 : Int) (s_5 : Int) (s_6 : Int) (s_7 : Int) (live_ : Int) (words_ : Int) : Bool := haymowref28_Fits_0 live_ words_ s_0
def s_haymowref28_After (s_0 : Int) (s_1 : Int) (s_2 : Int) (s_3 : Int) (s_4 : Int) (s_5 : Int) (s_6 : Int) (s_7 : Int) (live_ : Int) (words_ : Int) : AV := AV.tup [AV.agg [AV.val (Value.int IntKind.i64 s_0), AV.val (Value.int IntKind.i64 s_1), AV.val (Value.int IntKind.i64 s_2), AV.val (Value.int IntKind.i64 s_3), AV.val (Value.int IntKind.i64 s_4), AV.val (Value.int IntKind.i64 (haymowref28_After_0 s_0 s_1 s_2 s_3 s_4 s_5 s_6 s_7 live_ words_)), AV.val (Value.int IntKind.i64 (haymowref28_After_1 s_0 s_1 s_2 s_3 s_4 s_5 s_6 s_7 live_ words_)), AV.val (Value.int IntKind.i64 (haymowref28_After_2 s_0 s_1 s_2 s_3 s_4 s_5 s_6 s_7 live_ words_))], AV.val (Value.bool (haymowref28_After_3 s_0 s_1 s_2 s_3 s_4 s_5 s_6 s_7 live_ words_))]
theorem t_haymowref28_After (s_0 : Int) (s_1 : Int) (s_2 : Int) (s_3 : Int) (s_4 : Int) (s_5 : Int) (s_6 : Int) (s_7 : Int) (live_ : Int) (words_ : Int) : F_ Try.prog L_haymowref28_Fits Try.f26 [] [] 99 [AV.agg [AV.val (Value.int IntKind.i64 s_0), AV.val (Value.int IntKind.i64 s_1), AV.val (Value.int IntKind.i64 s_2), AV.val (Value.int IntKind.i64 s_3), AV.val (Value.int IntKind.i64 s_4), AV.val (Value.int IntKind.i64 s_5), AV.val (Value.int IntKind.i64 s_6), AV.val (Value.int IntKind.i64 s_7)], AV.val (Value.int IntKind.i64 live_), AV.val (Value.int IntKind.i64 words_)] noMem = some (.ret (s_haymowref28_After s_0 s_1 s_2 s_3 s_4 s_5 s_6 s_7 live_ words_) { bl := [], nx := 99 } true) := by
  have h : F_ Try.prog L_haymowref28_Fits Try.f26 [] [] 99 [AV.agg [AV.val (Value.int IntKind.i64 s_0), AV.val (Value.int IntKind.i64 s_1), AV.val (Value.int IntKind.i64 s_2), AV.val (Value.int IntKind.i64 s_3), AV.val (Value.int IntKind.i64 s_4), AV.val (Value.int IntKind.i64 s_5), AV.val (Value.int IntKind.i64 s_6), AV.val (Value.int IntKind.i64 s_7)], AV.val (Value.int IntKind.i64 live_), AV.val (Value.int IntKind.i64 words_)] noMem = bif decide (s_0 < haymowref28_held_0 live_) then bif haymowref28_Fits_0 live_ words_ s_0 then some (Fin_.ret (AV.tup [AV.agg [AV.val (Value.int IntKind.i64 s_0), AV.val (Value.int IntKind.i64 s_1), AV.val (Value.int IntKind.i64 s_2), AV.val (Value.int IntKind.i64 s_3), AV.val (Value.int IntKind.i64 s_4), AV.val (Value.int IntKind.i64 (haymowref26_Next_0 s_0 s_1 s_2 s_3 s_4 s_5 s_6 (IntKind.i64.wrap (s_0 + haymowref28_held_0 words_)))), AV.val (Value.int IntKind.i64 (haymowref26_Next_1 s_0 s_1 s_2 s_3 s_4 s_5 s_6 (IntKind.i64.wrap (s_0 + haymowref28_held_0 words_)))), AV.val (Value.int IntKind.i64 (IntKind.i64.wrap (s_0 + haymowref28_held_0 words_)))], AV.val (Value.bool (haymowref28_Fits_0 live_ words_ s_0))]) { bl := [], nx := 99 } true) else some (Fin_.ret (AV.tup [AV.agg [AV.val (Value.int IntKind.i64 s_0), AV.val (Value.int IntKind.i64 s_1), AV.val (Value.int IntKind.i64 s_2), AV.val (Value.int IntKind.i64 s_3), AV.val (Value.int IntKind.i64 s_4), AV.val (Value.int IntKind.i64 (haymowref26_Next_0 s_0 s_1 s_2 s_3 s_4 s_5 s_6 s_0)), AV.val (Value.int IntKind.i64 (haymowref26_Next_1 s_0 s_1 s_2 s_3 s_4 s_5 s_6 s_0)), AV.val (Value.int IntKind.i64 s_0)], AV.val (Value.bool (haymowref28_Fits_0 live_ words_ s_0))]) { bl := [], nx := 99 } true) else bif haymowref28_Fits_0 live_ words_ s_0 then some (Fin_.ret (AV.tup [AV.agg [AV.val (Value.int IntKind.i64 s_0), AV.val (Value.int IntKind.i64 s_1), AV.val (Value.int IntKind.i64 s_2), AV.val (Value.int IntKind.i64 s_3), AV.val (Value.int IntKind.i64 s_4), AV.val (Value.int IntKind.i64 (haymowref26_Next_0 s_0 s_1 s_2 s_3 s_4 s_5 s_6 (IntKind.i64.wrap (haymowref28_held_0 live_ + haymowref28_held_0 words_)))), AV.val (Value.int IntKind.i64 (haymowref26_Next_1 s_0 s_1 s_2 s_3 s_4 s_5 s_6 (IntKind.i64.wrap (haymowref28_held_0 live_ + haymowref28_held_0 words_)))), AV.val (Value.int IntKind.i64 (IntKind.i64.wrap (haymowref28_held_0 live_ + haymowref28_held_0 words_)))], AV.val (Value.bool (haymowref28_Fits_0 live_ words_ s_0))]) { bl := [], nx := 99 } true) else some (Fin_.ret (AV.tup [AV.agg [AV.val (Value.int IntKind.i64 s_0), AV.val (Value.int IntKind.i64 s_1), AV.val (Value.int IntKind.i64 s_2), AV.val (Value.int IntKind.i64 s_3), AV.val (Value.int IntKind.i64 s_4), AV.val (Value.int IntKind.i64 (haymowref26_Next_0 s_0 s_1 s_2 s_3 s_4 s_5 s_6 (haymowref28_held_0 live_))), AV.val (Value.int IntKind.i64 (haymowref26_Next_1 s_0 s_1 s_2 s_3 s_4 s_5 s_6 (haymowref28_held_0 live_))), AV.val (Value.int IntKind.i64 (haymowref28_held_0 live_))], AV.val (Value.bool (haymowref28_Fits_0 live_ words_ s_0))]) { bl := [], nx := 99 } true) := by kernel_rfl
  rw [h]
  clear h
  unfold s_haymowref28_After haymowref28_After_0 haymowref28_After_1 haymowref28_After_2 haymowref28_After_3
  generalize (decide (s_0 < haymowref28_held_0 live_)) = b0_
  generalize (haymowref28_Fits_0 live_ words_ s_0) = b1_
  cases b0_
  ·
    cases b1_
    ·
      rfl
    ·
      rfl
  ·
    cases b1_
    ·
      rfl
    ·
      rfl
def e_haymowref28_After : Spec := fun _ args => match args with
  | [.agg [.val (.int .i64 s_0), .val (.int .i64 s_1), .val (.int .i64 s_2), .val (.int .i64 s_3), .val (.int .i64 s_4), .val (.int .i64 s_5), .val (.int .i64 s_6), .val (.int .i64 s_7)], .val (.int .i64 live_), .val (.int .i64 words_)] => some (s_haymowref28_After s_0 s_1 s_2 s_3 s_4 s_5 s_6 s_7 live_ words_, none, [])
  | _ => none
theorem ok_haymowref28_After : SpecOk Try.prog 26 e_haymowref28_After := fun m args v mo bs h hb => by
  unfold e_haymowref28_After at h
  split at h
  · cases h
    exact pure_fn (c := bodyOf Try.f26) hE_haymowref28_Fits mixed (fun xs w => Try.call26 xs w) Try.func26 rfl (t_haymowref28_After _ _ _ _ _ _ _ _ _ _) rfl rfl
  · cases h
def L_haymowref28_After : List (FuncId × Spec) := (26, e_haymowref28_After) :: L_haymowref28_Fits
theorem hE_haymowref28_After : ESound Try.prog (envOf L_haymowref28_After) := env_cons ok_haymowref28_After hE_haymowref28_Fits
def haymowref28_Judge_0 (s_0 : Int) (s_1 : Int) (s_2 : Int) (s_3 : Int) (s_4 : Int) (s_5 : Int) (s_6 : Int) (s_7 : Int) (used_ : Int) (live_ : Int) (words_ : Int) : Int := bif haymowref28_Fits_0 used_ words_ s_5 then s_5 else haymowref28_After_0 s_0 s_1 s_2 s_3 s_4 s_5 s_6 s_7 live_ words_
def haymowref28_Judge_1 (s_0 : Int) (s_1 : Int) (s_2 : Int) (s_3 : Int) (s_4 : Int) (s_5 : Int) (s_6 : Int) (s_7 : Int) (used_ : Int) (live_ : Int) (words_ : Int) : Int := bif haymowref28_Fits_0 used_ words_ s_5 then s_6 else haymowref28_After_1 s_0 s_1 s_2 s_3 s_4 s_5 s_6 s_7 live_ words_
def haymowref28_Judge_2 (s_0 : Int) (s_1 : Int) (s_2 : Int) (s_3 : Int) (s_4 : Int) (s_5 : Int) (s_6 : Int) (s_7 : Int) (used_ : Int) (live_ : Int) (words_ : Int) : Int := bif haymowref28_Fits_0 used_ words_ s_5 then s_7 else haymowref28_After_2 s_0 s_1 s_2 s_3 s_4 s_5 s_6 s_7 live_ words_
def haymowref28_Judge_3 (s_0 : Int) (s_1 : Int) (s_2 : Int) (s_3 : Int) (s_4 : Int) (s_5 : Int) (s_6 : Int) (s_7 : Int) (used_ : Int) (live_ : Int) (words_ : Int) : Bool := bif haymowref28_Fits_0 used_ words_ s_5 then true else haymowref28_After_3 s_0 s_1 s_2 s_3 s_4 s_5 s_6 s_7 live_ words_
def haymowref28_Judge_4 (s_0 : Int) (s_1 : Int) (s_2 : Int) (s_3 : Int) (s_4 : Int) (s_5 : Int) (s_6 : Int) (s_7 : Int) (used_ : Int) (live_ : Int) (words_ : Int) : Bool := bif haymowref28_Fits_0 used_ words_ s_5 then false else true
def haymowref28_Judge_5 (s_0 : Int) (s_1 : Int) (s_2 : Int) (s_3 : Int) (s_4 : Int) (s_5 : Int) (s_6 : Int) (s_7 : Int) (used_ : Int) (live_ : Int) (words_ : Int) : Bool := bif haymowref28_Fits_0 used_ words_ s_5 then false else bif decide (s_5 < IntKind.i64.wrap (2 * s_7)) then true else !haymowref28_After_3 s_0 s_1 s_2 s_3 s_4 s_5 s_6 s_7 live_ words_
def s_haymowref28_Judge (s_0 : Int) (s_1 : Int) (s_2 : Int) (s_3 : Int) (s_4 : Int) (s_5 : Int) (s_6 : Int) (s_7 : Int) (used_ : Int) (live_ : Int) (words_ : Int) : AV := AV.tup [AV.agg [AV.val (Value.int IntKind.i64 s_0), AV.val (Value.int IntKind.i64 s_1), AV.val (Value.int IntKind.i64 s_2), AV.val (Value.int IntKind.i64 s_3), AV.val (Value.int IntKind.i64 s_4), AV.val (Value.int IntKind.i64 (haymowref28_Judge_0 s_0 s_1 s_2 s_3 s_4 s_5 s_6 s_7 used_ live_ words_)), AV.val (Value.int IntKind.i64 (haymowref28_Judge_1 s_0 s_1 s_2 s_3 s_4 s_5 s_6 s_7 used_ live_ words_)), AV.val (Value.int IntKind.i64 (haymowref28_Judge_2 s_0 s_1 s_2 s_3 s_4 s_5 s_6 s_7 used_ live_ words_))], AV.agg [AV.val (Value.bool (haymowref28_Judge_3 s_0 s_1 s_2 s_3 s_4 s_5 s_6 s_7 used_ live_ words_)), AV.val (Value.bool (haymowref28_Judge_4 s_0 s_1 s_2 s_3 s_4 s_5 s_6 s_7 used_ live_ words_)), AV.val (Value.bool (haymowref28_Judge_5 s_0 s_1 s_2 s_3 s_4 s_5 s_6 s_7 used_ live_ words_))]]
theorem t_haymowref28_Judge (s_0 : Int) (s_1 : Int) (s_2 : Int) (s_3 : Int) (s_4 : Int) (s_5 : Int) (s_6 : Int) (s_7 : Int) (used_ : Int) (live_ : Int) (words_ : Int) : F_ Try.prog L_haymowref28_After Try.f28 [] [] 99 [AV.agg [AV.val (Value.int IntKind.i64 s_0), AV.val (Value.int IntKind.i64 s_1), AV.val (Value.int IntKind.i64 s_2), AV.val (Value.int IntKind.i64 s_3), AV.val (Value.int IntKind.i64 s_4), AV.val (Value.int IntKind.i64 s_5), AV.val (Value.int IntKind.i64 s_6), AV.val (Value.int IntKind.i64 s_7)], AV.val (Value.int IntKind.i64 used_), AV.val (Value.int IntKind.i64 live_), AV.val (Value.int IntKind.i64 words_)] noMem = some (.ret (s_haymowref28_Judge s_0 s_1 s_2 s_3 s_4 s_5 s_6 s_7 used_ live_ words_) { bl := [], nx := 99 } true) := by
  have h : F_ Try.prog L_haymowref28_After Try.f28 [] [] 99 [AV.agg [AV.val (Value.int IntKind.i64 s_0), AV.val (Value.int IntKind.i64 s_1), AV.val (Value.int IntKind.i64 s_2), AV.val (Value.int IntKind.i64 s_3), AV.val (Value.int IntKind.i64 s_4), AV.val (Value.int IntKind.i64 s_5), AV.val (Value.int IntKind.i64 s_6), AV.val (Value.int IntKind.i64 s_7)], AV.val (Value.int IntKind.i64 used_), AV.val (Value.int IntKind.i64 live_), AV.val (Value.int IntKind.i64 words_)] noMem = bif haymowref28_Fits_0 used_ words_ s_5 then some (Fin_.ret (AV.tup [AV.agg [AV.val (Value.int IntKind.i64 s_0), AV.val (Value.int IntKind.i64 s_1), AV.val (Value.int IntKind.i64 s_2), AV.val (Value.int IntKind.i64 s_3), AV.val (Value.int IntKind.i64 s_4), AV.val (Value.int IntKind.i64 s_5), AV.val (Value.int IntKind.i64 s_6), AV.val (Value.int IntKind.i64 s_7)], AV.agg [AV.val (Value.bool true), AV.val (Value.bool false), AV.val (Value.bool false)]]) { bl := [], nx := 99 } true) else some (Fin_.ret (AV.tup [AV.agg [AV.val (Value.int IntKind.i64 s_0), AV.val (Value.int IntKind.i64 s_1), AV.val (Value.int IntKind.i64 s_2), AV.val (Value.int IntKind.i64 s_3), AV.val (Value.int IntKind.i64 s_4), AV.val (Value.int IntKind.i64 (haymowref28_After_0 s_0 s_1 s_2 s_3 s_4 s_5 s_6 s_7 live_ words_)), AV.val (Value.int IntKind.i64 (haymowref28_After_1 s_0 s_1 s_2 s_3 s_4 s_5 s_6 s_7 live_ words_)), AV.val (Value.int IntKind.i64 (haymowref28_After_2 s_0 s_1 s_2 s_3 s_4 s_5 s_6 s_7 live_ words_))], AV.agg [AV.val (Value.bool (haymowref28_After_3 s_0 s_1 s_2 s_3 s_4 s_5 s_6 s_7 live_ words_)), AV.val (Value.bool true), AV.val (Value.bool (bif decide (s_5 < IntKind.i64.wrap (2 * s_7)) then true else !haymowref28_After_3 s_0 s_1 s_2 s_3 s_4 s_5 s_6 s_7 live_ words_))]]) { bl := [], nx := 99 } true) := by kernel_rfl
  rw [h]
  clear h
  unfold s_haymowref28_Judge haymowref28_Judge_0 haymowref28_Judge_1 haymowref28_Judge_2 haymowref28_Judge_3 haymowref28_Judge_4 haymowref28_Judge_5
  generalize (haymowref28_Fits_0 used_ words_ s_5) = b0_
  cases b0_
  ·
    rfl
  ·
    rfl
def e_haymowref28_Judge : Spec := fun _ args => match args with
  | [.agg [.val (.int .i64 s_0), .val (.int .i64 s_1), .val (.int .i64 s_2), .val (.int .i64 s_3), .val (.int .i64 s_4), .val (.int .i64 s_5), .val (.int .i64 s_6), .val (.int .i64 s_7)], .val (.int .i64 used_), .val (.int .i64 live_), .val (.int .i64 words_)] => some (s_haymowref28_Judge s_0 s_1 s_2 s_3 s_4 s_5 s_6 s_7 used_ live_ words_, none, [])
  | _ => none
theorem ok_haymowref28_Judge : SpecOk Try.prog 28 e_haymowref28_Judge := fun m args v mo bs h hb => by
  unfold e_haymowref28_Judge at h
  split at h
  · cases h
    exact pure_fn (c := bodyOf Try.f28) hE_haymowref28_After mixed (fun xs w => Try.call28 xs w) Try.func28 rfl (t_haymowref28_Judge _ _ _ _ _ _ _ _ _ _ _) rfl rfl
  · cases h
def L_haymowref28_Judge : List (FuncId × Spec) := (28, e_haymowref28_Judge) :: L_haymowref28_After
theorem hE_haymowref28_Judge : ESound Try.prog (envOf L_haymowref28_Judge) := env_cons ok_haymowref28_Judge hE_haymowref28_After
def haymowlaw28_same_0 (g_0 : Int) (g_1 : Int) (g_2 : Int) (g_3 : Int) (g_4 : Int) (g_5 : Int) (g_6 : Int) (g_7 : Int) (w_0 : Int) (w_1 : Int) (w_2 : Int) (w_3 : Int) (w_4 : Int) (w_5 : Int) (w_6 : Int) (w_7 : Int) : Bool := bif bif g_0 == w_0 && (g_1 == w_1 && (g_2 == w_2 && (g_3 == w_3 && (g_4 == w_4 && true)))) then g_5 == w_5 && (g_6 == w_6 && true) else false then g_7 == w_7 else false
def s_haymowlaw28_same (g_0 : Int) (g_1 : Int) (g_2 : Int) (g_3 : Int) (g_4 : Int) (g_5 : Int) (g_6 : Int) (g_7 : Int) (w_0 : Int) (w_1 : Int) (w_2 : Int) (w_3 : Int) (w_4 : Int) (w_5 : Int) (w_6 : Int) (w_7 : Int) : AV := AV.val (Value.bool (haymowlaw28_same_0 g_0 g_1 g_2 g_3 g_4 g_5 g_6 g_7 w_0 w_1 w_2 w_3 w_4 w_5 w_6 w_7))
theorem t_haymowlaw28_same (g_0 : Int) (g_1 : Int) (g_2 : Int) (g_3 : Int) (g_4 : Int) (g_5 : Int) (g_6 : Int) (g_7 : Int) (w_0 : Int) (w_1 : Int) (w_2 : Int) (w_3 : Int) (w_4 : Int) (w_5 : Int) (w_6 : Int) (w_7 : Int) : F_ Try.prog L_haymowref28_Judge Try.f20 [] [] 99 [AV.agg [AV.val (Value.int IntKind.i64 g_0), AV.val (Value.int IntKind.i64 g_1), AV.val (Value.int IntKind.i64 g_2), AV.val (Value.int IntKind.i64 g_3), AV.val (Value.int IntKind.i64 g_4), AV.val (Value.int IntKind.i64 g_5), AV.val (Value.int IntKind.i64 g_6), AV.val (Value.int IntKind.i64 g_7)], AV.agg [AV.val (Value.int IntKind.i64 w_0), AV.val (Value.int IntKind.i64 w_1), AV.val (Value.int IntKind.i64 w_2), AV.val (Value.int IntKind.i64 w_3), AV.val (Value.int IntKind.i64 w_4), AV.val (Value.int IntKind.i64 w_5), AV.val (Value.int IntKind.i64 w_6), AV.val (Value.int IntKind.i64 w_7)]] noMem = some (.ret (s_haymowlaw28_same g_0 g_1 g_2 g_3 g_4 g_5 g_6 g_7 w_0 w_1 w_2 w_3 w_4 w_5 w_6 w_7) { bl := [], nx := 99 } true) := by kernel_rfl
def e_haymowlaw28_same : Spec := fun _ args => match args with
  | [.agg [.val (.int .i64 g_0), .val (.int .i64 g_1), .val (.int .i64 g_2), .val (.int .i64 g_3), .val (.int .i64 g_4), .val (.int .i64 g_5), .val (.int .i64 g_6), .val (.int .i64 g_7)], .agg [.val (.int .i64 w_0), .val (.int .i64 w_1), .val (.int .i64 w_2), .val (.int .i64 w_3), .val (.int .i64 w_4), .val (.int .i64 w_5), .val (.int .i64 w_6), .val (.int .i64 w_7)]] => some (s_haymowlaw28_same g_0 g_1 g_2 g_3 g_4 g_5 g_6 g_7 w_0 w_1 w_2 w_3 w_4 w_5 w_6 w_7, none, [])
  | _ => none
theorem ok_haymowlaw28_same : SpecOk Try.prog 20 e_haymowlaw28_same := fun m args v mo bs h hb => by
  unfold e_haymowlaw28_same at h
  split at h
  · cases h
    exact pure_fn (c := bodyOf Try.f20) hE_haymowref28_Judge mixed (fun xs w => Try.call20 xs w) Try.func20 rfl (t_haymowlaw28_same _ _ _ _ _ _ _ _ _ _ _ _ _ _ _ _) rfl rfl
  · cases h
def L_haymowlaw28_same : List (FuncId × Spec) := (20, e_haymowlaw28_same) :: L_haymowref28_Judge
theorem hE_haymowlaw28_same : ESound Try.prog (envOf L_haymowlaw28_same) := env_cons ok_haymowlaw28_same hE_haymowref28_Judge
end Go.Proofs.Ytlcaanodbhigkaa
