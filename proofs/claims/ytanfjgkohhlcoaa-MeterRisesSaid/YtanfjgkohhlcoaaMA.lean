/-
  What functions hand back, reckoned from their text.
-/
import Derived.Test.YtanfjgkohhlcoaaProg
import Derived.Test.YtanfjgkohhlcoaaWB
namespace Go.Proofs.Ytanfjgkohhlcoaa
open Go Go.RowKit
def haymowref07_Hold_0 (s_0 : Int) (s_1 : Int) (s_2 : Int) (s_3 : Int) (s_4 : Int) (s_5 : Int) (n_ : Int) : Int := bif decide (n_ < 0) then s_4 else bif decide (IntKind.i64.wrap (281474976710656 - s_4) < n_) then s_4 else IntKind.i64.wrap (s_4 + n_)
def haymowref07_Hold_1 (s_0 : Int) (s_1 : Int) (s_2 : Int) (s_3 : Int) (s_4 : Int) (s_5 : Int) (n_ : Int) : Int := bif decide (n_ < 0) then s_5 else bif decide (IntKind.i64.wrap (281474976710656 - s_4) < n_) then s_5 else bif decide (s_5 < IntKind.i64.wrap (s_4 + n_)) then IntKind.i64.wrap (s_4 + n_) else s_5
def haymowref07_Hold_2 (s_0 : Int) (s_1 : Int) (s_2 : Int) (s_3 : Int) (s_4 : Int) (s_5 : Int) (n_ : Int) : Int := bif decide (n_ < 0) then 1 else bif decide (IntKind.i64.wrap (281474976710656 - s_4) < n_) then 3 else 0
def s_haymowref07_Hold (s_0 : Int) (s_1 : Int) (s_2 : Int) (s_3 : Int) (s_4 : Int) (s_5 : Int) (n_ : Int) : AV := AV.tup [AV.agg [AV.val (Value.int IntKind.u64 s_0), AV.val (Value.int IntKind.u64 s_1), AV.val (Value.int IntKind.u64 s_2), AV.val (Value.int IntKind.u64 s_3), AV.val (Value.int IntKind.i64 (haymowref07_Hold_0 s_0 s_1 s_2 s_3 s_4 s_5 n_)), AV.val (Value.int IntKind.i64 (haymowref07_Hold_1 s_0 s_1 s_2 s_3 s_4 s_5 n_))], AV.val (Value.int IntKind.i64 (haymowref07_Hold_2 s_0 s_1 s_2 s_3 s_4 s_5 n_))]
theorem t_haymowref07_Hold (s_0 : Int) (s_1 : Int) (s_2 : Int) (s_3 : Int) (s_4 : Int) (s_5 : Int) (n_ : Int) : F_ Try.prog L_haymowref01_Sub Try.f57 [] [] 99 [AV.agg [AV.val (Value.int IntKind.u64 s_0), AV.val (Value.int IntKind.u64 s_1), AV.val (Value.int IntKind.u64 s_2), AV.val (Value.int IntKind.u64 s_3), AV.val (Value.int IntKind.i64 s_4), AV.val (Value.int IntKind.i64 s_5)], AV.val (Value.int IntKind.i64 n_)] noMem = some (.ret (s_haymowref07_Hold s_0 s_1 s_2 s_3 s_4 s_5 n_) { bl := [], nx := 99 } true) := by
  have h : F_ Try.prog L_haymowref01_Sub Try.f57 [] [] 99 [AV.agg [AV.val (Value.int IntKind.u64 s_0), AV.val (Value.int IntKind.u64 s_1), AV.val (Value.int IntKind.u64 s_2), AV.val (Value.int IntKind.u64 s_3), AV.val (Value.int IntKind.i64 s_4), AV.val (Value.int IntKind.i64 s_5)], AV.val (Value.int IntKind.i64 n_)] noMem = bif decide (n_ < 0) then some (Fin_.ret (AV.tup [AV.agg [AV.val (Value.int IntKind.u64 s_0), AV.val (Value.int IntKind.u64 s_1), AV.val (Value.int IntKind.u64 s_2), AV.val (Value.int IntKind.u64 s_3), AV.val (Value.int IntKind.i64 s_4), AV.val (Value.int IntKind.i64 s_5)], AV.val (Value.int IntKind.i64 1)]) { bl := [], nx := 99 } true) else bif decide (IntKind.i64.wrap (281474976710656 - s_4) < n_) then some (Fin_.ret (AV.tup [AV.agg [AV.val (Value.int IntKind.u64 s_0), AV.val (Value.int IntKind.u64 s_1), AV.val (Value.int IntKind.u64 s_2), AV.val (Value.int IntKind.u64 s_3), AV.val (Value.int IntKind.i64 s_4), AV.val (Value.int IntKind.i64 s_5)], AV.val (Value.int IntKind.i64 3)]) { bl := [], nx := 99 } true) else bif decide (s_5 < IntKind.i64.wrap (s_4 + n_)) then some (Fin_.ret (AV.tup [AV.agg [AV.val (Value.int IntKind.u64 s_0), AV.val (Value.int IntKind.u64 s_1), AV.val (Value.int IntKind.u64 s_2), AV.val (Value.int IntKind.u64 s_3), AV.val (Value.int IntKind.i64 (IntKind.i64.wrap (s_4 + n_))), AV.val (Value.int IntKind.i64 (IntKind.i64.wrap (s_4 + n_)))], AV.val (Value.int IntKind.i64 0)]) { bl := [], nx := 99 } true) else some (Fin_.ret (AV.tup [AV.agg [AV.val (Value.int IntKind.u64 s_0), AV.val (Value.int IntKind.u64 s_1), AV.val (Value.int IntKind.u64 s_2), AV.val (Value.int IntKind.u64 s_3), AV.val (Value.int IntKind.i64 (IntKind.i64.wrap (s_4 + n_))), AV.val (Value.int IntKind.i64 s_5)], AV.val (Value.int IntKind.i64 0)]) { bl := [], nx := 99 } true) := by kernel_rfl
  rw [h]
  clear h
  unfold s_haymowref07_Hold haymowref07_Hold_0 haymowref07_Hold_1 haymowref07_Hold_2
  generalize (decide (IntKind.i64.wrap (281474976710656 - s_4) < n_)) = b0_
  generalize (decide (s_5 < IntKind.i64.wrap (s_4 + n_))) = b1_
  generalize (decide (n_ < 0)) = b2_
  cases b2_
  ·
    cases b0_
    ·
      cases b1_
      ·
        rfl
      ·
        rfl
    ·
      rfl
  ·
    rfl
def e_haymowref07_Hold : Spec := fun _ args => match args with
  | [.agg [.val (.int .u64 s_0), .val (.int .u64 s_1), .val (.int .u64 s_2), .val (.int .u64 s_3), .val (.int .i64 s_4), .val (.int .i64 s_5)], .val (.int .i64 n_)] => some (s_haymowref07_Hold s_0 s_1 s_2 s_3 s_4 s_5 n_, none, [])
  | _ => none
theorem ok_haymowref07_Hold : SpecOk Try.prog 57 e_haymowref07_Hold := fun m args v mo bs h hb => by
  unfold e_haymowref07_Hold at h
  split at h
  · cases h
    exact pure_fn (c := bodyOf Try.f57) hE_haymowref01_Sub mixed (fun xs w => Try.call57 xs w) Try.func57 rfl (t_haymowref07_Hold _ _ _ _ _ _ _) rfl rfl
  · cases h
def L_haymowref07_Hold : List (FuncId × Spec) := (57, e_haymowref07_Hold) :: L_haymowref01_Sub
theorem hE_haymowref07_Hold : ESound Try.prog (envOf L_haymowref07_Hold) := env_cons ok_haymowref07_Hold hE_haymowref01_Sub
def haymowref07_Free_0 (s_0 : Int) (s_1 : Int) (s_2 : Int) (s_3 : Int) (s_4 : Int) (s_5 : Int) (n_ : Int) : Int := bif decide (n_ < 0) then s_4 else bif decide (s_4 < n_) then s_4 else IntKind.i64.wrap (s_4 - n_)
def haymowref07_Free_1 (s_0 : Int) (s_1 : Int) (s_2 : Int) (s_3 : Int) (s_4 : Int) (s_5 : Int) (n_ : Int) : Int := bif decide (n_ < 0) then 1 else bif decide (s_4 < n_) then 4 else 0
def s_haymowref07_Free (s_0 : Int) (s_1 : Int) (s_2 : Int) (s_3 : Int) (s_4 : Int) (s_5 : Int) (n_ : Int) : AV := AV.tup [AV.agg [AV.val (Value.int IntKind.u64 s_0), AV.val (Value.int IntKind.u64 s_1), AV.val (Value.int IntKind.u64 s_2), AV.val (Value.int IntKind.u64 s_3), AV.val (Value.int IntKind.i64 (haymowref07_Free_0 s_0 s_1 s_2 s_3 s_4 s_5 n_)), AV.val (Value.int IntKind.i64 s_5)], AV.val (Value.int IntKind.i64 (haymowref07_Free_1 s_0 s_1 s_2 s_3 s_4 s_5 n_))]
theorem t_haymowref07_Free (s_0 : Int) (s_1 : Int) (s_2 : Int) (s_3 : Int) (s_4 : Int) (s_5 : Int) (n_ : Int) : F_ Try.prog L_haymowref07_Hold Try.f59 [] [] 99 [AV.agg [AV.val (Value.int IntKind.u64 s_0), AV.val (Value.int IntKind.u64 s_1), AV.val (Value.int IntKind.u64 s_2), AV.val (Value.int IntKind.u64 s_3), AV.val (Value.int IntKind.i64 s_4), AV.val (Value.int IntKind.i64 s_5)], AV.val (Value.int IntKind.i64 n_)] noMem = some (.ret (s_haymowref07_Free s_0 s_1 s_2 s_3 s_4 s_5 n_) { bl := [], nx := 99 } true) := by
  have h : F_ Try.prog L_haymowref07_Hold Try.f59 [] [] 99 [AV.agg [AV.val (Value.int IntKind.u64 s_0), AV.val (Value.int IntKind.u64 s_1), AV.val (Value.int IntKind.u64 s_2), AV.val (Value.int IntKind.u64 s_3), AV.val (Value.int IntKind.i64 s_4), AV.val (Value.int IntKind.i64 s_5)], AV.val (Value.int IntKind.i64 n_)] noMem = bif decide (n_ < 0) then some (Fin_.ret (AV.tup [AV.agg [AV.val (Value.int IntKind.u64 s_0), AV.val (Value.int IntKind.u64 s_1), AV.val (Value.int IntKind.u64 s_2), AV.val (Value.int IntKind.u64 s_3), AV.val (Value.int IntKind.i64 s_4), AV.val (Value.int IntKind.i64 s_5)], AV.val (Value.int IntKind.i64 1)]) { bl := [], nx := 99 } true) else bif decide (s_4 < n_) then some (Fin_.ret (AV.tup [AV.agg [AV.val (Value.int IntKind.u64 s_0), AV.val (Value.int IntKind.u64 s_1), AV.val (Value.int IntKind.u64 s_2), AV.val (Value.int IntKind.u64 s_3), AV.val (Value.int IntKind.i64 s_4), AV.val (Value.int IntKind.i64 s_5)], AV.val (Value.int IntKind.i64 4)]) { bl := [], nx := 99 } true) else some (Fin_.ret (AV.tup [AV.agg [AV.val (Value.int IntKind.u64 s_0), AV.val (Value.int IntKind.u64 s_1), AV.val (Value.int IntKind.u64 s_2), AV.val (Value.int IntKind.u64 s_3), AV.val (Value.int IntKind.i64 (IntKind.i64.wrap (s_4 - n_))), AV.val (Value.int IntKind.i64 s_5)], AV.val (Value.int IntKind.i64 0)]) { bl := [], nx := 99 } true) := by kernel_rfl
  rw [h]
  clear h
  unfold s_haymowref07_Free haymowref07_Free_0 haymowref07_Free_1
  generalize (decide (s_4 < n_)) = b0_
  generalize (decide (n_ < 0)) = b1_
  cases b1_
  ·
    cases b0_
    ·
      rfl
    ·
      rfl
  ·
    rfl
def e_haymowref07_Free : Spec := fun _ args => match args with
  | [.agg [.val (.int .u64 s_0), .val (.int .u64 s_1), .val (.int .u64 s_2), .val (.int .u64 s_3), .val (.int .i64 s_4), .val (.int .i64 s_5)], .val (.int .i64 n_)] => some (s_haymowref07_Free s_0 s_1 s_2 s_3 s_4 s_5 n_, none, [])
  | _ => none
theorem ok_haymowref07_Free : SpecOk Try.prog 59 e_haymowref07_Free := fun m args v mo bs h hb => by
  unfold e_haymowref07_Free at h
  split at h
  · cases h
    exact pure_fn (c := bodyOf Try.f59) hE_haymowref07_Hold mixed (fun xs w => Try.call59 xs w) Try.func59 rfl (t_haymowref07_Free _ _ _ _ _ _ _) rfl rfl
  · cases h
def L_haymowref07_Free : List (FuncId × Spec) := (59, e_haymowref07_Free) :: L_haymowref07_Hold
theorem hE_haymowref07_Free : ESound Try.prog (envOf L_haymowref07_Free) := env_cons ok_haymowref07_Free hE_haymowref07_Hold
def haymowref07_Steps_0 (s_0 : Int) (s_1 : Int) (s_2 : Int) (s_3 : Int) (s_4 : Int) (s_5 : Int) : Int := haymowref01_Add_0 s_0 s_1 s_2 s_3
def haymowref07_Steps_1 (s_0 : Int) (s_1 : Int) (s_2 : Int) (s_3 : Int) (s_4 : Int) (s_5 : Int) : Int := haymowref01_Add_1 s_0 s_1 s_2 s_3
def s_haymowref07_Steps (s_0 : Int) (s_1 : Int) (s_2 : Int) (s_3 : Int) (s_4 : Int) (s_5 : Int) : AV := AV.agg [AV.val (Value.int IntKind.u64 (haymowref07_Steps_0 s_0 s_1 s_2 s_3 s_4 s_5)), AV.val (Value.int IntKind.u64 (haymowref07_Steps_1 s_0 s_1 s_2 s_3 s_4 s_5))]
theorem t_haymowref07_Steps (s_0 : Int) (s_1 : Int) (s_2 : Int) (s_3 : Int) (s_4 : Int) (s_5 : Int) : F_ Try.prog L_haymowref07_Free Try.f63 [] [] 99 [AV.agg [AV.val (Value.int IntKind.u64 s_0), AV.val (Value.int IntKind.u64 s_1), AV.val (Value.int IntKind.u64 s_2), AV.val (Value.int IntKind.u64 s_3), AV.val (Value.int IntKind.i64 s_4), AV.val (Value.int IntKind.i64 s_5)]] noMem = some (.ret (s_haymowref07_Steps s_0 s_1 s_2 s_3 s_4 s_5) { bl := [], nx := 99 } true) := by kernel_rfl
def e_haymowref07_Steps : Spec := fun _ args => match args with
  | [.agg [.val (.int .u64 s_0), .val (.int .u64 s_1), .val (.int .u64 s_2), .val (.int .u64 s_3), .val (.int .i64 s_4), .val (.int .i64 s_5)]] => some (s_haymowref07_Steps s_0 s_1 s_2 s_3 s_4 s_5, none, [])
  | _ => none
theorem ok_haymowref07_Steps : SpecOk Try.prog 63 e_haymowref07_Steps := fun m args v mo bs h hb => by
  unfold e_haymowref07_Steps at h
  split at h
  · cases h
    exact pure_fn (c := bodyOf Try.f63) hE_haymowref07_Free mixed (fun xs w => Try.call63 xs w) Try.func63 rfl (t_haymowref07_Steps _ _ _ _ _ _) rfl rfl
  · cases h
def L_haymowref07_Steps : List (FuncId × Spec) := (63, e_haymowref07_Steps) :: L_haymowref07_Free
theorem hE_haymowref07_Steps : ESound Try.prog (envOf L_haymowref07_Steps) := env_cons ok_haymowref07_Steps hE_haymowref07_Free
def haymowlaw07_kind_0 (o_0 : Int) (o_1 : Int) : Int := bif decide (o_0 < 0) then o_0 else IntKind.i64.wrap (o_0 - 2)
def s_haymowlaw07_kind (o_0 : Int) (o_1 : Int) : AV := AV.val (Value.int IntKind.i64 (haymowlaw07_kind_0 o_0 o_1))
theorem t_haymowlaw07_kind (o_0 : Int) (o_1 : Int) : F_ Try.prog L_haymowref07_Steps Try.f61 [] [] 99 [AV.agg [AV.val (Value.int IntKind.i64 o_0), AV.val (Value.int IntKind.i64 o_1)]] noMem = some (.ret (s_haymowlaw07_kind o_0 o_1) { bl := [], nx := 99 } true) := by
  have h : F_ Try.prog L_haymowref07_Steps Try.f61 [] [] 99 [AV.agg [AV.val (Value.int IntKind.i64 o_0), AV.val (Value.int IntKind.i64 o_1)]] noMem = bif decide (o_0 < 0) then some (Fin_.ret (AV.val (Value.int IntKind.i64 o_0)) { bl := [], nx := 99 } true) else some (Fin_.ret (AV.val (Value.int IntKind.i64 (IntKind.i64.wrap (o_0 - 2)))) { bl := [], nx := 99 } true) := by kernel_rfl
  rw [h]
  clear h
  unfold s_haymowlaw07_kind haymowlaw07_kind_0
  generalize (decide (o_0 < 0)) = b0_
  cases b0_
  ·
    rfl
  ·
    rfl
def e_haymowlaw07_kind : Spec := fun _ args => match args with
  | [.agg [.val (.int .i64 o_0), .val (.int .i64 o_1)]] => some (s_haymowlaw07_kind o_0 o_1, none, [])
  | _ => none
theorem ok_haymowlaw07_kind : SpecOk Try.prog 61 e_haymowlaw07_kind := fun m args v mo bs h hb => by
  unfold e_haymowlaw07_kind at h
  split at h
  · cases h
    exact pure_fn (c := bodyOf Try.f61) hE_haymowref07_Steps mixed (fun xs w => Try.call61 xs w) Try.func61 rfl (t_haymowlaw07_kind _ _) rfl rfl
  · cases h
def L_haymowlaw07_kind : List (FuncId × Spec) := (61, e_haymowlaw07_kind) :: L_haymowref07_Steps
theorem hE_haymowlaw07_kind : ESound Try.prog (envOf L_haymowlaw07_kind) := env_cons ok_haymowlaw07_kind hE_haymowref07_Steps
end Go.Proofs.Ytanfjgkohhlcoaa
