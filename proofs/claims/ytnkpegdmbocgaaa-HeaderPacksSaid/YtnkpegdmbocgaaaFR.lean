/-
  What functions hand back, reckoned from their text.
-/
import Derived.Test.YtnkpegdmbocgaaaProg
import Derived.Test.YtnkpegdmbocgaaaFQ
namespace Go.Proofs.Ytnkpegdmbocgaaa
open Go Go.RowKit
def header_Pack_0 (h_0 : Int) (h_1 : Int) (h_2 : Int) (h_3 : Int) (h_4 : Bool) : Int := bif header_Check_0 h_0 h_1 h_2 h_3 h_4 != 0 then 0 else bif h_4 then hdW (IntKind.u64.wrap h_0) (IntKind.u64.wrap h_1) (IntKind.u64.wrap h_2) (IntKind.u64.wrap h_3) 1 1 else hdW (IntKind.u64.wrap h_0) (IntKind.u64.wrap h_1) (IntKind.u64.wrap h_2) (IntKind.u64.wrap h_3) 0 1
def header_Pack_1 (h_0 : Int) (h_1 : Int) (h_2 : Int) (h_3 : Int) (h_4 : Bool) : Int := bif header_Check_0 h_0 h_1 h_2 h_3 h_4 != 0 then header_Check_0 h_0 h_1 h_2 h_3 h_4 else 0
def s_header_Pack (h_0 : Int) (h_1 : Int) (h_2 : Int) (h_3 : Int) (h_4 : Bool) : AV := AV.tup [AV.val (Value.int IntKind.u64 (header_Pack_0 h_0 h_1 h_2 h_3 h_4)), AV.val (Value.int IntKind.i64 (header_Pack_1 h_0 h_1 h_2 h_3 h_4))]
def c_header_Pack (h_0 : Int) (h_1 : Int) (h_2 : Int) (h_3 : Int) (h_4 : Bool) : Bool := bif header_Check_0 h_0 h_1 h_2 h_3 h_4 != 0 then true else bif h_4 then bif hdIn (IntKind.u64.wrap h_0) (IntKind.u64.wrap h_1) (IntKind.u64.wrap h_2) (IntKind.u64.wrap h_3) 1 1 then true else false else bif hdIn (IntKind.u64.wrap h_0) (IntKind.u64.wrap h_1) (IntKind.u64.wrap h_2) (IntKind.u64.wrap h_3) 0 1 then true else false
theorem t_header_Pack (h_0 : Int) (h_1 : Int) (h_2 : Int) (h_3 : Int) (h_4 : Bool) : c_header_Pack h_0 h_1 h_2 h_3 h_4 = true → F_ Try.prog L_fpack Try.f17 [] [] 99 [AV.agg [AV.val (Value.int IntKind.i64 h_0), AV.val (Value.int IntKind.i64 h_1), AV.val (Value.int IntKind.i64 h_2), AV.val (Value.int IntKind.i64 h_3), AV.val (Value.bool h_4)]] noMem = some (.ret (s_header_Pack h_0 h_1 h_2 h_3 h_4) { bl := [], nx := 99 } true) := by
  have h : F_ Try.prog L_fpack Try.f17 [] [] 99 [AV.agg [AV.val (Value.int IntKind.i64 h_0), AV.val (Value.int IntKind.i64 h_1), AV.val (Value.int IntKind.i64 h_2), AV.val (Value.int IntKind.i64 h_3), AV.val (Value.bool h_4)]] noMem = bif header_Check_0 h_0 h_1 h_2 h_3 h_4 != 0 then some (Fin_.ret (AV.tup [AV.val (Value.int IntKind.u64 0), AV.val (Value.int IntKind.i64 (header_Check_0 h_0 h_1 h_2 h_3 h_4))]) { bl := [], nx := 99 } true) else bif h_4 then some (Fin_.ret (AV.tup [AV.val (Value.int IntKind.u64 (hdW (IntKind.u64.wrap h_0) (IntKind.u64.wrap h_1) (IntKind.u64.wrap h_2) (IntKind.u64.wrap h_3) 1 1)), AV.val (Value.int IntKind.i64 0)]) { bl := [], nx := 99 } (bif hdIn (IntKind.u64.wrap h_0) (IntKind.u64.wrap h_1) (IntKind.u64.wrap h_2) (IntKind.u64.wrap h_3) 1 1 then true else false)) else some (Fin_.ret (AV.tup [AV.val (Value.int IntKind.u64 (hdW (IntKind.u64.wrap h_0) (IntKind.u64.wrap h_1) (IntKind.u64.wrap h_2) (IntKind.u64.wrap h_3) 0 1)), AV.val (Value.int IntKind.i64 0)]) { bl := [], nx := 99 } (bif hdIn (IntKind.u64.wrap h_0) (IntKind.u64.wrap h_1) (IntKind.u64.wrap h_2) (IntKind.u64.wrap h_3) 0 1 then true else false)) := by kernel_rfl
  rw [h]
  clear h
  unfold s_header_Pack header_Pack_0 header_Pack_1 c_header_Pack
  generalize (header_Check_0 h_0 h_1 h_2 h_3 h_4 != 0) = b0_
  generalize h_4 = b1_
  cases b0_
  ·
    cases b1_
    ·
      first | rfl | (intro h_; cases h_; done) | (intro _; rfl) | (intro h_; simp only [cond_true, cond_false] at h_ ⊢; rw [h_])
    ·
      first | rfl | (intro h_; cases h_; done) | (intro _; rfl) | (intro h_; simp only [cond_true, cond_false] at h_ ⊢; rw [h_])
  ·
    first | rfl | (intro h_; cases h_; done) | (intro _; rfl) | (intro h_; simp only [cond_true, cond_false] at h_ ⊢; rw [h_])
def e_header_Pack : Spec := fun _ args => match args with
  | [.agg [.val (.int .i64 h_0), .val (.int .i64 h_1), .val (.int .i64 h_2), .val (.int .i64 h_3), .val (.bool h_4)]] => some (s_header_Pack h_0 h_1 h_2 h_3 h_4, none, [c_header_Pack h_0 h_1 h_2 h_3 h_4])
  | _ => none
theorem ok_header_Pack : SpecOk Try.prog 17 e_header_Pack := fun m args v mo bs h hb => by
  unfold e_header_Pack at h
  split at h
  · cases h
    exact pure_fn (c := bodyOf Try.f17) hE_fpack mixed (fun xs w => Try.call17 xs w) Try.func17 rfl (t_header_Pack _ _ _ _ _ (by simpa using hb)) rfl rfl
  · cases h
def L_header_Pack : List (FuncId × Spec) := (17, e_header_Pack) :: L_fpack
theorem hE_header_Pack : ESound Try.prog (envOf L_header_Pack) := env_cons ok_header_Pack hE_fpack
def header_Unpack_0 (w_ : Int) : Int := bif bif header_Pack_1 (IntKind.i64.wrap (field_Get_0 w_ 0 12)) (IntKind.i64.wrap (field_Get_0 w_ 12 12)) (IntKind.i64.wrap (field_Get_0 w_ 24 5)) (IntKind.i64.wrap (field_Get_0 w_ 29 3)) (IntKind.i64.wrap (field_Get_0 w_ 32 1) == 1) != 0 then true else header_Pack_0 (IntKind.i64.wrap (field_Get_0 w_ 0 12)) (IntKind.i64.wrap (field_Get_0 w_ 12 12)) (IntKind.i64.wrap (field_Get_0 w_ 24 5)) (IntKind.i64.wrap (field_Get_0 w_ 29 3)) (IntKind.i64.wrap (field_Get_0 w_ 32 1) == 1) != w_ then 0 else IntKind.i64.wrap (field_Get_0 w_ 0 12)
def header_Unpack_1 (w_ : Int) : Int := bif bif header_Pack_1 (IntKind.i64.wrap (field_Get_0 w_ 0 12)) (IntKind.i64.wrap (field_Get_0 w_ 12 12)) (IntKind.i64.wrap (field_Get_0 w_ 24 5)) (IntKind.i64.wrap (field_Get_0 w_ 29 3)) (IntKind.i64.wrap (field_Get_0 w_ 32 1) == 1) != 0 then true else header_Pack_0 (IntKind.i64.wrap (field_Get_0 w_ 0 12)) (IntKind.i64.wrap (field_Get_0 w_ 12 12)) (IntKind.i64.wrap (field_Get_0 w_ 24 5)) (IntKind.i64.wrap (field_Get_0 w_ 29 3)) (IntKind.i64.wrap (field_Get_0 w_ 32 1) == 1) != w_ then 0 else IntKind.i64.wrap (field_Get_0 w_ 12 12)
def header_Unpack_2 (w_ : Int) : Int := bif bif header_Pack_1 (IntKind.i64.wrap (field_Get_0 w_ 0 12)) (IntKind.i64.wrap (field_Get_0 w_ 12 12)) (IntKind.i64.wrap (field_Get_0 w_ 24 5)) (IntKind.i64.wrap (field_Get_0 w_ 29 3)) (IntKind.i64.wrap (field_Get_0 w_ 32 1) == 1) != 0 then true else header_Pack_0 (IntKind.i64.wrap (field_Get_0 w_ 0 12)) (IntKind.i64.wrap (field_Get_0 w_ 12 12)) (IntKind.i64.wrap (field_Get_0 w_ 24 5)) (IntKind.i64.wrap (field_Get_0 w_ 29 3)) (IntKind.i64.wrap (field_Get_0 w_ 32 1) == 1) != w_ then 0 else IntKind.i64.wrap (field_Get_0 w_ 24 5)
def header_Unpack_3 (w_ : Int) : Int := bif bif header_Pack_1 (IntKind.i64.wrap (field_Get_0 w_ 0 12)) (IntKind.i64.wrap (field_Get_0 w_ 12 12)) (IntKind.i64.wrap (field_Get_0 w_ 24 5)) (IntKind.i64.wrap (field_Get_0 w_ 29 3)) (IntKind.i64.wrap (field_Get_0 w_ 32 1) == 1) != 0 then true else header_Pack_0 (IntKind.i64.wrap (field_Get_0 w_ 0 12)) (IntKind.i64.wrap (field_Get_0 w_ 12 12)) (IntKind.i64.wrap (field_Get_0 w_ 24 5)) (IntKind.i64.wrap (field_Get_0 w_ 29 3)) (IntKind.i64.wrap (field_Get_0 w_ 32 1) == 1) != w_ then 0 else IntKind.i64.wrap (field_Get_0 w_ 29 3)
def header_Unpack_4 (w_ : Int) : Bool := bif bif header_Pack_1 (IntKind.i64.wrap (field_Get_0 w_ 0 12)) (IntKind.i64.wrap (field_Get_0 w_ 12 12)) (IntKind.i64.wrap (field_Get_0 w_ 24 5)) (IntKind.i64.wrap (field_Get_0 w_ 29 3)) (IntKind.i64.wrap (field_Get_0 w_ 32 1) == 1) != 0 then true else header_Pack_0 (IntKind.i64.wrap (field_Get_0 w_ 0 12)) (IntKind.i64.wrap (field_Get_0 w_ 12 12)) (IntKind.i64.wrap (field_Get_0 w_ 24 5)) (IntKind.i64.wrap (field_Get_0 w_ 29 3)) (IntKind.i64.wrap (field_Get_0 w_ 32 1) == 1) != w_ then false else IntKind.i64.wrap (field_Get_0 w_ 32 1) == 1
def header_Unpack_5 (w_ : Int) : Int := bif bif header_Pack_1 (IntKind.i64.wrap (field_Get_0 w_ 0 12)) (IntKind.i64.wrap (field_Get_0 w_ 12 12)) (IntKind.i64.wrap (field_Get_0 w_ 24 5)) (IntKind.i64.wrap (field_Get_0 w_ 29 3)) (IntKind.i64.wrap (field_Get_0 w_ 32 1) == 1) != 0 then true else header_Pack_0 (IntKind.i64.wrap (field_Get_0 w_ 0 12)) (IntKind.i64.wrap (field_Get_0 w_ 12 12)) (IntKind.i64.wrap (field_Get_0 w_ 24 5)) (IntKind.i64.wrap (field_Get_0 w_ 29 3)) (IntKind.i64.wrap (field_Get_0 w_ 32 1) == 1) != w_ then 5 else 0
def s_header_Unpack (w_ : Int) : AV := AV.tup [AV.agg [AV.val (Value.int IntKind.i64 (header_Unpack_0 w_)), AV.val (Value.int IntKind.i64 (header_Unpack_1 w_)), AV.val (Value.int IntKind.i64 (header_Unpack_2 w_)), AV.val (Value.int IntKind.i64 (header_Unpack_3 w_)), AV.val (Value.bool (header_Unpack_4 w_))], AV.val (Value.int IntKind.i64 (header_Unpack_5 w_))]
def c_header_Unpack (w_ : Int) : Bool := bif c_header_Pack (IntKind.i64.wrap (field_Get_0 w_ 0 12)) (IntKind.i64.wrap (field_Get_0 w_ 12 12)) (IntKind.i64.wrap (field_Get_0 w_ 24 5)) (IntKind.i64.wrap (field_Get_0 w_ 29 3)) (IntKind.i64.wrap (field_Get_0 w_ 32 1) == 1) then true else false
theorem t_header_Unpack (w_ : Int) : c_header_Unpack w_ = true → F_ Try.prog L_header_Pack Try.f15 [] [] 99 [AV.val (Value.int IntKind.u64 w_)] noMem = some (.ret (s_header_Unpack w_) { bl := [], nx := 99 } true) := by
  have h : F_ Try.prog L_header_Pack Try.f15 [] [] 99 [AV.val (Value.int IntKind.u64 w_)] noMem = bif bif header_Pack_1 (IntKind.i64.wrap (field_Get_0 w_ 0 12)) (IntKind.i64.wrap (field_Get_0 w_ 12 12)) (IntKind.i64.wrap (field_Get_0 w_ 24 5)) (IntKind.i64.wrap (field_Get_0 w_ 29 3)) (IntKind.i64.wrap (field_Get_0 w_ 32 1) == 1) != 0 then true else header_Pack_0 (IntKind.i64.wrap (field_Get_0 w_ 0 12)) (IntKind.i64.wrap (field_Get_0 w_ 12 12)) (IntKind.i64.wrap (field_Get_0 w_ 24 5)) (IntKind.i64.wrap (field_Get_0 w_ 29 3)) (IntKind.i64.wrap (field_Get_0 w_ 32 1) == 1) != w_ then some (Fin_.ret (AV.tup [AV.agg [AV.val (Value.int IntKind.i64 0), AV.val (Value.int IntKind.i64 0), AV.val (Value.int IntKind.i64 0), AV.val (Value.int IntKind.i64 0), AV.val (Value.bool false)], AV.val (Value.int IntKind.i64 5)]) { bl := [], nx := 99 } (bif c_header_Pack (IntKind.i64.wrap (field_Get_0 w_ 0 12)) (IntKind.i64.wrap (field_Get_0 w_ 12 12)) (IntKind.i64.wrap (field_Get_0 w_ 24 5)) (IntKind.i64.wrap (field_Get_0 w_ 29 3)) (IntKind.i64.wrap (field_Get_0 w_ 32 1) == 1) then true else false)) else some (Fin_.ret (AV.tup [AV.agg [AV.val (Value.int IntKind.i64 (IntKind.i64.wrap (field_Get_0 w_ 0 12))), AV.val (Value.int IntKind.i64 (IntKind.i64.wrap (field_Get_0 w_ 12 12))), AV.val (Value.int IntKind.i64 (IntKind.i64.wrap (field_Get_0 w_ 24 5))), AV.val (Value.int IntKind.i64 (IntKind.i64.wrap (field_Get_0 w_ 29 3))), AV.val (Value.bool (IntKind.i64.wrap (field_Get_0 w_ 32 1) == 1))], AV.val (Value.int IntKind.i64 0)]) { bl := [], nx := 99 } (bif c_header_Pack (IntKind.i64.wrap (field_Get_0 w_ 0 12)) (IntKind.i64.wrap (field_Get_0 w_ 12 12)) (IntKind.i64.wrap (field_Get_0 w_ 24 5)) (IntKind.i64.wrap (field_Get_0 w_ 29 3)) (IntKind.i64.wrap (field_Get_0 w_ 32 1) == 1) then true else false)) := by kernel_rfl
  rw [h]
  clear h
  unfold s_header_Unpack header_Unpack_0 header_Unpack_1 header_Unpack_2 header_Unpack_3 header_Unpack_4 header_Unpack_5 c_header_Unpack
  generalize (bif header_Pack_1 (IntKind.i64.wrap (field_Get_0 w_ 0 12)) (IntKind.i64.wrap (field_Get_0 w_ 12 12)) (IntKind.i64.wrap (field_Get_0 w_ 24 5)) (IntKind.i64.wrap (field_Get_0 w_ 29 3)) (IntKind.i64.wrap (field_Get_0 w_ 32 1) == 1) != 0 then true else header_Pack_0 (IntKind.i64.wrap (field_Get_0 w_ 0 12)) (IntKind.i64.wrap (field_Get_0 w_ 12 12)) (IntKind.i64.wrap (field_Get_0 w_ 24 5)) (IntKind.i64.wrap (field_Get_0 w_ 29 3)) (IntKind.i64.wrap (field_Get_0 w_ 32 1) == 1) != w_) = b0_
  cases b0_
  ·
    first | rfl | (intro h_; cases h_; done) | (intro _; rfl) | (intro h_; simp only [cond_true, cond_false] at h_ ⊢; rw [h_])
  ·
    first | rfl | (intro h_; cases h_; done) | (intro _; rfl) | (intro h_; simp only [cond_true, cond_false] at h_ ⊢; rw [h_])
def e_header_Unpack : Spec := fun _ args => match args with
  | [.val (.int .u64 w_)] => some (s_header_Unpack w_, none, [c_header_Unpack w_])
  | _ => none
theorem ok_header_Unpack : SpecOk Try.prog 15 e_header_Unpack := fun m args v mo bs h hb => by
  unfold e_header_Unpack at h
  split at h
  · cases h
    exact pure_fn (c := bodyOf Try.f15) hE_header_Pack mixed (fun xs w => Try.call15 xs w) Try.func15 rfl (t_header_Unpack _ (by simpa using hb)) rfl rfl
  · cases h
def L_header_Unpack : List (FuncId × Spec) := (15, e_header_Unpack) :: L_header_Pack
theorem hE_header_Unpack : ESound Try.prog (envOf L_header_Unpack) := env_cons ok_header_Unpack hE_header_Pack
def header_Older_0 (w_ : Int) : Int := bif header_Unpack_5 w_ != 0 then 0 else header_Pack_0 (header_Unpack_0 w_) (header_Unpack_1 w_) (header_Unpack_2 w_) (min (IntKind.i64.wrap (header_Unpack_3 w_ + 1)) 7) (header_Unpack_4 w_)
def header_Older_1 (w_ : Int) : Int := bif header_Unpack_5 w_ != 0 then header_Unpack_5 w_ else header_Pack_1 (header_Unpack_0 w_) (header_Unpack_1 w_) (header_Unpack_2 w_) (min (IntKind.i64.wrap (header_Unpack_3 w_ + 1)) 7) (header_Unpack_4 w_)
def s_header_Older (w_ : Int) : AV := AV.tup [AV.val (Value.int IntKind.u64 (header_Older_0 w_)), AV.val (Value.int IntKind.i64 (header_Older_1 w_))]
def c_header_Older (w_ : Int) : Bool := bif header_Unpack_5 w_ != 0 then bif c_header_Unpack w_ then true else false else bif c_header_Unpack w_ then bif c_header_Pack (header_Unpack_0 w_) (header_Unpack_1 w_) (header_Unpack_2 w_) (min (IntKind.i64.wrap (header_Unpack_3 w_ + 1)) 7) (header_Unpack_4 w_) then true else false else false
theorem t_header_Older (w_ : Int) : c_header_Older w_ = true → F_ Try.prog L_header_Unpack Try.f19 [] [] 99 [AV.val (Value.int IntKind.u64 w_)] noMem = some (.ret (s_header_Older w_) { bl := [], nx := 99 } true) := by
  have h : F_ Try.prog L_header_Unpack Try.f19 [] [] 99 [AV.val (Value.int IntKind.u64 w_)] noMem = bif header_Unpack_5 w_ != 0 then some (Fin_.ret (AV.tup [AV.val (Value.int IntKind.u64 0), AV.val (Value.int IntKind.i64 (header_Unpack_5 w_))]) { bl := [], nx := 99 } (bif c_header_Unpack w_ then true else false)) else some (Fin_.ret (AV.tup [AV.val (Value.int IntKind.u64 (header_Pack_0 (header_Unpack_0 w_) (header_Unpack_1 w_) (header_Unpack_2 w_) (min (IntKind.i64.wrap (header_Unpack_3 w_ + 1)) 7) (header_Unpack_4 w_))), AV.val (Value.int IntKind.i64 (header_Pack_1 (header_Unpack_0 w_) (header_Unpack_1 w_) (header_Unpack_2 w_) (min (IntKind.i64.wrap (header_Unpack_3 w_ + 1)) 7) (header_Unpack_4 w_)))]) { bl := [], nx := 99 } (bif c_header_Unpack w_ then bif c_header_Pack (header_Unpack_0 w_) (header_Unpack_1 w_) (header_Unpack_2 w_) (min (IntKind.i64.wrap (header_Unpack_3 w_ + 1)) 7) (header_Unpack_4 w_) then true else false else false)) := by kernel_rfl
  rw [h]
  clear h
  unfold s_header_Older header_Older_0 header_Older_1 c_header_Older
  generalize (header_Unpack_5 w_ != 0) = b0_
  cases b0_
  ·
    first | rfl | (intro h_; cases h_; done) | (intro _; rfl) | (intro h_; simp only [cond_true, cond_false] at h_ ⊢; rw [h_])
  ·
    first | rfl | (intro h_; cases h_; done) | (intro _; rfl) | (intro h_; simp only [cond_true, cond_false] at h_ ⊢; rw [h_])
def e_header_Older : Spec := fun _ args => match args with
  | [.val (.int .u64 w_)] => some (s_header_Older w_, none, [c_header_Older w_])
  | _ => none
theorem ok_header_Older : SpecOk Try.prog 19 e_header_Older := fun m args v mo bs h hb => by
  unfold e_header_Older at h
  split at h
  · cases h
    exact pure_fn (c := bodyOf Try.f19) hE_header_Unpack mixed (fun xs w => Try.call19 xs w) Try.func19 rfl (t_header_Older _ (by simpa using hb)) rfl rfl
  · cases h
def L_header_Older : List (FuncId × Spec) := (19, e_header_Older) :: L_header_Unpack
theorem hE_header_Older : ESound Try.prog (envOf L_header_Older) := env_cons ok_header_Older hE_header_Unpack
end Go.Proofs.Ytnkpegdmbocgaaa
