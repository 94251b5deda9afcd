/-
  What functions hand back, reckoned from their text.
-/
import Derived.Test.YtnkpegdmbocgaaaProg
import Derived.Test.YtnkpegdmbocgaaaFR
namespace Go.Proofs.Ytnkpegdmbocgaaa
open Go Go.RowKit
def s_haymowlaw12_awake : AV := AV.val (Value.bool true)
theorem t_haymowlaw12_awake : F_ Try.prog L_header_Older Try.f12 [] [] 99 [] noMem = some (.ret (s_haymowlaw12_awake) { bl := [], nx := 99 } true) := by kernel_rfl
def e_haymowlaw12_awake : Spec := fun _ args => match args with
  | [] => some (s_haymowlaw12_awake , none, [])
  | _ => none
theorem ok_haymowlaw12_awake : SpecOk Try.prog 12 e_haymowlaw12_awake := fun m args v mo bs h hb => by
  unfold e_haymowlaw12_awake at h
  split at h
  · cases h
    exact pure_fn (c := bodyOf Try.f12) hE_header_Older mixed (fun xs w => Try.call12 xs w) Try.func12 rfl (t_haymowlaw12_awake) rfl rfl
  · cases h
def L_haymowlaw12_awake : List (FuncId × Spec) := (12, e_haymowlaw12_awake) :: L_header_Older
theorem hE_haymowlaw12_awake : ESound Try.prog (envOf L_haymowlaw12_awake) := env_cons ok_haymowlaw12_awake hE_header_Older
def haymowlaw12_HeaderMoves_0 (at_ : Int) : Bool := bif bif decide (at_ < 0) then true else decide (4194304 ≤ at_) then bif header_Forward_0 at_ == 0 then header_Forward_1 at_ == 2 else false else bif bif bif bif header_Forward_1 at_ == 0 then header_Forwarded_0 (header_Forward_0 at_) == at_ else false then header_Forwarded_1 (header_Forward_0 at_) else false then header_Unpack_5 (header_Forward_0 at_) == 5 else false then header_Forward_0 at_ == IntKind.u64.wrap (9223372036854775808 + IntKind.u64.wrap at_) else false
def s_haymowlaw12_HeaderMoves (at_ : Int) : AV := AV.val (Value.bool (haymowlaw12_HeaderMoves_0 at_))
def c_haymowlaw12_HeaderMoves (at_ : Int) : Bool := bif bif decide (at_ < 0) then true else decide (4194304 ≤ at_) then true else bif c_header_Unpack (header_Forward_0 at_) then true else false
theorem t_haymowlaw12_HeaderMoves (at_ : Int) : c_haymowlaw12_HeaderMoves at_ = true → F_ Try.prog L_haymowlaw12_awake Try.f3 [] [] 99 [AV.val (Value.int IntKind.i64 at_)] noMem = some (.ret (s_haymowlaw12_HeaderMoves at_) { bl := [], nx := 99 } true) := by
  have h : F_ Try.prog L_haymowlaw12_awake Try.f3 [] [] 99 [AV.val (Value.int IntKind.i64 at_)] noMem = bif bif decide (at_ < 0) then true else decide (4194304 ≤ at_) then some (Fin_.ret (AV.val (Value.bool (bif header_Forward_0 at_ == 0 then header_Forward_1 at_ == 2 else false))) { bl := [], nx := 99 } true) else some (Fin_.ret (AV.val (Value.bool (bif bif bif bif header_Forward_1 at_ == 0 then header_Forwarded_0 (header_Forward_0 at_) == at_ else false then header_Forwarded_1 (header_Forward_0 at_) else false then header_Unpack_5 (header_Forward_0 at_) == 5 else false then header_Forward_0 at_ == IntKind.u64.wrap (9223372036854775808 + IntKind.u64.wrap at_) else false))) { bl := [], nx := 99 } (bif c_header_Unpack (header_Forward_0 at_) then true else false)) := by kernel_rfl
  rw [h]
  clear h
  unfold s_haymowlaw12_HeaderMoves haymowlaw12_HeaderMoves_0 c_haymowlaw12_HeaderMoves
  generalize (bif decide (at_ < 0) then true else decide (4194304 ≤ at_)) = b0_
  cases b0_
  ·
    first | rfl | (intro h_; cases h_; done) | (intro _; rfl) | (intro h_; simp only [cond_true, cond_false] at h_ ⊢; rw [h_])
  ·
    first | rfl | (intro h_; cases h_; done) | (intro _; rfl) | (intro h_; simp only [cond_true, cond_false] at h_ ⊢; rw [h_])
def e_haymowlaw12_HeaderMoves : Spec := fun _ args => match args with
  | [.val (.int .i64 at_)] => some (s_haymowlaw12_HeaderMoves at_, none, [c_haymowlaw12_HeaderMoves at_])
  | _ => none
theorem ok_haymowlaw12_HeaderMoves : SpecOk Try.prog 3 e_haymowlaw12_HeaderMoves := fun m args v mo bs h hb => by
  unfold e_haymowlaw12_HeaderMoves at h
  split at h
  · cases h
    exact pure_fn (c := bodyOf Try.f3) hE_haymowlaw12_awake mixed (fun xs w => Try.call3 xs w) Try.func3 rfl (t_haymowlaw12_HeaderMoves _ (by simpa using hb)) rfl rfl
  · cases h
def L_haymowlaw12_HeaderMoves : List (FuncId × Spec) := (3, e_haymowlaw12_HeaderMoves) :: L_haymowlaw12_awake
theorem hE_haymowlaw12_HeaderMoves : ESound Try.prog (envOf L_haymowlaw12_HeaderMoves) := env_cons ok_haymowlaw12_HeaderMoves hE_haymowlaw12_awake
def haymowlaw12_HeaderReads_0 (w_ : Int) : Bool := bif bif bif bif bif bif bif !(header_Unpack_0 w_ == haymowref12_Unpack_0 w_ && (header_Unpack_1 w_ == haymowref12_Unpack_1 w_ && true) && (header_Unpack_2 w_ == haymowref12_Unpack_2 w_ && (header_Unpack_3 w_ == haymowref12_Unpack_3 w_ && (header_Unpack_4 w_ == haymowref12_Unpack_4 w_ && true)))) then true else !(header_Unpack_5 w_ == 0) == haymowref12_Unpack_5 w_ then true else header_Forwarded_0 w_ != haymowref12_Forwarded_0 w_ then true else !header_Forwarded_1 w_ == haymowref12_Forwarded_1 w_ then true else !(header_Older_1 w_ == 0) == haymowref12_Unpack_5 w_ then true else bif header_Forwarded_1 w_ then haymowref12_Unpack_5 w_ else false then true else bif w_ == 0 then bif haymowref12_Unpack_5 w_ then true else header_Forwarded_1 w_ else false then false else bif !haymowref12_Unpack_5 w_ then bif bif header_Unpack_5 w_ == 5 then header_Older_1 w_ == 5 else false then header_Older_0 w_ == 0 else false else header_Older_0 w_ == haymowref12_Pack_0 (haymowref12_Unpack_0 w_) (haymowref12_Unpack_1 w_) (haymowref12_Unpack_2 w_) (haymowref12_Older_0 (haymowref12_Unpack_0 w_) (haymowref12_Unpack_1 w_) (haymowref12_Unpack_2 w_) (haymowref12_Unpack_3 w_) (haymowref12_Unpack_4 w_)) (haymowref12_Unpack_4 w_)
def s_haymowlaw12_HeaderReads (w_ : Int) : AV := AV.val (Value.bool (haymowlaw12_HeaderReads_0 w_))
def c_haymowlaw12_HeaderReads (w_ : Int) : Bool := bif c_header_Unpack w_ then bif c_header_Older w_ then true else false else false
theorem t_haymowlaw12_HeaderReads (w_ : Int) : c_haymowlaw12_HeaderReads w_ = true → F_ Try.prog L_haymowlaw12_HeaderMoves Try.f5 [] [] 99 [AV.val (Value.int IntKind.u64 w_)] noMem = some (.ret (s_haymowlaw12_HeaderReads w_) { bl := [], nx := 99 } true) := by
  have h : F_ Try.prog L_haymowlaw12_HeaderMoves Try.f5 [] [] 99 [AV.val (Value.int IntKind.u64 w_)] noMem = bif bif bif bif bif bif bif !(header_Unpack_0 w_ == haymowref12_Unpack_0 w_ && (header_Unpack_1 w_ == haymowref12_Unpack_1 w_ && true) && (header_Unpack_2 w_ == haymowref12_Unpack_2 w_ && (header_Unpack_3 w_ == haymowref12_Unpack_3 w_ && (header_Unpack_4 w_ == haymowref12_Unpack_4 w_ && true)))) then true else !(header_Unpack_5 w_ == 0) == haymowref12_Unpack_5 w_ then true else header_Forwarded_0 w_ != haymowref12_Forwarded_0 w_ then true else !header_Forwarded_1 w_ == haymowref12_Forwarded_1 w_ then true else !(header_Older_1 w_ == 0) == haymowref12_Unpack_5 w_ then true else bif header_Forwarded_1 w_ then haymowref12_Unpack_5 w_ else false then true else bif w_ == 0 then bif haymowref12_Unpack_5 w_ then true else header_Forwarded_1 w_ else false then some (Fin_.ret (AV.val (Value.bool false)) { bl := [], nx := 99 } (bif c_header_Unpack w_ then bif c_header_Older w_ then true else false else false)) else bif !haymowref12_Unpack_5 w_ then some (Fin_.ret (AV.val (Value.bool (bif bif header_Unpack_5 w_ == 5 then header_Older_1 w_ == 5 else false then header_Older_0 w_ == 0 else false))) { bl := [], nx := 99 } (bif c_header_Unpack w_ then bif c_header_Older w_ then true else false else false)) else some (Fin_.ret (AV.val (Value.bool (header_Older_0 w_ == haymowref12_Pack_0 (haymowref12_Unpack_0 w_) (haymowref12_Unpack_1 w_) (haymowref12_Unpack_2 w_) (haymowref12_Older_0 (haymowref12_Unpack_0 w_) (haymowref12_Unpack_1 w_) (haymowref12_Unpack_2 w_) (haymowref12_Unpack_3 w_) (haymowref12_Unpack_4 w_)) (haymowref12_Unpack_4 w_)))) { bl := [], nx := 99 } (bif c_header_Unpack w_ then bif c_header_Older w_ then true else false else false)) := by kernel_rfl
  rw [h]
  clear h
  unfold s_haymowlaw12_HeaderReads haymowlaw12_HeaderReads_0 c_haymowlaw12_HeaderReads
  generalize (bif bif bif bif bif bif !(header_Unpack_0 w_ == haymowref12_Unpack_0 w_ && (header_Unpack_1 w_ == haymowref12_Unpack_1 w_ && true) && (header_Unpack_2 w_ == haymowref12_Unpack_2 w_ && (header_Unpack_3 w_ == haymowref12_Unpack_3 w_ && (header_Unpack_4 w_ == haymowref12_Unpack_4 w_ && true)))) then true else !(header_Unpack_5 w_ == 0) == haymowref12_Unpack_5 w_ then true else header_Forwarded_0 w_ != haymowref12_Forwarded_0 w_ then true else !header_Forwarded_1 w_ == haymowref12_Forwarded_1 w_ then true else !(header_Older_1 w_ == 0) == haymowref12_Unpack_5 w_ then true else bif header_Forwarded_1 w_ then haymowref12_Unpack_5 w_ else false then true else bif w_ == 0 then bif haymowref12_Unpack_5 w_ then true else header_Forwarded_1 w_ else false) = b0_
  generalize (!haymowref12_Unpack_5 w_) = b1_
  cases b0_
  ·
    cases b1_
    ·
      first | rfl | (intro h_; cases h_; done) | (intro _; rfl) | (intro h_; simp only [cond_true, cond_false] at h_ ⊢; rw [h_])
    ·
      first | rfl | (intro h_; cases h_; done) | (intro _; rfl) | (intro h_; simp only [cond_true, cond_false] at h_ ⊢; rw [h_])
  ·
    first | rfl | (intro h_; cases h_; done) | (intro _; rfl) | (intro h_; simp only [cond_true, cond_false] at h_ ⊢; rw [h_])
def e_haymowlaw12_HeaderReads : Spec := fun _ args => match args with
  | [.val (.int .u64 w_)] => some (s_haymowlaw12_HeaderReads w_, none, [c_haymowlaw12_HeaderReads w_])
  | _ => none
theorem ok_haymowlaw12_HeaderReads : SpecOk Try.prog 5 e_haymowlaw12_HeaderReads := fun m args v mo bs h hb => by
  unfold e_haymowlaw12_HeaderReads at h
  split at h
  · cases h
    exact pure_fn (c := bodyOf Try.f5) hE_haymowlaw12_HeaderMoves mixed (fun xs w => Try.call5 xs w) Try.func5 rfl (t_haymowlaw12_HeaderReads _ (by simpa using hb)) rfl rfl
  · cases h
def L_haymowlaw12_HeaderReads : List (FuncId × Spec) := (5, e_haymowlaw12_HeaderReads) :: L_haymowlaw12_HeaderMoves
theorem hE_haymowlaw12_HeaderReads : ESound Try.prog (envOf L_haymowlaw12_HeaderReads) := env_cons ok_haymowlaw12_HeaderReads hE_haymowlaw12_HeaderMoves
def haymowlaw12_HeaderPacks_0 (h_0 : Int) (h_1 : Int) (h_2 : Int) (h_3 : Int) (h_4 : Bool) : Bool := bif bif header_Check_0 h_0 h_1 h_2 h_3 h_4 != haymowref12_Check_0 h_0 h_1 h_2 h_3 h_4 then true else header_Pack_1 h_0 h_1 h_2 h_3 h_4 != haymowref12_Check_0 h_0 h_1 h_2 h_3 h_4 then false else bif haymowref12_Check_0 h_0 h_1 h_2 h_3 h_4 != 0 then header_Pack_0 h_0 h_1 h_2 h_3 h_4 == 0 else bif bif bif bif bif bif header_Pack_0 h_0 h_1 h_2 h_3 h_4 == haymowref12_Pack_0 h_0 h_1 h_2 h_3 h_4 then header_Unpack_0 (header_Pack_0 h_0 h_1 h_2 h_3 h_4) == h_0 && (header_Unpack_1 (header_Pack_0 h_0 h_1 h_2 h_3 h_4) == h_1 && true) && (header_Unpack_2 (header_Pack_0 h_0 h_1 h_2 h_3 h_4) == h_2 && (header_Unpack_3 (header_Pack_0 h_0 h_1 h_2 h_3 h_4) == h_3 && (header_Unpack_4 (header_Pack_0 h_0 h_1 h_2 h_3 h_4) == h_4 && true))) else false then header_Unpack_5 (header_Pack_0 h_0 h_1 h_2 h_3 h_4) == 0 else false then header_Older_1 (header_Pack_0 h_0 h_1 h_2 h_3 h_4) == 0 else false then header_Unpack_5 (header_Older_0 (header_Pack_0 h_0 h_1 h_2 h_3 h_4)) == 0 else false then header_Unpack_0 (header_Older_0 (header_Pack_0 h_0 h_1 h_2 h_3 h_4)) == h_0 && (header_Unpack_1 (header_Older_0 (header_Pack_0 h_0 h_1 h_2 h_3 h_4)) == h_1 && true) && (header_Unpack_2 (header_Older_0 (header_Pack_0 h_0 h_1 h_2 h_3 h_4)) == h_2 && (header_Unpack_3 (header_Older_0 (header_Pack_0 h_0 h_1 h_2 h_3 h_4)) == haymowref12_Older_0 h_0 h_1 h_2 h_3 h_4 && (header_Unpack_4 (header_Older_0 (header_Pack_0 h_0 h_1 h_2 h_3 h_4)) == h_4 && true))) else false then header_Words_0 h_0 h_1 h_2 h_3 h_4 == IntKind.i64.wrap (IntKind.i64.wrap (1 + h_0) + h_1) else false
def s_haymowlaw12_HeaderPacks (h_0 : Int) (h_1 : Int) (h_2 : Int) (h_3 : Int) (h_4 : Bool) : AV := AV.val (Value.bool (haymowlaw12_HeaderPacks_0 h_0 h_1 h_2 h_3 h_4))
def c_haymowlaw12_HeaderPacks (h_0 : Int) (h_1 : Int) (h_2 : Int) (h_3 : Int) (h_4 : Bool) : Bool := bif bif header_Check_0 h_0 h_1 h_2 h_3 h_4 != haymowref12_Check_0 h_0 h_1 h_2 h_3 h_4 then true else header_Pack_1 h_0 h_1 h_2 h_3 h_4 != haymowref12_Check_0 h_0 h_1 h_2 h_3 h_4 then bif c_header_Pack h_0 h_1 h_2 h_3 h_4 then true else false else bif haymowref12_Check_0 h_0 h_1 h_2 h_3 h_4 != 0 then bif c_header_Pack h_0 h_1 h_2 h_3 h_4 then true else false else bif c_header_Pack h_0 h_1 h_2 h_3 h_4 then bif c_header_Unpack (header_Pack_0 h_0 h_1 h_2 h_3 h_4) then bif c_header_Older (header_Pack_0 h_0 h_1 h_2 h_3 h_4) then bif c_header_Unpack (header_Older_0 (header_Pack_0 h_0 h_1 h_2 h_3 h_4)) then true else false else false else false else false
theorem t_haymowlaw12_HeaderPacks (h_0 : Int) (h_1 : Int) (h_2 : Int) (h_3 : Int) (h_4 : Bool) : c_haymowlaw12_HeaderPacks h_0 h_1 h_2 h_3 h_4 = true → F_ Try.prog L_haymowlaw12_HeaderReads Try.f4 [] [] 99 [AV.agg [AV.val (Value.int IntKind.i64 h_0), AV.val (Value.int IntKind.i64 h_1), AV.val (Value.int IntKind.i64 h_2), AV.val (Value.int IntKind.i64 h_3), AV.val (Value.bool h_4)]] noMem = some (.ret (s_haymowlaw12_HeaderPacks h_0 h_1 h_2 h_3 h_4) { bl := [], nx := 99 } true) := by
  have h : F_ Try.prog L_haymowlaw12_HeaderReads Try.f4 [] [] 99 [AV.agg [AV.val (Value.int IntKind.i64 h_0), AV.val (Value.int IntKind.i64 h_1), AV.val (Value.int IntKind.i64 h_2), AV.val (Value.int IntKind.i64 h_3), AV.val (Value.bool h_4)]] noMem = bif bif header_Check_0 h_0 h_1 h_2 h_3 h_4 != haymowref12_Check_0 h_0 h_1 h_2 h_3 h_4 then true else header_Pack_1 h_0 h_1 h_2 h_3 h_4 != haymowref12_Check_0 h_0 h_1 h_2 h_3 h_4 then some (Fin_.ret (AV.val (Value.bool false)) { bl := [], nx := 99 } (bif c_header_Pack h_0 h_1 h_2 h_3 h_4 then true else false)) else bif haymowref12_Check_0 h_0 h_1 h_2 h_3 h_4 != 0 then some (Fin_.ret (AV.val (Value.bool (header_Pack_0 h_0 h_1 h_2 h_3 h_4 == 0))) { bl := [], nx := 99 } (bif c_header_Pack h_0 h_1 h_2 h_3 h_4 then true else false)) else some (Fin_.ret (AV.val (Value.bool (bif bif bif bif bif bif header_Pack_0 h_0 h_1 h_2 h_3 h_4 == haymowref12_Pack_0 h_0 h_1 h_2 h_3 h_4 then header_Unpack_0 (header_Pack_0 h_0 h_1 h_2 h_3 h_4) == h_0 && (header_Unpack_1 (header_Pack_0 h_0 h_1 h_2 h_3 h_4) == h_1 && true) && (header_Unpack_2 (header_Pack_0 h_0 h_1 h_2 h_3 h_4) == h_2 && (header_Unpack_3 (header_Pack_0 h_0 h_1 h_2 h_3 h_4) == h_3 && (header_Unpack_4 (header_Pack_0 h_0 h_1 h_2 h_3 h_4) == h_4 && true))) else false then header_Unpack_5 (header_Pack_0 h_0 h_1 h_2 h_3 h_4) == 0 else false then header_Older_1 (header_Pack_0 h_0 h_1 h_2 h_3 h_4) == 0 else false then header_Unpack_5 (header_Older_0 (header_Pack_0 h_0 h_1 h_2 h_3 h_4)) == 0 else false then header_Unpack_0 (header_Older_0 (header_Pack_0 h_0 h_1 h_2 h_3 h_4)) == h_0 && (header_Unpack_1 (header_Older_0 (header_Pack_0 h_0 h_1 h_2 h_3 h_4)) == h_1 && true) && (header_Unpack_2 (header_Older_0 (header_Pack_0 h_0 h_1 h_2 h_3 h_4)) == h_2 && (header_Unpack_3 (header_Older_0 (header_Pack_0 h_0 h_1 h_2 h_3 h_4)) == haymowref12_Older_0 h_0 h_1 h_2 h_3 h_4 && (header_Unpack_4 (header_Older_0 (header_Pack_0 h_0 h_1 h_2 h_3 h_4)) == h_4 && true))) else false then header_Words_0 h_0 h_1 h_2 h_3 h_4 == IntKind.i64.wrap (IntKind.i64.wrap (1 + h_0) + h_1) else false))) { bl := [], nx := 99 } (bif c_header_Pack h_0 h_1 h_2 h_3 h_4 then bif c_header_Unpack (header_Pack_0 h_0 h_1 h_2 h_3 h_4) then bif c_header_Older (header_Pack_0 h_0 h_1 h_2 h_3 h_4) then bif c_header_Unpack (header_Older_0 (header_Pack_0 h_0 h_1 h_2 h_3 h_4)) then true else false else false else false else false)) := by kernel_rfl
  rw [h]
  clear h
  unfold s_haymowlaw12_HeaderPacks haymowlaw12_HeaderPacks_0 c_haymowlaw12_HeaderPacks
  generalize (bif header_Check_0 h_0 h_1 h_2 h_3 h_4 != haymowref12_Check_0 h_0 h_1 h_2 h_3 h_4 then true else header_Pack_1 h_0 h_1 h_2 h_3 h_4 != haymowref12_Check_0 h_0 h_1 h_2 h_3 h_4) = b0_
  generalize (haymowref12_Check_0 h_0 h_1 h_2 h_3 h_4 != 0) = b1_
  cases b0_
  ·
    cases b1_
    ·
      first | rfl | (intro h_; cases h_; done) | (intro _; rfl) | (intro h_; simp only [cond_true, cond_false] at h_ ⊢; rw [h_])
    ·
      first | rfl | (intro h_; cases h_; done) | (intro _; rfl) | (intro h_; simp only [cond_true, cond_false] at h_ ⊢; rw [h_])
  ·
    first | rfl | (intro h_; cases h_; done) | (intro _; rfl) | (intro h_; simp only [cond_true, cond_false] at h_ ⊢; rw [h_])
def e_haymowlaw12_HeaderPacks : Spec := fun _ args => match args with
  | [.agg [.val (.int .i64 h_0), .val (.int .i64 h_1), .val (.int .i64 h_2), .val (.int .i64 h_3), .val (.bool h_4)]] => some (s_haymowlaw12_HeaderPacks h_0 h_1 h_2 h_3 h_4, none, [c_haymowlaw12_HeaderPacks h_0 h_1 h_2 h_3 h_4])
  | _ => none
theorem ok_haymowlaw12_HeaderPacks : SpecOk Try.prog 4 e_haymowlaw12_HeaderPacks := fun m args v mo bs h hb => by
  unfold e_haymowlaw12_HeaderPacks at h
  split at h
  · cases h
    exact pure_fn (c := bodyOf Try.f4) hE_haymowlaw12_HeaderReads mixed (fun xs w => Try.call4 xs w) Try.func4 rfl (t_haymowlaw12_HeaderPacks _ _ _ _ _ (by simpa using hb)) rfl rfl
  · cases h
def L_haymowlaw12_HeaderPacks : List (FuncId × Spec) := (4, e_haymowlaw12_HeaderPacks) :: L_haymowlaw12_HeaderReads
theorem hE_haymowlaw12_HeaderPacks : ESound Try.prog (envOf L_haymowlaw12_HeaderPacks) := env_cons ok_haymowlaw12_HeaderPacks hE_haymowlaw12_HeaderReads
end Go.Proofs.Ytnkpegdmbocgaaa
