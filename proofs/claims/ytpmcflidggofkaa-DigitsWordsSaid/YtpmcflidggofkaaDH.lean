/-
  What functions hand back, reckoned from their text.
-/
import Derived.Test.YtpmcflidggofkaaProg
import Derived.Test.YtpmcflidggofkaaIx
namespace Go.Proofs.Ytpmcflidggofkaa
open Go Go.RowKit
def strings_IndexByte_0 (s_ : ByteArray) (c_ : Int) : Int := ixB s_ c_
def s_strings_IndexByte (s_ : ByteArray) (c_ : Int) : AV := AV.val (Value.int IntKind.i64 (strings_IndexByte_0 s_ c_))
theorem t_strings_IndexByte (s_ : ByteArray) (c_ : Int) : F_ Try.prog L_ix Try.f34 [] [] 99 [AV.val (Value.string s_), AV.val (Value.int IntKind.u8 c_)] noMem = some (.ret (s_strings_IndexByte s_ c_) { bl := [], nx := 99 } true) := by kernel_rfl
def e_strings_IndexByte : Spec := fun _ args => match args with
  | [.val (.string s_), .val (.int .u8 c_)] => some (s_strings_IndexByte s_ c_, none, [])
  | _ => none
theorem ok_strings_IndexByte : SpecOk Try.prog 34 e_strings_IndexByte := fun m args v mo bs h hb => by
  unfold e_strings_IndexByte at h
  split at h
  · cases h
    exact pure_fn (c := bodyOf Try.f34) hE_ix mixed (fun xs w => Try.call34 xs w) Try.func34 rfl (t_strings_IndexByte _ _) rfl rfl
  · cases h
def L_strings_IndexByte : List (FuncId × Spec) := (34, e_strings_IndexByte) :: L_ix
theorem hE_strings_IndexByte : ESound Try.prog (envOf L_strings_IndexByte) := env_cons ok_strings_IndexByte hE_ix
def digits_Hex_0 (w_ : Int) : ByteArray := strOf [byteAt { data := { toList := [48, 49, 50, 51, 52, 53, 54, 55, 56, 57, 97, 98, 99, 100, 101, 102] } } (bits BinOp.and IntKind.u64 (w_.fdiv 1152921504606846976) 15).toNat, byteAt { data := { toList := [48, 49, 50, 51, 52, 53, 54, 55, 56, 57, 97, 98, 99, 100, 101, 102] } } (bits BinOp.and IntKind.u64 (w_.fdiv 72057594037927936) 15).toNat, byteAt { data := { toList := [48, 49, 50, 51, 52, 53, 54, 55, 56, 57, 97, 98, 99, 100, 101, 102] } } (bits BinOp.and IntKind.u64 (w_.fdiv 4503599627370496) 15).toNat, byteAt { data := { toList := [48, 49, 50, 51, 52, 53, 54, 55, 56, 57, 97, 98, 99, 100, 101, 102] } } (bits BinOp.and IntKind.u64 (w_.fdiv 281474976710656) 15).toNat, byteAt { data := { toList := [48, 49, 50, 51, 52, 53, 54, 55, 56, 57, 97, 98, 99, 100, 101, 102] } } (bits BinOp.and IntKind.u64 (w_.fdiv 17592186044416) 15).toNat, byteAt { data := { toList := [48, 49, 50, 51, 52, 53, 54, 55, 56, 57, 97, 98, 99, 100, 101, 102] } } (bits BinOp.and IntKind.u64 (w_.fdiv 1099511627776) 15).toNat, byteAt { data := { toList := [48, 49, 50, 51, 52, 53, 54, 55, 56, 57, 97, 98, 99, 100, 101, 102] } } (bits BinOp.and IntKind.u64 (w_.fdiv 68719476736) 15).toNat, byteAt { data := { toList := [48, 49, 50, 51, 52, 53, 54, 55, 56, 57, 97, 98, 99, 100, 101, 102] } } (bits BinOp.and IntKind.u64 (w_.fdiv 4294967296) 15).toNat, byteAt { data := { toList := [48, 49, 50, 51, 52, 53, 54, 55, 56, 57, 97, 98, 99, 100, 101, 102] } } (bits BinOp.and IntKind.u64 (w_.fdiv 268435456) 15).toNat, byteAt { data := { toList := [48, 49, 50, 51, 52, 53, 54, 55, 56, 57, 97, 98, 99, 100, 101, 102] } } (bits BinOp.and IntKind.u64 (w_.fdiv 16777216) 15).toNat, byteAt { data := { toList := [48, 49, 50, 51, 52, 53, 54, 55, 56, 57, 97, 98, 99, 100, 101, 102] } } (bits BinOp.and IntKind.u64 (w_.fdiv 1048576) 15).toNat, byteAt { data := { toList := [48, 49, 50, 51, 52, 53, 54, 55, 56, 57, 97, 98, 99, 100, 101, 102] } } (bits BinOp.and IntKind.u64 (w_.fdiv 65536) 15).toNat, byteAt { data := { toList := [48, 49, 50, 51, 52, 53, 54, 55, 56, 57, 97, 98, 99, 100, 101, 102] } } (bits BinOp.and IntKind.u64 (w_.fdiv 4096) 15).toNat, byteAt { data := { toList := [48, 49, 50, 51, 52, 53, 54, 55, 56, 57, 97, 98, 99, 100, 101, 102] } } (bits BinOp.and IntKind.u64 (w_.fdiv 256) 15).toNat, byteAt { data := { toList := [48, 49, 50, 51, 52, 53, 54, 55, 56, 57, 97, 98, 99, 100, 101, 102] } } (bits BinOp.and IntKind.u64 (w_.fdiv 16) 15).toNat, byteAt { data := { toList := [48, 49, 50, 51, 52, 53, 54, 55, 56, 57, 97, 98, 99, 100, 101, 102] } } (bits BinOp.and IntKind.u64 (w_.fdiv 1) 15).toNat]
def s_digits_Hex (w_ : Int) : AV := AV.val (Value.string (digits_Hex_0 w_))
def c_digits_Hex (w_ : Int) : Bool := bif decide ((bits BinOp.and IntKind.u64 (w_.fdiv 1152921504606846976) 15).toNat < 16) then bif decide ((bits BinOp.and IntKind.u64 (w_.fdiv 72057594037927936) 15).toNat < 16) then bif decide ((bits BinOp.and IntKind.u64 (w_.fdiv 4503599627370496) 15).toNat < 16) then bif decide ((bits BinOp.and IntKind.u64 (w_.fdiv 281474976710656) 15).toNat < 16) then bif decide ((bits BinOp.and IntKind.u64 (w_.fdiv 17592186044416) 15).toNat < 16) then bif decide ((bits BinOp.and IntKind.u64 (w_.fdiv 1099511627776) 15).toNat < 16) then bif decide ((bits BinOp.and IntKind.u64 (w_.fdiv 68719476736) 15).toNat < 16) then bif decide ((bits BinOp.and IntKind.u64 (w_.fdiv 4294967296) 15).toNat < 16) then bif decide ((bits BinOp.and IntKind.u64 (w_.fdiv 268435456) 15).toNat < 16) then bif decide ((bits BinOp.and IntKind.u64 (w_.fdiv 16777216) 15).toNat < 16) then bif decide ((bits BinOp.and IntKind.u64 (w_.fdiv 1048576) 15).toNat < 16) then bif decide ((bits BinOp.and IntKind.u64 (w_.fdiv 65536) 15).toNat < 16) then bif decide ((bits BinOp.and IntKind.u64 (w_.fdiv 4096) 15).toNat < 16) then bif decide ((bits BinOp.and IntKind.u64 (w_.fdiv 256) 15).toNat < 16) then bif decide ((bits BinOp.and IntKind.u64 (w_.fdiv 16) 15).toNat < 16) then bif decide ((bits BinOp.and IntKind.u64 (w_.fdiv 1) 15).toNat < 16) then true else false else false else false else false else false else false else false else false else false else false else false else false else false else false else false else false
theorem t_digits_Hex (w_ : Int) : c_digits_Hex w_ = true → F_ Try.prog L_strings_IndexByte Try.f12 [] [] 99 [AV.val (Value.int IntKind.u64 w_)] noMem = some (.ret (s_digits_Hex w_) { bl := [], nx := 99 } true) := by
  intro h_
  have h : F_ Try.prog L_strings_IndexByte Try.f12 [] [] 99 [AV.val (Value.int IntKind.u64 w_)] noMem = some (.ret (s_digits_Hex w_) { bl := [], nx := 99 } (c_digits_Hex w_)) := by kernel_rfl
  rw [h, h_]
def e_digits_Hex : Spec := fun _ args => match args with
  | [.val (.int .u64 w_)] => some (s_digits_Hex w_, none, [c_digits_Hex w_])
  | _ => none
theorem ok_digits_Hex : SpecOk Try.prog 12 e_digits_Hex := fun m args v mo bs h hb => by
  unfold e_digits_Hex at h
  split at h
  · cases h
    exact pure_fn (c := bodyOf Try.f12) hE_strings_IndexByte mixed (fun xs w => Try.call12 xs w) Try.func12 rfl (t_digits_Hex _ (by simpa using hb)) rfl rfl
  · cases h
def L_digits_Hex : List (FuncId × Spec) := (12, e_digits_Hex) :: L_strings_IndexByte
theorem hE_digits_Hex : ESound Try.prog (envOf L_digits_Hex) := env_cons ok_digits_Hex hE_strings_IndexByte
end Go.Proofs.Ytpmcflidggofkaa
