/-
  What functions hand back, reckoned from their text.
-/
import Derived.Test.YtpmcflidggofkaaProg
import Derived.Test.YtpmcflidggofkaaDm
namespace Go.Proofs.Ytpmcflidggofkaa
open Go Go.RowKit
def haymowref03_Text_0 (n_ : Int) : ByteArray := bif decide (n_ < 0) then catB { data := { toList := [45] } } (wholeT (IntKind.u64.wrap (0 - IntKind.u64.wrap n_))) else wholeT (IntKind.u64.wrap n_)
def s_haymowref03_Text (n_ : Int) : AV := AV.val (Value.string (haymowref03_Text_0 n_))
def c_haymowref03_Text (n_ : Int) : Bool := bif decide (n_ < 0) then bif decide (0 ≤ IntKind.u64.wrap (0 - IntKind.u64.wrap n_)) then bif decide (IntKind.u64.wrap (0 - IntKind.u64.wrap n_) ≤ 18446744073709551615) then bif (1 + lenB (wholeT (IntKind.u64.wrap (0 - IntKind.u64.wrap n_)))).ble 9223372036854775807 then true else false else false else false else bif decide (0 ≤ IntKind.u64.wrap n_) then bif decide (IntKind.u64.wrap n_ ≤ 18446744073709551615) then true else false else false
theorem t_haymowref03_Text (n_ : Int) : c_haymowref03_Text n_ = true → F_ Try.prog L_dec Try.f11 [] [] 99 [AV.val (Value.int IntKind.i64 n_)] noMem = some (.ret (s_haymowref03_Text n_) { bl := [], nx := 99 } true) := by
  have h : F_ Try.prog L_dec Try.f11 [] [] 99 [AV.val (Value.int IntKind.i64 n_)] noMem = bif decide (n_ < 0) then some (Fin_.ret (AV.val (Value.string (catB { data := { toList := [45] } } (wholeT (IntKind.u64.wrap (0 - IntKind.u64.wrap n_)))))) { bl := [], nx := 99 } (bif decide (0 ≤ IntKind.u64.wrap (0 - IntKind.u64.wrap n_)) then bif decide (IntKind.u64.wrap (0 - IntKind.u64.wrap n_) ≤ 18446744073709551615) then bif (1 + lenB (wholeT (IntKind.u64.wrap (0 - IntKind.u64.wrap n_)))).ble 9223372036854775807 then true else false else false else false)) else some (Fin_.ret (AV.val (Value.string (wholeT (IntKind.u64.wrap n_)))) { bl := [], nx := 99 } (bif decide (0 ≤ IntKind.u64.wrap n_) then bif decide (IntKind.u64.wrap n_ ≤ 18446744073709551615) then true else false else false)) := by kernel_rfl
  rw [h]
  clear h
  unfold s_haymowref03_Text haymowref03_Text_0 c_haymowref03_Text
  generalize ((1 + lenB (wholeT (IntKind.u64.wrap (0 - IntKind.u64.wrap n_)))).ble 9223372036854775807) = b0_
  generalize (decide (IntKind.u64.wrap (0 - IntKind.u64.wrap n_) ≤ 18446744073709551615)) = b1_
  generalize (decide (0 ≤ IntKind.u64.wrap (0 - IntKind.u64.wrap n_))) = b2_
  generalize (decide (0 ≤ IntKind.u64.wrap n_)) = b3_
  generalize (decide (IntKind.u64.wrap n_ ≤ 18446744073709551615)) = b4_
  generalize (decide (n_ < 0)) = b5_
  cases b0_ <;> cases b1_ <;> cases b2_ <;> cases b3_ <;> cases b4_ <;> cases b5_ <;> (first | rfl | (intro h_; cases h_; done) | (intro _; rfl))
def e_haymowref03_Text : Spec := fun _ args => match args with
  | [.val (.int .i64 n_)] => some (s_haymowref03_Text n_, none, [c_haymowref03_Text n_])
  | _ => none
theorem ok_haymowref03_Text : SpecOk Try.prog 11 e_haymowref03_Text := fun m args v mo bs h hb => by
  unfold e_haymowref03_Text at h
  split at h
  · cases h
    exact pure_fn (c := bodyOf Try.f11) hE_dec mixed (fun xs w => Try.call11 xs w) Try.func11 rfl (t_haymowref03_Text _ (by simpa using hb)) rfl rfl
  · cases h
def L_haymowref03_Text : List (FuncId × Spec) := (11, e_haymowref03_Text) :: L_dec
theorem hE_haymowref03_Text : ESound Try.prog (envOf L_haymowref03_Text) := env_cons ok_haymowref03_Text hE_dec
def internal_stringslite_HasPrefix_0 (s_ : ByteArray) (prefix_ : ByteArray) : Bool := bif decide (Int.ofNat prefix_.size ≤ Int.ofNat s_.size) then (s_.extract 0 prefix_.size).toList == prefix_.toList else false
def s_internal_stringslite_HasPrefix (s_ : ByteArray) (prefix_ : ByteArray) : AV := AV.val (Value.bool (internal_stringslite_HasPrefix_0 s_ prefix_))
theorem t_internal_stringslite_HasPrefix (s_ : ByteArray) (prefix_ : ByteArray) : F_ Try.prog L_haymowref03_Text Try.f38 [] [] 99 [AV.val (Value.string s_), AV.val (Value.string prefix_)] noMem = some (.ret (s_internal_stringslite_HasPrefix s_ prefix_) { bl := [], nx := 99 } true) := by
  have h : F_ Try.prog L_haymowref03_Text Try.f38 [] [] 99 [AV.val (Value.string s_), AV.val (Value.string prefix_)] noMem = some (Fin_.ret (AV.val (Value.bool (bif decide (Int.ofNat prefix_.size ≤ Int.ofNat s_.size) then (s_.extract 0 prefix_.size).toList == prefix_.toList else false))) { bl := [], nx := 99 } (bif !decide (Int.ofNat prefix_.size ≤ Int.ofNat s_.size) || true then bif !decide (Int.ofNat prefix_.size ≤ Int.ofNat s_.size) || true then bif !decide (Int.ofNat prefix_.size ≤ Int.ofNat s_.size) || decide (Int.ofNat prefix_.size ≤ Int.ofNat s_.size) then true else false else false else false)) := by kernel_rfl
  rw [h]
  clear h
  unfold s_internal_stringslite_HasPrefix internal_stringslite_HasPrefix_0
  generalize ((s_.extract 0 prefix_.size).toList == prefix_.toList) = b0_
  generalize (decide (Int.ofNat prefix_.size ≤ Int.ofNat s_.size)) = b1_
  cases b0_ <;> cases b1_ <;> (rfl)
def e_internal_stringslite_HasPrefix : Spec := fun _ args => match args with
  | [.val (.string s_), .val (.string prefix_)] => some (s_internal_stringslite_HasPrefix s_ prefix_, none, [])
  | _ => none
theorem ok_internal_stringslite_HasPrefix : SpecOk Try.prog 38 e_internal_stringslite_HasPrefix := fun m args v mo bs h hb => by
  unfold e_internal_stringslite_HasPrefix at h
  split at h
  · cases h
    exact pure_fn (c := bodyOf Try.f38) hE_haymowref03_Text mixed (fun xs w => Try.call38 xs w) Try.func38 rfl (t_internal_stringslite_HasPrefix _ _) rfl rfl
  · cases h
def L_internal_stringslite_HasPrefix : List (FuncId × Spec) := (38, e_internal_stringslite_HasPrefix) :: L_haymowref03_Text
theorem hE_internal_stringslite_HasPrefix : ESound Try.prog (envOf L_internal_stringslite_HasPrefix) := env_cons ok_internal_stringslite_HasPrefix hE_haymowref03_Text
def internal_stringslite_TrimPrefix_0 (s_ : ByteArray) (prefix_ : ByteArray) : ByteArray := bif internal_stringslite_HasPrefix_0 s_ prefix_ then s_.extract prefix_.size s_.size else s_
def s_internal_stringslite_TrimPrefix (s_ : ByteArray) (prefix_ : ByteArray) : AV := AV.val (Value.string (internal_stringslite_TrimPrefix_0 s_ prefix_))
def c_internal_stringslite_TrimPrefix (s_ : ByteArray) (prefix_ : ByteArray) : Bool := bif internal_stringslite_HasPrefix_0 s_ prefix_ then bif decide (Int.ofNat prefix_.size ≤ Int.ofNat s_.size) then bif decide (Int.ofNat s_.size ≤ Int.ofNat s_.size) then true else false else false else true
theorem t_internal_stringslite_TrimPrefix (s_ : ByteArray) (prefix_ : ByteArray) : c_internal_stringslite_TrimPrefix s_ prefix_ = true → F_ Try.prog L_internal_stringslite_HasPrefix Try.f36 [] [] 99 [AV.val (Value.string s_), AV.val (Value.string prefix_)] noMem = some (.ret (s_internal_stringslite_TrimPrefix s_ prefix_) { bl := [], nx := 99 } true) := by
  have h : F_ Try.prog L_internal_stringslite_HasPrefix Try.f36 [] [] 99 [AV.val (Value.string s_), AV.val (Value.string prefix_)] noMem = bif internal_stringslite_HasPrefix_0 s_ prefix_ then some (Fin_.ret (AV.val (Value.string (s_.extract prefix_.size s_.size))) { bl := [], nx := 99 } (bif decide (Int.ofNat prefix_.size ≤ Int.ofNat s_.size) then bif decide (Int.ofNat s_.size ≤ Int.ofNat s_.size) then true else false else false)) else some (Fin_.ret (AV.val (Value.string s_)) { bl := [], nx := 99 } true) := by kernel_rfl
  rw [h]
  clear h
  unfold s_internal_stringslite_TrimPrefix internal_stringslite_TrimPrefix_0 c_internal_stringslite_TrimPrefix
  generalize (decide (Int.ofNat s_.size ≤ Int.ofNat s_.size)) = b0_
  generalize (decide (Int.ofNat prefix_.size ≤ Int.ofNat s_.size)) = b1_
  generalize (internal_stringslite_HasPrefix_0 s_ prefix_) = b2_
  cases b0_ <;> cases b1_ <;> cases b2_ <;> (first | rfl | (intro h_; cases h_; done) | (intro _; rfl))
def e_internal_stringslite_TrimPrefix : Spec := fun _ args => match args with
  | [.val (.string s_), .val (.string prefix_)] => some (s_internal_stringslite_TrimPrefix s_ prefix_, none, [c_internal_stringslite_TrimPrefix s_ prefix_])
  | _ => none
theorem ok_internal_stringslite_TrimPrefix : SpecOk Try.prog 36 e_internal_stringslite_TrimPrefix := fun m args v mo bs h hb => by
  unfold e_internal_stringslite_TrimPrefix at h
  split at h
  · cases h
    exact pure_fn (c := bodyOf Try.f36) hE_internal_stringslite_HasPrefix mixed (fun xs w => Try.call36 xs w) Try.func36 rfl (t_internal_stringslite_TrimPrefix _ _ (by simpa using hb)) rfl rfl
  · cases h
def L_internal_stringslite_TrimPrefix : List (FuncId × Spec) := (36, e_internal_stringslite_TrimPrefix) :: L_internal_stringslite_HasPrefix
theorem hE_internal_stringslite_TrimPrefix : ESound Try.prog (envOf L_internal_stringslite_TrimPrefix) := env_cons ok_internal_stringslite_TrimPrefix hE_internal_stringslite_HasPrefix
def strings_TrimPrefix_0 (s_ : ByteArray) (prefix_ : ByteArray) : ByteArray := internal_stringslite_TrimPrefix_0 s_ prefix_
def s_strings_TrimPrefix (s_ : ByteArray) (prefix_ : ByteArray) : AV := AV.val (Value.string (strings_TrimPrefix_0 s_ prefix_))
def c_strings_TrimPrefix (s_ : ByteArray) (prefix_ : ByteArray) : Bool := bif c_internal_stringslite_TrimPrefix s_ prefix_ then true else false
theorem t_strings_TrimPrefix (s_ : ByteArray) (prefix_ : ByteArray) : c_strings_TrimPrefix s_ prefix_ = true → F_ Try.prog L_internal_stringslite_TrimPrefix Try.f32 [] [] 99 [AV.val (Value.string s_), AV.val (Value.string prefix_)] noMem = some (.ret (s_strings_TrimPrefix s_ prefix_) { bl := [], nx := 99 } true) := by
  have h : F_ Try.prog L_internal_stringslite_TrimPrefix Try.f32 [] [] 99 [AV.val (Value.string s_), AV.val (Value.string prefix_)] noMem = some (Fin_.ret (AV.val (Value.string (internal_stringslite_TrimPrefix_0 s_ prefix_))) { bl := [], nx := 99 } (bif c_internal_stringslite_TrimPrefix s_ prefix_ then true else false)) := by kernel_rfl
  rw [h]
  clear h
  unfold s_strings_TrimPrefix strings_TrimPrefix_0 c_strings_TrimPrefix
  generalize (c_internal_stringslite_TrimPrefix s_ prefix_) = b0_
  cases b0_ <;> (first | rfl | (intro h_; cases h_; done) | (intro _; rfl))
def e_strings_TrimPrefix : Spec := fun _ args => match args with
  | [.val (.string s_), .val (.string prefix_)] => some (s_strings_TrimPrefix s_ prefix_, none, [c_strings_TrimPrefix s_ prefix_])
  | _ => none
theorem ok_strings_TrimPrefix : SpecOk Try.prog 32 e_strings_TrimPrefix := fun m args v mo bs h hb => by
  unfold e_strings_TrimPrefix at h
  split at h
  · cases h
    exact pure_fn (c := bodyOf Try.f32) hE_internal_stringslite_TrimPrefix mixed (fun xs w => Try.call32 xs w) Try.func32 rfl (t_strings_TrimPrefix _ _ (by simpa using hb)) rfl rfl
  · cases h
def L_strings_TrimPrefix : List (FuncId × Spec) := (32, e_strings_TrimPrefix) :: L_internal_stringslite_TrimPrefix
theorem hE_strings_TrimPrefix : ESound Try.prog (envOf L_strings_TrimPrefix) := env_cons ok_strings_TrimPrefix hE_internal_stringslite_TrimPrefix
end Go.Proofs.Ytpmcflidggofkaa
