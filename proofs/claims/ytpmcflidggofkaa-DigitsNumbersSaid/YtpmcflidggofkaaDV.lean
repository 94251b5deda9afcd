/-
  What functions hand back, reckoned from their text.
-/
import Derived.Test.YtpmcflidggofkaaProg
import Derived.Test.YtpmcflidggofkaaDU
namespace Go.Proofs.Ytpmcflidggofkaa
open Go Go.RowKit
def s_haymowlaw03_awake : AV := AV.val (Value.bool true)
theorem t_haymowlaw03_awake : F_ Try.prog L_dn Try.f7 [] [] 99 [] noMem = some (.ret (s_haymowlaw03_awake) { bl := [], nx := 99 } true) := by kernel_rfl
def e_haymowlaw03_awake : Spec := fun _ args => match args with
  | [] => some (s_haymowlaw03_awake , none, [])
  | _ => none
theorem ok_haymowlaw03_awake : SpecOk Try.prog 7 e_haymowlaw03_awake := fun m args v mo bs h hb => by
  unfold e_haymowlaw03_awake at h
  split at h
  · cases h
    exact pure_fn (c := bodyOf Try.f7) hE_dn mixed (fun xs w => Try.call7 xs w) Try.func7 rfl (t_haymowlaw03_awake) rfl rfl
  · cases h
def L_haymowlaw03_awake : List (FuncId × Spec) := (7, e_haymowlaw03_awake) :: L_dn
theorem hE_haymowlaw03_awake : ESound Try.prog (envOf L_haymowlaw03_awake) := env_cons ok_haymowlaw03_awake hE_dn
def haymowlaw03_DigitsNumbers_0 (n_ : Int) (s_ : ByteArray) : Bool := bif decide (200 < Int.ofNat s_.size) then true else bif bif bif bif (decText n_).toList == (haymowref03_Text_0 n_).toList then rd0 (decText n_) == n_ else false then rd1 (decText n_) == 0 else false then rd0 s_ == rf0 s_ else false then rd1 s_ == rf1 s_ else false
def s_haymowlaw03_DigitsNumbers (n_ : Int) (s_ : ByteArray) : AV := AV.val (Value.bool (haymowlaw03_DigitsNumbers_0 n_ s_))
def c_haymowlaw03_DigitsNumbers (n_ : Int) (s_ : ByteArray) : Bool := bif decide (200 < Int.ofNat s_.size) then true else bif decide (-9223372036854775808 ≤ n_) then bif decide (n_ ≤ 9223372036854775807) then bif (decText n_).size.ble 9223372036854775807 then bif s_.size.ble 9223372036854775807 then bif s_.size.ble 9223372036854775807 then bif c_haymowref03_Text n_ then true else false else false else false else false else false else false
theorem t_haymowlaw03_DigitsNumbers (n_ : Int) (s_ : ByteArray) : c_haymowlaw03_DigitsNumbers n_ s_ = true → F_ Try.prog L_haymowlaw03_awake Try.f3 [] [] 99 [AV.val (Value.int IntKind.i64 n_), AV.val (Value.string s_)] noMem = some (.ret (s_haymowlaw03_DigitsNumbers n_ s_) { bl := [], nx := 99 } true) := by
  have h : F_ Try.prog L_haymowlaw03_awake Try.f3 [] [] 99 [AV.val (Value.int IntKind.i64 n_), AV.val (Value.string s_)] noMem = bif decide (200 < Int.ofNat s_.size) then some (Fin_.ret (AV.val (Value.bool true)) { bl := [], nx := 99 } true) else some (Fin_.ret (AV.val (Value.bool (bif bif bif bif (decText n_).toList == (haymowref03_Text_0 n_).toList then rd0 (decText n_) == n_ else false then rd1 (decText n_) == 0 else false then rd0 s_ == rf0 s_ else false then rd1 s_ == rf1 s_ else false))) { bl := [], nx := 99 } (bif decide (-9223372036854775808 ≤ n_) then bif decide (n_ ≤ 9223372036854775807) then bif (decText n_).size.ble 9223372036854775807 then bif s_.size.ble 9223372036854775807 then bif s_.size.ble 9223372036854775807 then bif c_haymowref03_Text n_ then true else false else false else false else false else false else false)) := by kernel_rfl
  rw [h]
  clear h
  unfold s_haymowlaw03_DigitsNumbers haymowlaw03_DigitsNumbers_0 c_haymowlaw03_DigitsNumbers
  generalize (decide (-9223372036854775808 ≤ n_)) = b0_
  generalize (decide (200 < Int.ofNat s_.size)) = b1_
  generalize ((decText n_).toList == (haymowref03_Text_0 n_).toList) = b2_
  generalize (decide (n_ ≤ 9223372036854775807)) = b3_
  generalize (rd1 s_ == rf1 s_) = b4_
  generalize (rd0 s_ == rf0 s_) = b5_
  generalize (rd1 (decText n_) == 0) = b6_
  generalize (rd0 (decText n_) == n_) = b7_
  generalize ((decText n_).size.ble 9223372036854775807) = b8_
  generalize (s_.size.ble 9223372036854775807) = b9_
  generalize (c_haymowref03_Text n_) = b10_
  cases b0_ <;> cases b1_ <;> cases b2_ <;> cases b3_ <;> cases b4_ <;> cases b5_ <;> cases b6_ <;> cases b7_ <;> cases b8_ <;> cases b9_ <;> cases b10_ <;> (first | rfl | (intro h_; cases h_; done) | (intro _; rfl))
def e_haymowlaw03_DigitsNumbers : Spec := fun _ args => match args with
  | [.val (.int .i64 n_), .val (.string s_)] => some (s_haymowlaw03_DigitsNumbers n_ s_, none, [c_haymowlaw03_DigitsNumbers n_ s_])
  | _ => none
theorem ok_haymowlaw03_DigitsNumbers : SpecOk Try.prog 3 e_haymowlaw03_DigitsNumbers := fun m args v mo bs h hb => by
  unfold e_haymowlaw03_DigitsNumbers at h
  split at h
  · cases h
    exact pure_fn (c := bodyOf Try.f3) hE_haymowlaw03_awake mixed (fun xs w => Try.call3 xs w) Try.func3 rfl (t_haymowlaw03_DigitsNumbers _ _ (by simpa using hb)) rfl rfl
  · cases h
def L_haymowlaw03_DigitsNumbers : List (FuncId × Spec) := (3, e_haymowlaw03_DigitsNumbers) :: L_haymowlaw03_awake
theorem hE_haymowlaw03_DigitsNumbers : ESound Try.prog (envOf L_haymowlaw03_DigitsNumbers) := env_cons ok_haymowlaw03_DigitsNumbers hE_haymowlaw03_awake
end Go.Proofs.Ytpmcflidggofkaa
