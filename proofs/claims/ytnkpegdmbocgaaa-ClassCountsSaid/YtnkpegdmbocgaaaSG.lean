/-
  What functions hand back, reckoned from their text.
-/
import Derived.Test.YtnkpegdmbocgaaaProg
import Derived.Test.YtnkpegdmbocgaaaSF
namespace Go.Proofs.Ytnkpegdmbocgaaa
open Go Go.RowKit
def haymowref03_Text_0 (n_ : Int) : ByteArray := bif decide (n_ < 0) then catB { data := { toList := [45] } } (wholeT (IntKind.u64.wrap (0 - IntKind.u64.wrap n_))) else wholeT (IntKind.u64.wrap n_)
def s_haymowref03_Text (n_ : Int) : AV := AV.val (Value.string (haymowref03_Text_0 n_))
def c_haymowref03_Text (n_ : Int) : Bool := bif decide (n_ < 0) then bif decide (0 ≤ IntKind.u64.wrap (0 - IntKind.u64.wrap n_)) then bif decide (IntKind.u64.wrap (0 - IntKind.u64.wrap n_) ≤ 18446744073709551615) then bif (1 + lenB (wholeT (IntKind.u64.wrap (0 - IntKind.u64.wrap n_)))).ble 9223372036854775807 then true else false else false else false else bif decide (0 ≤ IntKind.u64.wrap n_) then bif decide (IntKind.u64.wrap n_ ≤ 18446744073709551615) then true else false else false
theorem t_haymowref03_Text (n_ : Int) : c_haymowref03_Text n_ = true → F_ Try.prog L_cd Try.f57 [] [] 99 [AV.val (Value.int IntKind.i64 n_)] noMem = some (.ret (s_haymowref03_Text n_) { bl := [], nx := 99 } true) := by
  have h : F_ Try.prog L_cd Try.f57 [] [] 99 [AV.val (Value.int IntKind.i64 n_)] noMem = bif decide (n_ < 0) then some (Fin_.ret (AV.val (Value.string (catB { data := { toList := [45] } } (wholeT (IntKind.u64.wrap (0 - IntKind.u64.wrap n_)))))) { bl := [], nx := 99 } (bif decide (0 ≤ IntKind.u64.wrap (0 - IntKind.u64.wrap n_)) then bif decide (IntKind.u64.wrap (0 - IntKind.u64.wrap n_) ≤ 18446744073709551615) then bif (1 + lenB (wholeT (IntKind.u64.wrap (0 - IntKind.u64.wrap n_)))).ble 9223372036854775807 then true else false else false else false)) else some (Fin_.ret (AV.val (Value.string (wholeT (IntKind.u64.wrap n_)))) { bl := [], nx := 99 } (bif decide (0 ≤ IntKind.u64.wrap n_) then bif decide (IntKind.u64.wrap n_ ≤ 18446744073709551615) then true else false else false)) := by kernel_rfl
  rw [h]
  clear h
  unfold s_haymowref03_Text haymowref03_Text_0 c_haymowref03_Text
  generalize ((1 + lenB (wholeT (IntKind.u64.wrap (0 - IntKind.u64.wrap n_)))).ble 9223372036854775807) = b0_
  generalize (decide (IntKind.u64.wrap (0 - IntKind.u64.wrap n_) ≤ 18446744073709551615)) = b1_
  generalize (decide (0 ≤ IntKind.u64.wrap (0 - IntKind.u64.wrap n_))) = b2_
  generalize (decide (0 ≤ IntKind.u64.wrap n_)) = b3_
  generalize (decide (IntKind.u64.wrap n_ ≤ 18446744073709551615)) = b4_
  generalize (decide (n_ < 0)) = b5_
  cases b0_ <;> cases b1_ <;> cases b2_ <;> cases b3_ <;> cases b4_ <;> cases b5_ <;> (first | rfl | (intro h_; cases h_; done) | (intro _; rfl))
def e_haymowref03_Text : Spec := fun _ args => match args with
  | [.val (.int .i64 n_)] => some (s_haymowref03_Text n_, none, [c_haymowref03_Text n_])
  | _ => none
theorem ok_haymowref03_Text : SpecOk Try.prog 57 e_haymowref03_Text := fun m args v mo bs h hb => by
  unfold e_haymowref03_Text at h
  split at h
  · cases h
    exact pure_fn (c := bodyOf Try.f57) hE_cd mixed (fun xs w => Try.call57 xs w) Try.func57 rfl (t_haymowref03_Text _ (by simpa using hb)) rfl rfl
  · cases h
def L_haymowref03_Text : List (FuncId × Spec) := (57, e_haymowref03_Text) :: L_cd
theorem hE_haymowref03_Text : ESound Try.prog (envOf L_haymowref03_Text) := env_cons ok_haymowref03_Text hE_cd
def haymowref04_Bounds_0 (class_ : Int) : Int := bif bif decide (class_ < 0) then true else decide (13 < class_) then 0 else bif class_ == 0 then 1 else IntKind.i64.wrap (topOf (IntKind.i64.wrap (class_ - 1)) + 1)
def haymowref04_Bounds_1 (class_ : Int) : Int := bif bif decide (class_ < 0) then true else decide (13 < class_) then 0 else bif class_ == 0 then 1 else topOf class_
def haymowref04_Bounds_2 (class_ : Int) : Bool := bif bif decide (class_ < 0) then true else decide (13 < class_) then false else true
def s_haymowref04_Bounds (class_ : Int) : AV := AV.tup [AV.val (Value.int IntKind.i64 (haymowref04_Bounds_0 class_)), AV.val (Value.int IntKind.i64 (haymowref04_Bounds_1 class_)), AV.val (Value.bool (haymowref04_Bounds_2 class_))]
def c_haymowref04_Bounds (class_ : Int) : Bool := bif bif decide (class_ < 0) then true else decide (13 < class_) then true else bif class_ == 0 then true else bif decide (0 ≤ IntKind.i64.wrap (class_ - 1)) then bif decide (IntKind.i64.wrap (class_ - 1) ≤ 13) then bif decide (0 ≤ class_) then bif decide (class_ ≤ 13) then true else false else false else false else false
theorem t_haymowref04_Bounds (class_ : Int) : c_haymowref04_Bounds class_ = true → F_ Try.prog L_haymowref03_Text Try.f27 [] [] 99 [AV.val (Value.int IntKind.i64 class_)] noMem = some (.ret (s_haymowref04_Bounds class_) { bl := [], nx := 99 } true) := by
  have h : F_ Try.prog L_haymowref03_Text Try.f27 [] [] 99 [AV.val (Value.int IntKind.i64 class_)] noMem = bif bif decide (class_ < 0) then true else decide (13 < class_) then some (Fin_.ret (AV.tup [AV.val (Value.int IntKind.i64 0), AV.val (Value.int IntKind.i64 0), AV.val (Value.bool false)]) { bl := [], nx := 99 } true) else bif class_ == 0 then some (Fin_.ret (AV.tup [AV.val (Value.int IntKind.i64 1), AV.val (Value.int IntKind.i64 1), AV.val (Value.bool true)]) { bl := [], nx := 99 } true) else some (Fin_.ret (AV.tup [AV.val (Value.int IntKind.i64 (IntKind.i64.wrap (topOf (IntKind.i64.wrap (class_ - 1)) + 1))), AV.val (Value.int IntKind.i64 (topOf class_)), AV.val (Value.bool true)]) { bl := [], nx := 99 } (bif decide (0 ≤ IntKind.i64.wrap (class_ - 1)) then bif decide (IntKind.i64.wrap (class_ - 1) ≤ 13) then bif decide (0 ≤ class_) then bif decide (class_ ≤ 13) then true else false else false else false else false)) := by kernel_rfl
  rw [h]
  clear h
  unfold s_haymowref04_Bounds haymowref04_Bounds_0 haymowref04_Bounds_1 haymowref04_Bounds_2 c_haymowref04_Bounds
  generalize (decide (IntKind.i64.wrap (class_ - 1) ≤ 13)) = b0_
  generalize (decide (0 ≤ IntKind.i64.wrap (class_ - 1))) = b1_
  generalize (decide (13 < class_)) = b2_
  generalize (decide (0 ≤ class_)) = b3_
  generalize (decide (class_ ≤ 13)) = b4_
  generalize (decide (class_ < 0)) = b5_
  generalize (class_ == 0) = b6_
  cases b0_ <;> cases b1_ <;> cases b2_ <;> cases b3_ <;> cases b4_ <;> cases b5_ <;> cases b6_ <;> (first | rfl | (intro h_; cases h_; done) | (intro _; rfl))
def e_haymowref04_Bounds : Spec := fun _ args => match args with
  | [.val (.int .i64 class_)] => some (s_haymowref04_Bounds class_, none, [c_haymowref04_Bounds class_])
  | _ => none
theorem ok_haymowref04_Bounds : SpecOk Try.prog 27 e_haymowref04_Bounds := fun m args v mo bs h hb => by
  unfold e_haymowref04_Bounds at h
  split at h
  · cases h
    exact pure_fn (c := bodyOf Try.f27) hE_haymowref03_Text mixed (fun xs w => Try.call27 xs w) Try.func27 rfl (t_haymowref04_Bounds _ (by simpa using hb)) rfl rfl
  · cases h
def L_haymowref04_Bounds : List (FuncId × Spec) := (27, e_haymowref04_Bounds) :: L_haymowref03_Text
theorem hE_haymowref04_Bounds : ESound Try.prog (envOf L_haymowref04_Bounds) := env_cons ok_haymowref04_Bounds hE_haymowref03_Text
def class_Name_0 (class_ : Int) : ByteArray := bif !class_Bounds_2 class_ then { data := { toList := [] } } else bif class_Bounds_0 class_ == class_Bounds_1 class_ then decText (class_Bounds_0 class_) else catB (catB (decText (class_Bounds_0 class_)) { data := { toList := [45] } }) (decText (class_Bounds_1 class_))
def s_class_Name (class_ : Int) : AV := AV.val (Value.string (class_Name_0 class_))
def c_class_Name (class_ : Int) : Bool := bif !class_Bounds_2 class_ then bif c_class_Bounds class_ then true else false else bif class_Bounds_0 class_ == class_Bounds_1 class_ then bif c_class_Bounds class_ then bif decide (-9223372036854775808 ≤ class_Bounds_0 class_) then bif decide (class_Bounds_0 class_ ≤ 9223372036854775807) then true else false else false else false else bif c_class_Bounds class_ then bif decide (-9223372036854775808 ≤ class_Bounds_0 class_) then bif decide (class_Bounds_0 class_ ≤ 9223372036854775807) then bif (lenB (decText (class_Bounds_0 class_)) + 1).ble 9223372036854775807 then bif decide (-9223372036854775808 ≤ class_Bounds_1 class_) then bif decide (class_Bounds_1 class_ ≤ 9223372036854775807) then bif (lenB (catB (decText (class_Bounds_0 class_)) { data := { toList := [45] } }) + lenB (decText (class_Bounds_1 class_))).ble 9223372036854775807 then true else false else false else false else false else false else false else false
theorem t_class_Name (class_ : Int) : c_class_Name class_ = true → F_ Try.prog L_haymowref04_Bounds Try.f30 [] [] 99 [AV.val (Value.int IntKind.i64 class_)] noMem = some (.ret (s_class_Name class_) { bl := [], nx := 99 } true) := by
  have h : F_ Try.prog L_haymowref04_Bounds Try.f30 [] [] 99 [AV.val (Value.int IntKind.i64 class_)] noMem = bif !class_Bounds_2 class_ then some (Fin_.ret (AV.val (Value.string { data := { toList := [] } })) { bl := [], nx := 99 } (bif c_class_Bounds class_ then true else false)) else bif class_Bounds_0 class_ == class_Bounds_1 class_ then some (Fin_.ret (AV.val (Value.string (decText (class_Bounds_0 class_)))) { bl := [], nx := 99 } (bif c_class_Bounds class_ then bif decide (-9223372036854775808 ≤ class_Bounds_0 class_) then bif decide (class_Bounds_0 class_ ≤ 9223372036854775807) then true else false else false else false)) else some (Fin_.ret (AV.val (Value.string (catB (catB (decText (class_Bounds_0 class_)) { data := { toList := [45] } }) (decText (class_Bounds_1 class_))))) { bl := [], nx := 99 } (bif c_class_Bounds class_ then bif decide (-9223372036854775808 ≤ class_Bounds_0 class_) then bif decide (class_Bounds_0 class_ ≤ 9223372036854775807) then bif (lenB (decText (class_Bounds_0 class_)) + 1).ble 9223372036854775807 then bif decide (-9223372036854775808 ≤ class_Bounds_1 class_) then bif decide (class_Bounds_1 class_ ≤ 9223372036854775807) then bif (lenB (catB (decText (class_Bounds_0 class_)) { data := { toList := [45] } }) + lenB (decText (class_Bounds_1 class_))).ble 9223372036854775807 then true else false else false else false else false else false else false else false)) := by kernel_rfl
  rw [h]
  clear h
  unfold s_class_Name class_Name_0 c_class_Name
  generalize ((lenB (catB (decText (class_Bounds_0 class_)) { data := { toList := [45] } }) + lenB (decText (class_Bounds_1 class_))).ble 9223372036854775807) = b0_
  generalize ((lenB (decText (class_Bounds_0 class_)) + 1).ble 9223372036854775807) = b1_
  generalize (decide (-9223372036854775808 ≤ class_Bounds_0 class_)) = b2_
  generalize (decide (-9223372036854775808 ≤ class_Bounds_1 class_)) = b3_
  generalize (decide (class_Bounds_0 class_ ≤ 9223372036854775807)) = b4_
  generalize (decide (class_Bounds_1 class_ ≤ 9223372036854775807)) = b5_
  generalize (class_Bounds_0 class_ == class_Bounds_1 class_) = b6_
  generalize (class_Bounds_2 class_) = b7_
  generalize (c_class_Bounds class_) = b8_
  cases b0_ <;> cases b1_ <;> cases b2_ <;> cases b3_ <;> cases b4_ <;> cases b5_ <;> cases b6_ <;> cases b7_ <;> cases b8_ <;> (first | rfl | (intro h_; cases h_; done) | (intro _; rfl))
def e_class_Name : Spec := fun _ args => match args with
  | [.val (.int .i64 class_)] => some (s_class_Name class_, none, [c_class_Name class_])
  | _ => none
theorem ok_class_Name : SpecOk Try.prog 30 e_class_Name := fun m args v mo bs h hb => by
  unfold e_class_Name at h
  split at h
  · cases h
    exact pure_fn (c := bodyOf Try.f30) hE_haymowref04_Bounds mixed (fun xs w => Try.call30 xs w) Try.func30 rfl (t_class_Name _ (by simpa using hb)) rfl rfl
  · cases h
def L_class_Name : List (FuncId × Spec) := (30, e_class_Name) :: L_haymowref04_Bounds
theorem hE_class_Name : ESound Try.prog (envOf L_class_Name) := env_cons ok_class_Name hE_haymowref04_Bounds
def haymowref04_Name_0 (class_ : Int) : ByteArray := bif !haymowref04_Bounds_2 class_ then { data := { toList := [] } } else bif haymowref04_Bounds_0 class_ == haymowref04_Bounds_1 class_ then haymowref03_Text_0 (haymowref04_Bounds_0 class_) else catB (catB (haymowref03_Text_0 (haymowref04_Bounds_0 class_)) { data := { toList := [45] } }) (haymowref03_Text_0 (haymowref04_Bounds_1 class_))
def s_haymowref04_Name (class_ : Int) : AV := AV.val (Value.string (haymowref04_Name_0 class_))
def c_haymowref04_Name (class_ : Int) : Bool := bif !haymowref04_Bounds_2 class_ then bif c_haymowref04_Bounds class_ then true else false else bif haymowref04_Bounds_0 class_ == haymowref04_Bounds_1 class_ then bif c_haymowref04_Bounds class_ then bif c_haymowref03_Text (haymowref04_Bounds_0 class_) then true else false else false else bif c_haymowref04_Bounds class_ then bif c_haymowref03_Text (haymowref04_Bounds_0 class_) then bif (lenB (haymowref03_Text_0 (haymowref04_Bounds_0 class_)) + 1).ble 9223372036854775807 then bif c_haymowref03_Text (haymowref04_Bounds_1 class_) then bif (lenB (catB (haymowref03_Text_0 (haymowref04_Bounds_0 class_)) { data := { toList := [45] } }) + lenB (haymowref03_Text_0 (haymowref04_Bounds_1 class_))).ble 9223372036854775807 then true else false else false else false else false else false
theorem t_haymowref04_Name (class_ : Int) : c_haymowref04_Name class_ = true → F_ Try.prog L_class_Name Try.f31 [] [] 99 [AV.val (Value.int IntKind.i64 class_)] noMem = some (.ret (s_haymowref04_Name class_) { bl := [], nx := 99 } true) := by
  have h : F_ Try.prog L_class_Name Try.f31 [] [] 99 [AV.val (Value.int IntKind.i64 class_)] noMem = bif !haymowref04_Bounds_2 class_ then some (Fin_.ret (AV.val (Value.string { data := { toList := [] } })) { bl := [], nx := 99 } (bif c_haymowref04_Bounds class_ then true else false)) else bif haymowref04_Bounds_0 class_ == haymowref04_Bounds_1 class_ then some (Fin_.ret (AV.val (Value.string (haymowref03_Text_0 (haymowref04_Bounds_0 class_)))) { bl := [], nx := 99 } (bif c_haymowref04_Bounds class_ then bif c_haymowref03_Text (haymowref04_Bounds_0 class_) then true else false else false)) else some (Fin_.ret (AV.val (Value.string (catB (catB (haymowref03_Text_0 (haymowref04_Bounds_0 class_)) { data := { toList := [45] } }) (haymowref03_Text_0 (haymowref04_Bounds_1 class_))))) { bl := [], nx := 99 } (bif c_haymowref04_Bounds class_ then bif c_haymowref03_Text (haymowref04_Bounds_0 class_) then bif (lenB (haymowref03_Text_0 (haymowref04_Bounds_0 class_)) + 1).ble 9223372036854775807 then bif c_haymowref03_Text (haymowref04_Bounds_1 class_) then bif (lenB (catB (haymowref03_Text_0 (haymowref04_Bounds_0 class_)) { data := { toList := [45] } }) + lenB (haymowref03_Text_0 (haymowref04_Bounds_1 class_))).ble 9223372036854775807 then true else false else false else false else false else false)) := by kernel_rfl
  rw [h]
  clear h
  unfold s_haymowref04_Name haymowref04_Name_0 c_haymowref04_Name
  generalize ((lenB (catB (haymowref03_Text_0 (haymowref04_Bounds_0 class_)) { data := { toList := [45] } }) + lenB (haymowref03_Text_0 (haymowref04_Bounds_1 class_))).ble 9223372036854775807) = b0_
  generalize ((lenB (haymowref03_Text_0 (haymowref04_Bounds_0 class_)) + 1).ble 9223372036854775807) = b1_
  generalize (haymowref04_Bounds_0 class_ == haymowref04_Bounds_1 class_) = b2_
  generalize (c_haymowref03_Text (haymowref04_Bounds_0 class_)) = b3_
  generalize (c_haymowref03_Text (haymowref04_Bounds_1 class_)) = b4_
  generalize (haymowref04_Bounds_2 class_) = b5_
  generalize (c_haymowref04_Bounds class_) = b6_
  cases b0_ <;> cases b1_ <;> cases b2_ <;> cases b3_ <;> cases b4_ <;> cases b5_ <;> cases b6_ <;> (first | rfl | (intro h_; cases h_; done) | (intro _; rfl))
def e_haymowref04_Name : Spec := fun _ args => match args with
  | [.val (.int .i64 class_)] => some (s_haymowref04_Name class_, none, [c_haymowref04_Name class_])
  | _ => none
theorem ok_haymowref04_Name : SpecOk Try.prog 31 e_haymowref04_Name := fun m args v mo bs h hb => by
  unfold e_haymowref04_Name at h
  split at h
  · cases h
    exact pure_fn (c := bodyOf Try.f31) hE_class_Name mixed (fun xs w => Try.call31 xs w) Try.func31 rfl (t_haymowref04_Name _ (by simpa using hb)) rfl rfl
  · cases h
def L_haymowref04_Name : List (FuncId × Spec) := (31, e_haymowref04_Name) :: L_class_Name
theorem hE_haymowref04_Name : ESound Try.prog (envOf L_haymowref04_Name) := env_cons ok_haymowref04_Name hE_class_Name
def s_haymowlaw04_awake : AV := AV.val (Value.bool true)
theorem t_haymowlaw04_awake : F_ Try.prog L_haymowref04_Name Try.f25 [] [] 99 [] noMem = some (.ret (s_haymowlaw04_awake) { bl := [], nx := 99 } true) := by kernel_rfl
def e_haymowlaw04_awake : Spec := fun _ args => match args with
  | [] => some (s_haymowlaw04_awake , none, [])
  | _ => none
theorem ok_haymowlaw04_awake : SpecOk Try.prog 25 e_haymowlaw04_awake := fun m args v mo bs h hb => by
  unfold e_haymowlaw04_awake at h
  split at h
  · cases h
    exact pure_fn (c := bodyOf Try.f25) hE_haymowref04_Name mixed (fun xs w => Try.call25 xs w) Try.func25 rfl (t_haymowlaw04_awake) rfl rfl
  · cases h
def L_haymowlaw04_awake : List (FuncId × Spec) := (25, e_haymowlaw04_awake) :: L_haymowref04_Name
theorem hE_haymowlaw04_awake : ESound Try.prog (envOf L_haymowlaw04_awake) := env_cons ok_haymowlaw04_awake hE_haymowref04_Name
def haymowlaw04_ClassSizes_0 (words_ : Int) (c_ : Int) : Bool := bif bif bif bif class_Of_0 words_ == haymowref04_Of_0 words_ then class_Bounds_0 c_ == haymowref04_Bounds_0 c_ else false then class_Bounds_1 c_ == haymowref04_Bounds_1 c_ else false then class_Bounds_2 c_ == haymowref04_Bounds_2 c_ else false then (class_Name_0 c_).toList == (haymowref04_Name_0 c_).toList else false
def s_haymowlaw04_ClassSizes (words_ : Int) (c_ : Int) : AV := AV.val (Value.bool (haymowlaw04_ClassSizes_0 words_ c_))
def c_haymowlaw04_ClassSizes (words_ : Int) (c_ : Int) : Bool := bif c_class_Bounds c_ then bif c_haymowref04_Bounds c_ then bif c_class_Of words_ then bif (!bif bif bif class_Of_0 words_ == haymowref04_Of_0 words_ then class_Bounds_0 c_ == haymowref04_Bounds_0 c_ else false then class_Bounds_1 c_ == haymowref04_Bounds_1 c_ else false then class_Bounds_2 c_ == haymowref04_Bounds_2 c_ else false) || c_class_Name c_ then bif (!bif bif bif class_Of_0 words_ == haymowref04_Of_0 words_ then class_Bounds_0 c_ == haymowref04_Bounds_0 c_ else false then class_Bounds_1 c_ == haymowref04_Bounds_1 c_ else false then class_Bounds_2 c_ == haymowref04_Bounds_2 c_ else false) || c_haymowref04_Name c_ then true else false else false else false else false else false
theorem t_haymowlaw04_ClassSizes (words_ : Int) (c_ : Int) : c_haymowlaw04_ClassSizes words_ c_ = true → F_ Try.prog L_haymowlaw04_awake Try.f6 [] [] 99 [AV.val (Value.int IntKind.i64 words_), AV.val (Value.int IntKind.i64 c_)] noMem = some (.ret (s_haymowlaw04_ClassSizes words_ c_) { bl := [], nx := 99 } true) := by
  have h : F_ Try.prog L_haymowlaw04_awake Try.f6 [] [] 99 [AV.val (Value.int IntKind.i64 words_), AV.val (Value.int IntKind.i64 c_)] noMem = some (Fin_.ret (AV.val (Value.bool (bif bif bif bif class_Of_0 words_ == haymowref04_Of_0 words_ then class_Bounds_0 c_ == haymowref04_Bounds_0 c_ else false then class_Bounds_1 c_ == haymowref04_Bounds_1 c_ else false then class_Bounds_2 c_ == haymowref04_Bounds_2 c_ else false then (class_Name_0 c_).toList == (haymowref04_Name_0 c_).toList else false))) { bl := [], nx := 99 } (bif c_class_Bounds c_ then bif c_haymowref04_Bounds c_ then bif c_class_Of words_ then bif (!bif bif bif class_Of_0 words_ == haymowref04_Of_0 words_ then class_Bounds_0 c_ == haymowref04_Bounds_0 c_ else false then class_Bounds_1 c_ == haymowref04_Bounds_1 c_ else false then class_Bounds_2 c_ == haymowref04_Bounds_2 c_ else false) || c_class_Name c_ then bif (!bif bif bif class_Of_0 words_ == haymowref04_Of_0 words_ then class_Bounds_0 c_ == haymowref04_Bounds_0 c_ else false then class_Bounds_1 c_ == haymowref04_Bounds_1 c_ else false then class_Bounds_2 c_ == haymowref04_Bounds_2 c_ else false) || c_haymowref04_Name c_ then true else false else false else false else false else false)) := by kernel_rfl
  rw [h]
  clear h
  unfold s_haymowlaw04_ClassSizes haymowlaw04_ClassSizes_0 c_haymowlaw04_ClassSizes
  generalize ((class_Name_0 c_).toList == (haymowref04_Name_0 c_).toList) = b0_
  generalize (class_Bounds_1 c_ == haymowref04_Bounds_1 c_) = b1_
  generalize (class_Bounds_0 c_ == haymowref04_Bounds_0 c_) = b2_
  generalize (class_Bounds_2 c_ == haymowref04_Bounds_2 c_) = b3_
  generalize (class_Of_0 words_ == haymowref04_Of_0 words_) = b4_
  generalize (c_haymowref04_Name c_) = b5_
  generalize (haymowref04_Bounds_2 c_) = b6_
  generalize (class_Bounds_2 c_) = b7_
  generalize (c_class_Bounds c_) = b8_
  generalize (c_haymowref04_Bounds c_) = b9_
  generalize (c_class_Of words_) = b10_
  generalize (c_class_Name c_) = b11_
  cases b0_ <;> cases b1_ <;> cases b2_ <;> cases b3_ <;> cases b4_ <;> cases b5_ <;> cases b6_ <;> cases b7_ <;> cases b8_ <;> cases b9_ <;> cases b10_ <;> cases b11_ <;> (first | rfl | (intro h_; cases h_; done) | (intro _; rfl))
def e_haymowlaw04_ClassSizes : Spec := fun _ args => match args with
  | [.val (.int .i64 words_), .val (.int .i64 c_)] => some (s_haymowlaw04_ClassSizes words_ c_, none, [c_haymowlaw04_ClassSizes words_ c_])
  | _ => none
theorem ok_haymowlaw04_ClassSizes : SpecOk Try.prog 6 e_haymowlaw04_ClassSizes := fun m args v mo bs h hb => by
  unfold e_haymowlaw04_ClassSizes at h
  split at h
  · cases h
    exact pure_fn (c := bodyOf Try.f6) hE_haymowlaw04_awake mixed (fun xs w => Try.call6 xs w) Try.func6 rfl (t_haymowlaw04_ClassSizes _ _ (by simpa using hb)) rfl rfl
  · cases h
def L_haymowlaw04_ClassSizes : List (FuncId × Spec) := (6, e_haymowlaw04_ClassSizes) :: L_haymowlaw04_awake
theorem hE_haymowlaw04_ClassSizes : ESound Try.prog (envOf L_haymowlaw04_ClassSizes) := env_cons ok_haymowlaw04_ClassSizes hE_haymowlaw04_awake
end Go.Proofs.Ytnkpegdmbocgaaa
