/-
  What functions hand back, reckoned from their text.
-/
import Derived.Test.YtnkpegdmbocgaaaProg
import Derived.Test.YtnkpegdmbocgaaaSB
import Derived.Test.YtnkpegdmbocgaaaLen
namespace Go.Proofs.Ytnkpegdmbocgaaa
open Go Go.RowKit
def class_Of_0 (words_ : Int) : Int := bif decide (words_ ≤ 1) then 0 else min (↑(Lib.bitLen (IntKind.u64.wrap (IntKind.i64.wrap (words_ - 1))).toNat)) 13
def s_class_Of (words_ : Int) : AV := AV.val (Value.int IntKind.i64 (class_Of_0 words_))
def c_class_Of (words_ : Int) : Bool := bif decide (words_ ≤ 1) then true else bif decide (0 ≤ IntKind.u64.wrap (IntKind.i64.wrap (words_ - 1))) then bif decide (IntKind.u64.wrap (IntKind.i64.wrap (words_ - 1)) ≤ 18446744073709551615) then true else false else false
theorem t_class_Of (words_ : Int) : c_class_Of words_ = true → F_ Try.prog L_len Try.f28 [] [] 99 [AV.val (Value.int IntKind.i64 words_)] noMem = some (.ret (s_class_Of words_) { bl := [], nx := 99 } true) := by
  have h : F_ Try.prog L_len Try.f28 [] [] 99 [AV.val (Value.int IntKind.i64 words_)] noMem = bif decide (words_ ≤ 1) then some (Fin_.ret (AV.val (Value.int IntKind.i64 0)) { bl := [], nx := 99 } true) else some (Fin_.ret (AV.val (Value.int IntKind.i64 (min (↑(Lib.bitLen (IntKind.u64.wrap (IntKind.i64.wrap (words_ - 1))).toNat)) 13))) { bl := [], nx := 99 } (bif decide (0 ≤ IntKind.u64.wrap (IntKind.i64.wrap (words_ - 1))) then bif decide (IntKind.u64.wrap (IntKind.i64.wrap (words_ - 1)) ≤ 18446744073709551615) then true else false else false)) := by kernel_rfl
  rw [h]
  clear h
  unfold s_class_Of class_Of_0 c_class_Of
  generalize (decide (IntKind.u64.wrap (IntKind.i64.wrap (words_ - 1)) ≤ 18446744073709551615)) = b0_
  generalize (decide (0 ≤ IntKind.u64.wrap (IntKind.i64.wrap (words_ - 1)))) = b1_
  generalize (decide (words_ ≤ 1)) = b2_
  cases b0_ <;> cases b1_ <;> cases b2_ <;> (first | rfl | (intro h_; cases h_; done) | (intro _; rfl))
def e_class_Of : Spec := fun _ args => match args with
  | [.val (.int .i64 words_)] => some (s_class_Of words_, none, [c_class_Of words_])
  | _ => none
theorem ok_class_Of : SpecOk Try.prog 28 e_class_Of := fun m args v mo bs h hb => by
  unfold e_class_Of at h
  split at h
  · cases h
    exact pure_fn (c := bodyOf Try.f28) hE_len mixed (fun xs w => Try.call28 xs w) Try.func28 rfl (t_class_Of _ (by simpa using hb)) rfl rfl
  · cases h
def L_class_Of : List (FuncId × Spec) := (28, e_class_Of) :: L_len
theorem hE_class_Of : ESound Try.prog (envOf L_class_Of) := env_cons ok_class_Of hE_len
def haymowref04_Of_0 (words_ : Int) : Int := bif decide (1 < words_) then bif decide (2 < words_) then bif decide (4 < words_) then bif decide (8 < words_) then bif decide (16 < words_) then bif decide (32 < words_) then bif decide (64 < words_) then bif decide (128 < words_) then bif decide (256 < words_) then bif decide (512 < words_) then bif decide (1024 < words_) then bif decide (2048 < words_) then bif decide (4096 < words_) then 13 else 12 else 11 else 10 else 9 else 8 else 7 else 6 else 5 else 4 else 3 else 2 else 1 else 0
def s_haymowref04_Of (words_ : Int) : AV := AV.val (Value.int IntKind.i64 (haymowref04_Of_0 words_))
theorem t_haymowref04_Of (words_ : Int) : F_ Try.prog L_class_Of Try.f29 [] [] 99 [AV.val (Value.int IntKind.i64 words_)] noMem = some (.ret (s_haymowref04_Of words_) { bl := [], nx := 99 } true) := by
  have h : F_ Try.prog L_class_Of Try.f29 [] [] 99 [AV.val (Value.int IntKind.i64 words_)] noMem = bif decide (1 < words_) then bif decide (2 < words_) then bif decide (4 < words_) then bif decide (8 < words_) then bif decide (16 < words_) then bif decide (32 < words_) then bif decide (64 < words_) then bif decide (128 < words_) then bif decide (256 < words_) then bif decide (512 < words_) then bif decide (1024 < words_) then bif decide (2048 < words_) then bif decide (4096 < words_) then some (Fin_.ret (AV.val (Value.int IntKind.i64 13)) { bl := [], nx := 99 } true) else some (Fin_.ret (AV.val (Value.int IntKind.i64 12)) { bl := [], nx := 99 } true) else some (Fin_.ret (AV.val (Value.int IntKind.i64 11)) { bl := [], nx := 99 } true) else some (Fin_.ret (AV.val (Value.int IntKind.i64 10)) { bl := [], nx := 99 } true) else some (Fin_.ret (AV.val (Value.int IntKind.i64 9)) { bl := [], nx := 99 } true) else some (Fin_.ret (AV.val (Value.int IntKind.i64 8)) { bl := [], nx := 99 } true) else some (Fin_.ret (AV.val (Value.int IntKind.i64 7)) { bl := [], nx := 99 } true) else some (Fin_.ret (AV.val (Value.int IntKind.i64 6)) { bl := [], nx := 99 } true) else some (Fin_.ret (AV.val (Value.int IntKind.i64 5)) { bl := [], nx := 99 } true) else some (Fin_.ret (AV.val (Value.int IntKind.i64 4)) { bl := [], nx := 99 } true) else some (Fin_.ret (AV.val (Value.int IntKind.i64 3)) { bl := [], nx := 99 } true) else some (Fin_.ret (AV.val (Value.int IntKind.i64 2)) { bl := [], nx := 99 } true) else some (Fin_.ret (AV.val (Value.int IntKind.i64 1)) { bl := [], nx := 99 } true) else some (Fin_.ret (AV.val (Value.int IntKind.i64 0)) { bl := [], nx := 99 } true) := by kernel_rfl
  rw [h]
  clear h
  unfold s_haymowref04_Of haymowref04_Of_0
  generalize (decide (4096 < words_)) = b0_
  generalize (decide (1 < words_)) = b1_
  generalize (decide (2 < words_)) = b2_
  generalize (decide (4 < words_)) = b3_
  generalize (decide (8 < words_)) = b4_
  generalize (decide (16 < words_)) = b5_
  generalize (decide (32 < words_)) = b6_
  generalize (decide (64 < words_)) = b7_
  generalize (decide (128 < words_)) = b8_
  generalize (decide (256 < words_)) = b9_
  generalize (decide (512 < words_)) = b10_
  generalize (decide (1024 < words_)) = b11_
  generalize (decide (2048 < words_)) = b12_
  cases b1_
  ·
    rfl
  ·
    cases b2_
    ·
      rfl
    ·
      cases b3_
      ·
        rfl
      ·
        cases b4_
        ·
          rfl
        ·
          cases b5_
          ·
            rfl
          ·
            cases b6_
            ·
              rfl
            ·
              cases b7_
              ·
                rfl
              ·
                cases b8_
                ·
                  rfl
                ·
                  cases b9_
                  ·
                    rfl
                  ·
                    cases b10_
                    ·
                      rfl
                    ·
                      cases b11_
                      ·
                        rfl
                      ·
                        cases b12_
                        ·
                          rfl
                        ·
                          cases b0_
                          ·
                            rfl
                          ·
                            rfl
def e_haymowref04_Of : Spec := fun _ args => match args with
  | [.val (.int .i64 words_)] => some (s_haymowref04_Of words_, none, [])
  | _ => none
theorem ok_haymowref04_Of : SpecOk Try.prog 29 e_haymowref04_Of := fun m args v mo bs h hb => by
  unfold e_haymowref04_Of at h
  split at h
  · cases h
    exact pure_fn (c := bodyOf Try.f29) hE_class_Of mixed (fun xs w => Try.call29 xs w) Try.func29 rfl (t_haymowref04_Of _) rfl rfl
  · cases h
def L_haymowref04_Of : List (FuncId × Spec) := (29, e_haymowref04_Of) :: L_class_Of
theorem hE_haymowref04_Of : ESound Try.prog (envOf L_haymowref04_Of) := env_cons ok_haymowref04_Of hE_class_Of
def class_Bounds_0 (class_ : Int) : Int := bif bif decide (class_ < 0) then true else decide (13 < class_) then 0 else bif class_ == 0 then 1 else IntKind.i64.wrap (IntKind.i64.wrap (1 * 2 ^ min (IntKind.i64.wrap (class_ - 1)).toNat 64) + 1)
def class_Bounds_1 (class_ : Int) : Int := bif bif decide (class_ < 0) then true else decide (13 < class_) then 0 else bif class_ == 0 then 1 else IntKind.i64.wrap (1 * 2 ^ min class_.toNat 64)
def class_Bounds_2 (class_ : Int) : Bool := bif bif decide (class_ < 0) then true else decide (13 < class_) then false else true
def s_class_Bounds (class_ : Int) : AV := AV.tup [AV.val (Value.int IntKind.i64 (class_Bounds_0 class_)), AV.val (Value.int IntKind.i64 (class_Bounds_1 class_)), AV.val (Value.bool (class_Bounds_2 class_))]
def c_class_Bounds (class_ : Int) : Bool := bif bif decide (class_ < 0) then true else decide (13 < class_) then true else bif class_ == 0 then true else bif decide (0 ≤ IntKind.i64.wrap (class_ - 1)) then bif decide (0 ≤ class_) then true else false else false
theorem t_class_Bounds (class_ : Int) : c_class_Bounds class_ = true → F_ Try.prog L_haymowref04_Of Try.f26 [] [] 99 [AV.val (Value.int IntKind.i64 class_)] noMem = some (.ret (s_class_Bounds class_) { bl := [], nx := 99 } true) := by
  have h : F_ Try.prog L_haymowref04_Of Try.f26 [] [] 99 [AV.val (Value.int IntKind.i64 class_)] noMem = bif bif decide (class_ < 0) then true else decide (13 < class_) then some (Fin_.ret (AV.tup [AV.val (Value.int IntKind.i64 0), AV.val (Value.int IntKind.i64 0), AV.val (Value.bool false)]) { bl := [], nx := 99 } true) else bif class_ == 0 then some (Fin_.ret (AV.tup [AV.val (Value.int IntKind.i64 1), AV.val (Value.int IntKind.i64 1), AV.val (Value.bool true)]) { bl := [], nx := 99 } true) else some (Fin_.ret (AV.tup [AV.val (Value.int IntKind.i64 (IntKind.i64.wrap (IntKind.i64.wrap (1 * 2 ^ min (IntKind.i64.wrap (class_ - 1)).toNat 64) + 1))), AV.val (Value.int IntKind.i64 (IntKind.i64.wrap (1 * 2 ^ min class_.toNat 64))), AV.val (Value.bool true)]) { bl := [], nx := 99 } (bif decide (0 ≤ IntKind.i64.wrap (class_ - 1)) then bif decide (0 ≤ class_) then true else false else false)) := by kernel_rfl
  rw [h]
  clear h
  unfold s_class_Bounds class_Bounds_0 class_Bounds_1 class_Bounds_2 c_class_Bounds
  generalize (decide (0 ≤ IntKind.i64.wrap (class_ - 1))) = b0_
  generalize (decide (13 < class_)) = b1_
  generalize (decide (0 ≤ class_)) = b2_
  generalize (decide (class_ < 0)) = b3_
  generalize (class_ == 0) = b4_
  cases b0_ <;> cases b1_ <;> cases b2_ <;> cases b3_ <;> cases b4_ <;> (first | rfl | (intro h_; cases h_; done) | (intro _; rfl))
def e_class_Bounds : Spec := fun _ args => match args with
  | [.val (.int .i64 class_)] => some (s_class_Bounds class_, none, [c_class_Bounds class_])
  | _ => none
theorem ok_class_Bounds : SpecOk Try.prog 26 e_class_Bounds := fun m args v mo bs h hb => by
  unfold e_class_Bounds at h
  split at h
  · cases h
    exact pure_fn (c := bodyOf Try.f26) hE_haymowref04_Of mixed (fun xs w => Try.call26 xs w) Try.func26 rfl (t_class_Bounds _ (by simpa using hb)) rfl rfl
  · cases h
def L_class_Bounds : List (FuncId × Spec) := (26, e_class_Bounds) :: L_haymowref04_Of
theorem hE_class_Bounds : ESound Try.prog (envOf L_class_Bounds) := env_cons ok_class_Bounds hE_haymowref04_Of
end Go.Proofs.Ytnkpegdmbocgaaa
