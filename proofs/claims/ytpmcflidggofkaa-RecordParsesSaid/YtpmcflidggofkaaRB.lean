/-
  What functions hand back, reckoned from their text.
-/
import Derived.Test.YtpmcflidggofkaaProg
import Derived.Test.YtpmcflidggofkaaDA
namespace Go.Proofs.Ytpmcflidggofkaa
open Go Go.RowKit
def s_record_forms : AV := AV.agg [AV.val (Value.string { data := { toList := [97, 108, 108, 111, 99] } }), AV.val (Value.int IntKind.i64 4), AV.val (Value.string { data := { toList := [103, 108, 111, 98, 97, 108] } }), AV.val (Value.int IntKind.i64 0), AV.val (Value.string { data := { toList := [114, 101, 108, 101, 97, 115, 101] } }), AV.val (Value.int IntKind.i64 1), AV.val (Value.string { data := { toList := [112, 117, 115, 104] } }), AV.val (Value.int IntKind.i64 1), AV.val (Value.string { data := { toList := [112, 111, 112] } }), AV.val (Value.int IntKind.i64 0), AV.val (Value.string { data := { toList := [119, 101, 97, 107] } }), AV.val (Value.int IntKind.i64 1), AV.val (Value.string { data := { toList := [117, 110, 119, 101, 97, 107] } }), AV.val (Value.int IntKind.i64 1), AV.val (Value.string { data := { toList := [100, 101, 114, 101, 102] } }), AV.val (Value.int IntKind.i64 2), AV.val (Value.string { data := { toList := [99, 111, 112, 121] } }), AV.val (Value.int IntKind.i64 2), AV.val (Value.string { data := { toList := [110, 117, 108, 108] } }), AV.val (Value.int IntKind.i64 1), AV.val (Value.string { data := { toList := [108, 111, 97, 100] } }), AV.val (Value.int IntKind.i64 3), AV.val (Value.string { data := { toList := [115, 116, 111, 114, 101] } }), AV.val (Value.int IntKind.i64 3), AV.val (Value.string { data := { toList := [103, 101, 116] } }), AV.val (Value.int IntKind.i64 2), AV.val (Value.string { data := { toList := [115, 101, 116] } }), AV.val (Value.int IntKind.i64 3), AV.val (Value.string { data := { toList := [115, 97, 109, 101] } }), AV.val (Value.int IntKind.i64 2), AV.val (Value.string { data := { toList := [115, 105, 122, 101] } }), AV.val (Value.int IntKind.i64 1), AV.val (Value.string { data := { toList := [97, 103, 101] } }), AV.val (Value.int IntKind.i64 1), AV.val (Value.string { data := { toList := [99, 111, 108, 108, 101, 99, 116] } }), AV.val (Value.int IntKind.i64 0), AV.val (Value.string { data := { toList := [115, 116, 97, 116, 115] } }), AV.val (Value.int IntKind.i64 0), AV.val (Value.string { data := { toList := [99, 101, 110, 115, 117, 115] } }), AV.val (Value.int IntKind.i64 0), AV.val (Value.string { data := { toList := [112, 114, 111, 102, 105, 108, 101] } }), AV.val (Value.int IntKind.i64 0)]
theorem t_record_forms : F_ Try.prog L_strings_TrimPrefix Try.f35 [mrgC] [] 99 [] noMem = some (.ret (s_record_forms) { bl := [], nx := 99 } true) := by kernel_rfl
def e_record_forms : Spec := fun _ args => match args with
  | [] => some (s_record_forms , none, [])
  | _ => none
theorem ok_record_forms : SpecOk Try.prog 35 e_record_forms := fun m args v mo bs h hb => by
  unfold e_record_forms at h
  split at h
  · cases h
    exact pure_fn (c := bodyOf Try.f35) hE_strings_TrimPrefix mixed (fun xs w => Try.call35 xs w) Try.func35 rfl (t_record_forms) rfl rfl
  · cases h
def L_record_forms : List (FuncId × Spec) := (35, e_record_forms) :: L_strings_TrimPrefix
theorem hE_record_forms : ESound Try.prog (envOf L_record_forms) := env_cons ok_record_forms hE_strings_TrimPrefix
def record_Is_0 (k_ : Int) : Bool := bif decide (0 ≤ k_) then decide (k_ < 21) else false
def s_record_Is (k_ : Int) : AV := AV.val (Value.bool (record_Is_0 k_))
theorem t_record_Is (k_ : Int) : F_ Try.prog L_record_forms Try.f28 [mrgC] [] 99 [AV.val (Value.int IntKind.i64 k_)] noMem = some (.ret (s_record_Is k_) { bl := [], nx := 99 } true) := by kernel_rfl
def e_record_Is : Spec := fun _ args => match args with
  | [.val (.int .i64 k_)] => some (s_record_Is k_, none, [])
  | _ => none
theorem ok_record_Is : SpecOk Try.prog 28 e_record_Is := fun m args v mo bs h hb => by
  unfold e_record_Is at h
  split at h
  · cases h
    exact pure_fn (c := bodyOf Try.f28) hE_record_forms mixed (fun xs w => Try.call28 xs w) Try.func28 rfl (t_record_Is _) rfl rfl
  · cases h
def L_record_Is : List (FuncId × Spec) := (28, e_record_Is) :: L_record_forms
theorem hE_record_Is : ESound Try.prog (envOf L_record_Is) := env_cons ok_record_Is hE_record_forms
def record_Named_0 (word_ : ByteArray) : Int := bif [97, 108, 108, 111, 99] == word_.toList then 0 else bif [103, 108, 111, 98, 97, 108] == word_.toList then 1 else bif [114, 101, 108, 101, 97, 115, 101] == word_.toList then 2 else bif [112, 117, 115, 104] == word_.toList then 3 else bif [112, 111, 112] == word_.toList then 4 else bif [119, 101, 97, 107] == word_.toList then 5 else bif [117, 110, 119, 101, 97, 107] == word_.toList then 6 else bif [100, 101, 114, 101, 102] == word_.toList then 7 else bif [99, 111, 112, 121] == word_.toList then 8 else bif [110, 117, 108, 108] == word_.toList then 9 else bif [108, 111, 97, 100] == word_.toList then 10 else bif [115, 116, 111, 114, 101] == word_.toList then 11 else bif [103, 101, 116] == word_.toList then 12 else bif [115, 101, 116] == word_.toList then 13 else bif [115, 97, 109, 101] == word_.toList then 14 else bif [115, 105, 122, 101] == word_.toList then 15 else bif [97, 103, 101] == word_.toList then 16 else bif [99, 111, 108, 108, 101, 99, 116] == word_.toList then 17 else bif [115, 116, 97, 116, 115] == word_.toList then 18 else bif [99, 101, 110, 115, 117, 115] == word_.toList then 19 else bif [112, 114, 111, 102, 105, 108, 101] == word_.toList then 20 else 0
def record_Named_1 (word_ : ByteArray) : Bool := bif [97, 108, 108, 111, 99] == word_.toList then true else bif [103, 108, 111, 98, 97, 108] == word_.toList then true else bif [114, 101, 108, 101, 97, 115, 101] == word_.toList then true else bif [112, 117, 115, 104] == word_.toList then true else bif [112, 111, 112] == word_.toList then true else bif [119, 101, 97, 107] == word_.toList then true else bif [117, 110, 119, 101, 97, 107] == word_.toList then true else bif [100, 101, 114, 101, 102] == word_.toList then true else bif [99, 111, 112, 121] == word_.toList then true else bif [110, 117, 108, 108] == word_.toList then true else bif [108, 111, 97, 100] == word_.toList then true else bif [115, 116, 111, 114, 101] == word_.toList then true else bif [103, 101, 116] == word_.toList then true else bif [115, 101, 116] == word_.toList then true else bif [115, 97, 109, 101] == word_.toList then true else bif [115, 105, 122, 101] == word_.toList then true else bif [97, 103, 101] == word_.toList then true else bif [99, 111, 108, 108, 101, 99, 116] == word_.toList then true else bif [115, 116, 97, 116, 115] == word_.toList then true else bif [99, 101, 110, 115, 117, 115] == word_.toList then true else bif [112, 114, 111, 102, 105, 108, 101] == word_.toList then true else false
def s_record_Named (word_ : ByteArray) : AV := AV.tup [AV.val (Value.int IntKind.i64 (record_Named_0 word_)), AV.val (Value.bool (record_Named_1 word_))]
def c_record_Named (word_ : ByteArray) : Bool := true
theorem t_record_Named (word_ : ByteArray) : c_record_Named word_ = true → F_ Try.prog L_record_Is Try.f27 [mrgC] [] 99 [AV.val (Value.string word_)] noMem = some (.ret (s_record_Named word_) { bl := [], nx := 99 } true) := by
  have h : F_ Try.prog L_record_Is Try.f27 [mrgC] [] 99 [AV.val (Value.string word_)] noMem = bif [97, 108, 108, 111, 99] == word_.toList then some (Fin_.ret (AV.tup [AV.val (Value.int IntKind.i64 0), AV.val (Value.bool true)]) { bl := [], nx := 99 } true) else bif [103, 108, 111, 98, 97, 108] == word_.toList then some (Fin_.ret (AV.tup [AV.val (Value.int IntKind.i64 1), AV.val (Value.bool true)]) { bl := [], nx := 99 } true) else bif [114, 101, 108, 101, 97, 115, 101] == word_.toList then some (Fin_.ret (AV.tup [AV.val (Value.int IntKind.i64 2), AV.val (Value.bool true)]) { bl := [], nx := 99 } true) else bif [112, 117, 115, 104] == word_.toList then some (Fin_.ret (AV.tup [AV.val (Value.int IntKind.i64 3), AV.val (Value.bool true)]) { bl := [], nx := 99 } true) else bif [112, 111, 112] == word_.toList then some (Fin_.ret (AV.tup [AV.val (Value.int IntKind.i64 4), AV.val (Value.bool true)]) { bl := [], nx := 99 } true) else bif [119, 101, 97, 107] == word_.toList then some (Fin_.ret (AV.tup [AV.val (Value.int IntKind.i64 5), AV.val (Value.bool true)]) { bl := [], nx := 99 } true) else bif [117, 110, 119, 101, 97, 107] == word_.toList then some (Fin_.ret (AV.tup [AV.val (Value.int IntKind.i64 6), AV.val (Value.bool true)]) { bl := [], nx := 99 } true) else bif [100, 101, 114, 101, 102] == word_.toList then some (Fin_.ret (AV.tup [AV.val (Value.int IntKind.i64 7), AV.val (Value.bool true)]) { bl := [], nx := 99 } true) else bif [99, 111, 112, 121] == word_.toList then some (Fin_.ret (AV.tup [AV.val (Value.int IntKind.i64 8), AV.val (Value.bool true)]) { bl := [], nx := 99 } true) else bif [110, 117, 108, 108] == word_.toList then some (Fin_.ret (AV.tup [AV.val (Value.int IntKind.i64 9), AV.val (Value.bool true)]) { bl := [], nx := 99 } true) else bif [108, 111, 97, 100] == word_.toList then some (Fin_.ret (AV.tup [AV.val (Value.int IntKind.i64 10), AV.val (Value.bool true)]) { bl := [], nx := 99 } true) else bif [115, 116, 111, 114, 101] == word_.toList then some (Fin_.ret (AV.tup [AV.val (Value.int IntKind.i64 11), AV.val (Value.bool true)]) { bl := [], nx := 99 } true) else bif [103, 101, 116] == word_.toList then some (Fin_.ret (AV.tup [AV.val (Value.int IntKind.i64 12), AV.val (Value.bool true)]) { bl := [], nx := 99 } true) else bif [115, 101, 116] == word_.toList then some (Fin_.ret (AV.tup [AV.val (Value.int IntKind.i64 13), AV.val (Value.bool true)]) { bl := [], nx := 99 } true) else bif [115, 97, 109, 101] == word_.toList then some (Fin_.ret (AV.tup [AV.val (Value.int IntKind.i64 14), AV.val (Value.bool true)]) { bl := [], nx := 99 } true) else bif [115, 105, 122, 101] == word_.toList then some (Fin_.ret (AV.tup [AV.val (Value.int IntKind.i64 15), AV.val (Value.bool true)]) { bl := [], nx := 99 } true) else bif [97, 103, 101] == word_.toList then some (Fin_.ret (AV.tup [AV.val (Value.int IntKind.i64 16), AV.val (Value.bool true)]) { bl := [], nx := 99 } true) else bif [99, 111, 108, 108, 101, 99, 116] == word_.toList then some (Fin_.ret (AV.tup [AV.val (Value.int IntKind.i64 17), AV.val (Value.bool true)]) { bl := [], nx := 99 } true) else bif [115, 116, 97, 116, 115] == word_.toList then some (Fin_.ret (AV.tup [AV.val (Value.int IntKind.i64 18), AV.val (Value.bool true)]) { bl := [], nx := 99 } true) else bif [99, 101, 110, 115, 117, 115] == word_.toList then some (Fin_.ret (AV.tup [AV.val (Value.int IntKind.i64 19), AV.val (Value.bool true)]) { bl := [], nx := 99 } true) else bif [112, 114, 111, 102, 105, 108, 101] == word_.toList then some (Fin_.ret (AV.tup [AV.val (Value.int IntKind.i64 20), AV.val (Value.bool true)]) { bl := [], nx := 99 } true) else some (Fin_.ret (AV.tup [AV.val (Value.int IntKind.i64 0), AV.val (Value.bool false)]) { bl := [], nx := 99 } true) := by kernel_rfl
  rw [h]
  clear h
  unfold s_record_Named record_Named_0 record_Named_1 c_record_Named
  generalize ([114, 101, 108, 101, 97, 115, 101] == word_.toList) = b0_
  generalize ([112, 114, 111, 102, 105, 108, 101] == word_.toList) = b1_
  generalize ([99, 111, 108, 108, 101, 99, 116] == word_.toList) = b2_
  generalize ([117, 110, 119, 101, 97, 107] == word_.toList) = b3_
  generalize ([99, 101, 110, 115, 117, 115] == word_.toList) = b4_
  generalize ([103, 108, 111, 98, 97, 108] == word_.toList) = b5_
  generalize ([97, 108, 108, 111, 99] == word_.toList) = b6_
  generalize ([115, 116, 111, 114, 101] == word_.toList) = b7_
  generalize ([100, 101, 114, 101, 102] == word_.toList) = b8_
  generalize ([115, 116, 97, 116, 115] == word_.toList) = b9_
  generalize ([112, 117, 115, 104] == word_.toList) = b10_
  generalize ([108, 111, 97, 100] == word_.toList) = b11_
  generalize ([115, 105, 122, 101] == word_.toList) = b12_
  generalize ([99, 111, 112, 121] == word_.toList) = b13_
  generalize ([115, 97, 109, 101] == word_.toList) = b14_
  generalize ([110, 117, 108, 108] == word_.toList) = b15_
  generalize ([119, 101, 97, 107] == word_.toList) = b16_
  generalize ([103, 101, 116] == word_.toList) = b17_
  generalize ([112, 111, 112] == word_.toList) = b18_
  generalize ([115, 101, 116] == word_.toList) = b19_
  generalize ([97, 103, 101] == word_.toList) = b20_
  cases b6_
  ·
    cases b5_
    ·
      cases b0_
      ·
        cases b10_
        ·
          cases b18_
          ·
            cases b16_
            ·
              cases b3_
              ·
                cases b8_
                ·
                  cases b13_
                  ·
                    cases b15_
                    ·
                      cases b11_
                      ·
                        cases b7_
                        ·
                          cases b17_
                          ·
                            cases b19_
                            ·
                              cases b14_
                              ·
                                cases b12_
                                ·
                                  cases b20_
                                  ·
                                    cases b2_
                                    ·
                                      cases b9_
                                      ·
                                        cases b4_
                                        ·
                                          cases b1_
                                          ·
                                            first | rfl | (intro h_; cases h_; done) | (intro _; rfl) | (intro h_; simp only [cond_true, cond_false] at h_ ⊢; rw [h_])
                                          ·
                                            first | rfl | (intro h_; cases h_; done) | (intro _; rfl) | (intro h_; simp only [cond_true, cond_false] at h_ ⊢; rw [h_])
                                        ·
                                          first | rfl | (intro h_; cases h_; done) | (intro _; rfl) | (intro h_; simp only [cond_true, cond_false] at h_ ⊢; rw [h_])
                                      ·
                                        first | rfl | (intro h_; cases h_; done) | (intro _; rfl) | (intro h_; simp only [cond_true, cond_false] at h_ ⊢; rw [h_])
                                    ·
                                      first | rfl | (intro h_; cases h_; done) | (intro _; rfl) | (intro h_; simp only [cond_true, cond_false] at h_ ⊢; rw [h_])
                                  ·
                                    first | rfl | (intro h_; cases h_; done) | (intro _; rfl) | (intro h_; simp only [cond_true, cond_false] at h_ ⊢; rw [h_])
                                ·
                                  first | rfl | (intro h_; cases h_; done) | (intro _; rfl) | (intro h_; simp only [cond_true, cond_false] at h_ ⊢; rw [h_])
                              ·
                                first | rfl | (intro h_; cases h_; done) | (intro _; rfl) | (intro h_; simp only [cond_true, cond_false] at h_ ⊢; rw [h_])
                            ·
                              first | rfl | (intro h_; cases h_; done) | (intro _; rfl) | (intro h_; simp only [cond_true, cond_false] at h_ ⊢; rw [h_])
                          ·
                            first | rfl | (intro h_; cases h_; done) | (intro _; rfl) | (intro h_; simp only [cond_true, cond_false] at h_ ⊢; rw [h_])
                        ·
                          first | rfl | (intro h_; cases h_; done) | (intro _; rfl) | (intro h_; simp only [cond_true, cond_false] at h_ ⊢; rw [h_])
                      ·
                        first | rfl | (intro h_; cases h_; done) | (intro _; rfl) | (intro h_; simp only [cond_true, cond_false] at h_ ⊢; rw [h_])
                    ·
                      first | rfl | (intro h_; cases h_; done) | (intro _; rfl) | (intro h_; simp only [cond_true, cond_false] at h_ ⊢; rw [h_])
                  ·
                    first | rfl | (intro h_; cases h_; done) | (intro _; rfl) | (intro h_; simp only [cond_true, cond_false] at h_ ⊢; rw [h_])
                ·
                  first | rfl | (intro h_; cases h_; done) | (intro _; rfl) | (intro h_; simp only [cond_true, cond_false] at h_ ⊢; rw [h_])
              ·
                first | rfl | (intro h_; cases h_; done) | (intro _; rfl) | (intro h_; simp only [cond_true, cond_false] at h_ ⊢; rw [h_])
            ·
              first | rfl | (intro h_; cases h_; done) | (intro _; rfl) | (intro h_; simp only [cond_true, cond_false] at h_ ⊢; rw [h_])
          ·
            first | rfl | (intro h_; cases h_; done) | (intro _; rfl) | (intro h_; simp only [cond_true, cond_false] at h_ ⊢; rw [h_])
        ·
          first | rfl | (intro h_; cases h_; done) | (intro _; rfl) | (intro h_; simp only [cond_true, cond_false] at h_ ⊢; rw [h_])
      ·
        first | rfl | (intro h_; cases h_; done) | (intro _; rfl) | (intro h_; simp only [cond_true, cond_false] at h_ ⊢; rw [h_])
    ·
      first | rfl | (intro h_; cases h_; done) | (intro _; rfl) | (intro h_; simp only [cond_true, cond_false] at h_ ⊢; rw [h_])
  ·
    first | rfl | (intro h_; cases h_; done) | (intro _; rfl) | (intro h_; simp only [cond_true, cond_false] at h_ ⊢; rw [h_])
def e_record_Named : Spec := fun _ args => match args with
  | [.val (.string word_)] => some (s_record_Named word_, none, [c_record_Named word_])
  | _ => none
theorem ok_record_Named : SpecOk Try.prog 27 e_record_Named := fun m args v mo bs h hb => by
  unfold e_record_Named at h
  split at h
  · cases h
    exact pure_fn (c := bodyOf Try.f27) hE_record_Is mixed (fun xs w => Try.call27 xs w) Try.func27 rfl (t_record_Named _ (by simpa using hb)) rfl rfl
  · cases h
def L_record_Named : List (FuncId × Spec) := (27, e_record_Named) :: L_record_Is
theorem hE_record_Named : ESound Try.prog (envOf L_record_Named) := env_cons ok_record_Named hE_record_Is
def haymowref34_Arity_0 (k_ : Int) : Int := bif bif decide (k_ < 0) then true else decide (20 < k_) then -1 else [4, 0, 1, 1, 0, 1, 1, 2, 2, 1, 3, 3, 2, 3, 2, 1, 1, 0, 0, 0, 0].getD (addN 0 (mulN k_.toNat 1) + 0) 0
def s_haymowref34_Arity (k_ : Int) : AV := AV.val (Value.int IntKind.i64 (haymowref34_Arity_0 k_))
def c_haymowref34_Arity (k_ : Int) : Bool := bif bif decide (k_ < 0) then true else decide (20 < k_) then true else bif decide (0 ≤ k_) then bif decide (k_.toNat < 21) then bif decide (addN 0 (mulN k_.toNat 1) + 0 < 21) then true else false else false else false
theorem t_haymowref34_Arity (k_ : Int) : c_haymowref34_Arity k_ = true → F_ Try.prog L_record_Named Try.f25 [mrgC] [] 99 [AV.val (Value.int IntKind.i64 k_)] noMem = some (.ret (s_haymowref34_Arity k_) { bl := [], nx := 99 } true) := by
  have h : F_ Try.prog L_record_Named Try.f25 [mrgC] [] 99 [AV.val (Value.int IntKind.i64 k_)] noMem = bif bif decide (k_ < 0) then true else decide (20 < k_) then some (Fin_.ret (AV.val (Value.int IntKind.i64 (-1))) { bl := [], nx := 99 } true) else some (Fin_.ret (AV.val (Value.int IntKind.i64 ([4, 0, 1, 1, 0, 1, 1, 2, 2, 1, 3, 3, 2, 3, 2, 1, 1, 0, 0, 0, 0].getD (addN 0 (mulN k_.toNat 1) + 0) 0))) { bl := [], nx := 99 } (bif decide (0 ≤ k_) then bif decide (k_.toNat < 21) then bif decide (addN 0 (mulN k_.toNat 1) + 0 < 21) then true else false else false else false)) := by kernel_rfl
  rw [h]
  clear h
  unfold s_haymowref34_Arity haymowref34_Arity_0 c_haymowref34_Arity
  generalize (bif decide (k_ < 0) then true else decide (20 < k_)) = b0_
  cases b0_
  ·
    first | rfl | (intro h_; cases h_; done) | (intro _; rfl) | (intro h_; simp only [cond_true, cond_false] at h_ ⊢; rw [h_])
  ·
    first | rfl | (intro h_; cases h_; done) | (intro _; rfl) | (intro h_; simp only [cond_true, cond_false] at h_ ⊢; rw [h_])
def e_haymowref34_Arity : Spec := fun _ args => match args with
  | [.val (.int .i64 k_)] => some (s_haymowref34_Arity k_, none, [c_haymowref34_Arity k_])
  | _ => none
theorem ok_haymowref34_Arity : SpecOk Try.prog 25 e_haymowref34_Arity := fun m args v mo bs h hb => by
  unfold e_haymowref34_Arity at h
  split at h
  · cases h
    exact pure_fn (c := bodyOf Try.f25) hE_record_Named mixed (fun xs w => Try.call25 xs w) Try.func25 rfl (t_haymowref34_Arity _ (by simpa using hb)) rfl rfl
  · cases h
def L_haymowref34_Arity : List (FuncId × Spec) := (25, e_haymowref34_Arity) :: L_record_Named
theorem hE_haymowref34_Arity : ESound Try.prog (envOf L_haymowref34_Arity) := env_cons ok_haymowref34_Arity hE_record_Named
end Go.Proofs.Ytpmcflidggofkaa
