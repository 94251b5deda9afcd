/-
  cost.sum, of two and of three.
-/
import Derived.Test.YtanfjgkohhlcoaaWD
namespace Go.Proofs.Ytanfjgkohhlcoaa
open Go Go.RowKit
def sum2_0 (a0 a1 b0 b1 : Int) : Int := wide_Add_0 (wide_Add_0 0 0 a0 a1) (wide_Add_1 0 0 a0 a1) b0 b1
def sum2_1 (a0 a1 b0 b1 : Int) : Int := wide_Add_1 (wide_Add_0 0 0 a0 a1) (wide_Add_1 0 0 a0 a1) b0 b1
def c_sum2 (a0 a1 b0 b1 : Int) : Bool := c_wide_Add 0 0 a0 a1 && c_wide_Add (wide_Add_0 0 0 a0 a1) (wide_Add_1 0 0 a0 a1) b0 b1
def sum3_0 (a0 a1 b0 b1 c0 c1 : Int) : Int := wide_Add_0 (sum2_0 a0 a1 b0 b1) (sum2_1 a0 a1 b0 b1) c0 c1
def sum3_1 (a0 a1 b0 b1 c0 c1 : Int) : Int := wide_Add_1 (sum2_0 a0 a1 b0 b1) (sum2_1 a0 a1 b0 b1) c0 c1
def c_sum3 (a0 a1 b0 b1 c0 c1 : Int) : Bool := c_sum2 a0 a1 b0 b1 && c_wide_Add (sum2_0 a0 a1 b0 b1) (sum2_1 a0 a1 b0 b1) c0 c1
theorem run_sum2 (a0 a1 b0 b1 : Int) (h : c_sum2 a0 a1 b0 b1 = true) : F_ Try.prog L_haymowref25_Held Try.f76 [] [] 99 [.sl true 0 1 0 2 2 (some 2)] ⟨[(0, some ⟨false, false, .cells [vu a0, vu a1, vu b0, vu b1]⟩)], 1⟩ =
    some (Fin_.ret (.agg [vu (sum2_0 a0 a1 b0 b1), vu (sum2_1 a0 a1 b0 b1)]) ⟨[], 99⟩ true) := by
  have e : F_ Try.prog L_haymowref25_Held Try.f76 [] [] 99 [.sl true 0 1 0 2 2 (some 2)] ⟨[(0, some ⟨false, false, .cells [vu a0, vu a1, vu b0, vu b1]⟩)], 1⟩ =
    some (Fin_.ret (.agg [vu (sum2_0 a0 a1 b0 b1), vu (sum2_1 a0 a1 b0 b1)]) ⟨[], 99⟩ (bif c_wide_Add 0 0 a0 a1 then bif c_wide_Add (wide_Add_0 0 0 a0 a1) (wide_Add_1 0 0 a0 a1) b0 b1 then true else false else false)) := by kernel_rfl
  rw [e]
  unfold c_sum2 at h
  rw [Bool.and_eq_true] at h
  rw [h.1, h.2]
  rfl
theorem run_sum3 (a0 a1 b0 b1 c0 c1 : Int) (h : c_sum3 a0 a1 b0 b1 c0 c1 = true) : F_ Try.prog L_haymowref25_Held Try.f76 [] [] 99 [.sl true 0 1 0 2 3 (some 3)] ⟨[(0, some ⟨false, false, .cells [vu a0, vu a1, vu b0, vu b1, vu c0, vu c1]⟩)], 1⟩ =
    some (Fin_.ret (.agg [vu (sum3_0 a0 a1 b0 b1 c0 c1), vu (sum3_1 a0 a1 b0 b1 c0 c1)]) ⟨[], 99⟩ true) := by
  have e : F_ Try.prog L_haymowref25_Held Try.f76 [] [] 99 [.sl true 0 1 0 2 3 (some 3)] ⟨[(0, some ⟨false, false, .cells [vu a0, vu a1, vu b0, vu b1, vu c0, vu c1]⟩)], 1⟩ =
    some (Fin_.ret (.agg [vu (sum3_0 a0 a1 b0 b1 c0 c1), vu (sum3_1 a0 a1 b0 b1 c0 c1)]) ⟨[], 99⟩ (bif c_wide_Add 0 0 a0 a1 then bif c_wide_Add (wide_Add_0 0 0 a0 a1) (wide_Add_1 0 0 a0 a1) b0 b1 then bif c_wide_Add (sum2_0 a0 a1 b0 b1) (sum2_1 a0 a1 b0 b1) c0 c1 then true else false else false else false)) := by kernel_rfl
  rw [e]
  unfold c_sum3 c_sum2 at h
  simp only [Bool.and_eq_true] at h
  rw [h.1.1, h.1.2, h.2]
  rfl
def e_csum : Spec := fun m args => match args with
  | [.sl true l 1 0 2 2 (some 2)] => match look m.bl l with
    | some ⟨_, _, .cells [.val (.int .u64 a0), .val (.int .u64 a1), .val (.int .u64 b0), .val (.int .u64 b1)]⟩ => some (.agg [vu (sum2_0 a0 a1 b0 b1), vu (sum2_1 a0 a1 b0 b1)], none, [c_sum2 a0 a1 b0 b1])
    | _ => none
  | [.sl true l 1 0 2 3 (some 3)] => match look m.bl l with
    | some ⟨_, _, .cells [.val (.int .u64 a0), .val (.int .u64 a1), .val (.int .u64 b0), .val (.int .u64 b1), .val (.int .u64 c0), .val (.int .u64 c1)]⟩ => some (.agg [vu (sum3_0 a0 a1 b0 b1 c0 c1), vu (sum3_1 a0 a1 b0 b1 c0 c1)], none, [c_sum3 a0 a1 b0 b1 c0 c1])
    | _ => none
  | _ => none
theorem ok_csum : SpecOk Try.prog 76 e_csum := fun m args v mo bs h hb => by
  unfold e_csum at h
  split at h
  · rename_i l
    split at h
    · rename_i wr op a0 a1 b0 b1 hl
      cases h
      simp only [List.all_cons, List.all_nil, id, Bool.and_true] at hb
      exact lift_one (ar := []) (br := []) hl rfl (fsound (c := bodyOf Try.f76) (fun xs w => Try.call76 xs w) Try.func76 rfl (F_ret hE_haymowref25_Held mixed rfl rfl (run_sum2 a0 a1 b0 b1 hb))) rfl rfl rfl rfl
    · cases h
  · rename_i l
    split at h
    · rename_i wr op a0 a1 b0 b1 c0 c1 hl
      cases h
      simp only [List.all_cons, List.all_nil, id, Bool.and_true] at hb
      exact lift_one (ar := []) (br := []) hl rfl (fsound (c := bodyOf Try.f76) (fun xs w => Try.call76 xs w) Try.func76 rfl (F_ret hE_haymowref25_Held mixed rfl rfl (run_sum3 a0 a1 b0 b1 c0 c1 hb))) rfl rfl rfl rfl
    · cases h
  · cases h
def L_csum : List (FuncId × Spec) := (76, e_csum) :: L_haymowref25_Held
theorem hE_csum : ESound Try.prog (envOf L_csum) := env_cons ok_csum hE_haymowref25_Held
end Go.Proofs.Ytanfjgkohhlcoaa
