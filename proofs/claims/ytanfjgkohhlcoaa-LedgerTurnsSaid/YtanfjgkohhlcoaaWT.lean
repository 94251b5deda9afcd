/-
  The page's example: one number's text.
-/
import Derived.Test.YtanfjgkohhlcoaaWL
import Derived.Test.YtanfjgkohhlcoaaExF
namespace Go.Proofs.Ytanfjgkohhlcoaa
open Go Go.RowKit
def e_len1 : Spec := fun _ args => match args with
  | [.val (.int .u64 10000000000000000000)] => some (vi 64, none, [])
  | _ => none
theorem ok_len1 : SpecOk Try.prog 87 e_len1 := fun m args v mo bs h hb => by
  unfold e_len1 at h
  split at h
  · cases h
    have t : F_ Try.prog [] Try.f87 [] [] 99 [vu 10000000000000000000] noMem = some (.ret (vi 64) ⟨[], 99⟩ true) := by kernel_rfl
    exact pure_fn (c := bodyOf Try.f87) env_nil mixed (fun xs w => Try.call87 xs w) Try.func87 rfl t rfl rfl
  · cases h
def L_l1 : List (FuncId × Spec) := [(87, e_len1)]
theorem hE_l1 : ESound Try.prog (envOf L_l1) := env_cons ok_len1 env_nil
def e_lz1 : Spec := fun _ args => match args with
  | [.val (.int .u64 10000000000000000000)] => some (vi 0, none, [])
  | _ => none
theorem ok_lz1 : SpecOk Try.prog 85 e_lz1 := fun m args v mo bs h hb => by
  unfold e_lz1 at h
  split at h
  · cases h
    have t : F_ Try.prog L_l1 Try.f85 [] [] 99 [vu 10000000000000000000] noMem = some (.ret (vi 0) ⟨[], 99⟩ true) := by kernel_rfl
    exact pure_fn (c := bodyOf Try.f85) hE_l1 mixed (fun xs w => Try.call85 xs w) Try.func85 rfl t rfl rfl
  · cases h
def L_z1 : List (FuncId × Spec) := (85, e_lz1) :: L_l1
theorem hE_z1 : ESound Try.prog (envOf L_z1) := env_cons ok_lz1 hE_l1
def e_dv1 : Spec := fun _ args => match args with
  | [.val (.int .u64 1), .val (.int .u64 0), .val (.int .u64 10000000000000000000)] => some (.tup [vu 1, vu 8446744073709551616], none, [])
  | [.val (.int .u64 0), .val (.int .u64 1), .val (.int .u64 10000000000000000000)] => some (.tup [vu 0, vu 1], none, [])
  | _ => none
theorem ok_dv1 : SpecOk Try.prog 73 e_dv1 := fun m args v mo bs h hb => by
  unfold e_dv1 at h
  split at h
  · cases h
    have t : F_ Try.prog L_z1 Try.f73 [] [] 99 [vu 1, vu 0, vu 10000000000000000000] noMem = some (.ret (.tup [vu 1, vu 8446744073709551616]) ⟨[], 99⟩ true) := by kernel_rfl
    exact pure_fn (c := bodyOf Try.f73) hE_z1 mixed (fun xs w => Try.call73 xs w) Try.func73 rfl t rfl rfl
  · cases h
    have t : F_ Try.prog L_z1 Try.f73 [] [] 99 [vu 0, vu 1, vu 10000000000000000000] noMem = some (.ret (.tup [vu 0, vu 1]) ⟨[], 99⟩ true) := by kernel_rfl
    exact pure_fn (c := bodyOf Try.f73) hE_z1 mixed (fun xs w => Try.call73 xs w) Try.func73 rfl t rfl rfl
  · cases h
def L_d1 : List (FuncId × Spec) := [(73, e_dv1)]
theorem hE_d1 : ESound Try.prog (envOf L_d1) := env_cons ok_dv1 env_nil
def e_wd1 : Spec := fun _ args => match args with
  | [.agg [.val (.int .u64 1), .val (.int .u64 0)], .val (.int .u64 10000000000000000000)] => some (.tup [.agg [vu 0, vu 1], vu 8446744073709551616, vi 0], none, [])
  | [.agg [.val (.int .u64 0), .val (.int .u64 1)], .val (.int .u64 10000000000000000000)] => some (.tup [.agg [vu 0, vu 0], vu 1, vi 0], none, [])
  | _ => none
theorem ok_wd1 : SpecOk Try.prog 18 e_wd1 := fun m args v mo bs h hb => by
  unfold e_wd1 at h
  split at h
  · cases h
    have t : F_ Try.prog L_d1 Try.f18 [] [] 99 [.agg [vu 1, vu 0], vu 10000000000000000000] noMem = some (.ret (.tup [.agg [vu 0, vu 1], vu 8446744073709551616, vi 0]) ⟨[], 99⟩ true) := by kernel_rfl
    exact pure_fn (c := bodyOf Try.f18) hE_d1 mixed (fun xs w => Try.call18 xs w) Try.func18 rfl t rfl rfl
  · cases h
    have t : F_ Try.prog L_d1 Try.f18 [] [] 99 [.agg [vu 0, vu 1], vu 10000000000000000000] noMem = some (.ret (.tup [.agg [vu 0, vu 0], vu 1, vi 0]) ⟨[], 99⟩ true) := by kernel_rfl
    exact pure_fn (c := bodyOf Try.f18) hE_d1 mixed (fun xs w => Try.call18 xs w) Try.func18 rfl t rfl rfl
  · cases h
def L_w1 : List (FuncId × Spec) := [(18, e_wd1)]
theorem hE_w1 : ESound Try.prog (envOf L_w1) := env_cons ok_wd1 env_nil
def txt1 : ByteArray := ⟨#[49, 56, 52, 52, 54, 55, 52, 52, 48, 55, 51, 55, 48, 57, 53, 53, 49, 54, 49, 54]⟩
def e_wt1 : Spec := fun _ args => match args with
  | [.agg [.val (.int .u64 1), .val (.int .u64 0)]] => some (vs txt1, none, [])
  | _ => none
theorem ok_wt1 : SpecOk Try.prog 22 e_wt1 := fun m args v mo bs h hb => by
  unfold e_wt1 at h
  split at h
  · cases h
    have t : F_ Try.prog L_w1 Try.f22 [] [] 9999 [.agg [vu 1, vu 0]] noMem = some (.ret (vs txt1) ⟨[], 9999⟩ true) := by kernel_rfl
    exact lift_ground (fsound (c := bodyOf Try.f22) (fun xs w => Try.call22 xs w) Try.func22 rfl (F_ret hE_w1 mixed rfl rfl t)) rfl rfl
  · cases h
def L_aw : List (FuncId × Spec) := (22, e_wt1) :: L_haymowref01_Mul
theorem hE_aw : ESound Try.prog (envOf L_aw) := env_cons ok_wt1 hE_haymowref01_Mul
end Go.Proofs.Ytanfjgkohhlcoaa
