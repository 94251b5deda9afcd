/-
  The fields of a header: a new slice that always holds the same.
-/
import Derived.Test.YtnkpegdmbocgaaaFA
import Derived.Test.YtnkpegdmbocgaaaExG
namespace Go.Proofs.Ytnkpegdmbocgaaa
open Go Go.RowKit
def hdRows : Cont := .rows [.ints .i64 [0, 12, 24, 29, 32, 62], .ints .i64 [12, 12, 5, 3, 1, 1]]
theorem run_fields : F_ Try.prog L_header_Forwarded Try.f52 [] [12] 999 [] noMem = some (.ret (.sl true 12 2 0 1 6 none) ⟨[(12, some ⟨true, true, hdRows⟩)], 999⟩ true) := by kernel_rfl
def e_fields : Spec := fun m args => match args with
  | [] => some (.sl true m.nx 2 0 1 6 none, some (m.new ⟨true, true, hdRows⟩), [])
  | _ => none
theorem ok_fields : SpecOk Try.prog 52 e_fields := fun m args v mo bs h hb => by
  unfold e_fields at h
  split at h
  · cases h
    exact lift_fresh (fsound (c := bodyOf Try.f52) (fun xs w => Try.call52 xs w) Try.func52 rfl (F_ret hE_header_Forwarded mixed rfl rfl run_fields)) rfl rfl rfl
  · cases h
def L_fields : List (FuncId × Spec) := (52, e_fields) :: L_header_Forwarded
theorem hE_fields : ESound Try.prog (envOf L_fields) := env_cons ok_fields hE_header_Forwarded
end Go.Proofs.Ytnkpegdmbocgaaa
